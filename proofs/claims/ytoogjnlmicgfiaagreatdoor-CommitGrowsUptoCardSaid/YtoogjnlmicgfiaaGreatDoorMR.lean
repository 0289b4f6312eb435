/- Part MR of the proof: texts Wra Wrb Wrc Wrd Wre Wrf Wrg Wrh Wri Wta Wtb Wtc Wqz Wqzd Wtz. -/
import Derived.Test.YtoogjnlmicgfiaaGreatDoorMP
import Derived.Test.YtoogjnlmicgfiaaGreatDoorMQ
import Derived.Test.YtoogjnlmicgfiaaGreatDoorMT
namespace Go.Proofs.YtoogjnlmicgfiaaGreatDoor
set_option linter.unusedSimpArgs false
set_option linter.unusedVariables false
set_option linter.unusedSectionVars false
def ixP {α : Type} (p : α → Bool) : List α → Option Nat
  | [] => none
  | a :: r => if p a = true then some 0 else (ixP p r).map (· + 1)
section
variable {α : Type} {p : α → Bool}
theorem Qqo {l : List α} {k : Nat} (h : ixP p l = some k) : ∃ hk : k < l.length, p l[k] = true ∧ ∀ j (hj : j < k), p (l[j]'(by omega)) = false := by
  induction l generalizing k with
  | nil => cases h
  | cons a r ih =>
    unfold ixP at h
    split at h
    · cases h
      exact ⟨by simp, by simpa, fun j hj => by omega⟩
    · rename_i ha
      rw [Option.map_eq_some_iff] at h
      obtain ⟨m, hm, rfl⟩ := h
      obtain ⟨h1, h2, h3⟩ := ih hm
      refine ⟨by simp; omega, by simpa using h2, fun j hj => ?_⟩
      cases j with
      | zero => simpa using ha
      | succ j => simpa using h3 j (by omega)
theorem Qva {l : List α} (h : ixP p l = none) : ∀ a ∈ l, p a = false := by
  induction l with
  | nil => simp
  | cons a r ih =>
    unfold ixP at h
    split at h
    · cases h
    · rename_i ha
      rw [Option.map_eq_none_iff] at h
      intro b hb
      rcases List.mem_cons.1 hb with rfl | hb
      · simpa using ha
      · exact ih h b hb
def ixI (p : α → Bool) (l : List α) : Int := match ixP p l with
  | some k => k
  | none => -1
theorem QBs {l : List α} : 0 ≤ ixI p l ↔ ∃ a ∈ l, p a = true := by
  unfold ixI
  cases h : ixP p l with
  | some k =>
    obtain ⟨h1, h2, _⟩ := Qqo h
    exact ⟨fun _ => ⟨_, List.getElem_mem h1, h2⟩, fun _ => Int.natCast_nonneg k⟩
  | none => exact ⟨fun h' => by simp at h', fun ⟨a, ha, hp⟩ => by rw [Qva h a ha] at hp; cases hp⟩
theorem QyY {l : List α} : -1 ≤ ixI p l ∧ ixI p l < l.length := by
  unfold ixI
  cases h : ixP p l with
  | some k => have := (Qqo h).1; simp only; omega
  | none => simp only; omega
theorem QqN {l : List α} : geI (ixI p l) 0 = l.any p := by
  rw [Bool.eq_iff_iff, geI_t, QBs, List.any_eq_true]
end
section
variable {E : Type} {B : Int → Option (Int ⊕ E)}
/-- A loop over the indexes below n: it goes out at the first with p. -/
theorem QBe {n : Nat} (hn : n ≤ 1048576) (p : Nat → Bool) (Y : Nat → E) {N : E}
    (hin : ∀ i : Nat, i < n → B (i : Int) = some (if p i = true then .inr (Y i) else .inl ((i : Int) + 1))) (hend : B (n : Int) = some (.inr N)) :
    (∃ k, k < n ∧ p k = true ∧ (∀ j, j < k → p j = false) ∧ loopF B 0 = some (Y k)) ∨ ((∀ j, j < n → p j = false) ∧ loopF B 0 = some N) := by
  have main : post (loopF B 0) fun e => (∃ k, k < n ∧ p k = true ∧ (∀ j, j < k → p j = false) ∧ e = Y k) ∨ ((∀ j, j < n → p j = false) ∧ e = N) := by
    refine Qeh (fun i => ∃ k : Nat, i = (k : Int) ∧ k ≤ n ∧ ∀ j, j < k → p j = false) (fun i => n - i.toNat) ⟨0, rfl, Nat.zero_le _, fun j hj => by omega⟩ (by simp; omega) ?_
    rintro _ ⟨k, rfl, hk, hf⟩
    rcases Nat.lt_or_ge k n with h | h
    · rw [hin k h]
      split
      · rename_i hp
        exact Qdw (.inl ⟨k, h, hp, hf, rfl⟩)
      · rename_i hp
        refine Qgy ⟨⟨k + 1, by simp, by omega, fun j hj => ?_⟩, by simp; omega⟩
        rcases Nat.lt_or_eq_of_le (Nat.le_of_lt_succ hj) with hj | rfl
        · exact hf j hj
        · simpa using hp
    · obtain rfl : k = n := by omega
      rw [hend]
      exact Qdw (.inr ⟨hf, rfl⟩)
  obtain ⟨e, he, h⟩ := main
  rcases h with ⟨k, h1, h2, h3, rfl⟩ | ⟨h1, rfl⟩
  · exact .inl ⟨k, h1, h2, h3, he⟩
  · exact .inr ⟨h1, he⟩
theorem Qt2 {n : Nat} (hn : n ≤ 1048576) (p : Nat → Bool) {y N : E} {b : Bool} (hb : b = true ↔ ∃ k, k < n ∧ p k = true)
    (hin : ∀ i : Nat, i < n → B (i : Int) = some (if p i = true then .inr y else .inl ((i : Int) + 1))) (hend : B (n : Int) = some (.inr N)) :
    loopF B 0 = some (if b = true then y else N) := by
  rcases QBe hn p (fun _ => y) hin hend with ⟨k, h1, h2, _, h4⟩ | ⟨h1, h4⟩
  · rw [h4, if_pos (hb.2 ⟨k, h1, h2⟩)]
  · rw [h4, if_neg fun h => by obtain ⟨k, h5, h6⟩ := hb.1 h; rw [h1 k h5] at h6; cases h6]
/-- A loop over the rows of a list. -/
theorem Qg6 {α : Type} {l : List α} (hl : l.length ≤ 1048576) (p : α → Bool) {y N : E}
    (hin : ∀ (i : Nat) a, l[i]? = some a → B (i : Int) = some (if p a = true then .inr y else .inl ((i : Int) + 1))) (hend : B (l.length : Int) = some (.inr N)) :
    loopF B 0 = some (if l.any p = true then y else N) := by
  refine Qt2 hl (fun i => match l[i]? with | some a => p a | none => false) ?_ (fun i hi => ?_) hend
  · rw [List.any_eq_true]
    constructor
    · rintro ⟨a, ha, hp⟩
      obtain ⟨k, hk, rfl⟩ := List.getElem_of_mem ha
      exact ⟨k, hk, by rw [List.getElem?_eq_getElem hk]; exact hp⟩
    · rintro ⟨k, hk, hp⟩
      rw [List.getElem?_eq_getElem hk] at hp
      exact ⟨_, List.getElem_mem hk, hp⟩
  · rw [List.getElem?_eq_getElem hi]
    exact hin i _ (List.getElem?_eq_getElem hi)
theorem QsP {α : Type} {l : List α} (hl : l.length ≤ 1048576) (p : α → Bool) (Y : Nat → E) {N : E}
    (hin : ∀ (i : Nat) a, l[i]? = some a → B (i : Int) = some (if p a = true then .inr (Y i) else .inl ((i : Int) + 1))) (hend : B (l.length : Int) = some (.inr N)) :
    loopF B 0 = some (match ixP p l with | some k => Y k | none => N) := by
  have h := QBe (B := B) hl (fun i => match l[i]? with | some a => p a | none => false) Y (N := N) (fun i hi => by
    rw [List.getElem?_eq_getElem hi]; exact hin i _ (List.getElem?_eq_getElem hi)) hend
  have at_ : ∀ j (hj : j < l.length), (match l[j]? with | some a => p a | none => false) = p l[j] := fun j hj => by rw [List.getElem?_eq_getElem hj]
  rcases h with ⟨k, h1, h2, h3, h4⟩ | ⟨h1, h4⟩
  · cases hx : ixP p l with
    | none => rw [at_ k h1, Qva hx _ (List.getElem_mem h1)] at h2; cases h2
    | some m =>
      obtain ⟨g1, g2, g3⟩ := Qqo hx
      rcases Nat.lt_trichotomy k m with h | h | h
      · rw [at_ k h1, g3 k h] at h2; cases h2
      · rw [h4, h]
      · have := h3 m h; simp only [at_ m g1] at this; rw [g2] at this; cases this
  · cases hx : ixP p l with
    | none => rw [h4]
    | some m =>
      obtain ⟨g1, g2, g3⟩ := Qqo hx
      have := h1 m g1; simp only [at_ m g1] at this; rw [g2] at this; cases this
end
theorem wrapN {m : Nat} (h : m < 9223372036854775808) : IntKind.i64.wrap (m : Int) = m := IntWalk.i64_in _ ⟨by omega, by omega⟩
theorem cvuN {m : Nat} (h : m < 9223372036854775808) : cvK .u64 (m : Int) = m := by
  unfold cvK
  simp only [IntKind.wrap, IntKind.bits, IntKind.signed]
  simp
  omega
theorem shrN {m i : Nat} (hi : i ≤ 64) : shrK .i64 (m : Int) (i : Int) = ((m / 2 ^ i : Nat) : Int) := by
  unfold shrK
  rw [show min (i : Int).toNat IntKind.i64.bits = i by simp [IntKind.bits]; omega, show (2 : Int) ^ i = ((2 ^ i : Nat) : Int) by simp, Int.fdiv_eq_ediv_of_nonneg _ (Int.natCast_nonneg _)]
  rfl
theorem shlN {i : Nat} (hi : i ≤ 62) : shlK .i64 1 (i : Int) = ((2 ^ i : Nat) : Int) := by
  have h2 : 2 ^ i ≤ 2 ^ 62 := Nat.pow_le_pow_right (by omega) hi
  unfold shlK
  rw [show min (i : Int).toNat IntKind.i64.bits = i by simp [IntKind.bits]; omega, Int.one_mul, show (2 : Int) ^ i = ((2 ^ i : Nat) : Int) by simp]
  exact wrapN (by omega)
theorem orN {a b : Nat} (ha : a < 9223372036854775808) (hb : b < 9223372036854775808) : orK .i64 (a : Int) (b : Int) = ((a ||| b : Nat) : Int) := by
  unfold orK
  have h := Nat.or_lt_two_pow (n := 63) ha hb
  have e : (BitVec.ofInt IntKind.i64.bits (a : Int) ||| BitVec.ofInt IntKind.i64.bits (b : Int)).toNat = a ||| b := by
    rw [BitVec.toNat_or]
    show (BitVec.ofInt 64 (a : Int)).toNat ||| (BitVec.ofInt 64 (b : Int)).toNat = _
    rw [BitVec.ofInt_natCast, BitVec.ofInt_natCast, BitVec.toNat_ofNat, BitVec.toNat_ofNat, Nat.mod_eq_of_lt (by omega), Nat.mod_eq_of_lt (by omega)]
  rw [e]
  exact wrapN (by omega)
theorem andN {a b : Nat} (ha : a < 9223372036854775808) (hb : b < 9223372036854775808) : andK .i64 (a : Int) (b : Int) = ((a &&& b : Nat) : Int) := by
  unfold andK
  have h := Nat.and_le_left (n := a) (m := b)
  have e : (BitVec.ofInt IntKind.i64.bits (a : Int) &&& BitVec.ofInt IntKind.i64.bits (b : Int)).toNat = a &&& b := by
    rw [BitVec.toNat_and]
    show (BitVec.ofInt 64 (a : Int)).toNat &&& (BitVec.ofInt 64 (b : Int)).toNat = _
    rw [BitVec.ofInt_natCast, BitVec.ofInt_natCast, BitVec.toNat_ofNat, BitVec.toNat_ofNat, Nat.mod_eq_of_lt (by omega), Nat.mod_eq_of_lt (by omega)]
  rw [e]
  exact wrapN (by omega)
theorem Qzn {a b : Nat} (ha : a < 9223372036854775808) (hb : b < 9223372036854775808) : QrJ .i64 (a : Int) (b : Int) = 0 ↔ ∀ i, a.testBit i = true → b.testBit i = true := by
  show IntKind.i64.wrap (((BitVec.ofInt 64 (a : Int) &&& ~~~BitVec.ofInt 64 (b : Int)).toNat : Nat) : Int) = 0 ↔ _
  rw [BitVec.ofInt_natCast, BitVec.ofInt_natCast]
  have hle : (BitVec.ofNat 64 a &&& ~~~BitVec.ofNat 64 b).toNat < 9223372036854775808 := by
    rw [BitVec.toNat_and, BitVec.toNat_ofNat, Nat.mod_eq_of_lt (by omega)]
    exact Nat.lt_of_le_of_lt Nat.and_le_left ha
  rw [wrapN hle]
  have bit : ∀ i, (BitVec.ofNat 64 a &&& ~~~BitVec.ofNat 64 b).toNat.testBit i = (a.testBit i && !b.testBit i) := fun i => by
    rw [BitVec.testBit_toNat, BitVec.getLsbD_and, BitVec.getLsbD_not, BitVec.getLsbD_ofNat, BitVec.getLsbD_ofNat]
    rcases Nat.lt_or_ge i 64 with h | h
    · simp [h]
    · have : a.testBit i = false := Nat.testBit_lt_two_pow (Nat.lt_of_lt_of_le ha (Nat.le_trans (by decide) (Nat.pow_le_pow_right (n := 2) (by omega) h)))
      simp [this]
  constructor
  · intro h i hi
    have := bit i
    rw [show (BitVec.ofNat 64 a &&& ~~~BitVec.ofNat 64 b).toNat = 0 by omega, Nat.zero_testBit, hi] at this
    simpa using this.symm
  · intro h
    have : (BitVec.ofNat 64 a &&& ~~~BitVec.ofNat 64 b).toNat = 0 := Nat.eq_of_testBit_eq fun i => by
      rw [bit, Nat.zero_testBit]
      cases hi : a.testBit i with
      | false => rfl
      | true => rw [h i hi]; rfl
    omega
theorem QvL {m i : Nat} : eqI (remK (((m / 2 ^ i : Nat) : Int)) 2) 1 = m.testBit i := by
  rw [Bool.eq_iff_iff, eqI_t, Nat.testBit_eq_decide_div_mod_eq, decide_eq_true_iff]
  unfold remK
  generalize m / 2 ^ i = q
  rw [Int.tmod_eq_emod_of_nonneg (by omega)]
  omega
/-- A bit that was not there is added. -/
theorem QAN {m i : Nat} (h : m.testBit i = false) (j : Nat) : (m + 2 ^ i).testBit j = (m.testBit j || decide (i = j)) := by
  rw [Nat.add_comm]
  rcases Nat.lt_trichotomy j i with hj | rfl | hj
  · rw [Nat.testBit_two_pow_add_gt hj, decide_eq_false (by omega), Bool.or_false]
  · rw [Nat.testBit_two_pow_add_eq, h]; simp
  · rw [decide_eq_false (by omega), Bool.or_false]
    have h0 : m / 2 ^ i % 2 = 0 := by
      rw [Nat.testBit_eq_decide_div_mod_eq, decide_eq_false_iff_not] at h
      omega
    have e1 : (2 ^ i + m) / 2 ^ (i + 1) = m / 2 ^ (i + 1) := by
      rw [Nat.pow_succ, ← Nat.div_div_eq_div_mul, ← Nat.div_div_eq_div_mul, Nat.add_div_left _ (Nat.two_pow_pos i)]
      omega
    rw [Nat.testBit_eq_decide_div_mod_eq, Nat.testBit_eq_decide_div_mod_eq]
    have hp : 2 ^ j = 2 ^ (i + 1) * 2 ^ (j - (i + 1)) := by rw [← Nat.pow_add]; congr 1; omega
    rw [hp, ← Nat.div_div_eq_div_mul, ← Nat.div_div_eq_div_mul, e1]
theorem QBo {t : Qai} {skills : Int} (ht : 0 ≤ t.skills ∧ t.skills ≤ 1073741823) (hs : 0 ≤ skills ∧ skills ≤ 1073741823) : ∃ b, QlL t skills = some b ∧ Qgp t skills = some b := by
  obtain ⟨a, ha⟩ : ∃ a : Nat, skills = a := ⟨skills.toNat, by omega⟩
  obtain ⟨c, hc⟩ : ∃ c : Nat, t.skills = c := ⟨t.skills.toNat, by omega⟩
  subst ha
  refine ⟨eqI (QrJ .i64 (a : Int) (c : Int)) 0, ?_, ?_⟩
  · unfold QlL
    rw [hc]
    rw [show geI (c : Int) 0 = true by simp, show geI (a : Int) 0 = true by simp]
    rfl
  · unfold Qgp
    rw [Qa0 (by simp; omega)]
    have key : loopF (fun s => Qda t (a : Int) s) 1 = some (if (eqI (QrJ .i64 (a : Int) (c : Int)) 0) = true then .inl () else .inr false) := by
      have bigpow : ∀ k : Nat, k ≤ 62 → (0 : Int) < ((2 ^ k : Nat) : Int) ∧ ((2 ^ k : Nat) : Int) ≤ 4611686018427387904 := fun k hk => by
        have h1 := Nat.two_pow_pos k
        have h2 : 2 ^ k ≤ 2 ^ 62 := Nat.pow_le_pow_right (by omega) hk
        omega
      have main : post (loopF (fun s => Qda t (a : Int) s) 1) fun e => e = if (eqI (QrJ .i64 (a : Int) (c : Int)) 0) = true then .inl () else .inr false := by
        refine Qeh (fun s => ∃ k : Nat, k ≤ 63 ∧ s = (if k = 63 then -9223372036854775808 else ((2 ^ k : Nat) : Int)) ∧ ∀ i, i < k → a.testBit i = true → c.testBit i = true) (fun s => if s < 0 then 0 else 9223372036854775808 - s.toNat) ⟨0, by omega, rfl, fun i hi => by omega⟩ (by decide) ?_
        rintro _ ⟨k, hk, rfl, hb⟩
        show post (Qda t (a : Int) _) _
        unfold Qda
        rcases Nat.lt_or_ge k 63 with hk' | hk'
        · rw [if_neg (by omega)]
          obtain ⟨p1, p2⟩ := bigpow k (by omega)
          rw [Qbj (by simp only [gtI_t]; exact p1), QfB (by omega), hc]
          have hq : ∀ z : Nat, z < 9223372036854775808 → quoK .i64 (z : Int) ((2 ^ k : Nat) : Int) = ((z / 2 ^ k : Nat) : Int) := fun z hz => by
            have e : (z : Int).tdiv ((2 ^ k : Nat) : Int) = ((z / 2 ^ k : Nat) : Int) := by rw [Int.tdiv_eq_ediv_of_nonneg (by omega)]; rfl
            have h1 := Nat.div_le_self z (2 ^ k)
            rw [quoI, e] <;> (rw [e]; generalize z / 2 ^ k = q at h1; omega)
          rw [hq a (by omega), hq c (by omega), QvL]
          have go : ∀ h : (a.testBit k = true → c.testBit k = true), post (some (Sum.inl (mulK .i64 ((2 ^ k : Nat) : Int) 2) : Int ⊕ (Unit ⊕ Bool))) fun x => (∀ s', x = .inl s' → (∃ k' : Nat, k' ≤ 63 ∧ s' = (if k' = 63 then -9223372036854775808 else ((2 ^ k' : Nat) : Int)) ∧ ∀ i, i < k' → a.testBit i = true → c.testBit i = true) ∧ (if s' < 0 then 0 else 9223372036854775808 - s'.toNat) < (if ((2 ^ k : Nat) : Int) < 0 then 0 else 9223372036854775808 - ((2 ^ k : Nat) : Int).toNat)) ∧ ∀ e, x = .inr e → e = if (eqI (QrJ .i64 (a : Int) (c : Int)) 0) = true then .inl () else .inr false := by
            intro h
            have hm : mulK .i64 ((2 ^ k : Nat) : Int) 2 = if k + 1 = 63 then -9223372036854775808 else ((2 ^ (k + 1) : Nat) : Int) := by
              split
              · rename_i h62
                obtain rfl : k = 62 := by omega
                decide
              · obtain ⟨q1, q2⟩ := bigpow (k + 1) (by omega)
                have e : ((2 ^ k : Nat) : Int) * 2 = ((2 ^ (k + 1) : Nat) : Int) := by rw [Nat.pow_succ]; simp
                rw [mulI (by omega) (by omega), e]
            refine Qgy ⟨⟨k + 1, by omega, hm, fun i hi => ?_⟩, ?_⟩
            · rcases Nat.lt_or_eq_of_le (Nat.le_of_lt_succ hi) with hi | rfl
              · exact hb i hi
              · exact h
            · rw [hm, if_neg (show ¬ ((2 ^ k : Nat) : Int) < 0 by omega)]
              split
              · rw [if_pos (by omega)]; omega
              · obtain ⟨q1, q2⟩ := bigpow (k + 1) (by omega)
                have e : 2 ^ (k + 1) = 2 ^ k * 2 := Nat.pow_succ ..
                rw [if_neg (by omega)]
                omega
          refine QaS (fun h1 => Qbu (by omega) (QaS (fun h2 => Qdw ?_) (fun h2 => go fun _ => ?_))) (fun h1 => go fun h => by rw [h1] at h; cases h)
          · rw [if_neg]
            intro h
            have h3 := (Qzn (by omega) (by omega)).1 (eqI_t.1 h) k h1
            rw [← QvL, eqI_t] at h3
            rw [eqI_t] at h2
            omega
          · rw [eqI_f] at h2
            rw [← QvL, eqI_t]
            unfold remK at h2 ⊢
            generalize c / 2 ^ k = q at h2 ⊢
            rw [Int.tmod_eq_emod_of_nonneg (by omega)] at h2 ⊢
            omega
        · obtain rfl : k = 63 := by omega
          rw [if_pos rfl, Qa0 (by decide)]
          refine Qdw ?_
          rw [if_pos]
          rw [eqI_t]
          refine (Qzn (by omega) (by omega)).2 fun i hi => ?_
          rcases Nat.lt_or_ge i 63 with h | h
          · exact hb i h hi
          · rw [Nat.testBit_lt_two_pow (Nat.lt_of_lt_of_le (show a < 2 ^ 63 by omega) (Nat.pow_le_pow_right (n := 2) (by omega) h))] at hi; cases hi
      exact main.eq
    rw [key, Qal]
    split <;> simp_all
end Go.Proofs.YtoogjnlmicgfiaaGreatDoor
namespace Go.Proofs.YtoogjnlmicgfiaaGreatDoor
set_option linter.unusedSimpArgs false
set_option linter.unusedVariables false
set_option linter.unusedSectionVars false
theorem brs {α : Type} {b : Bool} {x y : α} : br b (some x) (some y) = some (if b = true then x else y) := by cases b <;> rfl
theorem Qc6 {α β : Type} {l : List α} {i : Nat} {a : α} (h : l[i]? = some a) (f : α → Option β) (z : Option β) : br (ltI (i : Int) (lenI l)) (bnd (getI l i) f) z = f a := by
  have := (List.getElem?_eq_some_iff.1 h).1
  rw [Qbj (by simp [lenI]; omega), QaP h, Qal]
theorem Qb1 {α β : Type} {l : List α} {y z : Option β} : br (ltI (l.length : Int) (lenI l)) y z = z := Qa0 (by simp [lenI])
theorem incL {α : Type} {l : List α} {i : Nat} {a : α} (h : l[i]? = some a) (hl : l.length ≤ 1048576) : addK .i64 (i : Int) 1 = (i : Int) + 1 := inc (List.getElem?_eq_some_iff.1 h).1 hl
def inO (x : Qad) (v : Qab) : Bool := decide (0 ≤ v.order ∧ v.order < x.orders.length)
def offV (x : Qad) (v : Qab) : Bool := match x.orders[v.order.toNat]? with
  | some o => o.off
  | none => false
def isO (o : Int) (v : Qab) : Bool := eqI v.order o
def hasO (l : List Qab) (o : Int) : Bool := l.any (isO o)
def isV (v a : Qab) : Bool := eqI v.order a.order && (eqB v.drop a.drop && true)
/-- The visits of an order. -/
def visO (x : Qad) (o : Int) : List Qab := match x.orders[o.toNat]? with
  | some q => (if 0 ≤ q.pick.place then [Qab.mk o false] else []) ++ (if 0 ≤ q.drop.place then [Qab.mk o true] else [])
  | none => []
def rowB (l : List Qab) : List Qab → Bool
  | [] => true
  | [a] => geI (ixI (isV a) l) 0
  | a :: b :: _ => geI (ixI (isV a) l) 0 && ltI (ixI (isV a) l) (ixI (isV b) l)
def pairV (x : Qad) (l : List Qab) (v : Qab) : Bool := (visO x v.order).any (isV v) && rowB l (visO x v.order)
def Qsl (l : List Qab) (p : QaQ) : Bool := hasO l p.x0 && hasO l p.x1
def lateB (l : List Qab) (p : QaQ) : Bool := match ixP (isO p.x1) l with
  | some k => hasO (l.drop k) p.x0
  | none => false
def badB (l : List Qab) (p : QaQ) : Bool := hasO l p.x1 && (!hasO l p.x0 || lateB l p)
instance (l : List Qab) : Decidable l.Nodup := inferInstanceAs (Decidable (List.Nodup l))
/-- The answer of the check. -/
def seqS (x : Qad) (l : List Qab) : Int :=
  if l.length = 0 then 2 else if l.any (fun v => !inO x v) = true then 2 else if l.any (offV x) = true then 9 else if ¬ l.Nodup then 6 else
  if l.any (fun v => !pairV x l v) = true then 19 else if x.apart.any (Qsl l) = true then 20 else if x.before.any (badB l) = true then 21 else 0
section
variable {x : Qad} {l : List Qab}
theorem isV_t {v a : Qab} : isV v a = true ↔ a = v := by
  unfold isV
  cases v; cases a
  simp
  exact ⟨fun ⟨h1, h2⟩ => ⟨h1.symm, h2.symm⟩, fun ⟨h1, h2⟩ => ⟨h1.symm, h2.symm⟩⟩
theorem isO_t {o : Int} {v : Qab} : isO o v = true ↔ v.order = o := by simp [isO]
theorem QwD {o : Int} : hasO l o = true ↔ ∃ v ∈ l, v.order = o := by simp [hasO, List.any_eq_true, isO]
theorem any_V {v : Qab} : l.any (isV v) = true ↔ v ∈ l := by
  rw [List.any_eq_true]
  exact ⟨fun ⟨a, h, h'⟩ => isV_t.1 h' ▸ h, fun h => ⟨v, h, isV_t.2 rfl⟩⟩
theorem QBt {v : Qab} : 0 ≤ ixI (isV v) l ↔ v ∈ l := by rw [← geI_t, QqN, any_V]
theorem QwE {v : Qab} {k : Nat} (h : ixI (isV v) l = k) : l[k]? = some v ∧ ∀ j, j < k → l[j]? ≠ some v := by
  unfold ixI at h
  cases hx : ixP (isV v) l with
  | none => rw [hx] at h; simp only at h; omega
  | some m =>
    rw [hx] at h
    simp only at h
    obtain rfl : m = k := by omega
    obtain ⟨h1, h2, h3⟩ := Qqo hx
    refine ⟨by rw [List.getElem?_eq_getElem h1, isV_t.1 h2], fun j hj he => ?_⟩
    have := h3 j hj
    rw [List.getElem?_eq_getElem (show j < l.length by omega)] at he
    rw [isV_t.2 (Option.some.inj he)] at this
    cases this
theorem QtV (hl : l.length ≤ 1048576) (v : Qab) : Qgc l v = some (ixI (isV v) l) := by
  have := QsP hl (isV v) (fun k => (.inr (k : Int) : Unit ⊕ Int)) (N := .inl ()) (B := fun s => QaM l v s) (fun i a h => by
    show QaM l v i = _
    unfold QaM
    rw [Qc6 h, incL h hl, brs]; rfl) (by
    show QaM l v l.length = _
    unfold QaM
    rw [Qb1])
  unfold Qgc Qbi
  rw [QdY this]
  unfold ixI
  cases ixP (isV v) l <;> rfl
theorem Qz9 (hl : l.length ≤ 1048576) (v : Qab) : Qbi l v = some (ixI (isV v) l) := by
  have := QtV hl v
  unfold Qgc at this
  obtain ⟨a, h, h'⟩ := Qae this
  rw [h, h']
theorem Qww (hl : l.length ≤ 1048576) (v : Qab) : Qbm l v = some (l.any (isV v)) := by
  unfold Qbm
  rw [Qz9 hl, Qal, QqN]
theorem QoW (hl : l.length ≤ 1048576) (v : Qab) : Qcz l v = some (ixI (isV v) l) := by
  have := QsP hl (isV v) (fun k => (.inr (k : Int) : Unit ⊕ Int)) (N := .inl ()) (B := fun s => Qcp l v s) (fun i a h => by
    show Qcp l v i = _
    unfold Qcp
    rw [Qc6 h, incL h hl, brs]
    rw [show (eqI a.order v.order && (eqB a.drop v.drop && true)) = isV v a by
      rw [Bool.eq_iff_iff, isV_t]; cases v; cases a; simp]) (by
    show Qcp l v l.length = _
    unfold Qcp
    rw [Qb1])
  unfold Qcz
  rw [QdY this]
  unfold ixI
  cases ixP (isV v) l <;> rfl
theorem QtR : ¬ l.Nodup ↔ ∃ k, k < l.length ∧ ∃ j, j < k ∧ l[j]? = l[k]? := by
  unfold List.Nodup
  rw [List.pairwise_iff_getElem]
  constructor
  · intro h
    refine Classical.byContradiction fun hn => h fun i j hi hj hij he => hn ⟨j, hj, i, hij, ?_⟩
    rw [List.getElem?_eq_getElem hi, List.getElem?_eq_getElem hj, he]
  · rintro ⟨k, hk, j, hj, he⟩ h
    rw [List.getElem?_eq_getElem hk, List.getElem?_eq_getElem (show j < l.length by omega)] at he
    exact h j k (by omega) hk hj (Option.some.inj he)
theorem QqF {v : Qab} {k : Nat} (hk : k ≤ l.length) : v ∈ l.take k ↔ ∃ j, j < k ∧ l[j]? = some v := by
  rw [List.mem_iff_getElem?]
  constructor
  · rintro ⟨j, h⟩
    rw [List.getElem?_take] at h
    split at h
    · exact ⟨j, ‹_›, h⟩
    · cases h
  · rintro ⟨j, hj, h⟩
    exact ⟨j, by rw [List.getElem?_take, if_pos hj, h]⟩
theorem QAC (hl : l.length ≤ 1048576) : QiN l = some (decide (¬ l.Nodup)) := by
  have := Qt2 (B := fun s => Qc5 l s) hl (fun k => match l[k]? with | some v => (l.take k).any (isV v) | none => false) (y := (.inr true : Unit ⊕ Bool)) (N := .inl ()) (b := decide (¬ l.Nodup)) (by
    rw [decide_eq_true_iff, QtR]
    constructor
    · rintro ⟨k, hk, j, hj, he⟩
      refine ⟨k, hk, ?_⟩
      rw [List.getElem?_eq_getElem hk] at he ⊢
      exact any_V.2 ((QqF (by omega)).2 ⟨j, hj, he⟩)
    · rintro ⟨k, hk, h⟩
      rw [List.getElem?_eq_getElem hk] at h
      obtain ⟨j, hj, he⟩ := (QqF (by omega)).1 (any_V.1 h)
      exact ⟨k, hk, j, hj, by rw [he, List.getElem?_eq_getElem hk]⟩) (fun i hi => by
    have h : l[i]? = some l[i] := List.getElem?_eq_getElem hi
    show Qc5 l i = _
    unfold Qc5
    rw [Qc6 h, show slcI l 0 (i : Int) = some (l.take i) by unfold slcI; rw [if_pos (by omega)]; simp, Qal, QtV (by rw [List.length_take]; omega), Qal, incL h hl, QqN, brs]
    rw [h]) (by
    show Qc5 l l.length = _
    unfold Qc5
    rw [Qb1])
  unfold QiN
  rw [QdY this]
  split <;> simp_all
theorem QvC {o : Int} : (visO x o).length ≤ 2 := by
  unfold visO
  split
  · split <;> split <;> simp
  · simp
theorem QyE (hx : QeM x) {o : Int} (h0 : 0 ≤ o) (h1 : o < x.orders.length) : Ql5 x.orders o = some (visO x o) := by
  have e : x.orders[o.toNat]? = some (x.orders[o.toNat]'(by omega)) := List.getElem?_eq_getElem _
  generalize x.orders[o.toNat]'(by omega) = q at e
  have hg : getI x.orders o = some q := by unfold getI; rw [if_pos h0, e]
  unfold Ql5 Qlz
  rw [Qal, Qbj (by simp [lenI]; omega), hg, Qal]
  unfold visO
  rw [e]
  have hJ : ∀ l1 : List Qab, l1.length ≤ 1 → Qgu x.orders o l1 = some (l1 ++ if 0 ≤ q.drop.place then [Qab.mk o true] else []) := fun l1 hl => by
    unfold Qgu
    rw [hg, Qal, QfB (by unfold okN; simp; omega), br_if]
    simp only [geI_t]
    split <;> simp
  rw [hJ _ (by simp), hJ _ (by simp), QfB (by unfold okN; simp), brs]
  simp only [geI_t]
  split <;> rfl
theorem Qwu (hx : QeM x) {o : Int} (h0 : 0 ≤ o) (h1 : o < x.orders.length) : Qgk x o = some (visO x o) := by
  have e : x.orders[o.toNat]? = some (x.orders[o.toNat]'(by omega)) := List.getElem?_eq_getElem _
  generalize x.orders[o.toNat]'(by omega) = q at e
  have hq := hx.ord q (List.mem_of_getElem? e)
  have hg : getI x.orders o = some q := by unfold getI; rw [if_pos h0, e]
  have hp : neI q.pick.place (-1) = decide (0 ≤ q.pick.place) := by
    have := hq.pick
    rw [Bool.eq_iff_iff, neI_t, decide_eq_true_iff]
    unfold QyD at this
    omega
  have hd : neI q.drop.place (-1) = decide (0 ≤ q.drop.place) := by
    have := hq.drop
    rw [Bool.eq_iff_iff, neI_t, decide_eq_true_iff]
    unfold QyD at this
    omega
  unfold Qgk
  rw [hg, Qal]
  unfold visO
  rw [e]
  have hJ : ∀ l1 : List Qab, l1.length ≤ 1 → QdD x o l1 = some (l1 ++ if 0 ≤ q.drop.place then [Qab.mk o true] else []) := fun l1 hl => by
    unfold QdD
    rw [hg, Qal, QfB (by unfold okN; simp; omega), hd, br_if]
    simp only [decide_eq_true_iff]
    split <;> simp
  rw [hJ _ (by simp), hJ _ (by simp), QfB (by unfold okN; simp), hp, brs]
  simp only [decide_eq_true_iff]
  split <;> rfl
theorem QAG {o : Int} {a b : Qab} {r : List Qab} (h : visO x o = a :: b :: r) : r = [] ∧ a ≠ b := by
  have h2 := QvC (x := x) (o := o)
  rw [h] at h2
  have hr : r = [] := by cases r with
    | nil => rfl
    | cons c r => simp at h2
  refine ⟨hr, ?_⟩
  subst hr
  unfold visO at h
  split at h
  · split at h <;> split at h <;> simp at h
    obtain ⟨rfl, rfl⟩ := h
    simp
  · cases h
theorem Qze (hl : l.length ≤ 1048576) {r : List Qab} (hr : r.length ≤ 2) (v : Int) : loopF (fun s => Qbf x l v r s.1 s.2) ((-1), 0) = some (if rowB l r = true then .inl () else .inr false) := by
  have out : ∀ (p : Int), Qbf x l v r p r.length = some (.inr (.inl ())) := fun p => by
    unfold Qbf
    rw [Qb1]
  have go : ∀ (k : Nat) (a : Qab) (p : Int), r[k]? = some a → Qbf x l v r p k = some (if leI (ixI (isV a) l) p = true then .inr (.inr false) else .inl (ixI (isV a) l, (k : Int) + 1)) := fun k a p h => by
    unfold Qbf
    rw [Qc6 h, QtV hl, Qal, incL h (by omega), brs]
  match r, hr with
  | [], _ => exact Qrr 1 (by decide) (by simp only [iterF]; rw [show Qbf x l v [] (-1) 0 = _ from out (-1)]; rfl)
  | [a], _ =>
    refine Qrr 2 (by decide) ?_
    have g := go 0 a (-1) rfl
    simp only [iterF]
    rw [show Qbf x l v [a] (-1) 0 = _ from g]
    have hb := QyY (p := isV a) (l := l)
    by_cases h : leI (ixI (isV a) l) (-1) = true
    · rw [if_pos h, if_neg]
      simp only [rowB, geI_t]
      simp only [leI_t] at h
      omega
    · rw [if_neg h, if_pos]
      · simp only
        rw [show Qbf x l v [a] (ixI (isV a) l) ((0 : Nat) + 1 : Int) = _ from out _]
      · simp only [rowB, geI_t]
        simp only [leI_t] at h
        omega
  | [a, b], _ =>
    refine Qrr 3 (by decide) ?_
    have g := go 0 a (-1) rfl
    have g1 := go 1 b (ixI (isV a) l) rfl
    simp only [iterF]
    rw [show Qbf x l v [a, b] (-1) 0 = _ from g]
    have hb := QyY (p := isV a) (l := l)
    by_cases h : leI (ixI (isV a) l) (-1) = true
    · rw [if_pos h, if_neg]
      simp only [rowB, geI_t, Bool.and_eq_true]
      simp only [leI_t] at h
      omega
    · rw [if_neg h]
      simp only
      rw [show Qbf x l v [a, b] (ixI (isV a) l) ((0 : Nat) + 1 : Int) = _ from g1]
      simp only [leI_t] at h
      by_cases h' : leI (ixI (isV b) l) (ixI (isV a) l) = true
      · rw [if_pos h', if_neg]
        simp only [rowB, geI_t, ltI_t, Bool.and_eq_true]
        simp only [leI_t] at h'
        omega
      · rw [if_neg h', if_pos]
        · simp only
          rw [show Qbf x l v [a, b] (ixI (isV b) l) ((1 : Nat) + 1 : Int) = _ from out _]
        · simp only [rowB, geI_t, ltI_t, Bool.and_eq_true]
          simp only [leI_t] at h'
          omega
theorem QoV (h : l.any (fun v => !inO x v) = false) {v : Qab} (hv : v ∈ l) : 0 ≤ v.order ∧ v.order < x.orders.length := by
  have := List.any_eq_false.1 h v hv
  simpa [inO] using this
theorem Qza (hx : QeM x) (hl : l.length ≤ 1048576) (ho : l.any (fun v => !inO x v) = false) : QhR x l = some (!l.any (fun v => !pairV x l v)) := by
  have := Qg6 (B := fun s => QcO x l s) hl (fun v => !pairV x l v) (y := (.inr false : Unit ⊕ Bool)) (N := .inl ()) (fun i a h => by
    obtain ⟨h0, h1⟩ := QoV ho (List.mem_of_getElem? h)
    show QcO x l i = _
    unfold QcO
    have hv := QvC (x := x) (o := a.order)
    rw [Qc6 h, QyE hx h0 h1, Qal, Qww (by omega), Qal, Qze hl hv, Qal, incL h hl]
    unfold pairV
    cases (visO x a.order).any (isV a) <;> cases rowB l (visO x a.order) <;> rfl) (by
    show QcO x l l.length = _
    unfold QcO
    rw [Qb1])
  unfold QhR
  rw [QdY this]
  cases l.any (fun v => !pairV x l v) <;> rfl
theorem Que (hl : l.length ≤ 1048576) {r : List Qab} (hr : r.length ≤ 2) : Qfi l r = some (!r.any (fun a => ltI (ixI (isV a) l) 0)) := by
  have := Qg6 (B := fun s => QbG l r s) (l := r) (by omega) (fun a => ltI (ixI (isV a) l) 0) (y := (.inr false : Unit ⊕ Bool)) (N := .inl ()) (fun i a h => by
    show QbG l r i = _
    unfold QbG
    rw [Qc6 h, QoW hl, Qal, incL h (by omega), brs]) (by
    show QbG l r r.length = _
    unfold QbG
    rw [Qb1])
  unfold Qfi
  rw [QdY this]
  cases r.any (fun a => ltI (ixI (isV a) l) 0) <;> rfl
theorem Qzz {a b : Int} : ltI a b = !geI a b := by rw [Bool.eq_iff_iff]; simp
theorem QwI (hx : QeM x) (hl : l.length ≤ 1048576) (ho : l.any (fun v => !inO x v) = false) : Qds x l = some (!l.any (fun v => !pairV x l v)) := by
  have := Qg6 (B := fun s => Qca x l s) hl (fun v => !pairV x l v) (y := (.inr false : Unit ⊕ Bool)) (N := .inl ()) (fun i a h => by
    obtain ⟨h0, h1⟩ := QoV ho (List.mem_of_getElem? h)
    show Qca x l i = _
    unfold Qca
    have hv := QvC (x := x) (o := a.order)
    rw [Qc6 h, Qwu hx h0 h1, Qal, QoW (by omega), Qal, Que hl hv, Qal, incL h hl]
    rw [Qzz, QqN]
    have hP : pairV x l a = ((visO x a.order).any (isV a) && rowB l (visO x a.order)) := rfl
    generalize pairV x l a = P at hP ⊢
    cases hany : (visO x a.order).any (isV a) with
    | false => rw [hany] at hP; subst hP; rfl
    | true =>
      rw [hany, Bool.true_and] at hP
      rw [Bool.not_true, Qh1]
      cases hvis : visO x a.order with
      | nil => rw [hvis] at hP; subst hP; rfl
      | cons c r =>
        cases r with
        | nil =>
          rw [hvis] at hP
          rw [List.any_cons, List.any_nil, Bool.or_false, Qzz, Bool.not_not, ← show P = geI (ixI (isV c) l) 0 from hP]
          cases P <;> rfl
        | cons d r =>
          obtain ⟨rfl, hne⟩ := QAG hvis
          rw [hvis] at hP
          rw [List.any_cons, List.any_cons, List.any_nil, Bool.or_false]
          show br _ (br true (bnd (some c) fun x2 => bnd (Qcz l x2) fun r3 => bnd (some d) fun x3 => bnd (Qcz l x3) fun r4 => br (gtI r3 r4) _ _) _) _ = _
          rw [Qhm, Qal, QoW hl, Qal, Qal, QoW hl, Qal]
          simp only [rowB] at hP
          have hc := QyY (p := isV c) (l := l)
          have hd := QyY (p := isV d) (l := l)
          have hcd : 0 ≤ ixI (isV c) l → ixI (isV c) l ≠ ixI (isV d) l := fun h0 he => by
            obtain ⟨k, hk⟩ : ∃ k : Nat, ixI (isV c) l = k := ⟨(ixI (isV c) l).toNat, by omega⟩
            have e1 := (QwE hk).1
            have e2 := (QwE (he.symm.trans hk)).1
            rw [e1] at e2
            exact hne (Option.some.inj e2)
          generalize ixI (isV c) l = m at *
          generalize ixI (isV d) l = n at *
          cases P with
          | true =>
            have hP' := hP.symm
            simp only [Bool.and_eq_true, geI_t, ltI_t] at hP'
            rw [Qbj (by simp; omega), Qa0 (by simp; omega)]
            rfl
          | false =>
            have hP' := hP.symm
            simp only [Bool.and_eq_false_iff, geI_f, ltI_f] at hP'
            by_cases h1 : 0 ≤ m ∧ 0 ≤ n
            · have := hcd h1.1
              rw [Qbj (by simp; omega), Qbj (by simp; omega)]
              rfl
            · rw [Qa0 (by simp; omega)]
              rfl) (by
    show Qca x l l.length = _
    unfold Qca
    rw [Qb1])
  unfold Qds
  rw [QdY this]
  cases l.any (fun v => !pairV x l v) <;> rfl
end
end Go.Proofs.YtoogjnlmicgfiaaGreatDoor
namespace Go.Proofs.YtoogjnlmicgfiaaGreatDoor
set_option linter.unusedSimpArgs false
set_option linter.unusedVariables false
set_option linter.unusedSectionVars false
section
variable {x : Qad} {l : List Qab}
theorem Qz4 (hl : l.length ≤ 1048576) (o : Int) : Qa5 l o = some (ixI (isO o) l) := by
  have := QsP hl (isO o) (fun k => (.inr (k : Int) : Unit ⊕ Int)) (N := .inl ()) (B := fun s => QaC l o s) (fun i a h => by
    show QaC l o i = _
    unfold QaC Qls
    rw [Qc6 h, Qal, incL h hl, brs]; rfl) (by
    show QaC l o l.length = _
    unfold QaC
    rw [Qb1])
  unfold Qa5
  rw [QdY this]
  unfold ixI
  cases ixP (isO o) l <;> rfl
theorem QwA (hl : l.length ≤ 1048576) (o : Int) : QaZ l o = some (ixI (isO o) l) := by
  have := QsP hl (isO o) (fun k => (.inr (k : Int) : Unit ⊕ Int)) (N := .inl ()) (B := fun s => Qay l o s) (fun i a h => by
    show Qay l o i = _
    unfold Qay QhX
    rw [Qc6 h, Qal, incL h hl, brs]; rfl) (by
    show Qay l o l.length = _
    unfold Qay
    rw [Qb1])
  unfold QaZ
  rw [QdY this]
  unfold ixI
  cases ixP (isO o) l <;> rfl
theorem Qwh (hl : l.length ≤ 1048576) (o : Int) : Qg7 l o = some (hasO l o) := by
  unfold Qg7 Qbh
  rw [Qz4 hl, Qal, Qal, QqN]
  rfl
theorem QwB (hl : l.length ≤ 1048576) : QaW l x = some (l.any fun v => !inO x v) := by
  have := QsP hl (fun v => !inO x v) (fun k => (.inr (k : Int) : Unit ⊕ Int)) (N := .inl ()) (B := fun s => Qaz l x s) (fun i a h => by
    show Qaz l x i = _
    unfold Qaz QiK
    rw [Qc6 h, Qal, incL h hl, brs]
    rw [show (ltI a.order 0 || geI a.order (lenI x.orders)) = !inO x a by
      unfold inO lenI; rw [Bool.eq_iff_iff]; simp]) (by
    show Qaz l x l.length = _
    unfold Qaz
    rw [Qb1])
  have e : Qa1 l x = some (ixI (fun v => !inO x v) l) := by
    unfold Qa1
    rw [QdY this]
    unfold ixI
    cases ixP (fun v => !inO x v) l <;> rfl
  unfold QaW
  rw [e, Qal, QqN]
theorem Qv9 {v : Qab} (h0 : 0 ≤ v.order) (h1 : v.order < x.orders.length) : ∃ o, getI x.orders v.order = some o ∧ o ∈ x.orders ∧ offV x v = o.off ∧ x.orders[v.order.toNat]? = some o := by
  have e : x.orders[v.order.toNat]? = some (x.orders[v.order.toNat]'(by omega)) := List.getElem?_eq_getElem _
  refine ⟨_, Quk h0 h1, List.getElem_mem _, ?_, e⟩
  unfold offV
  rw [e]
theorem QwC (hl : l.length ≤ 1048576) (ho : l.any (fun v => !inO x v) = false) : QaX l x = some (l.any (offV x)) := by
  have := QsP hl (offV x) (fun k => (.inr (k : Int) : Unit ⊕ Int)) (N := .inl ()) (B := fun s => QaA l x s) (fun i a h => by
    obtain ⟨h0, h1⟩ := QoV ho (List.mem_of_getElem? h)
    obtain ⟨o, g1, g2, g3, _⟩ := Qv9 h0 h1
    show QaA l x i = _
    unfold QaA QiL
    rw [Qc6 h, g1, Qal, Qal, incL h hl, brs, g3]) (by
    show QaA l x l.length = _
    unfold QaA
    rw [Qb1])
  have e : Qa2 l x = some (ixI (offV x) l) := by
    unfold Qa2
    rw [QdY this]
    unfold ixI
    cases ixP (offV x) l <;> rfl
  unfold QaX
  rw [e, Qal, QqN]
theorem Qyl (hl : l.length ≤ 1048576) (p : QaQ) : QhQ l p.x0 p.x1 = some (!badB l p) := by
  unfold QhQ
  rw [QwA hl, Qal, Qwh hl, Qal]
  unfold badB
  have hh : hasO l p.x1 = geI (ixI (isO p.x1) l) 0 := QqN.symm
  rw [hh]
  unfold lateB ixI
  cases h : ixP (isO p.x1) l with
  | none => rfl
  | some k =>
    have hk := (Qqo h).1
    simp only
    rw [Qa0 (by simp), show slcI l (k : Int) (lenI l) = some (l.drop k) by
      unfold slcI lenI; rw [if_pos (by omega)]; congr 1; rw [List.take_of_length_le]; · rfl
      · simp]
    rw [Qal, Qwh (by simp; omega), Qal, show geI (k : Int) 0 = true by simp]
    cases hasO l p.x0 <;> cases hasO (l.drop k) p.x0 <;> rfl
theorem QwX {r : Qac} (hx : QeM x) (hl : r.visits.length ≤ 1048576) : Qhk x r = some (seqS x r.visits) := by
  unfold Qhk seqS
  by_cases h0 : r.visits.length = 0
  · rw [Qbj (by simp [lenI, h0]), if_pos h0]
  rw [Qa0 (by simp only [lenI, eqI_f]; omega), if_neg h0, QwB hl, Qal]
  by_cases h1 : r.visits.any (fun v => !inO x v) = true
  · rw [Qbj h1, if_pos h1]
  have h1' : r.visits.any (fun v => !inO x v) = false := by simpa using h1
  rw [Qa0 h1', if_neg h1, QwC hl h1', Qal]
  by_cases h2 : r.visits.any (offV x) = true
  · rw [Qbj h2, if_pos h2]
  rw [Qa0 (by simpa using h2), if_neg h2, QAC hl, Qal]
  by_cases h3 : ¬ r.visits.Nodup
  · rw [Qbj (decide_eq_true h3), if_pos h3]
  rw [Qa0 (decide_eq_false h3), if_neg h3, Qza hx hl h1', Qal]
  by_cases h4 : r.visits.any (fun v => !pairV x r.visits v) = true
  · rw [Qa0 (by rw [h4]; rfl), if_pos h4]
  rw [Qbj (by simpa using h4), if_neg h4]
  have ha := hx.apart
  have hb := hx.before
  rw [QdY (Qg6 (B := fun s => Qc4 x r s) (l := x.apart) (by omega) (Qsl r.visits) (y := (.inr 20 : Unit ⊕ Int)) (N := .inl ()) (fun i a h => by
    show Qc4 x r i = _
    unfold Qc4
    rw [Qc6 h, Qwh hl, Qal, Qwh hl, Qal, incL h (by omega)]
    unfold Qsl
    cases hasO r.visits a.x0 <;> cases hasO r.visits a.x1 <;> rfl) (by
    show Qc4 x r x.apart.length = _
    unfold Qc4
    rw [Qb1]))]
  by_cases h5 : x.apart.any (Qsl r.visits) = true
  · rw [if_pos h5, if_pos h5]; rfl
  rw [if_neg h5, if_neg h5, Qht]
  rw [QdY (Qg6 (B := fun s => QcG x r s) (l := x.before) (by omega) (badB r.visits) (y := (.inr 21 : Unit ⊕ Int)) (N := .inl ()) (fun i a h => by
    show QcG x r i = _
    unfold QcG
    rw [Qc6 h, Qyl hl, Qal, incL h (by omega)]
    cases badB r.visits a <;> rfl) (by
    show QcG x r x.before.length = _
    unfold QcG
    rw [Qb1]))]
  by_cases h6 : x.before.any (badB r.visits) = true
  · rw [if_pos h6, if_pos h6]; rfl
  · rw [if_neg h6, if_neg h6]; rfl
theorem Qxx {m : Nat} (hm : m < 9223372036854775808) {i : Int} (h0 : 0 ≤ i) (h1 : i ≤ 62) : QdL (m : Int) i = some (m.testBit i.toNat) := by
  obtain ⟨k, rfl⟩ : ∃ k : Nat, i = k := ⟨i.toNat, by omega⟩
  unfold QdL
  rw [Qbj (by simp; omega), cvuN (by omega), QfB (by omega), shrN (by omega), QvL]
  rfl
/-- What a set is that stands for the orders of a route. -/
structure SetOf (l : List Qab) (s : Int) : Prop where
  ex : ∃ m : Nat, s = m ∧ m < 1024 ∧ ∀ i : Nat, m.testBit i = hasO l (i : Int)
theorem QAs {r : Qac} (hx : QeM x) (hl : r.visits.length ≤ 1048576) (ho : r.visits.any (fun v => !inO x v) = false) : post (Qe4 r) fun s => s.2 = 0 ∧ SetOf r.visits s.1 := by
  have hx10 := hx.orders
  unfold Qe4
  refine QnZ ?_
  refine Qeh (fun s => ∃ (k m : Nat), s = ((m : Int), (k : Int)) ∧ k ≤ r.visits.length ∧ m < 1024 ∧ ∀ i : Nat, m.testBit i = hasO (r.visits.take k) (i : Int)) (fun s => r.visits.length - s.2.toNat) ⟨0, 0, rfl, Nat.zero_le _, by omega, fun i => by simp [hasO]⟩ (by simp; omega) ?_
  rintro _ ⟨k, m, rfl, hk, hm, hb⟩
  show post (QdC r (m : Int) (k : Int)) _
  unfold QdC
  rcases Nat.lt_or_ge k r.visits.length with h | h
  · have e : r.visits[k]? = some r.visits[k] := List.getElem?_eq_getElem h
    have hin := QoV ho (List.getElem_mem h)
    have htk : r.visits.take (k + 1) = r.visits.take k ++ [r.visits[k]] := by rw [List.take_add_one, e]; rfl
    generalize r.visits[k] = v at e hin htk
    obtain ⟨n, hn⟩ : ∃ n : Nat, v.order = n := ⟨v.order.toNat, by omega⟩
    have hov : ∀ i : Nat, hasO (r.visits.take (k + 1)) (i : Int) = (hasO (r.visits.take k) (i : Int) || decide (n = i)) := fun i => by
      rw [htk]
      unfold hasO
      rw [List.any_append, List.any_cons, List.any_nil, Bool.or_false]
      congr 1
      rw [Bool.eq_iff_iff, isO_t, hn, decide_eq_true_iff]
      omega
    rw [Qc6 e, Qa0 (by rw [hn]; simp; omega), Qxx (by omega) (by omega) (by omega), Qal, incL e hl, hn]
    simp only [Int.toNat_natCast]
    refine QaS (fun h1 => Qgy ⟨⟨k + 1, m, rfl, h, hm, fun i => ?_⟩, by simp; omega⟩) (fun h1 => ?_)
    · rw [hov, ← hb]
      by_cases hi : n = i
      · subst hi; rw [h1]; rfl
      · rw [decide_eq_false hi, Bool.or_false]
    · rw [cvuN (by omega), QfB (by omega), shlN (by omega)]
      have h2 : 2 ^ n ≤ 2 ^ 9 := Nat.pow_le_pow_right (by omega) (by omega)
      have h3 : (0 : Int) ≤ ((2 ^ n : Nat) : Int) ∧ ((2 ^ n : Nat) : Int) ≤ 512 := ⟨Int.natCast_nonneg _, Int.ofNat_le.2 (show 2 ^ n ≤ 512 by omega)⟩
      rw [addI (by omega) (by omega)]
      have hbit : ∀ i, (m + 2 ^ n).testBit i = hasO (r.visits.take (k + 1)) (i : Int) := fun i => by rw [QAN h1, hov, hb]
      refine Qgy ⟨⟨k + 1, m + 2 ^ n, by simp, h, ?_, hbit⟩, by simp; omega⟩
      refine Nat.lt_pow_two_of_testBit (n := 10) _ fun i hi => ?_
      rw [hbit]
      rw [Bool.eq_false_iff]
      intro hh
      obtain ⟨w, hw, hwi⟩ := QwD.1 hh
      have := QoV ho (List.mem_of_mem_take hw)
      omega
  · obtain rfl : k = r.visits.length := by omega
    rw [Qb1]
    refine Qdw ?_
    rw [Qht]
    exact Qav.2 ⟨rfl, ⟨m, rfl, hm, fun i => by rw [hb, List.take_length]⟩⟩
theorem SetOf.has {s : Int} (h : SetOf l s) {i : Int} (h0 : 0 ≤ i) (h1 : i ≤ 62) : QdL s i = some (hasO l i) := by
  obtain ⟨m, rfl, hm, hb⟩ := h.ex
  rw [Qxx (by omega) h0 h1, hb, Int.toNat_of_nonneg h0]
theorem Qw4 (hx : QeM x) {s : Int} (h : SetOf l s) : QdS x s = some (!x.apart.any (Qsl l)) := by
  have ha := hx.apart
  have hx10 := hx.orders
  have := Qg6 (B := fun i => Qcq x s i) (l := x.apart) (by omega) (Qsl l) (y := (.inr false : Unit ⊕ Bool)) (N := .inl ()) (fun i a ha' => by
    obtain ⟨p0, p1, p2, p3, p4⟩ := hx.aparts a (List.mem_of_getElem? ha')
    show Qcq x s i = _
    unfold Qcq
    rw [Qc6 ha', h.has p0 (by omega), Qal, h.has p2 (by omega), Qal, incL ha' (by omega)]
    unfold Qsl
    cases hasO l a.x0 <;> cases hasO l a.x1 <;> rfl) (by
    show Qcq x s x.apart.length = _
    unfold Qcq
    rw [Qb1])
  unfold QdS
  rw [QdY this]
  cases x.apart.any (Qsl l) <;> rfl
theorem QAd {p : QaQ} (hne : p.x0 ≠ p.x1) (hb : hasO l p.x1 = true) : lateB l p = true ↔ ∃ j, j < l.length ∧ ∃ k, k < j ∧ (∃ v, l[j]? = some v ∧ v.order = p.x0) ∧ ∃ w, l[k]? = some w ∧ w.order = p.x1 := by
  unfold lateB
  cases h : ixP (isO p.x1) l with
  | none =>
    obtain ⟨w, hw, he⟩ := QwD.1 hb
    have := Qva h w hw
    rw [isO_t.2 he] at this
    cases this
  | some m =>
    obtain ⟨g1, g2, g3⟩ := Qqo h
    simp only
    rw [QwD]
    constructor
    · rintro ⟨v, hv, he⟩
      obtain ⟨q, hq, rfl⟩ := List.getElem_of_mem hv
      rw [List.length_drop] at hq
      rw [List.getElem_drop] at he
      have hmq : q ≠ 0 := fun h0 => by subst h0; exact hne (he.symm.trans (isO_t.1 (by simpa using g2)))
      exact ⟨m + q, by omega, m, by omega, ⟨_, List.getElem?_eq_getElem (by omega), he⟩, ⟨_, List.getElem?_eq_getElem g1, isO_t.1 g2⟩⟩
    · rintro ⟨j, hj, k, hk, ⟨v, hv, he⟩, ⟨w, hw, hwe⟩⟩
      have hmk : m ≤ k := Nat.le_of_not_lt fun hlt => by
        have := g3 k hlt
        rw [List.getElem?_eq_getElem (show k < l.length by omega)] at hw
        rw [Option.some.inj hw, isO_t.2 hwe] at this
        cases this
      exact ⟨v, List.mem_iff_getElem?.2 ⟨j - m, by rw [List.getElem?_drop, show m + (j - m) = j by omega, hv]⟩, he⟩
theorem Qwv (hx : QeM x) (hl : l.length ≤ 1048576) {s : Int} (h : SetOf l s) : Qdr x s l = some (!x.before.any (badB l)) := by
  have hbf := hx.before
  have hx10 := hx.orders
  have := Qg6 (B := fun i => Qb7 x s l i) (l := x.before) (by omega) (badB l) (y := (.inr false : Unit ⊕ Bool)) (N := .inl ()) (fun i a ha' => by
    obtain ⟨p0, p1, p2, p3, p4⟩ := hx.befores a (List.mem_of_getElem? ha')
    show Qb7 x s l i = _
    unfold Qb7
    rw [Qc6 ha', h.has p2 (by omega), Qal, h.has p0 (by omega), Qal, incL ha' (by omega)]
    have hP : badB l a = (hasO l a.x1 && (!hasO l a.x0 || lateB l a)) := rfl
    generalize badB l a = P at hP ⊢
    cases hb : hasO l a.x1 with
    | false => rw [hb] at hP; subst hP; rfl
    | true =>
      rw [hb] at hP
      cases hq : hasO l a.x0 with
      | false => rw [hq] at hP; subst hP; rfl
      | true =>
        rw [hq] at hP
        obtain rfl : P = lateB l a := hP
        have inner : loopF (fun q => Qb8 x s l (i : Int) a q) 0 = some (if lateB l a = true then .inr false else .inl ()) := by
          refine Qt2 hl (fun j => (List.range j).any fun k => match l[j]?, l[k]? with | some v, some w => decide (v.order = a.x0) && decide (w.order = a.x1) | _, _ => false) ?_ (fun j hj => ?_) ?_
          · rw [QAd p4 hb]
            constructor
            · rintro ⟨j, hj, k, hk, ⟨v, hv, e1⟩, ⟨w, hw, e2⟩⟩
              refine ⟨j, hj, List.any_eq_true.2 ⟨k, List.mem_range.2 hk, ?_⟩⟩
              rw [hv, hw]; simp [e1, e2]
            · rintro ⟨j, hj, hh⟩
              obtain ⟨k, hk, hm⟩ := List.any_eq_true.1 hh
              rw [List.mem_range] at hk
              rw [List.getElem?_eq_getElem hj, List.getElem?_eq_getElem (show k < l.length by omega)] at hm
              simp only [Bool.and_eq_true, decide_eq_true_iff] at hm
              exact ⟨j, hj, k, hk, ⟨_, List.getElem?_eq_getElem hj, hm.1⟩, ⟨_, List.getElem?_eq_getElem (show k < l.length by omega), hm.2⟩⟩
          · have ej : l[j]? = some l[j] := List.getElem?_eq_getElem hj
            show Qb8 x s l (i : Int) a j = _
            unfold Qb8
            rw [Qbj (by simp [lenI]; omega), inc hj hl]
            have in2 := Qt2 (B := fun q => Qb9 x s l (i : Int) a (j : Int) q) (n := j) (by omega) (fun k => match l[j]?, l[k]? with | some v, some w => decide (v.order = a.x0) && decide (w.order = a.x1) | _, _ => false) (y := (.inr false : Unit ⊕ Bool)) (N := .inl ())
              (b := (List.range j).any fun k => match l[j]?, l[k]? with | some v, some w => decide (v.order = a.x0) && decide (w.order = a.x1) | _, _ => false) (by
                rw [List.any_eq_true]
                exact ⟨fun ⟨k, hk, hm⟩ => ⟨k, List.mem_range.1 hk, hm⟩, fun ⟨k, hk, hm⟩ => ⟨k, List.mem_range.2 hk, hm⟩⟩) (fun k hk => by
              have ek : l[k]? = some (l[k]'(by omega)) := List.getElem?_eq_getElem _
              show Qb9 x s l (i : Int) a (j : Int) k = _
              unfold Qb9
              rw [Qbj (by simp; omega), QaP ej, Qal, QaP ek, Qal, inc (n := l.length) (by omega) hl, ej, ek]
              simp only [brs, eqI_t, Bool.and_eq_true, decide_eq_true_iff]
              by_cases c1 : (l[j]).order = a.x0
              · rw [if_pos c1]
                by_cases c2 : (l[k]'(by omega)).order = a.x1
                · rw [if_pos c2, if_pos ⟨c1, c2⟩]
                · rw [if_neg c2, if_neg fun h => c2 h.2]
              · rw [if_neg c1, if_neg fun h => c1 h.1]) (by
              show Qb9 x s l (i : Int) a (j : Int) j = _
              unfold Qb9
              rw [Qa0 (by simp)])
            rw [QdY in2]
            split <;> rfl
          · show Qb8 x s l (i : Int) a l.length = _
            unfold Qb8
            rw [Qa0 (by simp [lenI])]
        rw [Qhm, Qhm, QdY inner]
        cases lateB l a <;> rfl) (by
    show Qb7 x s l x.before.length = _
    unfold Qb7
    rw [Qb1])
  unfold Qdr
  rw [QdY this]
  cases x.before.any (badB l) <;> rfl
theorem Qt9 {r : Qac} (hx : QeM x) (hl : r.visits.length ≤ 1048576) : QfO x r = some (seqS x r.visits) := by
  unfold QfO seqS
  rw [QdY (Qg6 (B := fun s => Qco x r s) hl (fun v => !inO x v) (y := (.inr 2 : Unit ⊕ Int)) (N := .inl ()) (fun i a h => by
    show Qco x r i = _
    unfold Qco
    rw [Qc6 h, incL h hl]
    have hP : (!inO x a) = (ltI a.order 0 || geI a.order (lenI x.orders)) := by
      unfold inO lenI; rw [Bool.eq_iff_iff]; simp
    rw [hP]
    cases ltI a.order 0 <;> cases geI a.order (lenI x.orders) <;> rfl) (by
    show Qco x r r.visits.length = _
    unfold Qco
    rw [Qb1]))]
  by_cases h1 : r.visits.any (fun v => !inO x v) = true
  · rw [if_pos h1, QmO]
    split <;> rfl
  have h1' : r.visits.any (fun v => !inO x v) = false := by simpa using h1
  rw [if_neg h1, if_neg h1, Qht]
  obtain ⟨s, hs, hs0, hset⟩ := QAs hx hl h1'
  rw [hs, Qal, hs0]
  by_cases h0 : r.visits.length = 0
  · rw [Qbj (by simp [lenI, h0]), if_pos h0]
  rw [Qa0 (by simp only [lenI, neI, orF, eqI_f]; simp; intro h; exact h0 (by rw [h]; rfl)), if_neg h0]
  rw [QdY (Qg6 (B := fun q => QbV x r s q) hl (offV x) (y := (.inr 9 : Unit ⊕ Int)) (N := .inl ()) (fun i a h => by
    obtain ⟨h0, h1⟩ := QoV h1' (List.mem_of_getElem? h)
    obtain ⟨o, g1, g2, g3, _⟩ := Qv9 h0 h1
    show QbV x r s i = _
    unfold QbV
    rw [Qc6 h, g1, Qal, incL h hl, brs, g3]) (by
    show QbV x r s r.visits.length = _
    unfold QbV
    rw [Qb1]))]
  by_cases h2 : r.visits.any (offV x) = true
  · rw [if_pos h2, if_pos h2]; rfl
  rw [if_neg h2, if_neg h2, Qht]
  rw [QdY (Qt2 (B := fun q => QbF x r s q) hl (fun k => match r.visits[k]? with | some v => neI (ixI (isV v) r.visits) (k : Int) | none => false) (y := (.inr 6 : Unit ⊕ Int)) (N := .inl ()) (b := decide (¬ r.visits.Nodup)) (by
    rw [decide_eq_true_iff, QtR]
    constructor
    · rintro ⟨k, hk, j, hj, he⟩
      refine ⟨k, hk, ?_⟩
      rw [List.getElem?_eq_getElem hk] at he ⊢
      simp only [neI_t]
      intro h
      exact (QwE h).2 j hj he
    · rintro ⟨k, hk, h⟩
      rw [List.getElem?_eq_getElem hk] at h
      simp only [neI_t] at h
      have h0 := QBt.2 (List.getElem_mem hk)
      obtain ⟨m, hm⟩ : ∃ m : Nat, ixI (isV r.visits[k]) r.visits = m := ⟨(ixI (isV r.visits[k]) r.visits).toNat, by omega⟩
      obtain ⟨g1, g2⟩ := QwE hm
      have hmk : m < k := by
        rcases Nat.lt_trichotomy m k with h' | h' | h'
        · exact h'
        · exact absurd (by rw [hm, h']) h
        · exact absurd (List.getElem?_eq_getElem hk) (g2 k h')
      exact ⟨k, hk, m, hmk, by rw [g1, List.getElem?_eq_getElem hk]⟩) (fun i hi => by
    have h : r.visits[i]? = some r.visits[i] := List.getElem?_eq_getElem hi
    show QbF x r s i = _
    unfold QbF
    rw [Qc6 h, QoW hl, Qal, incL h hl, brs, h]) (by
    show QbF x r s r.visits.length = _
    unfold QbF
    rw [Qb1]))]
  by_cases h3 : ¬ r.visits.Nodup
  · rw [if_pos (decide_eq_true h3), if_pos h3]; rfl
  rw [if_neg (by rw [decide_eq_false h3]; decide), if_neg h3, Qht, QwI hx hl h1', Qal]
  by_cases h4 : r.visits.any (fun v => !pairV x r.visits v) = true
  · rw [Qa0 (by rw [h4]; rfl), if_pos h4]
  rw [Qbj (by simpa using h4), if_neg h4, Qw4 hx hset, Qal]
  by_cases h5 : x.apart.any (Qsl r.visits) = true
  · rw [Qa0 (by rw [h5]; rfl), if_pos h5]
  rw [Qbj (by simpa using h5), if_neg h5, Qwv hx hl hset, Qal]
  by_cases h6 : x.before.any (badB r.visits) = true
  · rw [Qa0 (by rw [h6]; rfl), if_pos h6]
  · rw [Qbj (by simpa using h6), if_neg h6]
end
end Go.Proofs.YtoogjnlmicgfiaaGreatDoor
namespace Go.Proofs.YtoogjnlmicgfiaaGreatDoor
set_option linter.unusedSimpArgs false
set_option linter.unusedVariables false
set_option linter.unusedSectionVars false
def sumN : Nat → (Nat → Int) → Int
  | 0, _ => 0
  | n + 1, f => sumN n f + f n
theorem QuP {f g : Nat → Int} : ∀ n, (∀ i, i < n → f i = g i) → sumN n f = sumN n g
  | 0, _ => rfl
  | n + 1, h => by unfold sumN; rw [QuP n fun i hi => h i (by omega), h n (by omega)]
theorem Qyw {f g : Nat → Int} {o : Nat} : ∀ n, o < n → (∀ i, i ≠ o → g i = f i) → sumN n g = sumN n f + (g o - f o)
  | 0, h, _ => by omega
  | n + 1, h, hg => by
    unfold sumN
    rcases Nat.lt_or_eq_of_le (Nat.le_of_lt_succ h) with h' | rfl
    · rw [Qyw n h' hg, hg n (by omega)]; omega
    · rw [QuP _ fun i hi => hg i (by omega)]; omega
theorem Qwm {f : Nat → Int} {n : Nat} : ∀ m, n ≤ m → (∀ i, n ≤ i → f i = 0) → sumN m f = sumN n f
  | 0, h, _ => by obtain rfl : n = 0 := by omega
                  rfl
  | m + 1, h, hf => by
    rcases Nat.lt_or_eq_of_le h with h' | rfl
    · unfold sumN; rw [Qwm m (by omega) hf, hf m (by omega)]
      cases n <;> simp [sumN]
    · rfl
theorem QzJ {f : Nat → Int} {c : Int} (hc : 0 ≤ c) : ∀ n, (∀ i, 0 ≤ f i ∧ f i ≤ c) → 0 ≤ sumN n f ∧ sumN n f ≤ n * c
  | 0, _ => by simp [sumN]
  | n + 1, h => by
    have h1 := QzJ hc n h
    have h2 := h n
    unfold sumN
    rw [show ((n + 1 : Nat) : Int) * c = n * c + c by rw [Int.natCast_add, Int.add_mul]; simp]
    omega
def vecN (D : Nat) (f : Nat → Int) : List Int := (List.range D).map f
theorem Qg9 {D : Nat} {f : Nat → Int} : (vecN D f).length = D := by simp [vecN]
theorem QkF {D : Nat} {f : Nat → Int} {k : Nat} (h : k < D) : (vecN D f)[k]? = some (f k) := by simp [vecN, h]
theorem QiP {D : Nat} {f g : Nat → Int} (h : ∀ d, d < D → f d = g d) : vecN D f = vecN D g := by
  unfold vecN
  exact List.map_congr_left fun d hd => h d (List.mem_range.1 hd)
theorem QAF {D : Nat} {f : Nat → Int} {k : Nat} {y : Int} (h : k < D) : setI (vecN D f) (k : Int) y = vecN D (fun d => if d = k then y else f d) := by
  unfold setI
  refine List.ext_getElem? fun i => ?_
  rw [List.getElem?_set]
  simp only [Int.toNat_natCast, Qg9]
  split
  · rename_i he
    subst he
    exact ((QkF (f := fun d => if d = k then y else f d) h).trans (by simp)).symm
  · rename_i he
    rcases Nat.lt_or_ge i D with h' | h'
    · rw [QkF h', QkF h', if_neg (by omega)]
    · rw [List.getElem?_eq_none (by rw [Qg9]; omega), List.getElem?_eq_none (by rw [Qg9]; omega)]
theorem QBl {l : List Int} : l = vecN l.length (fun d => l.getD d 0) := by
  refine List.ext_getElem? fun i => ?_
  rcases Nat.lt_or_ge i l.length with h | h
  · rw [QkF h, List.getElem?_eq_getElem h, List.getD_eq_getElem?_getD, List.getElem?_eq_getElem h]; rfl
  · rw [List.getElem?_eq_none h, List.getElem?_eq_none (by rw [Qg9]; omega)]
theorem QvP {D : Nat} {f g h : Nat → Int} (hD : D ≤ 3) {B : List Int × Int → Option ((List Int × Int) ⊕ (List Int))}
    (hin : ∀ (k : Nat) (l1 : List Int), k < D → l1.length = D → B (l1, (k : Int)) = some (.inl (setI l1 k (h k), (k : Int) + 1))) (hend : ∀ l1 : List Int, B (l1, (D : Int)) = some (.inr l1)) :
    loopF B (List.replicate D 0, 0) = some (vecN D h) := by
  have h0 : (List.replicate D (0 : Int), (0 : Int)) = (vecN D (fun d => if d < 0 then h d else 0), ((0 : Nat) : Int)) := by
    congr 1
    refine List.ext_getElem? fun i => ?_
    rcases Nat.lt_or_ge i D with h | h
    · rw [QkF h]; simp [h]
    · rw [List.getElem?_eq_none (by simp; omega), List.getElem?_eq_none (by rw [Qg9]; omega)]
  rw [h0]
  refine Qgv D (fun k => (vecN D (fun d => if d < k then h d else 0), (k : Int))) (by omega) (fun k hk => ?_) ?_
  · rw [hin k _ hk Qg9, QAF hk]
    simp only [Int.natCast_add, Int.cast_ofNat_Int]
    congr 3
    refine QiP fun d hd => ?_
    by_cases h1 : d = k
    · rw [if_pos h1, if_pos (by omega), h1]
    · rw [if_neg h1]
      by_cases h2 : d < k
      · rw [if_pos h2, if_pos (by omega)]
      · rw [if_neg h2, if_neg (by omega)]
  · rw [hend]
    congr 2
    exact QiP fun d hd => if_pos hd
theorem QAJ {D : Nat} {f g : Nat → Int} (hD : D ≤ 3) (hf : ∀ d, d < D → -4000000000 ≤ f d ∧ f d ≤ 4000000000) (hg : ∀ d, d < D → -4000000000 ≤ g d ∧ g d ≤ 4000000000) : QpG (vecN D f) (vecN D g) = some (vecN D (fun d => f d + g d), 0) := by
  unfold QpG Qhb
  rw [Qa0 (by simp [lenI, Qg9])]
  have hm : mkI (lenI (vecN D f)) (lenI (vecN D f)) 8 (0 : Int) = some (List.replicate D 0) := by
    unfold mkI lenI
    rw [Qg9, if_pos (by omega)]
    rfl
  rw [hm, Qal]
  rw [QdY (QvP (D := D) (f := f) (g := g) (h := fun d => f d + g d) hD (B := fun s => QbO (vecN D f) (vecN D g) (List.replicate D 0) s.1 s.2) (fun k l1 hk hl => by
    have a1 := hf k hk
    have a2 := hg k hk
    show QbO (vecN D f) (vecN D g) (List.replicate D 0) l1 k = _
    unfold QbO QqP
    rw [Qc6 (QkF hk), QaP (QkF hk), Qal, Qal, Qz6 (by omega), Qal, addI (by omega) (by omega), addI (by omega) (by omega)]) (fun l1 => by
    show QbO (vecN D f) (vecN D g) (List.replicate D 0) l1 D = _
    unfold QbO
    rw [Qa0 (by simp [lenI, Qg9])]))]
  rfl
theorem QBn {D : Nat} {f g : Nat → Int} (hD : D ≤ 3) (hf : ∀ d, d < D → -4000000000 ≤ f d ∧ f d ≤ 4000000000) (hg : ∀ d, d < D → -4000000000 ≤ g d ∧ g d ≤ 4000000000) : QqO (vecN D f) (vecN D g) = some (vecN D (fun d => f d - g d), 0) := by
  unfold QqO Qgz
  rw [Qa0 (by simp [lenI, Qg9])]
  have hm : mkI (lenI (vecN D f)) (lenI (vecN D f)) 8 (0 : Int) = some (List.replicate D 0) := by
    unfold mkI lenI
    rw [Qg9, if_pos (by omega)]
    rfl
  rw [hm, Qal]
  rw [QdY (QvP (D := D) (f := f) (g := g) (h := fun d => f d - g d) hD (B := fun s => QbC (vecN D f) (vecN D g) (List.replicate D 0) s.1 s.2) (fun k l1 hk hl => by
    have a1 := hf k hk
    have a2 := hg k hk
    show QbC (vecN D f) (vecN D g) (List.replicate D 0) l1 k = _
    unfold QbC QpH
    rw [Qc6 (QkF hk), QaP (QkF hk), Qal, Qal, Qz6 (by omega), Qal, subI (by omega) (by omega), addI (by omega) (by omega)]) (fun l1 => by
    show QbC (vecN D f) (vecN D g) (List.replicate D 0) l1 D = _
    unfold QbC
    rw [Qa0 (by simp [lenI, Qg9])]))]
  rfl
section
variable {x : Qad} {l : List Qab} {r : Qac}
theorem SetOf.Has {s : Int} (h : SetOf l s) {i : Int} (h0 : 0 ≤ i) (h1 : i ≤ 62) : QsQ s i = some (hasO l i) := by
  obtain ⟨m, rfl, hm, hb⟩ := h.ex
  obtain ⟨k, rfl⟩ : ∃ k : Nat, i = k := ⟨i.toNat, by omega⟩
  unfold QsQ
  rw [Qbj (by simp; omega), QfB (by omega), shrN (by omega)]
  have hd := Nat.div_le_self m (2 ^ k)
  rw [show (1 : Int) = ((1 : Nat) : Int) from rfl, andN (by omega) (by omega), Nat.and_one_is_mod, ← hb, Nat.testBit_eq_decide_div_mod_eq]
  congr 1
  generalize m / 2 ^ k = q
  rw [Bool.eq_iff_iff, eqI_t, decide_eq_true_iff]
  omega
theorem Qws (hx : QeM x) (hl : r.visits.length ≤ 1048576) (ho : r.visits.any (fun v => !inO x v) = false) : post (QhP r) fun s => s.2 = 0 ∧ SetOf r.visits s.1 := by
  have hx10 := hx.orders
  unfold QhP
  refine QnZ ?_
  refine Qeh (fun s => ∃ (k m : Nat), s = ((m : Int), (k : Int)) ∧ k ≤ r.visits.length ∧ m < 1024 ∧ ∀ i : Nat, m.testBit i = hasO (r.visits.take k) (i : Int)) (fun s => r.visits.length - s.2.toNat) ⟨0, 0, rfl, Nat.zero_le _, by omega, fun i => by simp [hasO]⟩ (by simp; omega) ?_
  rintro _ ⟨k, m, rfl, hk, hm, hb⟩
  show post (QeI r (m : Int) (k : Int)) _
  unfold QeI
  rcases Nat.lt_or_ge k r.visits.length with h | h
  · have e : r.visits[k]? = some r.visits[k] := List.getElem?_eq_getElem h
    have hin := QoV ho (List.getElem_mem h)
    have htk : r.visits.take (k + 1) = r.visits.take k ++ [r.visits[k]] := by rw [List.take_add_one, e]; rfl
    generalize r.visits[k] = v at e hin htk
    obtain ⟨n, hn⟩ : ∃ n : Nat, v.order = n := ⟨v.order.toNat, by omega⟩
    have hov : ∀ i : Nat, hasO (r.visits.take (k + 1)) (i : Int) = (hasO (r.visits.take k) (i : Int) || decide (n = i)) := fun i => by
      rw [htk]
      unfold hasO
      rw [List.any_append, List.any_cons, List.any_nil, Bool.or_false]
      congr 1
      rw [Bool.eq_iff_iff, isO_t, hn, decide_eq_true_iff]
      omega
    have h2 : 2 ^ n ≤ 2 ^ 9 := Nat.pow_le_pow_right (by omega) (by omega)
    rw [Qc6 e, Qa0 (by rw [hn]; simp; omega), QfB (by omega), incL e hl, hn, shlN (by omega), orN (by omega) (by omega)]
    have hbit : ∀ i, (m ||| 2 ^ n).testBit i = hasO (r.visits.take (k + 1)) (i : Int) := fun i => by rw [Nat.testBit_or, Nat.testBit_two_pow, hov, hb]
    refine Qgy ⟨⟨k + 1, m ||| 2 ^ n, by simp, h, ?_, hbit⟩, by simp; omega⟩
    exact Nat.or_lt_two_pow (n := 10) hm (by omega)
  · obtain rfl : k = r.visits.length := by omega
    rw [Qb1]
    refine Qdw ?_
    rw [Qht]
    exact Qav.2 ⟨rfl, ⟨m, rfl, hm, fun i => by rw [hb, List.take_length]⟩⟩
/-- The members of a set, of those below n. -/
def memN (l : List Qab) : Nat → List Int
  | 0 => []
  | n + 1 => memN l n ++ (if hasO l (n : Int) = true then [(n : Int)] else [])
theorem Qve : ∀ n, (memN l n).length ≤ n
  | 0 => Nat.le_refl 0
  | n + 1 => by have := Qve n; unfold memN; split <;> simp <;> omega
theorem QwZ {s : Int} (h : SetOf l s) : Qmg s = some (memN l 63) := by
  unfold Qmg
  have this : loopF (fun q : List Int × Int => Qdg s q.1 q.2) ([], 0) = some (memN l 63) := Qgv 63 (fun k => (memN l k, (k : Int))) (B := fun q => Qdg s q.1 q.2) (by omega) (fun k hk => by
    show Qdg s (memN l k) (k : Int) = _
    have := Qve (l := l) k
    unfold Qdg
    rw [Qbj (by simp; omega), h.Has (by omega) (by omega), Qal, addI (by omega) (by omega), QfB (by unfold okN; simp; omega), brs]
    show _ = some (Sum.inl (memN l k ++ (if hasO l (k : Int) = true then [(k : Int)] else []), ((k + 1 : Nat) : Int)))
    split <;> simp) (by
    show Qdg s (memN l 63) ((63 : Nat) : Int) = _
    unfold Qdg
    rw [Qa0 (by decide)])
  rw [QdY this]
end
end Go.Proofs.YtoogjnlmicgfiaaGreatDoor
namespace Go.Proofs.YtoogjnlmicgfiaaGreatDoor
set_option linter.unusedSimpArgs false
set_option linter.unusedVariables false
set_option linter.unusedSectionVars false
def sumF {α : Type} (f : α → Int) (l : List α) : Int := (l.map f).sum
theorem QsZ {α : Type} {f : α → Int} {a b : List α} : sumF f (a ++ b) = sumF f a + sumF f b := by simp [sumF, List.sum_append]
theorem Qs0 {α : Type} {f : α → Int} {a : α} : sumF f [a] = f a := by simp [sumF]
theorem Qyv {α : Type} {f : α → Int} : sumF f [] = 0 := rfl
theorem QrE {α : Type} {l : List α} {k : Nat} {a : α} (h : l[k]? = some a) : l.take (k + 1) = l.take k ++ [a] := by rw [List.take_add_one, h]; rfl
theorem Qwl {α : Type} {f : α → Int} {l : List α} {k : Nat} {a : α} (h : l[k]? = some a) : sumF f (l.take (k + 1)) = sumF f (l.take k) + f a := by rw [QrE h, QsZ, Qs0]
theorem Qyu {α : Type} {f : α → Int} : ∀ {l : List α}, (∀ a ∈ l, 0 ≤ f a ∧ f a ≤ 1000) → 0 ≤ sumF f l ∧ sumF f l ≤ 1000 * l.length
  | [], _ => by simp [sumF]
  | a :: l, h => by
    have h1 := Qyu (f := f) (l := l) fun b hb => h b (List.mem_cons_of_mem _ hb)
    have h2 := h a (List.mem_cons_self ..)
    have e : sumF f (a :: l) = f a + sumF f l := by simp [sumF]
    rw [e, List.length_cons]
    omega
section
variable (x : Qad)
def loadO (i d : Nat) : Int := match x.orders[i]? with
  | some o => o.load.getD d 0
  | none => 0
def pk0 (i : Nat) : Bool := match x.orders[i]? with
  | some o => decide (o.pick.place < 0)
  | none => false
/-- Is an order on board after these visits? -/
def onK (l : List Qab) (i : Nat) : Bool := l.foldl (fun b v => if v.order = (i : Int) then !v.drop else b) (pk0 x i)
def incl (l : List Qab) (k i d : Nat) : Int := if (hasO l (i : Int) && onK x (l.take k) i) = true then loadO x i d else 0
/-- What is on board after k visits. -/
def loadK (l : List Qab) (k d : Nat) : Int := sumN x.orders.length fun i => incl x l k i d
end
section
variable {x : Qad} {l : List Qab} {r : Qac}
theorem QxU (hx : QeM x) {i : Nat} (hi : i < x.orders.length) : ∃ o, x.orders[i]? = some o ∧ o ∈ x.orders ∧ o.load = vecN (QdP x.types) (loadO x i) ∧ (∀ d, 0 ≤ loadO x i d ∧ loadO x i d ≤ 1000) ∧ pk0 x i = decide (o.pick.place < 0) := by
  have e : x.orders[i]? = some x.orders[i] := List.getElem?_eq_getElem hi
  have hm := List.getElem_mem hi
  generalize x.orders[i] = o at e hm
  have hO := hx.ord o hm
  refine ⟨o, e, hm, ?_, fun d => ?_, by unfold pk0; rw [e]⟩
  · have := QBl (l := o.load)
    rw [hO.load] at this
    rw [this]
    refine QiP fun d hd => ?_
    unfold loadO
    rw [e]
  · unfold loadO
    rw [e]
    simp only
    rw [List.getD_eq_getElem?_getD]
    rcases Nat.lt_or_ge d o.load.length with h | h
    · rw [List.getElem?_eq_getElem h]
      exact hO.loads d h _ (List.getElem?_eq_getElem h)
    · rw [List.getElem?_eq_none h]; simp
theorem Qvd (hx : QeM x) (i d : Nat) : 0 ≤ loadO x i d ∧ loadO x i d ≤ 1000 := by
  rcases Nat.lt_or_ge i x.orders.length with h | h
  · obtain ⟨o, _, _, _, h, _⟩ := QxU hx h
    exact h d
  · unfold loadO
    rw [List.getElem?_eq_none h]; simp
theorem QAi (hx : QeM x) (k d : Nat) : 0 ≤ loadK x l k d ∧ loadK x l k d ≤ 10000 := by
  have h := QzJ (f := fun i => incl x l k i d) (c := 1000) (by omega) x.orders.length fun i => by
    have := Qvd hx i d
    unfold incl
    split <;> omega
  have := hx.orders
  unfold loadK
  omega
theorem QvR (hx : QeM x) : 1 ≤ QdP x.types ∧ QdP x.types ≤ 3 := by
  have h1 := hx.types1
  cases ht : x.types with
  | nil => rw [ht] at h1; simp at h1
  | cons t ts =>
    have := (hx.typ t (by rw [ht]; simp)).dims1
    rw [ht] at this
    exact this
structure SeqOK (x : Qad) (l : List Qab) : Prop where
  ne : l.length ≠ 0
  inn : l.any (fun v => !inO x v) = false
  off : l.any (offV x) = false
  nodup : l.Nodup
  pair : ∀ v ∈ l, pairV x l v = true
  apart : x.apart.any (Qsl l) = false
  before : x.before.any (badB l) = false
theorem Qyn (h : seqS x l = 0) : SeqOK x l := by
  unfold seqS at h
  by_cases h0 : l.length = 0
  · rw [if_pos h0] at h; cases h
  rw [if_neg h0] at h
  by_cases h1 : l.any (fun v => !inO x v) = true
  · rw [if_pos h1] at h; cases h
  rw [if_neg h1] at h
  by_cases h2 : l.any (offV x) = true
  · rw [if_pos h2] at h; cases h
  rw [if_neg h2] at h
  by_cases h3 : ¬ l.Nodup
  · rw [if_pos h3] at h; cases h
  rw [if_neg h3] at h
  by_cases h4 : l.any (fun v => !pairV x l v) = true
  · rw [if_pos h4] at h; cases h
  rw [if_neg h4] at h
  by_cases h5 : x.apart.any (Qsl l) = true
  · rw [if_pos h5] at h; cases h
  rw [if_neg h5] at h
  by_cases h6 : x.before.any (badB l) = true
  · rw [if_pos h6] at h; cases h
  refine ⟨h0, by simpa using h1, by simpa using h2, Classical.not_not.1 h3, fun v hv => ?_, by simpa using h5, by simpa using h6⟩
  have := List.any_eq_false.1 (by simpa using h4 : l.any (fun v => !pairV x l v) = false) v hv
  simpa using this
theorem Qsc {b : Bool} {i : Nat} : ∀ {m : List Qab}, (∀ v ∈ m, v.order ≠ (i : Int)) → m.foldl (fun b v => if v.order = (i : Int) then !v.drop else b) b = b
  | [], _ => rfl
  | v :: m, h => by
    rw [List.foldl_cons, if_neg (h v (List.mem_cons_self ..))]
    exact Qsc fun w hw => h w (List.mem_cons_of_mem _ hw)
theorem Qu4 {c : Bool} {i : Nat} : ∀ {m : List Qab} {b : Bool}, (∀ v ∈ m, v.order = (i : Int) → v.drop = c) → (b = (!c) ∨ ∃ v ∈ m, v.order = (i : Int)) → m.foldl (fun b v => if v.order = (i : Int) then !v.drop else b) b = !c
  | [], b, _, h => by
    rcases h with h | ⟨v, hv, _⟩
    · exact h
    · cases hv
  | v :: m, b, h, h' => by
    rw [List.foldl_cons]
    by_cases hv : v.order = (i : Int)
    · rw [if_pos hv]
      exact Qu4 (fun w hw => h w (List.mem_cons_of_mem _ hw)) (.inl (by rw [h v (List.mem_cons_self ..) hv]))
    · rw [if_neg hv]
      refine Qu4 (fun w hw => h w (List.mem_cons_of_mem _ hw)) ?_
      rcases h' with h' | ⟨w, hw, he⟩
      · exact .inl h'
      · rcases List.mem_cons.1 hw with rfl | hw
        · exact absurd he hv
        · exact .inr ⟨w, hw, he⟩
theorem QtQ {j k : Nat} (h : l.Nodup) {v : Qab} (hj : l[j]? = some v) (hk : l[k]? = some v) : j = k := by
  refine Classical.byContradiction fun hne => ?_
  have hj' := (List.getElem?_eq_some_iff.1 hj).1
  have hk' := (List.getElem?_eq_some_iff.1 hk).1
  refine (QtR.2 ?_) h
  rcases Nat.lt_or_gt_of_ne hne with hlt | hlt
  · exact ⟨k, hk', j, hlt, by rw [hj, hk]⟩
  · exact ⟨j, hj', k, hlt, by rw [hj, hk]⟩
/-- A visit finds its order where it must be. -/
theorem on_at (hx : QeM x) (h : SeqOK x l) {k : Nat} {v : Qab} (hk : l[k]? = some v) {i : Nat} (hi : v.order = (i : Int)) : onK x (l.take k) i = v.drop := by
  have hv := List.mem_of_getElem? hk
  have hkl := (List.getElem?_eq_some_iff.1 hk).1
  have hin := QoV h.inn hv
  obtain ⟨o, e, hm, _, _, hp⟩ := QxU hx (show i < x.orders.length by omega)
  have hO := hx.ord o hm
  -- each visit of the order is one of the order's visits
  have vis : ∀ w ∈ l, w.order = (i : Int) → w ∈ visO x (i : Int) ∧ rowB l (visO x (i : Int)) = true := fun w hw he => by
    have := h.pair w hw
    unfold pairV at this
    rw [he, Bool.and_eq_true, any_V] at this
    exact this
  have hvo : visO x (i : Int) = (if 0 ≤ o.pick.place then [Qab.mk i false] else []) ++ (if 0 ≤ o.drop.place then [Qab.mk i true] else []) := by
    unfold visO
    rw [Int.toNat_natCast, e]
  have same : ∀ w ∈ l.take k, w.order = (i : Int) → w ≠ v := fun w hw _ he => by
    obtain ⟨j, hj, hje⟩ := (QqF (by omega)).1 hw
    rw [he] at hje
    have := QtQ h.nodup hje hk
    omega
  have drop_or : ∀ w : Qab, w.order = (i : Int) → w = Qab.mk i w.drop := fun w hw => by cases w; simp at hw; subst hw; rfl
  obtain ⟨v1, v2⟩ := vis v hv hi
  unfold onK
  by_cases hpk : 0 ≤ o.pick.place
  · have hp' : pk0 x i = false := by rw [hp]; simp; omega
    rw [if_pos hpk] at hvo
    by_cases hdr : 0 ≤ o.drop.place
    · rw [if_pos hdr] at hvo
      rw [hvo] at v2
      simp only [List.cons_append, List.nil_append, rowB, Bool.and_eq_true, geI_t, ltI_t] at v2
      obtain ⟨p, hpp⟩ : ∃ p : Nat, ixI (isV (Qab.mk i false)) l = p := ⟨(ixI (isV (Qab.mk i false)) l).toNat, by omega⟩
      obtain ⟨q, hqq⟩ : ∃ q : Nat, ixI (isV (Qab.mk i true)) l = q := ⟨(ixI (isV (Qab.mk i true)) l).toNat, by omega⟩
      obtain ⟨p1, p2⟩ := QwE hpp
      obtain ⟨q1, q2⟩ := QwE hqq
      have hpq : p < q := by omega
      cases hd : v.drop with
      | false =>
        have hve := drop_or v hi
        rw [hd] at hve
        have hkp : k = p := QtQ h.nodup (hve ▸ hk) p1
        rw [Qsc fun w hw he => ?_, hp']
        have hwe := drop_or w he
        cases hwd : w.drop with
        | false => rw [hwd] at hwe; exact same w hw he (hwe.trans hve.symm)
        | true =>
          rw [hwd] at hwe
          obtain ⟨j, hj, hje⟩ := (QqF (by omega)).1 hw
          have := QtQ h.nodup (hwe ▸ hje) q1
          omega
      | true =>
        have hve := drop_or v hi
        rw [hd] at hve
        have hkq : k = q := QtQ h.nodup (hve ▸ hk) q1
        refine Qu4 (c := false) (fun w hw he => ?_) (.inr ⟨Qab.mk i false, (QqF (by omega)).2 ⟨p, by omega, p1⟩, rfl⟩)
        have hwe := drop_or w he
        cases hwd : w.drop with
        | false => rfl
        | true => rw [hwd] at hwe; exact absurd (hwe.trans hve.symm) (same w hw he)
    · rw [if_neg hdr, List.append_nil] at hvo
      have only : ∀ w ∈ l, w.order = (i : Int) → w = Qab.mk i false := fun w hw he => by
        have := (vis w hw he).1
        rw [hvo] at this
        exact List.mem_singleton.1 this
      rw [Qsc fun w hw he => same w hw he ((only w (List.mem_of_mem_take hw) he).trans (only v hv hi).symm), hp', only v hv hi]
  · have hp' : pk0 x i = true := by rw [hp]; simp; omega
    rw [if_neg hpk, List.nil_append] at hvo
    have only : ∀ w ∈ l, w.order = (i : Int) → w = Qab.mk i true := fun w hw he => by
      have := (vis w hw he).1
      rw [hvo] at this
      split at this
      · exact List.mem_singleton.1 this
      · cases this
    rw [Qsc fun w hw he => same w hw he ((only w (List.mem_of_mem_take hw) he).trans (only v hv hi).symm), hp', only v hv hi]
theorem QtS {k i : Nat} {v : Qab} (hk : l[k]? = some v) : onK x (l.take (k + 1)) i = if v.order = (i : Int) then !v.drop else onK x (l.take k) i := by
  unfold onK
  rw [QrE hk, List.foldl_append]
  rfl
theorem QxH (hx : QeM x) (h : SeqOK x l) {k : Nat} {v : Qab} (hk : l[k]? = some v) {i : Nat} (hi : v.order = (i : Int)) (d : Nat) :
    loadK x l (k + 1) d = if v.drop = true then loadK x l k d - loadO x i d else loadK x l k d + loadO x i d := by
  have hin := QoV h.inn (List.mem_of_getElem? hk)
  unfold loadK
  rw [Qyw (f := fun j => incl x l k j d) (g := fun j => incl x l (k + 1) j d) (o := i) x.orders.length (by omega) (fun j hj => by
    show incl x l (k + 1) j d = incl x l k j d
    have e1 : onK x (l.take (k + 1)) j = onK x (l.take k) j := by rw [QtS hk, if_neg (by omega)]
    unfold incl
    rw [e1])]
  have ha : hasO l (i : Int) = true := QwD.2 ⟨v, List.mem_of_getElem? hk, hi⟩
  simp only [incl, ha, Bool.true_and]
  rw [QtS hk, if_pos hi, on_at hx h hk hi]
  cases v.drop
  · simp
  · simp
    omega
end
end Go.Proofs.YtoogjnlmicgfiaaGreatDoor
namespace Go.Proofs.YtoogjnlmicgfiaaGreatDoor
set_option linter.unusedSimpArgs false
set_option linter.unusedVariables false
set_option linter.unusedSectionVars false
section
variable {x : Qad} {l : List Qab} {r : Qac}
theorem Qxj (hx : QeM x) : QoS x.types = some (QdP x.types : Int) ∧ Qgr x = some (QdP x.types : Int) := by
  have h1 := hx.types1
  unfold QoS Qgr
  cases ht : x.types with
  | nil => rw [ht] at h1; simp at h1
  | cons t ts =>
    constructor
    · rw [Qa0 (by simp [lenI]; omega)]; rfl
    · rw [Qa0 (by simp [lenI]; omega)]; rfl
theorem QxP {i : Int} : ∀ {n : Nat}, i ∈ memN l n → ∃ k : Nat, i = k ∧ k < n ∧ hasO l (k : Int) = true
  | 0, h => by cases h
  | n + 1, h => by
    unfold memN at h
    rcases List.mem_append.1 h with h | h
    · obtain ⟨k, h1, h2, h3⟩ := QxP h
      exact ⟨k, h1, by omega, h3⟩
    · split at h
      · exact ⟨n, List.mem_singleton.1 h, by omega, ‹_›⟩
      · cases h
theorem QA3 (h : SeqOK x l) {i : Int} (hi : hasO l i = true) : 0 ≤ i ∧ i < x.orders.length := by
  obtain ⟨v, hv, rfl⟩ := QwD.1 hi
  exact QoV h.inn hv
theorem Qxa {α β : Type} {a : β} {y z : Option α} : br (neI (a, (0 : Int)).2 0) y z = z := rfl
def stO (x : Qad) (d : Nat) (i : Int) : Int := if pk0 x i.toNat = true then loadO x i.toNat d else 0
theorem QBD (hx : QeM x) (d : Nat) (i : Int) : 0 ≤ stO x d i ∧ stO x d i ≤ 1000 := by
  have := Qvd hx i.toNat d
  unfold stO
  split <;> omega
theorem QzK (d : Nat) : ∀ n, sumF (stO x d) (memN l n) = sumN n fun i => if (hasO l (i : Int) && pk0 x i) = true then loadO x i d else 0
  | 0 => rfl
  | n + 1 => by
    show sumF (stO x d) (memN l n ++ (if hasO l (n : Int) = true then [(n : Int)] else [])) = sumN n _ + (if (hasO l (n : Int) && pk0 x n) = true then loadO x n d else 0)
    rw [QsZ, QzK d n]
    by_cases hh : hasO l (n : Int) = true
    · rw [if_pos hh, Qs0, hh, Bool.true_and]; rfl
    · rw [if_neg hh, Qyv, if_neg (by simp [hh])]
theorem Qzi (hx : QeM x) (h : SeqOK x l) {s : Int} (hs : SetOf l s) : Qm0 x s (QdP x.types : Int) = some (vecN (QdP x.types) (loadK x l 0)) := by
  obtain ⟨hd1, hd3⟩ := QvR hx
  have hx10 := hx.orders
  have hm := Qve (l := l) 63
  unfold Qm0
  have hz : mkI (QdP x.types : Int) (QdP x.types : Int) 8 (0 : Int) = some (vecN (QdP x.types) fun d => 0) := by
    unfold mkI
    rw [if_pos (by omega)]
    congr 1
    refine List.ext_getElem? fun i => ?_
    rcases Nat.lt_or_ge i (QdP x.types) with h | h
    · rw [QkF h]; simp [h]
    · rw [List.getElem?_eq_none (by simp; omega), List.getElem?_eq_none (by rw [Qg9]; omega)]
  rw [hz, Qal, QwZ hs, Qal]
  have hmem : ∀ i ∈ memN l 63, ∃ k : Nat, i = k ∧ k < 63 ∧ hasO l (k : Int) = true := fun i hi => QxP hi
  have hsum : ∀ d, sumF (stO x d) (memN l 63) = sumN 63 fun i => if (hasO l (i : Int) && pk0 x i) = true then loadO x i d else 0 := fun d => QzK d 63
  generalize memN l 63 = M at *
  have this : loopF (fun q : List Int × Int => QdJ x (vecN (QdP x.types) fun d => 0) M q.1 q.2) (vecN (QdP x.types) (fun d => 0), 0) = some (vecN (QdP x.types) fun d => sumF (stO x d) M) := by
    have := Qgv M.length (fun k => (vecN (QdP x.types) (fun d => sumF (stO x d) (M.take k)), (k : Int))) (B := fun q : List Int × Int => QdJ x (vecN (QdP x.types) fun d => 0) M q.1 q.2) (e := vecN (QdP x.types) fun d => sumF (stO x d) M) (by omega) (fun k hk => by
      have e : M[k]? = some M[k] := List.getElem?_eq_getElem hk
      obtain ⟨i, hi, _, hh⟩ := hmem _ (List.getElem_mem hk)
      rw [hi] at e
      have hil := QA3 h hh
      obtain ⟨o, eo, hmo, ho, hb, hp⟩ := QxU hx (show i < x.orders.length by omega)
      show QdJ x (vecN (QdP x.types) fun d => 0) M (vecN (QdP x.types) (fun d => sumF (stO x d) (M.take k))) (k : Int) = some (Sum.inl (vecN (QdP x.types) (fun d => sumF (stO x d) (M.take (k + 1))), ((k + 1 : Nat) : Int)))
      unfold QdJ
      rw [Qc6 e, QaP eo, Qal, incL e (by omega), ho]
      have step : ∀ d, sumF (stO x d) (M.take (k + 1)) = sumF (stO x d) (M.take k) + stO x d (i : Int) := fun d => Qwl e
      have sb : ∀ d, 0 ≤ sumF (stO x d) (M.take k) ∧ sumF (stO x d) (M.take k) ≤ 1000 * (M.take k).length := fun d => Qyu fun a _ => QBD hx d a
      have hlt : (M.take k).length ≤ 63 := by rw [List.length_take]; omega
      have hst : ∀ d, stO x d (i : Int) = if o.pick.place < 0 then loadO x i d else 0 := fun d => by
        unfold stO
        rw [Int.toNat_natCast, hp]
        simp
      by_cases hpl : o.pick.place < 0
      · rw [Qbj (by simpa using hpl), QAJ hd3 (fun d _ => by have := sb d; omega) (fun d _ => by have := hb d; omega), Qal]
        congr 3
        exact QiP fun d _ => by rw [step, hst, if_pos hpl]
      · rw [Qa0 (by simp; omega)]
        congr 3
        exact QiP fun d _ => by rw [step, hst, if_neg hpl]; omega) (by
      show QdJ x (vecN (QdP x.types) fun d => 0) M (vecN (QdP x.types) (fun d => sumF (stO x d) (M.take M.length))) (M.length : Int) = _
      unfold QdJ
      rw [Qb1, List.take_length])
    exact this
  rw [QdY this]
  congr 1
  refine QiP fun d _ => ?_
  rw [hsum, Qwm (n := x.orders.length) 63 (by omega) fun i hi => by
    rw [if_neg]
    intro hh
    rw [Bool.and_eq_true] at hh
    have := QA3 h hh.1
    omega]
  unfold loadK incl
  rfl
/-- All the loads. -/
def QgO (x : Qad) (l : List Qab) (n : Nat) : List (List Int) := (List.range n).map fun k => vecN (QdP x.types) (loadK x l k)
theorem Qsz {n : Nat} : (QgO x l n).length = n := by simp [QgO]
theorem Qtr {n : Nat} : QgO x l (n + 1) = QgO x l n ++ [vecN (QdP x.types) (loadK x l n)] := by simp [QgO, List.range_succ]
theorem QzP (hx : QeM x) (hl : r.visits.length ≤ 1048576) (h : SeqOK x r.visits) (h0 : seqS x r.visits = 0) : QmZ x r = some (QgO x r.visits (r.visits.length + 1), 0) := by
  obtain ⟨hd1, hd3⟩ := QvR hx
  have hx10 := hx.orders
  unfold QmZ
  rw [QwX hx hl, Qal, h0, Qa0 (by decide)]
  obtain ⟨s, hs, hs0, hset⟩ := Qws hx hl h.inn
  rw [hs, Qal, hs0, Qa0 (by decide), (Qxj hx).1, Qal, Qzi hx h hset, Qal]
  have this : loopF (fun q : List (List Int) × List Int × Int => QdI x r q.1 q.2.1 q.2.2) ([vecN (QdP x.types) (loadK x r.visits 0)], vecN (QdP x.types) (loadK x r.visits 0), 0) = some (.inl (QgO x r.visits (r.visits.length + 1))) := by
    have := Qgv r.visits.length (fun k => (QgO x r.visits (k + 1), vecN (QdP x.types) (loadK x r.visits k), (k : Int))) (B := fun q : List (List Int) × List Int × Int => QdI x r q.1 q.2.1 q.2.2) (e := .inl (QgO x r.visits (r.visits.length + 1))) (by omega) (fun k hk => by
      have e : r.visits[k]? = some r.visits[k] := List.getElem?_eq_getElem hk
      have hin := QoV h.inn (List.getElem_mem hk)
      generalize r.visits[k] = v at e hin
      obtain ⟨i, hi⟩ : ∃ i : Nat, v.order = i := ⟨v.order.toNat, by omega⟩
      obtain ⟨o, eo, hmo, ho, hb, hp⟩ := QxU hx (show i < x.orders.length by omega)
      have hst := QxH hx h e hi
      have hk0 := fun d => QAi (l := r.visits) hx k d
      show QdI x r (QgO x r.visits (k + 1)) (vecN (QdP x.types) (loadK x r.visits k)) (k : Int) = some (Sum.inl (QgO x r.visits (k + 1 + 1), vecN (QdP x.types) (loadK x r.visits (k + 1)), ((k + 1 : Nat) : Int)))
      unfold QdI
      have ok : okN (QgO x r.visits (k + 1) ++ [vecN (QdP x.types) (loadK x r.visits (k + 1))]).length 24 := by unfold okN; simp [Qsz]; omega
      rw [Qc6 e, hi, QaP eo, Qal, Qal, incL e hl, ho, Qtr (n := k + 1)]
      cases hd : v.drop with
      | true =>
        rw [Qhm, QBn hd3 (fun d _ => by have := hk0 d; omega) (fun d _ => by have := hb d; omega), Qal, Qxa]
        have ev : vecN (QdP x.types) (fun d => loadK x r.visits k d - loadO x i d) = vecN (QdP x.types) (loadK x r.visits (k + 1)) := QiP fun d _ => by rw [hst, if_pos hd]
        simp only [ev]
        rw [QfB ok]
        rfl
      | false =>
        rw [Qh1, QAJ hd3 (fun d _ => by have := hk0 d; omega) (fun d _ => by have := hb d; omega), Qal, Qxa]
        have ev : vecN (QdP x.types) (fun d => loadK x r.visits k d + loadO x i d) = vecN (QdP x.types) (loadK x r.visits (k + 1)) := QiP fun d _ => by rw [hst, if_neg (by rw [hd]; decide)]
        simp only [ev]
        rw [QfB ok]
        rfl) (by
      show QdI x r (QgO x r.visits (r.visits.length + 1)) (vecN (QdP x.types) (loadK x r.visits r.visits.length)) (r.visits.length : Int) = _
      unfold QdI
      rw [Qb1])
    exact this
  rw [QdY this]
  rfl
def ldN (x : Qad) (l : List Qab) (n : Nat) : Nat → List (List Int)
  | 0 => []
  | i + 1 => ldN x l n i ++ (if (onK x (l.take n) i && hasO l (i : Int)) = true then [vecN (QdP x.types) (loadO x i)] else [])
theorem QxF {n : Nat} : ∀ i, (ldN x l n i).length ≤ i
  | 0 => Nat.le_refl 0
  | i + 1 => by have := QxF (n := n) i; unfold ldN; split <;> simp <;> omega
theorem QxG {n : Nat} {a : List Int} : ∀ {i}, a ∈ ldN x l n i → ∃ j, a = vecN (QdP x.types) (loadO x j)
  | 0, h => by cases h
  | i + 1, h => by
    unfold ldN at h
    rcases List.mem_append.1 h with h | h
    · exact QxG h
    · split at h
      · exact ⟨i, List.mem_singleton.1 h⟩
      · cases h
theorem Qzw {n d : Nat} (hd : d < QdP x.types) : ∀ i, sumF (fun a : List Int => a.getD d 0) (ldN x l n i) = sumN i fun j => incl x l n j d
  | 0 => rfl
  | i + 1 => by
    show sumF (fun a : List Int => a.getD d 0) (ldN x l n i ++ (if (onK x (l.take n) i && hasO l (i : Int)) = true then [vecN (QdP x.types) (loadO x i)] else [])) = sumN i _ + (if (hasO l (i : Int) && onK x (l.take n) i) = true then loadO x i d else 0)
    rw [QsZ, Qzw hd i, Bool.and_comm]
    split
    · rw [Qs0, List.getD_eq_getElem?_getD, QkF hd]; rfl
    · rw [Qyv]
theorem QAB {D : Nat} (hD : D ≤ 3) {m : List (List Int)} (hm : m.length ≤ 1000) (hl : ∀ a ∈ m, a.length = D) (hb : ∀ a ∈ m, ∀ d, 0 ≤ a.getD d 0 ∧ a.getD d 0 ≤ 1000) : Qhc m (D : Int) = some (vecN D fun d => sumF (fun a => a.getD d 0) m, 0) := by
  have even : QhG m (D : Int) = some true := by
    unfold QhG
    rw [Qa0 (by simp; omega), QdY (Qg6 (B := fun s => QcL m (D : Int) s) (l := m) (by omega) (fun a => neI (lenI a) (D : Int)) (y := (.inr false : Unit ⊕ Bool)) (N := .inl ()) (fun i a h => by
      show QcL m (D : Int) i = _
      unfold QcL
      rw [Qc6 h, incL h (by omega), brs]) (by
      show QcL m (D : Int) m.length = _
      unfold QcL
      rw [Qb1]))]
    rw [if_neg]
    · rfl
    · rw [List.any_eq_true]
      rintro ⟨a, ha, h⟩
      rw [neI_t, lenI, hl a ha] at h
      exact h rfl
  unfold Qhc
  rw [even, Qal, Qhm]
  have this : loopF (fun q : List Int × Int => QcE m (D : Int) q.1 q.2) ([], 0) = some (vecN D fun d => sumF (fun a => a.getD d 0) m) := by
    have := Qgv D (fun k => (vecN k (fun d => sumF (fun a => a.getD d 0) m), (k : Int))) (B := fun q : List Int × Int => QcE m (D : Int) q.1 q.2) (e := vecN D fun d => sumF (fun a => a.getD d 0) m) (by omega) (fun k hk => by
      show QcE m (D : Int) (vecN k (fun d => sumF (fun a => a.getD d 0) m)) (k : Int) = some (Sum.inl (vecN (k + 1) (fun d => sumF (fun a => a.getD d 0) m), ((k + 1 : Nat) : Int)))
      unfold QcE
      rw [Qbj (by simp; omega)]
      have inner : loopF (fun q : Int × Int => QcF m (D : Int) (vecN k (fun d => sumF (fun a => a.getD d 0) m)) (k : Int) q.1 q.2) (0, 0) = some (sumF (fun a => a.getD k 0) m) := by
        have := Qgv m.length (fun j => (sumF (fun a : List Int => a.getD k 0) (m.take j), (j : Int))) (B := fun q : Int × Int => QcF m (D : Int) (vecN k (fun d => sumF (fun a => a.getD d 0) m)) (k : Int) q.1 q.2) (e := sumF (fun a => a.getD k 0) m) (by omega) (fun j hj => by
          have e : m[j]? = some m[j] := List.getElem?_eq_getElem hj
          have hmj := List.getElem_mem hj
          generalize m[j] = a at e hmj
          have ha := hl a hmj
          have hab := hb a hmj k
          have e2 : a[k]? = some (a.getD k 0) := by rw [List.getD_eq_getElem?_getD, List.getElem?_eq_getElem (show k < a.length by omega)]; rfl
          have sb := Qyu (f := fun a : List Int => a.getD k 0) (l := m.take j) fun c hc => hb c (List.mem_of_mem_take hc) k
          have hlt : (m.take j).length ≤ 1000 := by rw [List.length_take]; omega
          show QcF m (D : Int) (vecN k (fun d => sumF (fun a => a.getD d 0) m)) (k : Int) (sumF (fun a : List Int => a.getD k 0) (m.take j)) (j : Int) = some (Sum.inl (sumF (fun a : List Int => a.getD k 0) (m.take (j + 1)), ((j + 1 : Nat) : Int)))
          unfold QcF
          rw [Qc6 e, QaP e2, Qal, incL e (by omega), addI (by omega) (by omega), Qwl e]
          rfl) (by
          show QcF m (D : Int) (vecN k (fun d => sumF (fun a => a.getD d 0) m)) (k : Int) (sumF (fun a : List Int => a.getD k 0) (m.take m.length)) (m.length : Int) = _
          unfold QcF
          rw [Qb1, List.take_length])
        exact this
      have ev : vecN (k + 1) (fun d => sumF (fun a : List Int => a.getD d 0) m) = vecN k (fun d => sumF (fun a : List Int => a.getD d 0) m) ++ [sumF (fun a : List Int => a.getD k 0) m] := by simp [vecN, List.range_succ]
      rw [QdY inner, QfB (by unfold okN; simp [Qg9]; omega), addI (by omega) (by omega), ev]
      rfl) (by
      show QcE m (D : Int) (vecN D (fun d => sumF (fun a => a.getD d 0) m)) (D : Int) = _
      unfold QcE
      rw [Qa0 (by simp)])
    exact this
  rw [QdY this]
theorem QyF (hx : QeM x) (hl : l.length ≤ 1048576) {n : Nat} (hn : n ≤ l.length) : Qg1 x l (n : Int) = some (vecN (QdP x.types) (loadK x l n), 0) := by
  obtain ⟨hd1, hd3⟩ := QvR hx
  have hx10 := hx.orders
  unfold Qg1
  have this : loopF (fun q : List (List Int) × Int => QbX x l (n : Int) q.1 q.2) ([], 0) = some (ldN x l n x.orders.length) := by
    have := Qgv x.orders.length (fun k => (ldN x l n k, (k : Int))) (B := fun q : List (List Int) × Int => QbX x l (n : Int) q.1 q.2) (e := ldN x l n x.orders.length) (by omega) (fun i hi => by
      obtain ⟨o, eo, hmo, ho, hb, hp⟩ := QxU hx hi
      show QbX x l (n : Int) (ldN x l n i) (i : Int) = some (Sum.inl (ldN x l n (i + 1), ((i + 1 : Nat) : Int)))
      unfold QbX
      rw [Qc6 eo]
      have inner : loopF (fun q : Bool × Bool × Int => QbY x l (n : Int) (ldN x l n i) (i : Int) q.1 q.2.1 q.2.2) (ltI o.pick.place 0, false, 0) = some (onK x (l.take n) i, hasO l (i : Int)) := by
        have := Qgv l.length (fun k => (onK x (l.take (min k n)) i, hasO (l.take k) (i : Int), (k : Int))) (B := fun q : Bool × Bool × Int => QbY x l (n : Int) (ldN x l n i) (i : Int) q.1 q.2.1 q.2.2) (e := (onK x (l.take n) i, hasO l (i : Int))) (by omega) (fun k hk => by
          have e : l[k]? = some l[k] := List.getElem?_eq_getElem hk
          generalize l[k] = v at e
          show QbY x l (n : Int) (ldN x l n i) (i : Int) (onK x (l.take (min k n)) i) (hasO (l.take k) (i : Int)) (k : Int) = some (Sum.inl (onK x (l.take (min (k + 1) n)) i, hasO (l.take (k + 1)) (i : Int), ((k + 1 : Nat) : Int)))
          unfold QbY
          have hh : hasO (l.take (k + 1)) (i : Int) = (hasO (l.take k) (i : Int) || isO (i : Int) v) := by rw [QrE e]; simp [hasO]
          rw [Qc6 e, incL e hl, hh]
          by_cases hv : v.order = (i : Int)
          · rw [Qa0 (by simpa using hv), isO_t.2 hv, Bool.or_true]
            by_cases hkn : k < n
            · rw [Qbj (by simpa using hkn), show min (k + 1) n = k + 1 by omega, QtS e, if_pos hv]
              rfl
            · rw [Qa0 (by simp; omega), show min (k + 1) n = min k n by omega]
              rfl
          · have hvf : isO (i : Int) v = false := by
              rw [Bool.eq_false_iff]
              exact fun h => hv (isO_t.1 h)
            rw [Qbj (by simpa using hv), hvf, Bool.or_false]
            by_cases hkn : k < n
            · rw [show min (k + 1) n = k + 1 by omega, QtS e, if_neg hv, show min k n = k by omega]
              rfl
            · rw [show min (k + 1) n = min k n by omega]
              rfl) (by
          show QbY x l (n : Int) (ldN x l n i) (i : Int) (onK x (l.take (min l.length n)) i) (hasO (l.take l.length) (i : Int)) (l.length : Int) = _
          unfold QbY
          rw [Qb1, List.take_length, show min l.length n = n by omega])
        have h0 : (onK x (l.take (min 0 n)) i, hasO (l.take 0) (i : Int), ((0 : Nat) : Int)) = (ltI o.pick.place 0, false, 0) := by
          rw [Nat.zero_min, List.take_zero]
          unfold onK hasO
          rw [List.foldl_nil, hp]
          congr 1
        rw [← h0]
        exact this
      rw [QdY inner]
      simp only
      rw [QaP eo, Qal, ho, incL eo (by omega)]
      have hlen := QxF (x := x) (l := l) (n := n) i
      rw [QfB (by unfold okN; simp; omega), brs]
      show _ = some (Sum.inl (ldN x l n i ++ (if (onK x (l.take n) i && hasO l (i : Int)) = true then [vecN (QdP x.types) (loadO x i)] else []), ((i + 1 : Nat) : Int)))
      split <;> simp) (by
      show QbX x l (n : Int) (ldN x l n x.orders.length) (x.orders.length : Int) = _
      unfold QbX
      rw [Qb1])
    exact this
  rw [QdY this, (Qxj hx).2, Qal]
  have hlen := QxF (x := x) (l := l) (n := n) x.orders.length
  rw [QAB hd3 (by omega) (fun a ha => by obtain ⟨j, rfl⟩ := QxG ha; exact Qg9) (fun a ha d => by
    obtain ⟨j, rfl⟩ := QxG ha
    rw [List.getD_eq_getElem?_getD]
    rcases Nat.lt_or_ge d (QdP x.types) with h | h
    · rw [QkF h]; exact Qvd hx j d
    · rw [List.getElem?_eq_none (by rw [Qg9]; omega)]; simp), Qal]
  congr 2
  exact QiP fun d hd => Qzw hd _
theorem QwY (hx : QeM x) (hl : r.visits.length ≤ 1048576) (h0 : seqS x r.visits = 0) : Qg0 x r = some (QgO x r.visits (r.visits.length + 1), 0) := by
  unfold Qg0
  rw [Qt9 hx hl, Qal, h0, Qa0 (by decide)]
  have this : loopF (fun q : List (List Int) × Int => QbW x r q.1 q.2) ([], 0) = some (.inl (QgO x r.visits (r.visits.length + 1))) := by
    have := Qgv (r.visits.length + 1) (fun k => (QgO x r.visits k, (k : Int))) (B := fun q : List (List Int) × Int => QbW x r q.1 q.2) (e := .inl (QgO x r.visits (r.visits.length + 1))) (by omega) (fun k hk => by
      show QbW x r (QgO x r.visits k) (k : Int) = some (Sum.inl (QgO x r.visits (k + 1), ((k + 1 : Nat) : Int)))
      unfold QbW
      rw [Qbj (by simp [lenI]; omega), QyF hx hl (by omega), Qal, Qxa, QfB (by unfold okN; simp [Qsz]; omega), addI (by omega) (by omega), Qtr]
      rfl) (by
      show QbW x r (QgO x r.visits (r.visits.length + 1)) ((r.visits.length + 1 : Nat) : Int) = _
      unfold QbW
      rw [Qa0 (by simp [lenI]; omega)])
    exact this
  rw [QdY this]
  rfl
def overB (cap a : List Int) : Bool := (List.range a.length).any fun i => gtI (a.getD i 0) (cap.getD i 0)
theorem Qzr {a cap : List Int} (ha : a.length = cap.length) (hl : a.length ≤ 1048576) : QoX a cap = some (!overB cap a) ∧ QhF a cap = some (!overB cap a) := by
  have g : ∀ i, i < a.length → a[i]? = some (a.getD i 0) ∧ cap[i]? = some (cap.getD i 0) := fun i hi => by
    rw [List.getD_eq_getElem?_getD, List.getD_eq_getElem?_getD, List.getElem?_eq_getElem hi, List.getElem?_eq_getElem (show i < cap.length by omega)]
    exact ⟨rfl, rfl⟩
  have hb : overB cap a = true ↔ ∃ k, k < a.length ∧ gtI (a.getD k 0) (cap.getD k 0) = true := by
    unfold overB
    rw [List.any_eq_true]
    exact ⟨fun ⟨k, hk, h⟩ => ⟨k, List.mem_range.1 hk, h⟩, fun ⟨k, hk, h⟩ => ⟨k, List.mem_range.2 hk, h⟩⟩
  constructor
  · unfold QoX
    rw [Qa0 (by simp [lenI, ha]), QdY (Qt2 (B := fun s => Qe7 a cap s) hl (fun k => gtI (a.getD k 0) (cap.getD k 0)) (y := (.inr false : Unit ⊕ Bool)) (N := .inl ()) hb (fun i hi => by
      show Qe7 a cap i = _
      unfold Qe7
      rw [Qc6 (g i hi).1, QaP (g i hi).2, Qal, inc hi hl, brs]) (by
      show Qe7 a cap a.length = _
      unfold Qe7
      rw [Qb1]))]
    cases overB cap a <;> rfl
  · unfold QhF
    rw [Qa0 (by simp [lenI, ha]), QdY (Qt2 (B := fun s => QcK a cap s) hl (fun k => gtI (a.getD k 0) (cap.getD k 0)) (y := (.inr false : Unit ⊕ Bool)) (N := .inl ()) hb (fun i hi => by
      show QcK a cap i = _
      unfold QcK
      rw [Qc6 (g i hi).1, QaP (g i hi).2, Qal, inc hi hl, brs]) (by
      show QcK a cap a.length = _
      unfold QcK
      rw [Qb1]))]
    cases overB cap a <;> rfl
def fitS (x : Qad) (r : Qac) : Int := if (QgO x r.visits (r.visits.length + 1)).any (overB (typS x r).cap) = true then 17 else 0
theorem QuR (h0 : 0 ≤ r.type_) (h1 : r.type_ < x.types.length) : getI x.types r.type_ = some (typS x r) ∧ typS x r ∈ x.types := by
  have e : x.types[r.type_.toNat]? = some (x.types[r.type_.toNat]'(by omega)) := List.getElem?_eq_getElem _
  have ht : typS x r = x.types[r.type_.toNat]'(by omega) := by unfold typS; rw [List.getD_eq_getElem?_getD, e]; rfl
  rw [ht]
  exact ⟨Quk h0 h1, List.getElem_mem _⟩
theorem QAL (hx : QeM x) (hl : r.visits.length ≤ 1000000) (h0 : seqS x r.visits = 0) (ht : 0 ≤ r.type_ ∧ r.type_ < x.types.length) : QoG x r = some (fitS x r) ∧ Qgq x r = some (fitS x r) := by
  have h := Qyn h0
  obtain ⟨t1, t2⟩ := QuR ht.1 ht.2
  have hcap := (hx.typ _ t2).cap
  have hd := QvR hx
  have lens : ∀ a ∈ QgO x r.visits (r.visits.length + 1), a.length = (typS x r).cap.length := fun a ha => by
    obtain ⟨k, _, rfl⟩ := List.mem_map.1 ha
    rw [Qg9, hcap]
  have hlen := Qsz (x := x) (l := r.visits) (n := r.visits.length + 1)
  constructor
  · unfold QoG
    rw [Qa0 (by simp [lenI]; omega), QzP hx (by omega) h h0, Qal, Qxa]
    have := QsP (B := fun s => QaJ (QgO x r.visits (r.visits.length + 1)) x r s) (l := QgO x r.visits (r.visits.length + 1)) (by omega) (overB (typS x r).cap) (fun k => (.inr (k : Int) : Unit ⊕ Int)) (N := .inl ()) (fun i a h => by
      have hm := lens a (List.mem_of_getElem? h)
      show QaJ (QgO x r.visits (r.visits.length + 1)) x r i = _
      unfold QaJ QnO
      rw [Qc6 h, t1, Qal, (Qzr hm (by omega)).1, Qal, Qal, incL h (by omega), Bool.not_not, brs]) (by
      show QaJ (QgO x r.visits (r.visits.length + 1)) x r (QgO x r.visits (r.visits.length + 1)).length = _
      unfold QaJ
      rw [Qb1])
    have e : Qbn (QgO x r.visits (r.visits.length + 1)) x r = some (ixI (overB (typS x r).cap) (QgO x r.visits (r.visits.length + 1))) := by
      unfold Qbn
      rw [QdY this]
      unfold ixI
      cases ixP (overB (typS x r).cap) (QgO x r.visits (r.visits.length + 1)) <;> rfl
    unfold Qbz
    simp only
    rw [e, Qal, Qal, QqN, brs]
    rfl
  · unfold Qgq
    rw [Qa0 (by simp [lenI]; omega), QwY hx (by omega) h0, Qal, Qxa]
    rw [QdY (Qg6 (B := fun s => QcN x r (QgO x r.visits (r.visits.length + 1), 0) s) (l := QgO x r.visits (r.visits.length + 1)) (by omega) (overB (typS x r).cap) (y := (.inr 17 : Unit ⊕ Int)) (N := .inl ()) (fun i a h => by
      have hm := lens a (List.mem_of_getElem? h)
      show QcN x r (QgO x r.visits (r.visits.length + 1), 0) i = _
      unfold QcN
      rw [Qc6 h, t1, Qal, (Qzr hm (by omega)).2, Qal, incL h (by omega)]
      cases overB (typS x r).cap a <;> rfl) (by
      show QcN x r (QgO x r.visits (r.visits.length + 1), 0) (QgO x r.visits (r.visits.length + 1)).length = _
      unfold QcN
      rw [Qb1]))]
    unfold fitS
    split <;> rfl
end
end Go.Proofs.YtoogjnlmicgfiaaGreatDoor
namespace Go.Proofs.YtoogjnlmicgfiaaGreatDoor
set_option linter.unusedSimpArgs false
set_option linter.unusedVariables false
set_option linter.unusedSectionVars false
theorem QAn {m : List (Int × Int)} {k k' v z : Int} : mGet eqI (mPut eqI m k v) k' z = if k' = k then v else mGet eqI m k' z := by
  induction m with
  | nil =>
    unfold mPut mGet mGet
    by_cases h : k' = k
    · rw [if_pos h, show eqI k' k = true by simpa using h]; rfl
    · rw [if_neg h, show eqI k' k = false by simpa using h]; rfl
  | cons p r ih =>
    unfold mPut
    cases hp : eqI k p.1 with
    | true =>
      have hp' : k = p.1 := by simpa using hp
      simp only [cond_true]
      unfold mGet
      by_cases h : k' = k
      · rw [if_pos h, show eqI k' k = true by simpa using h]; rfl
      · rw [if_neg h, show eqI k' k = false by simpa using h, show eqI k' p.1 = false by rw [← hp']; simpa using h]; rfl
    | false =>
      have hp' : k ≠ p.1 := by simpa using hp
      simp only [cond_false]
      unfold mGet
      rw [ih]
      by_cases h : k' = k
      · rw [if_pos h, show eqI k' p.1 = false by rw [h]; exact hp, if_pos h]; rfl
      · rw [if_neg h, if_neg h]
section
variable {x : Qad} {l : List Qab} {r : Qac} {s0 : Qah}
def cntV (l : List Qab) (o : Int) : Int := sumF (fun v : Qab => if v.order = o then 1 else 0) l
theorem Qxe {o : Int} : 0 ≤ cntV l o ∧ cntV l o ≤ l.length ∧ (0 < cntV l o ↔ hasO l o = true) := by
  induction l with
  | nil => simp [cntV, sumF, hasO]
  | cons v l ih =>
    have e : cntV (v :: l) o = (if v.order = o then 1 else 0) + cntV l o := by simp [cntV, sumF]
    have e2 : hasO (v :: l) o = (isO o v || hasO l o) := by simp [hasO]
    rw [e, e2, List.length_cons, Bool.or_eq_true, isO_t]
    split
    · rename_i h
      refine ⟨by omega, by omega, fun _ => .inl h, fun _ => by omega⟩
    · rename_i h
      refine ⟨by omega, by omega, fun h' => .inr (ih.2.2.1 (by omega)), fun h' => ?_⟩
      rcases h' with h' | h'
      · exact absurd h' h
      · have := ih.2.2.2 h'; omega
def mapK (l : List Qab) : List (Int × Int) := l.foldl (fun m v => mPut eqI m v.order (addK .i64 (mGet eqI m v.order 0) 1)) []
theorem Qv5 {v : Qab} : mapK (l ++ [v]) = mPut eqI (mapK l) v.order (addK .i64 (mGet eqI (mapK l) v.order 0) 1) := by simp [mapK]
theorem QAo {l : List Qab} (hl : l.length ≤ 1048576) (o : Int) : mGet eqI (mapK l) o 0 = cntV l o := by
  have main : ∀ k, k ≤ l.length → mGet eqI (mapK (l.take k)) o 0 = cntV (l.take k) o := by
    intro k hk
    induction k generalizing o with
    | zero => rfl
    | succ k ih =>
      have e : l[k]? = some l[k] := List.getElem?_eq_getElem (by omega)
      generalize l[k] = v at e
      rw [QrE e, Qv5, QAn]
      have e2 : cntV (l.take k ++ [v]) o = cntV (l.take k) o + (if v.order = o then 1 else 0) := by unfold cntV; rw [QsZ, Qs0]
      have hb := (Qxe (l := l.take k) (o := v.order)).2.1
      have hb0 := (Qxe (l := l.take k) (o := v.order)).1
      have hlen : (l.take k).length ≤ k := by rw [List.length_take]; omega
      rw [e2, ih v.order (by omega), ih o (by omega), addI (by omega) (by omega)]
      by_cases h : o = v.order
      · rw [if_pos h, if_pos h.symm, h]
      · rw [if_neg h, if_neg fun h' => h h'.symm]; omega
  have := main l.length (Nat.le_refl _)
  rwa [List.take_length] at this
def forB (kind own : Int) : Bool := neI kind (-1) && neI kind own
def bit1 (b : Bool) : Int := if b = true then 1 else 0
/-- What a route moves, and what it gives to another type than last time. -/
def pairK (x : Qad) (r : Qac) : Nat → Int × Int
  | 0 => (0, 0)
  | k + 1 => match r.visits[k]? with
    | none => pairK x r k
    | some v => match (if 0 ≤ v.order then x.orders[v.order.toNat]? else none) with
      | none => pairK x r k
      | some o => if hasO (r.visits.take k) v.order = true then pairK x r k else ((pairK x r k).1 + bit1 (forB o.now r.type_), (pairK x r k).2 + bit1 (forB o.last_ r.type_))
theorem Qzo {b : Bool} : 0 ≤ bit1 b ∧ bit1 b ≤ 1 := by cases b <;> simp [bit1]
theorem Qvj : ∀ k, (0 ≤ (pairK x r k).1 ∧ (pairK x r k).1 ≤ k) ∧ (0 ≤ (pairK x r k).2 ∧ (pairK x r k).2 ≤ k)
  | 0 => by simp [pairK]
  | k + 1 => by
    have ih := Qvj k
    unfold pairK
    split
    · omega
    · split
      · omega
      · rename_i o _
        have h1 := Qzo (b := forB o.now r.type_)
        have h2 := Qzo (b := forB o.last_ r.type_)
        split
        · omega
        · simp only; omega
/-- The price of a route, in its four parts. -/
def scoS (x : Qad) (r : Qac) (s0 : Qah) : QaE :=
  QaE.mk (addK .i64 (addK .i64 (typS x r).fixed (mulK .i64 (typS x r).perMile s0.miles)) (mulK .i64 (typS x r).perTick (subK .i64 s0.end_ (typS x r).open_))) (pairK x r r.visits.length).1 (pairK x r r.visits.length).2 (mulK .i64 (quoK .i64 (subK .i64 s0.end_ (typS x r).open_) 64) (quoK .i64 (subK .i64 s0.end_ (typS x r).open_) 64))
theorem QzS (hx : QeM x) (hl : r.visits.length ≤ 1048576) (ht : 0 ≤ r.type_ ∧ r.type_ < x.types.length) : QnE x r s0 = some (scoS x r s0) := by
  obtain ⟨t1, t2⟩ := QuR ht.1 ht.2
  have h10 := hx.orders
  unfold QnE
  rw [Qa0 (by simp [lenI]; omega), t1, Qal]
  have this : loopF (fun q : List (Int × Int) × Int × Int × Int => QdN x r s0 (typS x r) q.1 q.2.1 q.2.2.1 q.2.2.2) ([], 0, 0, 0) = some (pairK x r r.visits.length) := by
    have := Qgv r.visits.length (fun k => (mapK (r.visits.take k), (pairK x r k).1, (pairK x r k).2, (k : Int))) (B := fun q : List (Int × Int) × Int × Int × Int => QdN x r s0 (typS x r) q.1 q.2.1 q.2.2.1 q.2.2.2) (e := pairK x r r.visits.length) (by omega) (fun k hk => by
      have e : r.visits[k]? = some r.visits[k] := List.getElem?_eq_getElem hk
      generalize r.visits[k] = v at e
      show QdN x r s0 (typS x r) (mapK (r.visits.take k)) (pairK x r k).1 (pairK x r k).2 (k : Int) = some (Sum.inl (mapK (r.visits.take (k + 1)), (pairK x r (k + 1)).1, (pairK x r (k + 1)).2, ((k + 1 : Nat) : Int)))
      unfold QdN QiI Qkq
      rw [Qc6 e, ← Qv5, ← QrE e, incL e hl]
      have hlen : (r.visits.take k).length ≤ 1048576 := by rw [List.length_take]; omega
      have hlen1 : (r.visits.take (k + 1)).length ≤ 1048576 := by rw [List.length_take]; omega
      have hp := Qvj (x := x) (r := r) k
      have hg : gtI (mGet eqI (mapK (r.visits.take (k + 1))) v.order 0) 1 = hasO (r.visits.take k) v.order := by
        rw [QAo hlen1, QrE e]
        have e2 : cntV (r.visits.take k ++ [v]) v.order = cntV (r.visits.take k) v.order + 1 := by unfold cntV; rw [QsZ, Qs0, if_pos rfl]
        have := (Qxe (l := r.visits.take k) (o := v.order)).2.2
        rw [e2, Bool.eq_iff_iff, gtI_t, ← this]
        omega
      rw [hg]
      show _ = some (Sum.inl (mapK (r.visits.take (k + 1)), (pairK x r (k + 1)).1, (pairK x r (k + 1)).2, (k : Int) + 1))
      have hP : pairK x r (k + 1) = match (if 0 ≤ v.order then x.orders[v.order.toNat]? else none) with
        | none => pairK x r k
        | some o => if hasO (r.visits.take k) v.order = true then pairK x r k else ((pairK x r k).1 + bit1 (forB o.now r.type_), (pairK x r k).2 + bit1 (forB o.last_ r.type_)) := by
        show (match r.visits[k]? with
          | none => pairK x r k
          | some v => match (if 0 ≤ v.order then x.orders[v.order.toNat]? else none) with
            | none => pairK x r k
            | some o => if hasO (r.visits.take k) v.order = true then pairK x r k else ((pairK x r k).1 + bit1 (forB o.now r.type_), (pairK x r k).2 + bit1 (forB o.last_ r.type_))) = _
        rw [e]
      rw [hP]
      by_cases hin : 0 ≤ v.order ∧ v.order < x.orders.length
      · rw [Qa0 (by simp [lenI]; omega), if_pos hin.1]
        have eo : x.orders[v.order.toNat]? = some (x.orders[v.order.toNat]'(by omega)) := List.getElem?_eq_getElem _
        generalize x.orders[v.order.toNat]'(by omega) = o at eo
        have eg : getI x.orders v.order = some o := by unfold getI; rw [if_pos hin.1, eo]
        rw [eo, eg]
        simp only [Qal]
        cases hasO (r.visits.take k) v.order with
        | true => rfl
        | false =>
          rw [Qh1, if_neg (by decide), show (neI o.now (-1) && neI o.now r.type_) = forB o.now r.type_ from rfl, show (neI o.last_ (-1) && neI o.last_ r.type_) = forB o.last_ r.type_ from rfl, addI (by omega) (by omega), addI (by omega) (by omega)]
          generalize pairK x r k = p
          cases forB o.now r.type_ <;> cases forB o.last_ r.type_ <;> simp [bit1]
      · rw [Qbj (by simp [lenI]; omega)]
        have : (if 0 ≤ v.order then x.orders[v.order.toNat]? else none) = none := by
          split
          · exact List.getElem?_eq_none (by omega)
          · rfl
        rw [this]) (by
      show QdN x r s0 (typS x r) (mapK (r.visits.take r.visits.length)) (pairK x r r.visits.length).1 (pairK x r r.visits.length).2 (r.visits.length : Int) = _
      unfold QdN
      rw [Qb1])
    exact this
  rw [QdY this]
  rfl
theorem QyH (hl : l.length ≤ 1048576) {k : Nat} {v : Qab} (e : l[k]? = some v) : Qgl l (k : Int) = some (!hasO (l.take k) v.order) := by
  have hk := (List.getElem?_eq_some_iff.1 e).1
  have := Qt2 (B := fun q => Qcb l (k : Int) q) (n := k) (by omega) (fun j => match l[j]? with | some w => eqI w.order v.order | none => false) (y := (.inr false : Unit ⊕ Bool)) (N := .inl ()) (b := hasO (l.take k) v.order) (by
    rw [QwD]
    constructor
    · rintro ⟨w, hw, he⟩
      obtain ⟨j, hj, hje⟩ := (QqF (by omega)).1 hw
      exact ⟨j, hj, by rw [hje]; simpa using he⟩
    · rintro ⟨j, hj, h⟩
      rw [List.getElem?_eq_getElem (show j < l.length by omega)] at h
      exact ⟨_, (QqF (by omega)).2 ⟨j, hj, List.getElem?_eq_getElem (by omega)⟩, by simpa using h⟩) (fun j hj => by
    have ej : l[j]? = some (l[j]'(by omega)) := List.getElem?_eq_getElem _
    show Qcb l (k : Int) j = _
    unfold Qcb
    rw [Qbj (by simp; omega), QaP ej, Qal, QaP e, Qal, incL ej hl, brs, ej]) (by
    show Qcb l (k : Int) k = _
    unfold Qcb
    rw [Qa0 (by simp)])
  unfold Qgl
  rw [QdY this]
  cases hasO (l.take k) v.order <;> rfl
theorem Qw0 (hx : QeM x) (hl : r.visits.length ≤ 1048576) (ht : 0 ≤ r.type_ ∧ r.type_ < x.types.length) : QfQ x r s0 = some (scoS x r s0) := by
  obtain ⟨t1, t2⟩ := QuR ht.1 ht.2
  have h10 := hx.orders
  unfold QfQ
  rw [Qa0 (by simp [lenI]; omega), t1, Qal]
  have this : loopF (fun q : Int × Int × Int => QbZ x r s0 (typS x r) q.1 q.2.1 q.2.2) (0, 0, 0) = some (pairK x r r.visits.length) := by
    have := Qgv r.visits.length (fun k => ((pairK x r k).1, (pairK x r k).2, (k : Int))) (B := fun q : Int × Int × Int => QbZ x r s0 (typS x r) q.1 q.2.1 q.2.2) (e := pairK x r r.visits.length) (by omega) (fun k hk => by
      have e : r.visits[k]? = some r.visits[k] := List.getElem?_eq_getElem hk
      generalize r.visits[k] = v at e
      show QbZ x r s0 (typS x r) (pairK x r k).1 (pairK x r k).2 (k : Int) = some (Sum.inl ((pairK x r (k + 1)).1, (pairK x r (k + 1)).2, ((k + 1 : Nat) : Int)))
      unfold QbZ Qfm
      rw [Qc6 e, incL e hl, QyH hl e]
      have hp := Qvj (x := x) (r := r) k
      show _ = some (Sum.inl ((pairK x r (k + 1)).1, (pairK x r (k + 1)).2, (k : Int) + 1))
      have hP : pairK x r (k + 1) = match (if 0 ≤ v.order then x.orders[v.order.toNat]? else none) with
        | none => pairK x r k
        | some o => if hasO (r.visits.take k) v.order = true then pairK x r k else ((pairK x r k).1 + bit1 (forB o.now r.type_), (pairK x r k).2 + bit1 (forB o.last_ r.type_)) := by
        show (match r.visits[k]? with
          | none => pairK x r k
          | some v => match (if 0 ≤ v.order then x.orders[v.order.toNat]? else none) with
            | none => pairK x r k
            | some o => if hasO (r.visits.take k) v.order = true then pairK x r k else ((pairK x r k).1 + bit1 (forB o.now r.type_), (pairK x r k).2 + bit1 (forB o.last_ r.type_))) = _
        rw [e]
      rw [hP]
      by_cases hin : 0 ≤ v.order ∧ v.order < x.orders.length
      · rw [Qa0 (by simp [lenI]; omega), if_pos hin.1]
        have eo : x.orders[v.order.toNat]? = some (x.orders[v.order.toNat]'(by omega)) := List.getElem?_eq_getElem _
        generalize x.orders[v.order.toNat]'(by omega) = o at eo
        have eg : getI x.orders v.order = some o := by unfold getI; rw [if_pos hin.1, eo]
        rw [eo, eg]
        simp only [Qal]
        cases hasO (r.visits.take k) v.order with
        | true => rfl
        | false =>
          rw [Bool.not_false, Qhm, if_neg (by decide), addI (by omega) (by omega), addI (by omega) (by omega)]
          generalize pairK x r k = p
          unfold forB
          cases neI o.now (-1) <;> cases neI o.now r.type_ <;> cases neI o.last_ (-1) <;> cases neI o.last_ r.type_ <;> simp [bit1]
      · rw [Qbj (by simp [lenI]; omega)]
        have : (if 0 ≤ v.order then x.orders[v.order.toNat]? else none) = none := by
          split
          · exact List.getElem?_eq_none (by omega)
          · rfl
        rw [this]) (by
      show QbZ x r s0 (typS x r) (pairK x r r.visits.length).1 (pairK x r r.visits.length).2 (r.visits.length : Int) = _
      unfold QbZ
      rw [Qb1])
    exact this
  rw [QdY this]
  rfl
end
end Go.Proofs.YtoogjnlmicgfiaaGreatDoor
namespace Go.Proofs.YtoogjnlmicgfiaaGreatDoor
set_option linter.unusedSimpArgs false
set_option linter.unusedVariables false
set_option linter.unusedSectionVars false
theorem Qvf : ∀ (n : Nat) (l : List Nat), l.Nodup → (∀ a ∈ l, a < n) → l.length ≤ n
  | 0, l, _, h => by
    cases l with
    | nil => simp
    | cons a r => exact absurd (h a (by simp)) (by omega)
  | n + 1, l, hd, h => by
    by_cases hm : n ∈ l
    · have h1 := Qvf n (l.erase n) (hd.erase n) fun a ha => by
        have h2 := (hd.mem_erase_iff).1 ha
        have := h a h2.2
        omega
      rw [List.length_erase_of_mem hm] at h1
      omega
    · have := Qvf n l hd fun a ha => by
        have := h a ha
        have : a ≠ n := fun e => hm (e ▸ ha)
        omega
      omega
section
variable {x : Qad} {l : List Qab} {r : Qac}
theorem SeqOK.short (hx : QeM x) (h : SeqOK x l) : l.length ≤ 20 := by
  have h10 := hx.orders
  have hm : (l.map fun v : Qab => 2 * v.order.toNat + (if v.drop = true then 1 else 0)).Nodup := by
    unfold List.Nodup
    rw [List.pairwise_map]
    refine h.nodup.imp_of_mem fun {a b} ha hb hne he => hne ?_
    have h1 := QoV h.inn ha
    have h2 := QoV h.inn hb
    cases a with
    | mk ao ad =>
      cases b with
      | mk bo bd =>
        simp only at h1 h2 he
        have hd : ad = bd ∧ ao = bo := by
          cases ad <;> cases bd <;> simp at he ⊢ <;> omega
        rw [hd.1, hd.2]
  have := Qvf 20 _ hm fun a ha => by
    obtain ⟨v, hv, rfl⟩ := List.mem_map.1 ha
    have h1 := QoV h.inn hv
    split <;> omega
  simpa using this
/-- May the type do all that the route asks? -/
noncomputable def ableB (t : Qai) (skills : Int) : Bool := (QlL t skills).getD false
noncomputable def QrD (x : Qad) (r : Qac) (v : Qab) : Bool := match x.orders[v.order.toNat]? with
  | some o => ableB (typS x r) o.skills
  | none => false
theorem Qzm (hx : QeM x) (ht : 0 ≤ r.type_ ∧ r.type_ < x.types.length) {v : Qab} (hv : 0 ≤ v.order ∧ v.order < x.orders.length) : ∃ o, getI x.orders v.order = some o ∧ QlL (typS x r) o.skills = some (QrD x r v) ∧ Qgp (typS x r) o.skills = some (QrD x r v) ∧ x.orders[v.order.toNat]? = some o := by
  obtain ⟨o, g1, g2, _, g4⟩ := Qv9 (x := x) hv.1 hv.2
  obtain ⟨b, b1, b2⟩ := QBo (t := typS x r) (hx.typ _ (QuR ht.1 ht.2).2).skills (hx.ord o g2).skills
  have : QrD x r v = b := by unfold QrD ableB; rw [g4]; simp only; rw [b1]; rfl
  exact ⟨o, g1, by rw [this, b1], by rw [this, b2], g4⟩
def QyC : QaE := QaE.mk 0 0 0 0
/-- The best schedule, of the program and of the reference. -/
theorem QyJ (hx : QeM x) (hR : QrY r) (h9 : ¬ (9 < r.visits.length ∧ r.visits.length ≤ 20)) :
    ∃ A, Qm8 x r = some A ∧ Qfv x r = some A ∧ A.1.times.length ≤ 1048576 ∧ (A.2 ≠ 0 → A.1 = Qn3) ∧
      (A.2 = 0 → (possS x r = true ∧ r.rests.length ≤ r.visits.length + 1) ∧ ∃ b, fullB x.net (typS x r) (Qax x r) r.start r.rests b ∧ minB x.net (typS x r) (Qax x r) r.start r.rests b ∧ A.1 = (lbB x.net (typS x r) (Qax x r) r.start b).sheet) := by
  obtain ⟨A, hA, pA⟩ := QyI hx hR h9
  obtain ⟨B, hB, pB⟩ := QuC hx hR h9
  have hv := hR.visits
  have hr := hR.rests
  have key : A = B ∧ A.1.times.length ≤ 1048576 ∧ (A.2 ≠ 0 → A.1 = Qn3) ∧ (A.2 = 0 → (possS x r = true ∧ r.rests.length ≤ r.visits.length + 1) ∧ ∃ b, fullB x.net (typS x r) (Qax x r) r.start r.rests b ∧ minB x.net (typS x r) (Qax x r) r.start r.rests b ∧ A.1 = (lbB x.net (typS x r) (Qax x r) r.start b).sheet) := by
    rcases pA with ⟨a1, a2⟩ | ⟨a1, a2⟩
    · rcases pB with ⟨_, b2⟩ | ⟨b1, _⟩
      · rw [a2, b2]; exact ⟨rfl, Nat.zero_le _, fun _ => rfl, fun h => by cases h⟩
      · exact absurd b1 a1
    · rcases pB with ⟨b1, _⟩ | ⟨_, b2⟩
      · exact absurd a1 b1
      · rcases a2 with ⟨a, fa, ma, ea⟩ | ⟨na, ea⟩
        · rcases b2 with ⟨b, fb, mb, eb⟩ | ⟨nb, eb⟩
          · have hab := QAp fa fb ma mb
            rw [ea, eb, hab]
            refine ⟨rfl, ?_, fun h => absurd rfl h, fun _ => ⟨a1, b, fb, mb, rfl⟩⟩
            have h1 := QAe (n := x.net) (t := typS x r) (stops := Qax x r) (start := r.start) (b := b)
            have h2 := fb.1
            rw [Qlt] at h2
            have := (of_decide_eq_true (QnY a1.1)).2.2.2.2
            show (lbB x.net (typS x r) (Qax x r) r.start b).sheet.times.length ≤ _
            omega
          · exact absurd fa (nb a)
        · rcases b2 with ⟨b, fb, mb, eb⟩ | ⟨nb, eb⟩
          · exact absurd fb (na b)
          · rw [ea, eb]
            have hno : ¬ okB x.net (typS x r) (Qax x r) r.start (r.rests ++ List.replicate (r.visits.length + 1 - r.rests.length) false) := fun hok => by
              refine na _ ⟨?_, ?_, hok⟩
              · rw [Qlt, List.length_append, List.length_replicate]; omega
              · rw [← QqH]; exact Qxo
            obtain ⟨n1, n2⟩ := QuF hno
            refine ⟨rfl, ?_, fun _ => by rw [n2], fun h => absurd h n1⟩
            rw [n2]; exact Nat.zero_le _
  exact ⟨A, hA, by rw [key.1]; exact hB, key.2.1, key.2.2.1, key.2.2.2⟩
/-- What a route that holds is. -/
structure EvOK (x : Qad) (r : Qac) (s : Qah) (b : List Bool) : Prop where
  type_ : 0 ≤ r.type_ ∧ r.type_ < x.types.length
  seq : seqS x r.visits = 0
  able : ∀ v ∈ r.visits, QrD x r v = true
  fits : fitS x r = 0
  poss : possS x r = true
  rests : r.rests.length ≤ r.visits.length + 1
  full : fullB x.net (typS x r) (Qax x r) r.start r.rests b
  min : minB x.net (typS x r) (Qax x r) r.start r.rests b
  sheet : s = (lbB x.net (typS x r) (Qax x r) r.start b).sheet
theorem QAU (hx : QeM x) (hR : QrY r) (h9 : ¬ (9 < r.visits.length ∧ r.visits.length ≤ 20)) :
    ∃ E, Qgb x r = some E ∧ Qdi x r = some E ∧ E.1.times.length ≤ 1048576 ∧ (E.2.2 ≠ 0 → E.1 = Qn3 ∧ E.2.1 = QyC) ∧ (E.2.2 = 0 → E.2.1 = scoS x r E.1 ∧ ∃ b, EvOK x r E.1 b) := by
  have hv := hR.visits
  unfold Qgb Qdi
  by_cases ht : 0 ≤ r.type_ ∧ r.type_ < x.types.length
  · rw [Qa0 (by simp [lenI]; omega), Qa0 (by simp [lenI]; omega), QwX hx hv, Qal, Qt9 hx hv, Qal]
    by_cases hs : seqS x r.visits = 0
    · have hq := Qyn hs
      have h20 := hq.short hx
      rw [Qa0 (by simpa using hs), Qa0 (by simpa using hs)]
      have a1 : Qpv x r = some (if r.visits.any (fun v => !QrD x r v) = true then 18 else 0) := by
        unfold Qpv
        rw [QdY (Qg6 (B := fun s => Qfo x r s) hv (fun v => !QrD x r v) (y := (.inr 18 : Unit ⊕ Int)) (N := .inl ()) (fun i a h => by
          obtain ⟨o, g1, g2, g3, _⟩ := Qzm (r := r) hx ht (QoV hq.inn (List.mem_of_getElem? h))
          show Qfo x r i = _
          unfold Qfo
          rw [Qc6 h, (QuR ht.1 ht.2).1, Qal, g1, Qal, g2, Qal, incL h hv]
          cases QrD x r a <;> rfl) (by
          show Qfo x r r.visits.length = _
          unfold Qfo
          rw [Qb1]))]
        split <;> rfl
      have a2 : loopF (fun s => Qbq x r s) 0 = some (if r.visits.any (fun v => !QrD x r v) = true then .inr (Qn3, QyC, 18) else .inl ()) :=
        Qg6 (B := fun s => Qbq x r s) hv (fun v => !QrD x r v) (y := (.inr (Qn3, QyC, 18) : Unit ⊕ (Qah × QaE × Int))) (N := .inl ()) (fun i a h => by
          obtain ⟨o, g1, g2, g3, _⟩ := Qzm (r := r) hx ht (QoV hq.inn (List.mem_of_getElem? h))
          show Qbq x r i = _
          unfold Qbq
          have hlt := (List.getElem?_eq_some_iff.1 h).1
          rw [Qbj (by simp [lenI]; omega), (QuR ht.1 ht.2).1, Qal, QaP h, Qal, g1, Qal, g3, Qal, incL h hv]
          cases QrD x r a <;> rfl) (by
          show Qbq x r r.visits.length = _
          unfold Qbq
          rw [Qa0 (by simp [lenI])])
      rw [a1, Qal, a2, Qal]
      by_cases hab : r.visits.any (fun v => !QrD x r v) = true
      · rw [if_pos hab, if_pos hab, Qbj (by decide), QmO]
        exact ⟨_, rfl, rfl, Nat.zero_le _, fun _ => ⟨rfl, rfl⟩, fun h => by cases h⟩
      · rw [if_neg hab, if_neg hab, Qa0 (by decide), Qht]
        obtain ⟨f1, f2⟩ := QAL (r := r) hx (by omega) hs ht
        rw [f1, Qal, f2, Qal]
        by_cases hf : fitS x r = 0
        · rw [Qa0 (by simpa using hf), Qa0 (by simpa using hf)]
          obtain ⟨A, hA, hB, ht', hz, hfull⟩ := QyJ hx hR h9
          rw [hA, Qal, hB, Qal]
          by_cases hA2 : A.2 = 0
          · rw [Qa0 (by simpa using hA2), Qa0 (by simpa using hA2), QzS hx hv ht, Qal, Qw0 hx hv ht, Qal]
            obtain ⟨⟨p1, p2⟩, b, fb, mb, eb⟩ := hfull hA2
            refine ⟨_, rfl, rfl, ht', fun h => absurd rfl h, fun _ => ⟨rfl, b, ht, hs, fun v hv' => ?_, hf, p1, p2, fb, mb, eb⟩⟩
            have := List.any_eq_false.1 (by simpa using hab : r.visits.any (fun v => !QrD x r v) = false) v hv'
            simpa using this
          · rw [Qbj (by simpa using hA2), Qbj (by simpa using hA2)]
            exact ⟨_, rfl, rfl, Nat.zero_le _, fun _ => ⟨rfl, rfl⟩, fun h => absurd h hA2⟩
        · rw [Qbj (by simpa using hf), Qbj (by simpa using hf)]
          exact ⟨_, rfl, rfl, Nat.zero_le _, fun _ => ⟨rfl, rfl⟩, fun h => absurd h hf⟩
    · rw [Qbj (by simpa using hs), Qbj (by simpa using hs)]
      exact ⟨_, rfl, rfl, Nat.zero_le _, fun _ => ⟨rfl, rfl⟩, fun h => absurd h hs⟩
  · rw [Qbj (by simp [lenI]; omega), Qbj (by simp [lenI]; omega)]
    exact ⟨_, rfl, rfl, Nat.zero_le _, fun _ => ⟨rfl, rfl⟩, fun h => by cases h⟩
end
end Go.Proofs.YtoogjnlmicgfiaaGreatDoor
namespace Go.Proofs.YtoogjnlmicgfiaaGreatDoor
set_option linter.unusedSimpArgs false
set_option linter.unusedVariables false
set_option linter.unusedSectionVars false
section
variable {n : Qaj} {t : Qai} {stops : List Qar} {start : Int}
theorem QzH (hT : QlA n t stops) : ∀ (b : List Bool) (k : Nat) (l : Qaf), LabI k l → k + b.length ≤ stops.length → (runK n t stops b k l).2 = 0 → l.ready ≤ (runK n t stops b k l).1.ready
  | [], k, l, hl, _, _ => Int.le_refl _
  | a :: b, k, l, hl, hk, h => by
    simp only [runK] at h ⊢
    simp only [List.length_cons] at hk
    by_cases h0 : (nxt n t stops l k a).2 = 0
    · rw [if_neg (by simpa using h0)] at h ⊢
      have h1 := QzH hT b (k + 1) _ (Quy hT hl (by omega) h0) (by omega) h
      refine Int.le_trans ?_ h1
      obtain ⟨g0, g1, g2, g3⟩ := Qs9 hT hl h0
      have hb := Quo hT.net (Qu1 (rest := a) hT hl) g0
      have hS := hT.stopK k
      have := hS.serv0
      have hr := hT.rest
      rw [g3]
      have hd : l.ready ≤ depS t l a := by unfold depS; split <;> omega
      show l.ready ≤ max _ _ + _
      omega
    · rw [if_pos h0] at h; exact absurd h h0
theorem QAc (hT : QlA n t stops) (hs : 0 ≤ start ∧ start ≤ 4096) {b : List Bool} (hl : b.length = stops.length + 1) (hok : okB n t stops start b) :
    t.open_ ≤ (lbB n t stops start b).sheet.end_ ∧ (lbB n t stops start b).sheet.end_ ≤ t.close ∧ 0 ≤ (lbB n t stops start b).sheet.miles ∧ (lbB n t stops start b).sheet.miles ≤ 210000 := by
  obtain ⟨b0, c, rfl⟩ : ∃ b0 c, b = b0 ++ [c] := by
    rcases List.eq_nil_or_concat b with rfl | ⟨b0, c, rfl⟩
    · simp at hl
    · exact ⟨b0, c, by simp⟩
  have hb0 : b0.length = stops.length := by simpa using hl
  obtain ⟨o1, o2⟩ := Qpp.1 hok
  have hL := Qsx hT hs (by omega) o1
  obtain ⟨g0, g1, g2, g3⟩ := Qs9 hT hL o2
  have hb := Quo hT.net (Qu1 (rest := c) hT hL) g0
  have hge : t.open_ ≤ (lbB n t stops start b0).ready := by
    have := QzH hT b0 0 (begS t start) (Qua hT hs) (by omega) o1
    have h2 : t.open_ ≤ (begS t start).ready := by show t.open_ ≤ max t.open_ start; omega
    exact Int.le_trans h2 this
  have hn : ¬ b0.length < stops.length := by omega
  have hm0 := hL.miles0
  have hm1 := hL.miles1
  have hfew := hT.few
  have hr := hT.rest
  have hd : (lbB n t stops start b0).ready ≤ depS t (lbB n t stops start b0) c := by unfold depS; split <;> omega
  rw [Qsy hok, g3]
  rw [QpL hn] at hb g1 ⊢
  have g1' : (goN n t.profile (fromP t stops b0.length) (endS t).place (depS t (lbB n t stops start b0) c)).1 ≤ t.close := g1
  show t.open_ ≤ (if b0.length < stops.length then _ else _ : Int) ∧ (if b0.length < stops.length then _ else _ : Int) ≤ t.close ∧ 0 ≤ (lbB n t stops start b0).sheet.miles + _ ∧ (lbB n t stops start b0).sheet.miles + _ ≤ 210000
  rw [if_neg hn]
  omega
end
section
variable {x : Qad} {l : List Qab} {r : Qac}
/-- What a route that holds comes to. -/
theorem EvOK.facts (hx : QeM x) {s : Qah} {b : List Bool} (h : EvOK x r s b) :
    (typS x r).open_ ≤ s.end_ ∧ s.end_ ≤ (typS x r).close ∧ 0 ≤ s.miles ∧ s.miles ≤ 210000 ∧ Ql8 s = b ∧ s.times.length = r.visits.length ∧ b.length = r.visits.length + 1 ∧ r.visits.length ≤ 20 := by
  have h5 := of_decide_eq_true (QnY h.poss)
  have hT := Qzk hx h.poss
  obtain ⟨e1, e2, e3, e4⟩ := QAc hT ⟨h5.2.2.1, h5.2.2.2.1⟩ h.full.1 h.full.2.2
  obtain ⟨r1, r2⟩ := Qyb hx h.poss h.full.1 h.full.2.2
  have hsl := Qlt (x := x) (r := r)
  have hl := h.full.1
  rw [h.sheet]
  exact ⟨e1, e2, e3, e4, r1, by omega, by omega, h5.2.2.2.2⟩
end
end Go.Proofs.YtoogjnlmicgfiaaGreatDoor
namespace Go.Proofs.YtoogjnlmicgfiaaGreatDoor
set_option linter.unusedSimpArgs false
set_option linter.unusedVariables false
set_option linter.unusedSectionVars false
/-- The least k with p, but n at most. -/
def QpR (p : Nat → Bool) : Nat → Nat → Nat
  | 0, k => k
  | f + 1, k => if p k = true then k else QpR p f (k + 1)
theorem QpF (p : Nat → Bool) : ∀ f k, k ≤ QpR p f k ∧ QpR p f k ≤ k + f ∧ (∀ j, k ≤ j → j < QpR p f k → p j = false) ∧ (QpR p f k < k + f → p (QpR p f k) = true)
  | 0, k => ⟨Nat.le_refl _, Nat.le_refl _, fun j h1 h2 => absurd (Nat.lt_of_le_of_lt h1 h2) (Nat.lt_irrefl k), fun h => absurd h (Nat.lt_irrefl k)⟩
  | f + 1, k => by
    unfold QpR
    by_cases hp : p k = true
    · rw [if_pos hp]
      exact ⟨Nat.le_refl _, by omega, fun j h1 h2 => by omega, fun _ => hp⟩
    · rw [if_neg hp]
      obtain ⟨h1, h2, h3, h4⟩ := QpF p f (k + 1)
      refine ⟨by omega, by omega, fun j g1 g2 => ?_, fun h => h4 (by omega)⟩
      rcases Nat.lt_or_ge k j with h | h
      · exact h3 j h g2
      · obtain rfl : j = k := by omega
        simpa using hp
section
variable {S E : Type} {B : S → Option (S ⊕ E)}
theorem Qup (p : Nat → Bool) (st : Nat → S) (Y : Nat → E) (N : E) : ∀ f k, (∀ j, k ≤ j → j < k + f → B (st j) = some (if p j = true then .inr (Y j) else .inl (st (j + 1)))) → B (st (k + f)) = some (.inr N) →
    iterF B (f + 1) (st k) = some (if QpR p f k < k + f then Y (QpR p f k) else N)
  | 0, k, _, he => by
    simp only [iterF]
    rw [show B (st k) = some (.inr N) from he]
    simp only
    rw [if_neg (by unfold QpR; omega)]
  | f + 1, k, hs, he => by
    rw [iterF, hs k (Nat.le_refl _) (by omega)]
    unfold QpR
    by_cases hp : p k = true
    · rw [if_pos hp, if_pos hp, if_pos (by omega)]
    · rw [if_neg hp, if_neg hp]
      simp only
      have := Qup p st Y N f (k + 1) (fun j h1 h2 => hs j (by omega) (by omega)) (by rw [show k + 1 + f = k + (f + 1) by omega]; exact he)
      rw [show k + 1 + f = k + (f + 1) by omega] at this
      exact this
theorem Quu {n : Nat} (hn : n < 18446744073709551616) (p : Nat → Bool) (st : Nat → S) (Y : Nat → E) {N : E} (hs : ∀ j, j < n → B (st j) = some (if p j = true then .inr (Y j) else .inl (st (j + 1)))) (he : B (st n) = some (.inr N)) :
    loopF B (st 0) = some (if QpR p n 0 < n then Y (QpR p n 0) else N) := by
  have := Qup (B := B) p st Y N n 0 (fun j _ h => hs j (by omega)) (by rw [Nat.zero_add]; exact he)
  rw [Nat.zero_add] at this
  exact Qrr (n + 1) hn this
end
/-- A fold that may go out early. -/
def foldE {α S E : Type} (f : S → α → S ⊕ E) (N : S → E) : S → List α → E
  | s, [] => N s
  | s, a :: r => match f s a with
    | .inl s' => foldE f N s' r
    | .inr e => e
theorem QpD {α S E : Type} {f : S → α → S ⊕ E} {N : S → E} {s s' : S} {a : α} {r : List α} (h : f s a = .inl s') : foldE f N s (a :: r) = foldE f N s' r := by rw [foldE, h]
theorem QtJ {α S E : Type} {f : S → α → S ⊕ E} {N : S → E} {s : S} {a : α} {r : List α} {e : E} (h : f s a = .inr e) : foldE f N s (a :: r) = e := by rw [foldE, h]
theorem Qut {α S E : Type} {l : List α} (hl : l.length ≤ 1048576) (f : S → α → S ⊕ E) (N : S → E) (Inv : Nat → S → Prop) {B : S × Int → Option ((S × Int) ⊕ E)}
    (hin : ∀ (s : S) (i : Nat) (a : α), l[i]? = some a → Inv i s → B (s, (i : Int)) = some (match f s a with | .inl s' => .inl (s', (i : Int) + 1) | .inr e => .inr e) ∧ ∀ s', f s a = .inl s' → Inv (i + 1) s')
    (hend : ∀ s, Inv l.length s → B (s, (l.length : Int)) = some (.inr (N s))) {s0 : S} (h0 : Inv 0 s0) : loopF B (s0, 0) = some (foldE f N s0 l) := by
  have main : ∀ (m : List α) (k : Nat) (s : S), l.drop k = m → k ≤ l.length → Inv k s → iterF B (m.length + 1) (s, (k : Int)) = some (foldE f N s m) := by
    intro m
    induction m with
    | nil =>
      intro k s hd hk hi
      have : k = l.length := by
        have := congrArg List.length hd
        rw [List.length_drop, List.length_nil] at this
        omega
      subst this
      simp only [List.length_nil, iterF]
      rw [hend s hi]
      rfl
    | cons a m ih =>
      intro k s hd hk hi
      have hk' : k < l.length := Nat.lt_of_not_le fun h => by rw [List.drop_eq_nil_of_le h] at hd; cases hd
      have hcons := List.drop_eq_getElem_cons hk'
      rw [hd] at hcons
      injection hcons with h1 h2
      have e : l[k]? = some a := by rw [List.getElem?_eq_getElem hk', ← h1]
      obtain ⟨g1, g2⟩ := hin s k a e hi
      rw [List.length_cons, iterF, g1]
      show _ = some (match f s a with | .inl s' => foldE f N s' m | .inr e => e)
      cases hf : f s a with
      | inl s' => exact ih (k + 1) s' h2.symm hk' (g2 s' hf)
      | inr e => rfl
  have := main l 0 s0 rfl (Nat.zero_le _) h0
  exact Qrr (l.length + 1) (by unfold Qv4; omega) this
end Go.Proofs.YtoogjnlmicgfiaaGreatDoor
namespace Go.Proofs.YtoogjnlmicgfiaaGreatDoor
set_option linter.unusedSimpArgs false
set_option linter.unusedVariables false
set_option linter.unusedSectionVars false
theorem QoR : Qa7 = some true := by kernel_rfl
def zTime : Qao := Qao.mk 0 0 0 false
/-- A route that the enumerations can do. -/
def Qtc (r : Qac) : Prop := ¬ (9 < r.visits.length ∧ r.visits.length ≤ 20)
section
variable {x : Qad} {r : Qac} {s : Qah} {now : Int}
/-- When the vehicle is ready behind k visits. -/
def rdyS (x : Qad) (r : Qac) (s : Qah) : Nat → Int
  | 0 => maxI (typS x r).open_ r.start
  | k + 1 => addK .i64 (s.times.getD k zTime).begin ((Qax x r).getD k zStop).service
/-- How many visits have begun. -/
def fixS (x : Qad) (r : Qac) (s : Qah) (now : Int) : Nat := QpR (fun k => geI (rdyS x r s k) now) r.visits.length 0
def finB (x : Qad) (r : Qac) (s : Qah) (now : Int) : Bool := if fixS x r s now < r.visits.length then false else gtI (r.visits.length : Int) 0 && ltI (rdyS x r s r.visits.length) now
theorem Qtq : fixS x r s now ≤ r.visits.length := by
  have := (QpF (fun k => geI (rdyS x r s k) now) r.visits.length 0).2.1
  unfold fixS; omega
noncomputable def evX (x : Qad) (r : Qac) : Qah × QaE × Int := (Qgb x r).getD (Qn3, QyC, 0)
theorem Qst (hx : QeM x) (hR : QrY r) (h9 : Qtc r) : Qgb x r = some (evX x r) ∧ Qdi x r = some (evX x r) ∧ (evX x r).1.times.length ≤ 1048576 ∧ ((evX x r).2.2 ≠ 0 → (evX x r).1 = Qn3 ∧ (evX x r).2.1 = QyC) ∧ ((evX x r).2.2 = 0 → (evX x r).2.1 = scoS x r (evX x r).1 ∧ ∃ b, EvOK x r (evX x r).1 b) := by
  obtain ⟨E, e1, e2, e3, e4, e5⟩ := QAU hx hR h9
  have : evX x r = E := by unfold evX; rw [e1]; rfl
  rw [this]
  exact ⟨e1, e2, e3, e4, e5⟩
theorem EvOK.visit (hx : QeM x) {b : List Bool} (h : EvOK x r s b) {k : Nat} (hk : k < r.visits.length) : ∃ v o, r.visits[k]? = some v ∧ getI x.orders v.order = some o ∧ stopV x v = some ((Qax x r).getD k zStop) ∧ atS v o = (Qax x r).getD k zStop ∧ s.times[k]? = some (s.times.getD k zTime) := by
  have hf := h.facts hx
  have hsl := Qlt (x := x) (r := r)
  have e0 : (Qax x r)[k]? = some ((Qax x r).getD k zStop) := by rw [List.getD_eq_getElem?_getD, List.getElem?_eq_getElem (show k < (Qax x r).length by omega)]; rfl
  obtain ⟨v, v1, v2⟩ := QvB h.poss e0
  have hin := QoV (Qyn h.seq).inn (List.mem_of_getElem? v1)
  obtain ⟨o, g1, g2, g3, g4⟩ := Qv9 (x := x) hin.1 hin.2
  refine ⟨v, o, v1, g1, v2, ?_, ?_⟩
  · unfold stopV at v2
    rw [if_pos hin.1, g4] at v2
    simp only at v2
    split at v2
    · exact Option.some.inj v2
    · cases v2
  · rw [List.getD_eq_getElem?_getD, List.getElem?_eq_getElem (show k < s.times.length by have := hf.2.2.2.2.2.1; omega)]; rfl
theorem Qrx (hx : QeM x) (hR : QrY r) (h9 : Qtc r) (h0 : (evX x r).2.2 = 0) :
    Qes x r now = some (((fixS x r (evX x r).1 now : Nat) : Int), finB x r (evX x r).1 now, (evX x r).1, 0) ∧ QfS x r (evX x r).1 now = some (((fixS x r (evX x r).1 now : Nat) : Int), finB x r (evX x r).1 now) := by
  obtain ⟨e1, e2, e3, e4, e5⟩ := Qst hx hR h9
  obtain ⟨_, b, hE⟩ := e5 h0
  have hf := hE.facts hx
  have ht := hE.type_
  generalize evX x r = E at *
  have hn : r.visits.length ≤ 20 := hf.2.2.2.2.2.2.2
  constructor
  · unfold Qes
    rw [e1, Qal, Qa0 (by simpa using h0), (QuR ht.1 ht.2).1, Qal]
    have := Quu (B := fun q : Int × Int × Int => Qcf x r now E q.1 q.2.1 q.2.2) (n := r.visits.length) (by omega) (fun k => geI (rdyS x r E.1 k) now) (fun k => (rdyS x r E.1 k, (k : Int), (k : Int))) (fun k => (.inr ((k : Int), false, E.1, 0) : (Int × Int) ⊕ (Int × Bool × Qah × Int))) (N := .inl (rdyS x r E.1 r.visits.length, (r.visits.length : Int))) (fun k hk => by
      obtain ⟨v, o, v1, v2, v3, v4, v5⟩ := hE.visit hx hk
      show Qcf x r now E (rdyS x r E.1 k) (k : Int) (k : Int) = _
      unfold Qcf
      rw [Qc6 v1, QrS, v3, Qal, QaP v5, Qal, inc (n := r.visits.length) hk (by omega), brs]
      rfl) (by
      show Qcf x r now E (rdyS x r E.1 r.visits.length) (r.visits.length : Int) (r.visits.length : Int) = _
      unfold Qcf
      rw [Qb1])
    have this2 : loopF (fun q : Int × Int × Int => Qcf x r now E q.1 q.2.1 q.2.2) (maxI (typS x r).open_ r.start, 0, 0) = some (if fixS x r E.1 now < r.visits.length then .inr (((fixS x r E.1 now : Nat) : Int), false, E.1, 0) else .inl (rdyS x r E.1 r.visits.length, (r.visits.length : Int))) := this
    rw [QdY this2]
    have hle := Qtq (x := x) (r := r) (s := E.1) (now := now)
    unfold finB
    by_cases hlt : fixS x r E.1 now < r.visits.length
    · rw [if_pos hlt, if_pos hlt, QmO]
    · rw [if_neg hlt, if_neg hlt, Qht, show fixS x r E.1 now = r.visits.length by omega]
  · unfold QfS
    rw [(QuR ht.1 ht.2).1, Qal]
    have := Quu (B := fun q : Int × Int × Int => Qb0 x r E.1 now q.1 q.2.1 q.2.2) (n := r.visits.length) (by omega) (fun k => geI (rdyS x r E.1 k) now) (fun k => ((k : Int), rdyS x r E.1 k, (k : Int))) (fun k => (.inr ((k : Int), false) : (Int × Int) ⊕ (Int × Bool))) (N := .inl ((r.visits.length : Int), rdyS x r E.1 r.visits.length)) (fun k hk => by
      obtain ⟨v, o, v1, v2, v3, v4, v5⟩ := hE.visit hx hk
      show Qb0 x r E.1 now (k : Int) (rdyS x r E.1 k) (k : Int) = _
      unfold Qb0 QiH
      have hend : (bnd (getI r.visits (k : Int)) fun x1 => bnd (getI x.orders x1.order) fun x2 => br x1.drop (bnd (getI E.1.times (k : Int)) fun x3 => some (addK .i64 x3.begin x2.drop.service)) (bnd (getI E.1.times (k : Int)) fun x4 => some (addK .i64 x4.begin x2.pick.service))) = some (rdyS x r E.1 (k + 1)) := by
        rw [QaP v1, Qal, v2, Qal, QaP v5, Qal, Qal]
        show _ = some (addK .i64 (E.1.times.getD k zTime).begin ((Qax x r).getD k zStop).service)
        rw [← v4]
        unfold atS
        cases v.drop <;> rfl
      rw [Qbj (by simp [lenI]; omega), hend, Qal, inc (n := r.visits.length) hk (by omega), brs]
      rfl) (by
      show Qb0 x r E.1 now (r.visits.length : Int) (rdyS x r E.1 r.visits.length) (r.visits.length : Int) = _
      unfold Qb0
      rw [Qa0 (by simp [lenI])])
    have this2 : loopF (fun q : Int × Int × Int => Qb0 x r E.1 now q.1 q.2.1 q.2.2) (0, maxI (typS x r).open_ r.start, 0) = some (if fixS x r E.1 now < r.visits.length then .inr (((fixS x r E.1 now : Nat) : Int), false) else .inl ((r.visits.length : Int), rdyS x r E.1 r.visits.length)) := this
    rw [QdY this2]
    have hle := Qtq (x := x) (r := r) (s := E.1) (now := now)
    unfold finB
    by_cases hlt : fixS x r E.1 now < r.visits.length
    · rw [if_pos hlt, if_pos hlt, QmO]
    · rw [if_neg hlt, if_neg hlt, Qht, show fixS x r E.1 now = r.visits.length by omega]
theorem Qtv (hx : QeM x) (hR : QrY r) (h9 : Qtc r) (h0 : (evX x r).2.2 ≠ 0) : Qes x r now = some (0, false, Qn3, (evX x r).2.2) := by
  obtain ⟨e1, e2, e3, e4, e5⟩ := Qst hx hR h9
  unfold Qes
  rw [e1, Qal, Qbj (by simpa using h0)]
  rfl
def tickB (now : Int) : Bool := decide (0 ≤ now ∧ now ≤ 4096)
theorem Qwn : Qly now = some (tickB now) := by
  unfold Qly tickB
  congr 1
  rw [Bool.eq_iff_iff]
  simp
theorem QuQ : (ltI now 0 || gtI now 4096) = !tickB now := by
  unfold tickB
  rw [Bool.eq_iff_iff]
  simp
/-- What Fixed answers. -/
noncomputable def QyP (x : Qad) (r : Qac) (now : Int) : Int × Int := if tickB now = true then (if (evX x r).2.2 = 0 then (((fixS x r (evX x r).1 now : Nat) : Int), 0) else (0, (evX x r).2.2)) else (0, 2)
theorem QuV (hx : QeM x) (hR : QrY r) (h9 : Qtc r) : Qfq x r now = some (QyP x r now) ∧ Qg4 x r now = some (QyP x r now) := by
  obtain ⟨e1, e2, e3, e4, e5⟩ := Qst hx hR h9
  unfold Qfq Qg4 QyP
  rw [Qwn, Qal, QuQ]
  cases tickB now with
  | false => exact ⟨rfl, rfl⟩
  | true =>
    rw [Qhm, if_pos rfl, Bool.not_true, Qh1, e2, Qal]
    by_cases h0 : (evX x r).2.2 = 0
    · obtain ⟨p1, p2⟩ := Qrx (now := now) hx hR h9 h0
      rw [if_pos h0, p1, Qal, Qa0 (by simpa using h0), p2, Qal]
      exact ⟨rfl, rfl⟩
    · rw [if_neg h0, Qtv hx hR h9 h0, Qal, Qbj (by simpa using h0)]
      exact ⟨rfl, rfl⟩
/-- A beginning. -/
def Qqi (r : Qac) (s : Qah) (k : Nat) (fin : Bool) : Qac := Qac.mk r.type_ r.start ((Ql8 s).take (if fin = true then k + 1 else k)) (r.visits.take k)
theorem QqB {α : Type} {l : List α} {k : Nat} (h : k ≤ l.length) : slcI l 0 (k : Int) = some (l.take k) := by
  unfold slcI
  rw [if_pos ⟨by omega, by omega, by omega⟩]
  simp
theorem QyN {l : List Qab} (h : l.length ≤ 1048576) : Qby l = some l := by
  unfold Qby
  rw [QfB (Qgx (by omega))]
  cases l with
  | nil => exact Qw3
  | cons a r => rfl
theorem QzV {k : Nat} {fin : Bool} (hk : k ≤ r.visits.length) (hs : s.times.length = r.visits.length) (hl : r.visits.length ≤ 1048576) : QlD r (k : Int) fin s = some (Qqi r s k fin) := by
  have hrl := QpJ (s := s)
  unfold QlD
  rw [QqB hk, Qal, QyN (by rw [List.length_take]; omega), Qal]
  rw [QdY (QuD (s0 := s) (by omega) (B := fun q : List Bool × Int => QhE r (k : Int) fin s (r.visits.take k) (r.visits.take k) q.1 q.2) (fun l v => rfl))]
  unfold Qqi
  cases fin with
  | true =>
    rw [Qhm, addI (by omega) (by omega), show ((k : Int) + 1) = ((k + 1 : Nat) : Int) by simp, QqB (by omega), Qal]
    rfl
  | false =>
    rw [Qh1, QqB (by omega), Qal]
    rfl
theorem Qya (h : s.times.length ≤ 1048576) : Qg2 s = some (Ql8 s) := by
  unfold Qg2
  rw [QdY (QuD (s0 := s) h (B := fun q : List Bool × Int => Qfl s q.1 q.2) (fun l v => rfl))]
/-- One more route. -/
noncomputable def pfxS (x : Qad) (now : Int) (out : List Qac) (r : Qac) : List Qac ⊕ (List Qac ⊕ (List Qac × Int)) :=
  if (evX x r).2.2 ≠ 0 then .inr (.inr ([], (evX x r).2.2)) else if fixS x r (evX x r).1 now = 0 then .inl out else .inl (out ++ [Qqi r (evX x r).1 (fixS x r (evX x r).1 now) (finB x r (evX x r).1 now)])
noncomputable def prefS (x : Qad) (p : QaN) (now : Int) : List Qac × Int := if tickB now = true then sel (foldE (pfxS x now) (fun s => (.inl s : List Qac ⊕ (List Qac × Int))) [] p.routes) (fun l => (l, 0)) (fun e => e) else ([], 2)
structure PlanI (p : QaN) : Prop where
  routes : p.routes.length ≤ 1048576
  each : ∀ r ∈ p.routes, QrY r
  unserved : p.unserved.length ≤ 1048576
theorem Qre {p : QaN} (hx : QeM x) (hP : PlanI p) (h9 : ∀ r ∈ p.routes, Qtc r) : QdK x p now = some (prefS x p now) ∧ Qfn x p now = some (prefS x p now) := by
  have hpl := hP.routes
  unfold QdK Qfn prefS
  rw [Qwn, Qal, QuQ]
  cases tickB now with
  | false => exact ⟨rfl, rfl⟩
  | true =>
    rw [Qhm, if_pos rfl, Bool.not_true, Qh1]
    have inv : ∀ (out : List Qac) (i : Nat) (r : Qac), out.length ≤ i → ∀ s', pfxS x now out r = .inl s' → s'.length ≤ i + 1 := fun out i r h s' hs => by
      unfold pfxS at hs
      split at hs
      · cases hs
      · split at hs
        · cases hs; omega
        · cases hs; simp; omega
    constructor
    · rw [QdY (Qut (B := fun q : List Qac × Int => QcJ x p now q.1 q.2) hpl (pfxS x now) (fun s => .inl s) (fun i out => out.length ≤ i) (fun out i r e hi => ⟨by
        have hm := List.mem_of_getElem? e
        have hR := hP.each r hm
        have hil := (List.getElem?_eq_some_iff.1 e).1
        show QcJ x p now out (i : Int) = _
        unfold QcJ pfxS
        rw [Qc6 e, incL e hpl]
        by_cases h0 : (evX x r).2.2 = 0
        · obtain ⟨p1, p2⟩ := Qrx (now := now) hx hR (h9 r hm) h0
          obtain ⟨_, b, hE⟩ := (Qst hx hR (h9 r hm)).2.2.2.2 h0
          have hf := hE.facts hx
          have hle := Qtq (x := x) (r := r) (s := (evX x r).1) (now := now)
          rw [p1, Qal]
          dsimp only
          rw [Qa0 (show neI 0 0 = false by decide), if_neg (by simpa using h0)]
          by_cases hk : fixS x r (evX x r).1 now = 0
          · rw [if_pos hk, Qa0 (by simp only [gtI_f]; omega)]
          · rw [if_neg hk, Qbj (by simp only [gtI_t]; omega), QzV hle hf.2.2.2.2.2.1 hR.visits, Qal, QfB (by unfold okN; simp; omega)]
        · rw [Qtv hx hR (h9 r hm) h0, Qal, Qbj (by simpa using h0), if_pos h0], inv out i r hi⟩) (fun out _ => by
        show QcJ x p now out (p.routes.length : Int) = _
        unfold QcJ
        rw [Qb1]) (Nat.zero_le _))]
      generalize foldE (pfxS x now) (fun s => (.inl s : List Qac ⊕ (List Qac × Int))) [] p.routes = e
      cases e <;> rfl
    · rw [QdY (Qut (B := fun q : List Qac × Int => QbI x p now q.1 q.2) hpl (pfxS x now) (fun s => .inl s) (fun i out => out.length ≤ i) (fun out i r e hi => ⟨by
        have hm := List.mem_of_getElem? e
        have hR := hP.each r hm
        have hil := (List.getElem?_eq_some_iff.1 e).1
        obtain ⟨e1, e2, e3, e4, e5⟩ := Qst hx hR (h9 r hm)
        show QbI x p now out (i : Int) = _
        unfold QbI QdT pfxS
        rw [Qc6 e, incL e hpl, e2, Qal]
        by_cases h0 : (evX x r).2.2 = 0
        · obtain ⟨p1, p2⟩ := Qrx (now := now) hx hR (h9 r hm) h0
          obtain ⟨_, b, hE⟩ := e5 h0
          have hf := hE.facts hx
          have hle := Qtq (x := x) (r := r) (s := (evX x r).1) (now := now)
          have hrl := QpJ (s := (evX x r).1)
          have htl := hf.2.2.2.2.2.1
          have h20 := hf.2.2.2.2.2.2.2
          rw [Qa0 (by simpa using h0), p2, Qal, if_neg (by simpa using h0)]
          by_cases hk : fixS x r (evX x r).1 now = 0
          · rw [if_pos hk, Qbj (by simp only [eqI_t]; omega)]
          · rw [if_neg hk, Qa0 (by simp only [eqI_f]; omega), Qya e3, Qal]
            unfold Qqi
            cases hfin : finB x r (evX x r).1 now with
            | true =>
              rw [Qhm, addI (by omega) (by omega), show (((fixS x r (evX x r).1 now : Nat) : Int) + 1) = ((fixS x r (evX x r).1 now + 1 : Nat) : Int) by simp, QqB (by omega), Qal, QfB (by unfold okN; simp; omega), QqB hle, Qal, QfB (by unfold okN; simp; omega), QfB (by unfold okN; simp; omega)]
              rfl
            | false =>
              rw [Qh1, QqB (by omega), Qal, QfB (by unfold okN; simp; omega), QqB hle, Qal, QfB (by unfold okN; simp; omega), QfB (by unfold okN; simp; omega)]
              rfl
        · rw [Qbj (by simpa using h0), if_pos h0], inv out i r hi⟩) (fun out _ => by
        show QbI x p now out (p.routes.length : Int) = _
        unfold QbI
        rw [Qb1]) (Nat.zero_le _))]
      generalize foldE (pfxS x now) (fun s => (.inl s : List Qac ⊕ (List Qac × Int))) [] p.routes = e
      cases e <;> rfl
theorem Qty {a : List Qac} (h : a.length ≤ 1048576) (hr : ∀ r ∈ a, r.visits.length ≤ 1048576 ∧ r.rests.length ≤ 1048576) : Qdp a a = some true := by
  unfold Qdp
  rw [Qa0 (by simp)]
  have := Qg6 (B := fun q => Qbo a a q) h (fun _ => false) (y := (.inr false : Unit ⊕ Bool)) (N := .inl ()) (fun i r e => by
    obtain ⟨h1, h2⟩ := hr r (List.mem_of_getElem? e)
    have l2 := Qg6 (B := fun q => Qbp a a (i : Int) q) h1 (fun _ => false) (y := (.inr false : Unit ⊕ Bool)) (N := .inl ()) (fun k v ek => by
      show Qbp a a (i : Int) k = _
      unfold Qbp
      rw [QaP e, Qal, Qc6 ek, Qal, QaP ek, Qal, Qbj (by simp), incL ek h1]
      rfl) (by
      show Qbp a a (i : Int) r.visits.length = _
      unfold Qbp
      rw [QaP e, Qal, Qb1])
    have l3 := Qg6 (B := fun q => Qbg a a (i : Int) q) h2 (fun _ => false) (y := (.inr false : Unit ⊕ Bool)) (N := .inl ()) (fun k v ek => by
      show Qbg a a (i : Int) k = _
      unfold Qbg
      rw [QaP e, Qal, Qc6 ek, Qal, QaP ek, Qal, Qbj (by simp), incL ek h2]
      rfl) (by
      show Qbg a a (i : Int) r.rests.length = _
      unfold Qbg
      rw [QaP e, Qal, Qb1])
    simp only [List.any_eq_true, Bool.false_eq_true, and_false, exists_false, if_false] at l2 l3
    show Qbo a a i = _
    unfold Qbo
    rw [Qc6 e, QaP e, Qal, Qa0 (by simp), Qa0 (by simp), Qa0 (by simp), Qa0 (by simp), QdY l2, Qht, QdY l3, Qht, incL e h]
    rfl) (by
    show Qbo a a a.length = _
    unfold Qbo
    rw [Qb1])
  simp only [List.any_eq_true, Bool.false_eq_true, and_false, exists_false, if_false] at this
  rw [QdY this]
  rfl
/-- What the beginnings are. -/
theorem QyQ {l : List Qac} {P : Qac → Prop} (hP : ∀ r ∈ l, (evX x r).2.2 = 0 → P (Qqi r (evX x r).1 (fixS x r (evX x r).1 now) (finB x r (evX x r).1 now))) : ∀ out : List Qac, (∀ b ∈ out, P b) →
    ∀ b ∈ (sel (foldE (pfxS x now) (fun s => (.inl s : List Qac ⊕ (List Qac × Int))) out l) (fun l => (l, (0 : Int))) (fun e => e)).1, P b := by
  induction l with
  | nil => exact fun out h => h
  | cons r l ih =>
    intro out h
    have ih' := ih fun q hq => hP q (List.mem_cons_of_mem _ hq)
    by_cases h0 : (evX x r).2.2 = 0
    · by_cases hk : fixS x r (evX x r).1 now = 0
      · have hp : pfxS x now out r = .inl out := by unfold pfxS; rw [if_neg (by simpa using h0), if_pos hk]
        rw [QpD hp]
        exact ih' out h
      · have hp : pfxS x now out r = .inl (out ++ [Qqi r (evX x r).1 (fixS x r (evX x r).1 now) (finB x r (evX x r).1 now)]) := by unfold pfxS; rw [if_neg (by simpa using h0), if_neg hk]
        rw [QpD hp]
        refine ih' _ fun b hb => ?_
        rcases List.mem_append.1 hb with hb | hb
        · exact h b hb
        · rw [List.mem_singleton.1 hb]
          exact hP r (List.mem_cons_self ..) h0
    · have hp : pfxS x now out r = .inr (.inr ([], (evX x r).2.2)) := by unfold pfxS; rw [if_pos h0]
      rw [QtJ hp]
      intro b hb
      cases hb
theorem QyR {l : List Qac} : ∀ out : List Qac, (sel (foldE (pfxS x now) (fun s => (.inl s : List Qac ⊕ (List Qac × Int))) out l) (fun l => (l, (0 : Int))) (fun e => e)).1.length ≤ out.length + l.length := by
  induction l with
  | nil => exact fun out => Nat.le_refl _
  | cons r l ih =>
    intro out
    rw [List.length_cons]
    by_cases h0 : (evX x r).2.2 = 0
    · by_cases hk : fixS x r (evX x r).1 now = 0
      · have hp : pfxS x now out r = .inl out := by unfold pfxS; rw [if_neg (by simpa using h0), if_pos hk]
        rw [QpD hp]
        have := ih out
        omega
      · have hp : pfxS x now out r = .inl (out ++ [Qqi r (evX x r).1 (fixS x r (evX x r).1 now) (finB x r (evX x r).1 now)]) := by unfold pfxS; rw [if_neg (by simpa using h0), if_neg hk]
        rw [QpD hp]
        have := ih (out ++ [Qqi r (evX x r).1 (fixS x r (evX x r).1 now) (finB x r (evX x r).1 now)])
        rw [List.length_append, List.length_singleton] at this
        omega
    · have hp : pfxS x now out r = .inr (.inr ([], (evX x r).2.2)) := by unfold pfxS; rw [if_pos h0]
      rw [QtJ hp]
      exact Nat.zero_le _
theorem Qzc {p : QaN} (hx : QeM x) (hP : PlanI p) (h9 : ∀ r ∈ p.routes, Qtc r) : (prefS x p now).1.length ≤ 1048576 ∧ ∀ r ∈ (prefS x p now).1, r.visits.length ≤ 1048576 ∧ r.rests.length ≤ 1048576 := by
  have hpl := hP.routes
  unfold prefS
  cases tickB now with
  | false => exact ⟨Nat.zero_le _, fun r h => by cases h⟩
  | true =>
    rw [if_pos rfl]
    refine ⟨Nat.le_trans (QyR []) (by simpa using hpl), QyQ (P := fun r => r.visits.length ≤ 1048576 ∧ r.rests.length ≤ 1048576) (fun r hr h0 => ?_) [] fun b hb => by cases hb⟩
    obtain ⟨_, b, hE⟩ := (Qst hx (hP.each r hr) (h9 r hr)).2.2.2.2 h0
    have hf := hE.facts hx
    have hrl := QpJ (s := (evX x r).1)
    have htl := hf.2.2.2.2.2.1
    have h20 := hf.2.2.2.2.2.2.2
    unfold Qqi
    simp only [List.length_take]
    omega
theorem Qyc (hI : InstI x) : post (QeN x) fun ok => ok = true → QeM x := by
  unfold QeN
  refine Qa3 (Qu0 hI) fun l hl => Qav.2 fun h => ?_
  simp only [eqI_t, lenI] at h
  exact hl (List.length_eq_zero_iff.1 (by omega))
def Qvt (r : Qac) : Bool := leI (lenI r.visits) 8 || gtI (lenI r.visits) 20
theorem Qvv : QfE r = some (Qvt r) := rfl
theorem Qvu (h : Qvt r = true) : Qtc r := by
  unfold Qvt at h
  simp only [Bool.or_eq_true, leI_t, gtI_t, lenI] at h
  unfold Qtc
  omega
theorem Qz0 {p : QaN} (hp : p.routes.length ≤ 1048576) : post (Qis p) fun ok => ok = true → p.routes.length ≤ 6 ∧ ∀ r ∈ p.routes, Qtc r := by
  unfold Qis
  refine QaS (fun _ => Qav.2 fun h => by cases h) (fun h6 => ?_)
  rw [QdY (Qg6 (B := fun s => Qc3 p s) hp (fun r => !Qvt r) (y := (.inr false : Unit ⊕ Bool)) (N := .inl ()) (fun i a h => by
    show Qc3 p i = _
    unfold Qc3
    rw [Qc6 h, Qvv, Qal, incL h hp]
    cases Qvt a <;> rfl) (by
    show Qc3 p p.routes.length = _
    unfold Qc3
    rw [Qb1]))]
  by_cases hs : p.routes.any (fun r => !Qvt r) = true
  · rw [if_pos hs, QmO]; exact Qav.2 fun h => by cases h
  · rw [if_neg hs, Qht]
    refine Qav.2 fun _ => ⟨by simp only [gtI_f, lenI] at h6; omega, fun r hr => Qvu ?_⟩
    have := List.any_eq_false.1 (by simpa using hs : p.routes.any (fun r => !Qvt r) = false) r hr
    simpa using this
theorem QrW (x : Qad) (hI : InstI x) (r : Qac) (hR : QrY r) (now : Int) : Qe8 x r now = some true := by
  apply post.eq
  unfold Qe8
  rw [QoR, Qvv]
  refine Qa3 (Qyc hI) fun ok hok => QaS (fun h => ?_) (fun _ => Qav.2 rfl)
  rw [Qal]
  refine QaS (fun h9 => ?_) (fun _ => Qav.2 rfl)
  obtain ⟨f1, f2⟩ := QuV (now := now) (hok h) hR (Qvu h9)
  rw [f1, Qal, f2, Qal, Qbj (by simp)]
  exact Qav.2 rfl
theorem Qqh (x : Qad) (hI : InstI x) (p : QaN) (hP : PlanI p) (now : Int) : QdZ x p now = some true := by
  apply post.eq
  unfold QdZ
  rw [QoR]
  refine Qa3 (Qyc hI) fun ok hok => QaS (fun h => ?_) (fun _ => Qav.2 rfl)
  refine Qa3 (Qz0 hP.routes) fun fw hfw => QaS (fun h9 => ?_) (fun _ => Qav.2 rfl)
  obtain ⟨_, hs⟩ := hfw h9
  obtain ⟨f1, f2⟩ := Qre (now := now) (hok h) hP hs
  obtain ⟨s1, s2⟩ := Qzc (now := now) (hok h) hP hs
  rw [f1, Qal, f2, Qal, Qbj (by simp), Qty s1 s2, Qal]
  exact Qav.2 rfl
end
end Go.Proofs.YtoogjnlmicgfiaaGreatDoor
namespace Go.Proofs.YtoogjnlmicgfiaaGreatDoor
set_option linter.unusedSimpArgs false
set_option linter.unusedVariables false
set_option linter.unusedSectionVars false
theorem QwF {p q : Nat → Bool} (h : ∀ k, q k = true → p k = true) (n : Nat) : QpR p n 0 ≤ QpR q n 0 := by
  obtain ⟨a1, a2, a3, a4⟩ := QpF p n 0
  obtain ⟨b1, b2, b3, b4⟩ := QpF q n 0
  refine Nat.le_of_not_lt fun hlt => ?_
  have h1 := h _ (b4 (by omega))
  rw [a3 _ (Nat.zero_le _) hlt] at h1
  cases h1
def QnJ {α : Type} [DecidableEq α] (l first : List α) : Bool := decide (l.take first.length = first)
theorem Qys {α : Type} [DecidableEq α] {l first : List α} (hlen : first.length ≤ l.length) : (!QnJ l first) = true ↔ ∃ k, k < first.length ∧ (match first[k]?, l[k]? with | some a, some b => !decide (a = b) | _, _ => false) = true := by
  unfold QnJ
  rw [Bool.not_eq_true', decide_eq_false_iff_not]
  constructor
  · intro h
    refine Classical.byContradiction fun hn => h (List.ext_getElem? fun i => ?_)
    rcases Nat.lt_or_ge i first.length with hi | hi
    · rw [List.getElem?_take_of_lt hi]
      refine Classical.byContradiction fun hne => hn ⟨i, hi, ?_⟩
      rw [List.getElem?_eq_getElem hi, List.getElem?_eq_getElem (show i < l.length by omega)] at hne ⊢
      simp only [Bool.not_eq_true', decide_eq_false_iff_not]
      exact fun he => hne (by rw [he])
    · rw [List.getElem?_eq_none (by rw [List.length_take]; omega), List.getElem?_eq_none hi]
  · rintro ⟨k, hk, h⟩ he
    rw [List.getElem?_eq_getElem hk, List.getElem?_eq_getElem (show k < l.length by omega)] at h
    simp only [Bool.not_eq_true', decide_eq_false_iff_not] at h
    have e1 : (l.take first.length)[k]? = some (l[k]'(by omega)) := by rw [List.getElem?_take_of_lt hk, List.getElem?_eq_getElem]
    rw [he, List.getElem?_eq_getElem hk] at e1
    exact h (Option.some.inj e1)
theorem QtB {α E : Type} [DecidableEq α] {l first : List α} {q : α → α → Bool} (hq : ∀ a b, q a b = true ↔ a = b) (hlen : first.length ≤ l.length) (hf : first.length ≤ 1048576) {B : Int → Option (Int ⊕ E)} {y N : E}
    (hin : ∀ (i : Nat) a b, first[i]? = some a → l[i]? = some b → B (i : Int) = br (q b a) (some (.inl ((i : Int) + 1))) (some (.inr y))) (hend : B (first.length : Int) = some (.inr N)) : loopF B 0 = some (if QnJ l first = true then N else y) := by
  rw [Qt2 hf _ (b := !QnJ l first) (Qys hlen) (fun i hi => ?_) hend]
  · cases QnJ l first <;> rfl
  · have e1 : first[i]? = some first[i] := List.getElem?_eq_getElem hi
    have e2 : l[i]? = some (l[i]'(by omega)) := List.getElem?_eq_getElem _
    rw [hin i _ _ e1 e2, e1, e2]
    simp only
    have : q (l[i]'(by omega)) first[i] = decide (first[i] = l[i]'(by omega)) := by
      rw [Bool.eq_iff_iff, hq, decide_eq_true_iff]
      exact ⟨fun h => h.symm, fun h => h.symm⟩
    rw [this]
    by_cases hh : first[i] = l[i]'(by omega)
    · simp [hh]
    · simp [hh]
theorem QtA {α : Type} [DecidableEq α] {l first : List α} (h : l.length < first.length) : QnJ l first = false := by
  unfold QnJ
  rw [decide_eq_false_iff_not]
  intro he
  have := congrArg List.length he
  rw [List.length_take] at this
  omega
def qV (a b : Qab) : Bool := eqI a.order b.order && (eqB a.drop b.drop && true)
theorem qV_t (a b : Qab) : qV a b = true ↔ a = b := by unfold qV; cases a; cases b; simp
theorem qB_t (a b : Bool) : eqB a b = true ↔ a = b := eqB_t
section
variable {x : Qad} {r b : Qac} {s : Qah} {now : Int}
/-- Does a route begin with a beginning? -/
def QvK (r b : Qac) : Bool := decide (r.type_ = b.type_ ∧ r.start = b.start) && (QnJ r.visits b.visits && (QnJ r.rests b.rests && (leI (lenI b.rests) (lenI b.visits) || (eqI (lenI r.visits) (lenI b.visits) && eqI (lenI r.rests) (lenI b.rests)))))
theorem Qwr (hv : b.visits.length ≤ 1048576) (hr : b.rests.length ≤ 1048576) : Qgm r b = some (QvK r b) := by
  unfold Qgm QvK
  by_cases h1 : r.type_ = b.type_ ∧ r.start = b.start
  · by_cases h2 : b.visits.length ≤ r.visits.length
    · by_cases h3 : b.rests.length ≤ r.rests.length
      · rw [Qa0 (by simp [lenI]; omega), decide_eq_true h1, Bool.true_and]
        have l1 := QtB (B := fun q => Qcc r b q) qV_t h2 hv (y := (.inr false : Unit ⊕ Bool)) (N := .inl ()) (fun i a c e1 e2 => by
          show Qcc r b i = _
          unfold Qcc
          have := (List.getElem?_eq_some_iff.1 e1).1
          rw [Qbj (by simp [lenI]; omega), QaP e2, Qal, QaP e1, Qal, incL e1 hv]
          rfl) (by
          show Qcc r b b.visits.length = _
          unfold Qcc
          rw [Qa0 (by simp [lenI])])
        have l2 := QtB (B := fun q => QbL r b q) qB_t h3 hr (y := (.inr false : Unit ⊕ Bool)) (N := .inl ()) (fun i a c e1 e2 => by
          show QbL r b i = _
          unfold QbL
          have := (List.getElem?_eq_some_iff.1 e1).1
          rw [Qbj (by simp [lenI]; omega), QaP e2, Qal, QaP e1, Qal, incL e1 hr]) (by
          show QbL r b b.rests.length = _
          unfold QbL
          rw [Qa0 (by simp [lenI])])
        rw [QdY l1]
        cases QnJ r.visits b.visits with
        | false => rfl
        | true =>
          rw [if_pos rfl, Qht, QdY l2, Bool.true_and]
          cases QnJ r.rests b.rests <;> rfl
      · rw [Qbj (by simp [lenI]; omega), QtA (l := r.rests) (by omega)]
        simp
    · rw [Qbj (by simp [lenI]; omega), QtA (l := r.visits) (by omega)]
      simp
  · rw [Qbj (by simp; omega), decide_eq_false h1]
    rfl
theorem Qx3 (ht : tickB now = true) : prefS x (QaN.mk [r] []) now = if (evX x r).2.2 ≠ 0 then ([], (evX x r).2.2) else if fixS x r (evX x r).1 now = 0 then ([], 0) else ([Qqi r (evX x r).1 (fixS x r (evX x r).1 now) (finB x r (evX x r).1 now)], 0) := by
  unfold prefS
  rw [if_pos ht]
  by_cases h0 : (evX x r).2.2 = 0
  · by_cases hk : fixS x r (evX x r).1 now = 0
    · have hp : pfxS x now [] r = .inl [] := by unfold pfxS; rw [if_neg (by simpa using h0), if_pos hk]
      rw [QpD hp, if_neg (by simpa using h0), if_pos hk]
      rfl
    · have hp : pfxS x now [] r = .inl ([] ++ [Qqi r (evX x r).1 (fixS x r (evX x r).1 now) (finB x r (evX x r).1 now)]) := by unfold pfxS; rw [if_neg (by simpa using h0), if_neg hk]
      rw [QpD hp, if_neg (by simpa using h0), if_neg hk]
      rfl
  · have hp : pfxS x now [] r = .inr (.inr ([], (evX x r).2.2)) := by unfold pfxS; rw [if_pos h0]
    rw [QtJ hp, if_pos h0]
    rfl
theorem QyO {more : Int} (hm : 0 ≤ more) : fixS x r s now ≤ fixS x r s (now + more) := by
  unfold fixS
  exact QwF (fun k h => by simp only [geI_t] at h ⊢; omega) _
theorem QtL {A B n : Int} {l m : List Qac} (h1 : A ≤ B) (h2 : B ≤ n) (h3 : eqI (lenI l) 1 = gtI A 0) (h4 : eqI (lenI m) 1 = gtI B 0) : ((((((neI (0 : Int) 0 || neI (0 : Int) 0) || neI (0 : Int) 0) || gtI A B) || gtI B n) || !eqB (eqI (lenI l) 1) (gtI A 0)) || !eqB (eqI (lenI m) 1) (gtI B 0)) = false := by
  rw [h3, h4]
  simp [h1, h2]
theorem QAr {q : Qac} {a : Nat} (h : ¬ a = 0) : eqI (lenI [q]) 1 = gtI (a : Int) 0 := by
  rw [show gtI (a : Int) 0 = true by simp; omega]; rfl
theorem QAq {a : Nat} (h : a = 0) : eqI (lenI ([] : List Qac)) 1 = gtI (a : Int) 0 := by
  subst h; decide
theorem QrX (x : Qad) (hI : InstI x) (r : Qac) (hR : QrY r) (now more : Int) : Qe9 x r now more = some true := by
  apply post.eq
  unfold Qe9
  rw [QoR, Qvv]
  refine Qa3 (Qyc hI) fun ok hok => QaS (fun h => ?_) (fun _ => Qav.2 rfl)
  rw [Qal]
  refine QaS (fun _ => Qav.2 rfl) (fun hc => ?_)
  have hx := hok h
  have hsub : 0 ≤ now ∧ now ≤ 4096 → subK .i64 4096 now = 4096 - now := fun h => subI (by omega) (by omega)
  simp only [Bool.or_eq_false_iff, Bool.not_eq_false', ltI_f, gtI_f] at hc
  obtain ⟨⟨⟨⟨h9, c1⟩, c2⟩, c3⟩, c4⟩ := hc
  rw [hsub ⟨c1, c2⟩] at c4
  have hs := Qvu h9
  have t1 : tickB now = true := decide_eq_true ⟨c1, c2⟩
  have t2 : tickB (now + more) = true := decide_eq_true ⟨by omega, by omega⟩
  have hP : PlanI (QaN.mk [r] []) := ⟨by simp, fun q hq => by rw [List.mem_singleton.1 hq]; exact hR, by simp⟩
  have hs' : ∀ q ∈ (QaN.mk [r] []).routes, Qtc q := fun q hq => by rw [List.mem_singleton.1 hq]; exact hs
  rw [addI (by omega) (by omega), (QuV (now := now) hx hR hs).1, Qal, (QuV (now := now + more) hx hR hs).1, Qal, (Qre (now := now) hx hP hs').1, Qal, (Qre (now := now + more) hx hP hs').1, Qal, Qx3 t1, Qx3 t2]
  unfold QyP
  rw [if_pos t1, if_pos t2]
  obtain ⟨e1, e2, e3, e4, e5⟩ := Qst hx hR hs
  by_cases h0 : (evX x r).2.2 = 0
  · obtain ⟨_, b, hE⟩ := e5 h0
    have hf := hE.facts hx
    have hrl := QpJ (s := (evX x r).1)
    have htl := hf.2.2.2.2.2.1
    have ha := Qtq (x := x) (r := r) (s := (evX x r).1) (now := now)
    have hb := Qtq (x := x) (r := r) (s := (evX x r).1) (now := now + more)
    have hab := QyO (x := x) (r := r) (s := (evX x r).1) (now := now) c3
    have hfin : finB x r (evX x r).1 now = true → fixS x r (evX x r).1 now = r.visits.length ∧ finB x r (evX x r).1 (now + more) = true := fun hf => by
      unfold finB at hf ⊢
      by_cases h1 : fixS x r (evX x r).1 now < r.visits.length
      · rw [if_pos h1] at hf; cases hf
      · rw [if_neg h1] at hf
        rw [if_neg (by omega)]
        simp only [Bool.and_eq_true, gtI_t, ltI_t] at hf ⊢
        exact ⟨by omega, hf.1, by omega⟩
    simp only [if_pos h0, if_neg (show ¬ (evX x r).2.2 ≠ 0 by simpa using h0)]
    rw [Qa0 (by decide)]
    generalize fixS x r (evX x r).1 now = a at *
    generalize fixS x r (evX x r).1 (now + more) = c at *
    generalize finB x r (evX x r).1 now = fa at *
    generalize finB x r (evX x r).1 (now + more) = fc at *
    by_cases hz : a = 0
    · rw [if_pos hz]
      by_cases hz2 : c = 0
      · rw [if_pos hz2, Qa0 (QtL (by omega) (by show _ ≤ (r.visits.length : Int); omega) (QAq hz) (QAq hz2)), Qbj (by simp; omega)]
        exact Qav.2 rfl
      · rw [if_neg hz2, Qa0 (QtL (by omega) (by show _ ≤ (r.visits.length : Int); omega) (QAq hz) (QAr hz2)), Qbj (by simp; omega)]
        exact Qav.2 rfl
    · have hz2 : ¬ c = 0 := by omega
      rw [if_neg hz, if_neg hz2, Qa0 (QtL (by omega) (by show _ ≤ (r.visits.length : Int); omega) (QAr hz) (QAr hz2)), Qa0 (by simp; omega)]
      show post (br (neI (lenI (r.visits.take a)) (a : Int)) _ (br (neI (lenI (r.visits.take c)) (c : Int)) _ (br (gtI (lenI ((Ql8 (evX x r).1).take (if fa = true then a + 1 else a))) (a : Int)) _ _))) _
      rw [Qa0 (by simp [lenI]; omega), Qa0 (by simp [lenI]; omega)]
      cases fa with
      | true =>
        obtain ⟨g1, g2⟩ := hfin rfl
        rw [g2, show c = a by omega, Qbj (by simp [lenI]; omega), Qty (by simp) (fun q hq => by rw [List.mem_singleton.1 hq]; unfold Qqi; simp only [List.length_take]; omega), Qal]
        exact Qav.2 rfl
      | false =>
        rw [Qa0 (by simp [lenI]; omega)]
        rw [Qwr (by show (r.visits.take a).length ≤ _; rw [List.length_take]; omega) (by show ((Ql8 (evX x r).1).take a).length ≤ _; rw [List.length_take]; omega), Qal]
        have hbg : QvK (Qqi r (evX x r).1 c fc) (Qqi r (evX x r).1 a false) = true := by
          unfold QvK Qqi
          simp only [Bool.and_eq_true, Bool.or_eq_true, decide_eq_true_iff]
          refine ⟨⟨trivial, trivial⟩, ?_, ?_, .inl ?_⟩
          · unfold QnJ
            rw [decide_eq_true_iff, List.take_take, List.length_take]
            congr 1
            omega
          · unfold QnJ
            rw [decide_eq_true_iff, List.take_take, List.length_take]
            simp only [Bool.false_eq_true, if_false]
            congr 1
            split <;> omega
          · simp [lenI]; omega
        rw [Qbj hbg]
        exact Qav.2 rfl
  · simp only [if_neg h0, if_pos (show (evX x r).2.2 ≠ 0 from h0)]
    rw [Qbj (by simpa using h0), Qbj (by simp [lenI]; rfl)]
    exact Qav.2 rfl
end
end Go.Proofs.YtoogjnlmicgfiaaGreatDoor
namespace Go.Proofs.YtoogjnlmicgfiaaGreatDoor
set_option linter.unusedSimpArgs false
set_option linter.unusedVariables false
set_option linter.unusedSectionVars false
theorem QA6 {n : Qaj} (h : Qaj.ok 1048576 n) : NetI n := by
  obtain ⟨⟨h1, h2⟩, ⟨h3, h4⟩, _⟩ := h
  refine ⟨h1, h3, h2, fun a ha => ?_⟩
  obtain ⟨_, _, _, _, ⟨h5, h6⟩, ⟨h7, h8⟩, _⟩ := h4 a ha
  exact ⟨h5, h7, fun p hp => ⟨(h6 p hp).1, (h6 p hp).2.1⟩, fun p hp => ⟨(h8 p hp).1, (h8 p hp).2.1⟩⟩
end Go.Proofs.YtoogjnlmicgfiaaGreatDoor
namespace Go.Proofs.YtoogjnlmicgfiaaGreatDoor
set_option linter.unusedSimpArgs false
set_option linter.unusedVariables false
set_option linter.unusedSectionVars false
theorem Qu9 {x : Qad} (h : Qad.ok 1048576 x) : InstI x := by
  obtain ⟨h0, ⟨h1, h2⟩, ⟨h3, h4⟩, ⟨h5, _⟩, ⟨h6, _⟩, _⟩ := h
  refine ⟨QA6 h0, h1, h3, h5, h6, fun t ht => ?_, fun o ho => ?_⟩
  · obtain ⟨a, _, _, _, ⟨b, _⟩, _⟩ := h2 t ht
    exact ⟨a, b⟩
  · obtain ⟨a, ⟨b, _⟩, _⟩ := h4 o ho
    exact ⟨a, b⟩
theorem QtY {r : Qac} (h : Qac.ok 1048576 r) : QrY r := by
  obtain ⟨h0, h1, ⟨h2, _⟩, ⟨h3, _⟩, _⟩ := h
  exact ⟨h0, h1, h2, h3⟩
end Go.Proofs.YtoogjnlmicgfiaaGreatDoor
namespace Go.Proofs.YtoogjnlmicgfiaaGreatDoor
set_option linter.unusedSimpArgs false
set_option linter.unusedVariables false
set_option linter.unusedSectionVars false
theorem QAv {p : QaN} (h : QaN.ok 1048576 p) : PlanI p := ⟨h.1.1, fun r hr => QtY (h.1.2 r hr), h.2.1.1⟩
end Go.Proofs.YtoogjnlmicgfiaaGreatDoor
