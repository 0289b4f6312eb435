/- Part MR of the proof: texts Zra Zrb Zrc Zrd Zre Zrf Zrg Zrh Zri Zrj Zqz Zqzd. -/
import Derived.Test.YtfldlilicmbmkaaGreatDoorMP
import Derived.Test.YtfldlilicmbmkaaGreatDoorMQ
import Derived.Test.YtfldlilicmbmkaaGreatDoorMT
namespace Go.Proofs.YtfldlilicmbmkaaGreatDoor
set_option linter.unusedSimpArgs false
set_option linter.unusedVariables false
set_option linter.unusedSectionVars false
def ixP {α : Type} (p : α → Bool) : List α → Option Nat
  | [] => none
  | a :: r => if p a = true then some 0 else (ixP p r).map (· + 1)
section
variable {α : Type} {p : α → Bool}
theorem ixP_some {l : List α} {k : Nat} (h : ixP p l = some k) : ∃ hk : k < l.length, p l[k] = true ∧ ∀ j (hj : j < k), p (l[j]'(by omega)) = false := by
  induction l generalizing k with
  | nil => cases h
  | cons a r ih =>
    unfold ixP at h
    split at h
    · cases h
      exact ⟨by simp, by simpa, fun j hj => by omega⟩
    · rename_i ha
      rw [Option.map_eq_some_iff] at h
      obtain ⟨m, hm, rfl⟩ := h
      obtain ⟨h1, h2, h3⟩ := ih hm
      refine ⟨by simp; omega, by simpa using h2, fun j hj => ?_⟩
      cases j with
      | zero => simpa using ha
      | succ j => simpa using h3 j (by omega)
theorem ixP_none {l : List α} (h : ixP p l = none) : ∀ a ∈ l, p a = false := by
  induction l with
  | nil => simp
  | cons a r ih =>
    unfold ixP at h
    split at h
    · cases h
    · rename_i ha
      rw [Option.map_eq_none_iff] at h
      intro b hb
      rcases List.mem_cons.1 hb with rfl | hb
      · simpa using ha
      · exact ih h b hb
def ixI (p : α → Bool) (l : List α) : Int := match ixP p l with
  | some k => k
  | none => -1
theorem ixI_ge {l : List α} : 0 ≤ ixI p l ↔ ∃ a ∈ l, p a = true := by
  unfold ixI
  cases h : ixP p l with
  | some k =>
    obtain ⟨h1, h2, _⟩ := ixP_some h
    exact ⟨fun _ => ⟨_, List.getElem_mem h1, h2⟩, fun _ => Int.natCast_nonneg k⟩
  | none => exact ⟨fun h' => by simp at h', fun ⟨a, ha, hp⟩ => by rw [ixP_none h a ha] at hp; cases hp⟩
theorem ixI_lo {l : List α} : -1 ≤ ixI p l ∧ ixI p l < l.length := by
  unfold ixI
  cases h : ixP p l with
  | some k => have := (ixP_some h).1; simp only; omega
  | none => simp only; omega
theorem geI_ixI {l : List α} : geI (ixI p l) 0 = l.any p := by
  rw [Bool.eq_iff_iff, geI_t, ixI_ge, List.any_eq_true]
end
section
variable {E : Type} {B : Int → Option (Int ⊕ E)}
/-- A loop over the indexes below n: it goes out at the first with p. -/
theorem scan_n {n : Nat} (hn : n ≤ 1048576) (p : Nat → Bool) (Y : Nat → E) {N : E}
    (hin : ∀ i : Nat, i < n → B (i : Int) = some (if p i = true then .inr (Y i) else .inl ((i : Int) + 1))) (hend : B (n : Int) = some (.inr N)) :
    (∃ k, k < n ∧ p k = true ∧ (∀ j, j < k → p j = false) ∧ loopF B 0 = some (Y k)) ∨ ((∀ j, j < n → p j = false) ∧ loopF B 0 = some N) := by
  have main : post (loopF B 0) fun e => (∃ k, k < n ∧ p k = true ∧ (∀ j, j < k → p j = false) ∧ e = Y k) ∨ ((∀ j, j < n → p j = false) ∧ e = N) := by
    refine post_loop (fun i => ∃ k : Nat, i = (k : Int) ∧ k ≤ n ∧ ∀ j, j < k → p j = false) (fun i => n - i.toNat) ⟨0, rfl, Nat.zero_le _, fun j hj => by omega⟩ (by simp; omega) ?_
    rintro _ ⟨k, rfl, hk, hf⟩
    rcases Nat.lt_or_ge k n with h | h
    · rw [hin k h]
      split
      · rename_i hp
        exact post_inr (.inl ⟨k, h, hp, hf, rfl⟩)
      · rename_i hp
        refine post_inl ⟨⟨k + 1, by simp, by omega, fun j hj => ?_⟩, by simp; omega⟩
        rcases Nat.lt_or_eq_of_le (Nat.le_of_lt_succ hj) with hj | rfl
        · exact hf j hj
        · simpa using hp
    · obtain rfl : k = n := by omega
      rw [hend]
      exact post_inr (.inr ⟨hf, rfl⟩)
  obtain ⟨e, he, h⟩ := main
  rcases h with ⟨k, h1, h2, h3, rfl⟩ | ⟨h1, rfl⟩
  · exact .inl ⟨k, h1, h2, h3, he⟩
  · exact .inr ⟨h1, he⟩
theorem scan_c {n : Nat} (hn : n ≤ 1048576) (p : Nat → Bool) {y N : E} {b : Bool} (hb : b = true ↔ ∃ k, k < n ∧ p k = true)
    (hin : ∀ i : Nat, i < n → B (i : Int) = some (if p i = true then .inr y else .inl ((i : Int) + 1))) (hend : B (n : Int) = some (.inr N)) :
    loopF B 0 = some (if b = true then y else N) := by
  rcases scan_n hn p (fun _ => y) hin hend with ⟨k, h1, h2, _, h4⟩ | ⟨h1, h4⟩
  · rw [h4, if_pos (hb.2 ⟨k, h1, h2⟩)]
  · rw [h4, if_neg fun h => by obtain ⟨k, h5, h6⟩ := hb.1 h; rw [h1 k h5] at h6; cases h6]
/-- A loop over the rows of a list. -/
theorem scan_any {α : Type} {l : List α} (hl : l.length ≤ 1048576) (p : α → Bool) {y N : E}
    (hin : ∀ (i : Nat) a, l[i]? = some a → B (i : Int) = some (if p a = true then .inr y else .inl ((i : Int) + 1))) (hend : B (l.length : Int) = some (.inr N)) :
    loopF B 0 = some (if l.any p = true then y else N) := by
  refine scan_c hl (fun i => match l[i]? with | some a => p a | none => false) ?_ (fun i hi => ?_) hend
  · rw [List.any_eq_true]
    constructor
    · rintro ⟨a, ha, hp⟩
      obtain ⟨k, hk, rfl⟩ := List.getElem_of_mem ha
      exact ⟨k, hk, by rw [List.getElem?_eq_getElem hk]; exact hp⟩
    · rintro ⟨k, hk, hp⟩
      rw [List.getElem?_eq_getElem hk] at hp
      exact ⟨_, List.getElem_mem hk, hp⟩
  · rw [List.getElem?_eq_getElem hi]
    exact hin i _ (List.getElem?_eq_getElem hi)
theorem scan_ix {α : Type} {l : List α} (hl : l.length ≤ 1048576) (p : α → Bool) (Y : Nat → E) {N : E}
    (hin : ∀ (i : Nat) a, l[i]? = some a → B (i : Int) = some (if p a = true then .inr (Y i) else .inl ((i : Int) + 1))) (hend : B (l.length : Int) = some (.inr N)) :
    loopF B 0 = some (match ixP p l with | some k => Y k | none => N) := by
  have h := scan_n (B := B) hl (fun i => match l[i]? with | some a => p a | none => false) Y (N := N) (fun i hi => by
    rw [List.getElem?_eq_getElem hi]; exact hin i _ (List.getElem?_eq_getElem hi)) hend
  have at_ : ∀ j (hj : j < l.length), (match l[j]? with | some a => p a | none => false) = p l[j] := fun j hj => by rw [List.getElem?_eq_getElem hj]
  rcases h with ⟨k, h1, h2, h3, h4⟩ | ⟨h1, h4⟩
  · cases hx : ixP p l with
    | none => rw [at_ k h1, ixP_none hx _ (List.getElem_mem h1)] at h2; cases h2
    | some m =>
      obtain ⟨g1, g2, g3⟩ := ixP_some hx
      rcases Nat.lt_trichotomy k m with h | h | h
      · rw [at_ k h1, g3 k h] at h2; cases h2
      · rw [h4, h]
      · have := h3 m h; simp only [at_ m g1] at this; rw [g2] at this; cases this
  · cases hx : ixP p l with
    | none => rw [h4]
    | some m =>
      obtain ⟨g1, g2, g3⟩ := ixP_some hx
      have := h1 m g1; simp only [at_ m g1] at this; rw [g2] at this; cases this
end
theorem wrapN {m : Nat} (h : m < 9223372036854775808) : IntKind.i64.wrap (m : Int) = m := IntWalk.i64_in _ ⟨by omega, by omega⟩
theorem cvuN {m : Nat} (h : m < 9223372036854775808) : cvK .u64 (m : Int) = m := by
  unfold cvK
  simp only [IntKind.wrap, IntKind.bits, IntKind.signed]
  simp
  omega
theorem shrN {m i : Nat} (hi : i ≤ 64) : shrK .i64 (m : Int) (i : Int) = ((m / 2 ^ i : Nat) : Int) := by
  unfold shrK
  rw [show min (i : Int).toNat IntKind.i64.bits = i by simp [IntKind.bits]; omega, show (2 : Int) ^ i = ((2 ^ i : Nat) : Int) by simp, Int.fdiv_eq_ediv_of_nonneg _ (Int.natCast_nonneg _)]
  rfl
theorem shlN {i : Nat} (hi : i ≤ 62) : shlK .i64 1 (i : Int) = ((2 ^ i : Nat) : Int) := by
  have h2 : 2 ^ i ≤ 2 ^ 62 := Nat.pow_le_pow_right (by omega) hi
  unfold shlK
  rw [show min (i : Int).toNat IntKind.i64.bits = i by simp [IntKind.bits]; omega, Int.one_mul, show (2 : Int) ^ i = ((2 ^ i : Nat) : Int) by simp]
  exact wrapN (by omega)
theorem orN {a b : Nat} (ha : a < 9223372036854775808) (hb : b < 9223372036854775808) : orK .i64 (a : Int) (b : Int) = ((a ||| b : Nat) : Int) := by
  unfold orK
  have h := Nat.or_lt_two_pow (n := 63) ha hb
  have e : (BitVec.ofInt IntKind.i64.bits (a : Int) ||| BitVec.ofInt IntKind.i64.bits (b : Int)).toNat = a ||| b := by
    rw [BitVec.toNat_or]
    show (BitVec.ofInt 64 (a : Int)).toNat ||| (BitVec.ofInt 64 (b : Int)).toNat = _
    rw [BitVec.ofInt_natCast, BitVec.ofInt_natCast, BitVec.toNat_ofNat, BitVec.toNat_ofNat, Nat.mod_eq_of_lt (by omega), Nat.mod_eq_of_lt (by omega)]
  rw [e]
  exact wrapN (by omega)
theorem andN {a b : Nat} (ha : a < 9223372036854775808) (hb : b < 9223372036854775808) : andK .i64 (a : Int) (b : Int) = ((a &&& b : Nat) : Int) := by
  unfold andK
  have h := Nat.and_le_left (n := a) (m := b)
  have e : (BitVec.ofInt IntKind.i64.bits (a : Int) &&& BitVec.ofInt IntKind.i64.bits (b : Int)).toNat = a &&& b := by
    rw [BitVec.toNat_and]
    show (BitVec.ofInt 64 (a : Int)).toNat &&& (BitVec.ofInt 64 (b : Int)).toNat = _
    rw [BitVec.ofInt_natCast, BitVec.ofInt_natCast, BitVec.toNat_ofNat, BitVec.toNat_ofNat, Nat.mod_eq_of_lt (by omega), Nat.mod_eq_of_lt (by omega)]
  rw [e]
  exact wrapN (by omega)
theorem andNotN {a b : Nat} (ha : a < 9223372036854775808) (hb : b < 9223372036854775808) : andNotK .i64 (a : Int) (b : Int) = 0 ↔ ∀ i, a.testBit i = true → b.testBit i = true := by
  show IntKind.i64.wrap (((BitVec.ofInt 64 (a : Int) &&& ~~~BitVec.ofInt 64 (b : Int)).toNat : Nat) : Int) = 0 ↔ _
  rw [BitVec.ofInt_natCast, BitVec.ofInt_natCast]
  have hle : (BitVec.ofNat 64 a &&& ~~~BitVec.ofNat 64 b).toNat < 9223372036854775808 := by
    rw [BitVec.toNat_and, BitVec.toNat_ofNat, Nat.mod_eq_of_lt (by omega)]
    exact Nat.lt_of_le_of_lt Nat.and_le_left ha
  rw [wrapN hle]
  have bit : ∀ i, (BitVec.ofNat 64 a &&& ~~~BitVec.ofNat 64 b).toNat.testBit i = (a.testBit i && !b.testBit i) := fun i => by
    rw [BitVec.testBit_toNat, BitVec.getLsbD_and, BitVec.getLsbD_not, BitVec.getLsbD_ofNat, BitVec.getLsbD_ofNat]
    rcases Nat.lt_or_ge i 64 with h | h
    · simp [h]
    · have : a.testBit i = false := Nat.testBit_lt_two_pow (Nat.lt_of_lt_of_le ha (Nat.le_trans (by decide) (Nat.pow_le_pow_right (n := 2) (by omega) h)))
      simp [this]
  constructor
  · intro h i hi
    have := bit i
    rw [show (BitVec.ofNat 64 a &&& ~~~BitVec.ofNat 64 b).toNat = 0 by omega, Nat.zero_testBit, hi] at this
    simpa using this.symm
  · intro h
    have : (BitVec.ofNat 64 a &&& ~~~BitVec.ofNat 64 b).toNat = 0 := Nat.eq_of_testBit_eq fun i => by
      rw [bit, Nat.zero_testBit]
      cases hi : a.testBit i with
      | false => rfl
      | true => rw [h i hi]; rfl
    omega
theorem bit_rem {m i : Nat} : eqI (remK (((m / 2 ^ i : Nat) : Int)) 2) 1 = m.testBit i := by
  rw [Bool.eq_iff_iff, eqI_t, Nat.testBit_eq_decide_div_mod_eq, decide_eq_true_iff]
  unfold remK
  generalize m / 2 ^ i = q
  rw [Int.tmod_eq_emod_of_nonneg (by omega)]
  omega
/-- A bit that was not there is added. -/
theorem add_bit {m i : Nat} (h : m.testBit i = false) (j : Nat) : (m + 2 ^ i).testBit j = (m.testBit j || decide (i = j)) := by
  rw [Nat.add_comm]
  rcases Nat.lt_trichotomy j i with hj | rfl | hj
  · rw [Nat.testBit_two_pow_add_gt hj, decide_eq_false (by omega), Bool.or_false]
  · rw [Nat.testBit_two_pow_add_eq, h]; simp
  · rw [decide_eq_false (by omega), Bool.or_false]
    have h0 : m / 2 ^ i % 2 = 0 := by
      rw [Nat.testBit_eq_decide_div_mod_eq, decide_eq_false_iff_not] at h
      omega
    have e1 : (2 ^ i + m) / 2 ^ (i + 1) = m / 2 ^ (i + 1) := by
      rw [Nat.pow_succ, ← Nat.div_div_eq_div_mul, ← Nat.div_div_eq_div_mul, Nat.add_div_left _ (Nat.two_pow_pos i)]
      omega
    rw [Nat.testBit_eq_decide_div_mod_eq, Nat.testBit_eq_decide_div_mod_eq]
    have hp : 2 ^ j = 2 ^ (i + 1) * 2 ^ (j - (i + 1)) := by rw [← Nat.pow_add]; congr 1; omega
    rw [hp, ← Nat.div_div_eq_div_mul, ← Nat.div_div_eq_div_mul, e1]
theorem able10 {t : T_api_Type} {skills : Int} (ht : 0 ≤ t.skills ∧ t.skills ≤ 1073741823) (hs : 0 ≤ skills ∧ skills ≤ 1073741823) : ∃ b, fleet_Able t skills = some b ∧ lorryref10_Able t skills = some b := by
  obtain ⟨a, ha⟩ : ∃ a : Nat, skills = a := ⟨skills.toNat, by omega⟩
  obtain ⟨c, hc⟩ : ∃ c : Nat, t.skills = c := ⟨t.skills.toNat, by omega⟩
  subst ha
  refine ⟨eqI (andNotK .i64 (a : Int) (c : Int)) 0, ?_, ?_⟩
  · unfold fleet_Able
    rw [hc]
    rw [show geI (c : Int) 0 = true by simp, show geI (a : Int) 0 = true by simp]
    rfl
  · unfold lorryref10_Able
    rw [br_neg (by simp; omega)]
    have key : loopF (fun s => lorryref10_Able_L1 t (a : Int) s) 1 = some (if (eqI (andNotK .i64 (a : Int) (c : Int)) 0) = true then .inl () else .inr false) := by
      have bigpow : ∀ k : Nat, k ≤ 62 → (0 : Int) < ((2 ^ k : Nat) : Int) ∧ ((2 ^ k : Nat) : Int) ≤ 4611686018427387904 := fun k hk => by
        have h1 := Nat.two_pow_pos k
        have h2 : 2 ^ k ≤ 2 ^ 62 := Nat.pow_le_pow_right (by omega) hk
        omega
      have main : post (loopF (fun s => lorryref10_Able_L1 t (a : Int) s) 1) fun e => e = if (eqI (andNotK .i64 (a : Int) (c : Int)) 0) = true then .inl () else .inr false := by
        refine post_loop (fun s => ∃ k : Nat, k ≤ 63 ∧ s = (if k = 63 then -9223372036854775808 else ((2 ^ k : Nat) : Int)) ∧ ∀ i, i < k → a.testBit i = true → c.testBit i = true) (fun s => if s < 0 then 0 else 9223372036854775808 - s.toNat) ⟨0, by omega, rfl, fun i hi => by omega⟩ (by decide) ?_
        rintro _ ⟨k, hk, rfl, hb⟩
        show post (lorryref10_Able_L1 t (a : Int) _) _
        unfold lorryref10_Able_L1
        rcases Nat.lt_or_ge k 63 with hk' | hk'
        · rw [if_neg (by omega)]
          obtain ⟨p1, p2⟩ := bigpow k (by omega)
          rw [br_pos (by simp only [gtI_t]; exact p1), chk_pos (by omega), hc]
          have hq : ∀ z : Nat, z < 9223372036854775808 → quoK .i64 (z : Int) ((2 ^ k : Nat) : Int) = ((z / 2 ^ k : Nat) : Int) := fun z hz => by
            have e : (z : Int).tdiv ((2 ^ k : Nat) : Int) = ((z / 2 ^ k : Nat) : Int) := by rw [Int.tdiv_eq_ediv_of_nonneg (by omega)]; rfl
            have h1 := Nat.div_le_self z (2 ^ k)
            rw [quoI, e] <;> (rw [e]; generalize z / 2 ^ k = q at h1; omega)
          rw [hq a (by omega), hq c (by omega), bit_rem]
          have go : ∀ h : (a.testBit k = true → c.testBit k = true), post (some (Sum.inl (mulK .i64 ((2 ^ k : Nat) : Int) 2) : Int ⊕ (Unit ⊕ Bool))) fun x => (∀ s', x = .inl s' → (∃ k' : Nat, k' ≤ 63 ∧ s' = (if k' = 63 then -9223372036854775808 else ((2 ^ k' : Nat) : Int)) ∧ ∀ i, i < k' → a.testBit i = true → c.testBit i = true) ∧ (if s' < 0 then 0 else 9223372036854775808 - s'.toNat) < (if ((2 ^ k : Nat) : Int) < 0 then 0 else 9223372036854775808 - ((2 ^ k : Nat) : Int).toNat)) ∧ ∀ e, x = .inr e → e = if (eqI (andNotK .i64 (a : Int) (c : Int)) 0) = true then .inl () else .inr false := by
            intro h
            have hm : mulK .i64 ((2 ^ k : Nat) : Int) 2 = if k + 1 = 63 then -9223372036854775808 else ((2 ^ (k + 1) : Nat) : Int) := by
              split
              · rename_i h62
                obtain rfl : k = 62 := by omega
                decide
              · obtain ⟨q1, q2⟩ := bigpow (k + 1) (by omega)
                have e : ((2 ^ k : Nat) : Int) * 2 = ((2 ^ (k + 1) : Nat) : Int) := by rw [Nat.pow_succ]; simp
                rw [mulI (by omega) (by omega), e]
            refine post_inl ⟨⟨k + 1, by omega, hm, fun i hi => ?_⟩, ?_⟩
            · rcases Nat.lt_or_eq_of_le (Nat.le_of_lt_succ hi) with hi | rfl
              · exact hb i hi
              · exact h
            · rw [hm, if_neg (show ¬ ((2 ^ k : Nat) : Int) < 0 by omega)]
              split
              · rw [if_pos (by omega)]; omega
              · obtain ⟨q1, q2⟩ := bigpow (k + 1) (by omega)
                have e : 2 ^ (k + 1) = 2 ^ k * 2 := Nat.pow_succ ..
                rw [if_neg (by omega)]
                omega
          refine post_br (fun h1 => post_chk (by omega) (post_br (fun h2 => post_inr ?_) (fun h2 => go fun _ => ?_))) (fun h1 => go fun h => by rw [h1] at h; cases h)
          · rw [if_neg]
            intro h
            have h3 := (andNotN (by omega) (by omega)).1 (eqI_t.1 h) k h1
            rw [← bit_rem, eqI_t] at h3
            rw [eqI_t] at h2
            omega
          · rw [eqI_f] at h2
            rw [← bit_rem, eqI_t]
            unfold remK at h2 ⊢
            generalize c / 2 ^ k = q at h2 ⊢
            rw [Int.tmod_eq_emod_of_nonneg (by omega)] at h2 ⊢
            omega
        · obtain rfl : k = 63 := by omega
          rw [if_pos rfl, br_neg (by decide)]
          refine post_inr ?_
          rw [if_pos]
          rw [eqI_t]
          refine (andNotN (by omega) (by omega)).2 fun i hi => ?_
          rcases Nat.lt_or_ge i 63 with h | h
          · exact hb i h hi
          · rw [Nat.testBit_lt_two_pow (Nat.lt_of_lt_of_le (show a < 2 ^ 63 by omega) (Nat.pow_le_pow_right (n := 2) (by omega) h))] at hi; cases hi
      exact main.eq
    rw [key, bnd_some]
    split <;> simp_all
end Go.Proofs.YtfldlilicmbmkaaGreatDoor
namespace Go.Proofs.YtfldlilicmbmkaaGreatDoor
set_option linter.unusedSimpArgs false
set_option linter.unusedVariables false
set_option linter.unusedSectionVars false
theorem brs {α : Type} {b : Bool} {x y : α} : br b (some x) (some y) = some (if b = true then x else y) := by cases b <;> rfl
theorem head_in {α β : Type} {l : List α} {i : Nat} {a : α} (h : l[i]? = some a) (f : α → Option β) (z : Option β) : br (ltI (i : Int) (lenI l)) (bnd (getI l i) f) z = f a := by
  have := (List.getElem?_eq_some_iff.1 h).1
  rw [br_pos (by simp [lenI]; omega), getI_nat h, bnd_some]
theorem head_out {α β : Type} {l : List α} {y z : Option β} : br (ltI (l.length : Int) (lenI l)) y z = z := br_neg (by simp [lenI])
theorem incL {α : Type} {l : List α} {i : Nat} {a : α} (h : l[i]? = some a) (hl : l.length ≤ 1048576) : addK .i64 (i : Int) 1 = (i : Int) + 1 := inc (List.getElem?_eq_some_iff.1 h).1 hl
def inO (x : T_api_Instance) (v : T_api_Visit) : Bool := decide (0 ≤ v.order ∧ v.order < x.orders.length)
def offV (x : T_api_Instance) (v : T_api_Visit) : Bool := match x.orders[v.order.toNat]? with
  | some o => o.off
  | none => false
def isO (o : Int) (v : T_api_Visit) : Bool := eqI v.order o
def hasO (l : List T_api_Visit) (o : Int) : Bool := l.any (isO o)
def isV (v a : T_api_Visit) : Bool := eqI v.order a.order && (eqB v.drop a.drop && true)
/-- The visits of an order. -/
def visO (x : T_api_Instance) (o : Int) : List T_api_Visit := match x.orders[o.toNat]? with
  | some q => (if 0 ≤ q.pick.place then [T_api_Visit.mk o false] else []) ++ (if 0 ≤ q.drop.place then [T_api_Visit.mk o true] else [])
  | none => []
def rowB (l : List T_api_Visit) : List T_api_Visit → Bool
  | [] => true
  | [a] => geI (ixI (isV a) l) 0
  | a :: b :: _ => geI (ixI (isV a) l) 0 && ltI (ixI (isV a) l) (ixI (isV b) l)
def pairV (x : T_api_Instance) (l : List T_api_Visit) (v : T_api_Visit) : Bool := (visO x v.order).any (isV v) && rowB l (visO x v.order)
def apartB (l : List T_api_Visit) (p : A2_Int) : Bool := hasO l p.x0 && hasO l p.x1
def lateB (l : List T_api_Visit) (p : A2_Int) : Bool := match ixP (isO p.x1) l with
  | some k => hasO (l.drop k) p.x0
  | none => false
def badB (l : List T_api_Visit) (p : A2_Int) : Bool := hasO l p.x1 && (!hasO l p.x0 || lateB l p)
instance (l : List T_api_Visit) : Decidable l.Nodup := inferInstanceAs (Decidable (List.Nodup l))
/-- The answer of the check. -/
def seqS (x : T_api_Instance) (l : List T_api_Visit) : Int :=
  if l.length = 0 then 2 else if l.any (fun v => !inO x v) = true then 2 else if l.any (offV x) = true then 9 else if ¬ l.Nodup then 6 else
  if l.any (fun v => !pairV x l v) = true then 19 else if x.apart.any (apartB l) = true then 20 else if x.before.any (badB l) = true then 21 else 0
section
variable {x : T_api_Instance} {l : List T_api_Visit}
theorem isV_t {v a : T_api_Visit} : isV v a = true ↔ a = v := by
  unfold isV
  cases v; cases a
  simp
  exact ⟨fun ⟨h1, h2⟩ => ⟨h1.symm, h2.symm⟩, fun ⟨h1, h2⟩ => ⟨h1.symm, h2.symm⟩⟩
theorem isO_t {o : Int} {v : T_api_Visit} : isO o v = true ↔ v.order = o := by simp [isO]
theorem hasO_t {o : Int} : hasO l o = true ↔ ∃ v ∈ l, v.order = o := by simp [hasO, List.any_eq_true, isO]
theorem any_V {v : T_api_Visit} : l.any (isV v) = true ↔ v ∈ l := by
  rw [List.any_eq_true]
  exact ⟨fun ⟨a, h, h'⟩ => isV_t.1 h' ▸ h, fun h => ⟨v, h, isV_t.2 rfl⟩⟩
theorem ixV_ge {v : T_api_Visit} : 0 ≤ ixI (isV v) l ↔ v ∈ l := by rw [← geI_t, geI_ixI, any_V]
theorem ixV_at {v : T_api_Visit} {k : Nat} (h : ixI (isV v) l = k) : l[k]? = some v ∧ ∀ j, j < k → l[j]? ≠ some v := by
  unfold ixI at h
  cases hx : ixP (isV v) l with
  | none => rw [hx] at h; simp only at h; omega
  | some m =>
    rw [hx] at h
    simp only at h
    obtain rfl : m = k := by omega
    obtain ⟨h1, h2, h3⟩ := ixP_some hx
    refine ⟨by rw [List.getElem?_eq_getElem h1, isV_t.1 h2], fun j hj he => ?_⟩
    have := h3 j hj
    rw [List.getElem?_eq_getElem (show j < l.length by omega)] at he
    rw [isV_t.2 (Option.some.inj he)] at this
    cases this
theorem placeV_eq (hl : l.length ≤ 1048576) (v : T_api_Visit) : sequence_place l v = some (ixI (isV v) l) := by
  have := scan_ix hl (isV v) (fun k => (.inr (k : Int) : Unit ⊕ Int)) (N := .inl ()) (B := fun s => slices_Index___api_Visit_api_Visit__L1 l v s) (fun i a h => by
    show slices_Index___api_Visit_api_Visit__L1 l v i = _
    unfold slices_Index___api_Visit_api_Visit__L1
    rw [head_in h, incL h hl, brs]; rfl) (by
    show slices_Index___api_Visit_api_Visit__L1 l v l.length = _
    unfold slices_Index___api_Visit_api_Visit__L1
    rw [head_out])
  unfold sequence_place slices_Index___api_Visit_api_Visit_
  rw [bnd_eq this]
  unfold ixI
  cases ixP (isV v) l <;> rfl
theorem index_eq (hl : l.length ≤ 1048576) (v : T_api_Visit) : slices_Index___api_Visit_api_Visit_ l v = some (ixI (isV v) l) := by
  have := placeV_eq hl v
  unfold sequence_place at this
  obtain ⟨a, h, h'⟩ := bnd_elim this
  rw [h, h']
theorem contains_eq (hl : l.length ≤ 1048576) (v : T_api_Visit) : slices_Contains___api_Visit_api_Visit_ l v = some (l.any (isV v)) := by
  unfold slices_Contains___api_Visit_api_Visit_
  rw [index_eq hl, bnd_some, geI_ixI]
theorem index16_eq (hl : l.length ≤ 1048576) (v : T_api_Visit) : lorryref16_Index l v = some (ixI (isV v) l) := by
  have := scan_ix hl (isV v) (fun k => (.inr (k : Int) : Unit ⊕ Int)) (N := .inl ()) (B := fun s => lorryref16_Index_L1 l v s) (fun i a h => by
    show lorryref16_Index_L1 l v i = _
    unfold lorryref16_Index_L1
    rw [head_in h, incL h hl, brs]
    rw [show (eqI a.order v.order && (eqB a.drop v.drop && true)) = isV v a by
      rw [Bool.eq_iff_iff, isV_t]; cases v; cases a; simp]) (by
    show lorryref16_Index_L1 l v l.length = _
    unfold lorryref16_Index_L1
    rw [head_out])
  unfold lorryref16_Index
  rw [bnd_eq this]
  unfold ixI
  cases ixP (isV v) l <;> rfl
theorem nodup_iff : ¬ l.Nodup ↔ ∃ k, k < l.length ∧ ∃ j, j < k ∧ l[j]? = l[k]? := by
  unfold List.Nodup
  rw [List.pairwise_iff_getElem]
  constructor
  · intro h
    refine Classical.byContradiction fun hn => h fun i j hi hj hij he => hn ⟨j, hj, i, hij, ?_⟩
    rw [List.getElem?_eq_getElem hi, List.getElem?_eq_getElem hj, he]
  · rintro ⟨k, hk, j, hj, he⟩ h
    rw [List.getElem?_eq_getElem hk, List.getElem?_eq_getElem (show j < l.length by omega)] at he
    exact h j k (by omega) hk hj (Option.some.inj he)
theorem take_mem {v : T_api_Visit} {k : Nat} (hk : k ≤ l.length) : v ∈ l.take k ↔ ∃ j, j < k ∧ l[j]? = some v := by
  rw [List.mem_iff_getElem?]
  constructor
  · rintro ⟨j, h⟩
    rw [List.getElem?_take] at h
    split at h
    · exact ⟨j, ‹_›, h⟩
    · cases h
  · rintro ⟨j, hj, h⟩
    exact ⟨j, by rw [List.getElem?_take, if_pos hj, h]⟩
theorem twice_eq (hl : l.length ≤ 1048576) : sequence_twice l = some (decide (¬ l.Nodup)) := by
  have := scan_c (B := fun s => sequence_twice_L1 l s) hl (fun k => match l[k]? with | some v => (l.take k).any (isV v) | none => false) (y := (.inr true : Unit ⊕ Bool)) (N := .inl ()) (b := decide (¬ l.Nodup)) (by
    rw [decide_eq_true_iff, nodup_iff]
    constructor
    · rintro ⟨k, hk, j, hj, he⟩
      refine ⟨k, hk, ?_⟩
      rw [List.getElem?_eq_getElem hk] at he ⊢
      exact any_V.2 ((take_mem (by omega)).2 ⟨j, hj, he⟩)
    · rintro ⟨k, hk, h⟩
      rw [List.getElem?_eq_getElem hk] at h
      obtain ⟨j, hj, he⟩ := (take_mem (by omega)).1 (any_V.1 h)
      exact ⟨k, hk, j, hj, by rw [he, List.getElem?_eq_getElem hk]⟩) (fun i hi => by
    have h : l[i]? = some l[i] := List.getElem?_eq_getElem hi
    show sequence_twice_L1 l i = _
    unfold sequence_twice_L1
    rw [head_in h, show slcI l 0 (i : Int) = some (l.take i) by unfold slcI; rw [if_pos (by omega)]; simp, bnd_some, placeV_eq (by rw [List.length_take]; omega), bnd_some, incL h hl, geI_ixI, brs]
    rw [h]) (by
    show sequence_twice_L1 l l.length = _
    unfold sequence_twice_L1
    rw [head_out])
  unfold sequence_twice
  rw [bnd_eq this]
  split <;> simp_all
theorem visO_len {o : Int} : (visO x o).length ≤ 2 := by
  unfold visO
  split
  · split <;> split <;> simp
  · simp
theorem Visits_eq (hx : InstOK x) {o : Int} (h0 : 0 ≤ o) (h1 : o < x.orders.length) : order_Visits x.orders o = some (visO x o) := by
  have e : x.orders[o.toNat]? = some (x.orders[o.toNat]'(by omega)) := List.getElem?_eq_getElem _
  generalize x.orders[o.toNat]'(by omega) = q at e
  have hg : getI x.orders o = some q := by unfold getI; rw [if_pos h0, e]
  unfold order_Visits order_there
  rw [bnd_some, br_pos (by simp [lenI]; omega), hg, bnd_some]
  unfold visO
  rw [e]
  have hJ : ∀ l1 : List T_api_Visit, l1.length ≤ 1 → order_Visits_J1 x.orders o l1 = some (l1 ++ if 0 ≤ q.drop.place then [T_api_Visit.mk o true] else []) := fun l1 hl => by
    unfold order_Visits_J1
    rw [hg, bnd_some, chk_pos (by unfold okN; simp; omega), br_if]
    simp only [geI_t]
    split <;> simp
  rw [hJ _ (by simp), hJ _ (by simp), chk_pos (by unfold okN; simp), brs]
  simp only [geI_t]
  split <;> rfl
theorem Visits16_eq (hx : InstOK x) {o : Int} (h0 : 0 ≤ o) (h1 : o < x.orders.length) : lorryref16_Visits x o = some (visO x o) := by
  have e : x.orders[o.toNat]? = some (x.orders[o.toNat]'(by omega)) := List.getElem?_eq_getElem _
  generalize x.orders[o.toNat]'(by omega) = q at e
  have hq := hx.ord q (List.mem_of_getElem? e)
  have hg : getI x.orders o = some q := by unfold getI; rw [if_pos h0, e]
  have hp : neI q.pick.place (-1) = decide (0 ≤ q.pick.place) := by
    have := hq.pick
    rw [Bool.eq_iff_iff, neI_t, decide_eq_true_iff]
    unfold StopOK at this
    omega
  have hd : neI q.drop.place (-1) = decide (0 ≤ q.drop.place) := by
    have := hq.drop
    rw [Bool.eq_iff_iff, neI_t, decide_eq_true_iff]
    unfold StopOK at this
    omega
  unfold lorryref16_Visits
  rw [hg, bnd_some]
  unfold visO
  rw [e]
  have hJ : ∀ l1 : List T_api_Visit, l1.length ≤ 1 → lorryref16_Visits_J1 x o l1 = some (l1 ++ if 0 ≤ q.drop.place then [T_api_Visit.mk o true] else []) := fun l1 hl => by
    unfold lorryref16_Visits_J1
    rw [hg, bnd_some, chk_pos (by unfold okN; simp; omega), hd, br_if]
    simp only [decide_eq_true_iff]
    split <;> simp
  rw [hJ _ (by simp), hJ _ (by simp), chk_pos (by unfold okN; simp), hp, brs]
  simp only [decide_eq_true_iff]
  split <;> rfl
theorem visO_two {o : Int} {a b : T_api_Visit} {r : List T_api_Visit} (h : visO x o = a :: b :: r) : r = [] ∧ a ≠ b := by
  have h2 := visO_len (x := x) (o := o)
  rw [h] at h2
  have hr : r = [] := by cases r with
    | nil => rfl
    | cons c r => simp at h2
  refine ⟨hr, ?_⟩
  subst hr
  unfold visO at h
  split at h
  · split at h <;> split at h <;> simp at h
    obtain ⟨rfl, rfl⟩ := h
    simp
  · cases h
theorem rows_loop (hl : l.length ≤ 1048576) {r : List T_api_Visit} (hr : r.length ≤ 2) (v : Int) : loopF (fun s => sequence_paired_L2 x l v r s.1 s.2) ((-1), 0) = some (if rowB l r = true then .inl () else .inr false) := by
  have out : ∀ (p : Int), sequence_paired_L2 x l v r p r.length = some (.inr (.inl ())) := fun p => by
    unfold sequence_paired_L2
    rw [head_out]
  have go : ∀ (k : Nat) (a : T_api_Visit) (p : Int), r[k]? = some a → sequence_paired_L2 x l v r p k = some (if leI (ixI (isV a) l) p = true then .inr (.inr false) else .inl (ixI (isV a) l, (k : Int) + 1)) := fun k a p h => by
    unfold sequence_paired_L2
    rw [head_in h, placeV_eq hl, bnd_some, incL h (by omega), brs]
  match r, hr with
  | [], _ => exact loopF_of 1 (by decide) (by simp only [iterF]; rw [show sequence_paired_L2 x l v [] (-1) 0 = _ from out (-1)]; rfl)
  | [a], _ =>
    refine loopF_of 2 (by decide) ?_
    have g := go 0 a (-1) rfl
    simp only [iterF]
    rw [show sequence_paired_L2 x l v [a] (-1) 0 = _ from g]
    have hb := ixI_lo (p := isV a) (l := l)
    by_cases h : leI (ixI (isV a) l) (-1) = true
    · rw [if_pos h, if_neg]
      simp only [rowB, geI_t]
      simp only [leI_t] at h
      omega
    · rw [if_neg h, if_pos]
      · simp only
        rw [show sequence_paired_L2 x l v [a] (ixI (isV a) l) ((0 : Nat) + 1 : Int) = _ from out _]
      · simp only [rowB, geI_t]
        simp only [leI_t] at h
        omega
  | [a, b], _ =>
    refine loopF_of 3 (by decide) ?_
    have g := go 0 a (-1) rfl
    have g1 := go 1 b (ixI (isV a) l) rfl
    simp only [iterF]
    rw [show sequence_paired_L2 x l v [a, b] (-1) 0 = _ from g]
    have hb := ixI_lo (p := isV a) (l := l)
    by_cases h : leI (ixI (isV a) l) (-1) = true
    · rw [if_pos h, if_neg]
      simp only [rowB, geI_t, Bool.and_eq_true]
      simp only [leI_t] at h
      omega
    · rw [if_neg h]
      simp only
      rw [show sequence_paired_L2 x l v [a, b] (ixI (isV a) l) ((0 : Nat) + 1 : Int) = _ from g1]
      simp only [leI_t] at h
      by_cases h' : leI (ixI (isV b) l) (ixI (isV a) l) = true
      · rw [if_pos h', if_neg]
        simp only [rowB, geI_t, ltI_t, Bool.and_eq_true]
        simp only [leI_t] at h'
        omega
      · rw [if_neg h', if_pos]
        · simp only
          rw [show sequence_paired_L2 x l v [a, b] (ixI (isV b) l) ((1 : Nat) + 1 : Int) = _ from out _]
        · simp only [rowB, geI_t, ltI_t, Bool.and_eq_true]
          simp only [leI_t] at h'
          omega
theorem inO_of (h : l.any (fun v => !inO x v) = false) {v : T_api_Visit} (hv : v ∈ l) : 0 ≤ v.order ∧ v.order < x.orders.length := by
  have := List.any_eq_false.1 h v hv
  simpa [inO] using this
theorem paired_eq (hx : InstOK x) (hl : l.length ≤ 1048576) (ho : l.any (fun v => !inO x v) = false) : sequence_paired x l = some (!l.any (fun v => !pairV x l v)) := by
  have := scan_any (B := fun s => sequence_paired_L1 x l s) hl (fun v => !pairV x l v) (y := (.inr false : Unit ⊕ Bool)) (N := .inl ()) (fun i a h => by
    obtain ⟨h0, h1⟩ := inO_of ho (List.mem_of_getElem? h)
    show sequence_paired_L1 x l i = _
    unfold sequence_paired_L1
    have hv := visO_len (x := x) (o := a.order)
    rw [head_in h, Visits_eq hx h0 h1, bnd_some, contains_eq (by omega), bnd_some, rows_loop hl hv, bnd_some, incL h hl]
    unfold pairV
    cases (visO x a.order).any (isV a) <;> cases rowB l (visO x a.order) <;> rfl) (by
    show sequence_paired_L1 x l l.length = _
    unfold sequence_paired_L1
    rw [head_out])
  unfold sequence_paired
  rw [bnd_eq this]
  cases l.any (fun v => !pairV x l v) <;> rfl
theorem contains16_eq (hl : l.length ≤ 1048576) {r : List T_api_Visit} (hr : r.length ≤ 2) : lorryref16_contains l r = some (!r.any (fun a => ltI (ixI (isV a) l) 0)) := by
  have := scan_any (B := fun s => lorryref16_contains_L1 l r s) (l := r) (by omega) (fun a => ltI (ixI (isV a) l) 0) (y := (.inr false : Unit ⊕ Bool)) (N := .inl ()) (fun i a h => by
    show lorryref16_contains_L1 l r i = _
    unfold lorryref16_contains_L1
    rw [head_in h, index16_eq hl, bnd_some, incL h (by omega), brs]) (by
    show lorryref16_contains_L1 l r r.length = _
    unfold lorryref16_contains_L1
    rw [head_out])
  unfold lorryref16_contains
  rw [bnd_eq this]
  cases r.any (fun a => ltI (ixI (isV a) l) 0) <;> rfl
theorem ltI_not {a b : Int} : ltI a b = !geI a b := by rw [Bool.eq_iff_iff]; simp
theorem paired16_eq (hx : InstOK x) (hl : l.length ≤ 1048576) (ho : l.any (fun v => !inO x v) = false) : lorryref16_paired x l = some (!l.any (fun v => !pairV x l v)) := by
  have := scan_any (B := fun s => lorryref16_paired_L1 x l s) hl (fun v => !pairV x l v) (y := (.inr false : Unit ⊕ Bool)) (N := .inl ()) (fun i a h => by
    obtain ⟨h0, h1⟩ := inO_of ho (List.mem_of_getElem? h)
    show lorryref16_paired_L1 x l i = _
    unfold lorryref16_paired_L1
    have hv := visO_len (x := x) (o := a.order)
    rw [head_in h, Visits16_eq hx h0 h1, bnd_some, index16_eq (by omega), bnd_some, contains16_eq hl hv, bnd_some, incL h hl]
    rw [ltI_not, geI_ixI]
    have hP : pairV x l a = ((visO x a.order).any (isV a) && rowB l (visO x a.order)) := rfl
    generalize pairV x l a = P at hP ⊢
    cases hany : (visO x a.order).any (isV a) with
    | false => rw [hany] at hP; subst hP; rfl
    | true =>
      rw [hany, Bool.true_and] at hP
      rw [Bool.not_true, br_false]
      cases hvis : visO x a.order with
      | nil => rw [hvis] at hP; subst hP; rfl
      | cons c r =>
        cases r with
        | nil =>
          rw [hvis] at hP
          rw [List.any_cons, List.any_nil, Bool.or_false, ltI_not, Bool.not_not, ← show P = geI (ixI (isV c) l) 0 from hP]
          cases P <;> rfl
        | cons d r =>
          obtain ⟨rfl, hne⟩ := visO_two hvis
          rw [hvis] at hP
          rw [List.any_cons, List.any_cons, List.any_nil, Bool.or_false]
          show br _ (br true (bnd (some c) fun x2 => bnd (lorryref16_Index l x2) fun r3 => bnd (some d) fun x3 => bnd (lorryref16_Index l x3) fun r4 => br (gtI r3 r4) _ _) _) _ = _
          rw [br_true, bnd_some, index16_eq hl, bnd_some, bnd_some, index16_eq hl, bnd_some]
          simp only [rowB] at hP
          have hc := ixI_lo (p := isV c) (l := l)
          have hd := ixI_lo (p := isV d) (l := l)
          have hcd : 0 ≤ ixI (isV c) l → ixI (isV c) l ≠ ixI (isV d) l := fun h0 he => by
            obtain ⟨k, hk⟩ : ∃ k : Nat, ixI (isV c) l = k := ⟨(ixI (isV c) l).toNat, by omega⟩
            have e1 := (ixV_at hk).1
            have e2 := (ixV_at (he.symm.trans hk)).1
            rw [e1] at e2
            exact hne (Option.some.inj e2)
          generalize ixI (isV c) l = m at *
          generalize ixI (isV d) l = n at *
          cases P with
          | true =>
            have hP' := hP.symm
            simp only [Bool.and_eq_true, geI_t, ltI_t] at hP'
            rw [br_pos (by simp; omega), br_neg (by simp; omega)]
            rfl
          | false =>
            have hP' := hP.symm
            simp only [Bool.and_eq_false_iff, geI_f, ltI_f] at hP'
            by_cases h1 : 0 ≤ m ∧ 0 ≤ n
            · have := hcd h1.1
              rw [br_pos (by simp; omega), br_pos (by simp; omega)]
              rfl
            · rw [br_neg (by simp; omega)]
              rfl) (by
    show lorryref16_paired_L1 x l l.length = _
    unfold lorryref16_paired_L1
    rw [head_out])
  unfold lorryref16_paired
  rw [bnd_eq this]
  cases l.any (fun v => !pairV x l v) <;> rfl
end
end Go.Proofs.YtfldlilicmbmkaaGreatDoor
namespace Go.Proofs.YtfldlilicmbmkaaGreatDoor
set_option linter.unusedSimpArgs false
set_option linter.unusedVariables false
set_option linter.unusedSectionVars false
section
variable {x : T_api_Instance} {l : List T_api_Visit}
theorem fsHas_eq (hl : l.length ≤ 1048576) (o : Int) : slices_IndexFunc___api_Visit_api_Visit__has_1 l o = some (ixI (isO o) l) := by
  have := scan_ix hl (isO o) (fun k => (.inr (k : Int) : Unit ⊕ Int)) (N := .inl ()) (B := fun s => slices_IndexFunc___api_Visit_api_Visit__has_1_L1 l o s) (fun i a h => by
    show slices_IndexFunc___api_Visit_api_Visit__has_1_L1 l o i = _
    unfold slices_IndexFunc___api_Visit_api_Visit__has_1_L1 sequence_has_1
    rw [head_in h, bnd_some, incL h hl, brs]; rfl) (by
    show slices_IndexFunc___api_Visit_api_Visit__has_1_L1 l o l.length = _
    unfold slices_IndexFunc___api_Visit_api_Visit__has_1_L1
    rw [head_out])
  unfold slices_IndexFunc___api_Visit_api_Visit__has_1
  rw [bnd_eq this]
  unfold ixI
  cases ixP (isO o) l <;> rfl
theorem fsBefore_eq (hl : l.length ≤ 1048576) (o : Int) : slices_IndexFunc___api_Visit_api_Visit__before_1 l o = some (ixI (isO o) l) := by
  have := scan_ix hl (isO o) (fun k => (.inr (k : Int) : Unit ⊕ Int)) (N := .inl ()) (B := fun s => slices_IndexFunc___api_Visit_api_Visit__before_1_L1 l o s) (fun i a h => by
    show slices_IndexFunc___api_Visit_api_Visit__before_1_L1 l o i = _
    unfold slices_IndexFunc___api_Visit_api_Visit__before_1_L1 sequence_before_1
    rw [head_in h, bnd_some, incL h hl, brs]; rfl) (by
    show slices_IndexFunc___api_Visit_api_Visit__before_1_L1 l o l.length = _
    unfold slices_IndexFunc___api_Visit_api_Visit__before_1_L1
    rw [head_out])
  unfold slices_IndexFunc___api_Visit_api_Visit__before_1
  rw [bnd_eq this]
  unfold ixI
  cases ixP (isO o) l <;> rfl
theorem shas_eq (hl : l.length ≤ 1048576) (o : Int) : sequence_has l o = some (hasO l o) := by
  unfold sequence_has slices_ContainsFunc___api_Visit_api_Visit__has_1
  rw [fsHas_eq hl, bnd_some, bnd_some, geI_ixI]
  rfl
theorem fsCheck1_eq (hl : l.length ≤ 1048576) : slices_ContainsFunc___api_Visit_api_Visit__Check_1 l x = some (l.any fun v => !inO x v) := by
  have := scan_ix hl (fun v => !inO x v) (fun k => (.inr (k : Int) : Unit ⊕ Int)) (N := .inl ()) (B := fun s => slices_IndexFunc___api_Visit_api_Visit__Check_1_L1 l x s) (fun i a h => by
    show slices_IndexFunc___api_Visit_api_Visit__Check_1_L1 l x i = _
    unfold slices_IndexFunc___api_Visit_api_Visit__Check_1_L1 sequence_Check_1
    rw [head_in h, bnd_some, incL h hl, brs]
    rw [show (ltI a.order 0 || geI a.order (lenI x.orders)) = !inO x a by
      unfold inO lenI; rw [Bool.eq_iff_iff]; simp]) (by
    show slices_IndexFunc___api_Visit_api_Visit__Check_1_L1 l x l.length = _
    unfold slices_IndexFunc___api_Visit_api_Visit__Check_1_L1
    rw [head_out])
  have e : slices_IndexFunc___api_Visit_api_Visit__Check_1 l x = some (ixI (fun v => !inO x v) l) := by
    unfold slices_IndexFunc___api_Visit_api_Visit__Check_1
    rw [bnd_eq this]
    unfold ixI
    cases ixP (fun v => !inO x v) l <;> rfl
  unfold slices_ContainsFunc___api_Visit_api_Visit__Check_1
  rw [e, bnd_some, geI_ixI]
theorem offV_at {v : T_api_Visit} (h0 : 0 ≤ v.order) (h1 : v.order < x.orders.length) : ∃ o, getI x.orders v.order = some o ∧ o ∈ x.orders ∧ offV x v = o.off ∧ x.orders[v.order.toNat]? = some o := by
  have e : x.orders[v.order.toNat]? = some (x.orders[v.order.toNat]'(by omega)) := List.getElem?_eq_getElem _
  refine ⟨_, getI_at h0 h1, List.getElem_mem _, ?_, e⟩
  unfold offV
  rw [e]
theorem fsCheck2_eq (hl : l.length ≤ 1048576) (ho : l.any (fun v => !inO x v) = false) : slices_ContainsFunc___api_Visit_api_Visit__Check_2 l x = some (l.any (offV x)) := by
  have := scan_ix hl (offV x) (fun k => (.inr (k : Int) : Unit ⊕ Int)) (N := .inl ()) (B := fun s => slices_IndexFunc___api_Visit_api_Visit__Check_2_L1 l x s) (fun i a h => by
    obtain ⟨h0, h1⟩ := inO_of ho (List.mem_of_getElem? h)
    obtain ⟨o, g1, g2, g3, _⟩ := offV_at h0 h1
    show slices_IndexFunc___api_Visit_api_Visit__Check_2_L1 l x i = _
    unfold slices_IndexFunc___api_Visit_api_Visit__Check_2_L1 sequence_Check_2
    rw [head_in h, g1, bnd_some, bnd_some, incL h hl, brs, g3]) (by
    show slices_IndexFunc___api_Visit_api_Visit__Check_2_L1 l x l.length = _
    unfold slices_IndexFunc___api_Visit_api_Visit__Check_2_L1
    rw [head_out])
  have e : slices_IndexFunc___api_Visit_api_Visit__Check_2 l x = some (ixI (offV x) l) := by
    unfold slices_IndexFunc___api_Visit_api_Visit__Check_2
    rw [bnd_eq this]
    unfold ixI
    cases ixP (offV x) l <;> rfl
  unfold slices_ContainsFunc___api_Visit_api_Visit__Check_2
  rw [e, bnd_some, geI_ixI]
theorem sbefore_eq (hl : l.length ≤ 1048576) (p : A2_Int) : sequence_before l p.x0 p.x1 = some (!badB l p) := by
  unfold sequence_before
  rw [fsBefore_eq hl, bnd_some, shas_eq hl, bnd_some]
  unfold badB
  have hh : hasO l p.x1 = geI (ixI (isO p.x1) l) 0 := geI_ixI.symm
  rw [hh]
  unfold lateB ixI
  cases h : ixP (isO p.x1) l with
  | none => rfl
  | some k =>
    have hk := (ixP_some h).1
    simp only
    rw [br_neg (by simp), show slcI l (k : Int) (lenI l) = some (l.drop k) by
      unfold slcI lenI; rw [if_pos (by omega)]; congr 1; rw [List.take_of_length_le]; · rfl
      · simp]
    rw [bnd_some, shas_eq (by simp; omega), bnd_some, show geI (k : Int) 0 = true by simp]
    cases hasO l p.x0 <;> cases hasO (l.drop k) p.x0 <;> rfl
theorem Check_eq {r : T_api_Route} (hx : InstOK x) (hl : r.visits.length ≤ 1048576) : sequence_Check x r = some (seqS x r.visits) := by
  unfold sequence_Check seqS
  by_cases h0 : r.visits.length = 0
  · rw [br_pos (by simp [lenI, h0]), if_pos h0]
  rw [br_neg (by simp only [lenI, eqI_f]; omega), if_neg h0, fsCheck1_eq hl, bnd_some]
  by_cases h1 : r.visits.any (fun v => !inO x v) = true
  · rw [br_pos h1, if_pos h1]
  have h1' : r.visits.any (fun v => !inO x v) = false := by simpa using h1
  rw [br_neg h1', if_neg h1, fsCheck2_eq hl h1', bnd_some]
  by_cases h2 : r.visits.any (offV x) = true
  · rw [br_pos h2, if_pos h2]
  rw [br_neg (by simpa using h2), if_neg h2, twice_eq hl, bnd_some]
  by_cases h3 : ¬ r.visits.Nodup
  · rw [br_pos (decide_eq_true h3), if_pos h3]
  rw [br_neg (decide_eq_false h3), if_neg h3, paired_eq hx hl h1', bnd_some]
  by_cases h4 : r.visits.any (fun v => !pairV x r.visits v) = true
  · rw [br_neg (by rw [h4]; rfl), if_pos h4]
  rw [br_pos (by simpa using h4), if_neg h4]
  have ha := hx.apart
  have hb := hx.before
  rw [bnd_eq (scan_any (B := fun s => sequence_Check_L1 x r s) (l := x.apart) (by omega) (apartB r.visits) (y := (.inr 20 : Unit ⊕ Int)) (N := .inl ()) (fun i a h => by
    show sequence_Check_L1 x r i = _
    unfold sequence_Check_L1
    rw [head_in h, shas_eq hl, bnd_some, shas_eq hl, bnd_some, incL h (by omega)]
    unfold apartB
    cases hasO r.visits a.x0 <;> cases hasO r.visits a.x1 <;> rfl) (by
    show sequence_Check_L1 x r x.apart.length = _
    unfold sequence_Check_L1
    rw [head_out]))]
  by_cases h5 : x.apart.any (apartB r.visits) = true
  · rw [if_pos h5, if_pos h5]; rfl
  rw [if_neg h5, if_neg h5, sel_inl]
  rw [bnd_eq (scan_any (B := fun s => sequence_Check_L2 x r s) (l := x.before) (by omega) (badB r.visits) (y := (.inr 21 : Unit ⊕ Int)) (N := .inl ()) (fun i a h => by
    show sequence_Check_L2 x r i = _
    unfold sequence_Check_L2
    rw [head_in h, sbefore_eq hl, bnd_some, incL h (by omega)]
    cases badB r.visits a <;> rfl) (by
    show sequence_Check_L2 x r x.before.length = _
    unfold sequence_Check_L2
    rw [head_out]))]
  by_cases h6 : x.before.any (badB r.visits) = true
  · rw [if_pos h6, if_pos h6]; rfl
  · rw [if_neg h6, if_neg h6]; rfl
theorem has16_eq {m : Nat} (hm : m < 9223372036854775808) {i : Int} (h0 : 0 ≤ i) (h1 : i ≤ 62) : lorryref16_has (m : Int) i = some (m.testBit i.toNat) := by
  obtain ⟨k, rfl⟩ : ∃ k : Nat, i = k := ⟨i.toNat, by omega⟩
  unfold lorryref16_has
  rw [br_pos (by simp; omega), cvuN (by omega), chk_pos (by omega), shrN (by omega), bit_rem]
  rfl
/-- What a set is that stands for the orders of a route. -/
structure SetOf (l : List T_api_Visit) (s : Int) : Prop where
  ex : ∃ m : Nat, s = m ∧ m < 1024 ∧ ∀ i : Nat, m.testBit i = hasO l (i : Int)
theorem orders16 {r : T_api_Route} (hx : InstOK x) (hl : r.visits.length ≤ 1048576) (ho : r.visits.any (fun v => !inO x v) = false) : post (lorryref16_Orders r) fun s => s.2 = 0 ∧ SetOf r.visits s.1 := by
  have hx10 := hx.orders
  unfold lorryref16_Orders
  refine post_bndE ?_
  refine post_loop (fun s => ∃ (k m : Nat), s = ((m : Int), (k : Int)) ∧ k ≤ r.visits.length ∧ m < 1024 ∧ ∀ i : Nat, m.testBit i = hasO (r.visits.take k) (i : Int)) (fun s => r.visits.length - s.2.toNat) ⟨0, 0, rfl, Nat.zero_le _, by omega, fun i => by simp [hasO]⟩ (by simp; omega) ?_
  rintro _ ⟨k, m, rfl, hk, hm, hb⟩
  show post (lorryref16_Orders_L1 r (m : Int) (k : Int)) _
  unfold lorryref16_Orders_L1
  rcases Nat.lt_or_ge k r.visits.length with h | h
  · have e : r.visits[k]? = some r.visits[k] := List.getElem?_eq_getElem h
    have hin := inO_of ho (List.getElem_mem h)
    have htk : r.visits.take (k + 1) = r.visits.take k ++ [r.visits[k]] := by rw [List.take_add_one, e]; rfl
    generalize r.visits[k] = v at e hin htk
    obtain ⟨n, hn⟩ : ∃ n : Nat, v.order = n := ⟨v.order.toNat, by omega⟩
    have hov : ∀ i : Nat, hasO (r.visits.take (k + 1)) (i : Int) = (hasO (r.visits.take k) (i : Int) || decide (n = i)) := fun i => by
      rw [htk]
      unfold hasO
      rw [List.any_append, List.any_cons, List.any_nil, Bool.or_false]
      congr 1
      rw [Bool.eq_iff_iff, isO_t, hn, decide_eq_true_iff]
      omega
    rw [head_in e, br_neg (by rw [hn]; simp; omega), has16_eq (by omega) (by omega) (by omega), bnd_some, incL e hl, hn]
    simp only [Int.toNat_natCast]
    refine post_br (fun h1 => post_inl ⟨⟨k + 1, m, rfl, h, hm, fun i => ?_⟩, by simp; omega⟩) (fun h1 => ?_)
    · rw [hov, ← hb]
      by_cases hi : n = i
      · subst hi; rw [h1]; rfl
      · rw [decide_eq_false hi, Bool.or_false]
    · rw [cvuN (by omega), chk_pos (by omega), shlN (by omega)]
      have h2 : 2 ^ n ≤ 2 ^ 9 := Nat.pow_le_pow_right (by omega) (by omega)
      have h3 : (0 : Int) ≤ ((2 ^ n : Nat) : Int) ∧ ((2 ^ n : Nat) : Int) ≤ 512 := ⟨Int.natCast_nonneg _, Int.ofNat_le.2 (show 2 ^ n ≤ 512 by omega)⟩
      rw [addI (by omega) (by omega)]
      have hbit : ∀ i, (m + 2 ^ n).testBit i = hasO (r.visits.take (k + 1)) (i : Int) := fun i => by rw [add_bit h1, hov, hb]
      refine post_inl ⟨⟨k + 1, m + 2 ^ n, by simp, h, ?_, hbit⟩, by simp; omega⟩
      refine Nat.lt_pow_two_of_testBit (n := 10) _ fun i hi => ?_
      rw [hbit]
      rw [Bool.eq_false_iff]
      intro hh
      obtain ⟨w, hw, hwi⟩ := hasO_t.1 hh
      have := inO_of ho (List.mem_of_mem_take hw)
      omega
  · obtain rfl : k = r.visits.length := by omega
    rw [head_out]
    refine post_inr ?_
    rw [sel_inl]
    exact post_some.2 ⟨rfl, ⟨m, rfl, hm, fun i => by rw [hb, List.take_length]⟩⟩
theorem SetOf.has {s : Int} (h : SetOf l s) {i : Int} (h0 : 0 ≤ i) (h1 : i ≤ 62) : lorryref16_has s i = some (hasO l i) := by
  obtain ⟨m, rfl, hm, hb⟩ := h.ex
  rw [has16_eq (by omega) h0 h1, hb, Int.toNat_of_nonneg h0]
theorem apart16_eq (hx : InstOK x) {s : Int} (h : SetOf l s) : lorryref16_apart x s = some (!x.apart.any (apartB l)) := by
  have ha := hx.apart
  have hx10 := hx.orders
  have := scan_any (B := fun i => lorryref16_apart_L1 x s i) (l := x.apart) (by omega) (apartB l) (y := (.inr false : Unit ⊕ Bool)) (N := .inl ()) (fun i a ha' => by
    obtain ⟨p0, p1, p2, p3, p4⟩ := hx.aparts a (List.mem_of_getElem? ha')
    show lorryref16_apart_L1 x s i = _
    unfold lorryref16_apart_L1
    rw [head_in ha', h.has p0 (by omega), bnd_some, h.has p2 (by omega), bnd_some, incL ha' (by omega)]
    unfold apartB
    cases hasO l a.x0 <;> cases hasO l a.x1 <;> rfl) (by
    show lorryref16_apart_L1 x s x.apart.length = _
    unfold lorryref16_apart_L1
    rw [head_out])
  unfold lorryref16_apart
  rw [bnd_eq this]
  cases x.apart.any (apartB l) <;> rfl
theorem late_iff {p : A2_Int} (hne : p.x0 ≠ p.x1) (hb : hasO l p.x1 = true) : lateB l p = true ↔ ∃ j, j < l.length ∧ ∃ k, k < j ∧ (∃ v, l[j]? = some v ∧ v.order = p.x0) ∧ ∃ w, l[k]? = some w ∧ w.order = p.x1 := by
  unfold lateB
  cases h : ixP (isO p.x1) l with
  | none =>
    obtain ⟨w, hw, he⟩ := hasO_t.1 hb
    have := ixP_none h w hw
    rw [isO_t.2 he] at this
    cases this
  | some m =>
    obtain ⟨g1, g2, g3⟩ := ixP_some h
    simp only
    rw [hasO_t]
    constructor
    · rintro ⟨v, hv, he⟩
      obtain ⟨q, hq, rfl⟩ := List.getElem_of_mem hv
      rw [List.length_drop] at hq
      rw [List.getElem_drop] at he
      have hmq : q ≠ 0 := fun h0 => by subst h0; exact hne (he.symm.trans (isO_t.1 (by simpa using g2)))
      exact ⟨m + q, by omega, m, by omega, ⟨_, List.getElem?_eq_getElem (by omega), he⟩, ⟨_, List.getElem?_eq_getElem g1, isO_t.1 g2⟩⟩
    · rintro ⟨j, hj, k, hk, ⟨v, hv, he⟩, ⟨w, hw, hwe⟩⟩
      have hmk : m ≤ k := Nat.le_of_not_lt fun hlt => by
        have := g3 k hlt
        rw [List.getElem?_eq_getElem (show k < l.length by omega)] at hw
        rw [Option.some.inj hw, isO_t.2 hwe] at this
        cases this
      exact ⟨v, List.mem_iff_getElem?.2 ⟨j - m, by rw [List.getElem?_drop, show m + (j - m) = j by omega, hv]⟩, he⟩
theorem before16_eq (hx : InstOK x) (hl : l.length ≤ 1048576) {s : Int} (h : SetOf l s) : lorryref16_before x s l = some (!x.before.any (badB l)) := by
  have hbf := hx.before
  have hx10 := hx.orders
  have := scan_any (B := fun i => lorryref16_before_L1 x s l i) (l := x.before) (by omega) (badB l) (y := (.inr false : Unit ⊕ Bool)) (N := .inl ()) (fun i a ha' => by
    obtain ⟨p0, p1, p2, p3, p4⟩ := hx.befores a (List.mem_of_getElem? ha')
    show lorryref16_before_L1 x s l i = _
    unfold lorryref16_before_L1
    rw [head_in ha', h.has p2 (by omega), bnd_some, h.has p0 (by omega), bnd_some, incL ha' (by omega)]
    have hP : badB l a = (hasO l a.x1 && (!hasO l a.x0 || lateB l a)) := rfl
    generalize badB l a = P at hP ⊢
    cases hb : hasO l a.x1 with
    | false => rw [hb] at hP; subst hP; rfl
    | true =>
      rw [hb] at hP
      cases hq : hasO l a.x0 with
      | false => rw [hq] at hP; subst hP; rfl
      | true =>
        rw [hq] at hP
        obtain rfl : P = lateB l a := hP
        have inner : loopF (fun q => lorryref16_before_L2 x s l (i : Int) a q) 0 = some (if lateB l a = true then .inr false else .inl ()) := by
          refine scan_c hl (fun j => (List.range j).any fun k => match l[j]?, l[k]? with | some v, some w => decide (v.order = a.x0) && decide (w.order = a.x1) | _, _ => false) ?_ (fun j hj => ?_) ?_
          · rw [late_iff p4 hb]
            constructor
            · rintro ⟨j, hj, k, hk, ⟨v, hv, e1⟩, ⟨w, hw, e2⟩⟩
              refine ⟨j, hj, List.any_eq_true.2 ⟨k, List.mem_range.2 hk, ?_⟩⟩
              rw [hv, hw]; simp [e1, e2]
            · rintro ⟨j, hj, hh⟩
              obtain ⟨k, hk, hm⟩ := List.any_eq_true.1 hh
              rw [List.mem_range] at hk
              rw [List.getElem?_eq_getElem hj, List.getElem?_eq_getElem (show k < l.length by omega)] at hm
              simp only [Bool.and_eq_true, decide_eq_true_iff] at hm
              exact ⟨j, hj, k, hk, ⟨_, List.getElem?_eq_getElem hj, hm.1⟩, ⟨_, List.getElem?_eq_getElem (show k < l.length by omega), hm.2⟩⟩
          · have ej : l[j]? = some l[j] := List.getElem?_eq_getElem hj
            show lorryref16_before_L2 x s l (i : Int) a j = _
            unfold lorryref16_before_L2
            rw [br_pos (by simp [lenI]; omega), inc hj hl]
            have in2 := scan_c (B := fun q => lorryref16_before_L3 x s l (i : Int) a (j : Int) q) (n := j) (by omega) (fun k => match l[j]?, l[k]? with | some v, some w => decide (v.order = a.x0) && decide (w.order = a.x1) | _, _ => false) (y := (.inr false : Unit ⊕ Bool)) (N := .inl ())
              (b := (List.range j).any fun k => match l[j]?, l[k]? with | some v, some w => decide (v.order = a.x0) && decide (w.order = a.x1) | _, _ => false) (by
                rw [List.any_eq_true]
                exact ⟨fun ⟨k, hk, hm⟩ => ⟨k, List.mem_range.1 hk, hm⟩, fun ⟨k, hk, hm⟩ => ⟨k, List.mem_range.2 hk, hm⟩⟩) (fun k hk => by
              have ek : l[k]? = some (l[k]'(by omega)) := List.getElem?_eq_getElem _
              show lorryref16_before_L3 x s l (i : Int) a (j : Int) k = _
              unfold lorryref16_before_L3
              rw [br_pos (by simp; omega), getI_nat ej, bnd_some, getI_nat ek, bnd_some, inc (n := l.length) (by omega) hl, ej, ek]
              simp only [brs, eqI_t, Bool.and_eq_true, decide_eq_true_iff]
              by_cases c1 : (l[j]).order = a.x0
              · rw [if_pos c1]
                by_cases c2 : (l[k]'(by omega)).order = a.x1
                · rw [if_pos c2, if_pos ⟨c1, c2⟩]
                · rw [if_neg c2, if_neg fun h => c2 h.2]
              · rw [if_neg c1, if_neg fun h => c1 h.1]) (by
              show lorryref16_before_L3 x s l (i : Int) a (j : Int) j = _
              unfold lorryref16_before_L3
              rw [br_neg (by simp)])
            rw [bnd_eq in2]
            split <;> rfl
          · show lorryref16_before_L2 x s l (i : Int) a l.length = _
            unfold lorryref16_before_L2
            rw [br_neg (by simp [lenI])]
        rw [br_true, br_true, bnd_eq inner]
        cases lateB l a <;> rfl) (by
    show lorryref16_before_L1 x s l x.before.length = _
    unfold lorryref16_before_L1
    rw [head_out])
  unfold lorryref16_before
  rw [bnd_eq this]
  cases x.before.any (badB l) <;> rfl
theorem Check16_eq {r : T_api_Route} (hx : InstOK x) (hl : r.visits.length ≤ 1048576) : lorryref16_Check x r = some (seqS x r.visits) := by
  unfold lorryref16_Check seqS
  rw [bnd_eq (scan_any (B := fun s => lorryref16_Check_L1 x r s) hl (fun v => !inO x v) (y := (.inr 2 : Unit ⊕ Int)) (N := .inl ()) (fun i a h => by
    show lorryref16_Check_L1 x r i = _
    unfold lorryref16_Check_L1
    rw [head_in h, incL h hl]
    have hP : (!inO x a) = (ltI a.order 0 || geI a.order (lenI x.orders)) := by
      unfold inO lenI; rw [Bool.eq_iff_iff]; simp
    rw [hP]
    cases ltI a.order 0 <;> cases geI a.order (lenI x.orders) <;> rfl) (by
    show lorryref16_Check_L1 x r r.visits.length = _
    unfold lorryref16_Check_L1
    rw [head_out]))]
  by_cases h1 : r.visits.any (fun v => !inO x v) = true
  · rw [if_pos h1, sel_inr]
    split <;> rfl
  have h1' : r.visits.any (fun v => !inO x v) = false := by simpa using h1
  rw [if_neg h1, if_neg h1, sel_inl]
  obtain ⟨s, hs, hs0, hset⟩ := orders16 hx hl h1'
  rw [hs, bnd_some, hs0]
  by_cases h0 : r.visits.length = 0
  · rw [br_pos (by simp [lenI, h0]), if_pos h0]
  rw [br_neg (by simp only [lenI, neI, orF, eqI_f]; simp; intro h; exact h0 (by rw [h]; rfl)), if_neg h0]
  rw [bnd_eq (scan_any (B := fun q => lorryref16_Check_L2 x r s q) hl (offV x) (y := (.inr 9 : Unit ⊕ Int)) (N := .inl ()) (fun i a h => by
    obtain ⟨h0, h1⟩ := inO_of h1' (List.mem_of_getElem? h)
    obtain ⟨o, g1, g2, g3, _⟩ := offV_at h0 h1
    show lorryref16_Check_L2 x r s i = _
    unfold lorryref16_Check_L2
    rw [head_in h, g1, bnd_some, incL h hl, brs, g3]) (by
    show lorryref16_Check_L2 x r s r.visits.length = _
    unfold lorryref16_Check_L2
    rw [head_out]))]
  by_cases h2 : r.visits.any (offV x) = true
  · rw [if_pos h2, if_pos h2]; rfl
  rw [if_neg h2, if_neg h2, sel_inl]
  rw [bnd_eq (scan_c (B := fun q => lorryref16_Check_L3 x r s q) hl (fun k => match r.visits[k]? with | some v => neI (ixI (isV v) r.visits) (k : Int) | none => false) (y := (.inr 6 : Unit ⊕ Int)) (N := .inl ()) (b := decide (¬ r.visits.Nodup)) (by
    rw [decide_eq_true_iff, nodup_iff]
    constructor
    · rintro ⟨k, hk, j, hj, he⟩
      refine ⟨k, hk, ?_⟩
      rw [List.getElem?_eq_getElem hk] at he ⊢
      simp only [neI_t]
      intro h
      exact (ixV_at h).2 j hj he
    · rintro ⟨k, hk, h⟩
      rw [List.getElem?_eq_getElem hk] at h
      simp only [neI_t] at h
      have h0 := ixV_ge.2 (List.getElem_mem hk)
      obtain ⟨m, hm⟩ : ∃ m : Nat, ixI (isV r.visits[k]) r.visits = m := ⟨(ixI (isV r.visits[k]) r.visits).toNat, by omega⟩
      obtain ⟨g1, g2⟩ := ixV_at hm
      have hmk : m < k := by
        rcases Nat.lt_trichotomy m k with h' | h' | h'
        · exact h'
        · exact absurd (by rw [hm, h']) h
        · exact absurd (List.getElem?_eq_getElem hk) (g2 k h')
      exact ⟨k, hk, m, hmk, by rw [g1, List.getElem?_eq_getElem hk]⟩) (fun i hi => by
    have h : r.visits[i]? = some r.visits[i] := List.getElem?_eq_getElem hi
    show lorryref16_Check_L3 x r s i = _
    unfold lorryref16_Check_L3
    rw [head_in h, index16_eq hl, bnd_some, incL h hl, brs, h]) (by
    show lorryref16_Check_L3 x r s r.visits.length = _
    unfold lorryref16_Check_L3
    rw [head_out]))]
  by_cases h3 : ¬ r.visits.Nodup
  · rw [if_pos (decide_eq_true h3), if_pos h3]; rfl
  rw [if_neg (by rw [decide_eq_false h3]; decide), if_neg h3, sel_inl, paired16_eq hx hl h1', bnd_some]
  by_cases h4 : r.visits.any (fun v => !pairV x r.visits v) = true
  · rw [br_neg (by rw [h4]; rfl), if_pos h4]
  rw [br_pos (by simpa using h4), if_neg h4, apart16_eq hx hset, bnd_some]
  by_cases h5 : x.apart.any (apartB r.visits) = true
  · rw [br_neg (by rw [h5]; rfl), if_pos h5]
  rw [br_pos (by simpa using h5), if_neg h5, before16_eq hx hl hset, bnd_some]
  by_cases h6 : x.before.any (badB r.visits) = true
  · rw [br_neg (by rw [h6]; rfl), if_pos h6]
  · rw [br_pos (by simpa using h6), if_neg h6]
end
end Go.Proofs.YtfldlilicmbmkaaGreatDoor
namespace Go.Proofs.YtfldlilicmbmkaaGreatDoor
set_option linter.unusedSimpArgs false
set_option linter.unusedVariables false
set_option linter.unusedSectionVars false
def sumN : Nat → (Nat → Int) → Int
  | 0, _ => 0
  | n + 1, f => sumN n f + f n
theorem sumN_congr {f g : Nat → Int} : ∀ n, (∀ i, i < n → f i = g i) → sumN n f = sumN n g
  | 0, _ => rfl
  | n + 1, h => by unfold sumN; rw [sumN_congr n fun i hi => h i (by omega), h n (by omega)]
theorem sumN_upd {f g : Nat → Int} {o : Nat} : ∀ n, o < n → (∀ i, i ≠ o → g i = f i) → sumN n g = sumN n f + (g o - f o)
  | 0, h, _ => by omega
  | n + 1, h, hg => by
    unfold sumN
    rcases Nat.lt_or_eq_of_le (Nat.le_of_lt_succ h) with h' | rfl
    · rw [sumN_upd n h' hg, hg n (by omega)]; omega
    · rw [sumN_congr _ fun i hi => hg i (by omega)]; omega
theorem sumN_more {f : Nat → Int} {n : Nat} : ∀ m, n ≤ m → (∀ i, n ≤ i → f i = 0) → sumN m f = sumN n f
  | 0, h, _ => by obtain rfl : n = 0 := by omega
                  rfl
  | m + 1, h, hf => by
    rcases Nat.lt_or_eq_of_le h with h' | rfl
    · unfold sumN; rw [sumN_more m (by omega) hf, hf m (by omega)]
      cases n <;> simp [sumN]
    · rfl
theorem sumN_bd {f : Nat → Int} {c : Int} (hc : 0 ≤ c) : ∀ n, (∀ i, 0 ≤ f i ∧ f i ≤ c) → 0 ≤ sumN n f ∧ sumN n f ≤ n * c
  | 0, _ => by simp [sumN]
  | n + 1, h => by
    have h1 := sumN_bd hc n h
    have h2 := h n
    unfold sumN
    rw [show ((n + 1 : Nat) : Int) * c = n * c + c by rw [Int.natCast_add, Int.add_mul]; simp]
    omega
def vecN (D : Nat) (f : Nat → Int) : List Int := (List.range D).map f
theorem vecN_len {D : Nat} {f : Nat → Int} : (vecN D f).length = D := by simp [vecN]
theorem vecN_get {D : Nat} {f : Nat → Int} {k : Nat} (h : k < D) : (vecN D f)[k]? = some (f k) := by simp [vecN, h]
theorem vecN_congr {D : Nat} {f g : Nat → Int} (h : ∀ d, d < D → f d = g d) : vecN D f = vecN D g := by
  unfold vecN
  exact List.map_congr_left fun d hd => h d (List.mem_range.1 hd)
theorem vecN_set {D : Nat} {f : Nat → Int} {k : Nat} {y : Int} (h : k < D) : setI (vecN D f) (k : Int) y = vecN D (fun d => if d = k then y else f d) := by
  unfold setI
  refine List.ext_getElem? fun i => ?_
  rw [List.getElem?_set]
  simp only [Int.toNat_natCast, vecN_len]
  split
  · rename_i he
    subst he
    exact ((vecN_get (f := fun d => if d = k then y else f d) h).trans (by simp)).symm
  · rename_i he
    rcases Nat.lt_or_ge i D with h' | h'
    · rw [vecN_get h', vecN_get h', if_neg (by omega)]
    · rw [List.getElem?_eq_none (by rw [vecN_len]; omega), List.getElem?_eq_none (by rw [vecN_len]; omega)]
theorem vecN_of {l : List Int} : l = vecN l.length (fun d => l.getD d 0) := by
  refine List.ext_getElem? fun i => ?_
  rcases Nat.lt_or_ge i l.length with h | h
  · rw [vecN_get h, List.getElem?_eq_getElem h, List.getD_eq_getElem?_getD, List.getElem?_eq_getElem h]; rfl
  · rw [List.getElem?_eq_none h, List.getElem?_eq_none (by rw [vecN_len]; omega)]
theorem comb_loop {D : Nat} {f g h : Nat → Int} (hD : D ≤ 3) {B : List Int × Int → Option ((List Int × Int) ⊕ (List Int))}
    (hin : ∀ (k : Nat) (l1 : List Int), k < D → l1.length = D → B (l1, (k : Int)) = some (.inl (setI l1 k (h k), (k : Int) + 1))) (hend : ∀ l1 : List Int, B (l1, (D : Int)) = some (.inr l1)) :
    loopF B (List.replicate D 0, 0) = some (vecN D h) := by
  have h0 : (List.replicate D (0 : Int), (0 : Int)) = (vecN D (fun d => if d < 0 then h d else 0), ((0 : Nat) : Int)) := by
    congr 1
    refine List.ext_getElem? fun i => ?_
    rcases Nat.lt_or_ge i D with h | h
    · rw [vecN_get h]; simp [h]
    · rw [List.getElem?_eq_none (by simp; omega), List.getElem?_eq_none (by rw [vecN_len]; omega)]
  rw [h0]
  refine loop_for D (fun k => (vecN D (fun d => if d < k then h d else 0), (k : Int))) (by omega) (fun k hk => ?_) ?_
  · rw [hin k _ hk vecN_len, vecN_set hk]
    simp only [Int.natCast_add, Int.cast_ofNat_Int]
    congr 3
    refine vecN_congr fun d hd => ?_
    by_cases h1 : d = k
    · rw [if_pos h1, if_pos (by omega), h1]
    · rw [if_neg h1]
      by_cases h2 : d < k
      · rw [if_pos h2, if_pos (by omega)]
      · rw [if_neg h2, if_neg (by omega)]
  · rw [hend]
    congr 2
    exact vecN_congr fun d hd => if_pos hd
theorem Add_eq {D : Nat} {f g : Nat → Int} (hD : D ≤ 3) (hf : ∀ d, d < D → -4000000000 ≤ f d ∧ f d ≤ 4000000000) (hg : ∀ d, d < D → -4000000000 ≤ g d ∧ g d ≤ 4000000000) : loads_Add (vecN D f) (vecN D g) = some (vecN D (fun d => f d + g d), 0) := by
  unfold loads_Add loads_combine_plus
  rw [br_neg (by simp [lenI, vecN_len])]
  have hm : mkI (lenI (vecN D f)) (lenI (vecN D f)) 8 (0 : Int) = some (List.replicate D 0) := by
    unfold mkI lenI
    rw [vecN_len, if_pos (by omega)]
    rfl
  rw [hm, bnd_some]
  rw [bnd_eq (comb_loop (D := D) (f := f) (g := g) (h := fun d => f d + g d) hD (B := fun s => loads_combine_plus_L1 (vecN D f) (vecN D g) (List.replicate D 0) s.1 s.2) (fun k l1 hk hl => by
    have a1 := hf k hk
    have a2 := hg k hk
    show loads_combine_plus_L1 (vecN D f) (vecN D g) (List.replicate D 0) l1 k = _
    unfold loads_combine_plus_L1 loads_plus
    rw [head_in (vecN_get hk), getI_nat (vecN_get hk), bnd_some, bnd_some, getI_k (by omega), bnd_some, addI (by omega) (by omega), addI (by omega) (by omega)]) (fun l1 => by
    show loads_combine_plus_L1 (vecN D f) (vecN D g) (List.replicate D 0) l1 D = _
    unfold loads_combine_plus_L1
    rw [br_neg (by simp [lenI, vecN_len])]))]
  rfl
theorem Sub_eq {D : Nat} {f g : Nat → Int} (hD : D ≤ 3) (hf : ∀ d, d < D → -4000000000 ≤ f d ∧ f d ≤ 4000000000) (hg : ∀ d, d < D → -4000000000 ≤ g d ∧ g d ≤ 4000000000) : loads_Sub (vecN D f) (vecN D g) = some (vecN D (fun d => f d - g d), 0) := by
  unfold loads_Sub loads_combine_minus
  rw [br_neg (by simp [lenI, vecN_len])]
  have hm : mkI (lenI (vecN D f)) (lenI (vecN D f)) 8 (0 : Int) = some (List.replicate D 0) := by
    unfold mkI lenI
    rw [vecN_len, if_pos (by omega)]
    rfl
  rw [hm, bnd_some]
  rw [bnd_eq (comb_loop (D := D) (f := f) (g := g) (h := fun d => f d - g d) hD (B := fun s => loads_combine_minus_L1 (vecN D f) (vecN D g) (List.replicate D 0) s.1 s.2) (fun k l1 hk hl => by
    have a1 := hf k hk
    have a2 := hg k hk
    show loads_combine_minus_L1 (vecN D f) (vecN D g) (List.replicate D 0) l1 k = _
    unfold loads_combine_minus_L1 loads_minus
    rw [head_in (vecN_get hk), getI_nat (vecN_get hk), bnd_some, bnd_some, getI_k (by omega), bnd_some, subI (by omega) (by omega), addI (by omega) (by omega)]) (fun l1 => by
    show loads_combine_minus_L1 (vecN D f) (vecN D g) (List.replicate D 0) l1 D = _
    unfold loads_combine_minus_L1
    rw [br_neg (by simp [lenI, vecN_len])]))]
  rfl
section
variable {x : T_api_Instance} {l : List T_api_Visit} {r : T_api_Route}
theorem SetOf.Has {s : Int} (h : SetOf l s) {i : Int} (h0 : 0 ≤ i) (h1 : i ≤ 62) : sets_Has s i = some (hasO l i) := by
  obtain ⟨m, rfl, hm, hb⟩ := h.ex
  obtain ⟨k, rfl⟩ : ∃ k : Nat, i = k := ⟨i.toNat, by omega⟩
  unfold sets_Has
  rw [br_pos (by simp; omega), chk_pos (by omega), shrN (by omega)]
  have hd := Nat.div_le_self m (2 ^ k)
  rw [show (1 : Int) = ((1 : Nat) : Int) from rfl, andN (by omega) (by omega), Nat.and_one_is_mod, ← hb, Nat.testBit_eq_decide_div_mod_eq]
  congr 1
  generalize m / 2 ^ k = q
  rw [Bool.eq_iff_iff, eqI_t, decide_eq_true_iff]
  omega
theorem Orders_post (hx : InstOK x) (hl : r.visits.length ≤ 1048576) (ho : r.visits.any (fun v => !inO x v) = false) : post (sequence_Orders r) fun s => s.2 = 0 ∧ SetOf r.visits s.1 := by
  have hx10 := hx.orders
  unfold sequence_Orders
  refine post_bndE ?_
  refine post_loop (fun s => ∃ (k m : Nat), s = ((m : Int), (k : Int)) ∧ k ≤ r.visits.length ∧ m < 1024 ∧ ∀ i : Nat, m.testBit i = hasO (r.visits.take k) (i : Int)) (fun s => r.visits.length - s.2.toNat) ⟨0, 0, rfl, Nat.zero_le _, by omega, fun i => by simp [hasO]⟩ (by simp; omega) ?_
  rintro _ ⟨k, m, rfl, hk, hm, hb⟩
  show post (sequence_Orders_L1 r (m : Int) (k : Int)) _
  unfold sequence_Orders_L1
  rcases Nat.lt_or_ge k r.visits.length with h | h
  · have e : r.visits[k]? = some r.visits[k] := List.getElem?_eq_getElem h
    have hin := inO_of ho (List.getElem_mem h)
    have htk : r.visits.take (k + 1) = r.visits.take k ++ [r.visits[k]] := by rw [List.take_add_one, e]; rfl
    generalize r.visits[k] = v at e hin htk
    obtain ⟨n, hn⟩ : ∃ n : Nat, v.order = n := ⟨v.order.toNat, by omega⟩
    have hov : ∀ i : Nat, hasO (r.visits.take (k + 1)) (i : Int) = (hasO (r.visits.take k) (i : Int) || decide (n = i)) := fun i => by
      rw [htk]
      unfold hasO
      rw [List.any_append, List.any_cons, List.any_nil, Bool.or_false]
      congr 1
      rw [Bool.eq_iff_iff, isO_t, hn, decide_eq_true_iff]
      omega
    have h2 : 2 ^ n ≤ 2 ^ 9 := Nat.pow_le_pow_right (by omega) (by omega)
    rw [head_in e, br_neg (by rw [hn]; simp; omega), chk_pos (by omega), incL e hl, hn, shlN (by omega), orN (by omega) (by omega)]
    have hbit : ∀ i, (m ||| 2 ^ n).testBit i = hasO (r.visits.take (k + 1)) (i : Int) := fun i => by rw [Nat.testBit_or, Nat.testBit_two_pow, hov, hb]
    refine post_inl ⟨⟨k + 1, m ||| 2 ^ n, by simp, h, ?_, hbit⟩, by simp; omega⟩
    exact Nat.or_lt_two_pow (n := 10) hm (by omega)
  · obtain rfl : k = r.visits.length := by omega
    rw [head_out]
    refine post_inr ?_
    rw [sel_inl]
    exact post_some.2 ⟨rfl, ⟨m, rfl, hm, fun i => by rw [hb, List.take_length]⟩⟩
/-- The members of a set, of those below n. -/
def memN (l : List T_api_Visit) : Nat → List Int
  | 0 => []
  | n + 1 => memN l n ++ (if hasO l (n : Int) = true then [(n : Int)] else [])
theorem memN_len : ∀ n, (memN l n).length ≤ n
  | 0 => Nat.le_refl 0
  | n + 1 => by have := memN_len n; unfold memN; split <;> simp <;> omega
theorem Members_eq {s : Int} (h : SetOf l s) : sets_Members s = some (memN l 63) := by
  unfold sets_Members
  have this : loopF (fun q : List Int × Int => sets_Members_L1 s q.1 q.2) ([], 0) = some (memN l 63) := loop_for 63 (fun k => (memN l k, (k : Int))) (B := fun q => sets_Members_L1 s q.1 q.2) (by omega) (fun k hk => by
    show sets_Members_L1 s (memN l k) (k : Int) = _
    have := memN_len (l := l) k
    unfold sets_Members_L1
    rw [br_pos (by simp; omega), h.Has (by omega) (by omega), bnd_some, addI (by omega) (by omega), chk_pos (by unfold okN; simp; omega), brs]
    show _ = some (Sum.inl (memN l k ++ (if hasO l (k : Int) = true then [(k : Int)] else []), ((k + 1 : Nat) : Int)))
    split <;> simp) (by
    show sets_Members_L1 s (memN l 63) ((63 : Nat) : Int) = _
    unfold sets_Members_L1
    rw [br_neg (by decide)])
  rw [bnd_eq this]
end
end Go.Proofs.YtfldlilicmbmkaaGreatDoor
namespace Go.Proofs.YtfldlilicmbmkaaGreatDoor
set_option linter.unusedSimpArgs false
set_option linter.unusedVariables false
set_option linter.unusedSectionVars false
def sumF {α : Type} (f : α → Int) (l : List α) : Int := (l.map f).sum
theorem sumF_app {α : Type} {f : α → Int} {a b : List α} : sumF f (a ++ b) = sumF f a + sumF f b := by simp [sumF, List.sum_append]
theorem sumF_one {α : Type} {f : α → Int} {a : α} : sumF f [a] = f a := by simp [sumF]
theorem sumF_nil {α : Type} {f : α → Int} : sumF f [] = 0 := rfl
theorem take_one {α : Type} {l : List α} {k : Nat} {a : α} (h : l[k]? = some a) : l.take (k + 1) = l.take k ++ [a] := by rw [List.take_add_one, h]; rfl
theorem sumF_take {α : Type} {f : α → Int} {l : List α} {k : Nat} {a : α} (h : l[k]? = some a) : sumF f (l.take (k + 1)) = sumF f (l.take k) + f a := by rw [take_one h, sumF_app, sumF_one]
theorem sumF_bd {α : Type} {f : α → Int} : ∀ {l : List α}, (∀ a ∈ l, 0 ≤ f a ∧ f a ≤ 1000) → 0 ≤ sumF f l ∧ sumF f l ≤ 1000 * l.length
  | [], _ => by simp [sumF]
  | a :: l, h => by
    have h1 := sumF_bd (f := f) (l := l) fun b hb => h b (List.mem_cons_of_mem _ hb)
    have h2 := h a (List.mem_cons_self ..)
    have e : sumF f (a :: l) = f a + sumF f l := by simp [sumF]
    rw [e, List.length_cons]
    omega
section
variable (x : T_api_Instance)
def loadO (i d : Nat) : Int := match x.orders[i]? with
  | some o => o.load.getD d 0
  | none => 0
def pk0 (i : Nat) : Bool := match x.orders[i]? with
  | some o => decide (o.pick.place < 0)
  | none => false
/-- Is an order on board after these visits? -/
def onK (l : List T_api_Visit) (i : Nat) : Bool := l.foldl (fun b v => if v.order = (i : Int) then !v.drop else b) (pk0 x i)
def incl (l : List T_api_Visit) (k i d : Nat) : Int := if (hasO l (i : Int) && onK x (l.take k) i) = true then loadO x i d else 0
/-- What is on board after k visits. -/
def loadK (l : List T_api_Visit) (k d : Nat) : Int := sumN x.orders.length fun i => incl x l k i d
end
section
variable {x : T_api_Instance} {l : List T_api_Visit} {r : T_api_Route}
theorem ord_at (hx : InstOK x) {i : Nat} (hi : i < x.orders.length) : ∃ o, x.orders[i]? = some o ∧ o ∈ x.orders ∧ o.load = vecN (dimsOf x.types) (loadO x i) ∧ (∀ d, 0 ≤ loadO x i d ∧ loadO x i d ≤ 1000) ∧ pk0 x i = decide (o.pick.place < 0) := by
  have e : x.orders[i]? = some x.orders[i] := List.getElem?_eq_getElem hi
  have hm := List.getElem_mem hi
  generalize x.orders[i] = o at e hm
  have hO := hx.ord o hm
  refine ⟨o, e, hm, ?_, fun d => ?_, by unfold pk0; rw [e]⟩
  · have := vecN_of (l := o.load)
    rw [hO.load] at this
    rw [this]
    refine vecN_congr fun d hd => ?_
    unfold loadO
    rw [e]
  · unfold loadO
    rw [e]
    simp only
    rw [List.getD_eq_getElem?_getD]
    rcases Nat.lt_or_ge d o.load.length with h | h
    · rw [List.getElem?_eq_getElem h]
      exact hO.loads d h _ (List.getElem?_eq_getElem h)
    · rw [List.getElem?_eq_none h]; simp
theorem load_all (hx : InstOK x) (i d : Nat) : 0 ≤ loadO x i d ∧ loadO x i d ≤ 1000 := by
  rcases Nat.lt_or_ge i x.orders.length with h | h
  · obtain ⟨o, _, _, _, h, _⟩ := ord_at hx h
    exact h d
  · unfold loadO
    rw [List.getElem?_eq_none h]; simp
theorem loadK_bd (hx : InstOK x) (k d : Nat) : 0 ≤ loadK x l k d ∧ loadK x l k d ≤ 10000 := by
  have h := sumN_bd (f := fun i => incl x l k i d) (c := 1000) (by omega) x.orders.length fun i => by
    have := load_all hx i d
    unfold incl
    split <;> omega
  have := hx.orders
  unfold loadK
  omega
theorem dims_ok (hx : InstOK x) : 1 ≤ dimsOf x.types ∧ dimsOf x.types ≤ 3 := by
  have h1 := hx.types1
  cases ht : x.types with
  | nil => rw [ht] at h1; simp at h1
  | cons t ts =>
    have := (hx.typ t (by rw [ht]; simp)).dims1
    rw [ht] at this
    exact this
structure SeqOK (x : T_api_Instance) (l : List T_api_Visit) : Prop where
  ne : l.length ≠ 0
  inn : l.any (fun v => !inO x v) = false
  off : l.any (offV x) = false
  nodup : l.Nodup
  pair : ∀ v ∈ l, pairV x l v = true
  apart : x.apart.any (apartB l) = false
  before : x.before.any (badB l) = false
theorem seqS_ok (h : seqS x l = 0) : SeqOK x l := by
  unfold seqS at h
  by_cases h0 : l.length = 0
  · rw [if_pos h0] at h; cases h
  rw [if_neg h0] at h
  by_cases h1 : l.any (fun v => !inO x v) = true
  · rw [if_pos h1] at h; cases h
  rw [if_neg h1] at h
  by_cases h2 : l.any (offV x) = true
  · rw [if_pos h2] at h; cases h
  rw [if_neg h2] at h
  by_cases h3 : ¬ l.Nodup
  · rw [if_pos h3] at h; cases h
  rw [if_neg h3] at h
  by_cases h4 : l.any (fun v => !pairV x l v) = true
  · rw [if_pos h4] at h; cases h
  rw [if_neg h4] at h
  by_cases h5 : x.apart.any (apartB l) = true
  · rw [if_pos h5] at h; cases h
  rw [if_neg h5] at h
  by_cases h6 : x.before.any (badB l) = true
  · rw [if_pos h6] at h; cases h
  refine ⟨h0, by simpa using h1, by simpa using h2, Classical.not_not.1 h3, fun v hv => ?_, by simpa using h5, by simpa using h6⟩
  have := List.any_eq_false.1 (by simpa using h4 : l.any (fun v => !pairV x l v) = false) v hv
  simpa using this
theorem fold_none {b : Bool} {i : Nat} : ∀ {m : List T_api_Visit}, (∀ v ∈ m, v.order ≠ (i : Int)) → m.foldl (fun b v => if v.order = (i : Int) then !v.drop else b) b = b
  | [], _ => rfl
  | v :: m, h => by
    rw [List.foldl_cons, if_neg (h v (List.mem_cons_self ..))]
    exact fold_none fun w hw => h w (List.mem_cons_of_mem _ hw)
theorem fold_all {c : Bool} {i : Nat} : ∀ {m : List T_api_Visit} {b : Bool}, (∀ v ∈ m, v.order = (i : Int) → v.drop = c) → (b = (!c) ∨ ∃ v ∈ m, v.order = (i : Int)) → m.foldl (fun b v => if v.order = (i : Int) then !v.drop else b) b = !c
  | [], b, _, h => by
    rcases h with h | ⟨v, hv, _⟩
    · exact h
    · cases hv
  | v :: m, b, h, h' => by
    rw [List.foldl_cons]
    by_cases hv : v.order = (i : Int)
    · rw [if_pos hv]
      exact fold_all (fun w hw => h w (List.mem_cons_of_mem _ hw)) (.inl (by rw [h v (List.mem_cons_self ..) hv]))
    · rw [if_neg hv]
      refine fold_all (fun w hw => h w (List.mem_cons_of_mem _ hw)) ?_
      rcases h' with h' | ⟨w, hw, he⟩
      · exact .inl h'
      · rcases List.mem_cons.1 hw with rfl | hw
        · exact absurd he hv
        · exact .inr ⟨w, hw, he⟩
theorem nodup_at {j k : Nat} (h : l.Nodup) {v : T_api_Visit} (hj : l[j]? = some v) (hk : l[k]? = some v) : j = k := by
  refine Classical.byContradiction fun hne => ?_
  have hj' := (List.getElem?_eq_some_iff.1 hj).1
  have hk' := (List.getElem?_eq_some_iff.1 hk).1
  refine (nodup_iff.2 ?_) h
  rcases Nat.lt_or_gt_of_ne hne with hlt | hlt
  · exact ⟨k, hk', j, hlt, by rw [hj, hk]⟩
  · exact ⟨j, hj', k, hlt, by rw [hj, hk]⟩
/-- A visit finds its order where it must be. -/
theorem on_at (hx : InstOK x) (h : SeqOK x l) {k : Nat} {v : T_api_Visit} (hk : l[k]? = some v) {i : Nat} (hi : v.order = (i : Int)) : onK x (l.take k) i = v.drop := by
  have hv := List.mem_of_getElem? hk
  have hkl := (List.getElem?_eq_some_iff.1 hk).1
  have hin := inO_of h.inn hv
  obtain ⟨o, e, hm, _, _, hp⟩ := ord_at hx (show i < x.orders.length by omega)
  have hO := hx.ord o hm
  -- each visit of the order is one of the order's visits
  have vis : ∀ w ∈ l, w.order = (i : Int) → w ∈ visO x (i : Int) ∧ rowB l (visO x (i : Int)) = true := fun w hw he => by
    have := h.pair w hw
    unfold pairV at this
    rw [he, Bool.and_eq_true, any_V] at this
    exact this
  have hvo : visO x (i : Int) = (if 0 ≤ o.pick.place then [T_api_Visit.mk i false] else []) ++ (if 0 ≤ o.drop.place then [T_api_Visit.mk i true] else []) := by
    unfold visO
    rw [Int.toNat_natCast, e]
  have same : ∀ w ∈ l.take k, w.order = (i : Int) → w ≠ v := fun w hw _ he => by
    obtain ⟨j, hj, hje⟩ := (take_mem (by omega)).1 hw
    rw [he] at hje
    have := nodup_at h.nodup hje hk
    omega
  have drop_or : ∀ w : T_api_Visit, w.order = (i : Int) → w = T_api_Visit.mk i w.drop := fun w hw => by cases w; simp at hw; subst hw; rfl
  obtain ⟨v1, v2⟩ := vis v hv hi
  unfold onK
  by_cases hpk : 0 ≤ o.pick.place
  · have hp' : pk0 x i = false := by rw [hp]; simp; omega
    rw [if_pos hpk] at hvo
    by_cases hdr : 0 ≤ o.drop.place
    · rw [if_pos hdr] at hvo
      rw [hvo] at v2
      simp only [List.cons_append, List.nil_append, rowB, Bool.and_eq_true, geI_t, ltI_t] at v2
      obtain ⟨p, hpp⟩ : ∃ p : Nat, ixI (isV (T_api_Visit.mk i false)) l = p := ⟨(ixI (isV (T_api_Visit.mk i false)) l).toNat, by omega⟩
      obtain ⟨q, hqq⟩ : ∃ q : Nat, ixI (isV (T_api_Visit.mk i true)) l = q := ⟨(ixI (isV (T_api_Visit.mk i true)) l).toNat, by omega⟩
      obtain ⟨p1, p2⟩ := ixV_at hpp
      obtain ⟨q1, q2⟩ := ixV_at hqq
      have hpq : p < q := by omega
      cases hd : v.drop with
      | false =>
        have hve := drop_or v hi
        rw [hd] at hve
        have hkp : k = p := nodup_at h.nodup (hve ▸ hk) p1
        rw [fold_none fun w hw he => ?_, hp']
        have hwe := drop_or w he
        cases hwd : w.drop with
        | false => rw [hwd] at hwe; exact same w hw he (hwe.trans hve.symm)
        | true =>
          rw [hwd] at hwe
          obtain ⟨j, hj, hje⟩ := (take_mem (by omega)).1 hw
          have := nodup_at h.nodup (hwe ▸ hje) q1
          omega
      | true =>
        have hve := drop_or v hi
        rw [hd] at hve
        have hkq : k = q := nodup_at h.nodup (hve ▸ hk) q1
        refine fold_all (c := false) (fun w hw he => ?_) (.inr ⟨T_api_Visit.mk i false, (take_mem (by omega)).2 ⟨p, by omega, p1⟩, rfl⟩)
        have hwe := drop_or w he
        cases hwd : w.drop with
        | false => rfl
        | true => rw [hwd] at hwe; exact absurd (hwe.trans hve.symm) (same w hw he)
    · rw [if_neg hdr, List.append_nil] at hvo
      have only : ∀ w ∈ l, w.order = (i : Int) → w = T_api_Visit.mk i false := fun w hw he => by
        have := (vis w hw he).1
        rw [hvo] at this
        exact List.mem_singleton.1 this
      rw [fold_none fun w hw he => same w hw he ((only w (List.mem_of_mem_take hw) he).trans (only v hv hi).symm), hp', only v hv hi]
  · have hp' : pk0 x i = true := by rw [hp]; simp; omega
    rw [if_neg hpk, List.nil_append] at hvo
    have only : ∀ w ∈ l, w.order = (i : Int) → w = T_api_Visit.mk i true := fun w hw he => by
      have := (vis w hw he).1
      rw [hvo] at this
      split at this
      · exact List.mem_singleton.1 this
      · cases this
    rw [fold_none fun w hw he => same w hw he ((only w (List.mem_of_mem_take hw) he).trans (only v hv hi).symm), hp', only v hv hi]
theorem onK_snoc {k i : Nat} {v : T_api_Visit} (hk : l[k]? = some v) : onK x (l.take (k + 1)) i = if v.order = (i : Int) then !v.drop else onK x (l.take k) i := by
  unfold onK
  rw [take_one hk, List.foldl_append]
  rfl
theorem loadK_step (hx : InstOK x) (h : SeqOK x l) {k : Nat} {v : T_api_Visit} (hk : l[k]? = some v) {i : Nat} (hi : v.order = (i : Int)) (d : Nat) :
    loadK x l (k + 1) d = if v.drop = true then loadK x l k d - loadO x i d else loadK x l k d + loadO x i d := by
  have hin := inO_of h.inn (List.mem_of_getElem? hk)
  unfold loadK
  rw [sumN_upd (f := fun j => incl x l k j d) (g := fun j => incl x l (k + 1) j d) (o := i) x.orders.length (by omega) (fun j hj => by
    show incl x l (k + 1) j d = incl x l k j d
    have e1 : onK x (l.take (k + 1)) j = onK x (l.take k) j := by rw [onK_snoc hk, if_neg (by omega)]
    unfold incl
    rw [e1])]
  have ha : hasO l (i : Int) = true := hasO_t.2 ⟨v, List.mem_of_getElem? hk, hi⟩
  simp only [incl, ha, Bool.true_and]
  rw [onK_snoc hk, if_pos hi, on_at hx h hk hi]
  cases v.drop
  · simp
  · simp
    omega
end
end Go.Proofs.YtfldlilicmbmkaaGreatDoor
namespace Go.Proofs.YtfldlilicmbmkaaGreatDoor
set_option linter.unusedSimpArgs false
set_option linter.unusedVariables false
set_option linter.unusedSectionVars false
section
variable {x : T_api_Instance} {l : List T_api_Visit} {r : T_api_Route}
theorem dims0_eq (hx : InstOK x) : fleet_Dims x.types = some (dimsOf x.types : Int) ∧ lorryref17_dims x = some (dimsOf x.types : Int) := by
  have h1 := hx.types1
  unfold fleet_Dims lorryref17_dims
  cases ht : x.types with
  | nil => rw [ht] at h1; simp at h1
  | cons t ts =>
    constructor
    · rw [br_neg (by simp [lenI]; omega)]; rfl
    · rw [br_neg (by simp [lenI]; omega)]; rfl
theorem mem_memN {i : Int} : ∀ {n : Nat}, i ∈ memN l n → ∃ k : Nat, i = k ∧ k < n ∧ hasO l (k : Int) = true
  | 0, h => by cases h
  | n + 1, h => by
    unfold memN at h
    rcases List.mem_append.1 h with h | h
    · obtain ⟨k, h1, h2, h3⟩ := mem_memN h
      exact ⟨k, h1, by omega, h3⟩
    · split at h
      · exact ⟨n, List.mem_singleton.1 h, by omega, ‹_›⟩
      · cases h
theorem has_in (h : SeqOK x l) {i : Int} (hi : hasO l i = true) : 0 ≤ i ∧ i < x.orders.length := by
  obtain ⟨v, hv, rfl⟩ := hasO_t.1 hi
  exact inO_of h.inn hv
theorem br_ne0 {α β : Type} {a : β} {y z : Option α} : br (neI (a, (0 : Int)).2 0) y z = z := rfl
def stO (x : T_api_Instance) (d : Nat) (i : Int) : Int := if pk0 x i.toNat = true then loadO x i.toNat d else 0
theorem stO_bd (hx : InstOK x) (d : Nat) (i : Int) : 0 ≤ stO x d i ∧ stO x d i ≤ 1000 := by
  have := load_all hx i.toNat d
  unfold stO
  split <;> omega
theorem sum_mem (d : Nat) : ∀ n, sumF (stO x d) (memN l n) = sumN n fun i => if (hasO l (i : Int) && pk0 x i) = true then loadO x i d else 0
  | 0 => rfl
  | n + 1 => by
    show sumF (stO x d) (memN l n ++ (if hasO l (n : Int) = true then [(n : Int)] else [])) = sumN n _ + (if (hasO l (n : Int) && pk0 x n) = true then loadO x n d else 0)
    rw [sumF_app, sum_mem d n]
    by_cases hh : hasO l (n : Int) = true
    · rw [if_pos hh, sumF_one, hh, Bool.true_and]; rfl
    · rw [if_neg hh, sumF_nil, if_neg (by simp [hh])]
theorem startC_eq (hx : InstOK x) (h : SeqOK x l) {s : Int} (hs : SetOf l s) : carry_start x s (dimsOf x.types : Int) = some (vecN (dimsOf x.types) (loadK x l 0)) := by
  obtain ⟨hd1, hd3⟩ := dims_ok hx
  have hx10 := hx.orders
  have hm := memN_len (l := l) 63
  unfold carry_start
  have hz : mkI (dimsOf x.types : Int) (dimsOf x.types : Int) 8 (0 : Int) = some (vecN (dimsOf x.types) fun d => 0) := by
    unfold mkI
    rw [if_pos (by omega)]
    congr 1
    refine List.ext_getElem? fun i => ?_
    rcases Nat.lt_or_ge i (dimsOf x.types) with h | h
    · rw [vecN_get h]; simp [h]
    · rw [List.getElem?_eq_none (by simp; omega), List.getElem?_eq_none (by rw [vecN_len]; omega)]
  rw [hz, bnd_some, Members_eq hs, bnd_some]
  have hmem : ∀ i ∈ memN l 63, ∃ k : Nat, i = k ∧ k < 63 ∧ hasO l (k : Int) = true := fun i hi => mem_memN hi
  have hsum : ∀ d, sumF (stO x d) (memN l 63) = sumN 63 fun i => if (hasO l (i : Int) && pk0 x i) = true then loadO x i d else 0 := fun d => sum_mem d 63
  generalize memN l 63 = M at *
  have this : loopF (fun q : List Int × Int => carry_start_L1 x (vecN (dimsOf x.types) fun d => 0) M q.1 q.2) (vecN (dimsOf x.types) (fun d => 0), 0) = some (vecN (dimsOf x.types) fun d => sumF (stO x d) M) := by
    have := loop_for M.length (fun k => (vecN (dimsOf x.types) (fun d => sumF (stO x d) (M.take k)), (k : Int))) (B := fun q : List Int × Int => carry_start_L1 x (vecN (dimsOf x.types) fun d => 0) M q.1 q.2) (e := vecN (dimsOf x.types) fun d => sumF (stO x d) M) (by omega) (fun k hk => by
      have e : M[k]? = some M[k] := List.getElem?_eq_getElem hk
      obtain ⟨i, hi, _, hh⟩ := hmem _ (List.getElem_mem hk)
      rw [hi] at e
      have hil := has_in h hh
      obtain ⟨o, eo, hmo, ho, hb, hp⟩ := ord_at hx (show i < x.orders.length by omega)
      show carry_start_L1 x (vecN (dimsOf x.types) fun d => 0) M (vecN (dimsOf x.types) (fun d => sumF (stO x d) (M.take k))) (k : Int) = some (Sum.inl (vecN (dimsOf x.types) (fun d => sumF (stO x d) (M.take (k + 1))), ((k + 1 : Nat) : Int)))
      unfold carry_start_L1
      rw [head_in e, getI_nat eo, bnd_some, incL e (by omega), ho]
      have step : ∀ d, sumF (stO x d) (M.take (k + 1)) = sumF (stO x d) (M.take k) + stO x d (i : Int) := fun d => sumF_take e
      have sb : ∀ d, 0 ≤ sumF (stO x d) (M.take k) ∧ sumF (stO x d) (M.take k) ≤ 1000 * (M.take k).length := fun d => sumF_bd fun a _ => stO_bd hx d a
      have hlt : (M.take k).length ≤ 63 := by rw [List.length_take]; omega
      have hst : ∀ d, stO x d (i : Int) = if o.pick.place < 0 then loadO x i d else 0 := fun d => by
        unfold stO
        rw [Int.toNat_natCast, hp]
        simp
      by_cases hpl : o.pick.place < 0
      · rw [br_pos (by simpa using hpl), Add_eq hd3 (fun d _ => by have := sb d; omega) (fun d _ => by have := hb d; omega), bnd_some]
        congr 3
        exact vecN_congr fun d _ => by rw [step, hst, if_pos hpl]
      · rw [br_neg (by simp; omega)]
        congr 3
        exact vecN_congr fun d _ => by rw [step, hst, if_neg hpl]; omega) (by
      show carry_start_L1 x (vecN (dimsOf x.types) fun d => 0) M (vecN (dimsOf x.types) (fun d => sumF (stO x d) (M.take M.length))) (M.length : Int) = _
      unfold carry_start_L1
      rw [head_out, List.take_length])
    exact this
  rw [bnd_eq this]
  congr 1
  refine vecN_congr fun d _ => ?_
  rw [hsum, sumN_more (n := x.orders.length) 63 (by omega) fun i hi => by
    rw [if_neg]
    intro hh
    rw [Bool.and_eq_true] at hh
    have := has_in h hh.1
    omega]
  unfold loadK incl
  rfl
/-- All the loads. -/
def loadsS (x : T_api_Instance) (l : List T_api_Visit) (n : Nat) : List (List Int) := (List.range n).map fun k => vecN (dimsOf x.types) (loadK x l k)
theorem loadsS_len {n : Nat} : (loadsS x l n).length = n := by simp [loadsS]
theorem loadsS_snoc {n : Nat} : loadsS x l (n + 1) = loadsS x l n ++ [vecN (dimsOf x.types) (loadK x l n)] := by simp [loadsS, List.range_succ]
theorem Loads_eq (hx : InstOK x) (hl : r.visits.length ≤ 1048576) (h : SeqOK x r.visits) (h0 : seqS x r.visits = 0) : carry_Loads x r = some (loadsS x r.visits (r.visits.length + 1), 0) := by
  obtain ⟨hd1, hd3⟩ := dims_ok hx
  have hx10 := hx.orders
  unfold carry_Loads
  rw [Check_eq hx hl, bnd_some, h0, br_neg (by decide)]
  obtain ⟨s, hs, hs0, hset⟩ := Orders_post hx hl h.inn
  rw [hs, bnd_some, hs0, br_neg (by decide), (dims0_eq hx).1, bnd_some, startC_eq hx h hset, bnd_some]
  have this : loopF (fun q : List (List Int) × List Int × Int => carry_Loads_L1 x r q.1 q.2.1 q.2.2) ([vecN (dimsOf x.types) (loadK x r.visits 0)], vecN (dimsOf x.types) (loadK x r.visits 0), 0) = some (.inl (loadsS x r.visits (r.visits.length + 1))) := by
    have := loop_for r.visits.length (fun k => (loadsS x r.visits (k + 1), vecN (dimsOf x.types) (loadK x r.visits k), (k : Int))) (B := fun q : List (List Int) × List Int × Int => carry_Loads_L1 x r q.1 q.2.1 q.2.2) (e := .inl (loadsS x r.visits (r.visits.length + 1))) (by omega) (fun k hk => by
      have e : r.visits[k]? = some r.visits[k] := List.getElem?_eq_getElem hk
      have hin := inO_of h.inn (List.getElem_mem hk)
      generalize r.visits[k] = v at e hin
      obtain ⟨i, hi⟩ : ∃ i : Nat, v.order = i := ⟨v.order.toNat, by omega⟩
      obtain ⟨o, eo, hmo, ho, hb, hp⟩ := ord_at hx (show i < x.orders.length by omega)
      have hst := loadK_step hx h e hi
      have hk0 := fun d => loadK_bd (l := r.visits) hx k d
      show carry_Loads_L1 x r (loadsS x r.visits (k + 1)) (vecN (dimsOf x.types) (loadK x r.visits k)) (k : Int) = some (Sum.inl (loadsS x r.visits (k + 1 + 1), vecN (dimsOf x.types) (loadK x r.visits (k + 1)), ((k + 1 : Nat) : Int)))
      unfold carry_Loads_L1
      have ok : okN (loadsS x r.visits (k + 1) ++ [vecN (dimsOf x.types) (loadK x r.visits (k + 1))]).length 24 := by unfold okN; simp [loadsS_len]; omega
      rw [head_in e, hi, getI_nat eo, bnd_some, bnd_some, incL e hl, ho, loadsS_snoc (n := k + 1)]
      cases hd : v.drop with
      | true =>
        rw [br_true, Sub_eq hd3 (fun d _ => by have := hk0 d; omega) (fun d _ => by have := hb d; omega), bnd_some, br_ne0]
        have ev : vecN (dimsOf x.types) (fun d => loadK x r.visits k d - loadO x i d) = vecN (dimsOf x.types) (loadK x r.visits (k + 1)) := vecN_congr fun d _ => by rw [hst, if_pos hd]
        simp only [ev]
        rw [chk_pos ok]
        rfl
      | false =>
        rw [br_false, Add_eq hd3 (fun d _ => by have := hk0 d; omega) (fun d _ => by have := hb d; omega), bnd_some, br_ne0]
        have ev : vecN (dimsOf x.types) (fun d => loadK x r.visits k d + loadO x i d) = vecN (dimsOf x.types) (loadK x r.visits (k + 1)) := vecN_congr fun d _ => by rw [hst, if_neg (by rw [hd]; decide)]
        simp only [ev]
        rw [chk_pos ok]
        rfl) (by
      show carry_Loads_L1 x r (loadsS x r.visits (r.visits.length + 1)) (vecN (dimsOf x.types) (loadK x r.visits r.visits.length)) (r.visits.length : Int) = _
      unfold carry_Loads_L1
      rw [head_out])
    exact this
  rw [bnd_eq this]
  rfl
def ldN (x : T_api_Instance) (l : List T_api_Visit) (n : Nat) : Nat → List (List Int)
  | 0 => []
  | i + 1 => ldN x l n i ++ (if (onK x (l.take n) i && hasO l (i : Int)) = true then [vecN (dimsOf x.types) (loadO x i)] else [])
theorem ldN_len {n : Nat} : ∀ i, (ldN x l n i).length ≤ i
  | 0 => Nat.le_refl 0
  | i + 1 => by have := ldN_len (n := n) i; unfold ldN; split <;> simp <;> omega
theorem ldN_mem {n : Nat} {a : List Int} : ∀ {i}, a ∈ ldN x l n i → ∃ j, a = vecN (dimsOf x.types) (loadO x j)
  | 0, h => by cases h
  | i + 1, h => by
    unfold ldN at h
    rcases List.mem_append.1 h with h | h
    · exact ldN_mem h
    · split at h
      · exact ⟨i, List.mem_singleton.1 h⟩
      · cases h
theorem ldN_sum {n d : Nat} (hd : d < dimsOf x.types) : ∀ i, sumF (fun a : List Int => a.getD d 0) (ldN x l n i) = sumN i fun j => incl x l n j d
  | 0 => rfl
  | i + 1 => by
    show sumF (fun a : List Int => a.getD d 0) (ldN x l n i ++ (if (onK x (l.take n) i && hasO l (i : Int)) = true then [vecN (dimsOf x.types) (loadO x i)] else [])) = sumN i _ + (if (hasO l (i : Int) && onK x (l.take n) i) = true then loadO x i d else 0)
    rw [sumF_app, ldN_sum hd i, Bool.and_comm]
    split
    · rw [sumF_one, List.getD_eq_getElem?_getD, vecN_get hd]; rfl
    · rw [sumF_nil]
theorem sum06_eq {D : Nat} (hD : D ≤ 3) {m : List (List Int)} (hm : m.length ≤ 1000) (hl : ∀ a ∈ m, a.length = D) (hb : ∀ a ∈ m, ∀ d, 0 ≤ a.getD d 0 ∧ a.getD d 0 ≤ 1000) : lorryref06_Sum m (D : Int) = some (vecN D fun d => sumF (fun a => a.getD d 0) m, 0) := by
  have even : lorryref06_even m (D : Int) = some true := by
    unfold lorryref06_even
    rw [br_neg (by simp; omega), bnd_eq (scan_any (B := fun s => lorryref06_even_L1 m (D : Int) s) (l := m) (by omega) (fun a => neI (lenI a) (D : Int)) (y := (.inr false : Unit ⊕ Bool)) (N := .inl ()) (fun i a h => by
      show lorryref06_even_L1 m (D : Int) i = _
      unfold lorryref06_even_L1
      rw [head_in h, incL h (by omega), brs]) (by
      show lorryref06_even_L1 m (D : Int) m.length = _
      unfold lorryref06_even_L1
      rw [head_out]))]
    rw [if_neg]
    · rfl
    · rw [List.any_eq_true]
      rintro ⟨a, ha, h⟩
      rw [neI_t, lenI, hl a ha] at h
      exact h rfl
  unfold lorryref06_Sum
  rw [even, bnd_some, br_true]
  have this : loopF (fun q : List Int × Int => lorryref06_Sum_L1 m (D : Int) q.1 q.2) ([], 0) = some (vecN D fun d => sumF (fun a => a.getD d 0) m) := by
    have := loop_for D (fun k => (vecN k (fun d => sumF (fun a => a.getD d 0) m), (k : Int))) (B := fun q : List Int × Int => lorryref06_Sum_L1 m (D : Int) q.1 q.2) (e := vecN D fun d => sumF (fun a => a.getD d 0) m) (by omega) (fun k hk => by
      show lorryref06_Sum_L1 m (D : Int) (vecN k (fun d => sumF (fun a => a.getD d 0) m)) (k : Int) = some (Sum.inl (vecN (k + 1) (fun d => sumF (fun a => a.getD d 0) m), ((k + 1 : Nat) : Int)))
      unfold lorryref06_Sum_L1
      rw [br_pos (by simp; omega)]
      have inner : loopF (fun q : Int × Int => lorryref06_Sum_L2 m (D : Int) (vecN k (fun d => sumF (fun a => a.getD d 0) m)) (k : Int) q.1 q.2) (0, 0) = some (sumF (fun a => a.getD k 0) m) := by
        have := loop_for m.length (fun j => (sumF (fun a : List Int => a.getD k 0) (m.take j), (j : Int))) (B := fun q : Int × Int => lorryref06_Sum_L2 m (D : Int) (vecN k (fun d => sumF (fun a => a.getD d 0) m)) (k : Int) q.1 q.2) (e := sumF (fun a => a.getD k 0) m) (by omega) (fun j hj => by
          have e : m[j]? = some m[j] := List.getElem?_eq_getElem hj
          have hmj := List.getElem_mem hj
          generalize m[j] = a at e hmj
          have ha := hl a hmj
          have hab := hb a hmj k
          have e2 : a[k]? = some (a.getD k 0) := by rw [List.getD_eq_getElem?_getD, List.getElem?_eq_getElem (show k < a.length by omega)]; rfl
          have sb := sumF_bd (f := fun a : List Int => a.getD k 0) (l := m.take j) fun c hc => hb c (List.mem_of_mem_take hc) k
          have hlt : (m.take j).length ≤ 1000 := by rw [List.length_take]; omega
          show lorryref06_Sum_L2 m (D : Int) (vecN k (fun d => sumF (fun a => a.getD d 0) m)) (k : Int) (sumF (fun a : List Int => a.getD k 0) (m.take j)) (j : Int) = some (Sum.inl (sumF (fun a : List Int => a.getD k 0) (m.take (j + 1)), ((j + 1 : Nat) : Int)))
          unfold lorryref06_Sum_L2
          rw [head_in e, getI_nat e2, bnd_some, incL e (by omega), addI (by omega) (by omega), sumF_take e]
          rfl) (by
          show lorryref06_Sum_L2 m (D : Int) (vecN k (fun d => sumF (fun a => a.getD d 0) m)) (k : Int) (sumF (fun a : List Int => a.getD k 0) (m.take m.length)) (m.length : Int) = _
          unfold lorryref06_Sum_L2
          rw [head_out, List.take_length])
        exact this
      have ev : vecN (k + 1) (fun d => sumF (fun a : List Int => a.getD d 0) m) = vecN k (fun d => sumF (fun a : List Int => a.getD d 0) m) ++ [sumF (fun a : List Int => a.getD k 0) m] := by simp [vecN, List.range_succ]
      rw [bnd_eq inner, chk_pos (by unfold okN; simp [vecN_len]; omega), addI (by omega) (by omega), ev]
      rfl) (by
      show lorryref06_Sum_L1 m (D : Int) (vecN D (fun d => sumF (fun a => a.getD d 0) m)) (D : Int) = _
      unfold lorryref06_Sum_L1
      rw [br_neg (by simp)])
    exact this
  rw [bnd_eq this]
theorem after_vec (hx : InstOK x) (hl : l.length ≤ 1048576) {n : Nat} (hn : n ≤ l.length) : lorryref17_after x l (n : Int) = some (vecN (dimsOf x.types) (loadK x l n), 0) := by
  obtain ⟨hd1, hd3⟩ := dims_ok hx
  have hx10 := hx.orders
  unfold lorryref17_after
  have this : loopF (fun q : List (List Int) × Int => lorryref17_after_L1 x l (n : Int) q.1 q.2) ([], 0) = some (ldN x l n x.orders.length) := by
    have := loop_for x.orders.length (fun k => (ldN x l n k, (k : Int))) (B := fun q : List (List Int) × Int => lorryref17_after_L1 x l (n : Int) q.1 q.2) (e := ldN x l n x.orders.length) (by omega) (fun i hi => by
      obtain ⟨o, eo, hmo, ho, hb, hp⟩ := ord_at hx hi
      show lorryref17_after_L1 x l (n : Int) (ldN x l n i) (i : Int) = some (Sum.inl (ldN x l n (i + 1), ((i + 1 : Nat) : Int)))
      unfold lorryref17_after_L1
      rw [head_in eo]
      have inner : loopF (fun q : Bool × Bool × Int => lorryref17_after_L2 x l (n : Int) (ldN x l n i) (i : Int) q.1 q.2.1 q.2.2) (ltI o.pick.place 0, false, 0) = some (onK x (l.take n) i, hasO l (i : Int)) := by
        have := loop_for l.length (fun k => (onK x (l.take (min k n)) i, hasO (l.take k) (i : Int), (k : Int))) (B := fun q : Bool × Bool × Int => lorryref17_after_L2 x l (n : Int) (ldN x l n i) (i : Int) q.1 q.2.1 q.2.2) (e := (onK x (l.take n) i, hasO l (i : Int))) (by omega) (fun k hk => by
          have e : l[k]? = some l[k] := List.getElem?_eq_getElem hk
          generalize l[k] = v at e
          show lorryref17_after_L2 x l (n : Int) (ldN x l n i) (i : Int) (onK x (l.take (min k n)) i) (hasO (l.take k) (i : Int)) (k : Int) = some (Sum.inl (onK x (l.take (min (k + 1) n)) i, hasO (l.take (k + 1)) (i : Int), ((k + 1 : Nat) : Int)))
          unfold lorryref17_after_L2
          have hh : hasO (l.take (k + 1)) (i : Int) = (hasO (l.take k) (i : Int) || isO (i : Int) v) := by rw [take_one e]; simp [hasO]
          rw [head_in e, incL e hl, hh]
          by_cases hv : v.order = (i : Int)
          · rw [br_neg (by simpa using hv), isO_t.2 hv, Bool.or_true]
            by_cases hkn : k < n
            · rw [br_pos (by simpa using hkn), show min (k + 1) n = k + 1 by omega, onK_snoc e, if_pos hv]
              rfl
            · rw [br_neg (by simp; omega), show min (k + 1) n = min k n by omega]
              rfl
          · have hvf : isO (i : Int) v = false := by
              rw [Bool.eq_false_iff]
              exact fun h => hv (isO_t.1 h)
            rw [br_pos (by simpa using hv), hvf, Bool.or_false]
            by_cases hkn : k < n
            · rw [show min (k + 1) n = k + 1 by omega, onK_snoc e, if_neg hv, show min k n = k by omega]
              rfl
            · rw [show min (k + 1) n = min k n by omega]
              rfl) (by
          show lorryref17_after_L2 x l (n : Int) (ldN x l n i) (i : Int) (onK x (l.take (min l.length n)) i) (hasO (l.take l.length) (i : Int)) (l.length : Int) = _
          unfold lorryref17_after_L2
          rw [head_out, List.take_length, show min l.length n = n by omega])
        have h0 : (onK x (l.take (min 0 n)) i, hasO (l.take 0) (i : Int), ((0 : Nat) : Int)) = (ltI o.pick.place 0, false, 0) := by
          rw [Nat.zero_min, List.take_zero]
          unfold onK hasO
          rw [List.foldl_nil, hp]
          congr 1
        rw [← h0]
        exact this
      rw [bnd_eq inner]
      simp only
      rw [getI_nat eo, bnd_some, ho, incL eo (by omega)]
      have hlen := ldN_len (x := x) (l := l) (n := n) i
      rw [chk_pos (by unfold okN; simp; omega), brs]
      show _ = some (Sum.inl (ldN x l n i ++ (if (onK x (l.take n) i && hasO l (i : Int)) = true then [vecN (dimsOf x.types) (loadO x i)] else []), ((i + 1 : Nat) : Int)))
      split <;> simp) (by
      show lorryref17_after_L1 x l (n : Int) (ldN x l n x.orders.length) (x.orders.length : Int) = _
      unfold lorryref17_after_L1
      rw [head_out])
    exact this
  rw [bnd_eq this, (dims0_eq hx).2, bnd_some]
  have hlen := ldN_len (x := x) (l := l) (n := n) x.orders.length
  rw [sum06_eq hd3 (by omega) (fun a ha => by obtain ⟨j, rfl⟩ := ldN_mem ha; exact vecN_len) (fun a ha d => by
    obtain ⟨j, rfl⟩ := ldN_mem ha
    rw [List.getD_eq_getElem?_getD]
    rcases Nat.lt_or_ge d (dimsOf x.types) with h | h
    · rw [vecN_get h]; exact load_all hx j d
    · rw [List.getElem?_eq_none (by rw [vecN_len]; omega)]; simp), bnd_some]
  congr 2
  exact vecN_congr fun d hd => ldN_sum hd _
theorem Loads17_eq (hx : InstOK x) (hl : r.visits.length ≤ 1048576) (h0 : seqS x r.visits = 0) : lorryref17_Loads x r = some (loadsS x r.visits (r.visits.length + 1), 0) := by
  unfold lorryref17_Loads
  rw [Check16_eq hx hl, bnd_some, h0, br_neg (by decide)]
  have this : loopF (fun q : List (List Int) × Int => lorryref17_Loads_L1 x r q.1 q.2) ([], 0) = some (.inl (loadsS x r.visits (r.visits.length + 1))) := by
    have := loop_for (r.visits.length + 1) (fun k => (loadsS x r.visits k, (k : Int))) (B := fun q : List (List Int) × Int => lorryref17_Loads_L1 x r q.1 q.2) (e := .inl (loadsS x r.visits (r.visits.length + 1))) (by omega) (fun k hk => by
      show lorryref17_Loads_L1 x r (loadsS x r.visits k) (k : Int) = some (Sum.inl (loadsS x r.visits (k + 1), ((k + 1 : Nat) : Int)))
      unfold lorryref17_Loads_L1
      rw [br_pos (by simp [lenI]; omega), after_vec hx hl (by omega), bnd_some, br_ne0, chk_pos (by unfold okN; simp [loadsS_len]; omega), addI (by omega) (by omega), loadsS_snoc]
      rfl) (by
      show lorryref17_Loads_L1 x r (loadsS x r.visits (r.visits.length + 1)) ((r.visits.length + 1 : Nat) : Int) = _
      unfold lorryref17_Loads_L1
      rw [br_neg (by simp [lenI]; omega)])
    exact this
  rw [bnd_eq this]
  rfl
def overB (cap a : List Int) : Bool := (List.range a.length).any fun i => gtI (a.getD i 0) (cap.getD i 0)
theorem fits_at {a cap : List Int} (ha : a.length = cap.length) (hl : a.length ≤ 1048576) : loads_Fits a cap = some (!overB cap a) ∧ lorryref06_Fits a cap = some (!overB cap a) := by
  have g : ∀ i, i < a.length → a[i]? = some (a.getD i 0) ∧ cap[i]? = some (cap.getD i 0) := fun i hi => by
    rw [List.getD_eq_getElem?_getD, List.getD_eq_getElem?_getD, List.getElem?_eq_getElem hi, List.getElem?_eq_getElem (show i < cap.length by omega)]
    exact ⟨rfl, rfl⟩
  have hb : overB cap a = true ↔ ∃ k, k < a.length ∧ gtI (a.getD k 0) (cap.getD k 0) = true := by
    unfold overB
    rw [List.any_eq_true]
    exact ⟨fun ⟨k, hk, h⟩ => ⟨k, List.mem_range.1 hk, h⟩, fun ⟨k, hk, h⟩ => ⟨k, List.mem_range.2 hk, h⟩⟩
  constructor
  · unfold loads_Fits
    rw [br_neg (by simp [lenI, ha]), bnd_eq (scan_c (B := fun s => loads_Fits_L1 a cap s) hl (fun k => gtI (a.getD k 0) (cap.getD k 0)) (y := (.inr false : Unit ⊕ Bool)) (N := .inl ()) hb (fun i hi => by
      show loads_Fits_L1 a cap i = _
      unfold loads_Fits_L1
      rw [head_in (g i hi).1, getI_nat (g i hi).2, bnd_some, inc hi hl, brs]) (by
      show loads_Fits_L1 a cap a.length = _
      unfold loads_Fits_L1
      rw [head_out]))]
    cases overB cap a <;> rfl
  · unfold lorryref06_Fits
    rw [br_neg (by simp [lenI, ha]), bnd_eq (scan_c (B := fun s => lorryref06_Fits_L1 a cap s) hl (fun k => gtI (a.getD k 0) (cap.getD k 0)) (y := (.inr false : Unit ⊕ Bool)) (N := .inl ()) hb (fun i hi => by
      show lorryref06_Fits_L1 a cap i = _
      unfold lorryref06_Fits_L1
      rw [head_in (g i hi).1, getI_nat (g i hi).2, bnd_some, inc hi hl, brs]) (by
      show lorryref06_Fits_L1 a cap a.length = _
      unfold lorryref06_Fits_L1
      rw [head_out]))]
    cases overB cap a <;> rfl
def fitS (x : T_api_Instance) (r : T_api_Route) : Int := if (loadsS x r.visits (r.visits.length + 1)).any (overB (typS x r).cap) = true then 17 else 0
theorem typ_at (h0 : 0 ≤ r.type_) (h1 : r.type_ < x.types.length) : getI x.types r.type_ = some (typS x r) ∧ typS x r ∈ x.types := by
  have e : x.types[r.type_.toNat]? = some (x.types[r.type_.toNat]'(by omega)) := List.getElem?_eq_getElem _
  have ht : typS x r = x.types[r.type_.toNat]'(by omega) := by unfold typS; rw [List.getD_eq_getElem?_getD, e]; rfl
  rw [ht]
  exact ⟨getI_at h0 h1, List.getElem_mem _⟩
theorem Fits_eq (hx : InstOK x) (hl : r.visits.length ≤ 1000000) (h0 : seqS x r.visits = 0) (ht : 0 ≤ r.type_ ∧ r.type_ < x.types.length) : carry_Fits x r = some (fitS x r) ∧ lorryref17_Fits x r = some (fitS x r) := by
  have h := seqS_ok h0
  obtain ⟨t1, t2⟩ := typ_at ht.1 ht.2
  have hcap := (hx.typ _ t2).cap
  have hd := dims_ok hx
  have lens : ∀ a ∈ loadsS x r.visits (r.visits.length + 1), a.length = (typS x r).cap.length := fun a ha => by
    obtain ⟨k, _, rfl⟩ := List.mem_map.1 ha
    rw [vecN_len, hcap]
  have hlen := loadsS_len (x := x) (l := r.visits) (n := r.visits.length + 1)
  constructor
  · unfold carry_Fits
    rw [br_neg (by simp [lenI]; omega), Loads_eq hx (by omega) h h0, bnd_some, br_ne0]
    have := scan_ix (B := fun s => slices_IndexFunc_____int___int__Fits_1_L1 (loadsS x r.visits (r.visits.length + 1)) x r s) (l := loadsS x r.visits (r.visits.length + 1)) (by omega) (overB (typS x r).cap) (fun k => (.inr (k : Int) : Unit ⊕ Int)) (N := .inl ()) (fun i a h => by
      have hm := lens a (List.mem_of_getElem? h)
      show slices_IndexFunc_____int___int__Fits_1_L1 (loadsS x r.visits (r.visits.length + 1)) x r i = _
      unfold slices_IndexFunc_____int___int__Fits_1_L1 carry_Fits_1
      rw [head_in h, t1, bnd_some, (fits_at hm (by omega)).1, bnd_some, bnd_some, incL h (by omega), Bool.not_not, brs]) (by
      show slices_IndexFunc_____int___int__Fits_1_L1 (loadsS x r.visits (r.visits.length + 1)) x r (loadsS x r.visits (r.visits.length + 1)).length = _
      unfold slices_IndexFunc_____int___int__Fits_1_L1
      rw [head_out])
    have e : slices_IndexFunc_____int___int__Fits_1 (loadsS x r.visits (r.visits.length + 1)) x r = some (ixI (overB (typS x r).cap) (loadsS x r.visits (r.visits.length + 1))) := by
      unfold slices_IndexFunc_____int___int__Fits_1
      rw [bnd_eq this]
      unfold ixI
      cases ixP (overB (typS x r).cap) (loadsS x r.visits (r.visits.length + 1)) <;> rfl
    unfold slices_ContainsFunc_____int___int__Fits_1
    simp only
    rw [e, bnd_some, bnd_some, geI_ixI, brs]
    rfl
  · unfold lorryref17_Fits
    rw [br_neg (by simp [lenI]; omega), Loads17_eq hx (by omega) h0, bnd_some, br_ne0]
    rw [bnd_eq (scan_any (B := fun s => lorryref17_Fits_L1 x r (loadsS x r.visits (r.visits.length + 1), 0) s) (l := loadsS x r.visits (r.visits.length + 1)) (by omega) (overB (typS x r).cap) (y := (.inr 17 : Unit ⊕ Int)) (N := .inl ()) (fun i a h => by
      have hm := lens a (List.mem_of_getElem? h)
      show lorryref17_Fits_L1 x r (loadsS x r.visits (r.visits.length + 1), 0) i = _
      unfold lorryref17_Fits_L1
      rw [head_in h, t1, bnd_some, (fits_at hm (by omega)).2, bnd_some, incL h (by omega)]
      cases overB (typS x r).cap a <;> rfl) (by
      show lorryref17_Fits_L1 x r (loadsS x r.visits (r.visits.length + 1), 0) (loadsS x r.visits (r.visits.length + 1)).length = _
      unfold lorryref17_Fits_L1
      rw [head_out]))]
    unfold fitS
    split <;> rfl
end
end Go.Proofs.YtfldlilicmbmkaaGreatDoor
namespace Go.Proofs.YtfldlilicmbmkaaGreatDoor
set_option linter.unusedSimpArgs false
set_option linter.unusedVariables false
set_option linter.unusedSectionVars false
theorem mGet_put {m : List (Int × Int)} {k k' v z : Int} : mGet eqI (mPut eqI m k v) k' z = if k' = k then v else mGet eqI m k' z := by
  induction m with
  | nil =>
    unfold mPut mGet mGet
    by_cases h : k' = k
    · rw [if_pos h, show eqI k' k = true by simpa using h]; rfl
    · rw [if_neg h, show eqI k' k = false by simpa using h]; rfl
  | cons p r ih =>
    unfold mPut
    cases hp : eqI k p.1 with
    | true =>
      have hp' : k = p.1 := by simpa using hp
      simp only [cond_true]
      unfold mGet
      by_cases h : k' = k
      · rw [if_pos h, show eqI k' k = true by simpa using h]; rfl
      · rw [if_neg h, show eqI k' k = false by simpa using h, show eqI k' p.1 = false by rw [← hp']; simpa using h]; rfl
    | false =>
      have hp' : k ≠ p.1 := by simpa using hp
      simp only [cond_false]
      unfold mGet
      rw [ih]
      by_cases h : k' = k
      · rw [if_pos h, show eqI k' p.1 = false by rw [h]; exact hp, if_pos h]; rfl
      · rw [if_neg h, if_neg h]
section
variable {x : T_api_Instance} {l : List T_api_Visit} {r : T_api_Route} {s0 : T_api_Sheet}
def cntV (l : List T_api_Visit) (o : Int) : Int := sumF (fun v : T_api_Visit => if v.order = o then 1 else 0) l
theorem cntV_bd {o : Int} : 0 ≤ cntV l o ∧ cntV l o ≤ l.length ∧ (0 < cntV l o ↔ hasO l o = true) := by
  induction l with
  | nil => simp [cntV, sumF, hasO]
  | cons v l ih =>
    have e : cntV (v :: l) o = (if v.order = o then 1 else 0) + cntV l o := by simp [cntV, sumF]
    have e2 : hasO (v :: l) o = (isO o v || hasO l o) := by simp [hasO]
    rw [e, e2, List.length_cons, Bool.or_eq_true, isO_t]
    split
    · rename_i h
      refine ⟨by omega, by omega, fun _ => .inl h, fun _ => by omega⟩
    · rename_i h
      refine ⟨by omega, by omega, fun h' => .inr (ih.2.2.1 (by omega)), fun h' => ?_⟩
      rcases h' with h' | h'
      · exact absurd h' h
      · have := ih.2.2.2 h'; omega
def mapK (l : List T_api_Visit) : List (Int × Int) := l.foldl (fun m v => mPut eqI m v.order (addK .i64 (mGet eqI m v.order 0) 1)) []
theorem mapK_snoc {v : T_api_Visit} : mapK (l ++ [v]) = mPut eqI (mapK l) v.order (addK .i64 (mGet eqI (mapK l) v.order 0) 1) := by simp [mapK]
theorem mapK_get {l : List T_api_Visit} (hl : l.length ≤ 1048576) (o : Int) : mGet eqI (mapK l) o 0 = cntV l o := by
  have main : ∀ k, k ≤ l.length → mGet eqI (mapK (l.take k)) o 0 = cntV (l.take k) o := by
    intro k hk
    induction k generalizing o with
    | zero => rfl
    | succ k ih =>
      have e : l[k]? = some l[k] := List.getElem?_eq_getElem (by omega)
      generalize l[k] = v at e
      rw [take_one e, mapK_snoc, mGet_put]
      have e2 : cntV (l.take k ++ [v]) o = cntV (l.take k) o + (if v.order = o then 1 else 0) := by unfold cntV; rw [sumF_app, sumF_one]
      have hb := (cntV_bd (l := l.take k) (o := v.order)).2.1
      have hb0 := (cntV_bd (l := l.take k) (o := v.order)).1
      have hlen : (l.take k).length ≤ k := by rw [List.length_take]; omega
      rw [e2, ih v.order (by omega), ih o (by omega), addI (by omega) (by omega)]
      by_cases h : o = v.order
      · rw [if_pos h, if_pos h.symm, h]
      · rw [if_neg h, if_neg fun h' => h h'.symm]; omega
  have := main l.length (Nat.le_refl _)
  rwa [List.take_length] at this
def forB (kind own : Int) : Bool := neI kind (-1) && neI kind own
def bit1 (b : Bool) : Int := if b = true then 1 else 0
/-- What a route moves, and what it gives to another type than last time. -/
def pairK (x : T_api_Instance) (r : T_api_Route) : Nat → Int × Int
  | 0 => (0, 0)
  | k + 1 => match r.visits[k]? with
    | none => pairK x r k
    | some v => match (if 0 ≤ v.order then x.orders[v.order.toNat]? else none) with
      | none => pairK x r k
      | some o => if hasO (r.visits.take k) v.order = true then pairK x r k else ((pairK x r k).1 + bit1 (forB o.now r.type_), (pairK x r k).2 + bit1 (forB o.last_ r.type_))
theorem bit1_bd {b : Bool} : 0 ≤ bit1 b ∧ bit1 b ≤ 1 := by cases b <;> simp [bit1]
theorem pairK_bd : ∀ k, (0 ≤ (pairK x r k).1 ∧ (pairK x r k).1 ≤ k) ∧ (0 ≤ (pairK x r k).2 ∧ (pairK x r k).2 ≤ k)
  | 0 => by simp [pairK]
  | k + 1 => by
    have ih := pairK_bd k
    unfold pairK
    split
    · omega
    · split
      · omega
      · rename_i o _
        have h1 := bit1_bd (b := forB o.now r.type_)
        have h2 := bit1_bd (b := forB o.last_ r.type_)
        split
        · omega
        · simp only; omega
/-- Each order counts but once. -/
theorem pairK_few (hx : InstOK x) : ∀ k, k ≤ r.visits.length → (pairK x r k).1 ≤ sumN x.orders.length (fun i => bit1 (hasO (r.visits.take k) (i : Int))) ∧ (pairK x r k).2 ≤ sumN x.orders.length (fun i => bit1 (hasO (r.visits.take k) (i : Int)))
  | 0, _ => by
    have := (sumN_bd (f := fun i => bit1 (hasO (r.visits.take 0) (i : Int))) (c := 1) (by omega) x.orders.length fun i => bit1_bd).1
    simp only [pairK]
    omega
  | k + 1, hk => by
    have ih := pairK_few hx k (by omega)
    have e : r.visits[k]? = some r.visits[k] := List.getElem?_eq_getElem (by omega)
    generalize r.visits[k] = v at e
    have hh : ∀ i : Nat, hasO (r.visits.take (k + 1)) (i : Int) = (hasO (r.visits.take k) (i : Int) || isO (i : Int) v) := fun i => by rw [take_one e]; simp [hasO]
    have mono : sumN x.orders.length (fun i => bit1 (hasO (r.visits.take k) (i : Int))) ≤ sumN x.orders.length (fun i => bit1 (hasO (r.visits.take (k + 1)) (i : Int))) := by
      generalize x.orders.length = n
      induction n with
      | zero => exact Int.le_refl _
      | succ n ihn =>
        show sumN n (fun i => bit1 (hasO (r.visits.take k) (i : Int))) + bit1 (hasO (r.visits.take k) (n : Int)) ≤ sumN n (fun i => bit1 (hasO (r.visits.take (k + 1)) (i : Int))) + bit1 (hasO (r.visits.take (k + 1)) (n : Int))
        have := hh n
        have h2 : bit1 (hasO (r.visits.take k) (n : Int)) ≤ bit1 (hasO (r.visits.take (k + 1)) (n : Int)) := by
          rw [this]
          cases hasO (r.visits.take k) (n : Int) <;> cases isO (n : Int) v <;> simp [bit1]
        omega
    unfold pairK
    rw [e]
    simp only
    split
    · omega
    · rename_i o ho
      split at ho
      · rename_i h0
        have hlt := (List.getElem?_eq_some_iff.1 ho).1
        have h1 := bit1_bd (b := forB o.now r.type_)
        have h2 := bit1_bd (b := forB o.last_ r.type_)
        split
        · omega
        · rename_i hn
          obtain ⟨i, hi⟩ : ∃ i : Nat, v.order = i := ⟨v.order.toNat, by omega⟩
          rw [hi] at hn hlt
          have up := sumN_upd (f := fun i => bit1 (hasO (r.visits.take k) (i : Int))) (g := fun i => bit1 (hasO (r.visits.take (k + 1)) (i : Int))) (o := i) x.orders.length (by omega) (fun j hj => by
            have hjf : isO (j : Int) v = false := by
              rw [Bool.eq_false_iff]
              intro h
              have := isO_t.1 h
              omega
            show bit1 (hasO (r.visits.take (k + 1)) (j : Int)) = bit1 (hasO (r.visits.take k) (j : Int))
            rw [hh, hjf, Bool.or_false])
          rw [up]
          have e1 : bit1 (hasO (r.visits.take (k + 1)) (i : Int)) = 1 := by rw [hh, isO_t.2 hi, Bool.or_true]; rfl
          have e2 : bit1 (hasO (r.visits.take k) (i : Int)) = 0 := by rw [Bool.eq_false_iff.2 hn]; rfl
          rw [e1, e2]
          omega
      · cases ho
/-- The price of a route, in its four parts. -/
def scoS (x : T_api_Instance) (r : T_api_Route) (s0 : T_api_Sheet) : T_api_Score :=
  T_api_Score.mk (addK .i64 (addK .i64 (typS x r).fixed (mulK .i64 (typS x r).perMile s0.miles)) (mulK .i64 (typS x r).perTick (subK .i64 s0.end_ (typS x r).open_))) (pairK x r r.visits.length).1 (pairK x r r.visits.length).2 (mulK .i64 (quoK .i64 (subK .i64 s0.end_ (typS x r).open_) 64) (quoK .i64 (subK .i64 s0.end_ (typS x r).open_) 64))
theorem Route_eq (hx : InstOK x) (hl : r.visits.length ≤ 1048576) (ht : 0 ≤ r.type_ ∧ r.type_ < x.types.length) : price_Route x r s0 = some (scoS x r s0) := by
  obtain ⟨t1, t2⟩ := typ_at ht.1 ht.2
  have h10 := hx.orders
  unfold price_Route
  rw [br_neg (by simp [lenI]; omega), t1, bnd_some]
  have this : loopF (fun q : List (Int × Int) × Int × Int × Int => price_Route_L1 x r s0 (typS x r) q.1 q.2.1 q.2.2.1 q.2.2.2) ([], 0, 0, 0) = some (pairK x r r.visits.length) := by
    have := loop_for r.visits.length (fun k => (mapK (r.visits.take k), (pairK x r k).1, (pairK x r k).2, (k : Int))) (B := fun q : List (Int × Int) × Int × Int × Int => price_Route_L1 x r s0 (typS x r) q.1 q.2.1 q.2.2.1 q.2.2.2) (e := pairK x r r.visits.length) (by omega) (fun k hk => by
      have e : r.visits[k]? = some r.visits[k] := List.getElem?_eq_getElem hk
      generalize r.visits[k] = v at e
      show price_Route_L1 x r s0 (typS x r) (mapK (r.visits.take k)) (pairK x r k).1 (pairK x r k).2 (k : Int) = some (Sum.inl (mapK (r.visits.take (k + 1)), (pairK x r (k + 1)).1, (pairK x r (k + 1)).2, ((k + 1 : Nat) : Int)))
      unfold price_Route_L1 price_Route_J1 price_foreign
      rw [head_in e, ← mapK_snoc, ← take_one e, incL e hl]
      have hlen : (r.visits.take k).length ≤ 1048576 := by rw [List.length_take]; omega
      have hlen1 : (r.visits.take (k + 1)).length ≤ 1048576 := by rw [List.length_take]; omega
      have hp := pairK_bd (x := x) (r := r) k
      have hg : gtI (mGet eqI (mapK (r.visits.take (k + 1))) v.order 0) 1 = hasO (r.visits.take k) v.order := by
        rw [mapK_get hlen1, take_one e]
        have e2 : cntV (r.visits.take k ++ [v]) v.order = cntV (r.visits.take k) v.order + 1 := by unfold cntV; rw [sumF_app, sumF_one, if_pos rfl]
        have := (cntV_bd (l := r.visits.take k) (o := v.order)).2.2
        rw [e2, Bool.eq_iff_iff, gtI_t, ← this]
        omega
      rw [hg]
      show _ = some (Sum.inl (mapK (r.visits.take (k + 1)), (pairK x r (k + 1)).1, (pairK x r (k + 1)).2, (k : Int) + 1))
      have hP : pairK x r (k + 1) = match (if 0 ≤ v.order then x.orders[v.order.toNat]? else none) with
        | none => pairK x r k
        | some o => if hasO (r.visits.take k) v.order = true then pairK x r k else ((pairK x r k).1 + bit1 (forB o.now r.type_), (pairK x r k).2 + bit1 (forB o.last_ r.type_)) := by
        show (match r.visits[k]? with
          | none => pairK x r k
          | some v => match (if 0 ≤ v.order then x.orders[v.order.toNat]? else none) with
            | none => pairK x r k
            | some o => if hasO (r.visits.take k) v.order = true then pairK x r k else ((pairK x r k).1 + bit1 (forB o.now r.type_), (pairK x r k).2 + bit1 (forB o.last_ r.type_))) = _
        rw [e]
      rw [hP]
      by_cases hin : 0 ≤ v.order ∧ v.order < x.orders.length
      · rw [br_neg (by simp [lenI]; omega), if_pos hin.1]
        have eo : x.orders[v.order.toNat]? = some (x.orders[v.order.toNat]'(by omega)) := List.getElem?_eq_getElem _
        generalize x.orders[v.order.toNat]'(by omega) = o at eo
        have eg : getI x.orders v.order = some o := by unfold getI; rw [if_pos hin.1, eo]
        rw [eo, eg]
        simp only [bnd_some]
        cases hasO (r.visits.take k) v.order with
        | true => rfl
        | false =>
          rw [br_false, if_neg (by decide), show (neI o.now (-1) && neI o.now r.type_) = forB o.now r.type_ from rfl, show (neI o.last_ (-1) && neI o.last_ r.type_) = forB o.last_ r.type_ from rfl, addI (by omega) (by omega), addI (by omega) (by omega)]
          generalize pairK x r k = p
          cases forB o.now r.type_ <;> cases forB o.last_ r.type_ <;> simp [bit1]
      · rw [br_pos (by simp [lenI]; omega)]
        have : (if 0 ≤ v.order then x.orders[v.order.toNat]? else none) = none := by
          split
          · exact List.getElem?_eq_none (by omega)
          · rfl
        rw [this]) (by
      show price_Route_L1 x r s0 (typS x r) (mapK (r.visits.take r.visits.length)) (pairK x r r.visits.length).1 (pairK x r r.visits.length).2 (r.visits.length : Int) = _
      unfold price_Route_L1
      rw [head_out])
    exact this
  rw [bnd_eq this]
  rfl
theorem begins_eq (hl : l.length ≤ 1048576) {k : Nat} {v : T_api_Visit} (e : l[k]? = some v) : lorryref20_begins l (k : Int) = some (!hasO (l.take k) v.order) := by
  have hk := (List.getElem?_eq_some_iff.1 e).1
  have := scan_c (B := fun q => lorryref20_begins_L1 l (k : Int) q) (n := k) (by omega) (fun j => match l[j]? with | some w => eqI w.order v.order | none => false) (y := (.inr false : Unit ⊕ Bool)) (N := .inl ()) (b := hasO (l.take k) v.order) (by
    rw [hasO_t]
    constructor
    · rintro ⟨w, hw, he⟩
      obtain ⟨j, hj, hje⟩ := (take_mem (by omega)).1 hw
      exact ⟨j, hj, by rw [hje]; simpa using he⟩
    · rintro ⟨j, hj, h⟩
      rw [List.getElem?_eq_getElem (show j < l.length by omega)] at h
      exact ⟨_, (take_mem (by omega)).2 ⟨j, hj, List.getElem?_eq_getElem (by omega)⟩, by simpa using h⟩) (fun j hj => by
    have ej : l[j]? = some (l[j]'(by omega)) := List.getElem?_eq_getElem _
    show lorryref20_begins_L1 l (k : Int) j = _
    unfold lorryref20_begins_L1
    rw [br_pos (by simp; omega), getI_nat ej, bnd_some, getI_nat e, bnd_some, incL ej hl, brs, ej]) (by
    show lorryref20_begins_L1 l (k : Int) k = _
    unfold lorryref20_begins_L1
    rw [br_neg (by simp)])
  unfold lorryref20_begins
  rw [bnd_eq this]
  cases hasO (l.take k) v.order <;> rfl
theorem Route20_eq (hx : InstOK x) (hl : r.visits.length ≤ 1048576) (ht : 0 ≤ r.type_ ∧ r.type_ < x.types.length) : lorryref20_Route x r s0 = some (scoS x r s0) := by
  obtain ⟨t1, t2⟩ := typ_at ht.1 ht.2
  have h10 := hx.orders
  unfold lorryref20_Route
  rw [br_neg (by simp [lenI]; omega), t1, bnd_some]
  have this : loopF (fun q : Int × Int × Int => lorryref20_Route_L1 x r s0 (typS x r) q.1 q.2.1 q.2.2) (0, 0, 0) = some (pairK x r r.visits.length) := by
    have := loop_for r.visits.length (fun k => ((pairK x r k).1, (pairK x r k).2, (k : Int))) (B := fun q : Int × Int × Int => lorryref20_Route_L1 x r s0 (typS x r) q.1 q.2.1 q.2.2) (e := pairK x r r.visits.length) (by omega) (fun k hk => by
      have e : r.visits[k]? = some r.visits[k] := List.getElem?_eq_getElem hk
      generalize r.visits[k] = v at e
      show lorryref20_Route_L1 x r s0 (typS x r) (pairK x r k).1 (pairK x r k).2 (k : Int) = some (Sum.inl ((pairK x r (k + 1)).1, (pairK x r (k + 1)).2, ((k + 1 : Nat) : Int)))
      unfold lorryref20_Route_L1 lorryref20_Route_J1
      rw [head_in e, incL e hl, begins_eq hl e]
      have hp := pairK_bd (x := x) (r := r) k
      show _ = some (Sum.inl ((pairK x r (k + 1)).1, (pairK x r (k + 1)).2, (k : Int) + 1))
      have hP : pairK x r (k + 1) = match (if 0 ≤ v.order then x.orders[v.order.toNat]? else none) with
        | none => pairK x r k
        | some o => if hasO (r.visits.take k) v.order = true then pairK x r k else ((pairK x r k).1 + bit1 (forB o.now r.type_), (pairK x r k).2 + bit1 (forB o.last_ r.type_)) := by
        show (match r.visits[k]? with
          | none => pairK x r k
          | some v => match (if 0 ≤ v.order then x.orders[v.order.toNat]? else none) with
            | none => pairK x r k
            | some o => if hasO (r.visits.take k) v.order = true then pairK x r k else ((pairK x r k).1 + bit1 (forB o.now r.type_), (pairK x r k).2 + bit1 (forB o.last_ r.type_))) = _
        rw [e]
      rw [hP]
      by_cases hin : 0 ≤ v.order ∧ v.order < x.orders.length
      · rw [br_neg (by simp [lenI]; omega), if_pos hin.1]
        have eo : x.orders[v.order.toNat]? = some (x.orders[v.order.toNat]'(by omega)) := List.getElem?_eq_getElem _
        generalize x.orders[v.order.toNat]'(by omega) = o at eo
        have eg : getI x.orders v.order = some o := by unfold getI; rw [if_pos hin.1, eo]
        rw [eo, eg]
        simp only [bnd_some]
        cases hasO (r.visits.take k) v.order with
        | true => rfl
        | false =>
          rw [Bool.not_false, br_true, if_neg (by decide), addI (by omega) (by omega), addI (by omega) (by omega)]
          generalize pairK x r k = p
          unfold forB
          cases neI o.now (-1) <;> cases neI o.now r.type_ <;> cases neI o.last_ (-1) <;> cases neI o.last_ r.type_ <;> simp [bit1]
      · rw [br_pos (by simp [lenI]; omega)]
        have : (if 0 ≤ v.order then x.orders[v.order.toNat]? else none) = none := by
          split
          · exact List.getElem?_eq_none (by omega)
          · rfl
        rw [this]) (by
      show lorryref20_Route_L1 x r s0 (typS x r) (pairK x r r.visits.length).1 (pairK x r r.visits.length).2 (r.visits.length : Int) = _
      unfold lorryref20_Route_L1
      rw [head_out])
    exact this
  rw [bnd_eq this]
  rfl
end
end Go.Proofs.YtfldlilicmbmkaaGreatDoor
namespace Go.Proofs.YtfldlilicmbmkaaGreatDoor
set_option linter.unusedSimpArgs false
set_option linter.unusedVariables false
set_option linter.unusedSectionVars false
theorem nodup_le : ∀ (n : Nat) (l : List Nat), l.Nodup → (∀ a ∈ l, a < n) → l.length ≤ n
  | 0, l, _, h => by
    cases l with
    | nil => simp
    | cons a r => exact absurd (h a (by simp)) (by omega)
  | n + 1, l, hd, h => by
    by_cases hm : n ∈ l
    · have h1 := nodup_le n (l.erase n) (hd.erase n) fun a ha => by
        have h2 := (hd.mem_erase_iff).1 ha
        have := h a h2.2
        omega
      rw [List.length_erase_of_mem hm] at h1
      omega
    · have := nodup_le n l hd fun a ha => by
        have := h a ha
        have : a ≠ n := fun e => hm (e ▸ ha)
        omega
      omega
section
variable {x : T_api_Instance} {l : List T_api_Visit} {r : T_api_Route}
theorem SeqOK.short (hx : InstOK x) (h : SeqOK x l) : l.length ≤ 20 := by
  have h10 := hx.orders
  have hm : (l.map fun v : T_api_Visit => 2 * v.order.toNat + (if v.drop = true then 1 else 0)).Nodup := by
    unfold List.Nodup
    rw [List.pairwise_map]
    refine h.nodup.imp_of_mem fun {a b} ha hb hne he => hne ?_
    have h1 := inO_of h.inn ha
    have h2 := inO_of h.inn hb
    cases a with
    | mk ao ad =>
      cases b with
      | mk bo bd =>
        simp only at h1 h2 he
        have hd : ad = bd ∧ ao = bo := by
          cases ad <;> cases bd <;> simp at he ⊢ <;> omega
        rw [hd.1, hd.2]
  have := nodup_le 20 _ hm fun a ha => by
    obtain ⟨v, hv, rfl⟩ := List.mem_map.1 ha
    have h1 := inO_of h.inn hv
    split <;> omega
  simpa using this
/-- May the type do all that the route asks? -/
noncomputable def ableB (t : T_api_Type) (skills : Int) : Bool := (fleet_Able t skills).getD false
noncomputable def skillV (x : T_api_Instance) (r : T_api_Route) (v : T_api_Visit) : Bool := match x.orders[v.order.toNat]? with
  | some o => ableB (typS x r) o.skills
  | none => false
theorem able_at (hx : InstOK x) (ht : 0 ≤ r.type_ ∧ r.type_ < x.types.length) {v : T_api_Visit} (hv : 0 ≤ v.order ∧ v.order < x.orders.length) : ∃ o, getI x.orders v.order = some o ∧ fleet_Able (typS x r) o.skills = some (skillV x r v) ∧ lorryref10_Able (typS x r) o.skills = some (skillV x r v) ∧ x.orders[v.order.toNat]? = some o := by
  obtain ⟨o, g1, g2, _, g4⟩ := offV_at (x := x) hv.1 hv.2
  obtain ⟨b, b1, b2⟩ := able10 (t := typS x r) (hx.typ _ (typ_at ht.1 ht.2).2).skills (hx.ord o g2).skills
  have : skillV x r v = b := by unfold skillV ableB; rw [g4]; simp only; rw [b1]; rfl
  exact ⟨o, g1, by rw [this, b1], by rw [this, b2], g4⟩
def zScore : T_api_Score := T_api_Score.mk 0 0 0 0
/-- The best schedule, of the program and of the reference. -/
theorem best_same (hx : InstOK x) (hR : RouteI r) (h9 : ¬ (9 < r.visits.length ∧ r.visits.length ≤ 20)) :
    ∃ A, drive_Best x r = some A ∧ lorryref18_Best x r = some A ∧ A.1.times.length ≤ 1048576 ∧ (A.2 ≠ 0 → A.1 = zSheet) ∧
      (A.2 = 0 → (possS x r = true ∧ r.rests.length ≤ r.visits.length + 1) ∧ ∃ b, fullB x.net (typS x r) (stopsOf x r) r.start r.rests b ∧ minB x.net (typS x r) (stopsOf x r) r.start r.rests b ∧ A.1 = (lbB x.net (typS x r) (stopsOf x r) r.start b).sheet) := by
  obtain ⟨A, hA, pA⟩ := best_post hx hR h9
  obtain ⟨B, hB, pB⟩ := ref_best_post hx hR h9
  have hv := hR.visits
  have hr := hR.rests
  have key : A = B ∧ A.1.times.length ≤ 1048576 ∧ (A.2 ≠ 0 → A.1 = zSheet) ∧ (A.2 = 0 → (possS x r = true ∧ r.rests.length ≤ r.visits.length + 1) ∧ ∃ b, fullB x.net (typS x r) (stopsOf x r) r.start r.rests b ∧ minB x.net (typS x r) (stopsOf x r) r.start r.rests b ∧ A.1 = (lbB x.net (typS x r) (stopsOf x r) r.start b).sheet) := by
    rcases pA with ⟨a1, a2⟩ | ⟨a1, a2⟩
    · rcases pB with ⟨_, b2⟩ | ⟨b1, _⟩
      · rw [a2, b2]; exact ⟨rfl, Nat.zero_le _, fun _ => rfl, fun h => by cases h⟩
      · exact absurd b1 a1
    · rcases pB with ⟨b1, _⟩ | ⟨_, b2⟩
      · exact absurd a1 b1
      · rcases a2 with ⟨a, fa, ma, ea⟩ | ⟨na, ea⟩
        · rcases b2 with ⟨b, fb, mb, eb⟩ | ⟨nb, eb⟩
          · have hab := minB_one fa fb ma mb
            rw [ea, eb, hab]
            refine ⟨rfl, ?_, fun h => absurd rfl h, fun _ => ⟨a1, b, fb, mb, rfl⟩⟩
            have h1 := lb_times (n := x.net) (t := typS x r) (stops := stopsOf x r) (start := r.start) (b := b)
            have h2 := fb.1
            rw [stops_len] at h2
            have := (of_decide_eq_true (poss_pre a1.1)).2.2.2.2
            show (lbB x.net (typS x r) (stopsOf x r) r.start b).sheet.times.length ≤ _
            omega
          · exact absurd fa (nb a)
        · rcases b2 with ⟨b, fb, mb, eb⟩ | ⟨nb, eb⟩
          · exact absurd fb (na b)
          · rw [ea, eb]
            have hno : ¬ okB x.net (typS x r) (stopsOf x r) r.start (r.rests ++ List.replicate (r.visits.length + 1 - r.rests.length) false) := fun hok => by
              refine na _ ⟨?_, ?_, hok⟩
              · rw [stops_len, List.length_append, List.length_replicate]; omega
              · rw [← bitsB_zero]; exact fol_bits
            obtain ⟨n1, n2⟩ := runS_no hno
            refine ⟨rfl, ?_, fun _ => by rw [n2], fun h => absurd h n1⟩
            rw [n2]; exact Nat.zero_le _
  exact ⟨A, hA, by rw [key.1]; exact hB, key.2.1, key.2.2.1, key.2.2.2⟩
/-- What a route that holds is. -/
structure EvOK (x : T_api_Instance) (r : T_api_Route) (s : T_api_Sheet) (b : List Bool) : Prop where
  type_ : 0 ≤ r.type_ ∧ r.type_ < x.types.length
  seq : seqS x r.visits = 0
  able : ∀ v ∈ r.visits, skillV x r v = true
  fits : fitS x r = 0
  poss : possS x r = true
  rests : r.rests.length ≤ r.visits.length + 1
  full : fullB x.net (typS x r) (stopsOf x r) r.start r.rests b
  min : minB x.net (typS x r) (stopsOf x r) r.start r.rests b
  sheet : s = (lbB x.net (typS x r) (stopsOf x r) r.start b).sheet
theorem ev_same (hx : InstOK x) (hR : RouteI r) (h9 : ¬ (9 < r.visits.length ∧ r.visits.length ≤ 20)) :
    ∃ E, route_Evaluate x r = some E ∧ lorryref21_Evaluate x r = some E ∧ E.1.times.length ≤ 1048576 ∧ (E.2.2 ≠ 0 → E.1 = zSheet ∧ E.2.1 = zScore) ∧ (E.2.2 = 0 → E.2.1 = scoS x r E.1 ∧ ∃ b, EvOK x r E.1 b) := by
  have hv := hR.visits
  unfold route_Evaluate lorryref21_Evaluate
  by_cases ht : 0 ≤ r.type_ ∧ r.type_ < x.types.length
  · rw [br_neg (by simp [lenI]; omega), br_neg (by simp [lenI]; omega), Check_eq hx hv, bnd_some, Check16_eq hx hv, bnd_some]
    by_cases hs : seqS x r.visits = 0
    · have hq := seqS_ok hs
      have h20 := hq.short hx
      rw [br_neg (by simpa using hs), br_neg (by simpa using hs)]
      have a1 : route_able x r = some (if r.visits.any (fun v => !skillV x r v) = true then 18 else 0) := by
        unfold route_able
        rw [bnd_eq (scan_any (B := fun s => route_able_L1 x r s) hv (fun v => !skillV x r v) (y := (.inr 18 : Unit ⊕ Int)) (N := .inl ()) (fun i a h => by
          obtain ⟨o, g1, g2, g3, _⟩ := able_at (r := r) hx ht (inO_of hq.inn (List.mem_of_getElem? h))
          show route_able_L1 x r i = _
          unfold route_able_L1
          rw [head_in h, (typ_at ht.1 ht.2).1, bnd_some, g1, bnd_some, g2, bnd_some, incL h hv]
          cases skillV x r a <;> rfl) (by
          show route_able_L1 x r r.visits.length = _
          unfold route_able_L1
          rw [head_out]))]
        split <;> rfl
      have a2 : loopF (fun s => lorryref21_Evaluate_L1 x r s) 0 = some (if r.visits.any (fun v => !skillV x r v) = true then .inr (zSheet, zScore, 18) else .inl ()) :=
        scan_any (B := fun s => lorryref21_Evaluate_L1 x r s) hv (fun v => !skillV x r v) (y := (.inr (zSheet, zScore, 18) : Unit ⊕ (T_api_Sheet × T_api_Score × Int))) (N := .inl ()) (fun i a h => by
          obtain ⟨o, g1, g2, g3, _⟩ := able_at (r := r) hx ht (inO_of hq.inn (List.mem_of_getElem? h))
          show lorryref21_Evaluate_L1 x r i = _
          unfold lorryref21_Evaluate_L1
          have hlt := (List.getElem?_eq_some_iff.1 h).1
          rw [br_pos (by simp [lenI]; omega), (typ_at ht.1 ht.2).1, bnd_some, getI_nat h, bnd_some, g1, bnd_some, g3, bnd_some, incL h hv]
          cases skillV x r a <;> rfl) (by
          show lorryref21_Evaluate_L1 x r r.visits.length = _
          unfold lorryref21_Evaluate_L1
          rw [br_neg (by simp [lenI])])
      rw [a1, bnd_some, a2, bnd_some]
      by_cases hab : r.visits.any (fun v => !skillV x r v) = true
      · rw [if_pos hab, if_pos hab, br_pos (by decide), sel_inr]
        exact ⟨_, rfl, rfl, Nat.zero_le _, fun _ => ⟨rfl, rfl⟩, fun h => by cases h⟩
      · rw [if_neg hab, if_neg hab, br_neg (by decide), sel_inl]
        obtain ⟨f1, f2⟩ := Fits_eq (r := r) hx (by omega) hs ht
        rw [f1, bnd_some, f2, bnd_some]
        by_cases hf : fitS x r = 0
        · rw [br_neg (by simpa using hf), br_neg (by simpa using hf)]
          obtain ⟨A, hA, hB, ht', hz, hfull⟩ := best_same hx hR h9
          rw [hA, bnd_some, hB, bnd_some]
          by_cases hA2 : A.2 = 0
          · rw [br_neg (by simpa using hA2), br_neg (by simpa using hA2), Route_eq hx hv ht, bnd_some, Route20_eq hx hv ht, bnd_some]
            obtain ⟨⟨p1, p2⟩, b, fb, mb, eb⟩ := hfull hA2
            refine ⟨_, rfl, rfl, ht', fun h => absurd rfl h, fun _ => ⟨rfl, b, ht, hs, fun v hv' => ?_, hf, p1, p2, fb, mb, eb⟩⟩
            have := List.any_eq_false.1 (by simpa using hab : r.visits.any (fun v => !skillV x r v) = false) v hv'
            simpa using this
          · rw [br_pos (by simpa using hA2), br_pos (by simpa using hA2)]
            exact ⟨_, rfl, rfl, Nat.zero_le _, fun _ => ⟨rfl, rfl⟩, fun h => absurd h hA2⟩
        · rw [br_pos (by simpa using hf), br_pos (by simpa using hf)]
          exact ⟨_, rfl, rfl, Nat.zero_le _, fun _ => ⟨rfl, rfl⟩, fun h => absurd h hf⟩
    · rw [br_pos (by simpa using hs), br_pos (by simpa using hs)]
      exact ⟨_, rfl, rfl, Nat.zero_le _, fun _ => ⟨rfl, rfl⟩, fun h => absurd h hs⟩
  · rw [br_pos (by simp [lenI]; omega), br_pos (by simp [lenI]; omega)]
    exact ⟨_, rfl, rfl, Nat.zero_le _, fun _ => ⟨rfl, rfl⟩, fun h => by cases h⟩
theorem examples21_ok : lorrylaw21_examples = some true := by kernel_rfl
theorem right21 (hI : InstI x) : post (lorrylaw21_right x r) fun ok => ok = true → InstOK x ∧ ¬ (9 < r.visits.length ∧ r.visits.length ≤ 20) := by
  unfold lorrylaw21_right
  refine post_bnd (check13_post hI) fun l hl => post_some.2 fun h => ?_
  simp only [Bool.and_eq_true, Bool.or_eq_true, eqI_t, leI_t, gtI_t, lenI] at h
  exact ⟨hl (List.length_eq_zero_iff.1 (by omega)), by omega⟩
theorem score_same (s : T_api_Score) : (eqI s.cost s.cost && (eqI s.moved s.moved && (eqI s.other s.other && (eqI s.work s.work && true)))) = true := by simp
end
end Go.Proofs.YtfldlilicmbmkaaGreatDoor
namespace Go.Proofs.YtfldlilicmbmkaaGreatDoor
set_option linter.unusedSimpArgs false
set_option linter.unusedVariables false
set_option linter.unusedSectionVars false
section
variable {n : T_api_Network} {t : T_api_Type} {stops : List T_api_Stop} {start : Int}
theorem runK_ge (hT : TripOK n t stops) : ∀ (b : List Bool) (k : Nat) (l : T_drive_label), LabI k l → k + b.length ≤ stops.length → (runK n t stops b k l).2 = 0 → l.ready ≤ (runK n t stops b k l).1.ready
  | [], k, l, hl, _, _ => Int.le_refl _
  | a :: b, k, l, hl, hk, h => by
    simp only [runK] at h ⊢
    simp only [List.length_cons] at hk
    by_cases h0 : (nxt n t stops l k a).2 = 0
    · rw [if_neg (by simpa using h0)] at h ⊢
      have h1 := runK_ge hT b (k + 1) _ (nxt_lab hT hl (by omega) h0) (by omega) h
      refine Int.le_trans ?_ h1
      obtain ⟨g0, g1, g2, g3⟩ := nxt_ok hT hl h0
      have hb := goN_bd hT.net (dep_in (rest := a) hT hl) g0
      have hS := hT.stopK k
      have := hS.serv0
      have hr := hT.rest
      rw [g3]
      have hd : l.ready ≤ depS t l a := by unfold depS; split <;> omega
      show l.ready ≤ max _ _ + _
      omega
    · rw [if_pos h0] at h; exact absurd h h0
theorem last_leg (hT : TripOK n t stops) (hs : 0 ≤ start ∧ start ≤ 4096) {b : List Bool} (hl : b.length = stops.length + 1) (hok : okB n t stops start b) :
    t.open_ ≤ (lbB n t stops start b).sheet.end_ ∧ (lbB n t stops start b).sheet.end_ ≤ t.close ∧ 0 ≤ (lbB n t stops start b).sheet.miles ∧ (lbB n t stops start b).sheet.miles ≤ 210000 := by
  obtain ⟨b0, c, rfl⟩ : ∃ b0 c, b = b0 ++ [c] := by
    rcases List.eq_nil_or_concat b with rfl | ⟨b0, c, rfl⟩
    · simp at hl
    · exact ⟨b0, c, by simp⟩
  have hb0 : b0.length = stops.length := by simpa using hl
  obtain ⟨o1, o2⟩ := okB_snoc.1 hok
  have hL := lbB_labI hT hs (by omega) o1
  obtain ⟨g0, g1, g2, g3⟩ := nxt_ok hT hL o2
  have hb := goN_bd hT.net (dep_in (rest := c) hT hL) g0
  have hge : t.open_ ≤ (lbB n t stops start b0).ready := by
    have := runK_ge hT b0 0 (begS t start) (beg_lab hT hs) (by omega) o1
    have h2 : t.open_ ≤ (begS t start).ready := by show t.open_ ≤ max t.open_ start; omega
    exact Int.le_trans h2 this
  have hn : ¬ b0.length < stops.length := by omega
  have hm0 := hL.miles0
  have hm1 := hL.miles1
  have hfew := hT.few
  have hr := hT.rest
  have hd : (lbB n t stops start b0).ready ≤ depS t (lbB n t stops start b0) c := by unfold depS; split <;> omega
  rw [lbB_snoc hok, g3]
  rw [stopK_end hn] at hb g1 ⊢
  have g1' : (goN n t.profile (fromP t stops b0.length) (endS t).place (depS t (lbB n t stops start b0) c)).1 ≤ t.close := g1
  show t.open_ ≤ (if b0.length < stops.length then _ else _ : Int) ∧ (if b0.length < stops.length then _ else _ : Int) ≤ t.close ∧ 0 ≤ (lbB n t stops start b0).sheet.miles + _ ∧ (lbB n t stops start b0).sheet.miles + _ ≤ 210000
  rw [if_neg hn]
  omega
end
section
variable {x : T_api_Instance} {l : List T_api_Visit} {r : T_api_Route}
/-- What a route that holds comes to. -/
theorem EvOK.facts (hx : InstOK x) {s : T_api_Sheet} {b : List Bool} (h : EvOK x r s b) :
    (typS x r).open_ ≤ s.end_ ∧ s.end_ ≤ (typS x r).close ∧ 0 ≤ s.miles ∧ s.miles ≤ 210000 ∧ restsOf s = b ∧ s.times.length = r.visits.length ∧ b.length = r.visits.length + 1 ∧ r.visits.length ≤ 20 := by
  have h5 := of_decide_eq_true (poss_pre h.poss)
  have hT := tripOK hx h.poss
  obtain ⟨e1, e2, e3, e4⟩ := last_leg hT ⟨h5.2.2.1, h5.2.2.2.1⟩ h.full.1 h.full.2.2
  obtain ⟨r1, r2⟩ := rests_back hx h.poss h.full.1 h.full.2.2
  have hsl := stops_len (x := x) (r := r)
  have hl := h.full.1
  rw [h.sheet]
  exact ⟨e1, e2, e3, e4, r1, by omega, by omega, h5.2.2.2.2⟩
theorem able_eq (hx : InstOK x) (hv : r.visits.length ≤ 1048576) (ht : 0 ≤ r.type_ ∧ r.type_ < x.types.length) (hq : SeqOK x r.visits) : route_able x r = some (if r.visits.any (fun v => !skillV x r v) = true then 18 else 0) := by
  unfold route_able
  rw [bnd_eq (scan_any (B := fun s => route_able_L1 x r s) hv (fun v => !skillV x r v) (y := (.inr 18 : Unit ⊕ Int)) (N := .inl ()) (fun i a h => by
    obtain ⟨o, g1, g2, g3, _⟩ := able_at (r := r) hx ht (inO_of hq.inn (List.mem_of_getElem? h))
    show route_able_L1 x r i = _
    unfold route_able_L1
    rw [head_in h, (typ_at ht.1 ht.2).1, bnd_some, g1, bnd_some, g2, bnd_some, incL h hv]
    cases skillV x r a <;> rfl) (by
    show route_able_L1 x r r.visits.length = _
    unfold route_able_L1
    rw [head_out]))]
  split <;> rfl
/-- A route that holds is evaluated so. -/
theorem ev_of (hx : InstOK x) (hR : RouteI r) (h9 : ¬ (9 < r.visits.length ∧ r.visits.length ≤ 20)) {s : T_api_Sheet} {b : List Bool} (h : EvOK x r s b) : route_Evaluate x r = some (s, scoS x r s, 0) := by
  have hv := hR.visits
  have ht := h.type_
  have hq := seqS_ok h.seq
  have h20 := hq.short hx
  unfold route_Evaluate
  rw [br_neg (by simp [lenI]; omega), Check_eq hx hv, bnd_some, br_neg (by simpa using h.seq), able_eq hx hv ht hq, bnd_some]
  have hab : ¬ r.visits.any (fun v => !skillV x r v) = true := by
    rw [List.any_eq_true]
    rintro ⟨v, hv', hh⟩
    rw [h.able v hv'] at hh
    cases hh
  rw [if_neg hab, br_neg (by decide), (Fits_eq (r := r) hx (by omega) h.seq ht).1, bnd_some, br_neg (by simpa using h.fits)]
  obtain ⟨A, hA, pA⟩ := best_post hx hR h9
  rw [hA, bnd_some]
  have e : A = (s, 0) := by
    rcases pA with ⟨a1, _⟩ | ⟨_, a2⟩
    · exact absurd ⟨h.poss, h.rests⟩ a1
    · rcases a2 with ⟨a, fa, ma, ea⟩ | ⟨na, _⟩
      · rw [ea, minB_one fa h.full ma h.min, h.sheet]
      · exact absurd h.full (na b)
  rw [e, br_ne0, Route_eq hx hv ht, bnd_some]
theorem pairK_rests {rs : List Bool} : ∀ k, pairK x (T_api_Route.mk r.type_ r.start rs r.visits) k = pairK x r k
  | 0 => rfl
  | k + 1 => by
    have ih := pairK_rests (rs := rs) k
    unfold pairK
    rw [ih]
theorem RouteRests_plain (x : T_api_Instance) (hI : InstI x) (r : T_api_Route) (hR : RouteI r) : lorrylaw21_RouteRests x r = some true := by
  apply post.eq
  unfold lorrylaw21_RouteRests
  rw [examples21_ok]
  refine post_bnd (right21 hI) fun ok hok => post_br (fun h => ?_) (fun _ => post_some.2 rfl)
  obtain ⟨hx, h9⟩ := hok h
  obtain ⟨E, e1, e2, e3, e4, e5⟩ := ev_same hx hR h9
  rw [e1, bnd_some]
  refine post_br (fun _ => post_some.2 rfl) (fun h0 => ?_)
  have h0' : E.2.2 = 0 := by simpa using h0
  obtain ⟨es, b, hE⟩ := e5 h0'
  obtain ⟨f1, f2, f3, f4, f5, f6, f7, f8⟩ := hE.facts hx
  have hloop : loopF (fun s : List Bool × Int => lorrylaw21_RouteRests_L1 x r E s.1 s.2) ([E.1.rest_], 0) = some (restsOf E.1) := rests_loop e3 (fun l v => rfl)
  rw [bnd_eq hloop, f5]
  have hR' : RouteI (T_api_Route.mk r.type_ r.start b r.visits) := ⟨hR.type_, hR.start, by show b.length ≤ _; omega, hR.visits⟩
  have hsl := stops_len (x := x) (r := r)
  have hE' : EvOK x (T_api_Route.mk r.type_ r.start b r.visits) E.1 b := by
    refine ⟨hE.type_, hE.seq, hE.able, hE.fits, hE.poss, by show b.length ≤ r.visits.length + 1; omega, ⟨hE.full.1, fol_of fun i _ => rfl, hE.full.2.2⟩, fun q hq => ?_, hE.sheet⟩
    have hqb : q = b := by
      have hl1 := hq.1
      have hl2 := hE.full.1
      have hl1' : q.length = (stopsOf x r).length + 1 := hl1
      have := fol_take hq.2.1 (by show b.length ≤ q.length; omega)
      rw [List.take_of_length_le (by show q.length ≤ b.length; omega)] at this
      exact this
    rw [hqb]
    exact ⟨Int.le_refl _, fun _ => Nat.le_refl _⟩
  rw [ev_of hx hR' h9 hE', bnd_some]
  have hsc : scoS x (T_api_Route.mk r.type_ r.start b r.visits) E.1 = E.2.1 := by
    rw [es]
    unfold scoS
    rw [pairK_rests]
    rfl
  simp only [hsc]
  rw [score_same, Bool.and_true, br_pos (by simp), same18_refl e3, bnd_some]
  exact post_some.2 rfl
/-- The four parts are within their bounds. -/
theorem EvOK.score (hx : InstOK x) {s : T_api_Sheet} {b : List Bool} (h : EvOK x r s b) :
    ∃ c m o w : Int, scoS x r s = T_api_Score.mk c m o w ∧ (typS x r).fixed ≤ c ∧ 0 ≤ c ∧ c ≤ 1073741824 ∧ 0 ≤ m ∧ m ≤ 10 ∧ 0 ≤ o ∧ o ≤ 10 ∧ 0 ≤ w ∧ w ≤ 65535 ∧ w = mulK .i64 (quoK .i64 (subK .i64 s.end_ (typS x r).open_) 64) (quoK .i64 (subK .i64 s.end_ (typS x r).open_) 64) := by
  obtain ⟨f1, f2, f3, f4, f5, f6, f7, f8⟩ := h.facts hx
  have hT := hx.typ _ (typ_at h.type_.1 h.type_.2).2
  have h1 := hT.fixed; have h2 := hT.perMile; have h3 := hT.perTick; have h4 := hT.opn; have h5 := hT.close
  have h10 := hx.orders
  have hp := pairK_bd (x := x) (r := r) r.visits.length
  have hf := pairK_few (r := r) hx r.visits.length (Nat.le_refl _)
  have hs : sumN x.orders.length (fun i => bit1 (hasO (r.visits.take r.visits.length) (i : Int))) ≤ x.orders.length := by
    have := (sumN_bd (f := fun i => bit1 (hasO (r.visits.take r.visits.length) (i : Int))) (c := 1) (by omega) x.orders.length fun i => bit1_bd).2
    omega
  have hd : subK .i64 s.end_ (typS x r).open_ = s.end_ - (typS x r).open_ := subI (by omega) (by omega)
  obtain ⟨a, ha⟩ : ∃ a, a = s.end_ - (typS x r).open_ := ⟨_, rfl⟩
  have ha0 : 0 ≤ a ∧ a ≤ 4096 := by omega
  have m1 : 0 ≤ (typS x r).perMile * s.miles ∧ (typS x r).perMile * s.miles ≤ 21000000 := by
    refine ⟨Int.mul_nonneg h2.1 f3, ?_⟩
    exact Int.le_trans (Int.mul_le_mul h2.2 f4 f3 (by omega)) (by omega)
  have m2 : 0 ≤ (typS x r).perTick * a ∧ (typS x r).perTick * a ≤ 409600 := by
    refine ⟨Int.mul_nonneg h3.1 ha0.1, ?_⟩
    exact Int.le_trans (Int.mul_le_mul h3.2 ha0.2 ha0.1 (by omega)) (by omega)
  have hq : quoK .i64 a 64 = a / 64 := by
    have e : a.tdiv 64 = a / 64 := Int.tdiv_eq_ediv_of_nonneg ha0.1
    rw [quoI (by rw [e]; omega) (by rw [e]; omega), e]
  have hq2 : 0 ≤ a / 64 ∧ a / 64 ≤ 64 := by omega
  have m3 : 0 ≤ (a / 64) * (a / 64) ∧ (a / 64) * (a / 64) ≤ 4096 := ⟨Int.mul_nonneg hq2.1 hq2.1, Int.le_trans (Int.mul_le_mul hq2.2 hq2.2 hq2.1 (by omega)) (by omega)⟩
  unfold scoS
  refine ⟨_, _, _, _, rfl, ?_, ?_, ?_, by omega, by omega, by omega, by omega, ?_, ?_, rfl⟩
  · rw [hd, ← ha, mulI (by omega) (by omega), mulI (by omega) (by omega), addI (a := (typS x r).fixed) (by omega) (by omega), addI (by omega) (by omega)]; omega
  · rw [hd, ← ha, mulI (by omega) (by omega), mulI (by omega) (by omega), addI (a := (typS x r).fixed) (by omega) (by omega), addI (by omega) (by omega)]; omega
  · rw [hd, ← ha, mulI (by omega) (by omega), mulI (by omega) (by omega), addI (a := (typS x r).fixed) (by omega) (by omega), addI (by omega) (by omega)]; omega
  · rw [hd, ← ha, hq, mulI (by omega) (by omega)]; omega
  · rw [hd, ← ha, hq, mulI (by omega) (by omega)]; omega
theorem Weight_of {c m o w : Int} (h1 : 0 ≤ c ∧ c ≤ 1073741824) (h2 : 0 ≤ m ∧ m ≤ 15) (h3 : 0 ≤ o ∧ o ≤ 15) (h4 : 0 ≤ w ∧ w ≤ 65535) : price_Weight (T_api_Score.mk c m o w) = some (((c * 16 + m) * 16 + o) * 65536 + w, 0) := by
  unfold price_Weight price_split
  rw [bnd_some]
  simp only
  rw [br_neg (by simp; omega), br_neg (by simp; omega), br_neg (by simp; omega), br_neg (by simp; omega), br_neg (by simp; omega), mulI (a := c) (by omega) (by omega), addI (a := c * 16) (by omega) (by omega), mulI (a := c * 16 + m) (by omega) (by omega), addI (a := (c * 16 + m) * 16) (by omega) (by omega), mulI (by omega) (by omega), addI (by omega) (by omega)]
theorem quoD {a b : Int} (ha : 0 ≤ a ∧ a ≤ 9223372036854775807) (hb : 0 < b) : quoK .i64 a b = a / b := by
  have e : a.tdiv b = a / b := Int.tdiv_eq_ediv_of_nonneg ha.1
  have h1 : 0 ≤ a / b := Int.ediv_nonneg ha.1 (by omega)
  have h2 : a / b ≤ a := Int.ediv_le_self b ha.1
  rw [quoI (by rw [e]; omega) (by rw [e]; omega), e]
theorem Split_of {c m o w : Int} (h1 : 0 ≤ c ∧ c ≤ 1073741824) (h2 : 0 ≤ m ∧ m ≤ 15) (h3 : 0 ≤ o ∧ o ≤ 15) (h4 : 0 ≤ w ∧ w ≤ 65535) : price_Split (((c * 16 + m) * 16 + o) * 65536 + w) = some (T_api_Score.mk c m o w, 0) := by
  have q1 : quoK .i64 (((c * 16 + m) * 16 + o) * 65536 + w) 65536 = (c * 16 + m) * 16 + o := by rw [quoD (by omega) (by omega)]; omega
  have q2 : quoK .i64 ((c * 16 + m) * 16 + o) 16 = c * 16 + m := by rw [quoD (by omega) (by omega)]; omega
  have q3 : quoK .i64 (c * 16 + m) 16 = c := by rw [quoD (by omega) (by omega)]; omega
  have r1 : remK (c * 16 + m) 16 = m := by unfold remK; rw [Int.tmod_eq_emod_of_nonneg (by omega)]; omega
  have r2 : remK ((c * 16 + m) * 16 + o) 16 = o := by unfold remK; rw [Int.tmod_eq_emod_of_nonneg (by omega)]; omega
  have r3 : remK (((c * 16 + m) * 16 + o) * 65536 + w) 65536 = w := by unfold remK; rw [Int.tmod_eq_emod_of_nonneg (by omega)]; omega
  unfold price_Split price_join
  rw [br_neg (by simp; omega), q1, q2, q3, r1, r2, r3, br_neg (by simp; omega), bnd_some]
theorem RouteParts_plain (x : T_api_Instance) (hI : InstI x) (r : T_api_Route) (hR : RouteI r) : lorrylaw21_RouteParts x r = some true := by
  apply post.eq
  unfold lorrylaw21_RouteParts
  rw [examples21_ok]
  refine post_bnd (right21 hI) fun ok hok => post_br (fun h => ?_) (fun _ => post_some.2 rfl)
  obtain ⟨hx, h9⟩ := hok h
  obtain ⟨E, e1, e2, e3, e4, e5⟩ := ev_same hx hR h9
  unfold route_Price route_Works
  rw [e1, bnd_some, bnd_some, bnd_some]
  by_cases h0 : E.2.2 = 0
  · obtain ⟨es, b, hE⟩ := e5 h0
    obtain ⟨f1, f2, f3, f4, f5, f6, f7, f8⟩ := hE.facts hx
    obtain ⟨c, m, o, w, hs, g1, g2, g3, g4, g5, g6, g7, g8, g9, g10⟩ := hE.score hx
    have hT := hx.typ _ (typ_at hE.type_.1 hE.type_.2).2
    have ht := hE.type_
    have hn : neI E.2.2 0 = false := by simpa using h0
    have hd : subK .i64 E.1.end_ (typS x r).open_ = E.1.end_ - (typS x r).open_ := subI (by have := hT.opn; have := hT.close; omega) (by have := hT.opn; have := hT.close; omega)
    rw [br_neg hn, es, hs, Weight_of ⟨g2, g3⟩ ⟨g4, by omega⟩ ⟨g6, by omega⟩ ⟨g8, g9⟩, bnd_some, bnd_some, br_neg hn, (typ_at hE.type_.1 hE.type_.2).1, bnd_some, bnd_some, br_neg hn, Split_of ⟨g2, g3⟩ ⟨g4, by omega⟩ ⟨g6, by omega⟩ ⟨g8, g9⟩, bnd_some]
    rw [br_neg (by simp [lenI]; omega), br_pos (score_same (T_api_Score.mk c m o w)), bnd_some, br_pos (by simpa using g1), br_pos (by simpa using g10), bnd_some]
    exact post_some.2 rfl
  · obtain ⟨z1, z2⟩ := e4 h0
    have hn : neI E.2.2 0 = true := by simpa using h0
    rw [br_pos hn, bnd_some, br_pos hn, bnd_some, br_pos hn, br_pos (by simp), z2, br_pos (by decide), bnd_some]
    exact post_some.2 rfl
end
end Go.Proofs.YtfldlilicmbmkaaGreatDoor
namespace Go.Proofs.YtfldlilicmbmkaaGreatDoor
set_option linter.unusedSimpArgs false
set_option linter.unusedVariables false
set_option linter.unusedSectionVars false
/-- What must come before what, step by step. -/
inductive Pth (bf : List A2_Int) : Int → Int → Prop where
  | one {p : A2_Int} (h : p ∈ bf) : Pth bf p.x0 p.x1
  | more {a : Int} {p : A2_Int} (h : Pth bf a p.x0) (h' : p ∈ bf) : Pth bf a p.x1
section
variable {x : T_api_Instance} {l : List T_api_Visit} {r : T_api_Route}
theorem edge_pos (h : SeqOK x l) {p : A2_Int} (hp : p ∈ x.before) (hb : hasO l p.x1 = true) : hasO l p.x0 = true ∧ ixI (isO p.x0) l < ixI (isO p.x1) l := by
  have h1 := List.any_eq_false.1 h.before p hp
  unfold badB at h1
  rw [hb, Bool.true_and] at h1
  simp only [Bool.or_eq_true, Bool.not_eq_true', not_or, Bool.not_eq_false, Bool.not_eq_true] at h1
  obtain ⟨h2, h3⟩ := h1
  refine ⟨h2, ?_⟩
  unfold lateB at h3
  have hge : 0 ≤ ixI (isO p.x1) l := by rw [← geI_t, geI_ixI]; exact hb
  have hge0 : 0 ≤ ixI (isO p.x0) l := by rw [← geI_t, geI_ixI]; exact h2
  unfold ixI at hge hge0 ⊢
  cases e1 : ixP (isO p.x1) l with
  | none => rw [e1] at hge; simp at hge
  | some k =>
    rw [e1] at h3
    simp only at h3
    cases e0 : ixP (isO p.x0) l with
    | none => rw [e0] at hge0; simp at hge0
    | some j =>
      obtain ⟨j1, j2, _⟩ := ixP_some e0
      simp only
      have hjk : j < k := Nat.lt_of_not_le fun hle => by
        have : hasO (l.drop k) p.x0 = true := hasO_t.2 ⟨l[j], List.mem_iff_getElem?.2 ⟨j - k, by rw [List.getElem?_drop, show k + (j - k) = j by omega, List.getElem?_eq_getElem j1]⟩, isO_t.1 j2⟩
        rw [this] at h3
        cases h3
      omega
theorem pth_pos (h : SeqOK x l) {a b : Int} (hp : Pth x.before a b) : hasO l b = true → hasO l a = true ∧ ixI (isO a) l < ixI (isO b) l := by
  induction hp with
  | one hm => exact edge_pos h hm
  | more _ hm ih =>
    intro hb
    obtain ⟨h1, h2⟩ := edge_pos h hm hb
    obtain ⟨h3, h4⟩ := ih h1
    exact ⟨h3, by omega⟩
theorem vecN_getI {D : Nat} {f : Nat → Int} {i : Int} (h0 : 0 ≤ i) (h1 : i < D) : getI (vecN D f) i = some (f i.toNat) := by
  unfold getI
  rw [if_pos h0, vecN_get (by omega)]
/-- What is known of the masks. -/
structure ChI (bf : List A2_Int) (m : Nat → Nat) : Prop where
  lt : ∀ i, m i < 1024
  pth : ∀ i a : Nat, (m i).testBit a = true → Pth bf (a : Int) (i : Int)
theorem chains_post (hx : InstOK x) : post (rules_chains (lenI x.orders) x.before) fun c => ∃ m, c = vecN x.orders.length (fun i => ((m i : Nat) : Int)) ∧ ChI x.before m := by
  have h10 := hx.orders
  have hb16 := hx.before
  have sb : ∀ m : Nat → Nat, (∀ i, m i < 1024) → 0 ≤ sumN x.orders.length (fun i => ((m i : Nat) : Int)) ∧ sumN x.orders.length (fun i => ((m i : Nat) : Int)) ≤ 10240 := fun m hm => by
    have := sumN_bd (f := fun i => ((m i : Nat) : Int)) (c := 1024) (by omega) x.orders.length fun i => by have := hm i; omega
    omega
  unfold rules_chains
  have hz : mkI (maxI (lenI x.orders) 0) (maxI (lenI x.orders) 0) 8 (0 : Int) = some (vecN x.orders.length fun i => (((fun _ => 0 : Nat → Nat) i : Nat) : Int)) := by
    have hm : maxI (lenI x.orders) 0 = (x.orders.length : Int) := by rw [maxI_eq]; unfold lenI; omega
    rw [hm]
    unfold mkI
    rw [if_pos (by omega)]
    congr 1
    refine List.ext_getElem? fun i => ?_
    rcases Nat.lt_or_ge i x.orders.length with h | h
    · rw [vecN_get h]; simp [h]
    · rw [List.getElem?_eq_none (by simp; omega), List.getElem?_eq_none (by rw [vecN_len]; omega)]
  rw [hz, bnd_some]
  refine post_bnd (R := fun c => ∃ m, c = vecN x.orders.length (fun i => ((m i : Nat) : Int)) ∧ ChI x.before m) ?_ fun c hc => post_some.2 hc
  refine post_loop (fun s : List Int × Bool => ∃ m, s.1 = vecN x.orders.length (fun i => ((m i : Nat) : Int)) ∧ ChI x.before m) (fun s => 2 * (10240 - sumN x.orders.length (fun i => s.1.getD i 0)).toNat + (if s.2 = true then 1 else 0)) ⟨fun _ => 0, rfl, fun _ => by omega, fun i a h => by simp at h⟩ ?_ ?_
  · have hz0 : 0 ≤ sumN x.orders.length (fun i => (vecN x.orders.length fun i => (((fun _ => 0 : Nat → Nat) i : Nat) : Int)).getD i 0) := by
      rw [sumN_congr (g := fun i => (((fun _ => 0 : Nat → Nat) i : Nat) : Int)) _ fun i hi => by rw [List.getD_eq_getElem?_getD, vecN_get hi]; rfl]
      exact (sb (fun _ => 0) fun _ => by omega).1
    refine Nat.lt_of_le_of_lt (m := 2 * 10240 + 1) ?_ (by decide)
    refine Nat.add_le_add (Nat.mul_le_mul_left 2 (Int.toNat_le.2 ?_)) (by split <;> decide)
    exact Int.sub_le_self _ hz0
  rintro ⟨_, more⟩ ⟨m, rfl, hm⟩
  have gsum : ∀ m : Nat → Nat, sumN x.orders.length (fun i => (vecN x.orders.length fun i => ((m i : Nat) : Int)).getD i 0) = sumN x.orders.length (fun i => ((m i : Nat) : Int)) := fun m => sumN_congr _ fun i hi => by rw [List.getD_eq_getElem?_getD, vecN_get hi]; rfl
  show post (rules_chains_L1 x.before _ (vecN x.orders.length fun i => ((m i : Nat) : Int)) more) _
  unfold rules_chains_L1
  refine post_br (fun hmore => ?_) (fun hmore => post_inr ⟨m, rfl, hm⟩)
  refine post_bnd (R := fun e : List Int × Bool => ∃ m', e.1 = vecN x.orders.length (fun i => ((m' i : Nat) : Int)) ∧ ChI x.before m' ∧ sumN x.orders.length (fun i => ((m i : Nat) : Int)) ≤ sumN x.orders.length (fun i => ((m' i : Nat) : Int)) ∧ (e.2 = true → sumN x.orders.length (fun i => ((m i : Nat) : Int)) < sumN x.orders.length (fun i => ((m' i : Nat) : Int)))) ?_ ?_
  · refine post_loop (fun s : List Int × Bool × Int => ∃ (k : Nat) (m' : Nat → Nat), s.2.2 = (k : Int) ∧ k ≤ x.before.length ∧ s.1 = vecN x.orders.length (fun i => ((m' i : Nat) : Int)) ∧ ChI x.before m' ∧ sumN x.orders.length (fun i => ((m i : Nat) : Int)) ≤ sumN x.orders.length (fun i => ((m' i : Nat) : Int)) ∧ (s.2.1 = true → sumN x.orders.length (fun i => ((m i : Nat) : Int)) < sumN x.orders.length (fun i => ((m' i : Nat) : Int)))) (fun s => x.before.length - s.2.2.toNat) ⟨0, m, rfl, Nat.zero_le _, rfl, hm, Int.le_refl _, fun h => by cases h⟩ (by simp; omega) ?_
    rintro ⟨_, f, _⟩ ⟨k, m', rfl, hk, rfl, hm', hle, hf⟩
    show post (rules_chains_L2 x.before _ (vecN x.orders.length fun i => ((m' i : Nat) : Int)) f (k : Int)) _
    unfold rules_chains_L2
    rcases Nat.lt_or_ge k x.before.length with h | h
    · have e : x.before[k]? = some x.before[k] := List.getElem?_eq_getElem h
      have hmem := List.getElem_mem h
      generalize x.before[k] = p at e hmem
      obtain ⟨p0, p1, p2, p3, p4⟩ := hx.befores p hmem
      obtain ⟨a, ha⟩ : ∃ a : Nat, p.x0 = a := ⟨p.x0.toNat, by omega⟩
      obtain ⟨b, hb⟩ : ∃ b : Nat, p.x1 = b := ⟨p.x1.toNat, by omega⟩
      have hpa : Pth x.before (a : Int) (b : Int) := ha ▸ hb ▸ Pth.one hmem
      have hpb : ∀ c : Int, Pth x.before c (a : Int) → Pth x.before c (b : Int) := fun c hc => by
        rw [← ha] at hc; rw [← hb]; exact Pth.more hc hmem
      rw [ha] at p0 p1
      rw [hb] at p2 p3
      have hma := hm'.lt a
      have hmb := hm'.lt b
      have h2 : 2 ^ a ≤ 2 ^ 9 := Nat.pow_le_pow_right (by omega) (by omega)
      rw [head_in e, ha, hb, br_neg (by simp [lenI, vecN_len]; omega), vecN_getI p2 p3, bnd_some, vecN_getI p0 p1, bnd_some, chk_pos (by omega), incL e (by omega), Int.toNat_natCast, Int.toNat_natCast, shlN (by omega), orN (by omega) (by omega)]
      have hor1 : m' b ||| m' a < 1024 := Nat.or_lt_two_pow (n := 10) hmb hma
      rw [orN (by omega) (by omega)]
      have hor2 : m' b ||| m' a ||| 2 ^ a < 1024 := Nat.or_lt_two_pow (n := 10) hor1 (by omega)
      have hge : m' b ≤ m' b ||| m' a ||| 2 ^ a := Nat.le_trans Nat.left_le_or Nat.left_le_or
      refine post_br (fun hne => post_inl ⟨⟨k + 1, fun i => if i = b then m' b ||| m' a ||| 2 ^ a else m' i, rfl, h, ?_, ⟨fun i => ?_, fun i c hc => ?_⟩, ?_, fun _ => ?_⟩, by simp; omega⟩) (fun _ => post_inl ⟨⟨k + 1, m', rfl, h, rfl, hm', hle, hf⟩, by simp; omega⟩)
      · show setI (vecN x.orders.length fun i => ((m' i : Nat) : Int)) (b : Int) _ = _
        rw [vecN_set (by omega)]
        refine vecN_congr fun d _ => ?_
        show (if d = b then _ else _ : Int) = (((if d = b then _ else _ : Nat) : Nat) : Int)
        split <;> rfl
      · show (if i = b then _ else _) < 1024
        split
        · exact hor2
        · exact hm'.lt i
      · have hc' : (if i = b then m' b ||| m' a ||| 2 ^ a else m' i).testBit c = true := hc
        by_cases hi : i = b
        · rw [if_pos hi, Nat.testBit_or, Nat.testBit_or, Nat.testBit_two_pow] at hc'
          rw [hi]
          simp only [Bool.or_eq_true, decide_eq_true_iff] at hc'
          rcases hc' with (hc' | hc') | hc'
          · exact hm'.pth b c hc'
          · exact hpb _ (hm'.pth a c hc')
          · exact hc' ▸ hpa
        · rw [if_neg hi] at hc'
          exact hm'.pth i c hc'
      all_goals
        have up := sumN_upd (f := fun i => ((m' i : Nat) : Int)) (g := fun i => (((if i = b then m' b ||| m' a ||| 2 ^ a else m' i : Nat) : Nat) : Int)) (o := b) x.orders.length (by omega) (fun j hj => by
          show (((if j = b then _ else _ : Nat) : Nat) : Int) = _
          rw [if_neg hj])
        simp only [if_pos] at up
        rw [neI_t] at hne
        show _ ≤ sumN x.orders.length (fun i => (((if i = b then m' b ||| m' a ||| 2 ^ a else m' i : Nat) : Nat) : Int))
        rw [up]
        omega
    · obtain rfl : k = x.before.length := by omega
      rw [head_out]
      exact post_inr ⟨m', rfl, hm', hle, hf⟩
  · rintro ⟨_, f⟩ ⟨m', rfl, hm', hle, hf⟩
    refine post_inl ⟨⟨m', rfl, hm'⟩, ?_⟩
    simp only [gsum]
    have s1 := sb m hm.lt
    have s2 := sb m' hm'.lt
    rw [if_pos hmore]
    simp only at hle hf
    cases f with
    | true => have := hf rfl; simp; omega
    | false => simp; omega
theorem allowed_eq (hx : InstOK x) (h : SeqOK x l) {s : Int} (hs : SetOf l s) : rules_Allowed x s = some 0 := by
  have h10 := hx.orders
  have ha16 := hx.apart
  have hb16 := hx.before
  have hlen := memN_len (l := l) 63
  have hmem : ∀ i ∈ memN l 63, ∃ k : Nat, i = k ∧ k < 63 ∧ hasO l (k : Int) = true := fun i hi => mem_memN hi
  have hs0 : ¬ s < 0 := by obtain ⟨m, rfl, _⟩ := hs.ex; omega
  unfold rules_Allowed
  rw [br_neg (by simp; omega), Members_eq hs, bnd_some]
  generalize memN l 63 = M at *
  have hat : ∀ {i : Nat} {a : Int}, M[i]? = some a → 0 ≤ a ∧ a < x.orders.length ∧ hasO l a = true := fun hh => by
    obtain ⟨k, rfl, _, hk⟩ := hmem _ (List.mem_of_getElem? hh)
    have := has_in h hk
    exact ⟨this.1, this.2, hk⟩
  have l1 : loopF (fun q => rules_Allowed_L1 x s M q) 0 = some (.inl ()) := by
    have := scan_any (B := fun q => rules_Allowed_L1 x s M q) (l := M) (by omega) (fun _ => false) (y := (.inr 2 : Unit ⊕ Int)) (N := .inl ()) (fun i a hh => by
      have hin := hat hh
      show rules_Allowed_L1 x s M i = _
      unfold rules_Allowed_L1
      rw [head_in hh, br_neg (by simp [lenI]; omega), incL hh (by omega)]
      rfl) (by
      show rules_Allowed_L1 x s M M.length = _
      unfold rules_Allowed_L1
      rw [head_out])
    simpa using this
  have l2 : loopF (fun q => rules_Allowed_L2 x s M q) 0 = some (.inl ()) := by
    have := scan_any (B := fun q => rules_Allowed_L2 x s M q) (l := M) (by omega) (fun _ => false) (y := (.inr 9 : Unit ⊕ Int)) (N := .inl ()) (fun i a hh => by
      obtain ⟨q0, q1, q2⟩ := hat hh
      obtain ⟨v, hv, hvo⟩ := hasO_t.1 q2
      have hoff := List.any_eq_false.1 h.off v hv
      obtain ⟨o, g1, g2, g3, _⟩ := offV_at (x := x) (v := v) (by omega) (by omega)
      show rules_Allowed_L2 x s M i = _
      unfold rules_Allowed_L2
      rw [hvo] at g1
      rw [head_in hh, g1, bnd_some, br_neg (by rw [← g3]; simpa using hoff), incL hh (by omega)]
      rfl) (by
      show rules_Allowed_L2 x s M M.length = _
      unfold rules_Allowed_L2
      rw [head_out])
    simpa using this
  have l3 : loopF (fun q => rules_Allowed_L3 x s M q) 0 = some (.inl ()) := by
    have := scan_any (B := fun q => rules_Allowed_L3 x s M q) (l := x.apart) (by omega) (fun _ => false) (y := (.inr 20 : Unit ⊕ Int)) (N := .inl ()) (fun i a hh => by
      obtain ⟨p0, p1, p2, p3, p4⟩ := hx.aparts a (List.mem_of_getElem? hh)
      have hap : apartB l a = false := by simpa using List.any_eq_false.1 h.apart a (List.mem_of_getElem? hh)
      unfold apartB at hap
      show rules_Allowed_L3 x s M i = _
      unfold rules_Allowed_L3
      rw [head_in hh, hs.Has p0 (by omega), bnd_some, hs.Has p2 (by omega), bnd_some, incL hh (by omega)]
      cases e1 : hasO l a.x0 <;> cases e2 : hasO l a.x1
      · rfl
      · rfl
      · rfl
      · rw [e1, e2] at hap; cases hap) (by
      show rules_Allowed_L3 x s M x.apart.length = _
      unfold rules_Allowed_L3
      rw [head_out])
    simpa using this
  have l4 : loopF (fun q => rules_Allowed_L4 x s M q) 0 = some (.inl ()) := by
    have := scan_any (B := fun q => rules_Allowed_L4 x s M q) (l := x.before) (by omega) (fun _ => false) (y := (.inr 21 : Unit ⊕ Int)) (N := .inl ()) (fun i a hh => by
      have hm := List.mem_of_getElem? hh
      obtain ⟨p0, p1, p2, p3, p4⟩ := hx.befores a hm
      show rules_Allowed_L4 x s M i = _
      unfold rules_Allowed_L4
      rw [head_in hh, hs.Has p2 (by omega), bnd_some, hs.Has p0 (by omega), bnd_some, incL hh (by omega)]
      cases e1 : hasO l a.x1
      · rfl
      · rw [(edge_pos h hm e1).1]; rfl) (by
      show rules_Allowed_L4 x s M x.before.length = _
      unfold rules_Allowed_L4
      rw [head_out])
    simpa using this
  obtain ⟨c, hc, m, rfl, hm⟩ := chains_post hx
  have l5 : loopF (fun q => rules_Allowed_L5 M (vecN x.orders.length fun i => ((m i : Nat) : Int)) q) 0 = some (.inl ()) := by
    have := scan_any (B := fun q => rules_Allowed_L5 M (vecN x.orders.length fun i => ((m i : Nat) : Int)) q) (l := M) (by omega) (fun _ => false) (y := (.inr 21 : Unit ⊕ Int)) (N := .inl ()) (fun i a hh => by
      obtain ⟨q0, q1, q2⟩ := hat hh
      obtain ⟨k, rfl⟩ : ∃ k : Nat, a = k := ⟨a.toNat, by omega⟩
      show rules_Allowed_L5 M (vecN x.orders.length fun i => ((m i : Nat) : Int)) i = _
      unfold rules_Allowed_L5
      have hlt := hm.lt k
      have hbit : (m k).testBit k = false := by
        rw [Bool.eq_false_iff]
        intro hb
        have := (pth_pos h (hm.pth k k hb) q2).2
        omega
      have hhas : sets_Has ((m k : Nat) : Int) (k : Int) = some false := by
        unfold sets_Has
        rw [br_pos (by simp; omega), chk_pos (by omega), shrN (by omega)]
        have hd := Nat.div_le_self (m k) (2 ^ k)
        rw [show (1 : Int) = ((1 : Nat) : Int) from rfl, andN (by omega) (by omega), Nat.and_one_is_mod]
        rw [Nat.testBit_eq_decide_div_mod_eq, decide_eq_false_iff_not] at hbit
        congr 1
        generalize m k / 2 ^ k = q at *
        rw [eqI_f]
        omega
      rw [head_in hh, vecN_getI q0 q1, bnd_some, Int.toNat_natCast, hhas, bnd_some, incL hh (by omega)]
      rfl) (by
      show rules_Allowed_L5 M (vecN x.orders.length fun i => ((m i : Nat) : Int)) M.length = _
      unfold rules_Allowed_L5
      rw [head_out])
    simpa using this
  rw [bnd_eq l1, sel_inl, bnd_eq l2, sel_inl, bnd_eq l3, sel_inl, bnd_eq l4, sel_inl, hc, bnd_some, bnd_eq l5, sel_inl]
theorem RouteRules_plain (x : T_api_Instance) (hI : InstI x) (r : T_api_Route) (hR : RouteI r) : lorrylaw21_RouteRules x r = some true := by
  apply post.eq
  unfold lorrylaw21_RouteRules
  rw [examples21_ok]
  refine post_bnd (right21 hI) fun ok hok => post_br (fun h => ?_) (fun _ => post_some.2 rfl)
  obtain ⟨hx, h9⟩ := hok h
  obtain ⟨E, e1, e2, e3, e4, e5⟩ := ev_same hx hR h9
  rw [e1, bnd_some]
  have hv := hR.visits
  have h10 := hx.orders
  by_cases h0 : E.2.2 = 0
  · obtain ⟨es, b, hE⟩ := e5 h0
    obtain ⟨f1, f2, f3, f4, f5, f6, f7, f8⟩ := hE.facts hx
    have ht := hE.type_
    have hq := seqS_ok hE.seq
    obtain ⟨s, hs, hs0, hset⟩ := Orders_post hx hv hq.inn
    have hT := hx.typ _ (typ_at hE.type_.1 hE.type_.2).2
    rw [br_neg (by simpa using h0), br_neg (by simp [lenI]; omega), (typ_at ht.1 ht.2).1, bnd_some, hs, bnd_some, hs0, br_neg (by decide), allowed_eq hx hq hset, bnd_some, br_neg (by decide), (Fits_eq (r := r) hx (by omega) hE.seq ht).1, bnd_some, br_neg (by simpa using hE.fits)]
    have hsl := stops_len (x := x) (r := r)
    have hrun : runR x r (restsOf E.1) = (E.1, 0) := by
      rw [f5]
      unfold runR
      rw [if_pos ⟨hE.poss, f7⟩, runS_yes hE.full.2.2, ← hE.sheet]
    have hval : validS x r E.1 = 0 := by
      rw [vS_eq ⟨hE.poss, hE.rests, f6⟩ (by rw [f5]; exact fol_take hE.full.2.1 (by have := hE.rests; omega)) (by rw [hrun]), hrun, if_pos rfl]
    rw [valid_eq hx hv hR.rests e3, bnd_some, hval, br_neg (by simp; omega)]
    have lp : loopF (fun q => lorrylaw21_RouteRules_L1 x (typS x r) s q) 0 = some (.inl ()) := by
      have := scan_any (B := fun q => lorrylaw21_RouteRules_L1 x (typS x r) s q) (l := x.orders) (by omega) (fun _ => false) (y := (.inr false : Unit ⊕ Bool)) (N := .inl ()) (fun i a hh => by
        have hi := (List.getElem?_eq_some_iff.1 hh).1
        show lorrylaw21_RouteRules_L1 x (typS x r) s i = _
        unfold lorrylaw21_RouteRules_L1
        have hbit : eqI (andK .i64 (shrK .i64 s.1 (i : Int)) 1) 1 = hasO r.visits (i : Int) := by
          have := hset.Has (i := (i : Int)) (by omega) (by omega)
          unfold sets_Has at this
          rw [br_pos (by simp; omega), chk_pos (by omega)] at this
          exact Option.some.inj this
        rw [head_in hh, cvuN (by omega), chk_pos (by omega), hbit, incL hh (by omega)]
        cases hhas : hasO r.visits (i : Int) with
        | false => rfl
        | true =>
          obtain ⟨v, hv', hvo⟩ := hasO_t.1 hhas
          obtain ⟨o, g1, g2, g3, g4⟩ := able_at (r := r) hx ht (v := v) (by omega)
          have hao : a = o := by
            rw [hvo, Int.toNat_natCast, hh] at g4
            exact Option.some.inj g4
          rw [br_true, hao, g2, bnd_some, hE.able v hv']
          rfl) (by
        show lorrylaw21_RouteRules_L1 x (typS x r) s x.orders.length = _
        unfold lorrylaw21_RouteRules_L1
        rw [head_out])
      simpa using this
    rw [bnd_eq lp, sel_inl, bnd_some]
    exact post_some.2 rfl
  · obtain ⟨z1, z2⟩ := e4 h0
    rw [br_pos (by simpa using h0), z1, br_pos (by decide), bnd_some]
    exact post_some.2 rfl
end
end Go.Proofs.YtfldlilicmbmkaaGreatDoor
namespace Go.Proofs.YtfldlilicmbmkaaGreatDoor
set_option linter.unusedSimpArgs false
set_option linter.unusedVariables false
set_option linter.unusedSectionVars false
theorem netI_of {n : T_api_Network} (h : T_api_Network.ok 1048576 n) : NetI n := by
  obtain ⟨⟨h1, h2⟩, ⟨h3, h4⟩, _⟩ := h
  refine ⟨h1, h3, h2, fun a ha => ?_⟩
  obtain ⟨_, _, _, _, ⟨h5, h6⟩, ⟨h7, h8⟩, _⟩ := h4 a ha
  exact ⟨h5, h7, fun p hp => ⟨(h6 p hp).1, (h6 p hp).2.1⟩, fun p hp => ⟨(h8 p hp).1, (h8 p hp).2.1⟩⟩
end Go.Proofs.YtfldlilicmbmkaaGreatDoor
namespace Go.Proofs.YtfldlilicmbmkaaGreatDoor
set_option linter.unusedSimpArgs false
set_option linter.unusedVariables false
set_option linter.unusedSectionVars false
theorem instI_of {x : T_api_Instance} (h : T_api_Instance.ok 1048576 x) : InstI x := by
  obtain ⟨h0, ⟨h1, h2⟩, ⟨h3, h4⟩, ⟨h5, _⟩, ⟨h6, _⟩, _⟩ := h
  refine ⟨netI_of h0, h1, h3, h5, h6, fun t ht => ?_, fun o ho => ?_⟩
  · obtain ⟨a, _, _, _, ⟨b, _⟩, _⟩ := h2 t ht
    exact ⟨a, b⟩
  · obtain ⟨a, ⟨b, _⟩, _⟩ := h4 o ho
    exact ⟨a, b⟩
theorem routeI_of {r : T_api_Route} (h : T_api_Route.ok 1048576 r) : RouteI r := by
  obtain ⟨h0, h1, ⟨h2, _⟩, ⟨h3, _⟩, _⟩ := h
  exact ⟨h0, h1, h2, h3⟩
end Go.Proofs.YtfldlilicmbmkaaGreatDoor
