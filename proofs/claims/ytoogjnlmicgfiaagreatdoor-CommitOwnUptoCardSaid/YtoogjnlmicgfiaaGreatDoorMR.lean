/- Part MR of the proof: texts Wra Wrb Wrc Wrd Wre Wrf Wrg Wrh Wri Wta Wtb Wtc Wtd Wte Wtf Wqz Wqzd Wtz. -/
import Derived.Test.YtoogjnlmicgfiaaGreatDoorMP
import Derived.Test.YtoogjnlmicgfiaaGreatDoorMQ
import Derived.Test.YtoogjnlmicgfiaaGreatDoorMT
namespace Go.Proofs.YtoogjnlmicgfiaaGreatDoor
set_option linter.unusedSimpArgs false
set_option linter.unusedVariables false
set_option linter.unusedSectionVars false
def ixP {α : Type} (p : α → Bool) : List α → Option Nat
  | [] => none
  | a :: r => if p a = true then some 0 else (ixP p r).map (· + 1)
section
variable {α : Type} {p : α → Bool}
theorem QpV {l : List α} {k : Nat} (h : ixP p l = some k) : ∃ hk : k < l.length, p l[k] = true ∧ ∀ j (hj : j < k), p (l[j]'(by omega)) = false := by
  induction l generalizing k with
  | nil => cases h
  | cons a r ih =>
    unfold ixP at h
    split at h
    · cases h
      exact ⟨by simp, by simpa, fun j hj => by omega⟩
    · rename_i ha
      rw [Option.map_eq_some_iff] at h
      obtain ⟨m, hm, rfl⟩ := h
      obtain ⟨h1, h2, h3⟩ := ih hm
      refine ⟨by simp; omega, by simpa using h2, fun j hj => ?_⟩
      cases j with
      | zero => simpa using ha
      | succ j => simpa using h3 j (by omega)
theorem QuV {l : List α} (h : ixP p l = none) : ∀ a ∈ l, p a = false := by
  induction l with
  | nil => simp
  | cons a r ih =>
    unfold ixP at h
    split at h
    · cases h
    · rename_i ha
      rw [Option.map_eq_none_iff] at h
      intro b hb
      rcases List.mem_cons.1 hb with rfl | hb
      · simpa using ha
      · exact ih h b hb
def ixI (p : α → Bool) (l : List α) : Int := match ixP p l with
  | some k => k
  | none => -1
theorem QBH {l : List α} : 0 ≤ ixI p l ↔ ∃ a ∈ l, p a = true := by
  unfold ixI
  cases h : ixP p l with
  | some k =>
    obtain ⟨h1, h2, _⟩ := QpV h
    exact ⟨fun _ => ⟨_, List.getElem_mem h1, h2⟩, fun _ => Int.natCast_nonneg k⟩
  | none => exact ⟨fun h' => by simp at h', fun ⟨a, ha, hp⟩ => by rw [QuV h a ha] at hp; cases hp⟩
theorem QyW {l : List α} : -1 ≤ ixI p l ∧ ixI p l < l.length := by
  unfold ixI
  cases h : ixP p l with
  | some k => have := (QpV h).1; simp only; omega
  | none => simp only; omega
theorem Qot {l : List α} : geI (ixI p l) 0 = l.any p := by
  rw [Bool.eq_iff_iff, geI_t, QBH, List.any_eq_true]
end
section
variable {E : Type} {B : Int → Option (Int ⊕ E)}
/-- A loop over the indexes below n: it goes out at the first with p. -/
theorem QAI {n : Nat} (hn : n ≤ 1048576) (p : Nat → Bool) (Y : Nat → E) {N : E}
    (hin : ∀ i : Nat, i < n → B (i : Int) = some (if p i = true then .inr (Y i) else .inl ((i : Int) + 1))) (hend : B (n : Int) = some (.inr N)) :
    (∃ k, k < n ∧ p k = true ∧ (∀ j, j < k → p j = false) ∧ loopF B 0 = some (Y k)) ∨ ((∀ j, j < n → p j = false) ∧ loopF B 0 = some N) := by
  have main : post (loopF B 0) fun e => (∃ k, k < n ∧ p k = true ∧ (∀ j, j < k → p j = false) ∧ e = Y k) ∨ ((∀ j, j < n → p j = false) ∧ e = N) := by
    refine Qb5 (fun i => ∃ k : Nat, i = (k : Int) ∧ k ≤ n ∧ ∀ j, j < k → p j = false) (fun i => n - i.toNat) ⟨0, rfl, Nat.zero_le _, fun j hj => by omega⟩ (by simp; omega) ?_
    rintro _ ⟨k, rfl, hk, hf⟩
    rcases Nat.lt_or_ge k n with h | h
    · rw [hin k h]
      split
      · rename_i hp
        exact QbN (.inl ⟨k, h, hp, hf, rfl⟩)
      · rename_i hp
        refine Qc0 ⟨⟨k + 1, by simp, by omega, fun j hj => ?_⟩, by simp; omega⟩
        rcases Nat.lt_or_eq_of_le (Nat.le_of_lt_succ hj) with hj | rfl
        · exact hf j hj
        · simpa using hp
    · obtain rfl : k = n := by omega
      rw [hend]
      exact QbN (.inr ⟨hf, rfl⟩)
  obtain ⟨e, he, h⟩ := main
  rcases h with ⟨k, h1, h2, h3, rfl⟩ | ⟨h1, rfl⟩
  · exact .inl ⟨k, h1, h2, h3, he⟩
  · exact .inr ⟨h1, he⟩
theorem QtG {n : Nat} (hn : n ≤ 1048576) (p : Nat → Bool) {y N : E} {b : Bool} (hb : b = true ↔ ∃ k, k < n ∧ p k = true)
    (hin : ∀ i : Nat, i < n → B (i : Int) = some (if p i = true then .inr y else .inl ((i : Int) + 1))) (hend : B (n : Int) = some (.inr N)) :
    loopF B 0 = some (if b = true then y else N) := by
  rcases QAI hn p (fun _ => y) hin hend with ⟨k, h1, h2, _, h4⟩ | ⟨h1, h4⟩
  · rw [h4, if_pos (hb.2 ⟨k, h1, h2⟩)]
  · rw [h4, if_neg fun h => by obtain ⟨k, h5, h6⟩ := hb.1 h; rw [h1 k h5] at h6; cases h6]
/-- A loop over the rows of a list. -/
theorem QeX {α : Type} {l : List α} (hl : l.length ≤ 1048576) (p : α → Bool) {y N : E}
    (hin : ∀ (i : Nat) a, l[i]? = some a → B (i : Int) = some (if p a = true then .inr y else .inl ((i : Int) + 1))) (hend : B (l.length : Int) = some (.inr N)) :
    loopF B 0 = some (if l.any p = true then y else N) := by
  refine QtG hl (fun i => match l[i]? with | some a => p a | none => false) ?_ (fun i hi => ?_) hend
  · rw [List.any_eq_true]
    constructor
    · rintro ⟨a, ha, hp⟩
      obtain ⟨k, hk, rfl⟩ := List.getElem_of_mem ha
      exact ⟨k, hk, by rw [List.getElem?_eq_getElem hk]; exact hp⟩
    · rintro ⟨k, hk, hp⟩
      rw [List.getElem?_eq_getElem hk] at hp
      exact ⟨_, List.getElem_mem hk, hp⟩
  · rw [List.getElem?_eq_getElem hi]
    exact hin i _ (List.getElem?_eq_getElem hi)
theorem QqB {α : Type} {l : List α} (hl : l.length ≤ 1048576) (p : α → Bool) (Y : Nat → E) {N : E}
    (hin : ∀ (i : Nat) a, l[i]? = some a → B (i : Int) = some (if p a = true then .inr (Y i) else .inl ((i : Int) + 1))) (hend : B (l.length : Int) = some (.inr N)) :
    loopF B 0 = some (match ixP p l with | some k => Y k | none => N) := by
  have h := QAI (B := B) hl (fun i => match l[i]? with | some a => p a | none => false) Y (N := N) (fun i hi => by
    rw [List.getElem?_eq_getElem hi]; exact hin i _ (List.getElem?_eq_getElem hi)) hend
  have at_ : ∀ j (hj : j < l.length), (match l[j]? with | some a => p a | none => false) = p l[j] := fun j hj => by rw [List.getElem?_eq_getElem hj]
  rcases h with ⟨k, h1, h2, h3, h4⟩ | ⟨h1, h4⟩
  · cases hx : ixP p l with
    | none => rw [at_ k h1, QuV hx _ (List.getElem_mem h1)] at h2; cases h2
    | some m =>
      obtain ⟨g1, g2, g3⟩ := QpV hx
      rcases Nat.lt_trichotomy k m with h | h | h
      · rw [at_ k h1, g3 k h] at h2; cases h2
      · rw [h4, h]
      · have := h3 m h; simp only [at_ m g1] at this; rw [g2] at this; cases this
  · cases hx : ixP p l with
    | none => rw [h4]
    | some m =>
      obtain ⟨g1, g2, g3⟩ := QpV hx
      have := h1 m g1; simp only [at_ m g1] at this; rw [g2] at this; cases this
end
theorem wrapN {m : Nat} (h : m < 9223372036854775808) : IntKind.i64.wrap (m : Int) = m := IntWalk.i64_in _ ⟨by omega, by omega⟩
theorem cvuN {m : Nat} (h : m < 9223372036854775808) : cvK .u64 (m : Int) = m := by
  unfold cvK
  simp only [IntKind.wrap, IntKind.bits, IntKind.signed]
  simp
  omega
theorem shrN {m i : Nat} (hi : i ≤ 64) : shrK .i64 (m : Int) (i : Int) = ((m / 2 ^ i : Nat) : Int) := by
  unfold shrK
  rw [show min (i : Int).toNat IntKind.i64.bits = i by simp [IntKind.bits]; omega, show (2 : Int) ^ i = ((2 ^ i : Nat) : Int) by simp, Int.fdiv_eq_ediv_of_nonneg _ (Int.natCast_nonneg _)]
  rfl
theorem shlN {i : Nat} (hi : i ≤ 62) : shlK .i64 1 (i : Int) = ((2 ^ i : Nat) : Int) := by
  have h2 : 2 ^ i ≤ 2 ^ 62 := Nat.pow_le_pow_right (by omega) hi
  unfold shlK
  rw [show min (i : Int).toNat IntKind.i64.bits = i by simp [IntKind.bits]; omega, Int.one_mul, show (2 : Int) ^ i = ((2 ^ i : Nat) : Int) by simp]
  exact wrapN (by omega)
theorem orN {a b : Nat} (ha : a < 9223372036854775808) (hb : b < 9223372036854775808) : orK .i64 (a : Int) (b : Int) = ((a ||| b : Nat) : Int) := by
  unfold orK
  have h := Nat.or_lt_two_pow (n := 63) ha hb
  have e : (BitVec.ofInt IntKind.i64.bits (a : Int) ||| BitVec.ofInt IntKind.i64.bits (b : Int)).toNat = a ||| b := by
    rw [BitVec.toNat_or]
    show (BitVec.ofInt 64 (a : Int)).toNat ||| (BitVec.ofInt 64 (b : Int)).toNat = _
    rw [BitVec.ofInt_natCast, BitVec.ofInt_natCast, BitVec.toNat_ofNat, BitVec.toNat_ofNat, Nat.mod_eq_of_lt (by omega), Nat.mod_eq_of_lt (by omega)]
  rw [e]
  exact wrapN (by omega)
theorem andN {a b : Nat} (ha : a < 9223372036854775808) (hb : b < 9223372036854775808) : andK .i64 (a : Int) (b : Int) = ((a &&& b : Nat) : Int) := by
  unfold andK
  have h := Nat.and_le_left (n := a) (m := b)
  have e : (BitVec.ofInt IntKind.i64.bits (a : Int) &&& BitVec.ofInt IntKind.i64.bits (b : Int)).toNat = a &&& b := by
    rw [BitVec.toNat_and]
    show (BitVec.ofInt 64 (a : Int)).toNat &&& (BitVec.ofInt 64 (b : Int)).toNat = _
    rw [BitVec.ofInt_natCast, BitVec.ofInt_natCast, BitVec.toNat_ofNat, BitVec.toNat_ofNat, Nat.mod_eq_of_lt (by omega), Nat.mod_eq_of_lt (by omega)]
  rw [e]
  exact wrapN (by omega)
theorem Qzs {a b : Nat} (ha : a < 9223372036854775808) (hb : b < 9223372036854775808) : Qrb .i64 (a : Int) (b : Int) = 0 ↔ ∀ i, a.testBit i = true → b.testBit i = true := by
  show IntKind.i64.wrap (((BitVec.ofInt 64 (a : Int) &&& ~~~BitVec.ofInt 64 (b : Int)).toNat : Nat) : Int) = 0 ↔ _
  rw [BitVec.ofInt_natCast, BitVec.ofInt_natCast]
  have hle : (BitVec.ofNat 64 a &&& ~~~BitVec.ofNat 64 b).toNat < 9223372036854775808 := by
    rw [BitVec.toNat_and, BitVec.toNat_ofNat, Nat.mod_eq_of_lt (by omega)]
    exact Nat.lt_of_le_of_lt Nat.and_le_left ha
  rw [wrapN hle]
  have bit : ∀ i, (BitVec.ofNat 64 a &&& ~~~BitVec.ofNat 64 b).toNat.testBit i = (a.testBit i && !b.testBit i) := fun i => by
    rw [BitVec.testBit_toNat, BitVec.getLsbD_and, BitVec.getLsbD_not, BitVec.getLsbD_ofNat, BitVec.getLsbD_ofNat]
    rcases Nat.lt_or_ge i 64 with h | h
    · simp [h]
    · have : a.testBit i = false := Nat.testBit_lt_two_pow (Nat.lt_of_lt_of_le ha (Nat.le_trans (by decide) (Nat.pow_le_pow_right (n := 2) (by omega) h)))
      simp [this]
  constructor
  · intro h i hi
    have := bit i
    rw [show (BitVec.ofNat 64 a &&& ~~~BitVec.ofNat 64 b).toNat = 0 by omega, Nat.zero_testBit, hi] at this
    simpa using this.symm
  · intro h
    have : (BitVec.ofNat 64 a &&& ~~~BitVec.ofNat 64 b).toNat = 0 := Nat.eq_of_testBit_eq fun i => by
      rw [bit, Nat.zero_testBit]
      cases hi : a.testBit i with
      | false => rfl
      | true => rw [h i hi]; rfl
    omega
theorem QtS {m i : Nat} : eqI (remK (((m / 2 ^ i : Nat) : Int)) 2) 1 = m.testBit i := by
  rw [Bool.eq_iff_iff, eqI_t, Nat.testBit_eq_decide_div_mod_eq, decide_eq_true_iff]
  unfold remK
  generalize m / 2 ^ i = q
  rw [Int.tmod_eq_emod_of_nonneg (by omega)]
  omega
/-- A bit that was not there is added. -/
theorem Qzr {m i : Nat} (h : m.testBit i = false) (j : Nat) : (m + 2 ^ i).testBit j = (m.testBit j || decide (i = j)) := by
  rw [Nat.add_comm]
  rcases Nat.lt_trichotomy j i with hj | rfl | hj
  · rw [Nat.testBit_two_pow_add_gt hj, decide_eq_false (by omega), Bool.or_false]
  · rw [Nat.testBit_two_pow_add_eq, h]; simp
  · rw [decide_eq_false (by omega), Bool.or_false]
    have h0 : m / 2 ^ i % 2 = 0 := by
      rw [Nat.testBit_eq_decide_div_mod_eq, decide_eq_false_iff_not] at h
      omega
    have e1 : (2 ^ i + m) / 2 ^ (i + 1) = m / 2 ^ (i + 1) := by
      rw [Nat.pow_succ, ← Nat.div_div_eq_div_mul, ← Nat.div_div_eq_div_mul, Nat.add_div_left _ (Nat.two_pow_pos i)]
      omega
    rw [Nat.testBit_eq_decide_div_mod_eq, Nat.testBit_eq_decide_div_mod_eq]
    have hp : 2 ^ j = 2 ^ (i + 1) * 2 ^ (j - (i + 1)) := by rw [← Nat.pow_add]; congr 1; omega
    rw [hp, ← Nat.div_div_eq_div_mul, ← Nat.div_div_eq_div_mul, e1]
theorem QBB {t : Qal} {skills : Int} (ht : 0 ≤ t.skills ∧ t.skills ≤ 1073741823) (hs : 0 ≤ skills ∧ skills ≤ 1073741823) : ∃ b, QlA t skills = some b ∧ Qjj t skills = some b := by
  obtain ⟨a, ha⟩ : ∃ a : Nat, skills = a := ⟨skills.toNat, by omega⟩
  obtain ⟨c, hc⟩ : ∃ c : Nat, t.skills = c := ⟨t.skills.toNat, by omega⟩
  subst ha
  refine ⟨eqI (Qrb .i64 (a : Int) (c : Int)) 0, ?_, ?_⟩
  · unfold QlA
    rw [hc]
    rw [show geI (c : Int) 0 = true by simp, show geI (a : Int) 0 = true by simp]
    rfl
  · unfold Qjj
    rw [QaX (by simp; omega)]
    have key : loopF (fun s => QfO t (a : Int) s) 1 = some (if (eqI (Qrb .i64 (a : Int) (c : Int)) 0) = true then .inl () else .inr false) := by
      have bigpow : ∀ k : Nat, k ≤ 62 → (0 : Int) < ((2 ^ k : Nat) : Int) ∧ ((2 ^ k : Nat) : Int) ≤ 4611686018427387904 := fun k hk => by
        have h1 := Nat.two_pow_pos k
        have h2 : 2 ^ k ≤ 2 ^ 62 := Nat.pow_le_pow_right (by omega) hk
        omega
      have main : post (loopF (fun s => QfO t (a : Int) s) 1) fun e => e = if (eqI (Qrb .i64 (a : Int) (c : Int)) 0) = true then .inl () else .inr false := by
        refine Qb5 (fun s => ∃ k : Nat, k ≤ 63 ∧ s = (if k = 63 then -9223372036854775808 else ((2 ^ k : Nat) : Int)) ∧ ∀ i, i < k → a.testBit i = true → c.testBit i = true) (fun s => if s < 0 then 0 else 9223372036854775808 - s.toNat) ⟨0, by omega, rfl, fun i hi => by omega⟩ (by decide) ?_
        rintro _ ⟨k, hk, rfl, hb⟩
        show post (QfO t (a : Int) _) _
        unfold QfO
        rcases Nat.lt_or_ge k 63 with hk' | hk'
        · rw [if_neg (by omega)]
          obtain ⟨p1, p2⟩ := bigpow k (by omega)
          rw [Qbd (by simp only [gtI_t]; exact p1), Qe6 (by omega), hc]
          have hq : ∀ z : Nat, z < 9223372036854775808 → quoK .i64 (z : Int) ((2 ^ k : Nat) : Int) = ((z / 2 ^ k : Nat) : Int) := fun z hz => by
            have e : (z : Int).tdiv ((2 ^ k : Nat) : Int) = ((z / 2 ^ k : Nat) : Int) := by rw [Int.tdiv_eq_ediv_of_nonneg (by omega)]; rfl
            have h1 := Nat.div_le_self z (2 ^ k)
            rw [quoI, e] <;> (rw [e]; generalize z / 2 ^ k = q at h1; omega)
          rw [hq a (by omega), hq c (by omega), QtS]
          have go : ∀ h : (a.testBit k = true → c.testBit k = true), post (some (Sum.inl (mulK .i64 ((2 ^ k : Nat) : Int) 2) : Int ⊕ (Unit ⊕ Bool))) fun x => (∀ s', x = .inl s' → (∃ k' : Nat, k' ≤ 63 ∧ s' = (if k' = 63 then -9223372036854775808 else ((2 ^ k' : Nat) : Int)) ∧ ∀ i, i < k' → a.testBit i = true → c.testBit i = true) ∧ (if s' < 0 then 0 else 9223372036854775808 - s'.toNat) < (if ((2 ^ k : Nat) : Int) < 0 then 0 else 9223372036854775808 - ((2 ^ k : Nat) : Int).toNat)) ∧ ∀ e, x = .inr e → e = if (eqI (Qrb .i64 (a : Int) (c : Int)) 0) = true then .inl () else .inr false := by
            intro h
            have hm : mulK .i64 ((2 ^ k : Nat) : Int) 2 = if k + 1 = 63 then -9223372036854775808 else ((2 ^ (k + 1) : Nat) : Int) := by
              split
              · rename_i h62
                obtain rfl : k = 62 := by omega
                decide
              · obtain ⟨q1, q2⟩ := bigpow (k + 1) (by omega)
                have e : ((2 ^ k : Nat) : Int) * 2 = ((2 ^ (k + 1) : Nat) : Int) := by rw [Nat.pow_succ]; simp
                rw [mulI (by omega) (by omega), e]
            refine Qc0 ⟨⟨k + 1, by omega, hm, fun i hi => ?_⟩, ?_⟩
            · rcases Nat.lt_or_eq_of_le (Nat.le_of_lt_succ hi) with hi | rfl
              · exact hb i hi
              · exact h
            · rw [hm, if_neg (show ¬ ((2 ^ k : Nat) : Int) < 0 by omega)]
              split
              · rw [if_pos (by omega)]; omega
              · obtain ⟨q1, q2⟩ := bigpow (k + 1) (by omega)
                have e : 2 ^ (k + 1) = 2 ^ k * 2 := Nat.pow_succ ..
                rw [if_neg (by omega)]
                omega
          refine QaG (fun h1 => Qbz (by omega) (QaG (fun h2 => QbN ?_) (fun h2 => go fun _ => ?_))) (fun h1 => go fun h => by rw [h1] at h; cases h)
          · rw [if_neg]
            intro h
            have h3 := (Qzs (by omega) (by omega)).1 (eqI_t.1 h) k h1
            rw [← QtS, eqI_t] at h3
            rw [eqI_t] at h2
            omega
          · rw [eqI_f] at h2
            rw [← QtS, eqI_t]
            unfold remK at h2 ⊢
            generalize c / 2 ^ k = q at h2 ⊢
            rw [Int.tmod_eq_emod_of_nonneg (by omega)] at h2 ⊢
            omega
        · obtain rfl : k = 63 := by omega
          rw [if_pos rfl, QaX (by decide)]
          refine QbN ?_
          rw [if_pos]
          rw [eqI_t]
          refine (Qzs (by omega) (by omega)).2 fun i hi => ?_
          rcases Nat.lt_or_ge i 63 with h | h
          · exact hb i h hi
          · rw [Nat.testBit_lt_two_pow (Nat.lt_of_lt_of_le (show a < 2 ^ 63 by omega) (Nat.pow_le_pow_right (n := 2) (by omega) h))] at hi; cases hi
      exact main.eq
    rw [key, Qag]
    split <;> simp_all
end Go.Proofs.YtoogjnlmicgfiaaGreatDoor
namespace Go.Proofs.YtoogjnlmicgfiaaGreatDoor
set_option linter.unusedSimpArgs false
set_option linter.unusedVariables false
set_option linter.unusedSectionVars false
theorem brs {α : Type} {b : Bool} {x y : α} : br b (some x) (some y) = some (if b = true then x else y) := by cases b <;> rfl
theorem Qbu {α β : Type} {l : List α} {i : Nat} {a : α} (h : l[i]? = some a) (f : α → Option β) (z : Option β) : br (ltI (i : Int) (lenI l)) (bnd (getI l i) f) z = f a := by
  have := (List.getElem?_eq_some_iff.1 h).1
  rw [Qbd (by simp [lenI]; omega), QaL h, Qag]
theorem Qa6 {α β : Type} {l : List α} {y z : Option β} : br (ltI (l.length : Int) (lenI l)) y z = z := QaX (by simp [lenI])
theorem incL {α : Type} {l : List α} {i : Nat} {a : α} (h : l[i]? = some a) (hl : l.length ≤ 1048576) : addK .i64 (i : Int) 1 = (i : Int) + 1 := inc (List.getElem?_eq_some_iff.1 h).1 hl
def inO (x : Qad) (v : Qac) : Bool := decide (0 ≤ v.order ∧ v.order < x.orders.length)
def offV (x : Qad) (v : Qac) : Bool := match x.orders[v.order.toNat]? with
  | some o => o.off
  | none => false
def isO (o : Int) (v : Qac) : Bool := eqI v.order o
def hasO (l : List Qac) (o : Int) : Bool := l.any (isO o)
def isV (v a : Qac) : Bool := eqI v.order a.order && (eqB v.drop a.drop && true)
/-- The visits of an order. -/
def visO (x : Qad) (o : Int) : List Qac := match x.orders[o.toNat]? with
  | some q => (if 0 ≤ q.pick.place then [Qac.mk o false] else []) ++ (if 0 ≤ q.drop.place then [Qac.mk o true] else [])
  | none => []
def rowB (l : List Qac) : List Qac → Bool
  | [] => true
  | [a] => geI (ixI (isV a) l) 0
  | a :: b :: _ => geI (ixI (isV a) l) 0 && ltI (ixI (isV a) l) (ixI (isV b) l)
def pairV (x : Qad) (l : List Qac) (v : Qac) : Bool := (visO x v.order).any (isV v) && rowB l (visO x v.order)
def QrR (l : List Qac) (p : QaW) : Bool := hasO l p.x0 && hasO l p.x1
def lateB (l : List Qac) (p : QaW) : Bool := match ixP (isO p.x1) l with
  | some k => hasO (l.drop k) p.x0
  | none => false
def badB (l : List Qac) (p : QaW) : Bool := hasO l p.x1 && (!hasO l p.x0 || lateB l p)
instance (l : List Qac) : Decidable l.Nodup := inferInstanceAs (Decidable (List.Nodup l))
/-- The answer of the check. -/
def seqS (x : Qad) (l : List Qac) : Int :=
  if l.length = 0 then 2 else if l.any (fun v => !inO x v) = true then 2 else if l.any (offV x) = true then 9 else if ¬ l.Nodup then 6 else
  if l.any (fun v => !pairV x l v) = true then 19 else if x.apart.any (QrR l) = true then 20 else if x.before.any (badB l) = true then 21 else 0
section
variable {x : Qad} {l : List Qac}
theorem isV_t {v a : Qac} : isV v a = true ↔ a = v := by
  unfold isV
  cases v; cases a
  simp
  exact ⟨fun ⟨h1, h2⟩ => ⟨h1.symm, h2.symm⟩, fun ⟨h1, h2⟩ => ⟨h1.symm, h2.symm⟩⟩
theorem isO_t {o : Int} {v : Qac} : isO o v = true ↔ v.order = o := by simp [isO]
theorem Qtp {o : Int} : hasO l o = true ↔ ∃ v ∈ l, v.order = o := by simp [hasO, List.any_eq_true, isO]
theorem any_V {v : Qac} : l.any (isV v) = true ↔ v ∈ l := by
  rw [List.any_eq_true]
  exact ⟨fun ⟨a, h, h'⟩ => isV_t.1 h' ▸ h, fun h => ⟨v, h, isV_t.2 rfl⟩⟩
theorem QBI {v : Qac} : 0 ≤ ixI (isV v) l ↔ v ∈ l := by rw [← geI_t, Qot, any_V]
theorem Qwm {v : Qac} {k : Nat} (h : ixI (isV v) l = k) : l[k]? = some v ∧ ∀ j, j < k → l[j]? ≠ some v := by
  unfold ixI at h
  cases hx : ixP (isV v) l with
  | none => rw [hx] at h; simp only at h; omega
  | some m =>
    rw [hx] at h
    simp only at h
    obtain rfl : m = k := by omega
    obtain ⟨h1, h2, h3⟩ := QpV hx
    refine ⟨by rw [List.getElem?_eq_getElem h1, isV_t.1 h2], fun j hj he => ?_⟩
    have := h3 j hj
    rw [List.getElem?_eq_getElem (show j < l.length by omega)] at he
    rw [isV_t.2 (Option.some.inj he)] at this
    cases this
theorem QtA (hl : l.length ≤ 1048576) (v : Qac) : Qgd l v = some (ixI (isV v) l) := by
  have := QqB hl (isV v) (fun k => (.inr (k : Int) : Unit ⊕ Int)) (N := .inl ()) (B := fun s => QaO l v s) (fun i a h => by
    show QaO l v i = _
    unfold QaO
    rw [Qbu h, incL h hl, brs]; rfl) (by
    show QaO l v l.length = _
    unfold QaO
    rw [Qa6])
  unfold Qgd Qbk
  rw [Qco this]
  unfold ixI
  cases ixP (isV v) l <;> rfl
theorem QAj (hl : l.length ≤ 1048576) (v : Qac) : Qbk l v = some (ixI (isV v) l) := by
  have := QtA hl v
  unfold Qgd at this
  obtain ⟨a, h, h'⟩ := Qae this
  rw [h, h']
theorem Qwd (hl : l.length ≤ 1048576) (v : Qac) : Qbo l v = some (l.any (isV v)) := by
  unfold Qbo
  rw [QAj hl, Qag, Qot]
theorem Qov (hl : l.length ≤ 1048576) (v : Qac) : Qdd l v = some (ixI (isV v) l) := by
  have := QqB hl (isV v) (fun k => (.inr (k : Int) : Unit ⊕ Int)) (N := .inl ()) (B := fun s => Qef l v s) (fun i a h => by
    show Qef l v i = _
    unfold Qef
    rw [Qbu h, incL h hl, brs]
    rw [show (eqI a.order v.order && (eqB a.drop v.drop && true)) = isV v a by
      rw [Bool.eq_iff_iff, isV_t]; cases v; cases a; simp]) (by
    show Qef l v l.length = _
    unfold Qef
    rw [Qa6])
  unfold Qdd
  rw [Qco this]
  unfold ixI
  cases ixP (isV v) l <;> rfl
theorem Qtw : ¬ l.Nodup ↔ ∃ k, k < l.length ∧ ∃ j, j < k ∧ l[j]? = l[k]? := by
  unfold List.Nodup
  rw [List.pairwise_iff_getElem]
  constructor
  · intro h
    refine Classical.byContradiction fun hn => h fun i j hi hj hij he => hn ⟨j, hj, i, hij, ?_⟩
    rw [List.getElem?_eq_getElem hi, List.getElem?_eq_getElem hj, he]
  · rintro ⟨k, hk, j, hj, he⟩ h
    rw [List.getElem?_eq_getElem hk, List.getElem?_eq_getElem (show j < l.length by omega)] at he
    exact h j k (by omega) hk hj (Option.some.inj he)
theorem Qqb {v : Qac} {k : Nat} (hk : k ≤ l.length) : v ∈ l.take k ↔ ∃ j, j < k ∧ l[j]? = some v := by
  rw [List.mem_iff_getElem?]
  constructor
  · rintro ⟨j, h⟩
    rw [List.getElem?_take] at h
    split at h
    · exact ⟨j, ‹_›, h⟩
    · cases h
  · rintro ⟨j, hj, h⟩
    exact ⟨j, by rw [List.getElem?_take, if_pos hj, h]⟩
theorem QAP (hl : l.length ≤ 1048576) : QiJ l = some (decide (¬ l.Nodup)) := by
  have := QtG (B := fun s => QcX l s) hl (fun k => match l[k]? with | some v => (l.take k).any (isV v) | none => false) (y := (.inr true : Unit ⊕ Bool)) (N := .inl ()) (b := decide (¬ l.Nodup)) (by
    rw [decide_eq_true_iff, Qtw]
    constructor
    · rintro ⟨k, hk, j, hj, he⟩
      refine ⟨k, hk, ?_⟩
      rw [List.getElem?_eq_getElem hk] at he ⊢
      exact any_V.2 ((Qqb (by omega)).2 ⟨j, hj, he⟩)
    · rintro ⟨k, hk, h⟩
      rw [List.getElem?_eq_getElem hk] at h
      obtain ⟨j, hj, he⟩ := (Qqb (by omega)).1 (any_V.1 h)
      exact ⟨k, hk, j, hj, by rw [he, List.getElem?_eq_getElem hk]⟩) (fun i hi => by
    have h : l[i]? = some l[i] := List.getElem?_eq_getElem hi
    show QcX l i = _
    unfold QcX
    rw [Qbu h, show slcI l 0 (i : Int) = some (l.take i) by unfold slcI; rw [if_pos (by omega)]; simp, Qag, QtA (by rw [List.length_take]; omega), Qag, incL h hl, Qot, brs]
    rw [h]) (by
    show QcX l l.length = _
    unfold QcX
    rw [Qa6])
  unfold QiJ
  rw [Qco this]
  split <;> simp_all
theorem Qvk {o : Int} : (visO x o).length ≤ 2 := by
  unfold visO
  split
  · split <;> split <;> simp
  · simp
theorem QyC (hx : QcZ x) {o : Int} (h0 : 0 ≤ o) (h1 : o < x.orders.length) : QlO x.orders o = some (visO x o) := by
  have e : x.orders[o.toNat]? = some (x.orders[o.toNat]'(by omega)) := List.getElem?_eq_getElem _
  generalize x.orders[o.toNat]'(by omega) = q at e
  have hg : getI x.orders o = some q := by unfold getI; rw [if_pos h0, e]
  unfold QlO Qlm
  rw [Qag, Qbd (by simp [lenI]; omega), hg, Qag]
  unfold visO
  rw [e]
  have hJ : ∀ l1 : List Qac, l1.length ≤ 1 → Qgp x.orders o l1 = some (l1 ++ if 0 ≤ q.drop.place then [Qac.mk o true] else []) := fun l1 hl => by
    unfold Qgp
    rw [hg, Qag, Qe6 (by unfold okN; simp; omega), br_if]
    simp only [geI_t]
    split <;> simp
  rw [hJ _ (by simp), hJ _ (by simp), Qe6 (by unfold okN; simp), brs]
  simp only [geI_t]
  split <;> rfl
theorem Qv9 (hx : QcZ x) {o : Int} (h0 : 0 ≤ o) (h1 : o < x.orders.length) : Qku x o = some (visO x o) := by
  have e : x.orders[o.toNat]? = some (x.orders[o.toNat]'(by omega)) := List.getElem?_eq_getElem _
  generalize x.orders[o.toNat]'(by omega) = q at e
  have hq := hx.ord q (List.mem_of_getElem? e)
  have hg : getI x.orders o = some q := by unfold getI; rw [if_pos h0, e]
  have hp : neI q.pick.place (-1) = decide (0 ≤ q.pick.place) := by
    have := hq.pick
    rw [Bool.eq_iff_iff, neI_t, decide_eq_true_iff]
    unfold QyB at this
    omega
  have hd : neI q.drop.place (-1) = decide (0 ≤ q.drop.place) := by
    have := hq.drop
    rw [Bool.eq_iff_iff, neI_t, decide_eq_true_iff]
    unfold QyB at this
    omega
  unfold Qku
  rw [hg, Qag]
  unfold visO
  rw [e]
  have hJ : ∀ l1 : List Qac, l1.length ≤ 1 → Qf9 x o l1 = some (l1 ++ if 0 ≤ q.drop.place then [Qac.mk o true] else []) := fun l1 hl => by
    unfold Qf9
    rw [hg, Qag, Qe6 (by unfold okN; simp; omega), hd, br_if]
    simp only [decide_eq_true_iff]
    split <;> simp
  rw [hJ _ (by simp), hJ _ (by simp), Qe6 (by unfold okN; simp), hp, brs]
  simp only [decide_eq_true_iff]
  split <;> rfl
theorem QAT {o : Int} {a b : Qac} {r : List Qac} (h : visO x o = a :: b :: r) : r = [] ∧ a ≠ b := by
  have h2 := Qvk (x := x) (o := o)
  rw [h] at h2
  have hr : r = [] := by cases r with
    | nil => rfl
    | cons c r => simp at h2
  refine ⟨hr, ?_⟩
  subst hr
  unfold visO at h
  split at h
  · split at h <;> split at h <;> simp at h
    obtain ⟨rfl, rfl⟩ := h
    simp
  · cases h
theorem Qzg (hl : l.length ≤ 1048576) {r : List Qac} (hr : r.length ≤ 2) (v : Int) : loopF (fun s => Qbh x l v r s.1 s.2) ((-1), 0) = some (if rowB l r = true then .inl () else .inr false) := by
  have out : ∀ (p : Int), Qbh x l v r p r.length = some (.inr (.inl ())) := fun p => by
    unfold Qbh
    rw [Qa6]
  have go : ∀ (k : Nat) (a : Qac) (p : Int), r[k]? = some a → Qbh x l v r p k = some (if leI (ixI (isV a) l) p = true then .inr (.inr false) else .inl (ixI (isV a) l, (k : Int) + 1)) := fun k a p h => by
    unfold Qbh
    rw [Qbu h, QtA hl, Qag, incL h (by omega), brs]
  match r, hr with
  | [], _ => exact QqV 1 (by decide) (by simp only [iterF]; rw [show Qbh x l v [] (-1) 0 = _ from out (-1)]; rfl)
  | [a], _ =>
    refine QqV 2 (by decide) ?_
    have g := go 0 a (-1) rfl
    simp only [iterF]
    rw [show Qbh x l v [a] (-1) 0 = _ from g]
    have hb := QyW (p := isV a) (l := l)
    by_cases h : leI (ixI (isV a) l) (-1) = true
    · rw [if_pos h, if_neg]
      simp only [rowB, geI_t]
      simp only [leI_t] at h
      omega
    · rw [if_neg h, if_pos]
      · simp only
        rw [show Qbh x l v [a] (ixI (isV a) l) ((0 : Nat) + 1 : Int) = _ from out _]
      · simp only [rowB, geI_t]
        simp only [leI_t] at h
        omega
  | [a, b], _ =>
    refine QqV 3 (by decide) ?_
    have g := go 0 a (-1) rfl
    have g1 := go 1 b (ixI (isV a) l) rfl
    simp only [iterF]
    rw [show Qbh x l v [a, b] (-1) 0 = _ from g]
    have hb := QyW (p := isV a) (l := l)
    by_cases h : leI (ixI (isV a) l) (-1) = true
    · rw [if_pos h, if_neg]
      simp only [rowB, geI_t, Bool.and_eq_true]
      simp only [leI_t] at h
      omega
    · rw [if_neg h]
      simp only
      rw [show Qbh x l v [a, b] (ixI (isV a) l) ((0 : Nat) + 1 : Int) = _ from g1]
      simp only [leI_t] at h
      by_cases h' : leI (ixI (isV b) l) (ixI (isV a) l) = true
      · rw [if_pos h', if_neg]
        simp only [rowB, geI_t, ltI_t, Bool.and_eq_true]
        simp only [leI_t] at h'
        omega
      · rw [if_neg h', if_pos]
        · simp only
          rw [show Qbh x l v [a, b] (ixI (isV b) l) ((1 : Nat) + 1 : Int) = _ from out _]
        · simp only [rowB, geI_t, ltI_t, Bool.and_eq_true]
          simp only [leI_t] at h'
          omega
theorem Qnu (h : l.any (fun v => !inO x v) = false) {v : Qac} (hv : v ∈ l) : 0 ≤ v.order ∧ v.order < x.orders.length := by
  have := List.any_eq_false.1 h v hv
  simpa [inO] using this
theorem Qy9 (hx : QcZ x) (hl : l.length ≤ 1048576) (ho : l.any (fun v => !inO x v) = false) : QhK x l = some (!l.any (fun v => !pairV x l v)) := by
  have := QeX (B := fun s => QcF x l s) hl (fun v => !pairV x l v) (y := (.inr false : Unit ⊕ Bool)) (N := .inl ()) (fun i a h => by
    obtain ⟨h0, h1⟩ := Qnu ho (List.mem_of_getElem? h)
    show QcF x l i = _
    unfold QcF
    have hv := Qvk (x := x) (o := a.order)
    rw [Qbu h, QyC hx h0 h1, Qag, Qwd (by omega), Qag, Qzg hl hv, Qag, incL h hl]
    unfold pairV
    cases (visO x a.order).any (isV a) <;> cases rowB l (visO x a.order) <;> rfl) (by
    show QcF x l l.length = _
    unfold QcF
    rw [Qa6])
  unfold QhK
  rw [Qco this]
  cases l.any (fun v => !pairV x l v) <;> rfl
theorem QtX (hl : l.length ≤ 1048576) {r : List Qac} (hr : r.length ≤ 2) : QiA l r = some (!r.any (fun a => ltI (ixI (isV a) l) 0)) := by
  have := QeX (B := fun s => Qc3 l r s) (l := r) (by omega) (fun a => ltI (ixI (isV a) l) 0) (y := (.inr false : Unit ⊕ Bool)) (N := .inl ()) (fun i a h => by
    show Qc3 l r i = _
    unfold Qc3
    rw [Qbu h, Qov hl, Qag, incL h (by omega), brs]) (by
    show Qc3 l r r.length = _
    unfold Qc3
    rw [Qa6])
  unfold QiA
  rw [Qco this]
  cases r.any (fun a => ltI (ixI (isV a) l) 0) <;> rfl
theorem QzH {a b : Int} : ltI a b = !geI a b := by rw [Bool.eq_iff_iff]; simp
theorem Qwo (hx : QcZ x) (hl : l.length ≤ 1048576) (ho : l.any (fun v => !inO x v) = false) : Qkw x l = some (!l.any (fun v => !pairV x l v)) := by
  have := QeX (B := fun s => QdC x l s) hl (fun v => !pairV x l v) (y := (.inr false : Unit ⊕ Bool)) (N := .inl ()) (fun i a h => by
    obtain ⟨h0, h1⟩ := Qnu ho (List.mem_of_getElem? h)
    show QdC x l i = _
    unfold QdC
    have hv := Qvk (x := x) (o := a.order)
    rw [Qbu h, Qv9 hx h0 h1, Qag, Qov (by omega), Qag, QtX hl hv, Qag, incL h hl]
    rw [QzH, Qot]
    have hP : pairV x l a = ((visO x a.order).any (isV a) && rowB l (visO x a.order)) := rfl
    generalize pairV x l a = P at hP ⊢
    cases hany : (visO x a.order).any (isV a) with
    | false => rw [hany] at hP; subst hP; rfl
    | true =>
      rw [hany, Bool.true_and] at hP
      rw [Bool.not_true, Qik]
      cases hvis : visO x a.order with
      | nil => rw [hvis] at hP; subst hP; rfl
      | cons c r =>
        cases r with
        | nil =>
          rw [hvis] at hP
          rw [List.any_cons, List.any_nil, Bool.or_false, QzH, Bool.not_not, ← show P = geI (ixI (isV c) l) 0 from hP]
          cases P <;> rfl
        | cons d r =>
          obtain ⟨rfl, hne⟩ := QAT hvis
          rw [hvis] at hP
          rw [List.any_cons, List.any_cons, List.any_nil, Bool.or_false]
          show br _ (br true (bnd (some c) fun x2 => bnd (Qdd l x2) fun r3 => bnd (some d) fun x3 => bnd (Qdd l x3) fun r4 => br (gtI r3 r4) _ _) _) _ = _
          rw [Qhf, Qag, Qov hl, Qag, Qag, Qov hl, Qag]
          simp only [rowB] at hP
          have hc := QyW (p := isV c) (l := l)
          have hd := QyW (p := isV d) (l := l)
          have hcd : 0 ≤ ixI (isV c) l → ixI (isV c) l ≠ ixI (isV d) l := fun h0 he => by
            obtain ⟨k, hk⟩ : ∃ k : Nat, ixI (isV c) l = k := ⟨(ixI (isV c) l).toNat, by omega⟩
            have e1 := (Qwm hk).1
            have e2 := (Qwm (he.symm.trans hk)).1
            rw [e1] at e2
            exact hne (Option.some.inj e2)
          generalize ixI (isV c) l = m at *
          generalize ixI (isV d) l = n at *
          cases P with
          | true =>
            have hP' := hP.symm
            simp only [Bool.and_eq_true, geI_t, ltI_t] at hP'
            rw [Qbd (by simp; omega), QaX (by simp; omega)]
            rfl
          | false =>
            have hP' := hP.symm
            simp only [Bool.and_eq_false_iff, geI_f, ltI_f] at hP'
            by_cases h1 : 0 ≤ m ∧ 0 ≤ n
            · have := hcd h1.1
              rw [Qbd (by simp; omega), Qbd (by simp; omega)]
              rfl
            · rw [QaX (by simp; omega)]
              rfl) (by
    show QdC x l l.length = _
    unfold QdC
    rw [Qa6])
  unfold Qkw
  rw [Qco this]
  cases l.any (fun v => !pairV x l v) <;> rfl
end
end Go.Proofs.YtoogjnlmicgfiaaGreatDoor
namespace Go.Proofs.YtoogjnlmicgfiaaGreatDoor
set_option linter.unusedSimpArgs false
set_option linter.unusedVariables false
set_option linter.unusedSectionVars false
section
variable {x : Qad} {l : List Qac}
theorem QAd (hl : l.length ≤ 1048576) (o : Int) : Qa8 l o = some (ixI (isO o) l) := by
  have := QqB hl (isO o) (fun k => (.inr (k : Int) : Unit ⊕ Int)) (N := .inl ()) (B := fun s => QaD l o s) (fun i a h => by
    show QaD l o i = _
    unfold QaD Qlf
    rw [Qbu h, Qag, incL h hl, brs]; rfl) (by
    show QaD l o l.length = _
    unfold QaD
    rw [Qa6])
  unfold Qa8
  rw [Qco this]
  unfold ixI
  cases ixP (isO o) l <;> rfl
theorem Qwj (hl : l.length ≤ 1048576) (o : Int) : Qa1 l o = some (ixI (isO o) l) := by
  have := QqB hl (isO o) (fun k => (.inr (k : Int) : Unit ⊕ Int)) (N := .inl ()) (B := fun s => Qay l o s) (fun i a h => by
    show Qay l o i = _
    unfold Qay QhO
    rw [Qbu h, Qag, incL h hl, brs]; rfl) (by
    show Qay l o l.length = _
    unfold Qay
    rw [Qa6])
  unfold Qa1
  rw [Qco this]
  unfold ixI
  cases ixP (isO o) l <;> rfl
theorem QvZ (hl : l.length ≤ 1048576) (o : Int) : Qg2 l o = some (hasO l o) := by
  unfold Qg2 Qbj
  rw [QAd hl, Qag, Qag, Qot]
  rfl
theorem Qwk (hl : l.length ≤ 1048576) : QaY l x = some (l.any fun v => !inO x v) := by
  have := QqB hl (fun v => !inO x v) (fun k => (.inr (k : Int) : Unit ⊕ Int)) (N := .inl ()) (B := fun s => QaA l x s) (fun i a h => by
    show QaA l x i = _
    unfold QaA QiG
    rw [Qbu h, Qag, incL h hl, brs]
    rw [show (ltI a.order 0 || geI a.order (lenI x.orders)) = !inO x a by
      unfold inO lenI; rw [Bool.eq_iff_iff]; simp]) (by
    show QaA l x l.length = _
    unfold QaA
    rw [Qa6])
  have e : Qa3 l x = some (ixI (fun v => !inO x v) l) := by
    unfold Qa3
    rw [Qco this]
    unfold ixI
    cases ixP (fun v => !inO x v) l <;> rfl
  unfold QaY
  rw [e, Qag, Qot]
theorem QvR {v : Qac} (h0 : 0 ≤ v.order) (h1 : v.order < x.orders.length) : ∃ o, getI x.orders v.order = some o ∧ o ∈ x.orders ∧ offV x v = o.off ∧ x.orders[v.order.toNat]? = some o := by
  have e : x.orders[v.order.toNat]? = some (x.orders[v.order.toNat]'(by omega)) := List.getElem?_eq_getElem _
  refine ⟨_, Qs0 h0 h1, List.getElem_mem _, ?_, e⟩
  unfold offV
  rw [e]
theorem Qwl (hl : l.length ≤ 1048576) (ho : l.any (fun v => !inO x v) = false) : QaZ l x = some (l.any (offV x)) := by
  have := QqB hl (offV x) (fun k => (.inr (k : Int) : Unit ⊕ Int)) (N := .inl ()) (B := fun s => QaB l x s) (fun i a h => by
    obtain ⟨h0, h1⟩ := Qnu ho (List.mem_of_getElem? h)
    obtain ⟨o, g1, g2, g3, _⟩ := QvR h0 h1
    show QaB l x i = _
    unfold QaB QiH
    rw [Qbu h, g1, Qag, Qag, incL h hl, brs, g3]) (by
    show QaB l x l.length = _
    unfold QaB
    rw [Qa6])
  have e : Qa4 l x = some (ixI (offV x) l) := by
    unfold Qa4
    rw [Qco this]
    unfold ixI
    cases ixP (offV x) l <;> rfl
  unfold QaZ
  rw [e, Qag, Qot]
theorem Qyi (hl : l.length ≤ 1048576) (p : QaW) : QhJ l p.x0 p.x1 = some (!badB l p) := by
  unfold QhJ
  rw [Qwj hl, Qag, QvZ hl, Qag]
  unfold badB
  have hh : hasO l p.x1 = geI (ixI (isO p.x1) l) 0 := Qot.symm
  rw [hh]
  unfold lateB ixI
  cases h : ixP (isO p.x1) l with
  | none => rfl
  | some k =>
    have hk := (QpV h).1
    simp only
    rw [QaX (by simp), show slcI l (k : Int) (lenI l) = some (l.drop k) by
      unfold slcI lenI; rw [if_pos (by omega)]; congr 1; rw [List.take_of_length_le]; · rfl
      · simp]
    rw [Qag, QvZ (by simp; omega), Qag, show geI (k : Int) 0 = true by simp]
    cases hasO l p.x0 <;> cases hasO (l.drop k) p.x0 <;> rfl
theorem QuF {r : Qab} (hx : QcZ x) (hl : r.visits.length ≤ 1048576) : Qhd x r = some (seqS x r.visits) := by
  unfold Qhd seqS
  by_cases h0 : r.visits.length = 0
  · rw [Qbd (by simp [lenI, h0]), if_pos h0]
  rw [QaX (by simp only [lenI, eqI_f]; omega), if_neg h0, Qwk hl, Qag]
  by_cases h1 : r.visits.any (fun v => !inO x v) = true
  · rw [Qbd h1, if_pos h1]
  have h1' : r.visits.any (fun v => !inO x v) = false := by simpa using h1
  rw [QaX h1', if_neg h1, Qwl hl h1', Qag]
  by_cases h2 : r.visits.any (offV x) = true
  · rw [Qbd h2, if_pos h2]
  rw [QaX (by simpa using h2), if_neg h2, QAP hl, Qag]
  by_cases h3 : ¬ r.visits.Nodup
  · rw [Qbd (decide_eq_true h3), if_pos h3]
  rw [QaX (decide_eq_false h3), if_neg h3, Qy9 hx hl h1', Qag]
  by_cases h4 : r.visits.any (fun v => !pairV x r.visits v) = true
  · rw [QaX (by rw [h4]; rfl), if_pos h4]
  rw [Qbd (by simpa using h4), if_neg h4]
  have ha := hx.apart
  have hb := hx.before
  rw [Qco (QeX (B := fun s => QcW x r s) (l := x.apart) (by omega) (QrR r.visits) (y := (.inr 20 : Unit ⊕ Int)) (N := .inl ()) (fun i a h => by
    show QcW x r i = _
    unfold QcW
    rw [Qbu h, QvZ hl, Qag, QvZ hl, Qag, incL h (by omega)]
    unfold QrR
    cases hasO r.visits a.x0 <;> cases hasO r.visits a.x1 <;> rfl) (by
    show QcW x r x.apart.length = _
    unfold QcW
    rw [Qa6]))]
  by_cases h5 : x.apart.any (QrR r.visits) = true
  · rw [if_pos h5, if_pos h5]; rfl
  rw [if_neg h5, if_neg h5, QeY]
  rw [Qco (QeX (B := fun s => Qcz x r s) (l := x.before) (by omega) (badB r.visits) (y := (.inr 21 : Unit ⊕ Int)) (N := .inl ()) (fun i a h => by
    show Qcz x r i = _
    unfold Qcz
    rw [Qbu h, Qyi hl, Qag, incL h (by omega)]
    cases badB r.visits a <;> rfl) (by
    show Qcz x r x.before.length = _
    unfold Qcz
    rw [Qa6]))]
  by_cases h6 : x.before.any (badB r.visits) = true
  · rw [if_pos h6, if_pos h6]; rfl
  · rw [if_neg h6, if_neg h6]; rfl
theorem Qxr {m : Nat} (hm : m < 9223372036854775808) {i : Int} (h0 : 0 ≤ i) (h1 : i ≤ 62) : Qfq (m : Int) i = some (m.testBit i.toNat) := by
  obtain ⟨k, rfl⟩ : ∃ k : Nat, i = k := ⟨i.toNat, by omega⟩
  unfold Qfq
  rw [Qbd (by simp; omega), cvuN (by omega), Qe6 (by omega), shrN (by omega), QtS]
  rfl
/-- What a set is that stands for the orders of a route. -/
structure SetOf (l : List Qac) (s : Int) : Prop where
  ex : ∃ m : Nat, s = m ∧ m < 1024 ∧ ∀ i : Nat, m.testBit i = hasO l (i : Int)
theorem QAA {r : Qab} (hx : QcZ x) (hl : r.visits.length ≤ 1048576) (ho : r.visits.any (fun v => !inO x v) = false) : post (Qkt r) fun s => s.2 = 0 ∧ SetOf r.visits s.1 := by
  have hx10 := hx.orders
  unfold Qkt
  refine QnF ?_
  refine Qb5 (fun s => ∃ (k m : Nat), s = ((m : Int), (k : Int)) ∧ k ≤ r.visits.length ∧ m < 1024 ∧ ∀ i : Nat, m.testBit i = hasO (r.visits.take k) (i : Int)) (fun s => r.visits.length - s.2.toNat) ⟨0, 0, rfl, Nat.zero_le _, by omega, fun i => by simp [hasO]⟩ (by simp; omega) ?_
  rintro _ ⟨k, m, rfl, hk, hm, hb⟩
  show post (QhV r (m : Int) (k : Int)) _
  unfold QhV
  rcases Nat.lt_or_ge k r.visits.length with h | h
  · have e : r.visits[k]? = some r.visits[k] := List.getElem?_eq_getElem h
    have hin := Qnu ho (List.getElem_mem h)
    have htk : r.visits.take (k + 1) = r.visits.take k ++ [r.visits[k]] := by rw [List.take_add_one, e]; rfl
    generalize r.visits[k] = v at e hin htk
    obtain ⟨n, hn⟩ : ∃ n : Nat, v.order = n := ⟨v.order.toNat, by omega⟩
    have hov : ∀ i : Nat, hasO (r.visits.take (k + 1)) (i : Int) = (hasO (r.visits.take k) (i : Int) || decide (n = i)) := fun i => by
      rw [htk]
      unfold hasO
      rw [List.any_append, List.any_cons, List.any_nil, Bool.or_false]
      congr 1
      rw [Bool.eq_iff_iff, isO_t, hn, decide_eq_true_iff]
      omega
    rw [Qbu e, QaX (by rw [hn]; simp; omega), Qxr (by omega) (by omega) (by omega), Qag, incL e hl, hn]
    simp only [Int.toNat_natCast]
    refine QaG (fun h1 => Qc0 ⟨⟨k + 1, m, rfl, h, hm, fun i => ?_⟩, by simp; omega⟩) (fun h1 => ?_)
    · rw [hov, ← hb]
      by_cases hi : n = i
      · subst hi; rw [h1]; rfl
      · rw [decide_eq_false hi, Bool.or_false]
    · rw [cvuN (by omega), Qe6 (by omega), shlN (by omega)]
      have h2 : 2 ^ n ≤ 2 ^ 9 := Nat.pow_le_pow_right (by omega) (by omega)
      have h3 : (0 : Int) ≤ ((2 ^ n : Nat) : Int) ∧ ((2 ^ n : Nat) : Int) ≤ 512 := ⟨Int.natCast_nonneg _, Int.ofNat_le.2 (show 2 ^ n ≤ 512 by omega)⟩
      rw [addI (by omega) (by omega)]
      have hbit : ∀ i, (m + 2 ^ n).testBit i = hasO (r.visits.take (k + 1)) (i : Int) := fun i => by rw [Qzr h1, hov, hb]
      refine Qc0 ⟨⟨k + 1, m + 2 ^ n, by simp, h, ?_, hbit⟩, by simp; omega⟩
      refine Nat.lt_pow_two_of_testBit (n := 10) _ fun i hi => ?_
      rw [hbit]
      rw [Bool.eq_false_iff]
      intro hh
      obtain ⟨w, hw, hwi⟩ := Qtp.1 hh
      have := Qnu ho (List.mem_of_mem_take hw)
      omega
  · obtain rfl : k = r.visits.length := by omega
    rw [Qa6]
    refine QbN ?_
    rw [QeY]
    exact Qar.2 ⟨rfl, ⟨m, rfl, hm, fun i => by rw [hb, List.take_length]⟩⟩
theorem SetOf.has {s : Int} (h : SetOf l s) {i : Int} (h0 : 0 ≤ i) (h1 : i ≤ 62) : Qfq s i = some (hasO l i) := by
  obtain ⟨m, rfl, hm, hb⟩ := h.ex
  rw [Qxr (by omega) h0 h1, hb, Int.toNat_of_nonneg h0]
theorem QwU (hx : QcZ x) {s : Int} (h : SetOf l s) : QlF x s = some (!x.apart.any (QrR l)) := by
  have ha := hx.apart
  have hx10 := hx.orders
  have := QeX (B := fun i => Qeg x s i) (l := x.apart) (by omega) (QrR l) (y := (.inr false : Unit ⊕ Bool)) (N := .inl ()) (fun i a ha' => by
    obtain ⟨p0, p1, p2, p3, p4⟩ := hx.aparts a (List.mem_of_getElem? ha')
    show Qeg x s i = _
    unfold Qeg
    rw [Qbu ha', h.has p0 (by omega), Qag, h.has p2 (by omega), Qag, incL ha' (by omega)]
    unfold QrR
    cases hasO l a.x0 <;> cases hasO l a.x1 <;> rfl) (by
    show Qeg x s x.apart.length = _
    unfold Qeg
    rw [Qa6])
  unfold QlF
  rw [Qco this]
  cases x.apart.any (QrR l) <;> rfl
theorem QAo {p : QaW} (hne : p.x0 ≠ p.x1) (hb : hasO l p.x1 = true) : lateB l p = true ↔ ∃ j, j < l.length ∧ ∃ k, k < j ∧ (∃ v, l[j]? = some v ∧ v.order = p.x0) ∧ ∃ w, l[k]? = some w ∧ w.order = p.x1 := by
  unfold lateB
  cases h : ixP (isO p.x1) l with
  | none =>
    obtain ⟨w, hw, he⟩ := Qtp.1 hb
    have := QuV h w hw
    rw [isO_t.2 he] at this
    cases this
  | some m =>
    obtain ⟨g1, g2, g3⟩ := QpV h
    simp only
    rw [Qtp]
    constructor
    · rintro ⟨v, hv, he⟩
      obtain ⟨q, hq, rfl⟩ := List.getElem_of_mem hv
      rw [List.length_drop] at hq
      rw [List.getElem_drop] at he
      have hmq : q ≠ 0 := fun h0 => by subst h0; exact hne (he.symm.trans (isO_t.1 (by simpa using g2)))
      exact ⟨m + q, by omega, m, by omega, ⟨_, List.getElem?_eq_getElem (by omega), he⟩, ⟨_, List.getElem?_eq_getElem g1, isO_t.1 g2⟩⟩
    · rintro ⟨j, hj, k, hk, ⟨v, hv, he⟩, ⟨w, hw, hwe⟩⟩
      have hmk : m ≤ k := Nat.le_of_not_lt fun hlt => by
        have := g3 k hlt
        rw [List.getElem?_eq_getElem (show k < l.length by omega)] at hw
        rw [Option.some.inj hw, isO_t.2 hwe] at this
        cases this
      exact ⟨v, List.mem_iff_getElem?.2 ⟨j - m, by rw [List.getElem?_drop, show m + (j - m) = j by omega, hv]⟩, he⟩
theorem Qwa (hx : QcZ x) (hl : l.length ≤ 1048576) {s : Int} (h : SetOf l s) : Qkv x s l = some (!x.before.any (badB l)) := by
  have hbf := hx.before
  have hx10 := hx.orders
  have := QeX (B := fun i => Qdz x s l i) (l := x.before) (by omega) (badB l) (y := (.inr false : Unit ⊕ Bool)) (N := .inl ()) (fun i a ha' => by
    obtain ⟨p0, p1, p2, p3, p4⟩ := hx.befores a (List.mem_of_getElem? ha')
    show Qdz x s l i = _
    unfold Qdz
    rw [Qbu ha', h.has p2 (by omega), Qag, h.has p0 (by omega), Qag, incL ha' (by omega)]
    have hP : badB l a = (hasO l a.x1 && (!hasO l a.x0 || lateB l a)) := rfl
    generalize badB l a = P at hP ⊢
    cases hb : hasO l a.x1 with
    | false => rw [hb] at hP; subst hP; rfl
    | true =>
      rw [hb] at hP
      cases hq : hasO l a.x0 with
      | false => rw [hq] at hP; subst hP; rfl
      | true =>
        rw [hq] at hP
        obtain rfl : P = lateB l a := hP
        have inner : loopF (fun q => QdA x s l (i : Int) a q) 0 = some (if lateB l a = true then .inr false else .inl ()) := by
          refine QtG hl (fun j => (List.range j).any fun k => match l[j]?, l[k]? with | some v, some w => decide (v.order = a.x0) && decide (w.order = a.x1) | _, _ => false) ?_ (fun j hj => ?_) ?_
          · rw [QAo p4 hb]
            constructor
            · rintro ⟨j, hj, k, hk, ⟨v, hv, e1⟩, ⟨w, hw, e2⟩⟩
              refine ⟨j, hj, List.any_eq_true.2 ⟨k, List.mem_range.2 hk, ?_⟩⟩
              rw [hv, hw]; simp [e1, e2]
            · rintro ⟨j, hj, hh⟩
              obtain ⟨k, hk, hm⟩ := List.any_eq_true.1 hh
              rw [List.mem_range] at hk
              rw [List.getElem?_eq_getElem hj, List.getElem?_eq_getElem (show k < l.length by omega)] at hm
              simp only [Bool.and_eq_true, decide_eq_true_iff] at hm
              exact ⟨j, hj, k, hk, ⟨_, List.getElem?_eq_getElem hj, hm.1⟩, ⟨_, List.getElem?_eq_getElem (show k < l.length by omega), hm.2⟩⟩
          · have ej : l[j]? = some l[j] := List.getElem?_eq_getElem hj
            show QdA x s l (i : Int) a j = _
            unfold QdA
            rw [Qbd (by simp [lenI]; omega), inc hj hl]
            have in2 := QtG (B := fun q => QdB x s l (i : Int) a (j : Int) q) (n := j) (by omega) (fun k => match l[j]?, l[k]? with | some v, some w => decide (v.order = a.x0) && decide (w.order = a.x1) | _, _ => false) (y := (.inr false : Unit ⊕ Bool)) (N := .inl ())
              (b := (List.range j).any fun k => match l[j]?, l[k]? with | some v, some w => decide (v.order = a.x0) && decide (w.order = a.x1) | _, _ => false) (by
                rw [List.any_eq_true]
                exact ⟨fun ⟨k, hk, hm⟩ => ⟨k, List.mem_range.1 hk, hm⟩, fun ⟨k, hk, hm⟩ => ⟨k, List.mem_range.2 hk, hm⟩⟩) (fun k hk => by
              have ek : l[k]? = some (l[k]'(by omega)) := List.getElem?_eq_getElem _
              show QdB x s l (i : Int) a (j : Int) k = _
              unfold QdB
              rw [Qbd (by simp; omega), QaL ej, Qag, QaL ek, Qag, inc (n := l.length) (by omega) hl, ej, ek]
              simp only [brs, eqI_t, Bool.and_eq_true, decide_eq_true_iff]
              by_cases c1 : (l[j]).order = a.x0
              · rw [if_pos c1]
                by_cases c2 : (l[k]'(by omega)).order = a.x1
                · rw [if_pos c2, if_pos ⟨c1, c2⟩]
                · rw [if_neg c2, if_neg fun h => c2 h.2]
              · rw [if_neg c1, if_neg fun h => c1 h.1]) (by
              show QdB x s l (i : Int) a (j : Int) j = _
              unfold QdB
              rw [QaX (by simp)])
            rw [Qco in2]
            split <;> rfl
          · show QdA x s l (i : Int) a l.length = _
            unfold QdA
            rw [QaX (by simp [lenI])]
        rw [Qhf, Qhf, Qco inner]
        cases lateB l a <;> rfl) (by
    show Qdz x s l x.before.length = _
    unfold Qdz
    rw [Qa6])
  unfold Qkv
  rw [Qco this]
  cases x.before.any (badB l) <;> rfl
theorem QtP {r : Qab} (hx : QcZ x) (hl : r.visits.length ≤ 1048576) : Qiz x r = some (seqS x r.visits) := by
  unfold Qiz seqS
  rw [Qco (QeX (B := fun s => Qec x r s) hl (fun v => !inO x v) (y := (.inr 2 : Unit ⊕ Int)) (N := .inl ()) (fun i a h => by
    show Qec x r i = _
    unfold Qec
    rw [Qbu h, incL h hl]
    have hP : (!inO x a) = (ltI a.order 0 || geI a.order (lenI x.orders)) := by
      unfold inO lenI; rw [Bool.eq_iff_iff]; simp
    rw [hP]
    cases ltI a.order 0 <;> cases geI a.order (lenI x.orders) <;> rfl) (by
    show Qec x r r.visits.length = _
    unfold Qec
    rw [Qa6]))]
  by_cases h1 : r.visits.any (fun v => !inO x v) = true
  · rw [if_pos h1, Qhm]
    split <;> rfl
  have h1' : r.visits.any (fun v => !inO x v) = false := by simpa using h1
  rw [if_neg h1, if_neg h1, QeY]
  obtain ⟨s, hs, hs0, hset⟩ := QAA hx hl h1'
  rw [hs, Qag, hs0]
  by_cases h0 : r.visits.length = 0
  · rw [Qbd (by simp [lenI, h0]), if_pos h0]
  rw [QaX (by simp only [lenI, neI, orF, eqI_f]; simp; intro h; exact h0 (by rw [h]; rfl)), if_neg h0]
  rw [Qco (QeX (B := fun q => Qed x r s q) hl (offV x) (y := (.inr 9 : Unit ⊕ Int)) (N := .inl ()) (fun i a h => by
    obtain ⟨h0, h1⟩ := Qnu h1' (List.mem_of_getElem? h)
    obtain ⟨o, g1, g2, g3, _⟩ := QvR h0 h1
    show Qed x r s i = _
    unfold Qed
    rw [Qbu h, g1, Qag, incL h hl, brs, g3]) (by
    show Qed x r s r.visits.length = _
    unfold Qed
    rw [Qa6]))]
  by_cases h2 : r.visits.any (offV x) = true
  · rw [if_pos h2, if_pos h2]; rfl
  rw [if_neg h2, if_neg h2, QeY]
  rw [Qco (QtG (B := fun q => Qee x r s q) hl (fun k => match r.visits[k]? with | some v => neI (ixI (isV v) r.visits) (k : Int) | none => false) (y := (.inr 6 : Unit ⊕ Int)) (N := .inl ()) (b := decide (¬ r.visits.Nodup)) (by
    rw [decide_eq_true_iff, Qtw]
    constructor
    · rintro ⟨k, hk, j, hj, he⟩
      refine ⟨k, hk, ?_⟩
      rw [List.getElem?_eq_getElem hk] at he ⊢
      simp only [neI_t]
      intro h
      exact (Qwm h).2 j hj he
    · rintro ⟨k, hk, h⟩
      rw [List.getElem?_eq_getElem hk] at h
      simp only [neI_t] at h
      have h0 := QBI.2 (List.getElem_mem hk)
      obtain ⟨m, hm⟩ : ∃ m : Nat, ixI (isV r.visits[k]) r.visits = m := ⟨(ixI (isV r.visits[k]) r.visits).toNat, by omega⟩
      obtain ⟨g1, g2⟩ := Qwm hm
      have hmk : m < k := by
        rcases Nat.lt_trichotomy m k with h' | h' | h'
        · exact h'
        · exact absurd (by rw [hm, h']) h
        · exact absurd (List.getElem?_eq_getElem hk) (g2 k h')
      exact ⟨k, hk, m, hmk, by rw [g1, List.getElem?_eq_getElem hk]⟩) (fun i hi => by
    have h : r.visits[i]? = some r.visits[i] := List.getElem?_eq_getElem hi
    show Qee x r s i = _
    unfold Qee
    rw [Qbu h, Qov hl, Qag, incL h hl, brs, h]) (by
    show Qee x r s r.visits.length = _
    unfold Qee
    rw [Qa6]))]
  by_cases h3 : ¬ r.visits.Nodup
  · rw [if_pos (decide_eq_true h3), if_pos h3]; rfl
  rw [if_neg (by rw [decide_eq_false h3]; decide), if_neg h3, QeY, Qwo hx hl h1', Qag]
  by_cases h4 : r.visits.any (fun v => !pairV x r.visits v) = true
  · rw [QaX (by rw [h4]; rfl), if_pos h4]
  rw [Qbd (by simpa using h4), if_neg h4, QwU hx hset, Qag]
  by_cases h5 : x.apart.any (QrR r.visits) = true
  · rw [QaX (by rw [h5]; rfl), if_pos h5]
  rw [Qbd (by simpa using h5), if_neg h5, Qwa hx hl hset, Qag]
  by_cases h6 : x.before.any (badB r.visits) = true
  · rw [QaX (by rw [h6]; rfl), if_pos h6]
  · rw [Qbd (by simpa using h6), if_neg h6]
end
end Go.Proofs.YtoogjnlmicgfiaaGreatDoor
namespace Go.Proofs.YtoogjnlmicgfiaaGreatDoor
set_option linter.unusedSimpArgs false
set_option linter.unusedVariables false
set_option linter.unusedSectionVars false
def sumN : Nat → (Nat → Int) → Int
  | 0, _ => 0
  | n + 1, f => sumN n f + f n
theorem QuA {f g : Nat → Int} : ∀ n, (∀ i, i < n → f i = g i) → sumN n f = sumN n g
  | 0, _ => rfl
  | n + 1, h => by unfold sumN; rw [QuA n fun i hi => h i (by omega), h n (by omega)]
theorem Qyt {f g : Nat → Int} {o : Nat} : ∀ n, o < n → (∀ i, i ≠ o → g i = f i) → sumN n g = sumN n f + (g o - f o)
  | 0, h, _ => by omega
  | n + 1, h, hg => by
    unfold sumN
    rcases Nat.lt_or_eq_of_le (Nat.le_of_lt_succ h) with h' | rfl
    · rw [Qyt n h' hg, hg n (by omega)]; omega
    · rw [QuA _ fun i hi => hg i (by omega)]; omega
theorem Qv3 {f : Nat → Int} {n : Nat} : ∀ m, n ≤ m → (∀ i, n ≤ i → f i = 0) → sumN m f = sumN n f
  | 0, h, _ => by obtain rfl : n = 0 := by omega
                  rfl
  | m + 1, h, hf => by
    rcases Nat.lt_or_eq_of_le h with h' | rfl
    · unfold sumN; rw [Qv3 m (by omega) hf, hf m (by omega)]
      cases n <;> simp [sumN]
    · rfl
theorem QzR {f : Nat → Int} {c : Int} (hc : 0 ≤ c) : ∀ n, (∀ i, 0 ≤ f i ∧ f i ≤ c) → 0 ≤ sumN n f ∧ sumN n f ≤ n * c
  | 0, _ => by simp [sumN]
  | n + 1, h => by
    have h1 := QzR hc n h
    have h2 := h n
    unfold sumN
    rw [show ((n + 1 : Nat) : Int) * c = n * c + c by rw [Int.natCast_add, Int.add_mul]; simp]
    omega
def vecN (D : Nat) (f : Nat → Int) : List Int := (List.range D).map f
theorem Qfa {D : Nat} {f : Nat → Int} : (vecN D f).length = D := by simp [vecN]
theorem QhX {D : Nat} {f : Nat → Int} {k : Nat} (h : k < D) : (vecN D f)[k]? = some (f k) := by simp [vecN, h]
theorem Qg4 {D : Nat} {f g : Nat → Int} (h : ∀ d, d < D → f d = g d) : vecN D f = vecN D g := by
  unfold vecN
  exact List.map_congr_left fun d hd => h d (List.mem_range.1 hd)
theorem QtO {D : Nat} {f : Nat → Int} {k : Nat} {y : Int} (h : k < D) : setI (vecN D f) (k : Int) y = vecN D (fun d => if d = k then y else f d) := by
  unfold setI
  refine List.ext_getElem? fun i => ?_
  rw [List.getElem?_set]
  simp only [Int.toNat_natCast, Qfa]
  split
  · rename_i he
    subst he
    exact ((QhX (f := fun d => if d = k then y else f d) h).trans (by simp)).symm
  · rename_i he
    rcases Nat.lt_or_ge i D with h' | h'
    · rw [QhX h', QhX h', if_neg (by omega)]
    · rw [List.getElem?_eq_none (by rw [Qfa]; omega), List.getElem?_eq_none (by rw [Qfa]; omega)]
theorem QBy {l : List Int} : l = vecN l.length (fun d => l.getD d 0) := by
  refine List.ext_getElem? fun i => ?_
  rcases Nat.lt_or_ge i l.length with h | h
  · rw [QhX h, List.getElem?_eq_getElem h, List.getD_eq_getElem?_getD, List.getElem?_eq_getElem h]; rfl
  · rw [List.getElem?_eq_none h, List.getElem?_eq_none (by rw [Qfa]; omega)]
theorem Qvx {D : Nat} {f g h : Nat → Int} (hD : D ≤ 3) {B : List Int × Int → Option ((List Int × Int) ⊕ (List Int))}
    (hin : ∀ (k : Nat) (l1 : List Int), k < D → l1.length = D → B (l1, (k : Int)) = some (.inl (setI l1 k (h k), (k : Int) + 1))) (hend : ∀ l1 : List Int, B (l1, (D : Int)) = some (.inr l1)) :
    loopF B (List.replicate D 0, 0) = some (vecN D h) := by
  have h0 : (List.replicate D (0 : Int), (0 : Int)) = (vecN D (fun d => if d < 0 then h d else 0), ((0 : Nat) : Int)) := by
    congr 1
    refine List.ext_getElem? fun i => ?_
    rcases Nat.lt_or_ge i D with h | h
    · rw [QhX h]; simp [h]
    · rw [List.getElem?_eq_none (by simp; omega), List.getElem?_eq_none (by rw [Qfa]; omega)]
  rw [h0]
  refine Qeo D (fun k => (vecN D (fun d => if d < k then h d else 0), (k : Int))) (by omega) (fun k hk => ?_) ?_
  · rw [hin k _ hk Qfa, QtO hk]
    simp only [Int.natCast_add, Int.cast_ofNat_Int]
    congr 3
    refine Qg4 fun d hd => ?_
    by_cases h1 : d = k
    · rw [if_pos h1, if_pos (by omega), h1]
    · rw [if_neg h1]
      by_cases h2 : d < k
      · rw [if_pos h2, if_pos (by omega)]
      · rw [if_neg h2, if_neg (by omega)]
  · rw [hend]
    congr 2
    exact Qg4 fun d hd => if_pos hd
theorem QAW {D : Nat} {f g : Nat → Int} (hD : D ≤ 3) (hf : ∀ d, d < D → -4000000000 ≤ f d ∧ f d ≤ 4000000000) (hg : ∀ d, d < D → -4000000000 ≤ g d ∧ g d ≤ 4000000000) : Qpg (vecN D f) (vecN D g) = some (vecN D (fun d => f d + g d), 0) := by
  unfold Qpg Qg6
  rw [QaX (by simp [lenI, Qfa])]
  have hm : mkI (lenI (vecN D f)) (lenI (vecN D f)) 8 (0 : Int) = some (List.replicate D 0) := by
    unfold mkI lenI
    rw [Qfa, if_pos (by omega)]
    rfl
  rw [hm, Qag]
  rw [Qco (Qvx (D := D) (f := f) (g := g) (h := fun d => f d + g d) hD (B := fun s => QbP (vecN D f) (vecN D g) (List.replicate D 0) s.1 s.2) (fun k l1 hk hl => by
    have a1 := hf k hk
    have a2 := hg k hk
    show QbP (vecN D f) (vecN D g) (List.replicate D 0) l1 k = _
    unfold QbP Qqk
    rw [Qbu (QhX hk), QaL (QhX hk), Qag, Qag, QyQ (by omega), Qag, addI (by omega) (by omega), addI (by omega) (by omega)]) (fun l1 => by
    show QbP (vecN D f) (vecN D g) (List.replicate D 0) l1 D = _
    unfold QbP
    rw [QaX (by simp [lenI, Qfa])]))]
  rfl
theorem QBA {D : Nat} {f g : Nat → Int} (hD : D ≤ 3) (hf : ∀ d, d < D → -4000000000 ≤ f d ∧ f d ≤ 4000000000) (hg : ∀ d, d < D → -4000000000 ≤ g d ∧ g d ≤ 4000000000) : Qqj (vecN D f) (vecN D g) = some (vecN D (fun d => f d - g d), 0) := by
  unfold Qqj Qgu
  rw [QaX (by simp [lenI, Qfa])]
  have hm : mkI (lenI (vecN D f)) (lenI (vecN D f)) 8 (0 : Int) = some (List.replicate D 0) := by
    unfold mkI lenI
    rw [Qfa, if_pos (by omega)]
    rfl
  rw [hm, Qag]
  rw [Qco (Qvx (D := D) (f := f) (g := g) (h := fun d => f d - g d) hD (B := fun s => QbH (vecN D f) (vecN D g) (List.replicate D 0) s.1 s.2) (fun k l1 hk hl => by
    have a1 := hf k hk
    have a2 := hg k hk
    show QbH (vecN D f) (vecN D g) (List.replicate D 0) l1 k = _
    unfold QbH Qph
    rw [Qbu (QhX hk), QaL (QhX hk), Qag, Qag, QyQ (by omega), Qag, subI (by omega) (by omega), addI (by omega) (by omega)]) (fun l1 => by
    show QbH (vecN D f) (vecN D g) (List.replicate D 0) l1 D = _
    unfold QbH
    rw [QaX (by simp [lenI, Qfa])]))]
  rfl
section
variable {x : Qad} {l : List Qac} {r : Qab}
theorem SetOf.Has {s : Int} (h : SetOf l s) {i : Int} (h0 : 0 ≤ i) (h1 : i ≤ 62) : Qsq s i = some (hasO l i) := by
  obtain ⟨m, rfl, hm, hb⟩ := h.ex
  obtain ⟨k, rfl⟩ : ∃ k : Nat, i = k := ⟨i.toNat, by omega⟩
  unfold Qsq
  rw [Qbd (by simp; omega), Qe6 (by omega), shrN (by omega)]
  have hd := Nat.div_le_self m (2 ^ k)
  rw [show (1 : Int) = ((1 : Nat) : Int) from rfl, andN (by omega) (by omega), Nat.and_one_is_mod, ← hb, Nat.testBit_eq_decide_div_mod_eq]
  congr 1
  generalize m / 2 ^ k = q
  rw [Bool.eq_iff_iff, eqI_t, decide_eq_true_iff]
  omega
theorem QsS (hx : QcZ x) (hl : r.visits.length ≤ 1048576) (ho : r.visits.any (fun v => !inO x v) = false) : post (Qgq r) fun s => s.2 = 0 ∧ SetOf r.visits s.1 := by
  have hx10 := hx.orders
  unfold Qgq
  refine QnF ?_
  refine Qb5 (fun s => ∃ (k m : Nat), s = ((m : Int), (k : Int)) ∧ k ≤ r.visits.length ∧ m < 1024 ∧ ∀ i : Nat, m.testBit i = hasO (r.visits.take k) (i : Int)) (fun s => r.visits.length - s.2.toNat) ⟨0, 0, rfl, Nat.zero_le _, by omega, fun i => by simp [hasO]⟩ (by simp; omega) ?_
  rintro _ ⟨k, m, rfl, hk, hm, hb⟩
  show post (QeN r (m : Int) (k : Int)) _
  unfold QeN
  rcases Nat.lt_or_ge k r.visits.length with h | h
  · have e : r.visits[k]? = some r.visits[k] := List.getElem?_eq_getElem h
    have hin := Qnu ho (List.getElem_mem h)
    have htk : r.visits.take (k + 1) = r.visits.take k ++ [r.visits[k]] := by rw [List.take_add_one, e]; rfl
    generalize r.visits[k] = v at e hin htk
    obtain ⟨n, hn⟩ : ∃ n : Nat, v.order = n := ⟨v.order.toNat, by omega⟩
    have hov : ∀ i : Nat, hasO (r.visits.take (k + 1)) (i : Int) = (hasO (r.visits.take k) (i : Int) || decide (n = i)) := fun i => by
      rw [htk]
      unfold hasO
      rw [List.any_append, List.any_cons, List.any_nil, Bool.or_false]
      congr 1
      rw [Bool.eq_iff_iff, isO_t, hn, decide_eq_true_iff]
      omega
    have h2 : 2 ^ n ≤ 2 ^ 9 := Nat.pow_le_pow_right (by omega) (by omega)
    rw [Qbu e, QaX (by rw [hn]; simp; omega), Qe6 (by omega), incL e hl, hn, shlN (by omega), orN (by omega) (by omega)]
    have hbit : ∀ i, (m ||| 2 ^ n).testBit i = hasO (r.visits.take (k + 1)) (i : Int) := fun i => by rw [Nat.testBit_or, Nat.testBit_two_pow, hov, hb]
    refine Qc0 ⟨⟨k + 1, m ||| 2 ^ n, by simp, h, ?_, hbit⟩, by simp; omega⟩
    exact Nat.or_lt_two_pow (n := 10) hm (by omega)
  · obtain rfl : k = r.visits.length := by omega
    rw [Qa6]
    refine QbN ?_
    rw [QeY]
    exact Qar.2 ⟨rfl, ⟨m, rfl, hm, fun i => by rw [hb, List.take_length]⟩⟩
/-- The members of a set, of those below n. -/
def memN (l : List Qac) : Nat → List Int
  | 0 => []
  | n + 1 => memN l n ++ (if hasO l (n : Int) = true then [(n : Int)] else [])
theorem QuY : ∀ n, (memN l n).length ≤ n
  | 0 => Nat.le_refl 0
  | n + 1 => by have := QuY n; unfold memN; split <;> simp <;> omega
theorem QwN {s : Int} (h : SetOf l s) : Ql0 s = some (memN l 63) := by
  unfold Ql0
  have this : loopF (fun q : List Int × Int => Qda s q.1 q.2) ([], 0) = some (memN l 63) := Qeo 63 (fun k => (memN l k, (k : Int))) (B := fun q => Qda s q.1 q.2) (by omega) (fun k hk => by
    show Qda s (memN l k) (k : Int) = _
    have := QuY (l := l) k
    unfold Qda
    rw [Qbd (by simp; omega), h.Has (by omega) (by omega), Qag, addI (by omega) (by omega), Qe6 (by unfold okN; simp; omega), brs]
    show _ = some (Sum.inl (memN l k ++ (if hasO l (k : Int) = true then [(k : Int)] else []), ((k + 1 : Nat) : Int)))
    split <;> simp) (by
    show Qda s (memN l 63) ((63 : Nat) : Int) = _
    unfold Qda
    rw [QaX (by decide)])
  rw [Qco this]
end
end Go.Proofs.YtoogjnlmicgfiaaGreatDoor
namespace Go.Proofs.YtoogjnlmicgfiaaGreatDoor
set_option linter.unusedSimpArgs false
set_option linter.unusedVariables false
set_option linter.unusedSectionVars false
def sumF {α : Type} (f : α → Int) (l : List α) : Int := (l.map f).sum
theorem Qqa {α : Type} {f : α → Int} {a b : List α} : sumF f (a ++ b) = sumF f a + sumF f b := by simp [sumF, List.sum_append]
theorem Qsz {α : Type} {f : α → Int} {a : α} : sumF f [a] = f a := by simp [sumF]
theorem Qys {α : Type} {f : α → Int} : sumF f [] = 0 := rfl
theorem QkC {α : Type} {l : List α} {k : Nat} {a : α} (h : l[k]? = some a) : l.take (k + 1) = l.take k ++ [a] := by rw [List.take_add_one, h]; rfl
theorem QrO {α : Type} {f : α → Int} {l : List α} {k : Nat} {a : α} (h : l[k]? = some a) : sumF f (l.take (k + 1)) = sumF f (l.take k) + f a := by rw [QkC h, Qqa, Qsz]
theorem Quz {α : Type} {f : α → Int} : ∀ {l : List α}, (∀ a ∈ l, 0 ≤ f a ∧ f a ≤ 1000) → 0 ≤ sumF f l ∧ sumF f l ≤ 1000 * l.length
  | [], _ => by simp [sumF]
  | a :: l, h => by
    have h1 := Quz (f := f) (l := l) fun b hb => h b (List.mem_cons_of_mem _ hb)
    have h2 := h a (List.mem_cons_self ..)
    have e : sumF f (a :: l) = f a + sumF f l := by simp [sumF]
    rw [e, List.length_cons]
    omega
section
variable (x : Qad)
def loadO (i d : Nat) : Int := match x.orders[i]? with
  | some o => o.load.getD d 0
  | none => 0
def pk0 (i : Nat) : Bool := match x.orders[i]? with
  | some o => decide (o.pick.place < 0)
  | none => false
/-- Is an order on board after these visits? -/
def onK (l : List Qac) (i : Nat) : Bool := l.foldl (fun b v => if v.order = (i : Int) then !v.drop else b) (pk0 x i)
def incl (l : List Qac) (k i d : Nat) : Int := if (hasO l (i : Int) && onK x (l.take k) i) = true then loadO x i d else 0
/-- What is on board after k visits. -/
def loadK (l : List Qac) (k d : Nat) : Int := sumN x.orders.length fun i => incl x l k i d
end
section
variable {x : Qad} {l : List Qac} {r : Qab}
theorem QxR (hx : QcZ x) {i : Nat} (hi : i < x.orders.length) : ∃ o, x.orders[i]? = some o ∧ o ∈ x.orders ∧ o.load = vecN (QdP x.types) (loadO x i) ∧ (∀ d, 0 ≤ loadO x i d ∧ loadO x i d ≤ 1000) ∧ pk0 x i = decide (o.pick.place < 0) := by
  have e : x.orders[i]? = some x.orders[i] := List.getElem?_eq_getElem hi
  have hm := List.getElem_mem hi
  generalize x.orders[i] = o at e hm
  have hO := hx.ord o hm
  refine ⟨o, e, hm, ?_, fun d => ?_, by unfold pk0; rw [e]⟩
  · have := QBy (l := o.load)
    rw [hO.load] at this
    rw [this]
    refine Qg4 fun d hd => ?_
    unfold loadO
    rw [e]
  · unfold loadO
    rw [e]
    simp only
    rw [List.getD_eq_getElem?_getD]
    rcases Nat.lt_or_ge d o.load.length with h | h
    · rw [List.getElem?_eq_getElem h]
      exact hO.loads d h _ (List.getElem?_eq_getElem h)
    · rw [List.getElem?_eq_none h]; simp
theorem QuX (hx : QcZ x) (i d : Nat) : 0 ≤ loadO x i d ∧ loadO x i d ≤ 1000 := by
  rcases Nat.lt_or_ge i x.orders.length with h | h
  · obtain ⟨o, _, _, _, h, _⟩ := QxR hx h
    exact h d
  · unfold loadO
    rw [List.getElem?_eq_none h]; simp
theorem QAt (hx : QcZ x) (k d : Nat) : 0 ≤ loadK x l k d ∧ loadK x l k d ≤ 10000 := by
  have h := QzR (f := fun i => incl x l k i d) (c := 1000) (by omega) x.orders.length fun i => by
    have := QuX hx i d
    unfold incl
    split <;> omega
  have := hx.orders
  unfold loadK
  omega
theorem Qvz (hx : QcZ x) : 1 ≤ QdP x.types ∧ QdP x.types ≤ 3 := by
  have h1 := hx.types1
  cases ht : x.types with
  | nil => rw [ht] at h1; simp at h1
  | cons t ts =>
    have := (hx.typ t (by rw [ht]; simp)).dims1
    rw [ht] at this
    exact this
structure SeqOK (x : Qad) (l : List Qac) : Prop where
  ne : l.length ≠ 0
  inn : l.any (fun v => !inO x v) = false
  off : l.any (offV x) = false
  nodup : l.Nodup
  pair : ∀ v ∈ l, pairV x l v = true
  apart : x.apart.any (QrR l) = false
  before : x.before.any (badB l) = false
theorem Qta (h : seqS x l = 0) : SeqOK x l := by
  unfold seqS at h
  by_cases h0 : l.length = 0
  · rw [if_pos h0] at h; cases h
  rw [if_neg h0] at h
  by_cases h1 : l.any (fun v => !inO x v) = true
  · rw [if_pos h1] at h; cases h
  rw [if_neg h1] at h
  by_cases h2 : l.any (offV x) = true
  · rw [if_pos h2] at h; cases h
  rw [if_neg h2] at h
  by_cases h3 : ¬ l.Nodup
  · rw [if_pos h3] at h; cases h
  rw [if_neg h3] at h
  by_cases h4 : l.any (fun v => !pairV x l v) = true
  · rw [if_pos h4] at h; cases h
  rw [if_neg h4] at h
  by_cases h5 : x.apart.any (QrR l) = true
  · rw [if_pos h5] at h; cases h
  rw [if_neg h5] at h
  by_cases h6 : x.before.any (badB l) = true
  · rw [if_pos h6] at h; cases h
  refine ⟨h0, by simpa using h1, by simpa using h2, Classical.not_not.1 h3, fun v hv => ?_, by simpa using h5, by simpa using h6⟩
  have := List.any_eq_false.1 (by simpa using h4 : l.any (fun v => !pairV x l v) = false) v hv
  simpa using this
theorem QrH {b : Bool} {i : Nat} : ∀ {m : List Qac}, (∀ v ∈ m, v.order ≠ (i : Int)) → m.foldl (fun b v => if v.order = (i : Int) then !v.drop else b) b = b
  | [], _ => rfl
  | v :: m, h => by
    rw [List.foldl_cons, if_neg (h v (List.mem_cons_self ..))]
    exact QrH fun w hw => h w (List.mem_cons_of_mem _ hw)
theorem QuQ {c : Bool} {i : Nat} : ∀ {m : List Qac} {b : Bool}, (∀ v ∈ m, v.order = (i : Int) → v.drop = c) → (b = (!c) ∨ ∃ v ∈ m, v.order = (i : Int)) → m.foldl (fun b v => if v.order = (i : Int) then !v.drop else b) b = !c
  | [], b, _, h => by
    rcases h with h | ⟨v, hv, _⟩
    · exact h
    · cases hv
  | v :: m, b, h, h' => by
    rw [List.foldl_cons]
    by_cases hv : v.order = (i : Int)
    · rw [if_pos hv]
      exact QuQ (fun w hw => h w (List.mem_cons_of_mem _ hw)) (.inl (by rw [h v (List.mem_cons_self ..) hv]))
    · rw [if_neg hv]
      refine QuQ (fun w hw => h w (List.mem_cons_of_mem _ hw)) ?_
      rcases h' with h' | ⟨w, hw, he⟩
      · exact .inl h'
      · rcases List.mem_cons.1 hw with rfl | hw
        · exact absurd he hv
        · exact .inr ⟨w, hw, he⟩
theorem Qtv {j k : Nat} (h : l.Nodup) {v : Qac} (hj : l[j]? = some v) (hk : l[k]? = some v) : j = k := by
  refine Classical.byContradiction fun hne => ?_
  have hj' := (List.getElem?_eq_some_iff.1 hj).1
  have hk' := (List.getElem?_eq_some_iff.1 hk).1
  refine (Qtw.2 ?_) h
  rcases Nat.lt_or_gt_of_ne hne with hlt | hlt
  · exact ⟨k, hk', j, hlt, by rw [hj, hk]⟩
  · exact ⟨j, hj', k, hlt, by rw [hj, hk]⟩
/-- A visit finds its order where it must be. -/
theorem on_at (hx : QcZ x) (h : SeqOK x l) {k : Nat} {v : Qac} (hk : l[k]? = some v) {i : Nat} (hi : v.order = (i : Int)) : onK x (l.take k) i = v.drop := by
  have hv := List.mem_of_getElem? hk
  have hkl := (List.getElem?_eq_some_iff.1 hk).1
  have hin := Qnu h.inn hv
  obtain ⟨o, e, hm, _, _, hp⟩ := QxR hx (show i < x.orders.length by omega)
  have hO := hx.ord o hm
  -- each visit of the order is one of the order's visits
  have vis : ∀ w ∈ l, w.order = (i : Int) → w ∈ visO x (i : Int) ∧ rowB l (visO x (i : Int)) = true := fun w hw he => by
    have := h.pair w hw
    unfold pairV at this
    rw [he, Bool.and_eq_true, any_V] at this
    exact this
  have hvo : visO x (i : Int) = (if 0 ≤ o.pick.place then [Qac.mk i false] else []) ++ (if 0 ≤ o.drop.place then [Qac.mk i true] else []) := by
    unfold visO
    rw [Int.toNat_natCast, e]
  have same : ∀ w ∈ l.take k, w.order = (i : Int) → w ≠ v := fun w hw _ he => by
    obtain ⟨j, hj, hje⟩ := (Qqb (by omega)).1 hw
    rw [he] at hje
    have := Qtv h.nodup hje hk
    omega
  have drop_or : ∀ w : Qac, w.order = (i : Int) → w = Qac.mk i w.drop := fun w hw => by cases w; simp at hw; subst hw; rfl
  obtain ⟨v1, v2⟩ := vis v hv hi
  unfold onK
  by_cases hpk : 0 ≤ o.pick.place
  · have hp' : pk0 x i = false := by rw [hp]; simp; omega
    rw [if_pos hpk] at hvo
    by_cases hdr : 0 ≤ o.drop.place
    · rw [if_pos hdr] at hvo
      rw [hvo] at v2
      simp only [List.cons_append, List.nil_append, rowB, Bool.and_eq_true, geI_t, ltI_t] at v2
      obtain ⟨p, hpp⟩ : ∃ p : Nat, ixI (isV (Qac.mk i false)) l = p := ⟨(ixI (isV (Qac.mk i false)) l).toNat, by omega⟩
      obtain ⟨q, hqq⟩ : ∃ q : Nat, ixI (isV (Qac.mk i true)) l = q := ⟨(ixI (isV (Qac.mk i true)) l).toNat, by omega⟩
      obtain ⟨p1, p2⟩ := Qwm hpp
      obtain ⟨q1, q2⟩ := Qwm hqq
      have hpq : p < q := by omega
      cases hd : v.drop with
      | false =>
        have hve := drop_or v hi
        rw [hd] at hve
        have hkp : k = p := Qtv h.nodup (hve ▸ hk) p1
        rw [QrH fun w hw he => ?_, hp']
        have hwe := drop_or w he
        cases hwd : w.drop with
        | false => rw [hwd] at hwe; exact same w hw he (hwe.trans hve.symm)
        | true =>
          rw [hwd] at hwe
          obtain ⟨j, hj, hje⟩ := (Qqb (by omega)).1 hw
          have := Qtv h.nodup (hwe ▸ hje) q1
          omega
      | true =>
        have hve := drop_or v hi
        rw [hd] at hve
        have hkq : k = q := Qtv h.nodup (hve ▸ hk) q1
        refine QuQ (c := false) (fun w hw he => ?_) (.inr ⟨Qac.mk i false, (Qqb (by omega)).2 ⟨p, by omega, p1⟩, rfl⟩)
        have hwe := drop_or w he
        cases hwd : w.drop with
        | false => rfl
        | true => rw [hwd] at hwe; exact absurd (hwe.trans hve.symm) (same w hw he)
    · rw [if_neg hdr, List.append_nil] at hvo
      have only : ∀ w ∈ l, w.order = (i : Int) → w = Qac.mk i false := fun w hw he => by
        have := (vis w hw he).1
        rw [hvo] at this
        exact List.mem_singleton.1 this
      rw [QrH fun w hw he => same w hw he ((only w (List.mem_of_mem_take hw) he).trans (only v hv hi).symm), hp', only v hv hi]
  · have hp' : pk0 x i = true := by rw [hp]; simp; omega
    rw [if_neg hpk, List.nil_append] at hvo
    have only : ∀ w ∈ l, w.order = (i : Int) → w = Qac.mk i true := fun w hw he => by
      have := (vis w hw he).1
      rw [hvo] at this
      split at this
      · exact List.mem_singleton.1 this
      · cases this
    rw [QrH fun w hw he => same w hw he ((only w (List.mem_of_mem_take hw) he).trans (only v hv hi).symm), hp', only v hv hi]
theorem Qtx {k i : Nat} {v : Qac} (hk : l[k]? = some v) : onK x (l.take (k + 1)) i = if v.order = (i : Int) then !v.drop else onK x (l.take k) i := by
  unfold onK
  rw [QkC hk, List.foldl_append]
  rfl
theorem QxD (hx : QcZ x) (h : SeqOK x l) {k : Nat} {v : Qac} (hk : l[k]? = some v) {i : Nat} (hi : v.order = (i : Int)) (d : Nat) :
    loadK x l (k + 1) d = if v.drop = true then loadK x l k d - loadO x i d else loadK x l k d + loadO x i d := by
  have hin := Qnu h.inn (List.mem_of_getElem? hk)
  unfold loadK
  rw [Qyt (f := fun j => incl x l k j d) (g := fun j => incl x l (k + 1) j d) (o := i) x.orders.length (by omega) (fun j hj => by
    show incl x l (k + 1) j d = incl x l k j d
    have e1 : onK x (l.take (k + 1)) j = onK x (l.take k) j := by rw [Qtx hk, if_neg (by omega)]
    unfold incl
    rw [e1])]
  have ha : hasO l (i : Int) = true := Qtp.2 ⟨v, List.mem_of_getElem? hk, hi⟩
  simp only [incl, ha, Bool.true_and]
  rw [Qtx hk, if_pos hi, on_at hx h hk hi]
  cases v.drop
  · simp
  · simp
    omega
end
end Go.Proofs.YtoogjnlmicgfiaaGreatDoor
namespace Go.Proofs.YtoogjnlmicgfiaaGreatDoor
set_option linter.unusedSimpArgs false
set_option linter.unusedVariables false
set_option linter.unusedSectionVars false
section
variable {x : Qad} {l : List Qac} {r : Qab}
theorem Qxc (hx : QcZ x) : Qos x.types = some (QdP x.types : Int) ∧ QmJ x = some (QdP x.types : Int) := by
  have h1 := hx.types1
  unfold Qos QmJ
  cases ht : x.types with
  | nil => rw [ht] at h1; simp at h1
  | cons t ts =>
    constructor
    · rw [QaX (by simp [lenI]; omega)]; rfl
    · rw [QaX (by simp [lenI]; omega)]; rfl
theorem QxL {i : Int} : ∀ {n : Nat}, i ∈ memN l n → ∃ k : Nat, i = k ∧ k < n ∧ hasO l (k : Int) = true
  | 0, h => by cases h
  | n + 1, h => by
    unfold memN at h
    rcases List.mem_append.1 h with h | h
    · obtain ⟨k, h1, h2, h3⟩ := QxL h
      exact ⟨k, h1, by omega, h3⟩
    · split at h
      · exact ⟨n, List.mem_singleton.1 h, by omega, ‹_›⟩
      · cases h
theorem QBf (h : SeqOK x l) {i : Int} (hi : hasO l i = true) : 0 ≤ i ∧ i < x.orders.length := by
  obtain ⟨v, hv, rfl⟩ := Qtp.1 hi
  exact Qnu h.inn hv
theorem Qwc {α β : Type} {a : β} {y z : Option α} : br (neI (a, (0 : Int)).2 0) y z = z := rfl
def stO (x : Qad) (d : Nat) (i : Int) : Int := if pk0 x i.toNat = true then loadO x i.toNat d else 0
theorem QBT (hx : QcZ x) (d : Nat) (i : Int) : 0 ≤ stO x d i ∧ stO x d i ≤ 1000 := by
  have := QuX hx i.toNat d
  unfold stO
  split <;> omega
theorem QzS (d : Nat) : ∀ n, sumF (stO x d) (memN l n) = sumN n fun i => if (hasO l (i : Int) && pk0 x i) = true then loadO x i d else 0
  | 0 => rfl
  | n + 1 => by
    show sumF (stO x d) (memN l n ++ (if hasO l (n : Int) = true then [(n : Int)] else [])) = sumN n _ + (if (hasO l (n : Int) && pk0 x n) = true then loadO x n d else 0)
    rw [Qqa, QzS d n]
    by_cases hh : hasO l (n : Int) = true
    · rw [if_pos hh, Qsz, hh, Bool.true_and]; rfl
    · rw [if_neg hh, Qys, if_neg (by simp [hh])]
theorem Qzk (hx : QcZ x) (h : SeqOK x l) {s : Int} (hs : SetOf l s) : QmP x s (QdP x.types : Int) = some (vecN (QdP x.types) (loadK x l 0)) := by
  obtain ⟨hd1, hd3⟩ := Qvz hx
  have hx10 := hx.orders
  have hm := QuY (l := l) 63
  unfold QmP
  have hz : mkI (QdP x.types : Int) (QdP x.types : Int) 8 (0 : Int) = some (vecN (QdP x.types) fun d => 0) := by
    unfold mkI
    rw [if_pos (by omega)]
    congr 1
    refine List.ext_getElem? fun i => ?_
    rcases Nat.lt_or_ge i (QdP x.types) with h | h
    · rw [QhX h]; simp [h]
    · rw [List.getElem?_eq_none (by simp; omega), List.getElem?_eq_none (by rw [Qfa]; omega)]
  rw [hz, Qag, QwN hs, Qag]
  have hmem : ∀ i ∈ memN l 63, ∃ k : Nat, i = k ∧ k < 63 ∧ hasO l (k : Int) = true := fun i hi => QxL hi
  have hsum : ∀ d, sumF (stO x d) (memN l 63) = sumN 63 fun i => if (hasO l (i : Int) && pk0 x i) = true then loadO x i d else 0 := fun d => QzS d 63
  generalize memN l 63 = M at *
  have this : loopF (fun q : List Int × Int => QdI x (vecN (QdP x.types) fun d => 0) M q.1 q.2) (vecN (QdP x.types) (fun d => 0), 0) = some (vecN (QdP x.types) fun d => sumF (stO x d) M) := by
    have := Qeo M.length (fun k => (vecN (QdP x.types) (fun d => sumF (stO x d) (M.take k)), (k : Int))) (B := fun q : List Int × Int => QdI x (vecN (QdP x.types) fun d => 0) M q.1 q.2) (e := vecN (QdP x.types) fun d => sumF (stO x d) M) (by omega) (fun k hk => by
      have e : M[k]? = some M[k] := List.getElem?_eq_getElem hk
      obtain ⟨i, hi, _, hh⟩ := hmem _ (List.getElem_mem hk)
      rw [hi] at e
      have hil := QBf h hh
      obtain ⟨o, eo, hmo, ho, hb, hp⟩ := QxR hx (show i < x.orders.length by omega)
      show QdI x (vecN (QdP x.types) fun d => 0) M (vecN (QdP x.types) (fun d => sumF (stO x d) (M.take k))) (k : Int) = some (Sum.inl (vecN (QdP x.types) (fun d => sumF (stO x d) (M.take (k + 1))), ((k + 1 : Nat) : Int)))
      unfold QdI
      rw [Qbu e, QaL eo, Qag, incL e (by omega), ho]
      have step : ∀ d, sumF (stO x d) (M.take (k + 1)) = sumF (stO x d) (M.take k) + stO x d (i : Int) := fun d => QrO e
      have sb : ∀ d, 0 ≤ sumF (stO x d) (M.take k) ∧ sumF (stO x d) (M.take k) ≤ 1000 * (M.take k).length := fun d => Quz fun a _ => QBT hx d a
      have hlt : (M.take k).length ≤ 63 := by rw [List.length_take]; omega
      have hst : ∀ d, stO x d (i : Int) = if o.pick.place < 0 then loadO x i d else 0 := fun d => by
        unfold stO
        rw [Int.toNat_natCast, hp]
        simp
      by_cases hpl : o.pick.place < 0
      · rw [Qbd (by simpa using hpl), QAW hd3 (fun d _ => by have := sb d; omega) (fun d _ => by have := hb d; omega), Qag]
        congr 3
        exact Qg4 fun d _ => by rw [step, hst, if_pos hpl]
      · rw [QaX (by simp; omega)]
        congr 3
        exact Qg4 fun d _ => by rw [step, hst, if_neg hpl]; omega) (by
      show QdI x (vecN (QdP x.types) fun d => 0) M (vecN (QdP x.types) (fun d => sumF (stO x d) (M.take M.length))) (M.length : Int) = _
      unfold QdI
      rw [Qa6, List.take_length])
    exact this
  rw [Qco this]
  congr 1
  refine Qg4 fun d _ => ?_
  rw [hsum, Qv3 (n := x.orders.length) 63 (by omega) fun i hi => by
    rw [if_neg]
    intro hh
    rw [Bool.and_eq_true] at hh
    have := QBf h hh.1
    omega]
  unfold loadK incl
  rfl
/-- All the loads. -/
def QgL (x : Qad) (l : List Qac) (n : Nat) : List (List Int) := (List.range n).map fun k => vecN (QdP x.types) (loadK x l k)
theorem Qr4 {n : Nat} : (QgL x l n).length = n := by simp [QgL]
theorem Qs2 {n : Nat} : QgL x l (n + 1) = QgL x l n ++ [vecN (QdP x.types) (loadK x l n)] := by simp [QgL, List.range_succ]
theorem QzW (hx : QcZ x) (hl : r.visits.length ≤ 1048576) (h : SeqOK x r.visits) (h0 : seqS x r.visits = 0) : QmO x r = some (QgL x r.visits (r.visits.length + 1), 0) := by
  obtain ⟨hd1, hd3⟩ := Qvz hx
  have hx10 := hx.orders
  unfold QmO
  rw [QuF hx hl, Qag, h0, QaX (by decide)]
  obtain ⟨s, hs, hs0, hset⟩ := QsS hx hl h.inn
  rw [hs, Qag, hs0, QaX (by decide), (Qxc hx).1, Qag, Qzk hx h hset, Qag]
  have this : loopF (fun q : List (List Int) × List Int × Int => QdH x r q.1 q.2.1 q.2.2) ([vecN (QdP x.types) (loadK x r.visits 0)], vecN (QdP x.types) (loadK x r.visits 0), 0) = some (.inl (QgL x r.visits (r.visits.length + 1))) := by
    have := Qeo r.visits.length (fun k => (QgL x r.visits (k + 1), vecN (QdP x.types) (loadK x r.visits k), (k : Int))) (B := fun q : List (List Int) × List Int × Int => QdH x r q.1 q.2.1 q.2.2) (e := .inl (QgL x r.visits (r.visits.length + 1))) (by omega) (fun k hk => by
      have e : r.visits[k]? = some r.visits[k] := List.getElem?_eq_getElem hk
      have hin := Qnu h.inn (List.getElem_mem hk)
      generalize r.visits[k] = v at e hin
      obtain ⟨i, hi⟩ : ∃ i : Nat, v.order = i := ⟨v.order.toNat, by omega⟩
      obtain ⟨o, eo, hmo, ho, hb, hp⟩ := QxR hx (show i < x.orders.length by omega)
      have hst := QxD hx h e hi
      have hk0 := fun d => QAt (l := r.visits) hx k d
      show QdH x r (QgL x r.visits (k + 1)) (vecN (QdP x.types) (loadK x r.visits k)) (k : Int) = some (Sum.inl (QgL x r.visits (k + 1 + 1), vecN (QdP x.types) (loadK x r.visits (k + 1)), ((k + 1 : Nat) : Int)))
      unfold QdH
      have ok : okN (QgL x r.visits (k + 1) ++ [vecN (QdP x.types) (loadK x r.visits (k + 1))]).length 24 := by unfold okN; simp [Qr4]; omega
      rw [Qbu e, hi, QaL eo, Qag, Qag, incL e hl, ho, Qs2 (n := k + 1)]
      cases hd : v.drop with
      | true =>
        rw [Qhf, QBA hd3 (fun d _ => by have := hk0 d; omega) (fun d _ => by have := hb d; omega), Qag, Qwc]
        have ev : vecN (QdP x.types) (fun d => loadK x r.visits k d - loadO x i d) = vecN (QdP x.types) (loadK x r.visits (k + 1)) := Qg4 fun d _ => by rw [hst, if_pos hd]
        simp only [ev]
        rw [Qe6 ok]
        rfl
      | false =>
        rw [Qik, QAW hd3 (fun d _ => by have := hk0 d; omega) (fun d _ => by have := hb d; omega), Qag, Qwc]
        have ev : vecN (QdP x.types) (fun d => loadK x r.visits k d + loadO x i d) = vecN (QdP x.types) (loadK x r.visits (k + 1)) := Qg4 fun d _ => by rw [hst, if_neg (by rw [hd]; decide)]
        simp only [ev]
        rw [Qe6 ok]
        rfl) (by
      show QdH x r (QgL x r.visits (r.visits.length + 1)) (vecN (QdP x.types) (loadK x r.visits r.visits.length)) (r.visits.length : Int) = _
      unfold QdH
      rw [Qa6])
    exact this
  rw [Qco this]
  rfl
def ldN (x : Qad) (l : List Qac) (n : Nat) : Nat → List (List Int)
  | 0 => []
  | i + 1 => ldN x l n i ++ (if (onK x (l.take n) i && hasO l (i : Int)) = true then [vecN (QdP x.types) (loadO x i)] else [])
theorem QxB {n : Nat} : ∀ i, (ldN x l n i).length ≤ i
  | 0 => Nat.le_refl 0
  | i + 1 => by have := QxB (n := n) i; unfold ldN; split <;> simp <;> omega
theorem QxC {n : Nat} {a : List Int} : ∀ {i}, a ∈ ldN x l n i → ∃ j, a = vecN (QdP x.types) (loadO x j)
  | 0, h => by cases h
  | i + 1, h => by
    unfold ldN at h
    rcases List.mem_append.1 h with h | h
    · exact QxC h
    · split at h
      · exact ⟨i, List.mem_singleton.1 h⟩
      · cases h
theorem QzE {n d : Nat} (hd : d < QdP x.types) : ∀ i, sumF (fun a : List Int => a.getD d 0) (ldN x l n i) = sumN i fun j => incl x l n j d
  | 0 => rfl
  | i + 1 => by
    show sumF (fun a : List Int => a.getD d 0) (ldN x l n i ++ (if (onK x (l.take n) i && hasO l (i : Int)) = true then [vecN (QdP x.types) (loadO x i)] else [])) = sumN i _ + (if (hasO l (i : Int) && onK x (l.take n) i) = true then loadO x i d else 0)
    rw [Qqa, QzE hd i, Bool.and_comm]
    split
    · rw [Qsz, List.getD_eq_getElem?_getD, QhX hd]; rfl
    · rw [Qys]
theorem QAO {D : Nat} (hD : D ≤ 3) {m : List (List Int)} (hm : m.length ≤ 1000) (hl : ∀ a ∈ m, a.length = D) (hb : ∀ a ∈ m, ∀ d, 0 ≤ a.getD d 0 ∧ a.getD d 0 ≤ 1000) : Qnx m (D : Int) = some (vecN D fun d => sumF (fun a => a.getD d 0) m, 0) := by
  have even : QmF m (D : Int) = some true := by
    unfold QmF
    rw [QaX (by simp; omega), Qco (QeX (B := fun s => QeJ m (D : Int) s) (l := m) (by omega) (fun a => neI (lenI a) (D : Int)) (y := (.inr false : Unit ⊕ Bool)) (N := .inl ()) (fun i a h => by
      show QeJ m (D : Int) i = _
      unfold QeJ
      rw [Qbu h, incL h (by omega), brs]) (by
      show QeJ m (D : Int) m.length = _
      unfold QeJ
      rw [Qa6]))]
    rw [if_neg]
    · rfl
    · rw [List.any_eq_true]
      rintro ⟨a, ha, h⟩
      rw [neI_t, lenI, hl a ha] at h
      exact h rfl
  unfold Qnx
  rw [even, Qag, Qhf]
  have this : loopF (fun q : List Int × Int => Qej m (D : Int) q.1 q.2) ([], 0) = some (vecN D fun d => sumF (fun a => a.getD d 0) m) := by
    have := Qeo D (fun k => (vecN k (fun d => sumF (fun a => a.getD d 0) m), (k : Int))) (B := fun q : List Int × Int => Qej m (D : Int) q.1 q.2) (e := vecN D fun d => sumF (fun a => a.getD d 0) m) (by omega) (fun k hk => by
      show Qej m (D : Int) (vecN k (fun d => sumF (fun a => a.getD d 0) m)) (k : Int) = some (Sum.inl (vecN (k + 1) (fun d => sumF (fun a => a.getD d 0) m), ((k + 1 : Nat) : Int)))
      unfold Qej
      rw [Qbd (by simp; omega)]
      have inner : loopF (fun q : Int × Int => Qek m (D : Int) (vecN k (fun d => sumF (fun a => a.getD d 0) m)) (k : Int) q.1 q.2) (0, 0) = some (sumF (fun a => a.getD k 0) m) := by
        have := Qeo m.length (fun j => (sumF (fun a : List Int => a.getD k 0) (m.take j), (j : Int))) (B := fun q : Int × Int => Qek m (D : Int) (vecN k (fun d => sumF (fun a => a.getD d 0) m)) (k : Int) q.1 q.2) (e := sumF (fun a => a.getD k 0) m) (by omega) (fun j hj => by
          have e : m[j]? = some m[j] := List.getElem?_eq_getElem hj
          have hmj := List.getElem_mem hj
          generalize m[j] = a at e hmj
          have ha := hl a hmj
          have hab := hb a hmj k
          have e2 : a[k]? = some (a.getD k 0) := by rw [List.getD_eq_getElem?_getD, List.getElem?_eq_getElem (show k < a.length by omega)]; rfl
          have sb := Quz (f := fun a : List Int => a.getD k 0) (l := m.take j) fun c hc => hb c (List.mem_of_mem_take hc) k
          have hlt : (m.take j).length ≤ 1000 := by rw [List.length_take]; omega
          show Qek m (D : Int) (vecN k (fun d => sumF (fun a => a.getD d 0) m)) (k : Int) (sumF (fun a : List Int => a.getD k 0) (m.take j)) (j : Int) = some (Sum.inl (sumF (fun a : List Int => a.getD k 0) (m.take (j + 1)), ((j + 1 : Nat) : Int)))
          unfold Qek
          rw [Qbu e, QaL e2, Qag, incL e (by omega), addI (by omega) (by omega), QrO e]
          rfl) (by
          show Qek m (D : Int) (vecN k (fun d => sumF (fun a => a.getD d 0) m)) (k : Int) (sumF (fun a : List Int => a.getD k 0) (m.take m.length)) (m.length : Int) = _
          unfold Qek
          rw [Qa6, List.take_length])
        exact this
      have ev : vecN (k + 1) (fun d => sumF (fun a : List Int => a.getD d 0) m) = vecN k (fun d => sumF (fun a : List Int => a.getD d 0) m) ++ [sumF (fun a : List Int => a.getD k 0) m] := by simp [vecN, List.range_succ]
      rw [Qco inner, Qe6 (by unfold okN; simp [Qfa]; omega), addI (by omega) (by omega), ev]
      rfl) (by
      show Qej m (D : Int) (vecN D (fun d => sumF (fun a => a.getD d 0) m)) (D : Int) = _
      unfold Qej
      rw [QaX (by simp)])
    exact this
  rw [Qco this]
theorem QyD (hx : QcZ x) (hl : l.length ≤ 1048576) {n : Nat} (hn : n ≤ l.length) : QlH x l (n : Int) = some (vecN (QdP x.types) (loadK x l n), 0) := by
  obtain ⟨hd1, hd3⟩ := Qvz hx
  have hx10 := hx.orders
  unfold QlH
  have this : loopF (fun q : List (List Int) × Int => Qdf x l (n : Int) q.1 q.2) ([], 0) = some (ldN x l n x.orders.length) := by
    have := Qeo x.orders.length (fun k => (ldN x l n k, (k : Int))) (B := fun q : List (List Int) × Int => Qdf x l (n : Int) q.1 q.2) (e := ldN x l n x.orders.length) (by omega) (fun i hi => by
      obtain ⟨o, eo, hmo, ho, hb, hp⟩ := QxR hx hi
      show Qdf x l (n : Int) (ldN x l n i) (i : Int) = some (Sum.inl (ldN x l n (i + 1), ((i + 1 : Nat) : Int)))
      unfold Qdf
      rw [Qbu eo]
      have inner : loopF (fun q : Bool × Bool × Int => Qdg x l (n : Int) (ldN x l n i) (i : Int) q.1 q.2.1 q.2.2) (ltI o.pick.place 0, false, 0) = some (onK x (l.take n) i, hasO l (i : Int)) := by
        have := Qeo l.length (fun k => (onK x (l.take (min k n)) i, hasO (l.take k) (i : Int), (k : Int))) (B := fun q : Bool × Bool × Int => Qdg x l (n : Int) (ldN x l n i) (i : Int) q.1 q.2.1 q.2.2) (e := (onK x (l.take n) i, hasO l (i : Int))) (by omega) (fun k hk => by
          have e : l[k]? = some l[k] := List.getElem?_eq_getElem hk
          generalize l[k] = v at e
          show Qdg x l (n : Int) (ldN x l n i) (i : Int) (onK x (l.take (min k n)) i) (hasO (l.take k) (i : Int)) (k : Int) = some (Sum.inl (onK x (l.take (min (k + 1) n)) i, hasO (l.take (k + 1)) (i : Int), ((k + 1 : Nat) : Int)))
          unfold Qdg
          have hh : hasO (l.take (k + 1)) (i : Int) = (hasO (l.take k) (i : Int) || isO (i : Int) v) := by rw [QkC e]; simp [hasO]
          rw [Qbu e, incL e hl, hh]
          by_cases hv : v.order = (i : Int)
          · rw [QaX (by simpa using hv), isO_t.2 hv, Bool.or_true]
            by_cases hkn : k < n
            · rw [Qbd (by simpa using hkn), show min (k + 1) n = k + 1 by omega, Qtx e, if_pos hv]
              rfl
            · rw [QaX (by simp; omega), show min (k + 1) n = min k n by omega]
              rfl
          · have hvf : isO (i : Int) v = false := by
              rw [Bool.eq_false_iff]
              exact fun h => hv (isO_t.1 h)
            rw [Qbd (by simpa using hv), hvf, Bool.or_false]
            by_cases hkn : k < n
            · rw [show min (k + 1) n = k + 1 by omega, Qtx e, if_neg hv, show min k n = k by omega]
              rfl
            · rw [show min (k + 1) n = min k n by omega]
              rfl) (by
          show Qdg x l (n : Int) (ldN x l n i) (i : Int) (onK x (l.take (min l.length n)) i) (hasO (l.take l.length) (i : Int)) (l.length : Int) = _
          unfold Qdg
          rw [Qa6, List.take_length, show min l.length n = n by omega])
        have h0 : (onK x (l.take (min 0 n)) i, hasO (l.take 0) (i : Int), ((0 : Nat) : Int)) = (ltI o.pick.place 0, false, 0) := by
          rw [Nat.zero_min, List.take_zero]
          unfold onK hasO
          rw [List.foldl_nil, hp]
          congr 1
        rw [← h0]
        exact this
      rw [Qco inner]
      simp only
      rw [QaL eo, Qag, ho, incL eo (by omega)]
      have hlen := QxB (x := x) (l := l) (n := n) i
      rw [Qe6 (by unfold okN; simp; omega), brs]
      show _ = some (Sum.inl (ldN x l n i ++ (if (onK x (l.take n) i && hasO l (i : Int)) = true then [vecN (QdP x.types) (loadO x i)] else []), ((i + 1 : Nat) : Int)))
      split <;> simp) (by
      show Qdf x l (n : Int) (ldN x l n x.orders.length) (x.orders.length : Int) = _
      unfold Qdf
      rw [Qa6])
    exact this
  rw [Qco this, (Qxc hx).2, Qag]
  have hlen := QxB (x := x) (l := l) (n := n) x.orders.length
  rw [QAO hd3 (by omega) (fun a ha => by obtain ⟨j, rfl⟩ := QxC ha; exact Qfa) (fun a ha d => by
    obtain ⟨j, rfl⟩ := QxC ha
    rw [List.getD_eq_getElem?_getD]
    rcases Nat.lt_or_ge d (QdP x.types) with h | h
    · rw [QhX h]; exact QuX hx j d
    · rw [List.getElem?_eq_none (by rw [Qfa]; omega)]; simp), Qag]
  congr 2
  exact Qg4 fun d hd => QzE hd _
theorem QwM (hx : QcZ x) (hl : r.visits.length ≤ 1048576) (h0 : seqS x r.visits = 0) : QlG x r = some (QgL x r.visits (r.visits.length + 1), 0) := by
  unfold QlG
  rw [QtP hx hl, Qag, h0, QaX (by decide)]
  have this : loopF (fun q : List (List Int) × Int => Qde x r q.1 q.2) ([], 0) = some (.inl (QgL x r.visits (r.visits.length + 1))) := by
    have := Qeo (r.visits.length + 1) (fun k => (QgL x r.visits k, (k : Int))) (B := fun q : List (List Int) × Int => Qde x r q.1 q.2) (e := .inl (QgL x r.visits (r.visits.length + 1))) (by omega) (fun k hk => by
      show Qde x r (QgL x r.visits k) (k : Int) = some (Sum.inl (QgL x r.visits (k + 1), ((k + 1 : Nat) : Int)))
      unfold Qde
      rw [Qbd (by simp [lenI]; omega), QyD hx hl (by omega), Qag, Qwc, Qe6 (by unfold okN; simp [Qr4]; omega), addI (by omega) (by omega), Qs2]
      rfl) (by
      show Qde x r (QgL x r.visits (r.visits.length + 1)) ((r.visits.length + 1 : Nat) : Int) = _
      unfold Qde
      rw [QaX (by simp [lenI]; omega)])
    exact this
  rw [Qco this]
  rfl
def overB (cap a : List Int) : Bool := (List.range a.length).any fun i => gtI (a.getD i 0) (cap.getD i 0)
theorem Qzx {a cap : List Int} (ha : a.length = cap.length) (hl : a.length ≤ 1048576) : Qow a cap = some (!overB cap a) ∧ QmE a cap = some (!overB cap a) := by
  have g : ∀ i, i < a.length → a[i]? = some (a.getD i 0) ∧ cap[i]? = some (cap.getD i 0) := fun i hi => by
    rw [List.getD_eq_getElem?_getD, List.getD_eq_getElem?_getD, List.getElem?_eq_getElem hi, List.getElem?_eq_getElem (show i < cap.length by omega)]
    exact ⟨rfl, rfl⟩
  have hb : overB cap a = true ↔ ∃ k, k < a.length ∧ gtI (a.getD k 0) (cap.getD k 0) = true := by
    unfold overB
    rw [List.any_eq_true]
    exact ⟨fun ⟨k, hk, h⟩ => ⟨k, List.mem_range.1 hk, h⟩, fun ⟨k, hk, h⟩ => ⟨k, List.mem_range.2 hk, h⟩⟩
  constructor
  · unfold Qow
    rw [QaX (by simp [lenI, ha]), Qco (QtG (B := fun s => Qff a cap s) hl (fun k => gtI (a.getD k 0) (cap.getD k 0)) (y := (.inr false : Unit ⊕ Bool)) (N := .inl ()) hb (fun i hi => by
      show Qff a cap i = _
      unfold Qff
      rw [Qbu (g i hi).1, QaL (g i hi).2, Qag, inc hi hl, brs]) (by
      show Qff a cap a.length = _
      unfold Qff
      rw [Qa6]))]
    cases overB cap a <;> rfl
  · unfold QmE
    rw [QaX (by simp [lenI, ha]), Qco (QtG (B := fun s => QeI a cap s) hl (fun k => gtI (a.getD k 0) (cap.getD k 0)) (y := (.inr false : Unit ⊕ Bool)) (N := .inl ()) hb (fun i hi => by
      show QeI a cap i = _
      unfold QeI
      rw [Qbu (g i hi).1, QaL (g i hi).2, Qag, inc hi hl, brs]) (by
      show QeI a cap a.length = _
      unfold QeI
      rw [Qa6]))]
    cases overB cap a <;> rfl
def fitS (x : Qad) (r : Qab) : Int := if (QgL x r.visits (r.visits.length + 1)).any (overB (typS x r).cap) = true then 17 else 0
theorem QtN (h0 : 0 ≤ r.type_) (h1 : r.type_ < x.types.length) : getI x.types r.type_ = some (typS x r) ∧ typS x r ∈ x.types := by
  have e : x.types[r.type_.toNat]? = some (x.types[r.type_.toNat]'(by omega)) := List.getElem?_eq_getElem _
  have ht : typS x r = x.types[r.type_.toNat]'(by omega) := by unfold typS; rw [List.getD_eq_getElem?_getD, e]; rfl
  rw [ht]
  exact ⟨Qs0 h0 h1, List.getElem_mem _⟩
theorem Qzq (hx : QcZ x) (hl : r.visits.length ≤ 1000000) (h0 : seqS x r.visits = 0) (ht : 0 ≤ r.type_ ∧ r.type_ < x.types.length) : Qoj x r = some (fitS x r) ∧ QmI x r = some (fitS x r) := by
  have h := Qta h0
  obtain ⟨t1, t2⟩ := QtN ht.1 ht.2
  have hcap := (hx.typ _ t2).cap
  have hd := Qvz hx
  have lens : ∀ a ∈ QgL x r.visits (r.visits.length + 1), a.length = (typS x r).cap.length := fun a ha => by
    obtain ⟨k, _, rfl⟩ := List.mem_map.1 ha
    rw [Qfa, hcap]
  have hlen := Qr4 (x := x) (l := r.visits) (n := r.visits.length + 1)
  constructor
  · unfold Qoj
    rw [QaX (by simp [lenI]; omega), QzW hx (by omega) h h0, Qag, Qwc]
    have := QqB (B := fun s => QaK (QgL x r.visits (r.visits.length + 1)) x r s) (l := QgL x r.visits (r.visits.length + 1)) (by omega) (overB (typS x r).cap) (fun k => (.inr (k : Int) : Unit ⊕ Int)) (N := .inl ()) (fun i a h => by
      have hm := lens a (List.mem_of_getElem? h)
      show QaK (QgL x r.visits (r.visits.length + 1)) x r i = _
      unfold QaK Qnp
      rw [Qbu h, t1, Qag, (Qzx hm (by omega)).1, Qag, Qag, incL h (by omega), Bool.not_not, brs]) (by
      show QaK (QgL x r.visits (r.visits.length + 1)) x r (QgL x r.visits (r.visits.length + 1)).length = _
      unfold QaK
      rw [Qa6])
    have e : Qbp (QgL x r.visits (r.visits.length + 1)) x r = some (ixI (overB (typS x r).cap) (QgL x r.visits (r.visits.length + 1))) := by
      unfold Qbp
      rw [Qco this]
      unfold ixI
      cases ixP (overB (typS x r).cap) (QgL x r.visits (r.visits.length + 1)) <;> rfl
    unfold QbE
    simp only
    rw [e, Qag, Qag, Qot, brs]
    rfl
  · unfold QmI
    rw [QaX (by simp [lenI]; omega), QwM hx (by omega) h0, Qag, Qwc]
    rw [Qco (QeX (B := fun s => QeL x r (QgL x r.visits (r.visits.length + 1), 0) s) (l := QgL x r.visits (r.visits.length + 1)) (by omega) (overB (typS x r).cap) (y := (.inr 17 : Unit ⊕ Int)) (N := .inl ()) (fun i a h => by
      have hm := lens a (List.mem_of_getElem? h)
      show QeL x r (QgL x r.visits (r.visits.length + 1), 0) i = _
      unfold QeL
      rw [Qbu h, t1, Qag, (Qzx hm (by omega)).2, Qag, incL h (by omega)]
      cases overB (typS x r).cap a <;> rfl) (by
      show QeL x r (QgL x r.visits (r.visits.length + 1), 0) (QgL x r.visits (r.visits.length + 1)).length = _
      unfold QeL
      rw [Qa6]))]
    unfold fitS
    split <;> rfl
end
end Go.Proofs.YtoogjnlmicgfiaaGreatDoor
namespace Go.Proofs.YtoogjnlmicgfiaaGreatDoor
set_option linter.unusedSimpArgs false
set_option linter.unusedVariables false
set_option linter.unusedSectionVars false
theorem QAy {m : List (Int × Int)} {k k' v z : Int} : mGet eqI (mPut eqI m k v) k' z = if k' = k then v else mGet eqI m k' z := by
  induction m with
  | nil =>
    unfold mPut mGet mGet
    by_cases h : k' = k
    · rw [if_pos h, show eqI k' k = true by simpa using h]; rfl
    · rw [if_neg h, show eqI k' k = false by simpa using h]; rfl
  | cons p r ih =>
    unfold mPut
    cases hp : eqI k p.1 with
    | true =>
      have hp' : k = p.1 := by simpa using hp
      simp only [cond_true]
      unfold mGet
      by_cases h : k' = k
      · rw [if_pos h, show eqI k' k = true by simpa using h]; rfl
      · rw [if_neg h, show eqI k' k = false by simpa using h, show eqI k' p.1 = false by rw [← hp']; simpa using h]; rfl
    | false =>
      have hp' : k ≠ p.1 := by simpa using hp
      simp only [cond_false]
      unfold mGet
      rw [ih]
      by_cases h : k' = k
      · rw [if_pos h, show eqI k' p.1 = false by rw [h]; exact hp, if_pos h]; rfl
      · rw [if_neg h, if_neg h]
section
variable {x : Qad} {l : List Qac} {r : Qab} {s0 : Qam}
def cntV (l : List Qac) (o : Int) : Int := sumF (fun v : Qac => if v.order = o then 1 else 0) l
theorem Qw6 {o : Int} : 0 ≤ cntV l o ∧ cntV l o ≤ l.length ∧ (0 < cntV l o ↔ hasO l o = true) := by
  induction l with
  | nil => simp [cntV, sumF, hasO]
  | cons v l ih =>
    have e : cntV (v :: l) o = (if v.order = o then 1 else 0) + cntV l o := by simp [cntV, sumF]
    have e2 : hasO (v :: l) o = (isO o v || hasO l o) := by simp [hasO]
    rw [e, e2, List.length_cons, Bool.or_eq_true, isO_t]
    split
    · rename_i h
      refine ⟨by omega, by omega, fun _ => .inl h, fun _ => by omega⟩
    · rename_i h
      refine ⟨by omega, by omega, fun h' => .inr (ih.2.2.1 (by omega)), fun h' => ?_⟩
      rcases h' with h' | h'
      · exact absurd h' h
      · have := ih.2.2.2 h'; omega
def mapK (l : List Qac) : List (Int × Int) := l.foldl (fun m v => mPut eqI m v.order (addK .i64 (mGet eqI m v.order 0) 1)) []
theorem QvN {v : Qac} : mapK (l ++ [v]) = mPut eqI (mapK l) v.order (addK .i64 (mGet eqI (mapK l) v.order 0) 1) := by simp [mapK]
theorem QAz {l : List Qac} (hl : l.length ≤ 1048576) (o : Int) : mGet eqI (mapK l) o 0 = cntV l o := by
  have main : ∀ k, k ≤ l.length → mGet eqI (mapK (l.take k)) o 0 = cntV (l.take k) o := by
    intro k hk
    induction k generalizing o with
    | zero => rfl
    | succ k ih =>
      have e : l[k]? = some l[k] := List.getElem?_eq_getElem (by omega)
      generalize l[k] = v at e
      rw [QkC e, QvN, QAy]
      have e2 : cntV (l.take k ++ [v]) o = cntV (l.take k) o + (if v.order = o then 1 else 0) := by unfold cntV; rw [Qqa, Qsz]
      have hb := (Qw6 (l := l.take k) (o := v.order)).2.1
      have hb0 := (Qw6 (l := l.take k) (o := v.order)).1
      have hlen : (l.take k).length ≤ k := by rw [List.length_take]; omega
      rw [e2, ih v.order (by omega), ih o (by omega), addI (by omega) (by omega)]
      by_cases h : o = v.order
      · rw [if_pos h, if_pos h.symm, h]
      · rw [if_neg h, if_neg fun h' => h h'.symm]; omega
  have := main l.length (Nat.le_refl _)
  rwa [List.take_length] at this
def forB (kind own : Int) : Bool := neI kind (-1) && neI kind own
def bit1 (b : Bool) : Int := if b = true then 1 else 0
/-- What a route moves, and what it gives to another type than last time. -/
def pairK (x : Qad) (r : Qab) : Nat → Int × Int
  | 0 => (0, 0)
  | k + 1 => match r.visits[k]? with
    | none => pairK x r k
    | some v => match (if 0 ≤ v.order then x.orders[v.order.toNat]? else none) with
      | none => pairK x r k
      | some o => if hasO (r.visits.take k) v.order = true then pairK x r k else ((pairK x r k).1 + bit1 (forB o.now r.type_), (pairK x r k).2 + bit1 (forB o.last_ r.type_))
theorem QtR {b : Bool} : 0 ≤ bit1 b ∧ bit1 b ≤ 1 := by cases b <;> simp [bit1]
theorem Qu3 : ∀ k, (0 ≤ (pairK x r k).1 ∧ (pairK x r k).1 ≤ k) ∧ (0 ≤ (pairK x r k).2 ∧ (pairK x r k).2 ≤ k)
  | 0 => by simp [pairK]
  | k + 1 => by
    have ih := Qu3 k
    unfold pairK
    split
    · omega
    · split
      · omega
      · rename_i o _
        have h1 := QtR (b := forB o.now r.type_)
        have h2 := QtR (b := forB o.last_ r.type_)
        split
        · omega
        · simp only; omega
/-- The price of a route, in its four parts. -/
def scoS (x : Qad) (r : Qab) (s0 : Qam) : Qao :=
  Qao.mk (addK .i64 (addK .i64 (typS x r).fixed (mulK .i64 (typS x r).perMile s0.miles)) (mulK .i64 (typS x r).perTick (subK .i64 s0.end_ (typS x r).open_))) (pairK x r r.visits.length).1 (pairK x r r.visits.length).2 (mulK .i64 (quoK .i64 (subK .i64 s0.end_ (typS x r).open_) 64) (quoK .i64 (subK .i64 s0.end_ (typS x r).open_) 64))
theorem QwP (hx : QcZ x) (hl : r.visits.length ≤ 1048576) (ht : 0 ≤ r.type_ ∧ r.type_ < x.types.length) : Qng x r s0 = some (scoS x r s0) := by
  obtain ⟨t1, t2⟩ := QtN ht.1 ht.2
  have h10 := hx.orders
  unfold Qng
  rw [QaX (by simp [lenI]; omega), t1, Qag]
  have this : loopF (fun q : List (Int × Int) × Int × Int × Int => QdN x r s0 (typS x r) q.1 q.2.1 q.2.2.1 q.2.2.2) ([], 0, 0, 0) = some (pairK x r r.visits.length) := by
    have := Qeo r.visits.length (fun k => (mapK (r.visits.take k), (pairK x r k).1, (pairK x r k).2, (k : Int))) (B := fun q : List (Int × Int) × Int × Int × Int => QdN x r s0 (typS x r) q.1 q.2.1 q.2.2.1 q.2.2.2) (e := pairK x r r.visits.length) (by omega) (fun k hk => by
      have e : r.visits[k]? = some r.visits[k] := List.getElem?_eq_getElem hk
      generalize r.visits[k] = v at e
      show QdN x r s0 (typS x r) (mapK (r.visits.take k)) (pairK x r k).1 (pairK x r k).2 (k : Int) = some (Sum.inl (mapK (r.visits.take (k + 1)), (pairK x r (k + 1)).1, (pairK x r (k + 1)).2, ((k + 1 : Nat) : Int)))
      unfold QdN QiE Qkh
      rw [Qbu e, ← QvN, ← QkC e, incL e hl]
      have hlen : (r.visits.take k).length ≤ 1048576 := by rw [List.length_take]; omega
      have hlen1 : (r.visits.take (k + 1)).length ≤ 1048576 := by rw [List.length_take]; omega
      have hp := Qu3 (x := x) (r := r) k
      have hg : gtI (mGet eqI (mapK (r.visits.take (k + 1))) v.order 0) 1 = hasO (r.visits.take k) v.order := by
        rw [QAz hlen1, QkC e]
        have e2 : cntV (r.visits.take k ++ [v]) v.order = cntV (r.visits.take k) v.order + 1 := by unfold cntV; rw [Qqa, Qsz, if_pos rfl]
        have := (Qw6 (l := r.visits.take k) (o := v.order)).2.2
        rw [e2, Bool.eq_iff_iff, gtI_t, ← this]
        omega
      rw [hg]
      show _ = some (Sum.inl (mapK (r.visits.take (k + 1)), (pairK x r (k + 1)).1, (pairK x r (k + 1)).2, (k : Int) + 1))
      have hP : pairK x r (k + 1) = match (if 0 ≤ v.order then x.orders[v.order.toNat]? else none) with
        | none => pairK x r k
        | some o => if hasO (r.visits.take k) v.order = true then pairK x r k else ((pairK x r k).1 + bit1 (forB o.now r.type_), (pairK x r k).2 + bit1 (forB o.last_ r.type_)) := by
        show (match r.visits[k]? with
          | none => pairK x r k
          | some v => match (if 0 ≤ v.order then x.orders[v.order.toNat]? else none) with
            | none => pairK x r k
            | some o => if hasO (r.visits.take k) v.order = true then pairK x r k else ((pairK x r k).1 + bit1 (forB o.now r.type_), (pairK x r k).2 + bit1 (forB o.last_ r.type_))) = _
        rw [e]
      rw [hP]
      by_cases hin : 0 ≤ v.order ∧ v.order < x.orders.length
      · rw [QaX (by simp [lenI]; omega), if_pos hin.1]
        have eo : x.orders[v.order.toNat]? = some (x.orders[v.order.toNat]'(by omega)) := List.getElem?_eq_getElem _
        generalize x.orders[v.order.toNat]'(by omega) = o at eo
        have eg : getI x.orders v.order = some o := by unfold getI; rw [if_pos hin.1, eo]
        rw [eo, eg]
        simp only [Qag]
        cases hasO (r.visits.take k) v.order with
        | true => rfl
        | false =>
          rw [Qik, if_neg (by decide), show (neI o.now (-1) && neI o.now r.type_) = forB o.now r.type_ from rfl, show (neI o.last_ (-1) && neI o.last_ r.type_) = forB o.last_ r.type_ from rfl, addI (by omega) (by omega), addI (by omega) (by omega)]
          generalize pairK x r k = p
          cases forB o.now r.type_ <;> cases forB o.last_ r.type_ <;> simp [bit1]
      · rw [Qbd (by simp [lenI]; omega)]
        have : (if 0 ≤ v.order then x.orders[v.order.toNat]? else none) = none := by
          split
          · exact List.getElem?_eq_none (by omega)
          · rfl
        rw [this]) (by
      show QdN x r s0 (typS x r) (mapK (r.visits.take r.visits.length)) (pairK x r r.visits.length).1 (pairK x r r.visits.length).2 (r.visits.length : Int) = _
      unfold QdN
      rw [Qa6])
    exact this
  rw [Qco this]
  rfl
theorem QyF (hl : l.length ≤ 1048576) {k : Nat} {v : Qac} (e : l[k]? = some v) : Qky l (k : Int) = some (!hasO (l.take k) v.order) := by
  have hk := (List.getElem?_eq_some_iff.1 e).1
  have := QtG (B := fun q => QdD l (k : Int) q) (n := k) (by omega) (fun j => match l[j]? with | some w => eqI w.order v.order | none => false) (y := (.inr false : Unit ⊕ Bool)) (N := .inl ()) (b := hasO (l.take k) v.order) (by
    rw [Qtp]
    constructor
    · rintro ⟨w, hw, he⟩
      obtain ⟨j, hj, hje⟩ := (Qqb (by omega)).1 hw
      exact ⟨j, hj, by rw [hje]; simpa using he⟩
    · rintro ⟨j, hj, h⟩
      rw [List.getElem?_eq_getElem (show j < l.length by omega)] at h
      exact ⟨_, (Qqb (by omega)).2 ⟨j, hj, List.getElem?_eq_getElem (by omega)⟩, by simpa using h⟩) (fun j hj => by
    have ej : l[j]? = some (l[j]'(by omega)) := List.getElem?_eq_getElem _
    show QdD l (k : Int) j = _
    unfold QdD
    rw [Qbd (by simp; omega), QaL ej, Qag, QaL e, Qag, incL ej hl, brs, ej]) (by
    show QdD l (k : Int) k = _
    unfold QdD
    rw [QaX (by simp)])
  unfold Qky
  rw [Qco this]
  cases hasO (l.take k) v.order <;> rfl
theorem QwO (hx : QcZ x) (hl : r.visits.length ≤ 1048576) (ht : 0 ≤ r.type_ ∧ r.type_ < x.types.length) : QlJ x r s0 = some (scoS x r s0) := by
  obtain ⟨t1, t2⟩ := QtN ht.1 ht.2
  have h10 := hx.orders
  unfold QlJ
  rw [QaX (by simp [lenI]; omega), t1, Qag]
  have this : loopF (fun q : Int × Int × Int => Qdh x r s0 (typS x r) q.1 q.2.1 q.2.2) (0, 0, 0) = some (pairK x r r.visits.length) := by
    have := Qeo r.visits.length (fun k => ((pairK x r k).1, (pairK x r k).2, (k : Int))) (B := fun q : Int × Int × Int => Qdh x r s0 (typS x r) q.1 q.2.1 q.2.2) (e := pairK x r r.visits.length) (by omega) (fun k hk => by
      have e : r.visits[k]? = some r.visits[k] := List.getElem?_eq_getElem hk
      generalize r.visits[k] = v at e
      show Qdh x r s0 (typS x r) (pairK x r k).1 (pairK x r k).2 (k : Int) = some (Sum.inl ((pairK x r (k + 1)).1, (pairK x r (k + 1)).2, ((k + 1 : Nat) : Int)))
      unfold Qdh QiB
      rw [Qbu e, incL e hl, QyF hl e]
      have hp := Qu3 (x := x) (r := r) k
      show _ = some (Sum.inl ((pairK x r (k + 1)).1, (pairK x r (k + 1)).2, (k : Int) + 1))
      have hP : pairK x r (k + 1) = match (if 0 ≤ v.order then x.orders[v.order.toNat]? else none) with
        | none => pairK x r k
        | some o => if hasO (r.visits.take k) v.order = true then pairK x r k else ((pairK x r k).1 + bit1 (forB o.now r.type_), (pairK x r k).2 + bit1 (forB o.last_ r.type_)) := by
        show (match r.visits[k]? with
          | none => pairK x r k
          | some v => match (if 0 ≤ v.order then x.orders[v.order.toNat]? else none) with
            | none => pairK x r k
            | some o => if hasO (r.visits.take k) v.order = true then pairK x r k else ((pairK x r k).1 + bit1 (forB o.now r.type_), (pairK x r k).2 + bit1 (forB o.last_ r.type_))) = _
        rw [e]
      rw [hP]
      by_cases hin : 0 ≤ v.order ∧ v.order < x.orders.length
      · rw [QaX (by simp [lenI]; omega), if_pos hin.1]
        have eo : x.orders[v.order.toNat]? = some (x.orders[v.order.toNat]'(by omega)) := List.getElem?_eq_getElem _
        generalize x.orders[v.order.toNat]'(by omega) = o at eo
        have eg : getI x.orders v.order = some o := by unfold getI; rw [if_pos hin.1, eo]
        rw [eo, eg]
        simp only [Qag]
        cases hasO (r.visits.take k) v.order with
        | true => rfl
        | false =>
          rw [Bool.not_false, Qhf, if_neg (by decide), addI (by omega) (by omega), addI (by omega) (by omega)]
          generalize pairK x r k = p
          unfold forB
          cases neI o.now (-1) <;> cases neI o.now r.type_ <;> cases neI o.last_ (-1) <;> cases neI o.last_ r.type_ <;> simp [bit1]
      · rw [Qbd (by simp [lenI]; omega)]
        have : (if 0 ≤ v.order then x.orders[v.order.toNat]? else none) = none := by
          split
          · exact List.getElem?_eq_none (by omega)
          · rfl
        rw [this]) (by
      show Qdh x r s0 (typS x r) (pairK x r r.visits.length).1 (pairK x r r.visits.length).2 (r.visits.length : Int) = _
      unfold Qdh
      rw [Qa6])
    exact this
  rw [Qco this]
  rfl
end
end Go.Proofs.YtoogjnlmicgfiaaGreatDoor
namespace Go.Proofs.YtoogjnlmicgfiaaGreatDoor
set_option linter.unusedSimpArgs false
set_option linter.unusedVariables false
set_option linter.unusedSectionVars false
theorem QuZ : ∀ (n : Nat) (l : List Nat), l.Nodup → (∀ a ∈ l, a < n) → l.length ≤ n
  | 0, l, _, h => by
    cases l with
    | nil => simp
    | cons a r => exact absurd (h a (by simp)) (by omega)
  | n + 1, l, hd, h => by
    by_cases hm : n ∈ l
    · have h1 := QuZ n (l.erase n) (hd.erase n) fun a ha => by
        have h2 := (hd.mem_erase_iff).1 ha
        have := h a h2.2
        omega
      rw [List.length_erase_of_mem hm] at h1
      omega
    · have := QuZ n l hd fun a ha => by
        have := h a ha
        have : a ≠ n := fun e => hm (e ▸ ha)
        omega
      omega
section
variable {x : Qad} {l : List Qac} {r : Qab}
theorem SeqOK.short (hx : QcZ x) (h : SeqOK x l) : l.length ≤ 20 := by
  have h10 := hx.orders
  have hm : (l.map fun v : Qac => 2 * v.order.toNat + (if v.drop = true then 1 else 0)).Nodup := by
    unfold List.Nodup
    rw [List.pairwise_map]
    refine h.nodup.imp_of_mem fun {a b} ha hb hne he => hne ?_
    have h1 := Qnu h.inn ha
    have h2 := Qnu h.inn hb
    cases a with
    | mk ao ad =>
      cases b with
      | mk bo bd =>
        simp only at h1 h2 he
        have hd : ad = bd ∧ ao = bo := by
          cases ad <;> cases bd <;> simp at he ⊢ <;> omega
        rw [hd.1, hd.2]
  have := QuZ 20 _ hm fun a ha => by
    obtain ⟨v, hv, rfl⟩ := List.mem_map.1 ha
    have h1 := Qnu h.inn hv
    split <;> omega
  simpa using this
/-- May the type do all that the route asks? -/
noncomputable def ableB (t : Qal) (skills : Int) : Bool := (QlA t skills).getD false
noncomputable def Qo9 (x : Qad) (r : Qab) (v : Qac) : Bool := match x.orders[v.order.toNat]? with
  | some o => ableB (typS x r) o.skills
  | none => false
theorem QwQ (hx : QcZ x) (ht : 0 ≤ r.type_ ∧ r.type_ < x.types.length) {v : Qac} (hv : 0 ≤ v.order ∧ v.order < x.orders.length) : ∃ o, getI x.orders v.order = some o ∧ QlA (typS x r) o.skills = some (Qo9 x r v) ∧ Qjj (typS x r) o.skills = some (Qo9 x r v) ∧ x.orders[v.order.toNat]? = some o := by
  obtain ⟨o, g1, g2, _, g4⟩ := QvR (x := x) hv.1 hv.2
  obtain ⟨b, b1, b2⟩ := QBB (t := typS x r) (hx.typ _ (QtN ht.1 ht.2).2).skills (hx.ord o g2).skills
  have : Qo9 x r v = b := by unfold Qo9 ableB; rw [g4]; simp only; rw [b1]; rfl
  exact ⟨o, g1, by rw [this, b1], by rw [this, b2], g4⟩
def QyA : Qao := Qao.mk 0 0 0 0
/-- The best schedule, of the program and of the reference. -/
theorem QyG (hx : QcZ x) (hR : Qoi r) (h9 : ¬ (9 < r.visits.length ∧ r.visits.length ≤ 20)) :
    ∃ A, QmY x r = some A ∧ Qjk x r = some A ∧ A.1.times.length ≤ 1048576 ∧ (A.2 ≠ 0 → A.1 = QnK) ∧
      (A.2 = 0 → (possS x r = true ∧ r.rests.length ≤ r.visits.length + 1) ∧ ∃ b, fullB x.net (typS x r) (Qax x r) r.start r.rests b ∧ minB x.net (typS x r) (Qax x r) r.start r.rests b ∧ A.1 = (lbB x.net (typS x r) (Qax x r) r.start b).sheet) := by
  obtain ⟨A, hA, pA⟩ := Qvr hx hR h9
  obtain ⟨B, hB, pB⟩ := Qum hx hR h9
  have hv := hR.visits
  have hr := hR.rests
  have key : A = B ∧ A.1.times.length ≤ 1048576 ∧ (A.2 ≠ 0 → A.1 = QnK) ∧ (A.2 = 0 → (possS x r = true ∧ r.rests.length ≤ r.visits.length + 1) ∧ ∃ b, fullB x.net (typS x r) (Qax x r) r.start r.rests b ∧ minB x.net (typS x r) (Qax x r) r.start r.rests b ∧ A.1 = (lbB x.net (typS x r) (Qax x r) r.start b).sheet) := by
    rcases pA with ⟨a1, a2⟩ | ⟨a1, a2⟩
    · rcases pB with ⟨_, b2⟩ | ⟨b1, _⟩
      · rw [a2, b2]; exact ⟨rfl, Nat.zero_le _, fun _ => rfl, fun h => by cases h⟩
      · exact absurd b1 a1
    · rcases pB with ⟨b1, _⟩ | ⟨_, b2⟩
      · exact absurd a1 b1
      · rcases a2 with ⟨a, fa, ma, ea⟩ | ⟨na, ea⟩
        · rcases b2 with ⟨b, fb, mb, eb⟩ | ⟨nb, eb⟩
          · have hab := QxM fa fb ma mb
            rw [ea, eb, hab]
            refine ⟨rfl, ?_, fun h => absurd rfl h, fun _ => ⟨a1, b, fb, mb, rfl⟩⟩
            have h1 := QAp (n := x.net) (t := typS x r) (stops := Qax x r) (start := r.start) (b := b)
            have h2 := fb.1
            rw [Qlg] at h2
            have := (of_decide_eq_true (QnE a1.1)).2.2.2.2
            show (lbB x.net (typS x r) (Qax x r) r.start b).sheet.times.length ≤ _
            omega
          · exact absurd fa (nb a)
        · rcases b2 with ⟨b, fb, mb, eb⟩ | ⟨nb, eb⟩
          · exact absurd fb (na b)
          · rw [ea, eb]
            have hno : ¬ okB x.net (typS x r) (Qax x r) r.start (r.rests ++ List.replicate (r.visits.length + 1 - r.rests.length) false) := fun hok => by
              refine na _ ⟨?_, ?_, hok⟩
              · rw [Qlg, List.length_append, List.length_replicate]; omega
              · rw [← Qqd]; exact Qxi
            obtain ⟨n1, n2⟩ := Quo hno
            refine ⟨rfl, ?_, fun _ => by rw [n2], fun h => absurd h n1⟩
            rw [n2]; exact Nat.zero_le _
  exact ⟨A, hA, by rw [key.1]; exact hB, key.2.1, key.2.2.1, key.2.2.2⟩
/-- What a route that holds is. -/
structure EvOK (x : Qad) (r : Qab) (s : Qam) (b : List Bool) : Prop where
  type_ : 0 ≤ r.type_ ∧ r.type_ < x.types.length
  seq : seqS x r.visits = 0
  able : ∀ v ∈ r.visits, Qo9 x r v = true
  fits : fitS x r = 0
  poss : possS x r = true
  rests : r.rests.length ≤ r.visits.length + 1
  full : fullB x.net (typS x r) (Qax x r) r.start r.rests b
  min : minB x.net (typS x r) (Qax x r) r.start r.rests b
  sheet : s = (lbB x.net (typS x r) (Qax x r) r.start b).sheet
theorem QA7 (hx : QcZ x) (hR : Qoi r) (h9 : ¬ (9 < r.visits.length ∧ r.visits.length ≤ 20)) :
    ∃ E, Qch x r = some E ∧ QgE x r = some E ∧ E.1.times.length ≤ 1048576 ∧ (E.2.2 ≠ 0 → E.1 = QnK ∧ E.2.1 = QyA) ∧ (E.2.2 = 0 → E.2.1 = scoS x r E.1 ∧ ∃ b, EvOK x r E.1 b) := by
  have hv := hR.visits
  unfold Qch QgE
  by_cases ht : 0 ≤ r.type_ ∧ r.type_ < x.types.length
  · rw [QaX (by simp [lenI]; omega), QaX (by simp [lenI]; omega), QuF hx hv, Qag, QtP hx hv, Qag]
    by_cases hs : seqS x r.visits = 0
    · have hq := Qta hs
      have h20 := hq.short hx
      rw [QaX (by simpa using hs), QaX (by simpa using hs)]
      have a1 : QlS x r = some (if r.visits.any (fun v => !Qo9 x r v) = true then 18 else 0) := by
        unfold QlS
        rw [Qco (QeX (B := fun s => QcO x r s) hv (fun v => !Qo9 x r v) (y := (.inr 18 : Unit ⊕ Int)) (N := .inl ()) (fun i a h => by
          obtain ⟨o, g1, g2, g3, _⟩ := QwQ (r := r) hx ht (Qnu hq.inn (List.mem_of_getElem? h))
          show QcO x r i = _
          unfold QcO
          rw [Qbu h, (QtN ht.1 ht.2).1, Qag, g1, Qag, g2, Qag, incL h hv]
          cases Qo9 x r a <;> rfl) (by
          show QcO x r r.visits.length = _
          unfold QcO
          rw [Qa6]))]
        split <;> rfl
      have a2 : loopF (fun s => Qcs x r s) 0 = some (if r.visits.any (fun v => !Qo9 x r v) = true then .inr (QnK, QyA, 18) else .inl ()) :=
        QeX (B := fun s => Qcs x r s) hv (fun v => !Qo9 x r v) (y := (.inr (QnK, QyA, 18) : Unit ⊕ (Qam × Qao × Int))) (N := .inl ()) (fun i a h => by
          obtain ⟨o, g1, g2, g3, _⟩ := QwQ (r := r) hx ht (Qnu hq.inn (List.mem_of_getElem? h))
          show Qcs x r i = _
          unfold Qcs
          have hlt := (List.getElem?_eq_some_iff.1 h).1
          rw [Qbd (by simp [lenI]; omega), (QtN ht.1 ht.2).1, Qag, QaL h, Qag, g1, Qag, g3, Qag, incL h hv]
          cases Qo9 x r a <;> rfl) (by
          show Qcs x r r.visits.length = _
          unfold Qcs
          rw [QaX (by simp [lenI])])
      rw [a1, Qag, a2, Qag]
      by_cases hab : r.visits.any (fun v => !Qo9 x r v) = true
      · rw [if_pos hab, if_pos hab, Qbd (by decide), Qhm]
        exact ⟨_, rfl, rfl, Nat.zero_le _, fun _ => ⟨rfl, rfl⟩, fun h => by cases h⟩
      · rw [if_neg hab, if_neg hab, QaX (by decide), QeY]
        obtain ⟨f1, f2⟩ := Qzq (r := r) hx (by omega) hs ht
        rw [f1, Qag, f2, Qag]
        by_cases hf : fitS x r = 0
        · rw [QaX (by simpa using hf), QaX (by simpa using hf)]
          obtain ⟨A, hA, hB, ht', hz, hfull⟩ := QyG hx hR h9
          rw [hA, Qag, hB, Qag]
          by_cases hA2 : A.2 = 0
          · rw [QaX (by simpa using hA2), QaX (by simpa using hA2), QwP hx hv ht, Qag, QwO hx hv ht, Qag]
            obtain ⟨⟨p1, p2⟩, b, fb, mb, eb⟩ := hfull hA2
            refine ⟨_, rfl, rfl, ht', fun h => absurd rfl h, fun _ => ⟨rfl, b, ht, hs, fun v hv' => ?_, hf, p1, p2, fb, mb, eb⟩⟩
            have := List.any_eq_false.1 (by simpa using hab : r.visits.any (fun v => !Qo9 x r v) = false) v hv'
            simpa using this
          · rw [Qbd (by simpa using hA2), Qbd (by simpa using hA2)]
            exact ⟨_, rfl, rfl, Nat.zero_le _, fun _ => ⟨rfl, rfl⟩, fun h => absurd h hA2⟩
        · rw [Qbd (by simpa using hf), Qbd (by simpa using hf)]
          exact ⟨_, rfl, rfl, Nat.zero_le _, fun _ => ⟨rfl, rfl⟩, fun h => absurd h hf⟩
    · rw [Qbd (by simpa using hs), Qbd (by simpa using hs)]
      exact ⟨_, rfl, rfl, Nat.zero_le _, fun _ => ⟨rfl, rfl⟩, fun h => absurd h hs⟩
  · rw [Qbd (by simp [lenI]; omega), Qbd (by simp [lenI]; omega)]
    exact ⟨_, rfl, rfl, Nat.zero_le _, fun _ => ⟨rfl, rfl⟩, fun h => by cases h⟩
end
end Go.Proofs.YtoogjnlmicgfiaaGreatDoor
namespace Go.Proofs.YtoogjnlmicgfiaaGreatDoor
set_option linter.unusedSimpArgs false
set_option linter.unusedVariables false
set_option linter.unusedSectionVars false
section
variable {n : Qah} {t : Qal} {stops : List Qat} {start : Int}
theorem QzP (hT : Qlo n t stops) : ∀ (b : List Bool) (k : Nat) (l : Qaf), LabI k l → k + b.length ≤ stops.length → (runK n t stops b k l).2 = 0 → l.ready ≤ (runK n t stops b k l).1.ready
  | [], k, l, hl, _, _ => Int.le_refl _
  | a :: b, k, l, hl, hk, h => by
    simp only [runK] at h ⊢
    simp only [List.length_cons] at hk
    by_cases h0 : (nxt n t stops l k a).2 = 0
    · rw [if_neg (by simpa using h0)] at h ⊢
      have h1 := QzP hT b (k + 1) _ (Quh hT hl (by omega) h0) (by omega) h
      refine Int.le_trans ?_ h1
      obtain ⟨g0, g1, g2, g3⟩ := QsI hT hl h0
      have hb := Qt7 hT.net (QuN (rest := a) hT hl) g0
      have hS := hT.stopK k
      have := hS.serv0
      have hr := hT.rest
      rw [g3]
      have hd : l.ready ≤ depS t l a := by unfold depS; split <;> omega
      show l.ready ≤ max _ _ + _
      omega
    · rw [if_pos h0] at h; exact absurd h h0
theorem QAn (hT : Qlo n t stops) (hs : 0 ≤ start ∧ start ≤ 4096) {b : List Bool} (hl : b.length = stops.length + 1) (hok : okB n t stops start b) :
    t.open_ ≤ (lbB n t stops start b).sheet.end_ ∧ (lbB n t stops start b).sheet.end_ ≤ t.close ∧ 0 ≤ (lbB n t stops start b).sheet.miles ∧ (lbB n t stops start b).sheet.miles ≤ 210000 := by
  obtain ⟨b0, c, rfl⟩ : ∃ b0 c, b = b0 ++ [c] := by
    rcases List.eq_nil_or_concat b with rfl | ⟨b0, c, rfl⟩
    · simp at hl
    · exact ⟨b0, c, by simp⟩
  have hb0 : b0.length = stops.length := by simpa using hl
  obtain ⟨o1, o2⟩ := QoU.1 hok
  have hL := Qr2 hT hs (by omega) o1
  obtain ⟨g0, g1, g2, g3⟩ := QsI hT hL o2
  have hb := Qt7 hT.net (QuN (rest := c) hT hL) g0
  have hge : t.open_ ≤ (lbB n t stops start b0).ready := by
    have := QzP hT b0 0 (begS t start) (QtQ hT hs) (by omega) o1
    have h2 : t.open_ ≤ (begS t start).ready := by show t.open_ ≤ max t.open_ start; omega
    exact Int.le_trans h2 this
  have hn : ¬ b0.length < stops.length := by omega
  have hm0 := hL.miles0
  have hm1 := hL.miles1
  have hfew := hT.few
  have hr := hT.rest
  have hd : (lbB n t stops start b0).ready ≤ depS t (lbB n t stops start b0) c := by unfold depS; split <;> omega
  rw [Qr3 hok, g3]
  rw [Qpn hn] at hb g1 ⊢
  have g1' : (goN n t.profile (fromP t stops b0.length) (endS t).place (depS t (lbB n t stops start b0) c)).1 ≤ t.close := g1
  show t.open_ ≤ (if b0.length < stops.length then _ else _ : Int) ∧ (if b0.length < stops.length then _ else _ : Int) ≤ t.close ∧ 0 ≤ (lbB n t stops start b0).sheet.miles + _ ∧ (lbB n t stops start b0).sheet.miles + _ ≤ 210000
  rw [if_neg hn]
  omega
end
section
variable {x : Qad} {l : List Qac} {r : Qab}
/-- What a route that holds comes to. -/
theorem EvOK.facts (hx : QcZ x) {s : Qam} {b : List Bool} (h : EvOK x r s b) :
    (typS x r).open_ ≤ s.end_ ∧ s.end_ ≤ (typS x r).close ∧ 0 ≤ s.miles ∧ s.miles ≤ 210000 ∧ QhI s = b ∧ s.times.length = r.visits.length ∧ b.length = r.visits.length + 1 ∧ r.visits.length ≤ 20 := by
  have h5 := of_decide_eq_true (QnE h.poss)
  have hT := Qzn hx h.poss
  obtain ⟨e1, e2, e3, e4⟩ := QAn hT ⟨h5.2.2.1, h5.2.2.2.1⟩ h.full.1 h.full.2.2
  obtain ⟨r1, r2⟩ := Qx9 hx h.poss h.full.1 h.full.2.2
  have hsl := Qlg (x := x) (r := r)
  have hl := h.full.1
  rw [h.sheet]
  exact ⟨e1, e2, e3, e4, r1, by omega, by omega, h5.2.2.2.2⟩
theorem QAZ (hx : QcZ x) (hv : r.visits.length ≤ 1048576) (ht : 0 ≤ r.type_ ∧ r.type_ < x.types.length) (hq : SeqOK x r.visits) : QlS x r = some (if r.visits.any (fun v => !Qo9 x r v) = true then 18 else 0) := by
  unfold QlS
  rw [Qco (QeX (B := fun s => QcO x r s) hv (fun v => !Qo9 x r v) (y := (.inr 18 : Unit ⊕ Int)) (N := .inl ()) (fun i a h => by
    obtain ⟨o, g1, g2, g3, _⟩ := QwQ (r := r) hx ht (Qnu hq.inn (List.mem_of_getElem? h))
    show QcO x r i = _
    unfold QcO
    rw [Qbu h, (QtN ht.1 ht.2).1, Qag, g1, Qag, g2, Qag, incL h hv]
    cases Qo9 x r a <;> rfl) (by
    show QcO x r r.visits.length = _
    unfold QcO
    rw [Qa6]))]
  split <;> rfl
/-- A route that holds is evaluated so. -/
theorem ev_of (hx : QcZ x) (hR : Qoi r) (h9 : ¬ (9 < r.visits.length ∧ r.visits.length ≤ 20)) {s : Qam} {b : List Bool} (h : EvOK x r s b) : Qch x r = some (s, scoS x r s, 0) := by
  have hv := hR.visits
  have ht := h.type_
  have hq := Qta h.seq
  have h20 := hq.short hx
  unfold Qch
  rw [QaX (by simp [lenI]; omega), QuF hx hv, Qag, QaX (by simpa using h.seq), QAZ hx hv ht hq, Qag]
  have hab : ¬ r.visits.any (fun v => !Qo9 x r v) = true := by
    rw [List.any_eq_true]
    rintro ⟨v, hv', hh⟩
    rw [h.able v hv'] at hh
    cases hh
  rw [if_neg hab, QaX (by decide), (Qzq (r := r) hx (by omega) h.seq ht).1, Qag, QaX (by simpa using h.fits)]
  obtain ⟨A, hA, pA⟩ := Qvr hx hR h9
  rw [hA, Qag]
  have e : A = (s, 0) := by
    rcases pA with ⟨a1, _⟩ | ⟨_, a2⟩
    · exact absurd ⟨h.poss, h.rests⟩ a1
    · rcases a2 with ⟨a, fa, ma, ea⟩ | ⟨na, _⟩
      · rw [ea, QxM fa h.full ma h.min, h.sheet]
      · exact absurd h.full (na b)
  rw [e, Qwc, QwP hx hv ht, Qag]
theorem Qs6 {rs : List Bool} : ∀ k, pairK x (Qab.mk r.type_ r.start rs r.visits) k = pairK x r k
  | 0 => rfl
  | k + 1 => by
    have ih := Qs6 (rs := rs) k
    unfold pairK
    rw [ih]
theorem quoD {a b : Int} (ha : 0 ≤ a ∧ a ≤ 9223372036854775807) (hb : 0 < b) : quoK .i64 a b = a / b := by
  have e : a.tdiv b = a / b := Int.tdiv_eq_ediv_of_nonneg ha.1
  have h1 : 0 ≤ a / b := Int.ediv_nonneg ha.1 (by omega)
  have h2 : a / b ≤ a := Int.ediv_le_self b ha.1
  rw [quoI (by rw [e]; omega) (by rw [e]; omega), e]
end
end Go.Proofs.YtoogjnlmicgfiaaGreatDoor
namespace Go.Proofs.YtoogjnlmicgfiaaGreatDoor
set_option linter.unusedSimpArgs false
set_option linter.unusedVariables false
set_option linter.unusedSectionVars false
/-- The least k with p, but n at most. -/
def QpW (p : Nat → Bool) : Nat → Nat → Nat
  | 0, k => k
  | f + 1, k => if p k = true then k else QpW p f (k + 1)
theorem Qs1 (p : Nat → Bool) : ∀ f k, k ≤ QpW p f k ∧ QpW p f k ≤ k + f ∧ (∀ j, k ≤ j → j < QpW p f k → p j = false) ∧ (QpW p f k < k + f → p (QpW p f k) = true)
  | 0, k => ⟨Nat.le_refl _, Nat.le_refl _, fun j h1 h2 => absurd (Nat.lt_of_le_of_lt h1 h2) (Nat.lt_irrefl k), fun h => absurd h (Nat.lt_irrefl k)⟩
  | f + 1, k => by
    unfold QpW
    by_cases hp : p k = true
    · rw [if_pos hp]
      exact ⟨Nat.le_refl _, by omega, fun j h1 h2 => by omega, fun _ => hp⟩
    · rw [if_neg hp]
      obtain ⟨h1, h2, h3, h4⟩ := Qs1 p f (k + 1)
      refine ⟨by omega, by omega, fun j g1 g2 => ?_, fun h => h4 (by omega)⟩
      rcases Nat.lt_or_ge k j with h | h
      · exact h3 j h g2
      · obtain rfl : j = k := by omega
        simpa using hp
section
variable {S E : Type} {B : S → Option (S ⊕ E)}
theorem Qt9 (p : Nat → Bool) (st : Nat → S) (Y : Nat → E) (N : E) : ∀ f k, (∀ j, k ≤ j → j < k + f → B (st j) = some (if p j = true then .inr (Y j) else .inl (st (j + 1)))) → B (st (k + f)) = some (.inr N) →
    iterF B (f + 1) (st k) = some (if QpW p f k < k + f then Y (QpW p f k) else N)
  | 0, k, _, he => by
    simp only [iterF]
    rw [show B (st k) = some (.inr N) from he]
    simp only
    rw [if_neg (by unfold QpW; omega)]
  | f + 1, k, hs, he => by
    rw [iterF, hs k (Nat.le_refl _) (by omega)]
    unfold QpW
    by_cases hp : p k = true
    · rw [if_pos hp, if_pos hp, if_pos (by omega)]
    · rw [if_neg hp, if_neg hp]
      simp only
      have := Qt9 p st Y N f (k + 1) (fun j h1 h2 => hs j (by omega) (by omega)) (by rw [show k + 1 + f = k + (f + 1) by omega]; exact he)
      rw [show k + 1 + f = k + (f + 1) by omega] at this
      exact this
theorem Qud {n : Nat} (hn : n < 18446744073709551616) (p : Nat → Bool) (st : Nat → S) (Y : Nat → E) {N : E} (hs : ∀ j, j < n → B (st j) = some (if p j = true then .inr (Y j) else .inl (st (j + 1)))) (he : B (st n) = some (.inr N)) :
    loopF B (st 0) = some (if QpW p n 0 < n then Y (QpW p n 0) else N) := by
  have := Qt9 (B := B) p st Y N n 0 (fun j _ h => hs j (by omega)) (by rw [Nat.zero_add]; exact he)
  rw [Nat.zero_add] at this
  exact QqV (n + 1) hn this
end
/-- A fold that may go out early. -/
def foldE {α S E : Type} (f : S → α → S ⊕ E) (N : S → E) : S → List α → E
  | s, [] => N s
  | s, a :: r => match f s a with
    | .inl s' => foldE f N s' r
    | .inr e => e
theorem Qji {α S E : Type} {f : S → α → S ⊕ E} {N : S → E} {s s' : S} {a : α} {r : List α} (h : f s a = .inl s') : foldE f N s (a :: r) = foldE f N s' r := by rw [foldE, h]
theorem Qtl {α S E : Type} {f : S → α → S ⊕ E} {N : S → E} {s : S} {a : α} {r : List α} {e : E} (h : f s a = .inr e) : foldE f N s (a :: r) = e := by rw [foldE, h]
theorem Qr8 {α S E : Type} {l : List α} (hl : l.length ≤ 1048576) (f : S → α → S ⊕ E) (N : S → E) (Inv : Nat → S → Prop) {B : S × Int → Option ((S × Int) ⊕ E)}
    (hin : ∀ (s : S) (i : Nat) (a : α), l[i]? = some a → Inv i s → B (s, (i : Int)) = some (match f s a with | .inl s' => .inl (s', (i : Int) + 1) | .inr e => .inr e) ∧ ∀ s', f s a = .inl s' → Inv (i + 1) s')
    (hend : ∀ s, Inv l.length s → B (s, (l.length : Int)) = some (.inr (N s))) {s0 : S} (h0 : Inv 0 s0) : loopF B (s0, 0) = some (foldE f N s0 l) := by
  have main : ∀ (m : List α) (k : Nat) (s : S), l.drop k = m → k ≤ l.length → Inv k s → iterF B (m.length + 1) (s, (k : Int)) = some (foldE f N s m) := by
    intro m
    induction m with
    | nil =>
      intro k s hd hk hi
      have : k = l.length := by
        have := congrArg List.length hd
        rw [List.length_drop, List.length_nil] at this
        omega
      subst this
      simp only [List.length_nil, iterF]
      rw [hend s hi]
      rfl
    | cons a m ih =>
      intro k s hd hk hi
      have hk' : k < l.length := Nat.lt_of_not_le fun h => by rw [List.drop_eq_nil_of_le h] at hd; cases hd
      have hcons := List.drop_eq_getElem_cons hk'
      rw [hd] at hcons
      injection hcons with h1 h2
      have e : l[k]? = some a := by rw [List.getElem?_eq_getElem hk', ← h1]
      obtain ⟨g1, g2⟩ := hin s k a e hi
      rw [List.length_cons, iterF, g1]
      show _ = some (match f s a with | .inl s' => foldE f N s' m | .inr e => e)
      cases hf : f s a with
      | inl s' => exact ih (k + 1) s' h2.symm hk' (g2 s' hf)
      | inr e => rfl
  have := main l 0 s0 rfl (Nat.zero_le _) h0
  exact QqV (l.length + 1) (by unfold QvM; omega) this
end Go.Proofs.YtoogjnlmicgfiaaGreatDoor
namespace Go.Proofs.YtoogjnlmicgfiaaGreatDoor
set_option linter.unusedSimpArgs false
set_option linter.unusedVariables false
set_option linter.unusedSectionVars false
theorem Qri : QbI = some true := by kernel_rfl
def zTime : Qaq := Qaq.mk 0 0 0 false
/-- A route that the enumerations can do. -/
def Qmc (r : Qab) : Prop := ¬ (9 < r.visits.length ∧ r.visits.length ≤ 20)
section
variable {x : Qad} {r : Qab} {s : Qam} {now : Int}
/-- When the vehicle is ready behind k visits. -/
def rdyS (x : Qad) (r : Qab) (s : Qam) : Nat → Int
  | 0 => maxI (typS x r).open_ r.start
  | k + 1 => addK .i64 (s.times.getD k zTime).begin ((Qax x r).getD k zStop).service
/-- How many visits have begun. -/
def fixS (x : Qad) (r : Qab) (s : Qam) (now : Int) : Nat := QpW (fun k => geI (rdyS x r s k) now) r.visits.length 0
def finB (x : Qad) (r : Qab) (s : Qam) (now : Int) : Bool := if fixS x r s now < r.visits.length then false else gtI (r.visits.length : Int) 0 && ltI (rdyS x r s r.visits.length) now
theorem Qt2 : fixS x r s now ≤ r.visits.length := by
  have := (Qs1 (fun k => geI (rdyS x r s k) now) r.visits.length 0).2.1
  unfold fixS; omega
noncomputable def evX (x : Qad) (r : Qab) : Qam × Qao × Int := (Qch x r).getD (QnK, QyA, 0)
theorem Qmf (hx : QcZ x) (hR : Qoi r) (h9 : Qmc r) : Qch x r = some (evX x r) ∧ QgE x r = some (evX x r) ∧ (evX x r).1.times.length ≤ 1048576 ∧ ((evX x r).2.2 ≠ 0 → (evX x r).1 = QnK ∧ (evX x r).2.1 = QyA) ∧ ((evX x r).2.2 = 0 → (evX x r).2.1 = scoS x r (evX x r).1 ∧ ∃ b, EvOK x r (evX x r).1 b) := by
  obtain ⟨E, e1, e2, e3, e4, e5⟩ := QA7 hx hR h9
  have : evX x r = E := by unfold evX; rw [e1]; rfl
  rw [this]
  exact ⟨e1, e2, e3, e4, e5⟩
theorem EvOK.visit (hx : QcZ x) {b : List Bool} (h : EvOK x r s b) {k : Nat} (hk : k < r.visits.length) : ∃ v o, r.visits[k]? = some v ∧ getI x.orders v.order = some o ∧ stopV x v = some ((Qax x r).getD k zStop) ∧ atS v o = (Qax x r).getD k zStop ∧ s.times[k]? = some (s.times.getD k zTime) := by
  have hf := h.facts hx
  have hsl := Qlg (x := x) (r := r)
  have e0 : (Qax x r)[k]? = some ((Qax x r).getD k zStop) := by rw [List.getD_eq_getElem?_getD, List.getElem?_eq_getElem (show k < (Qax x r).length by omega)]; rfl
  obtain ⟨v, v1, v2⟩ := Qvj h.poss e0
  have hin := Qnu (Qta h.seq).inn (List.mem_of_getElem? v1)
  obtain ⟨o, g1, g2, g3, g4⟩ := QvR (x := x) hin.1 hin.2
  refine ⟨v, o, v1, g1, v2, ?_, ?_⟩
  · unfold stopV at v2
    rw [if_pos hin.1, g4] at v2
    simp only at v2
    split at v2
    · exact Option.some.inj v2
    · cases v2
  · rw [List.getD_eq_getElem?_getD, List.getElem?_eq_getElem (show k < s.times.length by have := hf.2.2.2.2.2.1; omega)]; rfl
theorem Qs7 (hx : QcZ x) (hR : Qoi r) (h9 : Qmc r) (h0 : (evX x r).2.2 = 0) :
    Qew x r now = some (((fixS x r (evX x r).1 now : Nat) : Int), finB x r (evX x r).1 now, (evX x r).1, 0) ∧ QlK x r (evX x r).1 now = some (((fixS x r (evX x r).1 now : Nat) : Int), finB x r (evX x r).1 now) := by
  obtain ⟨e1, e2, e3, e4, e5⟩ := Qmf hx hR h9
  obtain ⟨_, b, hE⟩ := e5 h0
  have hf := hE.facts hx
  have ht := hE.type_
  generalize evX x r = E at *
  have hn : r.visits.length ≤ 20 := hf.2.2.2.2.2.2.2
  constructor
  · unfold Qew
    rw [e1, Qag, QaX (by simpa using h0), (QtN ht.1 ht.2).1, Qag]
    have := Qud (B := fun q : Int × Int × Int => Qb6 x r now E q.1 q.2.1 q.2.2) (n := r.visits.length) (by omega) (fun k => geI (rdyS x r E.1 k) now) (fun k => (rdyS x r E.1 k, (k : Int), (k : Int))) (fun k => (.inr ((k : Int), false, E.1, 0) : (Int × Int) ⊕ (Int × Bool × Qam × Int))) (N := .inl (rdyS x r E.1 r.visits.length, (r.visits.length : Int))) (fun k hk => by
      obtain ⟨v, o, v1, v2, v3, v4, v5⟩ := hE.visit hx hk
      show Qb6 x r now E (rdyS x r E.1 k) (k : Int) (k : Int) = _
      unfold Qb6
      rw [Qbu v1, Qrl, v3, Qag, QaL v5, Qag, inc (n := r.visits.length) hk (by omega), brs]
      rfl) (by
      show Qb6 x r now E (rdyS x r E.1 r.visits.length) (r.visits.length : Int) (r.visits.length : Int) = _
      unfold Qb6
      rw [Qa6])
    have this2 : loopF (fun q : Int × Int × Int => Qb6 x r now E q.1 q.2.1 q.2.2) (maxI (typS x r).open_ r.start, 0, 0) = some (if fixS x r E.1 now < r.visits.length then .inr (((fixS x r E.1 now : Nat) : Int), false, E.1, 0) else .inl (rdyS x r E.1 r.visits.length, (r.visits.length : Int))) := this
    rw [Qco this2]
    have hle := Qt2 (x := x) (r := r) (s := E.1) (now := now)
    unfold finB
    by_cases hlt : fixS x r E.1 now < r.visits.length
    · rw [if_pos hlt, if_pos hlt, Qhm]
    · rw [if_neg hlt, if_neg hlt, QeY, show fixS x r E.1 now = r.visits.length by omega]
  · unfold QlK
    rw [(QtN ht.1 ht.2).1, Qag]
    have := Qud (B := fun q : Int × Int × Int => Qdj x r E.1 now q.1 q.2.1 q.2.2) (n := r.visits.length) (by omega) (fun k => geI (rdyS x r E.1 k) now) (fun k => ((k : Int), rdyS x r E.1 k, (k : Int))) (fun k => (.inr ((k : Int), false) : (Int × Int) ⊕ (Int × Bool))) (N := .inl ((r.visits.length : Int), rdyS x r E.1 r.visits.length)) (fun k hk => by
      obtain ⟨v, o, v1, v2, v3, v4, v5⟩ := hE.visit hx hk
      show Qdj x r E.1 now (k : Int) (rdyS x r E.1 k) (k : Int) = _
      unfold Qdj QoR
      have hend : (bnd (getI r.visits (k : Int)) fun x1 => bnd (getI x.orders x1.order) fun x2 => br x1.drop (bnd (getI E.1.times (k : Int)) fun x3 => some (addK .i64 x3.begin x2.drop.service)) (bnd (getI E.1.times (k : Int)) fun x4 => some (addK .i64 x4.begin x2.pick.service))) = some (rdyS x r E.1 (k + 1)) := by
        rw [QaL v1, Qag, v2, Qag, QaL v5, Qag, Qag]
        show _ = some (addK .i64 (E.1.times.getD k zTime).begin ((Qax x r).getD k zStop).service)
        rw [← v4]
        unfold atS
        cases v.drop <;> rfl
      rw [Qbd (by simp [lenI]; omega), hend, Qag, inc (n := r.visits.length) hk (by omega), brs]
      rfl) (by
      show Qdj x r E.1 now (r.visits.length : Int) (rdyS x r E.1 r.visits.length) (r.visits.length : Int) = _
      unfold Qdj
      rw [QaX (by simp [lenI])])
    have this2 : loopF (fun q : Int × Int × Int => Qdj x r E.1 now q.1 q.2.1 q.2.2) (0, maxI (typS x r).open_ r.start, 0) = some (if fixS x r E.1 now < r.visits.length then .inr (((fixS x r E.1 now : Nat) : Int), false) else .inl ((r.visits.length : Int), rdyS x r E.1 r.visits.length)) := this
    rw [Qco this2]
    have hle := Qt2 (x := x) (r := r) (s := E.1) (now := now)
    unfold finB
    by_cases hlt : fixS x r E.1 now < r.visits.length
    · rw [if_pos hlt, if_pos hlt, Qhm]
    · rw [if_neg hlt, if_neg hlt, QeY, show fixS x r E.1 now = r.visits.length by omega]
theorem Qwq (hx : QcZ x) (hR : Qoi r) (h9 : Qmc r) (h0 : (evX x r).2.2 ≠ 0) : Qew x r now = some (0, false, QnK, (evX x r).2.2) := by
  obtain ⟨e1, e2, e3, e4, e5⟩ := Qmf hx hR h9
  unfold Qew
  rw [e1, Qag, Qbd (by simpa using h0)]
  rfl
def tickB (now : Int) : Bool := decide (0 ≤ now ∧ now ≤ 4096)
theorem Qzm : Qll now = some (tickB now) := by
  unfold Qll tickB
  congr 1
  rw [Bool.eq_iff_iff]
  simp
theorem Qyv : (ltI now 0 || gtI now 4096) = !tickB now := by
  unfold tickB
  rw [Bool.eq_iff_iff]
  simp
/-- A beginning. -/
def Qkm (r : Qab) (s : Qam) (k : Nat) (fin : Bool) : Qab := Qab.mk r.type_ r.start ((QhI s).take (if fin = true then k + 1 else k)) (r.visits.take k)
theorem QnG {α : Type} {l : List α} {k : Nat} (h : k ≤ l.length) : slcI l 0 (k : Int) = some (l.take k) := by
  unfold slcI
  rw [if_pos ⟨by omega, by omega, by omega⟩]
  simp
theorem QyK {l : List Qac} (h : l.length ≤ 1048576) : QbC l = some l := by
  unfold QbC
  rw [Qe6 (Qgs (by omega))]
  cases l with
  | nil => exact QwT
  | cons a r => rfl
theorem Qz2 {k : Nat} {fin : Bool} (hk : k ≤ r.visits.length) (hs : s.times.length = r.visits.length) (hl : r.visits.length ≤ 1048576) : Qls r (k : Int) fin s = some (Qkm r s k fin) := by
  have hrl := Qnh (s := s)
  unfold Qls
  rw [QnG hk, Qag, QyK (by rw [List.length_take]; omega), Qag]
  rw [Qco (Qsk (s0 := s) (by omega) (B := fun q : List Bool × Int => Qhu r (k : Int) fin s (r.visits.take k) (r.visits.take k) q.1 q.2) (fun l v => rfl))]
  unfold Qkm
  cases fin with
  | true =>
    rw [Qhf, addI (by omega) (by omega), show ((k : Int) + 1) = ((k + 1 : Nat) : Int) by simp, QnG (by omega), Qag]
    rfl
  | false =>
    rw [Qik, QnG (by omega), Qag]
    rfl
theorem Qx8 (h : s.times.length ≤ 1048576) : QlI s = some (QhI s) := by
  unfold QlI
  rw [Qco (Qsk (s0 := s) h (B := fun q : List Bool × Int => Qml s q.1 q.2) (fun l v => rfl))]
/-- One more route. -/
noncomputable def pfxS (x : Qad) (now : Int) (out : List Qab) (r : Qab) : List Qab ⊕ (List Qab ⊕ (List Qab × Int)) :=
  if (evX x r).2.2 ≠ 0 then .inr (.inr ([], (evX x r).2.2)) else if fixS x r (evX x r).1 now = 0 then .inl out else .inl (out ++ [Qkm r (evX x r).1 (fixS x r (evX x r).1 now) (finB x r (evX x r).1 now)])
noncomputable def prefS (x : Qad) (p : Qap) (now : Int) : List Qab × Int := if tickB now = true then sel (foldE (pfxS x now) (fun s => (.inl s : List Qab ⊕ (List Qab × Int))) [] p.routes) (fun l => (l, 0)) (fun e => e) else ([], 2)
structure PlanI (p : Qap) : Prop where
  routes : p.routes.length ≤ 1048576
  each : ∀ r ∈ p.routes, Qoi r
  unserved : p.unserved.length ≤ 1048576
theorem QsT {p : Qap} (hx : QcZ x) (hP : PlanI p) (h9 : ∀ r ∈ p.routes, Qmc r) : Qcx x p now = some (prefS x p now) ∧ Qmn x p now = some (prefS x p now) := by
  have hpl := hP.routes
  unfold Qcx Qmn prefS
  rw [Qzm, Qag, Qyv]
  cases tickB now with
  | false => exact ⟨rfl, rfl⟩
  | true =>
    rw [Qhf, if_pos rfl, Bool.not_true, Qik]
    have inv : ∀ (out : List Qab) (i : Nat) (r : Qab), out.length ≤ i → ∀ s', pfxS x now out r = .inl s' → s'.length ≤ i + 1 := fun out i r h s' hs => by
      unfold pfxS at hs
      split at hs
      · cases hs
      · split at hs
        · cases hs; omega
        · cases hs; simp; omega
    constructor
    · rw [Qco (Qr8 (B := fun q : List Qab × Int => QcC x p now q.1 q.2) hpl (pfxS x now) (fun s => .inl s) (fun i out => out.length ≤ i) (fun out i r e hi => ⟨by
        have hm := List.mem_of_getElem? e
        have hR := hP.each r hm
        have hil := (List.getElem?_eq_some_iff.1 e).1
        show QcC x p now out (i : Int) = _
        unfold QcC pfxS
        rw [Qbu e, incL e hpl]
        by_cases h0 : (evX x r).2.2 = 0
        · obtain ⟨p1, p2⟩ := Qs7 (now := now) hx hR (h9 r hm) h0
          obtain ⟨_, b, hE⟩ := (Qmf hx hR (h9 r hm)).2.2.2.2 h0
          have hf := hE.facts hx
          have hle := Qt2 (x := x) (r := r) (s := (evX x r).1) (now := now)
          rw [p1, Qag]
          dsimp only
          rw [QaX (show neI 0 0 = false by decide), if_neg (by simpa using h0)]
          by_cases hk : fixS x r (evX x r).1 now = 0
          · rw [if_pos hk, QaX (by simp only [gtI_f]; omega)]
          · rw [if_neg hk, Qbd (by simp only [gtI_t]; omega), Qz2 hle hf.2.2.2.2.2.1 hR.visits, Qag, Qe6 (by unfold okN; simp; omega)]
        · rw [Qwq hx hR (h9 r hm) h0, Qag, Qbd (by simpa using h0), if_pos h0], inv out i r hi⟩) (fun out _ => by
        show QcC x p now out (p.routes.length : Int) = _
        unfold QcC
        rw [Qa6]) (Nat.zero_le _))]
      generalize foldE (pfxS x now) (fun s => (.inl s : List Qab ⊕ (List Qab × Int))) [] p.routes = e
      cases e <;> rfl
    · rw [Qco (Qr8 (B := fun q : List Qab × Int => Qc5 x p now q.1 q.2) hpl (pfxS x now) (fun s => .inl s) (fun i out => out.length ≤ i) (fun out i r e hi => ⟨by
        have hm := List.mem_of_getElem? e
        have hR := hP.each r hm
        have hil := (List.getElem?_eq_some_iff.1 e).1
        obtain ⟨e1, e2, e3, e4, e5⟩ := Qmf hx hR (h9 r hm)
        show Qc5 x p now out (i : Int) = _
        unfold Qc5 Qg0 pfxS
        rw [Qbu e, incL e hpl, e2, Qag]
        by_cases h0 : (evX x r).2.2 = 0
        · obtain ⟨p1, p2⟩ := Qs7 (now := now) hx hR (h9 r hm) h0
          obtain ⟨_, b, hE⟩ := e5 h0
          have hf := hE.facts hx
          have hle := Qt2 (x := x) (r := r) (s := (evX x r).1) (now := now)
          have hrl := Qnh (s := (evX x r).1)
          have htl := hf.2.2.2.2.2.1
          have h20 := hf.2.2.2.2.2.2.2
          rw [QaX (by simpa using h0), p2, Qag, if_neg (by simpa using h0)]
          by_cases hk : fixS x r (evX x r).1 now = 0
          · rw [if_pos hk, Qbd (by simp only [eqI_t]; omega)]
          · rw [if_neg hk, QaX (by simp only [eqI_f]; omega), Qx8 e3, Qag]
            unfold Qkm
            cases hfin : finB x r (evX x r).1 now with
            | true =>
              rw [Qhf, addI (by omega) (by omega), show (((fixS x r (evX x r).1 now : Nat) : Int) + 1) = ((fixS x r (evX x r).1 now + 1 : Nat) : Int) by simp, QnG (by omega), Qag, Qe6 (by unfold okN; simp; omega), QnG hle, Qag, Qe6 (by unfold okN; simp; omega), Qe6 (by unfold okN; simp; omega)]
              rfl
            | false =>
              rw [Qik, QnG (by omega), Qag, Qe6 (by unfold okN; simp; omega), QnG hle, Qag, Qe6 (by unfold okN; simp; omega), Qe6 (by unfold okN; simp; omega)]
              rfl
        · rw [Qbd (by simpa using h0), if_pos h0], inv out i r hi⟩) (fun out _ => by
        show Qc5 x p now out (p.routes.length : Int) = _
        unfold Qc5
        rw [Qa6]) (Nat.zero_le _))]
      generalize foldE (pfxS x now) (fun s => (.inl s : List Qab ⊕ (List Qab × Int))) [] p.routes = e
      cases e <;> rfl
theorem Qwu {a : List Qab} (h : a.length ≤ 1048576) (hr : ∀ r ∈ a, r.visits.length ≤ 1048576 ∧ r.rests.length ≤ 1048576) : QcJ a a = some true := by
  unfold QcJ
  rw [QaX (by simp)]
  have := QeX (B := fun q => Qbq a a q) h (fun _ => false) (y := (.inr false : Unit ⊕ Bool)) (N := .inl ()) (fun i r e => by
    obtain ⟨h1, h2⟩ := hr r (List.mem_of_getElem? e)
    have l2 := QeX (B := fun q => Qbr a a (i : Int) q) h1 (fun _ => false) (y := (.inr false : Unit ⊕ Bool)) (N := .inl ()) (fun k v ek => by
      show Qbr a a (i : Int) k = _
      unfold Qbr
      rw [QaL e, Qag, Qbu ek, Qag, QaL ek, Qag, Qbd (by simp), incL ek h1]
      rfl) (by
      show Qbr a a (i : Int) r.visits.length = _
      unfold Qbr
      rw [QaL e, Qag, Qa6])
    have l3 := QeX (B := fun q => Qbi a a (i : Int) q) h2 (fun _ => false) (y := (.inr false : Unit ⊕ Bool)) (N := .inl ()) (fun k v ek => by
      show Qbi a a (i : Int) k = _
      unfold Qbi
      rw [QaL e, Qag, Qbu ek, Qag, QaL ek, Qag, Qbd (by simp), incL ek h2]
      rfl) (by
      show Qbi a a (i : Int) r.rests.length = _
      unfold Qbi
      rw [QaL e, Qag, Qa6])
    simp only [List.any_eq_true, Bool.false_eq_true, and_false, exists_false, if_false] at l2 l3
    show Qbq a a i = _
    unfold Qbq
    rw [Qbu e, QaL e, Qag, QaX (by simp), QaX (by simp), QaX (by simp), QaX (by simp), Qco l2, QeY, Qco l3, QeY, incL e h]
    rfl) (by
    show Qbq a a a.length = _
    unfold Qbq
    rw [Qa6])
  simp only [List.any_eq_true, Bool.false_eq_true, and_false, exists_false, if_false] at this
  rw [Qco this]
  rfl
/-- What the beginnings are. -/
theorem QyN {l : List Qab} {P : Qab → Prop} (hP : ∀ r ∈ l, (evX x r).2.2 = 0 → P (Qkm r (evX x r).1 (fixS x r (evX x r).1 now) (finB x r (evX x r).1 now))) : ∀ out : List Qab, (∀ b ∈ out, P b) →
    ∀ b ∈ (sel (foldE (pfxS x now) (fun s => (.inl s : List Qab ⊕ (List Qab × Int))) out l) (fun l => (l, (0 : Int))) (fun e => e)).1, P b := by
  induction l with
  | nil => exact fun out h => h
  | cons r l ih =>
    intro out h
    have ih' := ih fun q hq => hP q (List.mem_cons_of_mem _ hq)
    by_cases h0 : (evX x r).2.2 = 0
    · by_cases hk : fixS x r (evX x r).1 now = 0
      · have hp : pfxS x now out r = .inl out := by unfold pfxS; rw [if_neg (by simpa using h0), if_pos hk]
        rw [Qji hp]
        exact ih' out h
      · have hp : pfxS x now out r = .inl (out ++ [Qkm r (evX x r).1 (fixS x r (evX x r).1 now) (finB x r (evX x r).1 now)]) := by unfold pfxS; rw [if_neg (by simpa using h0), if_neg hk]
        rw [Qji hp]
        refine ih' _ fun b hb => ?_
        rcases List.mem_append.1 hb with hb | hb
        · exact h b hb
        · rw [List.mem_singleton.1 hb]
          exact hP r (List.mem_cons_self ..) h0
    · have hp : pfxS x now out r = .inr (.inr ([], (evX x r).2.2)) := by unfold pfxS; rw [if_pos h0]
      rw [Qtl hp]
      intro b hb
      cases hb
theorem QyO {l : List Qab} : ∀ out : List Qab, (sel (foldE (pfxS x now) (fun s => (.inl s : List Qab ⊕ (List Qab × Int))) out l) (fun l => (l, (0 : Int))) (fun e => e)).1.length ≤ out.length + l.length := by
  induction l with
  | nil => exact fun out => Nat.le_refl _
  | cons r l ih =>
    intro out
    rw [List.length_cons]
    by_cases h0 : (evX x r).2.2 = 0
    · by_cases hk : fixS x r (evX x r).1 now = 0
      · have hp : pfxS x now out r = .inl out := by unfold pfxS; rw [if_neg (by simpa using h0), if_pos hk]
        rw [Qji hp]
        have := ih out
        omega
      · have hp : pfxS x now out r = .inl (out ++ [Qkm r (evX x r).1 (fixS x r (evX x r).1 now) (finB x r (evX x r).1 now)]) := by unfold pfxS; rw [if_neg (by simpa using h0), if_neg hk]
        rw [Qji hp]
        have := ih (out ++ [Qkm r (evX x r).1 (fixS x r (evX x r).1 now) (finB x r (evX x r).1 now)])
        rw [List.length_append, List.length_singleton] at this
        omega
    · have hp : pfxS x now out r = .inr (.inr ([], (evX x r).2.2)) := by unfold pfxS; rw [if_pos h0]
      rw [Qtl hp]
      exact Nat.zero_le _
theorem Qzd {p : Qap} (hx : QcZ x) (hP : PlanI p) (h9 : ∀ r ∈ p.routes, Qmc r) : (prefS x p now).1.length ≤ 1048576 ∧ ∀ r ∈ (prefS x p now).1, r.visits.length ≤ 1048576 ∧ r.rests.length ≤ 1048576 := by
  have hpl := hP.routes
  unfold prefS
  cases tickB now with
  | false => exact ⟨Nat.zero_le _, fun r h => by cases h⟩
  | true =>
    rw [if_pos rfl]
    refine ⟨Nat.le_trans (QyO []) (by simpa using hpl), QyN (P := fun r => r.visits.length ≤ 1048576 ∧ r.rests.length ≤ 1048576) (fun r hr h0 => ?_) [] fun b hb => by cases hb⟩
    obtain ⟨_, b, hE⟩ := (Qmf hx (hP.each r hr) (h9 r hr)).2.2.2.2 h0
    have hf := hE.facts hx
    have hrl := Qnh (s := (evX x r).1)
    have htl := hf.2.2.2.2.2.1
    have h20 := hf.2.2.2.2.2.2.2
    unfold Qkm
    simp only [List.length_take]
    omega
theorem QBr (hI : InstI x) : post (QgM x) fun ok => ok = true → QcZ x := by
  unfold QgM
  refine QaP (QuK hI) fun l hl => Qar.2 fun h => ?_
  simp only [eqI_t, lenI] at h
  exact hl (List.length_eq_zero_iff.1 (by omega))
def Qvd (r : Qab) : Bool := leI (lenI r.visits) 8 || gtI (lenI r.visits) 20
theorem QAL : Qip r = some (Qvd r) := rfl
theorem QAK (h : Qvd r = true) : Qmc r := by
  unfold Qvd at h
  simp only [Bool.or_eq_true, leI_t, gtI_t, lenI] at h
  unfold Qmc
  omega
theorem Qz8 {p : Qap} (hp : p.routes.length ≤ 1048576) : post (Qio p) fun ok => ok = true → p.routes.length ≤ 6 ∧ ∀ r ∈ p.routes, Qmc r := by
  unfold Qio
  refine QaG (fun _ => Qar.2 fun h => by cases h) (fun h6 => ?_)
  rw [Qco (QeX (B := fun s => QcV p s) hp (fun r => !Qvd r) (y := (.inr false : Unit ⊕ Bool)) (N := .inl ()) (fun i a h => by
    show QcV p i = _
    unfold QcV
    rw [Qbu h, QAL, Qag, incL h hp]
    cases Qvd a <;> rfl) (by
    show QcV p p.routes.length = _
    unfold QcV
    rw [Qa6]))]
  by_cases hs : p.routes.any (fun r => !Qvd r) = true
  · rw [if_pos hs, Qhm]; exact Qar.2 fun h => by cases h
  · rw [if_neg hs, QeY]
    refine Qar.2 fun _ => ⟨by simp only [gtI_f, lenI] at h6; omega, fun r hr => QAK ?_⟩
    have := List.any_eq_false.1 (by simpa using hs : p.routes.any (fun r => !Qvd r) = false) r hr
    simpa using this
end
end Go.Proofs.YtoogjnlmicgfiaaGreatDoor
namespace Go.Proofs.YtoogjnlmicgfiaaGreatDoor
set_option linter.unusedSimpArgs false
set_option linter.unusedVariables false
set_option linter.unusedSectionVars false
def QfV {α : Type} [DecidableEq α] (l first : List α) : Bool := decide (l.take first.length = first)
theorem Qyq {α : Type} [DecidableEq α] {l first : List α} (hlen : first.length ≤ l.length) : (!QfV l first) = true ↔ ∃ k, k < first.length ∧ (match first[k]?, l[k]? with | some a, some b => !decide (a = b) | _, _ => false) = true := by
  unfold QfV
  rw [Bool.not_eq_true', decide_eq_false_iff_not]
  constructor
  · intro h
    refine Classical.byContradiction fun hn => h (List.ext_getElem? fun i => ?_)
    rcases Nat.lt_or_ge i first.length with hi | hi
    · rw [List.getElem?_take_of_lt hi]
      refine Classical.byContradiction fun hne => hn ⟨i, hi, ?_⟩
      rw [List.getElem?_eq_getElem hi, List.getElem?_eq_getElem (show i < l.length by omega)] at hne ⊢
      simp only [Bool.not_eq_true', decide_eq_false_iff_not]
      exact fun he => hne (by rw [he])
    · rw [List.getElem?_eq_none (by rw [List.length_take]; omega), List.getElem?_eq_none hi]
  · rintro ⟨k, hk, h⟩ he
    rw [List.getElem?_eq_getElem hk, List.getElem?_eq_getElem (show k < l.length by omega)] at h
    simp only [Bool.not_eq_true', decide_eq_false_iff_not] at h
    have e1 : (l.take first.length)[k]? = some (l[k]'(by omega)) := by rw [List.getElem?_take_of_lt hk, List.getElem?_eq_getElem]
    rw [he, List.getElem?_eq_getElem hk] at e1
    exact h (Option.some.inj e1)
theorem Qpm {α E : Type} [DecidableEq α] {l first : List α} {q : α → α → Bool} (hq : ∀ a b, q a b = true ↔ a = b) (hlen : first.length ≤ l.length) (hf : first.length ≤ 1048576) {B : Int → Option (Int ⊕ E)} {y N : E}
    (hin : ∀ (i : Nat) a b, first[i]? = some a → l[i]? = some b → B (i : Int) = br (q b a) (some (.inl ((i : Int) + 1))) (some (.inr y))) (hend : B (first.length : Int) = some (.inr N)) : loopF B 0 = some (if QfV l first = true then N else y) := by
  rw [QtG hf _ (b := !QfV l first) (Qyq hlen) (fun i hi => ?_) hend]
  · cases QfV l first <;> rfl
  · have e1 : first[i]? = some first[i] := List.getElem?_eq_getElem hi
    have e2 : l[i]? = some (l[i]'(by omega)) := List.getElem?_eq_getElem _
    rw [hin i _ _ e1 e2, e1, e2]
    simp only
    have : q (l[i]'(by omega)) first[i] = decide (first[i] = l[i]'(by omega)) := by
      rw [Bool.eq_iff_iff, hq, decide_eq_true_iff]
      exact ⟨fun h => h.symm, fun h => h.symm⟩
    rw [this]
    by_cases hh : first[i] = l[i]'(by omega)
    · simp [hh]
    · simp [hh]
theorem QwE {α : Type} [DecidableEq α] {a b : List α} (h : a.length = b.length) : QfV a b = decide (a = b) := by
  unfold QfV
  rw [List.take_of_length_le (by omega)]
theorem Qpl {α : Type} [DecidableEq α] {l first : List α} (h : l.length < first.length) : QfV l first = false := by
  unfold QfV
  rw [decide_eq_false_iff_not]
  intro he
  have := congrArg List.length he
  rw [List.length_take] at this
  omega
def qV (a b : Qac) : Bool := eqI a.order b.order && (eqB a.drop b.drop && true)
theorem qV_t (a b : Qac) : qV a b = true ↔ a = b := by unfold qV; cases a; cases b; simp
theorem qB_t (a b : Bool) : eqB a b = true ↔ a = b := eqB_t
section
variable {x : Qad} {r b : Qab} {s : Qam} {now : Int}
/-- Does a route begin with a beginning? -/
def Qht (r b : Qab) : Bool := decide (r.type_ = b.type_ ∧ r.start = b.start) && (QfV r.visits b.visits && (QfV r.rests b.rests && (leI (lenI b.rests) (lenI b.visits) || (eqI (lenI r.visits) (lenI b.visits) && eqI (lenI r.rests) (lenI b.rests)))))
theorem Qv7 (hv : b.visits.length ≤ 1048576) (hr : b.rests.length ≤ 1048576) : Qgj r b = some (Qht r b) := by
  unfold Qgj Qht
  by_cases h1 : r.type_ = b.type_ ∧ r.start = b.start
  · by_cases h2 : b.visits.length ≤ r.visits.length
    · by_cases h3 : b.rests.length ≤ r.rests.length
      · rw [QaX (by simp [lenI]; omega), decide_eq_true h1, Bool.true_and]
        have l1 := Qpm (B := fun q => Qb0 r b q) qV_t h2 hv (y := (.inr false : Unit ⊕ Bool)) (N := .inl ()) (fun i a c e1 e2 => by
          show Qb0 r b i = _
          unfold Qb0
          have := (List.getElem?_eq_some_iff.1 e1).1
          rw [Qbd (by simp [lenI]; omega), QaL e2, Qag, QaL e1, Qag, incL e1 hv]
          rfl) (by
          show Qb0 r b b.visits.length = _
          unfold Qb0
          rw [QaX (by simp [lenI])])
        have l2 := Qpm (B := fun q => QbM r b q) qB_t h3 hr (y := (.inr false : Unit ⊕ Bool)) (N := .inl ()) (fun i a c e1 e2 => by
          show QbM r b i = _
          unfold QbM
          have := (List.getElem?_eq_some_iff.1 e1).1
          rw [Qbd (by simp [lenI]; omega), QaL e2, Qag, QaL e1, Qag, incL e1 hr]) (by
          show QbM r b b.rests.length = _
          unfold QbM
          rw [QaX (by simp [lenI])])
        rw [Qco l1]
        cases QfV r.visits b.visits with
        | false => rfl
        | true =>
          rw [if_pos rfl, QeY, Qco l2, Bool.true_and]
          cases QfV r.rests b.rests <;> rfl
      · rw [Qbd (by simp [lenI]; omega), Qpl (l := r.rests) (by omega)]
        simp
    · rw [Qbd (by simp [lenI]; omega), Qpl (l := r.visits) (by omega)]
      simp
  · rw [Qbd (by simp; omega), decide_eq_false h1]
    rfl
end
end Go.Proofs.YtoogjnlmicgfiaaGreatDoor
namespace Go.Proofs.YtoogjnlmicgfiaaGreatDoor
set_option linter.unusedSimpArgs false
set_option linter.unusedVariables false
set_option linter.unusedSectionVars false
section
variable {x : Qad} {r b : Qab} {l : List Qab} {p : Qap}
theorem QyM {a c : List Qac} (h : a.length = c.length) (hl : c.length ≤ 1048576) : QbD a c = some (QfV c a) := by
  unfold QbD
  rw [QaX (by simp [lenI, h])]
  rw [Qco (Qpm (B := fun q => QaN a c q) (l := c) (first := a) (q := fun x y => qV y x) (fun x y => by rw [qV_t]; exact ⟨fun h => h.symm, fun h => h.symm⟩) (by omega) (by omega) (y := (.inr false : Unit ⊕ Bool)) (N := .inl ()) (fun i u v e1 e2 => by
    show QaN a c i = _
    unfold QaN
    rw [Qbu e1, QaL e2, Qag, incL e1 (by omega)]
    rfl) (by
    show QaN a c a.length = _
    unfold QaN
    rw [Qa6]))]
  cases QfV c a <;> rfl
theorem QyL {a c : List Bool} (h : a.length = c.length) (hl : c.length ≤ 1048576) : Qc6 a c = some (QfV c a) := by
  unfold Qc6
  rw [QaX (by simp [lenI, h])]
  rw [Qco (Qpm (B := fun q => Qba a c q) (l := c) (first := a) (q := fun x y => eqB y x) (fun x y => by rw [qB_t]; exact ⟨fun h => h.symm, fun h => h.symm⟩) (by omega) (by omega) (y := (.inr false : Unit ⊕ Bool)) (N := .inl ()) (fun i u v e1 e2 => by
    show Qba a c i = _
    unfold Qba
    rw [Qbu e1, QaL e2, Qag, incL e1 (by omega)]) (by
    show Qba a c a.length = _
    unfold Qba
    rw [Qa6]))]
  cases QfV c a <;> rfl
theorem Qtc {α : Type} [DecidableEq α] {l first : List α} (h : first.length ≤ l.length) : QfV first (l.take first.length) = QfV l first := by
  rw [QwE (by rw [List.length_take]; omega)]
  unfold QfV
  rw [Bool.eq_iff_iff, decide_eq_true_iff, decide_eq_true_iff]
  exact ⟨fun h => h.symm, fun h => h.symm⟩
theorem Qyp {l first : List Qac} (hf : first.length ≤ 1048576) : Qdb l first = some (QfV l first) := by
  unfold Qdb
  by_cases h : first.length ≤ l.length
  · rw [Qbd (by simp [lenI]; omega), show slcI l 0 (lenI first) = _ from QnG h, Qag, QyM (by rw [List.length_take]; omega) hf, Qag, Qtc h]
  · rw [QaX (by simp [lenI]; omega), Qpl (by omega)]
theorem QwD {l first : List Bool} (hf : first.length ≤ 1048576) : Qfd l first = some (QfV l first) := by
  unfold Qfd
  by_cases h : first.length ≤ l.length
  · rw [Qbd (by simp [lenI]; omega), show slcI l 0 (lenI first) = _ from QnG h, Qag, QyL (by rw [List.length_take]; omega) hf, Qag, Qtc h]
  · rw [QaX (by simp [lenI]; omega), Qpl (by omega)]
theorem Qwb (hv : b.visits.length ≤ 1048576) (hr : b.rests.length ≤ 1048576) : Qjo r b = some (Qht r b) := by
  unfold Qjo Qht
  rw [Qyp hv, Qag, QwD hr, Qag]
  have hq : (!gtI (lenI b.rests) (lenI b.visits)) = leI (lenI b.rests) (lenI b.visits) := by rw [Bool.eq_iff_iff]; simp
  rw [hq]
  by_cases h1 : r.type_ = b.type_ ∧ r.start = b.start
  · rw [QaX (by simp; exact h1), decide_eq_true h1]
    cases QfV r.visits b.visits <;> cases QfV r.rests b.rests <;> rfl
  · rw [Qbd (by simp; omega), decide_eq_false h1]
    rfl
def meetB (a b : Qab) : Bool := a.visits.any fun v => b.visits.any fun w => eqI v.order w.order
theorem QBh (ha : r.visits.length ≤ 1048576) (hb : b.visits.length ≤ 1048576) : QmV r b = some (meetB r b) := by
  have in1 : ∀ v, Qjp v b = some (b.visits.any fun w => eqI v.order w.order) := fun v => by
    have := QqB hb (fun w : Qac => eqI v.order w.order) (fun k => (.inr (k : Int) : Unit ⊕ Int)) (N := .inl ()) (B := fun s => Qaz b.visits v s) (fun i a h => by
      show Qaz b.visits v i = _
      unfold Qaz Qjh
      rw [Qbu h, Qag, incL h hb, brs]) (by
      show Qaz b.visits v b.visits.length = _
      unfold Qaz
      rw [Qa6])
    have e : Qa2 b.visits v = some (ixI (fun w : Qac => eqI v.order w.order) b.visits) := by
      unfold Qa2
      rw [Qco this]
      unfold ixI
      cases ixP (fun w : Qac => eqI v.order w.order) b.visits <;> rfl
    unfold Qjp Qbb
    rw [e, Qag, Qag, Qot]
  have := QqB ha (fun v : Qac => b.visits.any fun w => eqI v.order w.order) (fun k => (.inr (k : Int) : Unit ⊕ Int)) (N := .inl ()) (B := fun s => QaC r.visits b s) (fun i a h => by
    show QaC r.visits b i = _
    unfold QaC
    rw [Qbu h, in1, Qag, incL h ha, brs]) (by
    show QaC r.visits b r.visits.length = _
    unfold QaC
    rw [Qa6])
  have e : Qa7 r.visits b = some (ixI (fun v : Qac => b.visits.any fun w => eqI v.order w.order) r.visits) := by
    unfold Qa7
    rw [Qco this]
    unfold ixI
    cases ixP (fun v : Qac => b.visits.any fun w => eqI v.order w.order) r.visits <;> rfl
  unfold QmV Qbg
  rw [e, Qag, Qag, Qot]
  rfl
theorem QwF (ha : r.visits.length ≤ 1048576) (hb : b.visits.length ≤ 1048576) : Qgk r b = some (meetB r b) := by
  unfold Qgk
  rw [Qco (QeX (B := fun s => Qb1 r b s) ha (fun v : Qac => b.visits.any fun w => eqI v.order w.order) (y := (.inr true : Unit ⊕ Bool)) (N := .inl ()) (fun i v h => by
    have hi := (List.getElem?_eq_some_iff.1 h).1
    show Qb1 r b i = _
    unfold Qb1
    rw [Qbd (by simp [lenI]; omega)]
    rw [Qco (QeX (B := fun s => Qb2 r b (i : Int) s) hb (fun w : Qac => eqI v.order w.order) (y := (.inr true : Unit ⊕ Bool)) (N := .inl ()) (fun k w hk => by
      show Qb2 r b (i : Int) k = _
      unfold Qb2
      have hk' := (List.getElem?_eq_some_iff.1 hk).1
      rw [Qbd (by simp [lenI]; omega), QaL h, Qag, QaL hk, Qag, incL hk hb, brs]) (by
      show Qb2 r b (i : Int) b.visits.length = _
      unfold Qb2
      rw [QaX (by simp [lenI])]))]
    rw [incL h ha]
    generalize (b.visits.any fun w => eqI v.order w.order) = q
    cases q <;> rfl) (by
    show Qb1 r b r.visits.length = _
    unfold Qb1
    rw [QaX (by simp [lenI])]))]
  unfold meetB
  generalize (r.visits.any fun v => b.visits.any fun w => eqI v.order w.order) = q
  cases q <;> rfl
/-- Of the routes: how many begin so, and whether another one meets the beginning. -/
def cntB (l : List Qab) (b : Qab) : Int := sumF (fun r => if Qht r b = true then 1 else 0) l
def othB (l : List Qab) (b : Qab) : Bool := l.any fun r => !Qht r b && meetB r b
theorem QA3 : 0 ≤ cntB l b ∧ cntB l b ≤ 1000 * l.length := Quz fun a _ => by split <;> omega
def keepB (p : Qap) (b : Qab) : Bool := eqI (cntB p.routes b) 1 && !othB p.routes b
def keepF (b : Qab) (n : Int) (r : Qab) : Int ⊕ (Int ⊕ Int) := if Qht r b = true then .inl (n + 1) else if meetB r b = true then .inr (.inr 31) else .inl n
theorem QwL (hp : p.routes.length ≤ 1048576) (hpr : ∀ r ∈ p.routes, r.visits.length ≤ 1048576) (hl : l.length ≤ 1048576) (hlb : ∀ b ∈ l, b.visits.length ≤ 1048576 ∧ b.rests.length ≤ 1048576) :
    Qfw p l = some (if l.any (fun b => !keepB p b) = true then 31 else 0) := by
  unfold Qfw
  rw [Qco (QeX (B := fun s => QdJ p l s) hl (fun b => !keepB p b) (y := (.inr 31 : Unit ⊕ Int)) (N := .inl ()) (fun i b hb => by
    obtain ⟨b1, b2⟩ := hlb b (List.mem_of_getElem? hb)
    show QdJ p l i = _
    unfold QdJ
    rw [Qbu hb]
    have inner : loopF (fun s : Int × Int => QdK p l (i : Int) b s.1 s.2) (0, 0) = some (foldE (keepF b) (fun n => (.inl n : Int ⊕ Int)) 0 p.routes) :=
      Qr8 hp (keepF b) (fun n => .inl n) (fun i n => 0 ≤ n ∧ n ≤ i) (fun n k r e hn => ⟨by
        show QdK p l (i : Int) b n (k : Int) = _
        have hk := (List.getElem?_eq_some_iff.1 e).1
        unfold QdK
        rw [Qbu e, Qwb b1 b2, Qag, incL e hp, addI (by omega) (by omega), QBh (hpr r (List.mem_of_getElem? e)) b1, Qag]
        unfold keepF
        cases Qht r b <;> cases meetB r b <;> rfl, fun s' hs => by
        unfold keepF at hs
        split at hs
        · cases hs; omega
        · split at hs
          · cases hs
          · cases hs; omega⟩) (fun n _ => by
        show QdK p l (i : Int) b n (p.routes.length : Int) = _
        unfold QdK
        rw [Qa6]) (by omega)
    have val : ∀ (rs : List Qab) (n : Int), foldE (keepF b) (fun n => (.inl n : Int ⊕ Int)) n rs = if othB rs b = true then .inr 31 else .inl (n + cntB rs b) := by
      intro rs
      induction rs with
      | nil => intro n; show Sum.inl n = _; rw [if_neg (by simp [othB])]; simp [cntB, sumF]
      | cons r rs ih =>
        intro n
        have e1 : othB (r :: rs) b = (!Qht r b && meetB r b || othB rs b) := by simp [othB]
        have e2 : cntB (r :: rs) b = (if Qht r b = true then 1 else 0) + cntB rs b := by simp [cntB, sumF]
        rw [e1, e2]
        cases hbg : Qht r b with
        | true =>
          rw [Qji (s' := n + 1) (by unfold keepF; simp [hbg]), ih]
          simp only [Bool.not_true, Bool.false_and, Bool.false_or, if_true]
          rw [show n + 1 + cntB rs b = n + (1 + cntB rs b) by omega]
        | false =>
          cases hm : meetB r b with
          | true => rw [Qtl (e := .inr 31) (by unfold keepF; simp [hbg, hm])]; simp
          | false => rw [Qji (s' := n) (by unfold keepF; simp [hbg, hm]), ih]; simp
    rw [Qco inner, val, incL hb hl]
    have hK : keepB p b = (eqI (cntB p.routes b) 1 && !othB p.routes b) := rfl
    generalize keepB p b = K at hK ⊢
    rw [hK]
    cases othB p.routes b with
    | true => rw [if_pos rfl, Qhm]; simp
    | false =>
      rw [if_neg (by decide), QeY, Int.zero_add, br_if]
      by_cases h1 : cntB p.routes b = 1
      · simp [h1]
      · simp [h1]) (by
    show QdJ p l l.length = _
    unfold QdJ
    rw [Qa6]))]
  cases l.any (fun b => !keepB p b) <;> rfl
theorem QwK (hp : p.routes.length ≤ 1048576) (hpr : ∀ r ∈ p.routes, r.visits.length ≤ 1048576) (hl : l.length ≤ 1048576) (hlb : ∀ b ∈ l, b.visits.length ≤ 1048576 ∧ b.rests.length ≤ 1048576) :
    QgZ p l = some (if l.any (fun b => !keepB p b) = true then 31 else 0) := by
  unfold QgZ
  rw [Qco (QeX (B := fun s => Qcg p l s) hl (fun b => !keepB p b) (y := (.inr 31 : Unit ⊕ Int)) (N := .inl ()) (fun i b hb => by
    obtain ⟨b1, b2⟩ := hlb b (List.mem_of_getElem? hb)
    have hi := (List.getElem?_eq_some_iff.1 hb).1
    show Qcg p l i = _
    unfold Qcg
    rw [Qbd (by simp [lenI]; omega)]
    have inner : loopF (fun s : Int × Bool × Int => QbU p l (i : Int) s.1 s.2.1 s.2.2) (0, false, 0) = some (cntB p.routes b, othB p.routes b) := by
      have := Qeo p.routes.length (fun k => (cntB (p.routes.take k) b, othB (p.routes.take k) b, (k : Int))) (B := fun s : Int × Bool × Int => QbU p l (i : Int) s.1 s.2.1 s.2.2) (e := (cntB p.routes b, othB p.routes b)) (by omega) (fun k hk => by
        have e : p.routes[k]? = some p.routes[k] := List.getElem?_eq_getElem hk
        generalize p.routes[k] = r at e
        show QbU p l (i : Int) (cntB (p.routes.take k) b) (othB (p.routes.take k) b) (k : Int) = some (Sum.inl (cntB (p.routes.take (k + 1)) b, othB (p.routes.take (k + 1)) b, ((k + 1 : Nat) : Int)))
        have hc := QA3 (l := p.routes.take k) (b := b)
        have hlen : (p.routes.take k).length ≤ 1048576 := by rw [List.length_take]; omega
        have e1 : cntB (p.routes.take (k + 1)) b = cntB (p.routes.take k) b + (if Qht r b = true then 1 else 0) := QrO e
        have e2 : othB (p.routes.take (k + 1)) b = (othB (p.routes.take k) b || (!Qht r b && meetB r b)) := by rw [QkC e]; simp [othB]
        unfold QbU
        rw [Qbu e, QaL hb, Qag, Qv7 b1 b2, Qag, incL e hp, addI (by omega) (by omega), QwF (hpr r (List.mem_of_getElem? e)) b1, Qag, e1, e2]
        cases Qht r b <;> cases othB (p.routes.take k) b <;> cases meetB r b <;> simp) (by
        show QbU p l (i : Int) (cntB (p.routes.take p.routes.length) b) (othB (p.routes.take p.routes.length) b) (p.routes.length : Int) = _
        unfold QbU
        rw [Qa6, List.take_length])
      exact this
    rw [Qco inner, incL hb hl]
    have hK : keepB p b = (eqI (cntB p.routes b) 1 && !othB p.routes b) := rfl
    generalize keepB p b = K at hK ⊢
    dsimp only
    rw [hK, br_if]
    by_cases h1 : cntB p.routes b = 1
    · cases othB p.routes b <;> simp [h1]
    · simp [h1]) (by
    show Qcg p l l.length = _
    unfold Qcg
    rw [QaX (by simp [lenI])]))]
  cases l.any (fun b => !keepB p b) <;> rfl
def begB (l : List Qab) (i : Nat) : Bool := decide (i ≤ 62) && l.any fun r => hasO r.visits (i : Int)
theorem lt63 {m : Nat} {f : Nat → Bool} (hb : ∀ i, m.testBit i = (decide (i ≤ 62) && f i)) : m < 9223372036854775808 := by
  refine Nat.lt_pow_two_of_testBit (n := 63) _ fun i hi => ?_
  rw [hb, decide_eq_false (by omega)]
  rfl
/-- One more list of visits. -/
theorem Qz1 {l : List Qab} {v : Int} {r : Qab} (hr : r.visits.length ≤ 1048576) {m : Nat} {f : Nat → Bool} (hm : ∀ i, m.testBit i = (decide (i ≤ 62) && f i)) :
    post (loopF (fun s : Int × Int => Qfv l v r s.1 s.2) ((m : Int), 0)) fun s => ∃ m' : Nat, s = m' ∧ ∀ i, m'.testBit i = (decide (i ≤ 62) && (f i || hasO r.visits (i : Int))) := by
  refine Qb5 (fun s => ∃ (k m' : Nat), s = ((m' : Int), (k : Int)) ∧ k ≤ r.visits.length ∧ ∀ i, m'.testBit i = (decide (i ≤ 62) && (f i || hasO (r.visits.take k) (i : Int)))) (fun s => r.visits.length - s.2.toNat) ⟨0, m, rfl, Nat.zero_le _, fun i => by rw [hm]; simp [hasO]⟩ (by simp; omega) ?_
  rintro _ ⟨k, m', rfl, hk, hb⟩
  show post (Qfv l v r (m' : Int) (k : Int)) _
  have hm63 := lt63 hb
  unfold Qfv
  rcases Nat.lt_or_ge k r.visits.length with h | h
  · have e : r.visits[k]? = some r.visits[k] := List.getElem?_eq_getElem h
    generalize r.visits[k] = w at e
    have hov : ∀ i : Nat, hasO (r.visits.take (k + 1)) (i : Int) = (hasO (r.visits.take k) (i : Int) || decide (w.order = (i : Int))) := fun i => by
      rw [QkC e]
      unfold hasO
      rw [List.any_append, List.any_cons, List.any_nil, Bool.or_false]
      congr 1
    rw [Qbu e, incL e hr]
    refine QaG (fun hc => ?_) (fun hc => Qc0 ⟨⟨k + 1, m', rfl, h, fun i => ?_⟩, by simp; omega⟩)
    · simp only [Bool.and_eq_true, geI_t, leI_t] at hc
      obtain ⟨o, ho⟩ : ∃ o : Nat, w.order = o := ⟨w.order.toNat, by omega⟩
      have hp : 2 ^ o ≤ 2 ^ 62 := Nat.pow_le_pow_right (by omega) (by omega)
      rw [ho, Qe6 (by omega), shlN (by omega), orN hm63 (by omega)]
      refine Qc0 ⟨⟨k + 1, m' ||| 2 ^ o, rfl, h, fun i => ?_⟩, by simp; omega⟩
      rw [Nat.testBit_or, Nat.testBit_two_pow, hb, hov, ho]
      by_cases hi : o = i
      · subst hi; simp; omega
      · rw [decide_eq_false hi, decide_eq_false (show ¬ ((o : Int) = (i : Int)) by omega), Bool.or_false, Bool.or_false]
    · rw [hb, hov]
      by_cases hi : i ≤ 62
      · have : ¬ w.order = (i : Int) := fun he => by
          rw [he] at hc
          simp only [Bool.and_eq_false_iff, geI_f, leI_f] at hc
          omega
        rw [decide_eq_false this, Bool.or_false]
      · rw [decide_eq_false hi]; rfl
  · obtain rfl : k = r.visits.length := by omega
    rw [Qa6]
    exact QbN ⟨m', rfl, fun i => by rw [hb, List.take_length]⟩
theorem QwJ (hl : l.length ≤ 1048576) (hr : ∀ r ∈ l, r.visits.length ≤ 1048576) : post (Qi3 l) fun s => ∃ m : Nat, s = m ∧ ∀ i, m.testBit i = begB l i := by
  unfold Qi3
  refine QaP (R := fun s => ∃ m : Nat, s = m ∧ ∀ i, m.testBit i = begB l i) ?_ fun s h => Qar.2 h
  refine Qb5 (fun s => ∃ (k m : Nat), s = ((m : Int), (k : Int)) ∧ k ≤ l.length ∧ ∀ i, m.testBit i = begB (l.take k) i) (fun s => l.length - s.2.toNat) ⟨0, 0, rfl, Nat.zero_le _, fun i => by simp [begB]⟩ (by simp; omega) ?_
  rintro _ ⟨k, m, rfl, hk, hb⟩
  show post (Qgm l (m : Int) (k : Int)) _
  unfold Qgm
  rcases Nat.lt_or_ge k l.length with h | h
  · have e : l[k]? = some l[k] := List.getElem?_eq_getElem h
    have hm := List.getElem_mem h
    generalize l[k] = r at e hm
    rw [Qbu e, incL e hl]
    refine QaP (Qz1 (hr r hm) (f := fun i => (l.take k).any fun r => hasO r.visits (i : Int)) hb) fun s ⟨m', hs, hb'⟩ => Qc0 ⟨⟨k + 1, m', by rw [hs]; rfl, h, fun i => ?_⟩, by simp; omega⟩
    rw [hb', QkC e]
    unfold begB
    rw [List.any_append, List.any_cons, List.any_nil, Bool.or_false]
  · obtain rfl : k = l.length := by omega
    rw [Qa6]
    exact QbN ⟨m, rfl, fun i => by rw [hb, List.take_length]⟩
theorem QAh {m : Nat} (hm : m < 9223372036854775808) {i : Nat} (hi : i ≤ 62) : QiD (m : Int) (i : Int) = some (m.testBit i) := by
  unfold QiD
  have this : loopF (fun s : Int × Int => Qcy (i : Int) s.1 s.2) ((m : Int), 0) = some (((m / 2 ^ i : Nat) : Int)) := by
    have := Qeo i (fun k => (((m / 2 ^ k : Nat) : Int), (k : Int))) (B := fun s : Int × Int => Qcy (i : Int) s.1 s.2) (e := ((m / 2 ^ i : Nat) : Int)) (by omega) (fun k hk => by
      show Qcy (i : Int) ((m / 2 ^ k : Nat) : Int) (k : Int) = some (Sum.inl (((m / 2 ^ (k + 1) : Nat) : Int), ((k + 1 : Nat) : Int)))
      unfold Qcy
      have hd := Nat.div_le_self m (2 ^ k)
      have e : m / 2 ^ (k + 1) = m / 2 ^ k / 2 := by rw [Nat.pow_succ, Nat.div_div_eq_div_mul]
      rw [Qbd (by simp; omega), addI (by omega) (by omega), e]
      generalize m / 2 ^ k = q at *
      rw [quoD (by omega) (by omega)]
      congr 2) (by
      show Qcy (i : Int) ((m / 2 ^ i : Nat) : Int) (i : Int) = _
      unfold Qcy
      rw [QaX (by simp)])
    simpa using this
  rw [Qco this, QtS]
theorem Qz3 {l : List Qab} {i : Int} {s : Int} {k : Int} {w : Qac} {o : Nat} (ho : w.order = o) (h : o ≤ 62) : loopF (fun q : Int × Int => QbT l i s k w q.1 q.2) (1, 0) = some (((2 ^ o : Nat) : Int)) := by
  have := Qeo o (fun j => (((2 ^ j : Nat) : Int), (j : Int))) (B := fun q : Int × Int => QbT l i s k w q.1 q.2) (e := ((2 ^ o : Nat) : Int)) (by omega) (fun j hj => by
    show QbT l i s k w ((2 ^ j : Nat) : Int) (j : Int) = some (Sum.inl (((2 ^ (j + 1) : Nat) : Int), ((j + 1 : Nat) : Int)))
    unfold QbT
    have hp : 2 ^ j ≤ 2 ^ 61 := Nat.pow_le_pow_right (by omega) (by omega)
    have e : 2 ^ (j + 1) = 2 ^ j * 2 := Nat.pow_succ ..
    rw [Qbd (by simp; omega), addI (by omega) (by omega), e]
    generalize 2 ^ j = q at *
    rw [mulI (by omega) (by omega)]
    congr 3
    omega) (by
    show QbT l i s k w ((2 ^ o : Nat) : Int) (o : Int) = _
    unfold QbT
    rw [QaX (by simp; omega)])
  exact this
theorem QwZ {i : Nat} {r : Qab} (e0 : l[i]? = some r) (hr : r.visits.length ≤ 1048576) {m : Nat} {f : Nat → Bool} (hm : ∀ i, m.testBit i = (decide (i ≤ 62) && f i)) :
    post (loopF (fun s : Int × Int => Qdi l (i : Int) s.1 s.2) ((m : Int), 0)) fun s => ∃ m' : Nat, s = m' ∧ ∀ i, m'.testBit i = (decide (i ≤ 62) && (f i || hasO r.visits (i : Int))) := by
  refine Qb5 (fun s => ∃ (k m' : Nat), s = ((m' : Int), (k : Int)) ∧ k ≤ r.visits.length ∧ ∀ i, m'.testBit i = (decide (i ≤ 62) && (f i || hasO (r.visits.take k) (i : Int)))) (fun s => r.visits.length - s.2.toNat) ⟨0, m, rfl, Nat.zero_le _, fun i => by rw [hm]; simp [hasO]⟩ (by simp; omega) ?_
  rintro _ ⟨k, m', rfl, hk, hb⟩
  show post (Qdi l (i : Int) (m' : Int) (k : Int)) _
  have hm63 := lt63 hb
  unfold Qdi
  rw [QaL e0, Qag]
  rcases Nat.lt_or_ge k r.visits.length with h | h
  · have e : r.visits[k]? = some r.visits[k] := List.getElem?_eq_getElem h
    generalize r.visits[k] = w at e
    have hov : ∀ i : Nat, hasO (r.visits.take (k + 1)) (i : Int) = (hasO (r.visits.take k) (i : Int) || decide (w.order = (i : Int))) := fun i => by
      rw [QkC e]
      unfold hasO
      rw [List.any_append, List.any_cons, List.any_nil, Bool.or_false]
      congr 1
    rw [Qbu e, incL e hr]
    refine QaG (fun hc => Qc0 ⟨⟨k + 1, m', rfl, h, fun i => ?_⟩, by simp; omega⟩) (fun hc => ?_)
    · rw [hb, hov]
      by_cases hi : i ≤ 62
      · have : ¬ w.order = (i : Int) := fun he => by
          rw [he] at hc
          simp only [Bool.or_eq_true, ltI_t, gtI_t] at hc
          omega
        rw [decide_eq_false this, Bool.or_false]
      · rw [decide_eq_false hi]; rfl
    · simp only [Bool.or_eq_false_iff, ltI_f, gtI_f] at hc
      obtain ⟨o, ho⟩ : ∃ o : Nat, w.order = o := ⟨w.order.toNat, by omega⟩
      have hp : 2 ^ o ≤ 2 ^ 62 := Nat.pow_le_pow_right (by omega) (by omega)
      rw [ho, QAh hm63 (by omega), Qag]
      refine QaG (fun hbit => Qc0 ⟨⟨k + 1, m', rfl, h, fun i => ?_⟩, by simp; omega⟩) (fun hbit => ?_)
      · rw [hov, ho]
        by_cases hi : o = i
        · subst hi
          have h1 := hb o
          rw [hbit] at h1
          rw [hbit, decide_eq_true (show o ≤ 62 by omega)]
          simp
        · rw [hb, decide_eq_false (show ¬ ((o : Int) = (i : Int)) by omega), Bool.or_false]
      · have hbits : ∀ i, (m' + 2 ^ o).testBit i = (decide (i ≤ 62) && (f i || hasO (r.visits.take (k + 1)) (i : Int))) := fun i => by
          rw [Qzr hbit, hb, hov, ho]
          by_cases hi : o = i
          · subst hi; simp; omega
          · rw [decide_eq_false hi, decide_eq_false (show ¬ ((o : Int) = (i : Int)) by omega), Bool.or_false, Bool.or_false]
        have hlt := lt63 hbits
        rw [Qco (Qz3 ho (by omega))]
        refine Qc0 ⟨⟨k + 1, m' + 2 ^ o, ?_, h, hbits⟩, by simp; omega⟩
        have ec : ((m' + 2 ^ o : Nat) : Int) = (m' : Int) + ((2 ^ o : Nat) : Int) := by simp
        have h0 : (0 : Int) ≤ ((2 ^ o : Nat) : Int) := Int.natCast_nonneg _
        have h1 : ((m' + 2 ^ o : Nat) : Int) ≤ 9223372036854775807 := by omega
        rw [addI (by omega) (by omega), ec]
        rfl
  · obtain rfl : k = r.visits.length := by omega
    rw [Qa6]
    exact QbN ⟨m', rfl, fun i => by rw [hb, List.take_length]⟩
theorem QuE (hl : l.length ≤ 1048576) (hr : ∀ r ∈ l, r.visits.length ≤ 1048576) : post (QgY l) fun s => ∃ m : Nat, s = m ∧ ∀ i, m.testBit i = begB l i := by
  unfold QgY
  refine QaP (R := fun s => ∃ m : Nat, s = m ∧ ∀ i, m.testBit i = begB l i) ?_ fun s h => Qar.2 h
  refine Qb5 (fun s => ∃ (k m : Nat), s = ((m : Int), (k : Int)) ∧ k ≤ l.length ∧ ∀ i, m.testBit i = begB (l.take k) i) (fun s => l.length - s.2.toNat) ⟨0, 0, rfl, Nat.zero_le _, fun i => by simp [begB]⟩ (by simp; omega) ?_
  rintro _ ⟨k, m, rfl, hk, hb⟩
  show post (Qei l (m : Int) (k : Int)) _
  unfold Qei
  rcases Nat.lt_or_ge k l.length with h | h
  · have e : l[k]? = some l[k] := List.getElem?_eq_getElem h
    have hm := List.getElem_mem h
    generalize l[k] = r at e hm
    rw [Qbd (by simp [lenI]; omega), inc h hl]
    refine QaP (QwZ e (hr r hm) (f := fun i => (l.take k).any fun r => hasO r.visits (i : Int)) hb) fun s ⟨m', hs, hb'⟩ => Qc0 ⟨⟨k + 1, m', by rw [hs]; rfl, h, fun i => ?_⟩, by simp; omega⟩
    rw [hb', QkC e]
    unfold begB
    rw [List.any_append, List.any_cons, List.any_nil, Bool.or_false]
  · obtain rfl : k = l.length := by omega
    rw [QaX (by simp [lenI])]
    exact QbN ⟨m, rfl, fun i => by rw [hb, List.take_length]⟩
theorem Qut {l : List Qab} (hl : l.length ≤ 1048576) : post (QfK l) fun ok => ok = true → l.length ≤ 10 ∧ ∀ r ∈ l, r.visits.length ≤ 20 ∧ r.rests.length ≤ 20 := by
  unfold QfK
  refine QaG (fun _ => Qar.2 fun h => by cases h) (fun h6 => ?_)
  rw [Qco (QeX (B := fun s => Qca l s) hl (fun r => gtI (lenI r.visits) 20 || gtI (lenI r.rests) 20) (y := (.inr false : Unit ⊕ Bool)) (N := .inl ()) (fun i a h => by
    show Qca l i = _
    unfold Qca
    rw [Qbu h, incL h hl, brs]) (by
    show Qca l l.length = _
    unfold Qca
    rw [Qa6]))]
  by_cases hs : l.any (fun r => gtI (lenI r.visits) 20 || gtI (lenI r.rests) 20) = true
  · rw [if_pos hs, Qhm]; exact Qar.2 fun h => by cases h
  · rw [if_neg hs, QeY]
    refine Qar.2 fun _ => ⟨by simp only [gtI_f, lenI] at h6; omega, fun r hr => ?_⟩
    have := List.any_eq_false.1 (by simpa using hs : l.any (fun r => gtI (lenI r.visits) 20 || gtI (lenI r.rests) 20) = false) r hr
    simp only [Bool.or_eq_true, gtI_t, lenI, not_or] at this
    omega
theorem Qrs (p : Qap) (hp : p.routes.length ≤ 1048576) (l : List Qab) (hl : l.length ≤ 1048576) : Qfg p l = some true := by
  apply post.eq
  unfold Qfg
  rw [Qri]
  refine QaP (Qut hp) fun ok1 h1 => QaG (fun c1 => ?_) (fun _ => Qar.2 rfl)
  refine QaP (Qut hl) fun ok2 h2 => QaG (fun c2 => ?_) (fun _ => Qar.2 rfl)
  obtain ⟨a1, a2⟩ := h1 c1
  obtain ⟨b1, b2⟩ := h2 c2
  have hpr : ∀ r ∈ p.routes, r.visits.length ≤ 1048576 := fun r hr => by have := a2 r hr; omega
  have hlr : ∀ b ∈ l, b.visits.length ≤ 1048576 ∧ b.rests.length ≤ 1048576 := fun b hb => by have := b2 b hb; omega
  rw [QwL hp hpr hl hlr, Qag, QwK hp hpr hl hlr, Qag, Qbd (by simp)]
  obtain ⟨s, hs, m, rfl, hm⟩ := QwJ hl fun r hr => (hlr r hr).1
  obtain ⟨s', hs', m', rfl, hm'⟩ := QuE hl fun r hr => (hlr r hr).1
  have : m = m' := Nat.eq_of_testBit_eq fun i => by rw [hm, hm']
  rw [hs, Qag, hs', Qag, this, Qbd (by simp), Qag]
  exact Qar.2 rfl
end
end Go.Proofs.YtoogjnlmicgfiaaGreatDoor
namespace Go.Proofs.YtoogjnlmicgfiaaGreatDoor
set_option linter.unusedSimpArgs false
set_option linter.unusedVariables false
set_option linter.unusedSectionVars false
section
variable {x : Qad} {r b : Qab} {p : Qap} {now : Int} {s : Qam}
/-- A route with all rests of its best schedule. -/
noncomputable def fullR (x : Qad) (r : Qab) : Qab := Qab.mk r.type_ r.start (QhI (evX x r).1) r.visits
theorem QBC (hx : QcZ x) (hR : Qoi r) (h9 : Qmc r) {b : List Bool} (h : EvOK x r s b) : evX x r = (s, scoS x r s, 0) := by
  unfold evX; rw [ev_of hx hR h9 h]; rfl
theorem EvOK.again (hx : QcZ x) {b : List Bool} (h : EvOK x r s b) : EvOK x (Qab.mk r.type_ r.start b r.visits) s b := by
  obtain ⟨f1, f2, f3, f4, f5, f6, f7, f8⟩ := h.facts hx
  refine ⟨h.type_, h.seq, h.able, h.fits, h.poss, by show b.length ≤ r.visits.length + 1; omega, ⟨h.full.1, QBD fun i _ => rfl, h.full.2.2⟩, fun q hq => ?_, h.sheet⟩
  have hqb : q = b := by
    have hl1 := hq.1
    have hl2 := h.full.1
    have hl1' : q.length = (Qax x r).length + 1 := hl1
    have := Qz9 hq.2.1 (by show b.length ≤ q.length; omega)
    rw [List.take_of_length_le (by show q.length ≤ b.length; omega)] at this
    exact this
  rw [hqb]
  exact ⟨Int.le_refl _, fun _ => Nat.le_refl _⟩
theorem QAe (hx : QcZ x) (hR : Qoi r) (h9 : Qmc r) : Qoi (fullR x r) := by
  obtain ⟨_, _, e3, e4, e5⟩ := Qmf hx hR h9
  have hrl := Qnh (s := (evX x r).1)
  refine ⟨hR.type_, hR.start, ?_, hR.visits⟩
  show (QhI (evX x r).1).length ≤ _
  by_cases h0 : (evX x r).2.2 = 0
  · obtain ⟨_, b, hE⟩ := e5 h0
    have := hE.facts hx
    omega
  · rw [hrl, (e4 h0).1]
    show 0 + 1 ≤ 1048576
    omega
theorem Qzz (hx : QcZ x) (hR : Qoi r) (h9 : Qmc r) (h0 : (evX x r).2.2 = 0) : evX x (fullR x r) = evX x r := by
  obtain ⟨_, _, e3, e4, e5⟩ := Qmf hx hR h9
  obtain ⟨es, b, hE⟩ := e5 h0
  have hfull : fullR x r = Qab.mk r.type_ r.start b r.visits := by unfold fullR; rw [(hE.facts hx).2.2.2.2.1]
  have h1 := hE.again hx
  rw [← hfull] at h1
  rw [QBC hx (QAe hx hR h9) h9 h1]
  have hsc : scoS x (fullR x r) (evX x r).1 = (evX x r).2.1 := by
    rw [es, hfull]
    unfold scoS
    rw [Qs6]
    rfl
  rw [hsc, ← h0]
theorem QAF : ∀ k, rdyS x (fullR x r) s k = rdyS x r s k
  | 0 => rfl
  | _ + 1 => rfl
theorem Qxh : fixS x (fullR x r) s now = fixS x r s now ∧ finB x (fullR x r) s now = finB x r s now := by
  have h1 : fixS x (fullR x r) s now = fixS x r s now := by
    unfold fixS
    show QpW (fun k => geI (rdyS x (fullR x r) s k) now) r.visits.length 0 = _
    congr 1
  refine ⟨h1, ?_⟩
  unfold finB
  rw [h1, QAF]
  rfl
theorem QAB (hx : QcZ x) (hR : Qoi r) (h9 : Qmc r) (h0 : (evX x r).2.2 = 0) (out : List Qab) : pfxS x now out (fullR x r) = pfxS x now out r := by
  unfold pfxS
  rw [Qzz hx hR h9 h0, (Qxh (s := (evX x r).1) (now := now)).1, (Qxh (s := (evX x r).1) (now := now)).2]
  rfl
noncomputable def fullP (x : Qad) (p : Qap) : Qap := Qap.mk (p.routes.map (fullR x)) p.unserved
theorem Qzc (hx : QcZ x) (hP : PlanI p) (h9 : ∀ r ∈ p.routes, Qmc r) (h0 : ∀ r ∈ p.routes, (evX x r).2.2 = 0) : prefS x (fullP x p) now = prefS x p now := by
  have main : ∀ (l : List Qab) (out : List Qab), (∀ r ∈ l, Qoi r ∧ Qmc r ∧ (evX x r).2.2 = 0) → foldE (pfxS x now) (fun s => (.inl s : List Qab ⊕ (List Qab × Int))) out (l.map (fullR x)) = foldE (pfxS x now) (fun s => (.inl s : List Qab ⊕ (List Qab × Int))) out l := by
    intro l
    induction l with
    | nil => intro out _; rfl
    | cons r l ih =>
      intro out h
      obtain ⟨a1, a2, a3⟩ := h r (List.mem_cons_self ..)
      rw [List.map_cons, foldE, foldE, QAB hx a1 a2 a3]
      cases pfxS x now out r with
      | inl s' => exact ih s' fun q hq => h q (List.mem_cons_of_mem _ hq)
      | inr e => rfl
  unfold prefS fullP
  rw [main p.routes [] fun r hr => ⟨hP.each r hr, h9 r hr, h0 r hr⟩]
theorem Qzb (ht : tickB now = true) (h0 : ∀ r ∈ p.routes, (evX x r).2.2 = 0) : (prefS x p now).2 = 0 := by
  have main : ∀ (l : List Qab) (out : List Qab), (∀ r ∈ l, (evX x r).2.2 = 0) → (sel (foldE (pfxS x now) (fun s => (.inl s : List Qab ⊕ (List Qab × Int))) out l) (fun l => (l, (0 : Int))) (fun e => e)).2 = 0 := by
    intro l
    induction l with
    | nil => intro out _; rfl
    | cons r l ih =>
      intro out h
      have a := h r (List.mem_cons_self ..)
      have h' := fun q hq => h q (List.mem_cons_of_mem _ hq)
      by_cases hk : fixS x r (evX x r).1 now = 0
      · have hp : pfxS x now out r = .inl out := by unfold pfxS; rw [if_neg (by simpa using a), if_pos hk]
        rw [Qji hp]; exact ih out h'
      · have hp : pfxS x now out r = .inl (out ++ [Qkm r (evX x r).1 (fixS x r (evX x r).1 now) (finB x r (evX x r).1 now)]) := by unfold pfxS; rw [if_neg (by simpa using a), if_neg hk]
        rw [Qji hp]; exact ih _ h'
  unfold prefS
  rw [if_pos ht]
  exact main p.routes [] h0
/-- Each beginning is that of a route, and not empty. -/
theorem QBp (h0 : ∀ r ∈ p.routes, (evX x r).2.2 = 0) : ∀ b ∈ (prefS x p now).1, ∃ r ∈ p.routes, 0 < fixS x r (evX x r).1 now ∧ b = Qkm r (evX x r).1 (fixS x r (evX x r).1 now) (finB x r (evX x r).1 now) := by
  have main : ∀ (l : List Qab) (out : List Qab) (Q : Qab → Prop), (∀ r ∈ l, 0 < fixS x r (evX x r).1 now → Q (Qkm r (evX x r).1 (fixS x r (evX x r).1 now) (finB x r (evX x r).1 now))) → (∀ b ∈ out, Q b) → (∀ r ∈ l, (evX x r).2.2 = 0) → ∀ b ∈ (sel (foldE (pfxS x now) (fun s => (.inl s : List Qab ⊕ (List Qab × Int))) out l) (fun l => (l, (0 : Int))) (fun e => e)).1, Q b := by
    intro l
    induction l with
    | nil => intro out Q _ ho _; exact ho
    | cons r l ih =>
      intro out Q hQ ho h
      have a := h r (List.mem_cons_self ..)
      have h' := fun q hq => h q (List.mem_cons_of_mem _ hq)
      have hQ' := fun q hq => hQ q (List.mem_cons_of_mem _ hq)
      by_cases hk : fixS x r (evX x r).1 now = 0
      · have hp : pfxS x now out r = .inl out := by unfold pfxS; rw [if_neg (by simpa using a), if_pos hk]
        rw [Qji hp]; exact ih out Q hQ' ho h'
      · have hp : pfxS x now out r = .inl (out ++ [Qkm r (evX x r).1 (fixS x r (evX x r).1 now) (finB x r (evX x r).1 now)]) := by unfold pfxS; rw [if_neg (by simpa using a), if_neg hk]
        rw [Qji hp]
        refine ih _ Q hQ' (fun b hb => ?_) h'
        rcases List.mem_append.1 hb with hb | hb
        · exact ho b hb
        · rw [List.mem_singleton.1 hb]
          exact hQ r (List.mem_cons_self ..) (by omega)
  unfold prefS
  split
  · exact main p.routes [] (fun b => ∃ r ∈ p.routes, 0 < fixS x r (evX x r).1 now ∧ b = Qkm r (evX x r).1 (fixS x r (evX x r).1 now) (finB x r (evX x r).1 now)) (fun r hr hk => ⟨r, hr, hk, rfl⟩) (fun b hb => by cases hb) h0
  · intro b hb; cases hb
theorem Qrr {D : Nat} {f : Nat → Int} {i : Int} (h0 : 0 ≤ i) (h1 : i < D) : getI (vecN D f) i = some (f i.toNat) := by
  unfold getI
  rw [if_pos h0, QhX (by omega)]
/-- How many routes have an order. -/
def cntO (l : List Qab) (o : Nat) : Int := sumF (fun r => bit1 (hasO r.visits (o : Int))) l
theorem QtV {l : List Qab} {o : Nat} : 0 ≤ cntO l o ∧ cntO l o ≤ 1000 * l.length := Quz fun a _ => by have := QtR (b := hasO a.visits (o : Int)); omega
theorem zeros {n : Nat} (hn : n ≤ 1048576) : mkI (n : Int) (n : Int) 8 (0 : Int) = some (vecN n fun _ => 0) := by
  unfold mkI
  rw [if_pos (by omega)]
  congr 1
  refine List.ext_getElem? fun i => ?_
  rcases Nat.lt_or_ge i n with h | h
  · rw [QhX h]; simp [h]
  · rw [List.getElem?_eq_none (by simp; omega), List.getElem?_eq_none (by rw [Qfa]; omega)]
theorem Qwf (hx : QcZ x) (hP : PlanI p) (hq : ∀ r ∈ p.routes, SeqOK x r.visits) : post (Qhb x p) fun e => e.2.2 = true → e.1 = vecN x.orders.length (cntO p.routes) ∧ ∃ f : Nat → Int, e.2.1 = vecN x.orders.length f ∧ ∀ i, 0 ≤ f i ∧ f i ≤ 1048576 := by
  have h10 := hx.orders
  have hr := hP.routes
  have hu := hP.unserved
  unfold Qhb
  rw [show lenI x.orders = (x.orders.length : Int) from rfl, zeros (by omega), Qag, Qag]
  have l1 : loopF (fun q : List Int × Int => QcE x p (vecN x.orders.length fun _ => 0) (vecN x.orders.length fun _ => 0) q.1 q.2) (vecN x.orders.length (fun _ => 0), 0) = some (vecN x.orders.length (cntO p.routes)) := by
    have := Qeo p.routes.length (fun k => (vecN x.orders.length (cntO (p.routes.take k)), (k : Int))) (B := fun q : List Int × Int => QcE x p (vecN x.orders.length fun _ => 0) (vecN x.orders.length fun _ => 0) q.1 q.2) (e := vecN x.orders.length (cntO p.routes)) (by omega) (fun k hk => by
      have e : p.routes[k]? = some p.routes[k] := List.getElem?_eq_getElem hk
      have hm := List.getElem_mem hk
      generalize p.routes[k] = r at e hm
      have hs := hq r hm
      obtain ⟨s, h1, h2, h3⟩ := QsS (r := r) hx (hP.each r hm).visits hs.inn
      show QcE x p (vecN x.orders.length fun _ => 0) (vecN x.orders.length fun _ => 0) (vecN x.orders.length (cntO (p.routes.take k))) (k : Int) = some (Sum.inl (vecN x.orders.length (cntO (p.routes.take (k + 1))), ((k + 1 : Nat) : Int)))
      unfold QcE
      rw [Qbu e, h1, Qag, incL e hr]
      have inner : loopF (fun q : List Int × Int => QdL x p (vecN x.orders.length fun _ => 0) (vecN x.orders.length fun _ => 0) (vecN x.orders.length (cntO (p.routes.take k))) (k : Int) s q.1 q.2) (vecN x.orders.length (cntO (p.routes.take k)), 0) = some (vecN x.orders.length (cntO (p.routes.take (k + 1)))) := by
        have := Qeo x.orders.length (fun j => (vecN x.orders.length (fun o => if o < j then cntO (p.routes.take (k + 1)) o else cntO (p.routes.take k) o), (j : Int))) (B := fun q : List Int × Int => QdL x p (vecN x.orders.length fun _ => 0) (vecN x.orders.length fun _ => 0) (vecN x.orders.length (cntO (p.routes.take k))) (k : Int) s q.1 q.2) (e := vecN x.orders.length (cntO (p.routes.take (k + 1)))) (by omega) (fun j hj => by
          show QdL x p (vecN x.orders.length fun _ => 0) (vecN x.orders.length fun _ => 0) (vecN x.orders.length (cntO (p.routes.take k))) (k : Int) s (vecN x.orders.length (fun o => if o < j then cntO (p.routes.take (k + 1)) o else cntO (p.routes.take k) o)) (j : Int) = some (Sum.inl (vecN x.orders.length (fun o => if o < j + 1 then cntO (p.routes.take (k + 1)) o else cntO (p.routes.take k) o), ((j + 1 : Nat) : Int)))
          have hc := QtV (l := p.routes.take k) (o := j)
          have hlen : (p.routes.take k).length ≤ 1048576 := by rw [List.length_take]; omega
          have hbit : andK .i64 (shrK .i64 s.1 (j : Int)) 1 = bit1 (hasO r.visits (j : Int)) := by
            obtain ⟨m, hm1, hm2, hm3⟩ := h3.ex
            rw [hm1, shrN (by omega)]
            have hd := Nat.div_le_self m (2 ^ j)
            rw [show (1 : Int) = ((1 : Nat) : Int) from rfl, andN (by omega) (by omega), Nat.and_one_is_mod, ← hm3, Nat.testBit_eq_decide_div_mod_eq]
            generalize m / 2 ^ j = q
            unfold bit1
            by_cases h : q % 2 = 1
            · rw [h]; rfl
            · rw [show q % 2 = 0 by omega]; rfl
          have estep : cntO (p.routes.take (k + 1)) j = cntO (p.routes.take k) j + bit1 (hasO r.visits (j : Int)) := QrO e
          have hb := QtR (b := hasO r.visits (j : Int))
          unfold QdL
          rw [Qbd (by simp [lenI, Qfa]; omega), QaL (QhX hj), Qag, if_neg (Nat.lt_irrefl j), Qe6 (by omega), hbit, addI (by omega) (by omega), addI (by omega) (by omega), QtO hj]
          congr 3
          refine Qg4 fun d hd => ?_
          by_cases hdj : d = j
          · subst hdj; rw [if_pos rfl, if_pos (by omega), estep]
          · rw [if_neg hdj]
            by_cases hlt : d < j
            · rw [if_pos hlt, if_pos (by omega)]
            · rw [if_neg hlt, if_neg (by omega)]) (by
          show QdL x p (vecN x.orders.length fun _ => 0) (vecN x.orders.length fun _ => 0) (vecN x.orders.length (cntO (p.routes.take k))) (k : Int) s (vecN x.orders.length (fun o => if o < x.orders.length then cntO (p.routes.take (k + 1)) o else cntO (p.routes.take k) o)) (x.orders.length : Int) = _
          unfold QdL
          rw [QaX (by simp [lenI, Qfa])]
          congr 2
          exact Qg4 fun d hd => if_pos hd)
        simpa using this
      rw [Qco inner]
      rfl) (by
      show QcE x p (vecN x.orders.length fun _ => 0) (vecN x.orders.length fun _ => 0) (vecN x.orders.length (cntO (p.routes.take p.routes.length))) (p.routes.length : Int) = _
      unfold QcE
      rw [Qa6, List.take_length])
    exact this
  rw [Qco l1]
  refine QaP (R := fun e : List Int ⊕ (List Int × List Int × Bool) => (∃ f : Nat → Int, e = .inl (vecN x.orders.length f) ∧ ∀ i, 0 ≤ f i ∧ f i ≤ 1048576) ∨ e = .inr ([], [], false)) ?_ fun e he => ?_
  · refine Qb5 (fun s : List Int × Int => ∃ (k : Nat) (f : Nat → Int), s = (vecN x.orders.length f, (k : Int)) ∧ k ≤ p.unserved.length ∧ ∀ i, 0 ≤ f i ∧ f i ≤ k) (fun s => p.unserved.length - s.2.toNat) ⟨0, fun _ => 0, rfl, Nat.zero_le _, fun i => by simp⟩ (by simp; omega) ?_
    rintro _ ⟨k, f, rfl, hk, hf⟩
    show post (Qes x p _ _ (vecN x.orders.length f) (k : Int)) _
    unfold Qes
    rcases Nat.lt_or_ge k p.unserved.length with h | h
    · have e : p.unserved[k]? = some p.unserved[k] := List.getElem?_eq_getElem h
      generalize p.unserved[k] = o at e
      rw [Qbu e, incL e hu]
      refine QaG (fun _ => QbN (.inr rfl)) (fun hc => ?_)
      simp only [Bool.or_eq_false_iff, ltI_f, geI_f, lenI] at hc
      obtain ⟨n, rfl⟩ : ∃ n : Nat, o = n := ⟨o.toNat, by omega⟩
      have hfn := hf n
      rw [Qrr hc.1 hc.2, Qag, Int.toNat_natCast, addI (by omega) (by omega), QtO (by omega)]
      refine Qc0 ⟨⟨k + 1, fun d => if d = n then f n + 1 else f d, rfl, h, fun i => ?_⟩, by simp; omega⟩
      have := hf i
      show 0 ≤ (if i = n then f n + 1 else f i) ∧ (if i = n then f n + 1 else f i) ≤ ((k + 1 : Nat) : Int)
      split <;> omega
    · obtain rfl : k = p.unserved.length := by omega
      rw [Qa6]
      exact QbN (.inl ⟨f, rfl, fun i => by have := hf i; omega⟩)
  · rcases he with ⟨f, rfl, hf⟩ | rfl
    · rw [QeY]; exact Qar.2 fun _ => ⟨rfl, f, rfl, hf⟩
    · rw [Qhm]; exact Qar.2 fun h => by cases h
end
end Go.Proofs.YtoogjnlmicgfiaaGreatDoor
namespace Go.Proofs.YtoogjnlmicgfiaaGreatDoor
set_option linter.unusedSimpArgs false
set_option linter.unusedVariables false
set_option linter.unusedSectionVars false
theorem Qtn {α β : Type} {f : α → β} {l : List α} {i : Int} : getI (l.map f) i = (getI l i).map f := by
  unfold getI
  split
  · rw [List.getElem?_map]
  · rfl
theorem Qtq {α β : Type} {f : α → β} {l : List α} : lenI (l.map f) = lenI l := by unfold lenI; rw [List.length_map]
theorem Qvs {α β γ : Type} {f : α → β} {o : Option α} {g : β → Option γ} : bnd (o.map f) g = bnd o (fun a => g (f a)) := by cases o <;> rfl
section
variable {x : Qad} {r b : Qab} {p : Qap} {now : Int} {s : Qam}
theorem QAS (hx : QcZ x) (hR : Qoi r) (h9 : Qmc r) : Qln x r = some (evX x r).2.2 := by
  unfold Qln
  rw [(Qmf hx hR h9).1, Qag]
theorem Qzo (hx : QcZ x) (hP : PlanI p) (h9 : ∀ r ∈ p.routes, Qmc r) : post (loopF (fun s => Qey x p s) 0) fun e => (∃ u, e = .inl u ∧ ∀ r ∈ p.routes, (evX x r).2.2 = 0) ∨ ∃ c, e = .inr c ∧ c ≠ 0 := by
  have hp := hP.routes
  refine Qb5 (fun i => ∃ k : Nat, i = (k : Int) ∧ k ≤ p.routes.length ∧ ∀ j r, j < k → p.routes[j]? = some r → (evX x r).2.2 = 0) (fun i => p.routes.length - i.toNat) ⟨0, rfl, Nat.zero_le _, fun j r h => by omega⟩ (by simp; omega) ?_
  rintro _ ⟨k, rfl, hk, hf⟩
  show post (Qey x p (k : Int)) _
  unfold Qey
  rcases Nat.lt_or_ge k p.routes.length with h | h
  · have e : p.routes[k]? = some p.routes[k] := List.getElem?_eq_getElem h
    have hm := List.getElem_mem h
    generalize p.routes[k] = r at e hm
    rw [Qbu e, QAS hx (hP.each r hm) (h9 r hm), Qag, incL e hp]
    refine QaG (fun hn => QbN (.inr ⟨_, rfl, by simpa using hn⟩)) (fun hn => Qc0 ⟨⟨k + 1, rfl, h, fun j q hj hq => ?_⟩, by simp; omega⟩)
    rcases Nat.lt_or_eq_of_le (Nat.le_of_lt_succ hj) with hj | rfl
    · exact hf j q hj hq
    · rw [e] at hq; cases hq; simpa using hn
  · obtain rfl : k = p.routes.length := by omega
    rw [Qa6]
    refine QbN (.inl ⟨(), rfl, fun r hr => ?_⟩)
    obtain ⟨j, hj, rfl⟩ := List.getElem_of_mem hr
    exact hf j _ hj (List.getElem?_eq_getElem hj)
theorem QuM (hx : QcZ x) (hP : PlanI p) (ht : ∀ r ∈ p.routes, 0 ≤ r.type_ ∧ r.type_ < x.types.length) : post (Qgc x p) fun _ => True := by
  have h6 := hx.types
  have hp := hP.routes
  unfold Qgc
  rw [show lenI x.types = (x.types.length : Int) from rfl, zeros (by omega), Qag]
  refine QaP (R := fun l => ∃ f, l = vecN x.types.length f) ?_ fun l hl => ?_
  · refine Qb5 (fun s : List Int × Int => ∃ (k : Nat) (f : Nat → Int), s = (vecN x.types.length f, (k : Int)) ∧ k ≤ p.routes.length) (fun s => p.routes.length - s.2.toNat) ⟨0, fun _ => 0, rfl, Nat.zero_le _⟩ (by simp; omega) ?_
    rintro _ ⟨k, f, rfl, hk⟩
    show post (QdM x p _ (vecN x.types.length f) (k : Int)) _
    unfold QdM
    rcases Nat.lt_or_ge k p.routes.length with h | h
    · have e : p.routes[k]? = some p.routes[k] := List.getElem?_eq_getElem h
      have hm := ht _ (List.getElem_mem h)
      generalize p.routes[k] = r at e hm
      obtain ⟨n, hn⟩ : ∃ n : Nat, r.type_ = n := ⟨r.type_.toNat, by omega⟩
      rw [Qbu e, incL e hp, hn, Qrr (by omega) (by omega), Qag, QtO (by omega)]
      exact Qc0 ⟨⟨k + 1, _, rfl, h⟩, by simp; omega⟩
    · obtain rfl : k = p.routes.length := by omega
      rw [Qa6]
      exact QbN ⟨f, rfl⟩
  · obtain ⟨f, rfl⟩ := hl
    refine QaP (R := fun _ => True) ?_ fun e _ => ?_
    · refine Qb5 (fun i => ∃ k : Nat, i = (k : Int) ∧ k ≤ x.types.length) (fun i => x.types.length - i.toNat) ⟨0, rfl, Nat.zero_le _⟩ (by simp; omega) ?_
      rintro _ ⟨k, rfl, hk⟩
      show post (QfD x _ (vecN x.types.length f) (k : Int)) _
      unfold QfD
      rcases Nat.lt_or_ge k x.types.length with h | h
      · rw [Qbd (by simp [lenI, Qfa]; omega), Qrr (by omega) (by omega), Qag, QyQ h, Qag, inc h (by omega)]
        exact QaG (fun _ => QbN trivial) (fun _ => Qc0 ⟨⟨k + 1, rfl, h⟩, by simp; omega⟩)
      · obtain rfl : k = x.types.length := by omega
        rw [QaX (by simp [lenI, Qfa])]
        exact QbN trivial
    · cases e
      · rw [QeY]; exact Qar.2 trivial
      · rw [Qhm]; exact Qar.2 trivial
/-- One look at all orders. -/
theorem Qtt {q : Nat → Qak → Bool} {B : Int → Option (Int ⊕ (Unit ⊕ Bool))} (h10 : x.orders.length ≤ 10) (hB : ∀ (i : Nat) o, x.orders[i]? = some o → B (i : Int) = br (q i o) (some (.inr (.inr true))) (some (.inl ((i : Int) + 1)))) (hend : B (x.orders.length : Int) = some (.inr (.inl ()))) :
    post (bnd (loopF B 0) (fun e => sel e (fun (_ : Unit) => some false) (fun r1 => some r1))) fun b => b = false → ∀ (i : Nat) o, x.orders[i]? = some o → q i o = false := by
  rcases QAI (B := B) (n := x.orders.length) (by omega) (fun i => match x.orders[i]? with | some o => q i o | none => false) (fun _ => (.inr true : Unit ⊕ Bool)) (N := .inl ()) (fun i hi => by
    have e : x.orders[i]? = some x.orders[i] := List.getElem?_eq_getElem hi
    rw [hB i _ e, brs, e]) hend with ⟨k, _, _, _, h4⟩ | ⟨h1, h4⟩
  · rw [Qco h4, Qhm]; exact Qar.2 fun h => by cases h
  · rw [Qco h4, QeY]
    refine Qar.2 fun _ i o e => ?_
    have := h1 i (List.getElem?_eq_some_iff.1 e).1
    rw [e] at this
    exact this
theorem Qw5 (hx : QcZ x) (hP : PlanI p) (h9 : ∀ r ∈ p.routes, Qmc r) : post (Qkb x p) fun c => c = 0 → (∀ r ∈ p.routes, (evX x r).2.2 = 0) ∧ ∀ o, o < x.orders.length → cntO p.routes o ≤ 1 := by
  have h10 := hx.orders
  have hp := hP.routes
  unfold Qkb
  refine QaP (Qzo hx hP h9) fun e he => ?_
  rcases he with ⟨u, rfl, h0⟩ | ⟨c, rfl, hc⟩
  · rw [QeY]
    have hE : ∀ r ∈ p.routes, ∃ b, EvOK x r (evX x r).1 b := fun r hr => ((Qmf hx (hP.each r hr) (h9 r hr)).2.2.2.2 (h0 r hr)).2
    have hq : ∀ r ∈ p.routes, SeqOK x r.visits := fun r hr => by obtain ⟨b, hb⟩ := hE r hr; exact Qta hb.seq
    have ht : ∀ r ∈ p.routes, 0 ≤ r.type_ ∧ r.type_ < x.types.length := fun r hr => by obtain ⟨b, hb⟩ := hE r hr; exact hb.type_
    refine QaP (Qwf hx hP hq) fun e he => QaG (fun h1 => ?_) (fun _ => Qar.2 fun h => by cases h)
    obtain ⟨g1, f, g2, g3⟩ := he h1
    rw [g1, g2]
    have hcb := fun o => QtV (l := p.routes) (o := o)
    have hadd : ∀ i : Nat, addK .i64 (cntO p.routes i) (f i) = cntO p.routes i + f i := fun i => by have := hcb i; have := g3 i; exact addI (by omega) (by omega)
    have c2 := Qtt (x := x) (q := fun i o => gtI (addK .i64 (cntO p.routes i) (f i)) 1) (B := fun s => Qbw (vecN x.orders.length (cntO p.routes)) (vecN x.orders.length f) x s) h10 (fun i o e => by
      have hi := (List.getElem?_eq_some_iff.1 e).1
      show Qbw _ _ x i = _
      unfold Qbw QnA
      rw [Qbu e, Qrr (by omega) (by omega), Qag, Qrr (by omega) (by omega), Qag, Qag, incL e (by omega), Int.toNat_natCast]) (by
      show Qbw _ _ x x.orders.length = _
      unfold Qbw
      rw [Qa6])
    have c3 := Qtt (x := x) (q := fun i o => o.off && gtI (f i) 0) (B := fun s => Qbx (vecN x.orders.length f) x s) h10 (fun i o e => by
      have hi := (List.getElem?_eq_some_iff.1 e).1
      show Qbx _ x i = _
      unfold Qbx QnB
      rw [Qbu e, Qrr (by omega) (by omega), Qag, incL e (by omega), Int.toNat_natCast]
      cases o.off <;> rfl) (by
      show Qbx _ x x.orders.length = _
      unfold Qbx
      rw [Qa6])
    have c4 := Qtt (x := x) (q := fun i o => !o.off && (eqI (addK .i64 (cntO p.routes i) (f i)) 0 || (gtI (f i) 0 && eqI o.penalty (-1)))) (B := fun s => Qby (vecN x.orders.length (cntO p.routes)) (vecN x.orders.length f) x s) h10 (fun i o e => by
      have hi := (List.getElem?_eq_some_iff.1 e).1
      show Qby _ _ x i = _
      unfold Qby QnC
      rw [Qbu e, Qrr (by omega) (by omega), Qag, Qrr (by omega) (by omega), Qag, incL e (by omega), Int.toNat_natCast]
      cases o.off <;> cases eqI (addK .i64 (cntO p.routes i) (f i)) 0 <;> rfl) (by
      show Qby _ _ x x.orders.length = _
      unfold Qby
      rw [Qa6])
    refine QaP (show post (QeU _ _ x) _ from c2) fun b2 hb2 => QaG (fun _ => Qar.2 fun h => by cases h) (fun d2 => ?_)
    refine QaP (QuM hx hP ht) fun b3 _ => QaG (fun _ => Qar.2 fun h => by cases h) (fun _ => ?_)
    refine QaP (show post (QeV _ x) _ from c3) fun b4 _ => QaG (fun _ => Qar.2 fun h => by cases h) (fun _ => ?_)
    refine QaP (show post (QeW _ _ x) _ from c4) fun b5 _ => QaG (fun _ => Qar.2 fun h => by cases h) (fun _ => Qar.2 fun _ => ⟨h0, fun o ho => ?_⟩)
    have := hb2 d2 o _ (List.getElem?_eq_getElem ho)
    simp only [gtI_f] at this
    rw [hadd] at this
    have := g3 o
    omega
  · rw [Qhm]; exact Qar.2 fun h => absurd h hc
theorem Qyj (hx : QcZ x) (hP : PlanI p) (h9 : ∀ r ∈ p.routes, Qmc r) : post (Qkf x p) fun e => e.2 = 0 → (∀ r ∈ p.routes, (evX x r).2.2 = 0) ∧ ∀ o, o < x.orders.length → cntO p.routes o ≤ 1 := by
  have hp := hP.routes
  have hu := hP.unserved
  unfold Qkf
  refine QaP (Qw5 hx hP h9) fun c hc => QaG (fun hn => Qar.2 fun h => absurd h (by simpa using hn)) (fun hn => ?_)
  have hc' := hc (by simpa using hn)
  refine QaP (R := fun e : Qao ⊕ (Qao × Int) => ∀ q, e = .inr q → q.2 ≠ 0) ?_ fun e he => ?_
  · refine Qb5 (fun s : Int × Int × Int × Int × Int => ∃ k : Nat, s.2.2.2.2 = (k : Int) ∧ k ≤ p.routes.length) (fun s => p.routes.length - s.2.2.2.2.toNat) ⟨0, rfl, Nat.zero_le _⟩ (by simp; omega) ?_
    rintro ⟨a, b, c, d, _⟩ ⟨k, rfl, hk⟩
    show post (Qfr x p a b c d (k : Int)) _
    unfold Qfr Qpj Qo5 Qij
    rcases Nat.lt_or_ge k p.routes.length with h | h
    · have e : p.routes[k]? = some p.routes[k] := List.getElem?_eq_getElem h
      have hm := List.getElem_mem h
      generalize p.routes[k] = r at e hm
      rw [Qbu e, (Qmf hx (hP.each r hm) (h9 r hm)).1, Qag, incL e hp]
      refine QaG (fun hne => QbN fun q hq => ?_) (fun _ => ?_)
      · cases hq; simpa using hne
      · exact Qc0 ⟨⟨k + 1, rfl, h⟩, by simp; omega⟩
    · obtain rfl : k = p.routes.length := by omega
      rw [Qa6]
      exact QbN fun q hq => by cases hq
  · cases e with
    | inr q => rw [Qhm]; exact Qar.2 fun h => absurd h (he q rfl)
    | inl s0 =>
      rw [QeY]
      refine QaP (R := fun e : Qao ⊕ (Qao × Int) => True) ?_ fun e _ => ?_
      · refine Qb5 (fun s : Qao × Int => ∃ k : Nat, s.2 = (k : Int) ∧ k ≤ p.unserved.length) (fun s => p.unserved.length - s.2.toNat) ⟨0, rfl, Nat.zero_le _⟩ (by simp; omega) ?_
        rintro ⟨a, _⟩ ⟨k, rfl, hk⟩
        show post (Qfs x p _ (k : Int)) _
        unfold Qfs Qpj Qo5 Qij
        rcases Nat.lt_or_ge k p.unserved.length with h | h
        · have e : p.unserved[k]? = some p.unserved[k] := List.getElem?_eq_getElem h
          generalize p.unserved[k] = o at e
          rw [Qbu e, incL e hu]
          refine QaP (R := fun _ => True) ?_ fun u _ => ?_
          · unfold Qle
            refine QaG (fun _ => Qar.2 trivial) (fun ho => ?_)
            simp only [Bool.or_eq_false_iff, ltI_f, geI_f, lenI] at ho
            rw [Qs0 ho.1 ho.2, Qag]
            exact QaG (fun _ => Qar.2 trivial) (fun _ => QaG (fun _ => Qar.2 trivial) (fun _ => QaG (fun _ => Qar.2 trivial) (fun _ => Qar.2 trivial)))
          · exact QaG (fun _ => QbN trivial) (fun _ => Qc0 ⟨⟨k + 1, rfl, h⟩, by simp; omega⟩)
        · obtain rfl : k = p.unserved.length := by omega
          rw [Qa6]
          exact QbN trivial
      · cases e
        · rw [QeY]; exact Qar.2 fun _ => hc'
        · rw [Qhm]; exact Qar.2 fun _ => hc'
theorem QwH (s : Qao) : post (QlQ s) fun _ => True := by
  unfold QlQ Qij
  rw [Qag]
  exact QaG (fun _ => Qar.2 trivial) (fun _ => QaG (fun _ => Qar.2 trivial) (fun _ => QaG (fun _ => Qar.2 trivial) (fun _ => QaG (fun _ => Qar.2 trivial) (fun _ => QaG (fun _ => Qar.2 trivial) (fun _ => Qar.2 trivial)))))
theorem Qx1 (hx : QcZ x) (hP : PlanI p) (h9 : ∀ r ∈ p.routes, Qmc r) : post (Qg1 x p) fun e => e.2 = 0 → (∀ r ∈ p.routes, (evX x r).2.2 = 0) ∧ ∀ o, o < x.orders.length → cntO p.routes o ≤ 1 := by
  unfold Qg1
  refine QaP (Qyj hx hP h9) fun e he => QaG (fun hn => Qar.2 fun h => absurd h (by simpa using hn)) (fun hn => ?_)
  exact QaP (QwH _) fun w _ => Qar.2 fun _ => he (by simpa using hn)
theorem Qwe : Qhb x (fullP x p) = Qhb x p := by
  have h1 : ∀ l l1 a v, QcE x (fullP x p) l l1 a v = QcE x p l l1 a v := fun l l1 a v => by
    unfold QcE
    show br (ltI v (lenI (p.routes.map (fullR x)))) (bnd (getI (p.routes.map (fullR x)) v) _) _ = _
    rw [Qtq, Qtn, Qvs]
    rfl
  have h3 : ∀ l l5 l6 v, Qes x (fullP x p) l l5 l6 v = Qes x p l l5 l6 v := fun _ _ _ _ => rfl
  unfold Qhb
  simp only [h1, h3]
theorem QuL : Qgc x (fullP x p) = Qgc x p := by
  have h1 : ∀ l a v, QdM x (fullP x p) l a v = QdM x p l a v := fun l a v => by
    unfold QdM
    show br (ltI v (lenI (p.routes.map (fullR x)))) (bnd (getI (p.routes.map (fullR x)) v) _) _ = _
    rw [Qtq, Qtn, Qvs]
    rfl
  unfold Qgc
  simp only [h1]
theorem Qzu {α : Type} {v : Int} {g h : Qab → Option α} (hgh : ∀ r ∈ p.routes, g r = h r) : bnd (getI p.routes v) g = bnd (getI p.routes v) h := by
  cases e : getI p.routes v with
  | none => rfl
  | some r =>
    refine hgh r ?_
    unfold getI at e
    split at e
    · exact List.mem_of_getElem? e
    · cases e
theorem Qx0 (hx : QcZ x) (hP : PlanI p) (h9 : ∀ r ∈ p.routes, Qmc r) (h0 : ∀ r ∈ p.routes, (evX x r).2.2 = 0) : Qg1 x (fullP x p) = Qg1 x p := by
  have hev : ∀ r ∈ p.routes, Qch x (fullR x r) = Qch x r := fun r hr => by
    rw [(Qmf hx (hP.each r hr) (h9 r hr)).1, (Qmf hx (QAe hx (hP.each r hr) (h9 r hr)) (h9 r hr)).1, Qzz hx (hP.each r hr) (h9 r hr) (h0 r hr)]
  have h1 : ∀ v, Qey x (fullP x p) v = Qey x p v := fun v => by
    unfold Qey
    show br (ltI v (lenI (p.routes.map (fullR x)))) (bnd (getI (p.routes.map (fullR x)) v) _) _ = _
    rw [Qtq, Qtn, Qvs]
    congr 1
    refine Qzu fun r hr => ?_
    unfold Qln
    rw [hev r hr]
  have h2 : ∀ a b c d v, Qfr x (fullP x p) a b c d v = Qfr x p a b c d v := fun a b c d v => by
    unfold Qfr
    show br (ltI v (lenI (p.routes.map (fullR x)))) (bnd (getI (p.routes.map (fullR x)) v) _) _ = _
    rw [Qtq, Qtn, Qvs]
    congr 1
    refine Qzu fun r hr => ?_
    rw [hev r hr]
  have h3 : ∀ s v, Qfs x (fullP x p) s v = Qfs x p s v := fun _ _ => rfl
  have hc : Qkb x (fullP x p) = Qkb x p := by
    unfold Qkb
    simp only [h1, Qwe, QuL]
  have hs : Qkf x (fullP x p) = Qkf x p := by
    unfold Qkf
    simp only [hc, h2, h3]
  unfold Qg1
  rw [hs]
theorem Qw7 {l : List Qab} {o : Nat} (h : cntO l o = 0) : ∀ r ∈ l, hasO r.visits (o : Int) = false := by
  induction l with
  | nil => intro r hr; cases hr
  | cons q l ih =>
    have e : cntO (q :: l) o = bit1 (hasO q.visits (o : Int)) + cntO l o := by simp [cntO, sumF]
    have hb := QtR (b := hasO q.visits (o : Int))
    have hc := QtV (l := l) (o := o)
    intro r hr
    rcases List.mem_cons.1 hr with rfl | hr
    · cases hh : hasO r.visits (o : Int) with
      | false => rfl
      | true => rw [hh] at e; simp only [bit1, if_true] at e; omega
    · exact ih (by omega) r hr
theorem Qvw {l : List Qab} (h : ∀ r ∈ l, Qht r b = false) : cntB l b = 0 := by
  induction l with
  | nil => rfl
  | cons q l ih =>
    have e : cntB (q :: l) b = (if Qht q b = true then 1 else 0) + cntB l b := by simp [cntB, sumF]
    rw [e, h q (List.mem_cons_self ..), ih fun r hr => h r (List.mem_cons_of_mem _ hr)]
    rfl
theorem QyY (hx : QcZ x) (hP : PlanI p) (h9 : ∀ r ∈ p.routes, Qmc r) (h0 : ∀ r ∈ p.routes, (evX x r).2.2 = 0) (hc : ∀ o, o < x.orders.length → cntO p.routes o ≤ 1) (hr : r ∈ p.routes) (hk : 0 < fixS x r (evX x r).1 now) :
    keepB (fullP x p) (Qkm r (evX x r).1 (fixS x r (evX x r).1 now) (finB x r (evX x r).1 now)) = true := by
  obtain ⟨_, d, hE⟩ := (Qmf hx (hP.each r hr) (h9 r hr)).2.2.2.2 (h0 r hr)
  have hf := hE.facts hx
  have hq := Qta hE.seq
  have hrl := Qnh (s := (evX x r).1)
  have htl := hf.2.2.2.2.2.1
  have hle := Qt2 (x := x) (r := r) (s := (evX x r).1) (now := now)
  have hfin : finB x r (evX x r).1 now = true → fixS x r (evX x r).1 now = r.visits.length := fun h => by
    unfold finB at h
    by_cases h1 : fixS x r (evX x r).1 now < r.visits.length
    · rw [if_pos h1] at h; cases h
    · omega
  generalize fixS x r (evX x r).1 now = k at *
  generalize finB x r (evX x r).1 now = fin at *
  obtain ⟨l1, l2, hl⟩ := List.append_of_mem hr
  have hother : ∀ q, q ∈ l1 ∨ q ∈ l2 → ∀ v ∈ r.visits, hasO q.visits v.order = false := fun q hq' v hv => by
    have hin := Qnu hq.inn hv
    obtain ⟨o, ho⟩ : ∃ o : Nat, v.order = o := ⟨v.order.toNat, by omega⟩
    have h1 := hc o (by omega)
    have e : cntO p.routes o = cntO l1 o + (bit1 (hasO r.visits (o : Int)) + cntO l2 o) := by
      rw [hl]
      have e2 : cntO (r :: l2) o = bit1 (hasO r.visits (o : Int)) + cntO l2 o := by simp [cntO, sumF]
      rw [← e2]
      exact Qqa
    have hh : hasO r.visits (o : Int) = true := Qtp.2 ⟨v, hv, ho⟩
    rw [hh] at e
    simp only [bit1, if_true] at e
    have c1 := QtV (l := l1) (o := o)
    have c2 := QtV (l := l2) (o := o)
    rw [ho]
    rcases hq' with hq' | hq'
    · exact Qw7 (by omega) q hq'
    · exact Qw7 (by omega) q hq'
  have hb0 : ∃ v0, (r.visits.take k)[0]? = some v0 ∧ v0 ∈ r.visits := by
    have h1 : 0 < (r.visits.take k).length := by rw [List.length_take]; omega
    exact ⟨_, List.getElem?_eq_getElem h1, List.mem_of_mem_take (List.getElem_mem h1)⟩
  have hnb : ∀ q, q ∈ l1 ∨ q ∈ l2 → Qht (fullR x q) (Qkm r (evX x r).1 k fin) = false ∧ meetB (fullR x q) (Qkm r (evX x r).1 k fin) = false := fun q hq' => by
    constructor
    · rw [Bool.eq_false_iff]
      intro h
      unfold Qht at h
      simp only [Bool.and_eq_true] at h
      have h2 := h.2.1
      unfold QfV at h2
      rw [decide_eq_true_iff] at h2
      obtain ⟨v0, g1, g2⟩ := hb0
      have g3 : ((fullR x q).visits.take (Qkm r (evX x r).1 k fin).visits.length)[0]? = some v0 := by rw [h2]; exact g1
      have g4 : v0 ∈ q.visits := List.mem_of_mem_take (List.mem_of_getElem? g3)
      have := hother q hq' v0 g2
      rw [Qtp.2 ⟨v0, g4, rfl⟩] at this
      cases this
    · rw [Bool.eq_false_iff]
      intro h
      unfold meetB at h
      obtain ⟨v, hv, h2⟩ := List.any_eq_true.1 h
      obtain ⟨w, hw, h3⟩ := List.any_eq_true.1 h2
      have hvw : v.order = w.order := by simpa using h3
      have := hother q hq' w (List.mem_of_mem_take hw)
      have hh : hasO q.visits w.order = true := Qtp.2 ⟨v, hv, hvw⟩
      rw [hh] at this
      cases this
  have hyes : Qht (fullR x r) (Qkm r (evX x r).1 k fin) = true := by
    unfold Qht
    simp only [Bool.and_eq_true, decide_eq_true_iff]
    refine ⟨⟨rfl, rfl⟩, ?_, ?_, ?_⟩
    · unfold QfV
      rw [decide_eq_true_iff]
      show r.visits.take (r.visits.take k).length = r.visits.take k
      rw [List.length_take]
      congr 1
      omega
    · unfold QfV
      rw [decide_eq_true_iff]
      show (QhI (evX x r).1).take ((QhI (evX x r).1).take (if fin = true then k + 1 else k)).length = (QhI (evX x r).1).take (if fin = true then k + 1 else k)
      rw [List.length_take]
      congr 1
      split <;> omega
    · show (leI (lenI ((QhI (evX x r).1).take (if fin = true then k + 1 else k))) (lenI (r.visits.take k)) || (eqI (lenI r.visits) (lenI (r.visits.take k)) && eqI (lenI (QhI (evX x r).1)) (lenI ((QhI (evX x r).1).take (if fin = true then k + 1 else k))))) = true
      simp only [Bool.or_eq_true, Bool.and_eq_true, leI_t, eqI_t, lenI, List.length_take]
      cases fin with
      | true => have := hfin rfl; right; simp; omega
      | false => left; simp; omega
  unfold keepB
  rw [Bool.and_eq_true, Bool.not_eq_true']
  have hmap : (fullP x p).routes = l1.map (fullR x) ++ fullR x r :: l2.map (fullR x) := by
    show p.routes.map (fullR x) = _
    rw [hl, List.map_append, List.map_cons]
  constructor
  · rw [eqI_t, hmap]
    have e : cntB (l1.map (fullR x) ++ fullR x r :: l2.map (fullR x)) (Qkm r (evX x r).1 k fin) = cntB (l1.map (fullR x)) (Qkm r (evX x r).1 k fin) + cntB (fullR x r :: l2.map (fullR x)) (Qkm r (evX x r).1 k fin) := Qqa
    have e2 : cntB (fullR x r :: l2.map (fullR x)) (Qkm r (evX x r).1 k fin) = (if Qht (fullR x r) (Qkm r (evX x r).1 k fin) = true then 1 else 0) + cntB (l2.map (fullR x)) (Qkm r (evX x r).1 k fin) := by simp [cntB, sumF]
    rw [e, e2, if_pos hyes, Qvw fun q hq' => by obtain ⟨q', h1, rfl⟩ := List.mem_map.1 hq'; exact (hnb q' (.inl h1)).1, Qvw fun q hq' => by obtain ⟨q', h1, rfl⟩ := List.mem_map.1 hq'; exact (hnb q' (.inr h1)).1]
    rfl
  · rw [hmap]
    unfold othB
    rw [List.any_eq_false]
    intro q hq'
    simp only [Bool.and_eq_true, Bool.not_eq_true', not_and, Bool.not_eq_true]
    intro hnb'
    rcases List.mem_append.1 hq' with h1 | h1
    · obtain ⟨q', h2, rfl⟩ := List.mem_map.1 h1; exact (hnb q' (.inl h2)).2
    · rcases List.mem_cons.1 h1 with rfl | h1
      · rw [hyes] at hnb'; cases hnb'
      · obtain ⟨q', h2, rfl⟩ := List.mem_map.1 h1; exact (hnb q' (.inr h2)).2
theorem QsD (x : Qad) (hI : InstI x) (p : Qap) (hP : PlanI p) (now : Int) : Qf1 x p now = some true := by
  apply post.eq
  unfold Qf1
  rw [Qri]
  refine QaP (QBr hI) fun ok hok => QaG (fun h => ?_) (fun _ => Qar.2 rfl)
  have hx := hok h
  refine QaP (Qz8 hP.routes) fun fw hfw => QaG (fun _ => Qar.2 rfl) (fun hc => ?_)
  simp only [Bool.or_eq_false_iff, Bool.not_eq_false', ltI_f, gtI_f] at hc
  obtain ⟨⟨c0, c1⟩, c2⟩ := hc
  obtain ⟨h6, h9⟩ := hfw c0
  have t1 : tickB now = true := decide_eq_true ⟨c1, c2⟩
  have hp := hP.routes
  obtain ⟨r3, hr3, f3⟩ := Qx1 hx hP h9
  rw [hr3, Qag]
  refine QaG (fun _ => Qar.2 rfl) (fun hz => ?_)
  have hz' : r3.2 = 0 := by simpa using hz
  obtain ⟨h0, hcnt⟩ := f3 hz'
  have hloop : loopF (fun s : List Qab × Int => Qbm x p now r3 s.1 s.2) ([], 0) = some (.inl (p.routes.map (fullR x))) := by
    have := Qeo p.routes.length (fun k => ((p.routes.take k).map (fullR x), (k : Int))) (B := fun s : List Qab × Int => Qbm x p now r3 s.1 s.2) (e := .inl (p.routes.map (fullR x))) (by omega) (fun k hk => by
      have e : p.routes[k]? = some p.routes[k] := List.getElem?_eq_getElem hk
      have hm := List.getElem_mem hk
      generalize p.routes[k] = r at e hm
      obtain ⟨e1, e2, e3, e4, e5⟩ := Qmf hx (hP.each r hm) (h9 r hm)
      show Qbm x p now r3 ((p.routes.take k).map (fullR x)) (k : Int) = some (Sum.inl ((p.routes.take (k + 1)).map (fullR x), ((k + 1 : Nat) : Int)))
      unfold Qbm
      rw [Qbu e, e1, Qag, QaX (by simpa using h0 r hm), incL e hp]
      rw [Qco (Qsk (s0 := (evX x r).1) e3 (B := fun q : List Bool × Int => Qdt x p now r3 ((p.routes.take k).map (fullR x)) (k : Int) r (evX x r) q.1 q.2) (fun l v => rfl))]
      rw [Qe6 (by unfold okN; simp; omega), QkC e, List.map_append]
      rfl) (by
      show Qbm x p now r3 ((p.routes.take p.routes.length).map (fullR x)) (p.routes.length : Int) = _
      unfold Qbm
      rw [Qa6, List.take_length])
    exact this
  rw [Qco hloop, QeY]
  have hfP : PlanI (fullP x p) := ⟨by show (p.routes.map (fullR x)).length ≤ _; rw [List.length_map]; exact hp, fun q hq => by
    obtain ⟨q', h1, rfl⟩ := List.mem_map.1 hq
    exact QAe hx (hP.each q' h1) (h9 q' h1), hP.unserved⟩
  have hf9 : ∀ q ∈ (fullP x p).routes, Qmc q := fun q hq => by
    obtain ⟨q', h1, rfl⟩ := List.mem_map.1 hq
    exact h9 q' h1
  show post (bnd (Qg1 x (fullP x p)) fun r6 => bnd (Qcx x p now) fun r7 => bnd (Qcx x (fullP x p) now) fun r8 => br _ (bnd (QcJ r7.1 r8.1) fun r9 => br r9 (bnd (Qfw (fullP x p) r7.1) _) _) _) _
  rw [Qx0 hx hP h9 h0, hr3, Qag, (QsT (now := now) hx hP h9).1, Qag, (QsT (now := now) hx hfP hf9).1, Qag, Qzc hx hP h9 h0]
  obtain ⟨s1, s2⟩ := Qzd (now := now) hx hP h9
  rw [Qbd (by simp [hz', Qzb t1 h0]), Qwu s1 s2, Qag, Qhf]
  rw [QwL hfP.routes (fun q hq => (hfP.each q hq).visits) s1 s2, Qag]
  have hk : ¬ (prefS x p now).1.any (fun b => !keepB (fullP x p) b) = true := by
    rw [List.any_eq_true]
    rintro ⟨b, hb, hn⟩
    obtain ⟨r, hr, hkr, rfl⟩ := QBp (now := now) h0 b hb
    rw [QyY hx hP h9 h0 hcnt hr hkr] at hn
    cases hn
  rw [if_neg hk, Qbd (by decide), Qag]
  exact Qar.2 rfl
end
end Go.Proofs.YtoogjnlmicgfiaaGreatDoor
namespace Go.Proofs.YtoogjnlmicgfiaaGreatDoor
set_option linter.unusedSimpArgs false
set_option linter.unusedVariables false
set_option linter.unusedSectionVars false
theorem QBi {n : Qah} (h : Qah.ok 1048576 n) : NetI n := by
  obtain ⟨⟨h1, h2⟩, ⟨h3, h4⟩, _⟩ := h
  refine ⟨h1, h3, h2, fun a ha => ?_⟩
  obtain ⟨_, _, _, _, ⟨h5, h6⟩, ⟨h7, h8⟩, _⟩ := h4 a ha
  exact ⟨h5, h7, fun p hp => ⟨(h6 p hp).1, (h6 p hp).2.1⟩, fun p hp => ⟨(h8 p hp).1, (h8 p hp).2.1⟩⟩
end Go.Proofs.YtoogjnlmicgfiaaGreatDoor
namespace Go.Proofs.YtoogjnlmicgfiaaGreatDoor
set_option linter.unusedSimpArgs false
set_option linter.unusedVariables false
set_option linter.unusedSectionVars false
theorem QAk {x : Qad} (h : Qad.ok 1048576 x) : InstI x := by
  obtain ⟨h0, ⟨h1, h2⟩, ⟨h3, h4⟩, ⟨h5, _⟩, ⟨h6, _⟩, _⟩ := h
  refine ⟨QBi h0, h1, h3, h5, h6, fun t ht => ?_, fun o ho => ?_⟩
  · obtain ⟨a, _, _, _, ⟨b, _⟩, _⟩ := h2 t ht
    exact ⟨a, b⟩
  · obtain ⟨a, ⟨b, _⟩, _⟩ := h4 o ho
    exact ⟨a, b⟩
theorem Qze {r : Qab} (h : Qab.ok 1048576 r) : Qoi r := by
  obtain ⟨h0, h1, ⟨h2, _⟩, ⟨h3, _⟩, _⟩ := h
  exact ⟨h0, h1, h2, h3⟩
end Go.Proofs.YtoogjnlmicgfiaaGreatDoor
namespace Go.Proofs.YtoogjnlmicgfiaaGreatDoor
set_option linter.unusedSimpArgs false
set_option linter.unusedVariables false
set_option linter.unusedSectionVars false
theorem QAE {p : Qap} (h : Qap.ok 1048576 p) : PlanI p := ⟨h.1.1, fun r hr => Qze (h.1.2 r hr), h.2.1.1⟩
end Go.Proofs.YtoogjnlmicgfiaaGreatDoor
