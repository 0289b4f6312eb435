/- Part MR of the proof: texts Wra Wrb Wrc Wrd Wre Wrf Wrg Wrh Wri Wta Wtb Wtc Wtd Wqz Wqzd Wtz. -/
import Derived.Test.YtoogjnlmicgfiaaGreatDoorMP
import Derived.Test.YtoogjnlmicgfiaaGreatDoorMQ
import Derived.Test.YtoogjnlmicgfiaaGreatDoorMT
namespace Go.Proofs.YtoogjnlmicgfiaaGreatDoor
set_option linter.unusedSimpArgs false
set_option linter.unusedVariables false
set_option linter.unusedSectionVars false
def ixP {α : Type} (p : α → Bool) : List α → Option Nat
  | [] => none
  | a :: r => if p a = true then some 0 else (ixP p r).map (· + 1)
section
variable {α : Type} {p : α → Bool}
theorem Qlc {l : List α} {k : Nat} (h : ixP p l = some k) : ∃ hk : k < l.length, p l[k] = true ∧ ∀ j (hj : j < k), p (l[j]'(by omega)) = false := by
  induction l generalizing k with
  | nil => cases h
  | cons a r ih =>
    unfold ixP at h
    split at h
    · cases h
      exact ⟨by simp, by simpa, fun j hj => by omega⟩
    · rename_i ha
      rw [Option.map_eq_some_iff] at h
      obtain ⟨m, hm, rfl⟩ := h
      obtain ⟨h1, h2, h3⟩ := ih hm
      refine ⟨by simp; omega, by simpa using h2, fun j hj => ?_⟩
      cases j with
      | zero => simpa using ha
      | succ j => simpa using h3 j (by omega)
theorem Qmz {l : List α} (h : ixP p l = none) : ∀ a ∈ l, p a = false := by
  induction l with
  | nil => simp
  | cons a r ih =>
    unfold ixP at h
    split at h
    · cases h
    · rename_i ha
      rw [Option.map_eq_none_iff] at h
      intro b hb
      rcases List.mem_cons.1 hb with rfl | hb
      · simpa using ha
      · exact ih h b hb
def ixI (p : α → Bool) (l : List α) : Int := match ixP p l with
  | some k => k
  | none => -1
theorem Qph {l : List α} : 0 ≤ ixI p l ↔ ∃ a ∈ l, p a = true := by
  unfold ixI
  cases h : ixP p l with
  | some k =>
    obtain ⟨h1, h2, _⟩ := Qlc h
    exact ⟨fun _ => ⟨_, List.getElem_mem h1, h2⟩, fun _ => Int.natCast_nonneg k⟩
  | none => exact ⟨fun h' => by simp at h', fun ⟨a, ha, hp⟩ => by rw [Qmz h a ha] at hp; cases hp⟩
theorem QnM {l : List α} : geI (ixI p l) 0 = l.any p := by
  rw [Bool.eq_iff_iff, geI_t, Qph, List.any_eq_true]
end
section
variable {E : Type} {B : Int → Option (Int ⊕ E)}
/-- A loop over the indexes below n: it goes out at the first with p. -/
theorem Qo8 {n : Nat} (hn : n ≤ 1048576) (p : Nat → Bool) (Y : Nat → E) {N : E}
    (hin : ∀ i : Nat, i < n → B (i : Int) = some (if p i = true then .inr (Y i) else .inl ((i : Int) + 1))) (hend : B (n : Int) = some (.inr N)) :
    (∃ k, k < n ∧ p k = true ∧ (∀ j, j < k → p j = false) ∧ loopF B 0 = some (Y k)) ∨ ((∀ j, j < n → p j = false) ∧ loopF B 0 = some N) := by
  have main : post (loopF B 0) fun e => (∃ k, k < n ∧ p k = true ∧ (∀ j, j < k → p j = false) ∧ e = Y k) ∨ ((∀ j, j < n → p j = false) ∧ e = N) := by
    refine Qip (fun i => ∃ k : Nat, i = (k : Int) ∧ k ≤ n ∧ ∀ j, j < k → p j = false) (fun i => n - i.toNat) ⟨0, rfl, Nat.zero_le _, fun j hj => by omega⟩ (by simp; omega) ?_
    rintro _ ⟨k, rfl, hk, hf⟩
    rcases Nat.lt_or_ge k n with h | h
    · rw [hin k h]
      split
      · rename_i hp
        exact QiN (.inl ⟨k, h, hp, hf, rfl⟩)
      · rename_i hp
        refine Qhg ⟨⟨k + 1, by simp, by omega, fun j hj => ?_⟩, by simp; omega⟩
        rcases Nat.lt_or_eq_of_le (Nat.le_of_lt_succ hj) with hj | rfl
        · exact hf j hj
        · simpa using hp
    · obtain rfl : k = n := by omega
      rw [hend]
      exact QiN (.inr ⟨hf, rfl⟩)
  obtain ⟨e, he, h⟩ := main
  rcases h with ⟨k, h1, h2, h3, rfl⟩ | ⟨h1, rfl⟩
  · exact .inl ⟨k, h1, h2, h3, he⟩
  · exact .inr ⟨h1, he⟩
theorem Qo7 {n : Nat} (hn : n ≤ 1048576) (p : Nat → Bool) {y N : E} {b : Bool} (hb : b = true ↔ ∃ k, k < n ∧ p k = true)
    (hin : ∀ i : Nat, i < n → B (i : Int) = some (if p i = true then .inr y else .inl ((i : Int) + 1))) (hend : B (n : Int) = some (.inr N)) :
    loopF B 0 = some (if b = true then y else N) := by
  rcases Qo8 hn p (fun _ => y) hin hend with ⟨k, h1, h2, _, h4⟩ | ⟨h1, h4⟩
  · rw [h4, if_pos (hb.2 ⟨k, h1, h2⟩)]
  · rw [h4, if_neg fun h => by obtain ⟨k, h5, h6⟩ := hb.1 h; rw [h1 k h5] at h6; cases h6]
/-- A loop over the rows of a list. -/
theorem QjO {α : Type} {l : List α} (hl : l.length ≤ 1048576) (p : α → Bool) {y N : E}
    (hin : ∀ (i : Nat) a, l[i]? = some a → B (i : Int) = some (if p a = true then .inr y else .inl ((i : Int) + 1))) (hend : B (l.length : Int) = some (.inr N)) :
    loopF B 0 = some (if l.any p = true then y else N) := by
  refine Qo7 hl (fun i => match l[i]? with | some a => p a | none => false) ?_ (fun i hi => ?_) hend
  · rw [List.any_eq_true]
    constructor
    · rintro ⟨a, ha, hp⟩
      obtain ⟨k, hk, rfl⟩ := List.getElem_of_mem ha
      exact ⟨k, hk, by rw [List.getElem?_eq_getElem hk]; exact hp⟩
    · rintro ⟨k, hk, hp⟩
      rw [List.getElem?_eq_getElem hk] at hp
      exact ⟨_, List.getElem_mem hk, hp⟩
  · rw [List.getElem?_eq_getElem hi]
    exact hin i _ (List.getElem?_eq_getElem hi)
theorem QnY {α : Type} {l : List α} (hl : l.length ≤ 1048576) (p : α → Bool) (Y : Nat → E) {N : E}
    (hin : ∀ (i : Nat) a, l[i]? = some a → B (i : Int) = some (if p a = true then .inr (Y i) else .inl ((i : Int) + 1))) (hend : B (l.length : Int) = some (.inr N)) :
    loopF B 0 = some (match ixP p l with | some k => Y k | none => N) := by
  have h := Qo8 (B := B) hl (fun i => match l[i]? with | some a => p a | none => false) Y (N := N) (fun i hi => by
    rw [List.getElem?_eq_getElem hi]; exact hin i _ (List.getElem?_eq_getElem hi)) hend
  have at_ : ∀ j (hj : j < l.length), (match l[j]? with | some a => p a | none => false) = p l[j] := fun j hj => by rw [List.getElem?_eq_getElem hj]
  rcases h with ⟨k, h1, h2, h3, h4⟩ | ⟨h1, h4⟩
  · cases hx : ixP p l with
    | none => rw [at_ k h1, Qmz hx _ (List.getElem_mem h1)] at h2; cases h2
    | some m =>
      obtain ⟨g1, g2, g3⟩ := Qlc hx
      rcases Nat.lt_trichotomy k m with h | h | h
      · rw [at_ k h1, g3 k h] at h2; cases h2
      · rw [h4, h]
      · have := h3 m h; simp only [at_ m g1] at this; rw [g2] at this; cases this
  · cases hx : ixP p l with
    | none => rw [h4]
    | some m =>
      obtain ⟨g1, g2, g3⟩ := Qlc hx
      have := h1 m g1; simp only [at_ m g1] at this; rw [g2] at this; cases this
end
theorem wrapN {m : Nat} (h : m < 9223372036854775808) : IntKind.i64.wrap (m : Int) = m := IntWalk.i64_in _ ⟨by omega, by omega⟩
theorem shlN {i : Nat} (hi : i ≤ 62) : shlK .i64 1 (i : Int) = ((2 ^ i : Nat) : Int) := by
  have h2 : 2 ^ i ≤ 2 ^ 62 := Nat.pow_le_pow_right (by omega) hi
  unfold shlK
  rw [show min (i : Int).toNat IntKind.i64.bits = i by simp [IntKind.bits]; omega, Int.one_mul, show (2 : Int) ^ i = ((2 ^ i : Nat) : Int) by simp]
  exact wrapN (by omega)
theorem orN {a b : Nat} (ha : a < 9223372036854775808) (hb : b < 9223372036854775808) : orK .i64 (a : Int) (b : Int) = ((a ||| b : Nat) : Int) := by
  unfold orK
  have h := Nat.or_lt_two_pow (n := 63) ha hb
  have e : (BitVec.ofInt IntKind.i64.bits (a : Int) ||| BitVec.ofInt IntKind.i64.bits (b : Int)).toNat = a ||| b := by
    rw [BitVec.toNat_or]
    show (BitVec.ofInt 64 (a : Int)).toNat ||| (BitVec.ofInt 64 (b : Int)).toNat = _
    rw [BitVec.ofInt_natCast, BitVec.ofInt_natCast, BitVec.toNat_ofNat, BitVec.toNat_ofNat, Nat.mod_eq_of_lt (by omega), Nat.mod_eq_of_lt (by omega)]
  rw [e]
  exact wrapN (by omega)
theorem QoO {m i : Nat} : eqI (remK (((m / 2 ^ i : Nat) : Int)) 2) 1 = m.testBit i := by
  rw [Bool.eq_iff_iff, eqI_t, Nat.testBit_eq_decide_div_mod_eq, decide_eq_true_iff]
  unfold remK
  generalize m / 2 ^ i = q
  rw [Int.tmod_eq_emod_of_nonneg (by omega)]
  omega
/-- A bit that was not there is added. -/
theorem QoI {m i : Nat} (h : m.testBit i = false) (j : Nat) : (m + 2 ^ i).testBit j = (m.testBit j || decide (i = j)) := by
  rw [Nat.add_comm]
  rcases Nat.lt_trichotomy j i with hj | rfl | hj
  · rw [Nat.testBit_two_pow_add_gt hj, decide_eq_false (by omega), Bool.or_false]
  · rw [Nat.testBit_two_pow_add_eq, h]; simp
  · rw [decide_eq_false (by omega), Bool.or_false]
    have h0 : m / 2 ^ i % 2 = 0 := by
      rw [Nat.testBit_eq_decide_div_mod_eq, decide_eq_false_iff_not] at h
      omega
    have e1 : (2 ^ i + m) / 2 ^ (i + 1) = m / 2 ^ (i + 1) := by
      rw [Nat.pow_succ, ← Nat.div_div_eq_div_mul, ← Nat.div_div_eq_div_mul, Nat.add_div_left _ (Nat.two_pow_pos i)]
      omega
    rw [Nat.testBit_eq_decide_div_mod_eq, Nat.testBit_eq_decide_div_mod_eq]
    have hp : 2 ^ j = 2 ^ (i + 1) * 2 ^ (j - (i + 1)) := by rw [← Nat.pow_add]; congr 1; omega
    rw [hp, ← Nat.div_div_eq_div_mul, ← Nat.div_div_eq_div_mul, e1]
end Go.Proofs.YtoogjnlmicgfiaaGreatDoor
namespace Go.Proofs.YtoogjnlmicgfiaaGreatDoor
set_option linter.unusedSimpArgs false
set_option linter.unusedVariables false
set_option linter.unusedSectionVars false
theorem brs {α : Type} {b : Bool} {x y : α} : br b (some x) (some y) = some (if b = true then x else y) := by cases b <;> rfl
theorem Qg1 {α β : Type} {l : List α} {i : Nat} {a : α} (h : l[i]? = some a) (f : α → Option β) (z : Option β) : br (ltI (i : Int) (lenI l)) (bnd (getI l i) f) z = f a := by
  have := (List.getElem?_eq_some_iff.1 h).1
  rw [QgR (by simp [lenI]; omega), Qfa h, QbB]
theorem Qfb {α β : Type} {l : List α} {y z : Option β} : br (ltI (l.length : Int) (lenI l)) y z = z := QhS (by simp [lenI])
theorem incL {α : Type} {l : List α} {i : Nat} {a : α} (h : l[i]? = some a) (hl : l.length ≤ 1048576) : addK .i64 (i : Int) 1 = (i : Int) + 1 := inc (List.getElem?_eq_some_iff.1 h).1 hl
def isO (o : Int) (v : Qaa) : Bool := eqI v.order o
def hasO (l : List Qaa) (o : Int) : Bool := l.any (isO o)
instance (l : List Qaa) : Decidable l.Nodup := inferInstanceAs (Decidable (List.Nodup l))
end Go.Proofs.YtoogjnlmicgfiaaGreatDoor
namespace Go.Proofs.YtoogjnlmicgfiaaGreatDoor
set_option linter.unusedSimpArgs false
set_option linter.unusedVariables false
set_option linter.unusedSectionVars false
def sumF {α : Type} (f : α → Int) (l : List α) : Int := (l.map f).sum
theorem QoA {α : Type} {f : α → Int} {a b : List α} : sumF f (a ++ b) = sumF f a + sumF f b := by simp [sumF, List.sum_append]
theorem QoB {α : Type} {f : α → Int} {a : α} : sumF f [a] = f a := by simp [sumF]
theorem QiT {α : Type} {l : List α} {k : Nat} {a : α} (h : l[k]? = some a) : l.take (k + 1) = l.take k ++ [a] := by rw [List.take_add_one, h]; rfl
theorem QnG {α : Type} {f : α → Int} {l : List α} {k : Nat} {a : α} (h : l[k]? = some a) : sumF f (l.take (k + 1)) = sumF f (l.take k) + f a := by rw [QiT h, QoA, QoB]
theorem Qn0 {α : Type} {f : α → Int} : ∀ {l : List α}, (∀ a ∈ l, 0 ≤ f a ∧ f a ≤ 1000) → 0 ≤ sumF f l ∧ sumF f l ≤ 1000 * l.length
  | [], _ => by simp [sumF]
  | a :: l, h => by
    have h1 := Qn0 (f := f) (l := l) fun b hb => h b (List.mem_cons_of_mem _ hb)
    have h2 := h a (List.mem_cons_self ..)
    have e : sumF f (a :: l) = f a + sumF f l := by simp [sumF]
    rw [e, List.length_cons]
    omega
end Go.Proofs.YtoogjnlmicgfiaaGreatDoor
namespace Go.Proofs.YtoogjnlmicgfiaaGreatDoor
set_option linter.unusedSimpArgs false
set_option linter.unusedVariables false
set_option linter.unusedSectionVars false
section
variable {x : Qad} {l : List Qaa} {r : Qab} {s0 : Qag}
def bit1 (b : Bool) : Int := if b = true then 1 else 0
end
end Go.Proofs.YtoogjnlmicgfiaaGreatDoor
namespace Go.Proofs.YtoogjnlmicgfiaaGreatDoor
set_option linter.unusedSimpArgs false
set_option linter.unusedVariables false
set_option linter.unusedSectionVars false
section
variable {x : Qad} {l : List Qaa} {r : Qab}
theorem quoD {a b : Int} (ha : 0 ≤ a ∧ a ≤ 9223372036854775807) (hb : 0 < b) : quoK .i64 a b = a / b := by
  have e : a.tdiv b = a / b := Int.tdiv_eq_ediv_of_nonneg ha.1
  have h1 : 0 ≤ a / b := Int.ediv_nonneg ha.1 (by omega)
  have h2 : a / b ≤ a := Int.ediv_le_self b ha.1
  rw [quoI (by rw [e]; omega) (by rw [e]; omega), e]
end
end Go.Proofs.YtoogjnlmicgfiaaGreatDoor
namespace Go.Proofs.YtoogjnlmicgfiaaGreatDoor
set_option linter.unusedSimpArgs false
set_option linter.unusedVariables false
set_option linter.unusedSectionVars false
/-- A fold that may go out early. -/
def foldE {α S E : Type} (f : S → α → S ⊕ E) (N : S → E) : S → List α → E
  | s, [] => N s
  | s, a :: r => match f s a with
    | .inl s' => foldE f N s' r
    | .inr e => e
theorem Qlv {α S E : Type} {f : S → α → S ⊕ E} {N : S → E} {s s' : S} {a : α} {r : List α} (h : f s a = .inl s') : foldE f N s (a :: r) = foldE f N s' r := by rw [foldE, h]
theorem Qnl {α S E : Type} {f : S → α → S ⊕ E} {N : S → E} {s : S} {a : α} {r : List α} {e : E} (h : f s a = .inr e) : foldE f N s (a :: r) = e := by rw [foldE, h]
theorem QmI {α S E : Type} {l : List α} (hl : l.length ≤ 1048576) (f : S → α → S ⊕ E) (N : S → E) (Inv : Nat → S → Prop) {B : S × Int → Option ((S × Int) ⊕ E)}
    (hin : ∀ (s : S) (i : Nat) (a : α), l[i]? = some a → Inv i s → B (s, (i : Int)) = some (match f s a with | .inl s' => .inl (s', (i : Int) + 1) | .inr e => .inr e) ∧ ∀ s', f s a = .inl s' → Inv (i + 1) s')
    (hend : ∀ s, Inv l.length s → B (s, (l.length : Int)) = some (.inr (N s))) {s0 : S} (h0 : Inv 0 s0) : loopF B (s0, 0) = some (foldE f N s0 l) := by
  have main : ∀ (m : List α) (k : Nat) (s : S), l.drop k = m → k ≤ l.length → Inv k s → iterF B (m.length + 1) (s, (k : Int)) = some (foldE f N s m) := by
    intro m
    induction m with
    | nil =>
      intro k s hd hk hi
      have : k = l.length := by
        have := congrArg List.length hd
        rw [List.length_drop, List.length_nil] at this
        omega
      subst this
      simp only [List.length_nil, iterF]
      rw [hend s hi]
      rfl
    | cons a m ih =>
      intro k s hd hk hi
      have hk' : k < l.length := Nat.lt_of_not_le fun h => by rw [List.drop_eq_nil_of_le h] at hd; cases hd
      have hcons := List.drop_eq_getElem_cons hk'
      rw [hd] at hcons
      injection hcons with h1 h2
      have e : l[k]? = some a := by rw [List.getElem?_eq_getElem hk', ← h1]
      obtain ⟨g1, g2⟩ := hin s k a e hi
      rw [List.length_cons, iterF, g1]
      show _ = some (match f s a with | .inl s' => foldE f N s' m | .inr e => e)
      cases hf : f s a with
      | inl s' => exact ih (k + 1) s' h2.symm hk' (g2 s' hf)
      | inr e => rfl
  have := main l 0 s0 rfl (Nat.zero_le _) h0
  exact QmG (l.length + 1) (by unfold QlD; omega) this
end Go.Proofs.YtoogjnlmicgfiaaGreatDoor
namespace Go.Proofs.YtoogjnlmicgfiaaGreatDoor
set_option linter.unusedSimpArgs false
set_option linter.unusedVariables false
set_option linter.unusedSectionVars false
theorem QkG : Qb4 = some true := by kernel_rfl
section
variable {x : Qad} {r : Qab} {s : Qag} {now : Int}
theorem Qm3 {α : Type} {l : List α} {k : Nat} (h : k ≤ l.length) : slcI l 0 (k : Int) = some (l.take k) := by
  unfold slcI
  rw [if_pos ⟨by omega, by omega, by omega⟩]
  simp
end
end Go.Proofs.YtoogjnlmicgfiaaGreatDoor
namespace Go.Proofs.YtoogjnlmicgfiaaGreatDoor
set_option linter.unusedSimpArgs false
set_option linter.unusedVariables false
set_option linter.unusedSectionVars false
def QcP {α : Type} [DecidableEq α] (l first : List α) : Bool := decide (l.take first.length = first)
theorem Qm9 {α : Type} [DecidableEq α] {l first : List α} (hlen : first.length ≤ l.length) : (!QcP l first) = true ↔ ∃ k, k < first.length ∧ (match first[k]?, l[k]? with | some a, some b => !decide (a = b) | _, _ => false) = true := by
  unfold QcP
  rw [Bool.not_eq_true', decide_eq_false_iff_not]
  constructor
  · intro h
    refine Classical.byContradiction fun hn => h (List.ext_getElem? fun i => ?_)
    rcases Nat.lt_or_ge i first.length with hi | hi
    · rw [List.getElem?_take_of_lt hi]
      refine Classical.byContradiction fun hne => hn ⟨i, hi, ?_⟩
      rw [List.getElem?_eq_getElem hi, List.getElem?_eq_getElem (show i < l.length by omega)] at hne ⊢
      simp only [Bool.not_eq_true', decide_eq_false_iff_not]
      exact fun he => hne (by rw [he])
    · rw [List.getElem?_eq_none (by rw [List.length_take]; omega), List.getElem?_eq_none hi]
  · rintro ⟨k, hk, h⟩ he
    rw [List.getElem?_eq_getElem hk, List.getElem?_eq_getElem (show k < l.length by omega)] at h
    simp only [Bool.not_eq_true', decide_eq_false_iff_not] at h
    have e1 : (l.take first.length)[k]? = some (l[k]'(by omega)) := by rw [List.getElem?_take_of_lt hk, List.getElem?_eq_getElem]
    rw [he, List.getElem?_eq_getElem hk] at e1
    exact h (Option.some.inj e1)
theorem Qhv {α E : Type} [DecidableEq α] {l first : List α} {q : α → α → Bool} (hq : ∀ a b, q a b = true ↔ a = b) (hlen : first.length ≤ l.length) (hf : first.length ≤ 1048576) {B : Int → Option (Int ⊕ E)} {y N : E}
    (hin : ∀ (i : Nat) a b, first[i]? = some a → l[i]? = some b → B (i : Int) = br (q b a) (some (.inl ((i : Int) + 1))) (some (.inr y))) (hend : B (first.length : Int) = some (.inr N)) : loopF B 0 = some (if QcP l first = true then N else y) := by
  rw [Qo7 hf _ (b := !QcP l first) (Qm9 hlen) (fun i hi => ?_) hend]
  · cases QcP l first <;> rfl
  · have e1 : first[i]? = some first[i] := List.getElem?_eq_getElem hi
    have e2 : l[i]? = some (l[i]'(by omega)) := List.getElem?_eq_getElem _
    rw [hin i _ _ e1 e2, e1, e2]
    simp only
    have : q (l[i]'(by omega)) first[i] = decide (first[i] = l[i]'(by omega)) := by
      rw [Bool.eq_iff_iff, hq, decide_eq_true_iff]
      exact ⟨fun h => h.symm, fun h => h.symm⟩
    rw [this]
    by_cases hh : first[i] = l[i]'(by omega)
    · simp [hh]
    · simp [hh]
theorem Ql5 {α : Type} [DecidableEq α] {a b : List α} (h : a.length = b.length) : QcP a b = decide (a = b) := by
  unfold QcP
  rw [List.take_of_length_le (by omega)]
theorem Qhu {α : Type} [DecidableEq α] {l first : List α} (h : l.length < first.length) : QcP l first = false := by
  unfold QcP
  rw [decide_eq_false_iff_not]
  intro he
  have := congrArg List.length he
  rw [List.length_take] at this
  omega
def qV (a b : Qaa) : Bool := eqI a.order b.order && (eqB a.drop b.drop && true)
theorem qV_t (a b : Qaa) : qV a b = true ↔ a = b := by unfold qV; cases a; cases b; simp
theorem qB_t (a b : Bool) : eqB a b = true ↔ a = b := eqB_t
section
variable {x : Qad} {r b : Qab} {s : Qag} {now : Int}
/-- Does a route begin with a beginning? -/
def Qft (r b : Qab) : Bool := decide (r.type_ = b.type_ ∧ r.start = b.start) && (QcP r.visits b.visits && (QcP r.rests b.rests && (leI (lenI b.rests) (lenI b.visits) || (eqI (lenI r.visits) (lenI b.visits) && eqI (lenI r.rests) (lenI b.rests)))))
theorem QlP (hv : b.visits.length ≤ 1048576) (hr : b.rests.length ≤ 1048576) : QcI r b = some (Qft r b) := by
  unfold QcI Qft
  by_cases h1 : r.type_ = b.type_ ∧ r.start = b.start
  · by_cases h2 : b.visits.length ≤ r.visits.length
    · by_cases h3 : b.rests.length ≤ r.rests.length
      · rw [QhS (by simp [lenI]; omega), decide_eq_true h1, Bool.true_and]
        have l1 := Qhv (B := fun q => Qba r b q) qV_t h2 hv (y := (.inr false : Unit ⊕ Bool)) (N := .inl ()) (fun i a c e1 e2 => by
          show Qba r b i = _
          unfold Qba
          have := (List.getElem?_eq_some_iff.1 e1).1
          rw [QgR (by simp [lenI]; omega), Qfa e2, QbB, Qfa e1, QbB, incL e1 hv]
          rfl) (by
          show Qba r b b.visits.length = _
          unfold Qba
          rw [QhS (by simp [lenI])])
        have l2 := Qhv (B := fun q => QaZ r b q) qB_t h3 hr (y := (.inr false : Unit ⊕ Bool)) (N := .inl ()) (fun i a c e1 e2 => by
          show QaZ r b i = _
          unfold QaZ
          have := (List.getElem?_eq_some_iff.1 e1).1
          rw [QgR (by simp [lenI]; omega), Qfa e2, QbB, Qfa e1, QbB, incL e1 hr]) (by
          show QaZ r b b.rests.length = _
          unfold QaZ
          rw [QhS (by simp [lenI])])
        rw [QhR l1]
        cases QcP r.visits b.visits with
        | false => rfl
        | true =>
          rw [if_pos rfl, Qm2, QhR l2, Bool.true_and]
          cases QcP r.rests b.rests <;> rfl
      · rw [QgR (by simp [lenI]; omega), Qhu (l := r.rests) (by omega)]
        simp
    · rw [QgR (by simp [lenI]; omega), Qhu (l := r.visits) (by omega)]
      simp
  · rw [QgR (by simp; omega), decide_eq_false h1]
    rfl
end
end Go.Proofs.YtoogjnlmicgfiaaGreatDoor
namespace Go.Proofs.YtoogjnlmicgfiaaGreatDoor
set_option linter.unusedSimpArgs false
set_option linter.unusedVariables false
set_option linter.unusedSectionVars false
section
variable {x : Qad} {r b : Qab} {l : List Qab} {p : Qax}
theorem Qnj {a c : List Qaa} (h : a.length = c.length) (hl : c.length ≤ 1048576) : QaR a c = some (QcP c a) := by
  unfold QaR
  rw [QhS (by simp [lenI, h])]
  rw [QhR (Qhv (B := fun q => Qas a c q) (l := c) (first := a) (q := fun x y => qV y x) (fun x y => by rw [qV_t]; exact ⟨fun h => h.symm, fun h => h.symm⟩) (by omega) (by omega) (y := (.inr false : Unit ⊕ Bool)) (N := .inl ()) (fun i u v e1 e2 => by
    show Qas a c i = _
    unfold Qas
    rw [Qg1 e1, Qfa e2, QbB, incL e1 (by omega)]
    rfl) (by
    show Qas a c a.length = _
    unfold Qas
    rw [Qfb]))]
  cases QcP c a <;> rfl
theorem Qni {a c : List Bool} (h : a.length = c.length) (hl : c.length ≤ 1048576) : QbJ a c = some (QcP c a) := by
  unfold QbJ
  rw [QhS (by simp [lenI, h])]
  rw [QhR (Qhv (B := fun q => QaC a c q) (l := c) (first := a) (q := fun x y => eqB y x) (fun x y => by rw [qB_t]; exact ⟨fun h => h.symm, fun h => h.symm⟩) (by omega) (by omega) (y := (.inr false : Unit ⊕ Bool)) (N := .inl ()) (fun i u v e1 e2 => by
    show QaC a c i = _
    unfold QaC
    rw [Qg1 e1, Qfa e2, QbB, incL e1 (by omega)]) (by
    show QaC a c a.length = _
    unfold QaC
    rw [Qfb]))]
  cases QcP c a <;> rfl
theorem Qkh {α : Type} [DecidableEq α] {l first : List α} (h : first.length ≤ l.length) : QcP first (l.take first.length) = QcP l first := by
  rw [Ql5 (by rw [List.length_take]; omega)]
  unfold QcP
  rw [Bool.eq_iff_iff, decide_eq_true_iff, decide_eq_true_iff]
  exact ⟨fun h => h.symm, fun h => h.symm⟩
theorem Qm8 {l first : List Qaa} (hf : first.length ≤ 1048576) : QbN l first = some (QcP l first) := by
  unfold QbN
  by_cases h : first.length ≤ l.length
  · rw [QgR (by simp [lenI]; omega), show slcI l 0 (lenI first) = _ from Qm3 h, QbB, Qnj (by rw [List.length_take]; omega) hf, QbB, Qkh h]
  · rw [QhS (by simp [lenI]; omega), Qhu (by omega)]
theorem Ql4 {l first : List Bool} (hf : first.length ≤ 1048576) : Qct l first = some (QcP l first) := by
  unfold Qct
  by_cases h : first.length ≤ l.length
  · rw [QgR (by simp [lenI]; omega), show slcI l 0 (lenI first) = _ from Qm3 h, QbB, Qni (by rw [List.length_take]; omega) hf, QbB, Qkh h]
  · rw [QhS (by simp [lenI]; omega), Qhu (by omega)]
theorem QlQ (hv : b.visits.length ≤ 1048576) (hr : b.rests.length ≤ 1048576) : Qd5 r b = some (Qft r b) := by
  unfold Qd5 Qft
  rw [Qm8 hv, QbB, Ql4 hr, QbB]
  have hq : (!gtI (lenI b.rests) (lenI b.visits)) = leI (lenI b.rests) (lenI b.visits) := by rw [Bool.eq_iff_iff]; simp
  rw [hq]
  by_cases h1 : r.type_ = b.type_ ∧ r.start = b.start
  · rw [QhS (by simp; exact h1), decide_eq_true h1]
    cases QcP r.visits b.visits <;> cases QcP r.rests b.rests <;> rfl
  · rw [QgR (by simp; omega), decide_eq_false h1]
    rfl
def meetB (a b : Qab) : Bool := a.visits.any fun v => b.visits.any fun w => eqI v.order w.order
theorem Qo2 (ha : r.visits.length ≤ 1048576) (hb : b.visits.length ≤ 1048576) : Qf4 r b = some (meetB r b) := by
  have in1 : ∀ v, Qd6 v b = some (b.visits.any fun w => eqI v.order w.order) := fun v => by
    have := QnY hb (fun w : Qaa => eqI v.order w.order) (fun k => (.inr (k : Int) : Unit ⊕ Int)) (N := .inl ()) (B := fun s => Qaj b.visits v s) (fun i a h => by
      show Qaj b.visits v i = _
      unfold Qaj QdW
      rw [Qg1 h, QbB, incL h hb, brs]) (by
      show Qaj b.visits v b.visits.length = _
      unfold Qaj
      rw [Qfb])
    have e : Qay b.visits v = some (ixI (fun w : Qaa => eqI v.order w.order) b.visits) := by
      unfold Qay
      rw [QhR this]
      unfold ixI
      cases ixP (fun w : Qaa => eqI v.order w.order) b.visits <;> rfl
    unfold Qd6 QaD
    rw [e, QbB, QbB, QnM]
  have := QnY ha (fun v : Qaa => b.visits.any fun w => eqI v.order w.order) (fun k => (.inr (k : Int) : Unit ⊕ Int)) (N := .inl ()) (B := fun s => Qao r.visits b s) (fun i a h => by
    show Qao r.visits b i = _
    unfold Qao
    rw [Qg1 h, in1, QbB, incL h ha, brs]) (by
    show Qao r.visits b r.visits.length = _
    unfold Qao
    rw [Qfb])
  have e : Qaz r.visits b = some (ixI (fun v : Qaa => b.visits.any fun w => eqI v.order w.order) r.visits) := by
    unfold Qaz
    rw [QhR this]
    unfold ixI
    cases ixP (fun v : Qaa => b.visits.any fun w => eqI v.order w.order) r.visits <;> rfl
  unfold Qf4 QaH
  rw [e, QbB, QbB, QnM]
  rfl
theorem Ql6 (ha : r.visits.length ≤ 1048576) (hb : b.visits.length ≤ 1048576) : QcJ r b = some (meetB r b) := by
  unfold QcJ
  rw [QhR (QjO (B := fun s => Qbb r b s) ha (fun v : Qaa => b.visits.any fun w => eqI v.order w.order) (y := (.inr true : Unit ⊕ Bool)) (N := .inl ()) (fun i v h => by
    have hi := (List.getElem?_eq_some_iff.1 h).1
    show Qbb r b i = _
    unfold Qbb
    rw [QgR (by simp [lenI]; omega)]
    rw [QhR (QjO (B := fun s => Qbc r b (i : Int) s) hb (fun w : Qaa => eqI v.order w.order) (y := (.inr true : Unit ⊕ Bool)) (N := .inl ()) (fun k w hk => by
      show Qbc r b (i : Int) k = _
      unfold Qbc
      have hk' := (List.getElem?_eq_some_iff.1 hk).1
      rw [QgR (by simp [lenI]; omega), Qfa h, QbB, Qfa hk, QbB, incL hk hb, brs]) (by
      show Qbc r b (i : Int) b.visits.length = _
      unfold Qbc
      rw [QhS (by simp [lenI])]))]
    rw [incL h ha]
    generalize (b.visits.any fun w => eqI v.order w.order) = q
    cases q <;> rfl) (by
    show Qbb r b r.visits.length = _
    unfold Qbb
    rw [QhS (by simp [lenI])]))]
  unfold meetB
  generalize (r.visits.any fun v => b.visits.any fun w => eqI v.order w.order) = q
  cases q <;> rfl
/-- Of the routes: how many begin so, and whether another one meets the beginning. -/
def cntB (l : List Qab) (b : Qab) : Int := sumF (fun r => if Qft r b = true then 1 else 0) l
def othB (l : List Qab) (b : Qab) : Bool := l.any fun r => !Qft r b && meetB r b
theorem QoQ : 0 ≤ cntB l b ∧ cntB l b ≤ 1000 * l.length := Qn0 fun a _ => by split <;> omega
def keepB (p : Qax) (b : Qab) : Bool := eqI (cntB p.routes b) 1 && !othB p.routes b
def keepF (b : Qab) (n : Int) (r : Qab) : Int ⊕ (Int ⊕ Int) := if Qft r b = true then .inl (n + 1) else if meetB r b = true then .inr (.inr 31) else .inl n
theorem Qn4 (hp : p.routes.length ≤ 1048576) (hpr : ∀ r ∈ p.routes, r.visits.length ≤ 1048576) (hl : l.length ≤ 1048576) (hlb : ∀ b ∈ l, b.visits.length ≤ 1048576 ∧ b.rests.length ≤ 1048576) :
    Qdq p l = some (if l.any (fun b => !keepB p b) = true then 31 else 0) := by
  unfold Qdq
  rw [QhR (QjO (B := fun s => QbY p l s) hl (fun b => !keepB p b) (y := (.inr 31 : Unit ⊕ Int)) (N := .inl ()) (fun i b hb => by
    obtain ⟨b1, b2⟩ := hlb b (List.mem_of_getElem? hb)
    show QbY p l i = _
    unfold QbY
    rw [Qg1 hb]
    have inner : loopF (fun s : Int × Int => QbZ p l (i : Int) b s.1 s.2) (0, 0) = some (foldE (keepF b) (fun n => (.inl n : Int ⊕ Int)) 0 p.routes) :=
      QmI hp (keepF b) (fun n => .inl n) (fun i n => 0 ≤ n ∧ n ≤ i) (fun n k r e hn => ⟨by
        show QbZ p l (i : Int) b n (k : Int) = _
        have hk := (List.getElem?_eq_some_iff.1 e).1
        unfold QbZ
        rw [Qg1 e, QlQ b1 b2, QbB, incL e hp, addI (by omega) (by omega), Qo2 (hpr r (List.mem_of_getElem? e)) b1, QbB]
        unfold keepF
        cases Qft r b <;> cases meetB r b <;> rfl, fun s' hs => by
        unfold keepF at hs
        split at hs
        · cases hs; omega
        · split at hs
          · cases hs
          · cases hs; omega⟩) (fun n _ => by
        show QbZ p l (i : Int) b n (p.routes.length : Int) = _
        unfold QbZ
        rw [Qfb]) (by omega)
    have val : ∀ (rs : List Qab) (n : Int), foldE (keepF b) (fun n => (.inl n : Int ⊕ Int)) n rs = if othB rs b = true then .inr 31 else .inl (n + cntB rs b) := by
      intro rs
      induction rs with
      | nil => intro n; show Sum.inl n = _; rw [if_neg (by simp [othB])]; simp [cntB, sumF]
      | cons r rs ih =>
        intro n
        have e1 : othB (r :: rs) b = (!Qft r b && meetB r b || othB rs b) := by simp [othB]
        have e2 : cntB (r :: rs) b = (if Qft r b = true then 1 else 0) + cntB rs b := by simp [cntB, sumF]
        rw [e1, e2]
        cases hbg : Qft r b with
        | true =>
          rw [Qlv (s' := n + 1) (by unfold keepF; simp [hbg]), ih]
          simp only [Bool.not_true, Bool.false_and, Bool.false_or, if_true]
          rw [show n + 1 + cntB rs b = n + (1 + cntB rs b) by omega]
        | false =>
          cases hm : meetB r b with
          | true => rw [Qnl (e := .inr 31) (by unfold keepF; simp [hbg, hm])]; simp
          | false => rw [Qlv (s' := n) (by unfold keepF; simp [hbg, hm]), ih]; simp
    rw [QhR inner, val, incL hb hl]
    have hK : keepB p b = (eqI (cntB p.routes b) 1 && !othB p.routes b) := rfl
    generalize keepB p b = K at hK ⊢
    rw [hK]
    cases othB p.routes b with
    | true => rw [if_pos rfl, QnZ]; simp
    | false =>
      rw [if_neg (by decide), Qm2, Int.zero_add, br_if]
      by_cases h1 : cntB p.routes b = 1
      · simp [h1]
      · simp [h1]) (by
    show QbY p l l.length = _
    unfold QbY
    rw [Qfb]))]
  cases l.any (fun b => !keepB p b) <;> rfl
theorem Qma (hp : p.routes.length ≤ 1048576) (hpr : ∀ r ∈ p.routes, r.visits.length ≤ 1048576) (hl : l.length ≤ 1048576) (hlb : ∀ b ∈ l, b.visits.length ≤ 1048576 ∧ b.rests.length ≤ 1048576) :
    QcX p l = some (if l.any (fun b => !keepB p b) = true then 31 else 0) := by
  unfold QcX
  rw [QhR (QjO (B := fun s => Qbj p l s) hl (fun b => !keepB p b) (y := (.inr 31 : Unit ⊕ Int)) (N := .inl ()) (fun i b hb => by
    obtain ⟨b1, b2⟩ := hlb b (List.mem_of_getElem? hb)
    have hi := (List.getElem?_eq_some_iff.1 hb).1
    show Qbj p l i = _
    unfold Qbj
    rw [QgR (by simp [lenI]; omega)]
    have inner : loopF (fun s : Int × Bool × Int => Qa8 p l (i : Int) s.1 s.2.1 s.2.2) (0, false, 0) = some (cntB p.routes b, othB p.routes b) := by
      have := Qld p.routes.length (fun k => (cntB (p.routes.take k) b, othB (p.routes.take k) b, (k : Int))) (B := fun s : Int × Bool × Int => Qa8 p l (i : Int) s.1 s.2.1 s.2.2) (e := (cntB p.routes b, othB p.routes b)) (by omega) (fun k hk => by
        have e : p.routes[k]? = some p.routes[k] := List.getElem?_eq_getElem hk
        generalize p.routes[k] = r at e
        show Qa8 p l (i : Int) (cntB (p.routes.take k) b) (othB (p.routes.take k) b) (k : Int) = some (Sum.inl (cntB (p.routes.take (k + 1)) b, othB (p.routes.take (k + 1)) b, ((k + 1 : Nat) : Int)))
        have hc := QoQ (l := p.routes.take k) (b := b)
        have hlen : (p.routes.take k).length ≤ 1048576 := by rw [List.length_take]; omega
        have e1 : cntB (p.routes.take (k + 1)) b = cntB (p.routes.take k) b + (if Qft r b = true then 1 else 0) := QnG e
        have e2 : othB (p.routes.take (k + 1)) b = (othB (p.routes.take k) b || (!Qft r b && meetB r b)) := by rw [QiT e]; simp [othB]
        unfold Qa8
        rw [Qg1 e, Qfa hb, QbB, QlP b1 b2, QbB, incL e hp, addI (by omega) (by omega), Ql6 (hpr r (List.mem_of_getElem? e)) b1, QbB, e1, e2]
        cases Qft r b <;> cases othB (p.routes.take k) b <;> cases meetB r b <;> simp) (by
        show Qa8 p l (i : Int) (cntB (p.routes.take p.routes.length) b) (othB (p.routes.take p.routes.length) b) (p.routes.length : Int) = _
        unfold Qa8
        rw [Qfb, List.take_length])
      exact this
    rw [QhR inner, incL hb hl]
    have hK : keepB p b = (eqI (cntB p.routes b) 1 && !othB p.routes b) := rfl
    generalize keepB p b = K at hK ⊢
    dsimp only
    rw [hK, br_if]
    by_cases h1 : cntB p.routes b = 1
    · cases othB p.routes b <;> simp [h1]
    · simp [h1]) (by
    show Qbj p l l.length = _
    unfold Qbj
    rw [QhS (by simp [lenI])]))]
  cases l.any (fun b => !keepB p b) <;> rfl
def begB (l : List Qab) (i : Nat) : Bool := decide (i ≤ 62) && l.any fun r => hasO r.visits (i : Int)
theorem lt63 {m : Nat} {f : Nat → Bool} (hb : ∀ i, m.testBit i = (decide (i ≤ 62) && f i)) : m < 9223372036854775808 := by
  refine Nat.lt_pow_two_of_testBit (n := 63) _ fun i hi => ?_
  rw [hb, decide_eq_false (by omega)]
  rfl
/-- One more list of visits. -/
theorem Qn9 {l : List Qab} {v : Int} {r : Qab} (hr : r.visits.length ≤ 1048576) {m : Nat} {f : Nat → Bool} (hm : ∀ i, m.testBit i = (decide (i ≤ 62) && f i)) :
    post (loopF (fun s : Int × Int => Qcy l v r s.1 s.2) ((m : Int), 0)) fun s => ∃ m' : Nat, s = m' ∧ ∀ i, m'.testBit i = (decide (i ≤ 62) && (f i || hasO r.visits (i : Int))) := by
  refine Qip (fun s => ∃ (k m' : Nat), s = ((m' : Int), (k : Int)) ∧ k ≤ r.visits.length ∧ ∀ i, m'.testBit i = (decide (i ≤ 62) && (f i || hasO (r.visits.take k) (i : Int)))) (fun s => r.visits.length - s.2.toNat) ⟨0, m, rfl, Nat.zero_le _, fun i => by rw [hm]; simp [hasO]⟩ (by simp; omega) ?_
  rintro _ ⟨k, m', rfl, hk, hb⟩
  show post (Qcy l v r (m' : Int) (k : Int)) _
  have hm63 := lt63 hb
  unfold Qcy
  rcases Nat.lt_or_ge k r.visits.length with h | h
  · have e : r.visits[k]? = some r.visits[k] := List.getElem?_eq_getElem h
    generalize r.visits[k] = w at e
    have hov : ∀ i : Nat, hasO (r.visits.take (k + 1)) (i : Int) = (hasO (r.visits.take k) (i : Int) || decide (w.order = (i : Int))) := fun i => by
      rw [QiT e]
      unfold hasO
      rw [List.any_append, List.any_cons, List.any_nil, Bool.or_false]
      congr 1
    rw [Qg1 e, incL e hr]
    refine Qke (fun hc => ?_) (fun hc => Qhg ⟨⟨k + 1, m', rfl, h, fun i => ?_⟩, by simp; omega⟩)
    · simp only [Bool.and_eq_true, geI_t, leI_t] at hc
      obtain ⟨o, ho⟩ : ∃ o : Nat, w.order = o := ⟨w.order.toNat, by omega⟩
      have hp : 2 ^ o ≤ 2 ^ 62 := Nat.pow_le_pow_right (by omega) (by omega)
      rw [ho, QoP (by omega), shlN (by omega), orN hm63 (by omega)]
      refine Qhg ⟨⟨k + 1, m' ||| 2 ^ o, rfl, h, fun i => ?_⟩, by simp; omega⟩
      rw [Nat.testBit_or, Nat.testBit_two_pow, hb, hov, ho]
      by_cases hi : o = i
      · subst hi; simp; omega
      · rw [decide_eq_false hi, decide_eq_false (show ¬ ((o : Int) = (i : Int)) by omega), Bool.or_false, Bool.or_false]
    · rw [hb, hov]
      by_cases hi : i ≤ 62
      · have : ¬ w.order = (i : Int) := fun he => by
          rw [he] at hc
          simp only [Bool.and_eq_false_iff, geI_f, leI_f] at hc
          omega
        rw [decide_eq_false this, Bool.or_false]
      · rw [decide_eq_false hi]; rfl
  · obtain rfl : k = r.visits.length := by omega
    rw [Qfb]
    exact QiN ⟨m', rfl, fun i => by rw [hb, List.take_length]⟩
theorem Ql9 (hl : l.length ≤ 1048576) (hr : ∀ r ∈ l, r.visits.length ≤ 1048576) : post (QdN l) fun s => ∃ m : Nat, s = m ∧ ∀ i, m.testBit i = begB l i := by
  unfold QdN
  refine QiM (R := fun s => ∃ m : Nat, s = m ∧ ∀ i, m.testBit i = begB l i) ?_ fun s h => QfD.2 h
  refine Qip (fun s => ∃ (k m : Nat), s = ((m : Int), (k : Int)) ∧ k ≤ l.length ∧ ∀ i, m.testBit i = begB (l.take k) i) (fun s => l.length - s.2.toNat) ⟨0, 0, rfl, Nat.zero_le _, fun i => by simp [begB]⟩ (by simp; omega) ?_
  rintro _ ⟨k, m, rfl, hk, hb⟩
  show post (QcM l (m : Int) (k : Int)) _
  unfold QcM
  rcases Nat.lt_or_ge k l.length with h | h
  · have e : l[k]? = some l[k] := List.getElem?_eq_getElem h
    have hm := List.getElem_mem h
    generalize l[k] = r at e hm
    rw [Qg1 e, incL e hl]
    refine QiM (Qn9 (hr r hm) (f := fun i => (l.take k).any fun r => hasO r.visits (i : Int)) hb) fun s ⟨m', hs, hb'⟩ => Qhg ⟨⟨k + 1, m', by rw [hs]; rfl, h, fun i => ?_⟩, by simp; omega⟩
    rw [hb', QiT e]
    unfold begB
    rw [List.any_append, List.any_cons, List.any_nil, Bool.or_false]
  · obtain rfl : k = l.length := by omega
    rw [Qfb]
    exact QiN ⟨m, rfl, fun i => by rw [hb, List.take_length]⟩
theorem Qoi {m : Nat} (hm : m < 9223372036854775808) {i : Nat} (hi : i ≤ 62) : QdC (m : Int) (i : Int) = some (m.testBit i) := by
  unfold QdC
  have this : loopF (fun s : Int × Int => Qbv (i : Int) s.1 s.2) ((m : Int), 0) = some (((m / 2 ^ i : Nat) : Int)) := by
    have := Qld i (fun k => (((m / 2 ^ k : Nat) : Int), (k : Int))) (B := fun s : Int × Int => Qbv (i : Int) s.1 s.2) (e := ((m / 2 ^ i : Nat) : Int)) (by omega) (fun k hk => by
      show Qbv (i : Int) ((m / 2 ^ k : Nat) : Int) (k : Int) = some (Sum.inl (((m / 2 ^ (k + 1) : Nat) : Int), ((k + 1 : Nat) : Int)))
      unfold Qbv
      have hd := Nat.div_le_self m (2 ^ k)
      have e : m / 2 ^ (k + 1) = m / 2 ^ k / 2 := by rw [Nat.pow_succ, Nat.div_div_eq_div_mul]
      rw [QgR (by simp; omega), addI (by omega) (by omega), e]
      generalize m / 2 ^ k = q at *
      rw [quoD (by omega) (by omega)]
      congr 2) (by
      show Qbv (i : Int) ((m / 2 ^ i : Nat) : Int) (i : Int) = _
      unfold Qbv
      rw [QhS (by simp)])
    simpa using this
  rw [QhR this, QoO]
theorem Qoa {l : List Qab} {i : Int} {s : Int} {k : Int} {w : Qaa} {o : Nat} (ho : w.order = o) (h : o ≤ 62) : loopF (fun q : Int × Int => Qa7 l i s k w q.1 q.2) (1, 0) = some (((2 ^ o : Nat) : Int)) := by
  have := Qld o (fun j => (((2 ^ j : Nat) : Int), (j : Int))) (B := fun q : Int × Int => Qa7 l i s k w q.1 q.2) (e := ((2 ^ o : Nat) : Int)) (by omega) (fun j hj => by
    show Qa7 l i s k w ((2 ^ j : Nat) : Int) (j : Int) = some (Sum.inl (((2 ^ (j + 1) : Nat) : Int), ((j + 1 : Nat) : Int)))
    unfold Qa7
    have hp : 2 ^ j ≤ 2 ^ 61 := Nat.pow_le_pow_right (by omega) (by omega)
    have e : 2 ^ (j + 1) = 2 ^ j * 2 := Nat.pow_succ ..
    rw [QgR (by simp; omega), addI (by omega) (by omega), e]
    generalize 2 ^ j = q at *
    rw [mulI (by omega) (by omega)]
    congr 3
    omega) (by
    show Qa7 l i s k w ((2 ^ o : Nat) : Int) (o : Int) = _
    unfold Qa7
    rw [QhS (by simp; omega)])
  exact this
theorem Qmd {i : Nat} {r : Qab} (e0 : l[i]? = some r) (hr : r.visits.length ≤ 1048576) {m : Nat} {f : Nat → Bool} (hm : ∀ i, m.testBit i = (decide (i ≤ 62) && f i)) :
    post (loopF (fun s : Int × Int => QbO l (i : Int) s.1 s.2) ((m : Int), 0)) fun s => ∃ m' : Nat, s = m' ∧ ∀ i, m'.testBit i = (decide (i ≤ 62) && (f i || hasO r.visits (i : Int))) := by
  refine Qip (fun s => ∃ (k m' : Nat), s = ((m' : Int), (k : Int)) ∧ k ≤ r.visits.length ∧ ∀ i, m'.testBit i = (decide (i ≤ 62) && (f i || hasO (r.visits.take k) (i : Int)))) (fun s => r.visits.length - s.2.toNat) ⟨0, m, rfl, Nat.zero_le _, fun i => by rw [hm]; simp [hasO]⟩ (by simp; omega) ?_
  rintro _ ⟨k, m', rfl, hk, hb⟩
  show post (QbO l (i : Int) (m' : Int) (k : Int)) _
  have hm63 := lt63 hb
  unfold QbO
  rw [Qfa e0, QbB]
  rcases Nat.lt_or_ge k r.visits.length with h | h
  · have e : r.visits[k]? = some r.visits[k] := List.getElem?_eq_getElem h
    generalize r.visits[k] = w at e
    have hov : ∀ i : Nat, hasO (r.visits.take (k + 1)) (i : Int) = (hasO (r.visits.take k) (i : Int) || decide (w.order = (i : Int))) := fun i => by
      rw [QiT e]
      unfold hasO
      rw [List.any_append, List.any_cons, List.any_nil, Bool.or_false]
      congr 1
    rw [Qg1 e, incL e hr]
    refine Qke (fun hc => Qhg ⟨⟨k + 1, m', rfl, h, fun i => ?_⟩, by simp; omega⟩) (fun hc => ?_)
    · rw [hb, hov]
      by_cases hi : i ≤ 62
      · have : ¬ w.order = (i : Int) := fun he => by
          rw [he] at hc
          simp only [Bool.or_eq_true, ltI_t, gtI_t] at hc
          omega
        rw [decide_eq_false this, Bool.or_false]
      · rw [decide_eq_false hi]; rfl
    · simp only [Bool.or_eq_false_iff, ltI_f, gtI_f] at hc
      obtain ⟨o, ho⟩ : ∃ o : Nat, w.order = o := ⟨w.order.toNat, by omega⟩
      have hp : 2 ^ o ≤ 2 ^ 62 := Nat.pow_le_pow_right (by omega) (by omega)
      rw [ho, Qoi hm63 (by omega), QbB]
      refine Qke (fun hbit => Qhg ⟨⟨k + 1, m', rfl, h, fun i => ?_⟩, by simp; omega⟩) (fun hbit => ?_)
      · rw [hov, ho]
        by_cases hi : o = i
        · subst hi
          have h1 := hb o
          rw [hbit] at h1
          rw [hbit, decide_eq_true (show o ≤ 62 by omega)]
          simp
        · rw [hb, decide_eq_false (show ¬ ((o : Int) = (i : Int)) by omega), Bool.or_false]
      · have hbits : ∀ i, (m' + 2 ^ o).testBit i = (decide (i ≤ 62) && (f i || hasO (r.visits.take (k + 1)) (i : Int))) := fun i => by
          rw [QoI hbit, hb, hov, ho]
          by_cases hi : o = i
          · subst hi; simp; omega
          · rw [decide_eq_false hi, decide_eq_false (show ¬ ((o : Int) = (i : Int)) by omega), Bool.or_false, Bool.or_false]
        have hlt := lt63 hbits
        rw [QhR (Qoa ho (by omega))]
        refine Qhg ⟨⟨k + 1, m' + 2 ^ o, ?_, h, hbits⟩, by simp; omega⟩
        have ec : ((m' + 2 ^ o : Nat) : Int) = (m' : Int) + ((2 ^ o : Nat) : Int) := by simp
        have h0 : (0 : Int) ≤ ((2 ^ o : Nat) : Int) := Int.natCast_nonneg _
        have h1 : ((m' + 2 ^ o : Nat) : Int) ≤ 9223372036854775807 := by omega
        rw [addI (by omega) (by omega), ec]
        rfl
  · obtain rfl : k = r.visits.length := by omega
    rw [Qfb]
    exact QiN ⟨m', rfl, fun i => by rw [hb, List.take_length]⟩
theorem Qk3 (hl : l.length ≤ 1048576) (hr : ∀ r ∈ l, r.visits.length ≤ 1048576) : post (QcW l) fun s => ∃ m : Nat, s = m ∧ ∀ i, m.testBit i = begB l i := by
  unfold QcW
  refine QiM (R := fun s => ∃ m : Nat, s = m ∧ ∀ i, m.testBit i = begB l i) ?_ fun s h => QfD.2 h
  refine Qip (fun s => ∃ (k m : Nat), s = ((m : Int), (k : Int)) ∧ k ≤ l.length ∧ ∀ i, m.testBit i = begB (l.take k) i) (fun s => l.length - s.2.toNat) ⟨0, 0, rfl, Nat.zero_le _, fun i => by simp [begB]⟩ (by simp; omega) ?_
  rintro _ ⟨k, m, rfl, hk, hb⟩
  show post (Qb5 l (m : Int) (k : Int)) _
  unfold Qb5
  rcases Nat.lt_or_ge k l.length with h | h
  · have e : l[k]? = some l[k] := List.getElem?_eq_getElem h
    have hm := List.getElem_mem h
    generalize l[k] = r at e hm
    rw [QgR (by simp [lenI]; omega), inc h hl]
    refine QiM (Qmd e (hr r hm) (f := fun i => (l.take k).any fun r => hasO r.visits (i : Int)) hb) fun s ⟨m', hs, hb'⟩ => Qhg ⟨⟨k + 1, m', by rw [hs]; rfl, h, fun i => ?_⟩, by simp; omega⟩
    rw [hb', QiT e]
    unfold begB
    rw [List.any_append, List.any_cons, List.any_nil, Bool.or_false]
  · obtain rfl : k = l.length := by omega
    rw [QhS (by simp [lenI])]
    exact QiN ⟨m, rfl, fun i => by rw [hb, List.take_length]⟩
theorem QkU {l : List Qab} : post (QcC l) fun ok => ok = true → l.length ≤ 10 ∧ ∀ r ∈ l, r.visits.length ≤ 20 ∧ r.rests.length ≤ 20 := by
  unfold QcC
  refine Qke (fun _ => QfD.2 fun h => by cases h) (fun h6 => ?_)
  have hl : l.length ≤ 10 := by simp only [gtI_f, lenI] at h6; omega
  rw [QhR (QjO (B := fun s => Qbh l s) (l := l) (by omega) (fun r => gtI (lenI r.visits) 20 || gtI (lenI r.rests) 20) (y := (.inr false : Unit ⊕ Bool)) (N := .inl ()) (fun i a h => by
    show Qbh l i = _
    unfold Qbh
    rw [Qg1 h, incL h (by omega), brs]) (by
    show Qbh l l.length = _
    unfold Qbh
    rw [Qfb]))]
  by_cases hs : l.any (fun r => gtI (lenI r.visits) 20 || gtI (lenI r.rests) 20) = true
  · rw [if_pos hs, QnZ]; exact QfD.2 fun h => by cases h
  · rw [if_neg hs, Qm2]
    refine QfD.2 fun _ => ⟨hl, fun r hr => ?_⟩
    have := List.any_eq_false.1 (by simpa using hs : l.any (fun r => gtI (lenI r.visits) 20 || gtI (lenI r.rests) 20) = false) r hr
    simp only [Bool.or_eq_true, gtI_t, lenI, not_or] at this
    omega
theorem Qi6 (p : Qax) (l : List Qab) : Qcw p l = some true := by
  apply post.eq
  unfold Qcw
  rw [QkG]
  refine QiM QkU fun ok1 h1 => Qke (fun c1 => ?_) (fun _ => QfD.2 rfl)
  refine QiM QkU fun ok2 h2 => Qke (fun c2 => ?_) (fun _ => QfD.2 rfl)
  obtain ⟨a1, a2⟩ := h1 c1
  obtain ⟨b1, b2⟩ := h2 c2
  have hp : p.routes.length ≤ 1048576 := by omega
  have hl : l.length ≤ 1048576 := by omega
  have hpr : ∀ r ∈ p.routes, r.visits.length ≤ 1048576 := fun r hr => by have := a2 r hr; omega
  have hlr : ∀ b ∈ l, b.visits.length ≤ 1048576 ∧ b.rests.length ≤ 1048576 := fun b hb => by have := b2 b hb; omega
  rw [Qn4 hp hpr hl hlr, QbB, Qma hp hpr hl hlr, QbB, QgR (by simp)]
  obtain ⟨s, hs, m, rfl, hm⟩ := Ql9 hl fun r hr => (hlr r hr).1
  obtain ⟨s', hs', m', rfl, hm'⟩ := Qk3 hl fun r hr => (hlr r hr).1
  have : m = m' := Nat.eq_of_testBit_eq fun i => by rw [hm, hm']
  rw [hs, QbB, hs', QbB, this, QgR (by simp), QbB]
  exact QfD.2 rfl
end
end Go.Proofs.YtoogjnlmicgfiaaGreatDoor
