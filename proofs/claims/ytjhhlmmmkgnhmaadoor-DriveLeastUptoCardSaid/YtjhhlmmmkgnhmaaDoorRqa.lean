/- Plain: travel functions: what is right, and that both checks say so. -/
import Derived.Test.YtjhhlmmmkgnhmaaDoorRd
import Derived.KernelRfl
namespace Go.Proofs.YtjhhlmmmkgnhmaaDoor
set_option linter.unusedSimpArgs false
set_option linter.unusedVariables false
set_option linter.unusedSectionVars false

/-! ### Loops that list faults -/
section
variable {α : Type}
theorem post_lister {B : List α × Int → Option ((List α × Int) ⊕ (List α))} (n c : Nat) (P : Nat → Prop) (init : List α) (hn : n < 18446744073709551615)
    (step : ∀ (i : Nat) (out : List α), i < n → out.length ≤ init.length + c * i → post (B (out, (i : Int))) fun x => ∃ new, x = .inl (out ++ new, (i : Int) + 1) ∧ new.length ≤ c ∧ (new = [] ↔ P i))
    (fin : ∀ out, B (out, (n : Int)) = some (.inr out)) : post (loopF B (init, 0)) fun r => r.length ≤ init.length + c * n ∧ (r = [] ↔ init = [] ∧ ∀ i, i < n → P i) := by
  refine post_loop (fun s => ∃ i : Nat, s.2 = (i : Int) ∧ i ≤ n ∧ s.1.length ≤ init.length + c * i ∧ (s.1 = [] ↔ init = [] ∧ ∀ k, k < i → P k)) (fun s => n - s.2.toNat)
    ⟨0, rfl, Nat.zero_le _, by simp, by simp⟩ (by simp; omega) ?_
  rintro ⟨out, j⟩ ⟨i, hj, hi, hl, he⟩
  simp only at hj hl he
  subst hj
  by_cases h : i < n
  · refine (step i out h hl).mono ?_
    rintro x ⟨new, rfl, h1, h2⟩
    refine ⟨fun s' hs => ?_, fun _ h => by cases h⟩
    cases hs
    refine ⟨⟨i + 1, by simp, by omega, by simp [Nat.mul_add]; omega, ?_⟩, by simp; omega⟩
    simp only [List.append_eq_nil_iff, he, h2]
    constructor
    · rintro ⟨⟨h3, h4⟩, h5⟩
      exact ⟨h3, fun k hk => by rcases Nat.lt_or_ge k i with h | h; exact h4 k h; obtain rfl : k = i := by omega
                                exact h5⟩
    · rintro ⟨h3, h4⟩
      exact ⟨⟨h3, fun k hk => h4 k (by omega)⟩, h4 i (by omega)⟩
  · obtain rfl : i = n := by omega
    rw [fin]
    exact post_inr ⟨hl, he⟩
theorem lst0 {β : Type} {out : List α} {i : Int} {c : Nat} {P : Prop} (h : P) : post (some (Sum.inl (out, i) : (List α × Int) ⊕ β)) fun x => ∃ new, x = .inl (out ++ new, i) ∧ new.length ≤ c ∧ (new = [] ↔ P) :=
  ⟨_, rfl, [], by simp, by simp, by simp [h]⟩
theorem lst1 {β : Type} {out new : List α} {i : Int} {c : Nat} {P : Prop} (hc : new.length ≤ c) (h0 : new ≠ []) (h : ¬ P) : post (some (Sum.inl (out ++ new, i) : (List α × Int) ⊕ β)) fun x => ∃ new, x = .inl (out ++ new, i) ∧ new.length ≤ c ∧ (new = [] ↔ P) :=
  ⟨_, rfl, new, rfl, hc, by simp [h, h0]⟩
theorem lst2 {β : Type} {out : List α} {f g : α} {i : Int} {c : Nat} {P : Prop} (hc : 2 ≤ c) (h : ¬ P) : post (some (Sum.inl (out ++ [f] ++ [g], i) : (List α × Int) ⊕ β)) fun x => ∃ new, x = .inl (out ++ new, i) ∧ new.length ≤ c ∧ (new = [] ↔ P) :=
  ⟨_, rfl, [f, g], by simp, hc, by simp [h]⟩
end
theorem okN_of {n b : Nat} (h : n * b ≤ 140737488355328) : okN n b := h
theorem orT {a b : Bool} : (a || b) = true ↔ a = true ∨ b = true := Bool.or_eq_true_iff ..
theorem orF {a b : Bool} : (a || b) = false ↔ a = false ∧ b = false := Bool.or_eq_false_iff
theorem andT {a b : Bool} : (a && b) = true ↔ a = true ∧ b = true := Bool.and_eq_true_iff
theorem andF {a b : Bool} : (a && b) = false ↔ a = false ∨ b = false := Bool.and_eq_false_iff
theorem ntT {a : Bool} : (!a) = true ↔ a = false := by cases a <;> simp
theorem ntF {a : Bool} : (!a) = false ↔ a = true := by cases a <;> simp

/-! ### Digits -/
theorem bytesI_size (l : List Int) : (bytesI l).size = l.length := by simp [bytesI, ByteArray.size]
theorem tdiv_abs (a : Int) : (a.tdiv 10).natAbs = a.natAbs / 10 := by rw [Int.natAbs_tdiv]; rfl
theorem quo10 {a : Int} (h : a.natAbs ≤ 9223372036854775808) : quoK .i64 a 10 = a.tdiv 10 := by
  have := tdiv_abs a
  exact quoI (by omega) (by omega)
def isI64 (n : Int) : Prop := -9223372036854775808 ≤ n ∧ n ≤ 9223372036854775807
theorem dec_round {n left d : Int} {s : ByteArray} {k : Nat} (hl : left.natAbs ≤ 9223372036854775808) (h1 : left.natAbs < 10 ^ k) (h2 : s.size + k ≤ 20) (hk : 1 ≤ k) :
    post (lorryref01_Decimal_J1 n s left d) fun x => (∀ s', x = .inl s' → (∃ k : Nat, s'.2.1.natAbs ≤ 9223372036854775808 ∧ s'.2.1.natAbs < 10 ^ k ∧ s'.1.size + k ≤ 20 ∧ (s'.2.2 = true → 1 ≤ k ∧ s'.2.1 ≠ 0)) ∧ s'.2.1.natAbs + (if s'.2.2 then 1 else 0) < left.natAbs + 1) ∧ ∀ e, x = .inr e → e.size ≤ 20 := by
  unfold lorryref01_Decimal_J1
  have hq := quo10 hl
  have ha := tdiv_abs left
  refine post_chk (by rw [bytesI_size]; simp; omega) (post_inl ?_)
  simp only [hq]
  obtain ⟨k, rfl⟩ : ∃ j, k = j + 1 := ⟨k - 1, by omega⟩
  have hs : (catS (bytesI [cvK IntKind.u8 (addK IntKind.i64 48 d)]) s).size = 1 + s.size := by unfold catS; rw [ByteArray.size_append, bytesI_size]; rfl
  refine ⟨⟨k, by omega, by rw [ha]; rw [Nat.pow_succ] at h1; omega, by rw [hs]; omega, fun h => ?_⟩, ?_⟩
  · simp only [neI_t] at h
    refine ⟨?_, h⟩
    rcases Nat.eq_zero_or_pos k with rfl | h'
    · exfalso; apply h; have : (left.tdiv 10).natAbs = 0 := by rw [ha]; simp at h1; omega
      omega
    · exact h'
  · cases hb : neI (left.tdiv 10) 0 with
    | true =>
      simp only [neI_t] at hb
      simp only [if_true]
      have : (left.tdiv 10).natAbs ≠ 0 := by omega
      omega
    | false => simp only [Bool.false_eq_true, if_false]; omega
theorem decimal_post (n : Int) (hn : isI64 n) : post (lorryref01_Decimal n) fun s => s.size ≤ 21 := by
  unfold isI64 at hn
  refine post_bnd (R := fun s => s.size ≤ 20) ?_ fun s hs => ?_
  · refine post_loop (fun s => ∃ k : Nat, s.2.1.natAbs ≤ 9223372036854775808 ∧ s.2.1.natAbs < 10 ^ k ∧ s.1.size + k ≤ 20 ∧ (s.2.2 = true → 1 ≤ k ∧ (s.2.1 = 0 → True))) (fun s => s.2.1.natAbs + (if s.2.2 then 1 else 0)) ⟨19, by simp only; omega, by simp only; omega, by simp [ByteArray.size_empty], by simp⟩ (by simp only; split <;> omega) ?_
    rintro ⟨s, left, again⟩ ⟨k, h0, h1, h2, h3⟩
    simp only at h0 h1 h2 h3
    cases again with
    | false => exact post_inr (show s.size ≤ 20 by omega)
    | true =>
      refine post.mono (Q := fun x => (∀ s', x = .inl s' → (∃ k : Nat, s'.2.1.natAbs ≤ 9223372036854775808 ∧ s'.2.1.natAbs < 10 ^ k ∧ s'.1.size + k ≤ 20 ∧ (s'.2.2 = true → 1 ≤ k ∧ s'.2.1 ≠ 0)) ∧ s'.2.1.natAbs + (if s'.2.2 then 1 else 0) < left.natAbs + 1) ∧ ∀ e, x = .inr e → e.size ≤ 20) ?_ ?_
      · show post (br true (br (ltI (remK left 10) 0) _ _) _) _
        rw [br_true]
        exact post_br (fun _ => dec_round h0 h1 h2 (h3 rfl).1) (fun _ => dec_round h0 h1 h2 (h3 rfl).1)
      · rintro x ⟨g1, g2⟩
        refine ⟨fun s' hs => ?_, g2⟩
        obtain ⟨⟨k', q1, q2, q3, q4⟩, q5⟩ := g1 s' hs
        exact ⟨⟨k', q1, q2, q3, fun h => ⟨(q4 h).1, fun _ => trivial⟩⟩, q5⟩
  · refine post_br (fun _ => post_chk ?_ (post_some.2 ?_)) (fun _ => post_some.2 (by omega))
    · show 1 + s.size ≤ _; omega
    · unfold catS; rw [ByteArray.size_append]; show 1 + s.size ≤ _; omega
theorem nat_isI {k : Nat} (h : k < 4294967296) : isI64 (k : Int) := by unfold isI64; omega

/-! ### Points -/
abbrev Pt := T_api_Point
def okA (p : Pt) : Prop := 0 ≤ p.t ∧ p.t ≤ 4096 ∧ p.t ≤ p.a ∧ p.a ≤ p.t + 4096
/-- Point i of a list is right. -/
def okP (l : List Pt) (i : Nat) : Prop := ∀ p, l[i]? = some p → okA p ∧ (0 < i → ∀ q, l[i - 1]? = some q → q.t < p.t ∧ q.a ≤ p.a)
structure Right (l : List Pt) : Prop where
  pos : 1 ≤ l.length
  most : l.length ≤ 16
  all : ∀ i, i < l.length → okP l i
def ptI (p : Pt) : Prop := isI64 p.t ∧ isI64 p.a
theorem ref07_J2 {l : List Pt} {i : Nat} {x0 : Pt} {out new : List T_api_Fault} (hx : l[i]? = some x0) (hi : i < 2000000) (hlen : l.length < 2000000) (ho : out.length ≤ 1 + 2 * i) (hn : new.length ≤ 1) (hw : new = [] ↔ okA x0) :
    post (lorryref07_Check_J2 l (i : Int) x0 (out ++ new)) fun x => ∃ new, x = .inl (out ++ new, (i : Int) + 1) ∧ new.length ≤ 2 ∧ (new = [] ↔ okP l i) := by
  have hadd : addK .i64 (i : Int) 1 = (i : Int) + 1 := addI (by omega) (by omega)
  unfold lorryref07_Check_J2
  have hokN : ∀ f : T_api_Fault, okN (out ++ new ++ [f]).length 24 := fun f => okN_of (by simp; omega)
  have leafY : (0 < i → ∀ q, l[i - 1]? = some q → q.t < x0.t ∧ q.a ≤ x0.a) → post (some (Sum.inl (out ++ new, addK .i64 (i : Int) 1) : (List T_api_Fault × Int) ⊕ List T_api_Fault)) fun x => ∃ new, x = .inl (out ++ new, (i : Int) + 1) ∧ new.length ≤ 2 ∧ (new = [] ↔ okP l i) := by
    intro hq
    rw [hadd]
    refine ⟨_, rfl, new, rfl, by omega, ?_⟩
    rw [hw]
    exact ⟨fun h p hp => by rw [hx] at hp; cases hp; exact ⟨h, hq⟩, fun h => (h x0 hx).1⟩
  have leafN : ∀ r : ByteArray, (∃ q, 0 < i ∧ l[i - 1]? = some q ∧ ¬ (q.t < x0.t ∧ q.a ≤ x0.a)) → post (chk (okN (out ++ new ++ [T_api_Fault.mk 13 r]).length 24) (some (Sum.inl (out ++ new ++ [T_api_Fault.mk 13 r], addK .i64 (i : Int) 1) : (List T_api_Fault × Int) ⊕ List T_api_Fault))) fun x => ∃ new, x = .inl (out ++ new, (i : Int) + 1) ∧ new.length ≤ 2 ∧ (new = [] ↔ okP l i) := by
    rintro r ⟨q, h0, h1, h2⟩
    refine post_chk (hokN _) ?_
    rw [hadd]
    refine ⟨_, rfl, new ++ [_], by rw [List.append_assoc], by simp; omega, ?_⟩
    constructor
    · intro h; simp at h
    · intro h; exact absurd ((h x0 hx).2 h0 q h1) h2
  refine post_br (fun h => ?_) (fun h => leafY fun h0 => by simp at h; omega)
  simp only [gtI_t] at h
  have h1 : subK .i64 (i : Int) 1 = ((i - 1 : Nat) : Int) := by rw [subI (by omega) (by omega)]; omega
  have hx1 : l[i - 1]? = some (l[i - 1]'(by have := (List.getElem?_eq_some_iff.1 hx).1; omega)) := List.getElem?_eq_getElem _
  rw [h1, getI_nat hx1, bnd_some]
  have hd := decimal_post (i : Int) (nat_isI (by omega))
  refine post_br (fun h2 => post_bnd hd fun r _ => leafN r ⟨_, by omega, hx1, fun hh => ?_⟩) (fun h2 => post_br (fun h3 => post_bnd hd fun r _ => leafN r ⟨_, by omega, hx1, fun hh => ?_⟩) (fun h3 => leafY fun _ q hq => ?_))
  · simp only [leI_t] at h2; omega
  · simp only [ltI_t] at h3; omega
  · rw [hx1] at hq; cases hq
    simp only [leI_f] at h2
    simp only [ltI_f] at h3
    omega
theorem okA_b {x0 : Pt} (hI : ptI x0) : ((((ltI x0.t 0) || (gtI x0.t 4096)) || (ltI x0.a x0.t)) || (gtI x0.a (addK .i64 x0.t 4096))) = false ↔ okA x0 := by
  obtain ⟨h1, h2⟩ := hI
  unfold isI64 at h1 h2
  simp only [orF, ltI_f, gtI_f]
  unfold okA
  constructor
  · rintro ⟨⟨⟨a, b⟩, c⟩, d⟩
    rw [addI (by omega) (by omega)] at d
    omega
  · rintro ⟨a, b, c, d⟩
    rw [addI (by omega) (by omega)]
    omega
theorem ref07_Check_post {l : List Pt} (hlen : l.length ≤ 1048576) (hI : ∀ p ∈ l, ptI p) : post (lorryref07_Check l) fun r => r.length ≤ 1 + 2 * l.length ∧ (r = [] ↔ Right l) := by
  have main : ∀ init : List T_api_Fault, init.length ≤ 1 → post (lorryref07_Check_J1 l init) fun r => r.length ≤ init.length + 2 * l.length ∧ (r = [] ↔ init = [] ∧ ∀ i, i < l.length → okP l i) := by
    intro init hin
    refine post_bnd ?_ fun a h => post_some.2 h
    refine post_lister l.length 2 (okP l) init (by omega) (fun i out hi ho => ?_) (fun out => ?_)
    · have hx := getI_k hi
      have hx' : l[i]? = some l[i] := List.getElem?_eq_getElem hi
      show post (lorryref07_Check_L1 l out (i : Int)) _
      unfold lorryref07_Check_L1
      rw [br_pos (by simp [lenI]; exact hi), hx, bnd_some]
      have hp := hI l[i] (List.getElem_mem hi)
      refine post_br (fun h => post_bnd (decimal_post (i : Int) (nat_isI (by omega))) fun r _ => post_chk (okN_of (by simp; omega)) (ref07_J2 (new := [_]) hx' (by omega) (by omega) (by omega) (by simp) (Iff.intro (fun h => by cases h) (fun h' => ?_)))) (fun h => ?_)
      · rw [(okA_b hp).2 h'] at h; cases h
      · have := ref07_J2 (out := out) (new := []) hx' (by omega) (by omega) (by omega) (by simp) ⟨fun _ => (okA_b hp).1 h, fun _ => rfl⟩
        rwa [List.append_nil] at this
    · unfold lorryref07_Check_L1
      rw [br_neg (by simp [lenI])]
  unfold lorryref07_Check
  refine post_br (fun h => post_chk (okN_of (by simp)) ((main _ (by simp)).mono ?_)) (fun h => (main _ (by simp)).mono ?_)
  · rintro r ⟨h1, h2⟩
    refine ⟨by simpa using h1, ?_⟩
    rw [h2]
    simp only [orT, ltI_t, gtI_t, lenI] at h
    exact ⟨fun h => by (cases h.1), fun h' => by have := h'.pos; have := h'.most; omega⟩
  · rintro r ⟨h1, h2⟩
    refine ⟨by simp at h1 ⊢; omega, ?_⟩
    rw [h2]
    simp only [orF, ltI_f, gtI_f, lenI] at h
    exact ⟨fun h' => ⟨by omega, by omega, h'.2⟩, fun h' => ⟨rfl, h'.all⟩⟩
end Go.Proofs.YtjhhlmmmkgnhmaaDoor
