/- Plain Lean about the functions that gen.py prints: what they owe, loops, numbers. No program in sight. -/
import Derived.Test.YtjhhlmmmkgnhmaaDoorGD
namespace Go.Proofs.YtjhhlmmmkgnhmaaDoor
set_option linter.unusedSimpArgs false
set_option linter.unusedVariables false
set_option linter.unusedSectionVars false
section
variable {α β S E : Type}
/-- It ends, and so. -/
def post (o : Option α) (Q : α → Prop) : Prop := ∃ a, o = some a ∧ Q a
theorem post.mono {o : Option α} {Q R : α → Prop} (h : post o Q) (hi : ∀ a, Q a → R a) : post o R := let ⟨a, h1, h2⟩ := h; ⟨a, h1, hi a h2⟩
theorem post_eq {o : Option α} {a : α} (h : o = some a) {Q : α → Prop} (hq : Q a) : post o Q := ⟨a, h, hq⟩
theorem post.eq {o : Option α} {a : α} (h : post o (fun x => x = a)) : o = some a := by obtain ⟨x, h1, rfl⟩ := h; exact h1
theorem post.and {o : Option α} {Q R : α → Prop} (h : post o Q) (h' : post o R) : post o (fun a => Q a ∧ R a) := by
  obtain ⟨a, h1, h2⟩ := h
  obtain ⟨b, h3, h4⟩ := h'
  rw [h1] at h3; cases h3
  exact ⟨a, h1, h2, h4⟩
@[simp] theorem post_some {a : α} {Q : α → Prop} : post (some a) Q ↔ Q a := ⟨fun ⟨_, h1, h2⟩ => by cases h1; exact h2, fun h => ⟨a, rfl, h⟩⟩
@[simp] theorem post_none {Q : α → Prop} : post none Q ↔ False := ⟨fun ⟨_, h1, _⟩ => by (cases h1), False.elim⟩
theorem post_br {b : Bool} {x y : Option α} {Q : α → Prop} (h1 : b = true → post x Q) (h2 : b = false → post y Q) : post (br b x y) Q := by
  cases b
  · exact h2 rfl
  · exact h1 rfl
theorem post_bnd {o : Option α} {f : α → Option β} {Q : β → Prop} {R : α → Prop} (h : post o R) (h2 : ∀ a, R a → post (f a) Q) : post (bnd o f) Q := by
  obtain ⟨a, rfl, h1⟩ := h
  exact h2 a h1
theorem post_bndE {o : Option α} {f : α → Option β} {Q : β → Prop} (h : post o (fun a => post (f a) Q)) : post (bnd o f) Q := post_bnd h fun _ h => h
theorem post_chk {p : Prop} [Decidable p] {x : Option α} {Q : α → Prop} (h1 : p) (h2 : post x Q) : post (chk p x) Q := by
  unfold chk; rw [if_pos h1]; exact h2
theorem post_amb [DecidableEq α] {x y : Option α} {Q : α → Prop} (h : x = y) (h2 : post y Q) : post (amb x y) Q := by
  unfold amb; rw [if_pos h, h]; exact h2
@[simp] theorem br_true {x y : Option α} : br true x y = x := rfl
@[simp] theorem br_false {x y : Option α} : br false x y = y := rfl
theorem br_pos {b : Bool} {x y : Option α} (h : b = true) : br b x y = x := by rw [h]; rfl
theorem br_neg {b : Bool} {x y : Option α} (h : b = false) : br b x y = y := by rw [h]; rfl
theorem br_if {b : Bool} {x y : Option α} : br b x y = if b = true then x else y := by cases b <;> rfl
@[simp] theorem bnd_some {a : α} {f : α → Option β} : bnd (some a) f = f a := rfl
theorem bnd_eq {o : Option α} {a : α} {f : α → Option β} (h : o = some a) : bnd o f = f a := by rw [h]; rfl
theorem chk_pos {p : Prop} [Decidable p] {x : Option α} (h : p) : chk p x = x := if_pos h
@[simp] theorem sel_inl {A B γ : Type} {a : A} {f : A → γ} {g : B → γ} : sel (.inl a) f g = f a := rfl
@[simp] theorem sel_inr {A B γ : Type} {b : B} {f : A → γ} {g : B → γ} : sel (.inr b) f g = g b := rfl
theorem amb_same [DecidableEq α] {x : Option α} : amb x x = x := by unfold amb; rw [if_pos rfl]

/-! Loops. -/
theorem iter_inv {B : S → Option (S ⊕ E)} (C : S → Prop) (m : S → Nat) (Q : E → Prop)
    (h : ∀ s, C s → post (B s) fun x => (∀ s', x = .inl s' → C s' ∧ m s' < m s) ∧ ∀ e, x = .inr e → Q e) : ∀ (n : Nat) (s : S), C s → m s < n → post (iterF B n s) Q := by
  intro n
  induction n with
  | zero => intro s _ hm; omega
  | succ n ih =>
    intro s hs hm
    obtain ⟨x, hx, h1, h2⟩ := h s hs
    simp only [iterF, hx]
    cases x with
    | inl s' =>
      obtain ⟨h3, h4⟩ := h1 s' rfl
      exact ih s' h3 (by omega)
    | inr e => exact ⟨e, rfl, h2 e rfl⟩
/-- A loop: an invariant, a measure, what it owes at its exits. -/
theorem post_loop {B : S → Option (S ⊕ E)} (C : S → Prop) (m : S → Nat) {Q : E → Prop} {s : S} (hs : C s) (hm : m s < 18446744073709551616)
    (h : ∀ s, C s → post (B s) fun x => (∀ s', x = .inl s' → C s' ∧ m s' < m s) ∧ ∀ e, x = .inr e → Q e) : post (loopF B s) Q := iter_inv C m Q h _ s hs hm
theorem iter_for {B : S → Option (S ⊕ E)} {e : E} : ∀ (n : Nat) (st : Nat → S), (∀ i, i < n → B (st i) = some (.inl (st (i + 1)))) → B (st n) = some (.inr e) → iterF B (n + 1) (st 0) = some e
  | 0, st, _, he => by simp only [iterF, he]
  | n + 1, st, hs, he => by
    have h0 := hs 0 (by omega)
    rw [iterF]
    rw [h0]
    exact iter_for n (fun i => st (i + 1)) (fun i hi => hs (i + 1) (by omega)) he
/-- A loop of n rounds. -/
theorem loop_for {B : S → Option (S ⊕ E)} {e : E} (n : Nat) (st : Nat → S) (hn : n < 18446744073709551616) (hs : ∀ i, i < n → B (st i) = some (.inl (st (i + 1)))) (he : B (st n) = some (.inr e)) : loopF B (st 0) = some e :=
  loopF_of (n + 1) hn (iter_for n st hs he)
theorem post_inl {x : S} {C : S → Prop} {Q : E → Prop} (h : C x) : post (some (Sum.inl x : S ⊕ E)) fun y => (∀ s', y = .inl s' → C s') ∧ ∀ e, y = .inr e → Q e :=
  ⟨_, rfl, fun _ he => by cases he; exact h, fun _ he => by cases he⟩
theorem post_inr {x : E} {C : S → Prop} {Q : E → Prop} (h : Q x) : post (some (Sum.inr x : S ⊕ E)) fun y => (∀ s', y = .inl s' → C s') ∧ ∀ e, y = .inr e → Q e :=
  ⟨_, rfl, fun _ he => by (cases he), fun _ he => by cases he; exact h⟩
end
/-! Numbers. -/
section
variable {a b : Int}
theorem addI (h : -9223372036854775808 ≤ a + b) (h' : a + b ≤ 9223372036854775807) : addK .i64 a b = a + b := IntWalk.i64_in _ ⟨h, h'⟩
theorem subI (h : -9223372036854775808 ≤ a - b) (h' : a - b ≤ 9223372036854775807) : subK .i64 a b = a - b := IntWalk.i64_in _ ⟨h, h'⟩
theorem mulI (h : -9223372036854775808 ≤ a * b) (h' : a * b ≤ 9223372036854775807) : mulK .i64 a b = a * b := IntWalk.i64_in _ ⟨h, h'⟩
theorem quoI (h : -9223372036854775808 ≤ a.tdiv b) (h' : a.tdiv b ≤ 9223372036854775807) : quoK .i64 a b = a.tdiv b := IntWalk.i64_in _ ⟨h, h'⟩
theorem cvI (h : -9223372036854775808 ≤ a) (h' : a ≤ 9223372036854775807) : cvK .i64 a = a := IntWalk.i64_in _ ⟨h, h'⟩
@[simp] theorem ltI_t : ltI a b = true ↔ a < b := by simp [ltI]
@[simp] theorem leI_t : leI a b = true ↔ a ≤ b := by simp [leI]
@[simp] theorem gtI_t : gtI a b = true ↔ b < a := by simp [gtI]
@[simp] theorem geI_t : geI a b = true ↔ b ≤ a := by simp [geI]
@[simp] theorem eqI_t : eqI a b = true ↔ a = b := by simp [eqI]
@[simp] theorem neI_t : neI a b = true ↔ a ≠ b := by simp [neI]
@[simp] theorem ltI_f : ltI a b = false ↔ b ≤ a := by simp [ltI]
@[simp] theorem leI_f : leI a b = false ↔ b < a := by simp [leI]
@[simp] theorem gtI_f : gtI a b = false ↔ a ≤ b := by simp [gtI]
@[simp] theorem geI_f : geI a b = false ↔ a < b := by simp [geI]
@[simp] theorem eqI_f : eqI a b = false ↔ a ≠ b := by simp [eqI]
@[simp] theorem neI_f : neI a b = false ↔ a = b := by simp [neI]
theorem maxI_eq : maxI a b = max a b := by unfold maxI; split <;> omega
theorem minI_eq : minI a b = min a b := by unfold minI; split <;> omega
@[simp] theorem eqB_t {x y : Bool} : eqB x y = true ↔ x = y := by simp [eqB]
@[simp] theorem eqB_f {x y : Bool} : eqB x y = false ↔ x ≠ y := by simp [eqB]
end
section
variable {α : Type} {l : List α} {i : Int}
theorem getI_nat {k : Nat} {a : α} (h : l[k]? = some a) : getI l (k : Int) = some a := by
  unfold getI; rw [if_pos (by omega)]; simpa using h
theorem getI_at (h0 : 0 ≤ i) (h1 : i < l.length) : getI l i = some (l[i.toNat]'(by omega)) := by
  unfold getI; rw [if_pos h0]; exact List.getElem?_eq_getElem (by omega)
theorem post_getI {Q : α → Prop} (h0 : 0 ≤ i) (h1 : i < l.length) (h : ∀ a, l[i.toNat]? = some a → Q a) : post (getI l i) Q :=
  ⟨_, getI_at h0 h1, h _ (List.getElem?_eq_getElem (by omega))⟩
theorem getI_k {k : Nat} (h : k < l.length) : getI l (k : Int) = some l[k] := getI_nat (List.getElem?_eq_getElem h)
@[simp] theorem lenI_nil : lenI ([] : List α) = 0 := rfl
theorem lenI_eq : lenI l = l.length := rfl
end
end Go.Proofs.YtjhhlmmmkgnhmaaDoor
