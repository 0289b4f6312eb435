/- Earliest arrivals: arcs relaxed in passes: after as many passes as there are places nothing changes any more. Plain. -/
import Derived.Test.YtjhhlmmmkgnhmaaDoorGqe
namespace Go.Proofs.YtjhhlmmmkgnhmaaDoor
set_option linter.unusedSimpArgs false
set_option linter.unusedVariables false
set_option linter.unusedSectionVars false

/-- A list without repetition of numbers below n has at most n elements. -/
theorem nodup_len : ∀ (n : Nat) (l : List Nat), l.Nodup → (∀ x ∈ l, x < n) → l.length ≤ n
  | 0, l, _, h => by
    cases l with
    | nil => exact Nat.le_refl _
    | cons x r => exact absurd (h x (by simp)) (by omega)
  | n + 1, l, hd, h => by
    have h1 := nodup_len n (l.erase n) (hd.erase n) (fun x hx => by
      have hx' := (List.Nodup.mem_erase_iff hd).1 hx
      have := h x hx'.2
      have := hx'.1
      omega)
    have h2 : l.length ≤ (l.erase n).length + 1 := by rw [List.length_erase]; split <;> omega
    omega

section
variable (prof : Int) (np : Nat)

def at_ (s : List Int) (v : Nat) : Int := s.getD v (-1)
/-- One arc. -/
def relax (s : List Int) (a : T_api_Arc) : List Int :=
  if a.profile = prof ∧ 0 ≤ at_ s a.from_.toNat ∧ (at_ s a.to_.toNat < 0 ∨ arrA a (at_ s a.from_.toNat) < at_ s a.to_.toNat) then s.set a.to_.toNat (arrA a (at_ s a.from_.toNat)) else s
/-- The first k arcs. -/
def passK (arcs : List T_api_Arc) (s : List Int) (k : Nat) : List Int := (arcs.take k).foldl (relax prof) s
def pass (arcs : List T_api_Arc) (s : List Int) : List Int := passK prof arcs s arcs.length
def iter (arcs : List T_api_Arc) (s : List Int) : Nat → List Int
  | 0 => s
  | j + 1 => pass prof arcs (iter arcs s j)

/-- What is asked of the arcs. -/
structure GoodA (B C : Int) (a : T_api_Arc) : Prop where
  from0 : 0 ≤ a.from_
  from1 : a.from_ < np
  to0 : 0 ≤ a.to_
  to1 : a.to_ < np
  ge : ∀ t, 0 ≤ t → t ≤ B → t ≤ arrA a t
  le : ∀ t, 0 ≤ t → t ≤ B → arrA a t ≤ t + C
end

theorem at_set {s : List Int} {d v : Nat} {x : Int} (h : d < s.length) : at_ (s.set d x) v = if v = d then x else at_ s v := by
  unfold at_
  rw [List.getD_eq_getElem?_getD, List.getD_eq_getElem?_getD, List.getElem?_set]
  by_cases hv : d = v
  · subst hv; rw [if_pos rfl, if_pos h, if_pos rfl]; rfl
  · rw [if_neg hv, if_neg (fun e => hv e.symm)]

theorem passK_succ {prof : Int} {arcs : List T_api_Arc} {s : List Int} {k : Nat} {a : T_api_Arc} (h : arcs[k]? = some a) : passK prof arcs s (k + 1) = relax prof (passK prof arcs s k) a := by
  unfold passK; rw [List.take_add_one, h, List.foldl_append]; rfl

section
variable {prof : Int} {np : Nat} {B C t0 : Int} {arcs : List T_api_Arc}

/-- An arc whose end is reached. -/
def DoneA (prof : Int) (s : List Int) (a : T_api_Arc) : Prop := a.profile = prof → 0 ≤ at_ s a.from_.toNat → 0 ≤ at_ s a.to_.toNat ∧ at_ s a.to_.toNat ≤ arrA a (at_ s a.from_.toNat)

/-- In pass p, behind its first k arcs. -/
structure Inv (prof : Int) (np : Nat) (C t0 : Int) (arcs : List T_api_Arc) (p k : Nat) (s : List Int) (level : Nat → Nat) (path : Nat → List Nat) : Prop where
  len : s.length = np
  nodup : ∀ v, 0 ≤ at_ s v → (path v).Nodup
  head : ∀ v, 0 ≤ at_ s v → v ∈ path v
  elems : ∀ v, 0 ≤ at_ s v → ∀ u ∈ path v, u < np ∧ 0 ≤ at_ s u ∧ at_ s u ≤ at_ s v
  long : ∀ v, 0 ≤ at_ s v → level v + 1 ≤ (path v).length
  val : ∀ v, 0 ≤ at_ s v → at_ s v + C ≤ t0 + C * (path v).length
  r1 : ∀ a ∈ arcs, level a.from_.toNat + 2 ≤ p → DoneA prof s a
  r2 : ∀ (i : Nat) (a : T_api_Arc), i < k → arcs[i]? = some a → level a.from_.toNat + 1 ≤ p → DoneA prof s a

theorem Inv.lt {p k : Nat} {s : List Int} {level : Nat → Nat} {path : Nat → List Nat} (h : Inv prof np C t0 arcs p k s level path) {v : Nat} (hv : 0 ≤ at_ s v) : v < np := (h.elems v hv v (h.head v hv)).1
theorem Inv.plen {p k : Nat} {s : List Int} {level : Nat → Nat} {path : Nat → List Nat} (h : Inv prof np C t0 arcs p k s level path) {v : Nat} (hv : 0 ≤ at_ s v) : (path v).length ≤ np := nodup_len np _ (h.nodup v hv) (fun x hx => (h.elems v hv x hx).1)

/-- A step of a pass: nothing changes, or p < np. -/
theorem Inv.step {p k : Nat} {s : List Int} {level : Nat → Nat} {path : Nat → List Nat} (h : Inv prof np C t0 arcs p k s level path) (hC : 0 ≤ C) (hB : t0 + C * np ≤ B) {a : T_api_Arc} (ha : arcs[k]? = some a) (hg : GoodA np B C a) :
    ∃ level' path', Inv prof np C t0 arcs p (k + 1) (relax prof s a) level' path' ∧ (np ≤ p → relax prof s a = s) := by
  unfold relax
  by_cases hc : a.profile = prof ∧ 0 ≤ at_ s a.from_.toNat ∧ (at_ s a.to_.toNat < 0 ∨ arrA a (at_ s a.from_.toNat) < at_ s a.to_.toNat)
  · rw [if_pos hc]
    obtain ⟨h1, h2, h3⟩ := hc
    have hd : a.to_.toNat < s.length := by rw [h.len]; have := hg.to1; have := hg.to0; omega
    obtain ⟨u, hu⟩ : ∃ u, u = a.from_.toNat := ⟨_, rfl⟩
    obtain ⟨v, hv⟩ : ∃ v, v = a.to_.toNat := ⟨_, rfl⟩
    rw [← hu] at h2 h3 ⊢
    rw [← hv] at h3 hd ⊢
    have hpl := h.plen h2
    have hval := h.val u h2
    have hCl : C * (path u).length ≤ C * np := Int.mul_le_mul_of_nonneg_left (by omega) hC
    have hge := hg.ge (at_ s u) h2 (by omega)
    have hle := hg.le (at_ s u) h2 (by omega)
    obtain ⟨x, hx⟩ : ∃ x, x = arrA a (at_ s u) := ⟨_, rfl⟩
    rw [← hx] at h3 hge hle ⊢
    have hlev : p ≤ level u + 1 := by
      rcases Nat.lt_or_ge (level u + 1) p with hlt | hge'
      · have := h.r1 a (List.mem_of_getElem? ha) (by rw [← hu]; omega) h1 (by rw [← hu]; exact h2)
        rw [← hu, ← hv, ← hx] at this
        omega
      · exact hge'
    have hvn : v ∉ path u := fun hm => by
      have := h.elems u h2 v hm
      omega
    have hlong := h.long u h2
    have huv : u ≠ v := fun e => hvn (e ▸ h.head u h2)
    have hvlt : v < np := by rw [← h.len]; exact hd
    have hnd : (v :: path u).Nodup := List.nodup_cons.2 ⟨hvn, h.nodup u h2⟩
    have hlen2 : (v :: path u).length ≤ np := nodup_len np _ hnd (fun y hy => by
      rcases List.mem_cons.1 hy with rfl | hy
      · exact hvlt
      · exact (h.elems u h2 y hy).1)
    rw [List.length_cons] at hlen2
    have hA : ∀ w, at_ (s.set v x) w = if w = v then x else at_ s w := fun w => at_set hd
    have hAv : at_ (s.set v x) v = x := by rw [hA, if_pos rfl]
    have hAo : ∀ w, w ≠ v → at_ (s.set v x) w = at_ s w := fun w hw => by rw [hA, if_neg hw]
    -- what a place on a path holds now
    have hold : ∀ w, 0 ≤ at_ s w → 0 ≤ at_ (s.set v x) w ∧ at_ (s.set v x) w ≤ at_ s w := fun w hw => by
      by_cases hwv : w = v
      · subst hwv; rw [hAv]; omega
      · rw [hAo w hwv]; omega
    have hdone : ∀ a' : T_api_Arc, a'.from_.toNat ≠ v → DoneA prof s a' → DoneA prof (s.set v x) a' := fun a' hne hD hp hs => by
      rw [hAo _ hne] at hs ⊢
      have := hD hp hs
      have := hold _ this.1
      omega
    refine ⟨fun w => if w = v then p else level w, fun w => if w = v then v :: path u else path w, ?_, fun hnp => absurd hlen2 (by omega)⟩
    refine ⟨by rw [List.length_set]; exact h.len, fun w hw => ?_, fun w hw => ?_, fun w hw y hy => ?_, fun w hw => ?_, fun w hw => ?_, fun a' ha' hl => ?_, fun i a' hi ha' hl => ?_⟩
    · by_cases hwv : w = v
      · simp only [hwv, if_true]; exact hnd
      · simp only [hwv, if_false]; rw [hAo w hwv] at hw; exact h.nodup w hw
    · by_cases hwv : w = v
      · simp only [hwv, if_true]; exact List.mem_cons_self
      · simp only [hwv, if_false]; rw [hAo w hwv] at hw; exact h.head w hw
    · by_cases hwv : w = v
      · subst hwv
        simp only [if_true] at hy
        rw [hAv]
        rcases List.mem_cons.1 hy with rfl | hy
        · rw [hAv]; exact ⟨hvlt, by omega, by omega⟩
        · have he := h.elems u h2 y hy
          have hyv : y ≠ w := fun e => hvn (e ▸ hy)
          rw [hAo y hyv]
          exact ⟨he.1, he.2.1, by omega⟩
      · simp only [hwv, if_false] at hy
        rw [hAo w hwv] at hw ⊢
        have he := h.elems w hw y hy
        have ho := hold y he.2.1
        exact ⟨he.1, ho.1, by omega⟩
    · by_cases hwv : w = v
      · simp only [hwv, if_true, List.length_cons]; omega
      · simp only [hwv, if_false]; rw [hAo w hwv] at hw; exact h.long w hw
    · by_cases hwv : w = v
      · subst hwv
        simp only [if_true, List.length_cons]
        rw [hAv]
        have : C * ((path u).length + 1 : Nat) = C * (path u).length + C := by
          rw [Int.natCast_add, Int.mul_add]; simp
        rw [this]; omega
      · simp only [hwv, if_false]; rw [hAo w hwv] at hw ⊢; exact h.val w hw
    · by_cases hwv : a'.from_.toNat = v
      · simp only [hwv, if_true] at hl; omega
      · simp only [hwv, if_false] at hl; exact hdone a' hwv (h.r1 a' ha' hl)
    · by_cases hwv : a'.from_.toNat = v
      · simp only [hwv, if_true] at hl; omega
      · simp only [hwv, if_false] at hl
        rcases Nat.lt_or_ge i k with hik | hik
        · exact hdone a' hwv (h.r2 i a' hik ha' hl)
        · have hik' : i = k := by omega
          subst hik'
          have : a' = a := Option.some.inj (ha'.symm.trans ha)
          subst this
          intro _ _
          rw [← hu, ← hv, hAv, hAo u huv, ← hx]
          omega
  · rw [if_neg hc]
    refine ⟨level, path, ⟨h.len, h.nodup, h.head, h.elems, h.long, h.val, h.r1, fun i a' hi ha' hl => ?_⟩, fun _ => rfl⟩
    rcases Nat.lt_or_ge i k with hik | hik
    · exact h.r2 i a' hik ha' hl
    · have hik' : i = k := by omega
      subst hik'
      have : a' = a := Option.some.inj (ha'.symm.trans ha)
      subst this
      intro hp hs
      have : ¬ (at_ s a'.to_.toNat < 0 ∨ arrA a' (at_ s a'.from_.toNat) < at_ s a'.to_.toNat) := fun hh => hc ⟨hp, hs, hh⟩
      omega

theorem Inv.steps {p : Nat} {s : List Int} (hC : 0 ≤ C) (hB : t0 + C * np ≤ B) (hg : ∀ a ∈ arcs, GoodA np B C a) (h0 : ∃ level path, Inv prof np C t0 arcs p 0 s level path) :
    ∀ k, k ≤ arcs.length → (∃ level path, Inv prof np C t0 arcs p k (passK prof arcs s k) level path) ∧ (np ≤ p → passK prof arcs s k = s)
  | 0, _ => ⟨h0, fun _ => rfl⟩
  | k + 1, hk => by
    obtain ⟨⟨level, path, h⟩, hs⟩ := Inv.steps hC hB hg h0 k (by omega)
    have ha : arcs[k]? = some (arcs[k]'(by omega)) := List.getElem?_eq_getElem (by omega)
    obtain ⟨l', p', h', hfix⟩ := h.step hC hB ha (hg _ (List.mem_of_getElem? ha))
    rw [passK_succ ha]
    exact ⟨⟨l', p', h'⟩, fun hnp => by rw [hfix hnp, hs hnp]⟩

/-- The passes from a start. -/
theorem Inv.passes {s : List Int} (hC : 0 ≤ C) (hB : t0 + C * np ≤ B) (hg : ∀ a ∈ arcs, GoodA np B C a) (h0 : ∃ level path, Inv prof np C t0 arcs 1 0 s level path) :
    ∀ j, (∃ level path, Inv prof np C t0 arcs (j + 1) 0 (iter prof arcs s j) level path) ∧ (np ≤ j + 1 → iter prof arcs s (j + 1) = iter prof arcs s j)
  | 0 => ⟨h0, fun hnp => (Inv.steps hC hB hg h0 arcs.length (Nat.le_refl _)).2 hnp⟩
  | j + 1 => by
    obtain ⟨⟨level, path, h⟩, _⟩ := Inv.passes hC hB hg h0 j
    obtain ⟨⟨l', p', h'⟩, _⟩ := Inv.steps hC hB hg ⟨level, path, h⟩ arcs.length (Nat.le_refl _)
    have hnext : ∃ level path, Inv prof np C t0 arcs (j + 1 + 1) 0 (iter prof arcs s (j + 1)) level path := by
      refine ⟨l', p', h'.len, h'.nodup, h'.head, h'.elems, h'.long, h'.val, fun a ha hl => ?_, fun i a hi => absurd hi (by omega)⟩
      obtain ⟨i, hi⟩ := List.getElem?_of_mem ha
      exact h'.r2 i a (List.getElem?_eq_some_iff.1 hi).1 hi (by omega)
    exact ⟨hnext, fun hnp => (Inv.steps hC hB hg hnext arcs.length (Nat.le_refl _)).2 hnp⟩
end
end Go.Proofs.YtjhhlmmmkgnhmaaDoor
