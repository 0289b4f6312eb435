/- Plain: the arrival of a travel function, in the program and in the reference. -/
import Derived.Test.YtjhhlmmmkgnhmaaDoorRqa
namespace Go.Proofs.YtjhhlmmmkgnhmaaDoor
set_option linter.unusedSimpArgs false
set_option linter.unusedVariables false
set_option linter.unusedSectionVars false

/-- Between two points. -/
def seg (p q : Pt) (t : Int) : Int := p.a + ((t - p.t) * (q.a - p.a) + (q.t - p.t) - 1) / (q.t - p.t)
def arrL : List Pt → Int → Int
  | [], _ => 0
  | [p], t => t + p.a - p.t
  | p :: q :: r, t => if t < q.t then (if t < p.t then t + p.a - p.t else seg p q t) else arrL (q :: r) t
def Srt : List Pt → Prop
  | [] => True
  | [p] => okA p
  | p :: q :: r => okA p ∧ p.t < q.t ∧ p.a ≤ q.a ∧ Srt (q :: r)
theorem srt_of : ∀ {l : List Pt}, (∀ i, i < l.length → okP l i) → Srt l
  | [], _ => trivial
  | [p], h => (h 0 (by simp) p rfl).1
  | p :: q :: r, h => by
    have h0 := h 0 (by simp) p rfl
    have h1 := (h 1 (by simp) q rfl).2 (by omega) p rfl
    refine ⟨h0.1, h1.1, h1.2, srt_of fun i hi x hx => ?_⟩
    have h2 := h (i + 1) (by simpa using hi) x hx
    refine ⟨h2.1, fun h3 y hy => h2.2 (by omega) y ?_⟩
    obtain ⟨j, rfl⟩ : ∃ j, i = j + 1 := ⟨i - 1, by omega⟩
    exact hy
theorem Right.srt {l : List Pt} (h : Right l) : Srt l := srt_of h.all
theorem Srt.okA_at : ∀ {l : List Pt}, Srt l → ∀ {i : Nat} {p : Pt}, l[i]? = some p → okA p
  | [], _, _, _, h => by simp at h
  | [p], h, 0, x, hx => by cases hx; exact h
  | [p], h, i + 1, x, hx => by simp at hx
  | p :: q :: r, h, 0, x, hx => by cases hx; exact h.1
  | p :: q :: r, h, i + 1, x, hx => Srt.okA_at (l := q :: r) h.2.2.2 hx
theorem Srt.pair : ∀ {l : List Pt}, Srt l → ∀ {i : Nat} {p q : Pt}, l[i]? = some p → l[i + 1]? = some q → p.t < q.t ∧ p.a ≤ q.a
  | [], _, _, _, _, h, _ => by simp at h
  | [p], h, i, x, y, _, hy => by simp at hy
  | p :: q :: r, h, 0, x, y, hx, hy => by cases hx; cases hy; exact ⟨h.2.1, h.2.2.1⟩
  | p :: q :: r, h, i + 1, x, y, hx, hy => Srt.pair (l := q :: r) h.2.2.2 hx hy
theorem Srt.lt {l : List Pt} (h : Srt l) {i : Nat} : ∀ {j : Nat}, i < j → ∀ {p q : Pt}, l[i]? = some p → l[j]? = some q → p.t < q.t
  | j + 1, hij, p, q, hp, hq => by
    rcases Nat.lt_or_ge i j with h' | h'
    · have hj : l[j]? = some (l[j]'(by have := (List.getElem?_eq_some_iff.1 hq).1; omega)) := List.getElem?_eq_getElem _
      have := h.lt h' hp hj
      have := (h.pair hj hq).1
      omega
    · obtain rfl : i = j := by omega
      exact (h.pair hp hq).1
theorem seg_left {p q : Pt} (h : p.t < q.t) : seg p q p.t = p.a := by
  unfold seg
  rw [Int.sub_self, Int.zero_mul, Int.ediv_eq_zero_of_lt (by omega) (by omega)]; omega
theorem seg_right {p q : Pt} (h : p.t < q.t) : seg p q q.t = q.a := by
  unfold seg
  rw [show (q.t - p.t) * (q.a - p.a) + (q.t - p.t) - 1 = (q.t - p.t - 1) + (q.t - p.t) * (q.a - p.a) by omega, Int.add_mul_ediv_left _ _ (by omega), Int.ediv_eq_zero_of_lt (by omega) (by omega)]; omega
theorem arrL_head {p : Pt} {r : List Pt} (h : Srt (p :: r)) : arrL (p :: r) p.t = p.a := by
  cases r with
  | nil => simp only [arrL]; omega
  | cons q r => simp only [arrL]; rw [if_pos h.2.1, if_neg (by omega), seg_left h.2.1]
theorem arrL_low {p : Pt} {r : List Pt} (h : Srt (p :: r)) {t : Int} (ht : t ≤ p.t) : arrL (p :: r) t = t + p.a - p.t := by
  by_cases he : t = p.t
  · subst he; rw [arrL_head h]; omega
  · cases r with
    | nil => rfl
    | cons q r => simp only [arrL]; have := h.2.1; rw [if_pos (by omega), if_pos (by omega)]
theorem arrL_high : ∀ {l : List Pt}, Srt l → ∀ {p : Pt}, l[l.length - 1]? = some p → ∀ {t : Int}, p.t ≤ t → arrL l t = t + p.a - p.t
  | [], _, _, hp, _, _ => by simp at hp
  | [x], _, p, hp, t, _ => by cases hp; rfl
  | x :: y :: r, h, p, hp, t, ht => by
    have hp' : (y :: r)[(y :: r).length - 1]? = some p := by simpa using hp
    have : y.t ≤ t := by
      rcases Nat.eq_zero_or_pos r.length with h0 | h0
      · have : r = [] := List.length_eq_zero_iff.1 h0
        subst this; cases hp'; exact ht
      · have := h.2.2.2.lt (i := 0) (j := (y :: r).length - 1) (by simp; omega) rfl hp'
        omega
    simp only [arrL]
    rw [if_neg (by omega)]
    exact arrL_high h.2.2.2 hp' ht
theorem arrL_seg : ∀ {l : List Pt}, Srt l → ∀ {j : Nat} {p q : Pt}, l[j]? = some p → l[j + 1]? = some q → ∀ {t : Int}, p.t ≤ t → t ≤ q.t → arrL l t = seg p q t
  | [], _, _, _, _, hp, _, _, _, _ => by simp at hp
  | [x], _, _, _, _, _, hq, _, _, _ => by simp at hq
  | x :: y :: r, h, 0, p, q, hp, hq, t, h1, h2 => by
    cases hp; cases hq
    simp only [arrL]
    by_cases he : t < y.t
    · rw [if_pos he, if_neg (by omega)]
    · obtain rfl : t = y.t := by omega
      rw [if_neg he, arrL_head h.2.2.2, seg_right h.2.1]
  | x :: y :: r, h, j + 1, p, q, hp, hq, t, h1, h2 => by
    have : y.t ≤ p.t := by
      rcases Nat.eq_zero_or_pos j with rfl | h0
      · cases hp; omega
      · have := h.2.2.2.lt (i := 0) (j := j) h0 rfl hp; omega
    simp only [arrL]
    rw [if_neg (by omega)]
    exact arrL_seg (l := y :: r) h.2.2.2 hp hq h1 h2
theorem seg_mono {p q : Pt} (h1 : p.t < q.t) (h2 : p.a ≤ q.a) {t t' : Int} (h : t ≤ t') : seg p q t ≤ seg p q t' := by
  unfold seg
  have := Int.mul_le_mul_of_nonneg_right (show t - p.t ≤ t' - p.t by omega) (show 0 ≤ q.a - p.a by omega)
  have := Int.ediv_le_ediv (show 0 < q.t - p.t by omega) (show (t - p.t) * (q.a - p.a) + (q.t - p.t) - 1 ≤ (t' - p.t) * (q.a - p.a) + (q.t - p.t) - 1 by omega)
  omega
theorem arrL_mono : ∀ {l : List Pt}, Srt l → ∀ {t t' : Int}, t ≤ t' → arrL l t ≤ arrL l t'
  | [], _, _, _, _ => Int.le_refl _
  | [p], _, t, t', h => by simp only [arrL]; omega
  | p :: q :: r, h, t, t', ht => by
    have ih := fun {a b : Int} (hab : a ≤ b) => arrL_mono h.2.2.2 hab
    have hq := arrL_head h.2.2.2
    have hh := h.2.1
    simp only [arrL]
    by_cases h1 : t < q.t
    · rw [if_pos h1]
      have hs : ∀ x : Int, p.t ≤ x → p.a ≤ seg p q x := fun x hx => by have := seg_mono h.2.1 h.2.2.1 hx; rwa [seg_left h.2.1] at this
      by_cases h2 : t' < q.t
      · rw [if_pos h2]
        by_cases h3 : t < p.t
        · rw [if_pos h3]
          by_cases h4 : t' < p.t
          · rw [if_pos h4]; omega
          · rw [if_neg h4]; have := hs t' (by omega); omega
        · rw [if_neg h3, if_neg (by omega)]
          exact seg_mono h.2.1 h.2.2.1 ht
      · rw [if_neg h2]
        have h5 := ih (show q.t ≤ t' by omega)
        by_cases h3 : t < p.t
        · rw [if_pos h3]; have := h.2.2.1; omega
        · rw [if_neg h3]
          have := seg_mono h.2.1 h.2.2.1 (show t ≤ q.t by omega)
          rw [seg_right h.2.1] at this; omega
    · rw [if_neg h1, if_neg (by omega)]
      exact ih ht
theorem seg_ge {p q : Pt} (hp : p.t ≤ p.a) (hq : q.t ≤ q.a) (h1 : p.t < q.t) {t : Int} (h : p.t ≤ t) (h' : t ≤ q.t) : t ≤ seg p q t := by
  unfold seg
  have key : (t - p.a) * (q.t - p.t) ≤ (t - p.t) * (q.a - p.a) := by
    have e1 : 0 ≤ (t - p.t) * (q.a - q.t) := Int.mul_nonneg (by omega) (by omega)
    have e2 : 0 ≤ (q.t - t) * (p.a - p.t) := Int.mul_nonneg (by omega) (by omega)
    have e3 : (t - p.t) * (q.a - p.a) - (t - p.a) * (q.t - p.t) = (t - p.t) * (q.a - q.t) + (q.t - t) * (p.a - p.t) := by
      simp only [Int.sub_mul, Int.mul_sub, Int.mul_comm]
      omega
    omega
  have := (Int.le_ediv_iff_mul_le (show 0 < q.t - p.t by omega)).2 (show (t - p.a) * (q.t - p.t) ≤ (t - p.t) * (q.a - p.a) + (q.t - p.t) - 1 by omega)
  omega
theorem arrL_ge : ∀ {l : List Pt}, Srt l → l ≠ [] → ∀ (t : Int), t ≤ arrL l t
  | [], _, h, _ => absurd rfl h
  | [p], h, _, t => by simp only [arrL]; have := h.2.2.1; omega
  | p :: q :: r, h, _, t => by
    have hq : okA q := h.2.2.2.okA_at (i := 0) rfl
    have h1 := h.1.2.2.1
    simp only [arrL]
    by_cases h3 : t < q.t
    · rw [if_pos h3]
      by_cases h4 : t < p.t
      · rw [if_pos h4]; omega
      · rw [if_neg h4]; exact seg_ge h1 hq.2.2.1 h.2.1 (by omega) (by omega)
    · rw [if_neg h3]; exact arrL_ge h.2.2.2 (by simp) t
theorem arrL_le : ∀ {l : List Pt}, Srt l → ∀ {t : Int}, 0 ≤ t → arrL l t ≤ t + 8192
  | [], _, t, h => by simp only [arrL]; omega
  | [p], h, t, _ => by simp only [arrL]; have := h.2.2.2; omega
  | p :: q :: r, h, t, h0 => by
    have hq : okA q := h.2.2.2.okA_at (i := 0) rfl
    have h1 := h.1.2.2.2
    simp only [arrL]
    by_cases h3 : t < q.t
    · rw [if_pos h3]
      by_cases h4 : t < p.t
      · rw [if_pos h4]; omega
      · rw [if_neg h4]
        have := seg_mono h.2.1 h.2.2.1 (show t ≤ q.t by omega)
        rw [seg_right h.2.1] at this
        have := hq.2.2.2; have := hq.2.1; omega
    · rw [if_neg h3]; exact arrL_le h.2.2.2 h0
end Go.Proofs.YtjhhlmmmkgnhmaaDoor
