/- Package travel: the arrival: plain laws. -/
import Derived.Test.YtdpgdbkacmmmjaaDoorTF
namespace Go.Proofs.YtdpgdbkacmmmjaaDoor
open Go.RowKit

def seg (p q : Pt) (t : Int) : Int := p.2 + ((t - p.1) * (q.2 - p.2) + (q.1 - p.1) - 1) / (q.1 - p.1)

theorem arrV_of {pts : List Pt} {t : Int} {i : Nat} (hi : i ≤ pts.length) (g1 : ∀ (k : Nat) (p : Pt), k < i → pts[k]? = some p → p.1 < t) (g2 : ∀ (k : Nat) (p : Pt), i ≤ k → pts[k]? = some p → t ≤ p.1) :
    arrV pts t = arrAt pts t i := by unfold arrV; rw [lowB_of pts t i hi g1 g2]

theorem at_lt {pts : List Pt} {i : Nat} {p : Pt} (hp : pts[i]? = some p) : i < pts.length := (List.getElem?_eq_some_iff.1 hp).1

theorem arrV_at {pts : List Pt} (hr : Right pts) {i : Nat} {p : Pt} (hp : pts[i]? = some p) : arrV pts p.1 = p.2 := by
  rw [arrV_of (i := i) (Nat.le_of_lt (at_lt hp)) (fun k q hk hq => mono_T' hr hk hq hp) (fun k q hk hq => by
    rcases Nat.lt_or_ge i k with h | h
    · have := mono_T' hr h hp hq; omega
    · obtain rfl : k = i := by omega
      rw [hp] at hq; cases hq; omega)]
  have hf : foundB pts p.1 i = true := by unfold foundB; simp only [hp]; simp
  unfold arrAt
  simp only [hf, if_true]
  rw [getD_of hp]

theorem arrV_low {pts : List Pt} (hr : Right pts) {p : Pt} (hp : pts[0]? = some p) {t : Int} (h : t ≤ p.1) : arrV pts t = t + p.2 - p.1 := by
  by_cases he : t = p.1
  · rw [he, arrV_at hr hp]; omega
  · rw [arrV_of (i := 0) (Nat.zero_le _) (fun k q hk hq => absurd hk (by omega)) (fun k q hk hq => by
      rcases Nat.lt_or_ge 0 k with h' | h'
      · have := mono_T' hr h' hp hq; omega
      · obtain rfl : k = 0 := by omega
        rw [hp] at hq; cases hq; exact h)]
    have hf : foundB pts t 0 = false := by unfold foundB; simp only [hp]; exact decide_eq_false (fun e => he e.symm)
    unfold arrAt
    simp only [hf]
    rw [getD_of hp]; rfl

theorem arrV_high {pts : List Pt} (hr : Right pts) {p : Pt} (hp : pts[pts.length - 1]? = some p) {t : Int} (h : p.1 ≤ t) : arrV pts t = t + p.2 - p.1 := by
  have hpos := hr.pos
  by_cases he : t = p.1
  · rw [he, arrV_at hr hp]; omega
  · rw [arrV_of (i := pts.length) (Nat.le_refl _) (fun k q hk hq => by
      rcases Nat.lt_or_ge k (pts.length - 1) with h' | h'
      · have := mono_T' hr h' hq hp; omega
      · obtain rfl : k = pts.length - 1 := by omega
        rw [hp] at hq; cases hq; omega) (fun k q hk hq => absurd (at_lt hq) (by omega))]
    have hf : foundB pts t pts.length = false := by unfold foundB; simp only [List.getElem?_eq_none (Nat.le_refl _)]
    unfold arrAt
    simp only [hf]
    rw [if_neg (by decide), if_neg (by omega), if_pos trivial, getD_of hp]

theorem seg_left {p q : Pt} (h : p.1 < q.1) : seg p q p.1 = p.2 := by
  unfold seg
  rw [Int.sub_self, Int.zero_mul, Int.ediv_eq_zero_of_lt (by omega) (by omega)]; omega
theorem seg_right {p q : Pt} (h : p.1 < q.1) : seg p q q.1 = q.2 := by
  unfold seg
  rw [show (q.1 - p.1) * (q.2 - p.2) + (q.1 - p.1) - 1 = (q.1 - p.1 - 1) + (q.1 - p.1) * (q.2 - p.2) by omega, Int.add_mul_ediv_left _ _ (by omega), Int.ediv_eq_zero_of_lt (by omega) (by omega)]; omega

theorem arrV_seg {pts : List Pt} (hr : Right pts) {j : Nat} {p q : Pt} (hp : pts[j]? = some p) (hq : pts[j + 1]? = some q) {t : Int} (h : p.1 ≤ t) (h' : t ≤ q.1) : arrV pts t = seg p q t := by
  have hlt := (hr.b _ _ _ hp hq).1
  by_cases he : t = p.1
  · rw [he, arrV_at hr hp, seg_left hlt]
  · by_cases he' : t = q.1
    · rw [he', arrV_at hr hq, seg_right hlt]
    · rw [arrV_of (i := j + 1) (Nat.le_of_lt (at_lt hq)) (fun k r hk hk' => by
        rcases Nat.lt_or_ge k j with h'' | h''
        · have := mono_T' hr h'' hk' hp; omega
        · obtain rfl : k = j := by omega
          rw [hp] at hk'; cases hk'; omega) (fun k r hk hk' => by
        rcases Nat.lt_or_ge (j + 1) k with h'' | h''
        · have := mono_T' hr h'' hq hk'; omega
        · obtain rfl : k = j + 1 := by omega
          rw [hq] at hk'; cases hk'; exact h')]
      have hf : foundB pts t (j + 1) = false := by unfold foundB; simp only [hq]; exact decide_eq_false (fun e => he' e.symm)
      have := at_lt hq
      unfold arrAt seg
      simp only [hf]
      rw [if_neg (by decide), if_neg (by omega), if_neg (by omega), Nat.add_sub_cancel, getD_of hp, getD_of hq]

/-- Where a tick lies. -/
theorem cover {pts : List Pt} (t : Int) : ∀ (k : Nat) (z p : Pt), pts[0]? = some z → pts[k]? = some p → t < z.1 ∨ p.1 ≤ t ∨ ∃ (j : Nat) (a b : Pt), j < k ∧ pts[j]? = some a ∧ pts[j + 1]? = some b ∧ a.1 ≤ t ∧ t < b.1
  | 0, z, p, hz, hp => by
    rw [hz] at hp; cases hp
    by_cases h : t < z.1
    · exact .inl h
    · exact .inr (.inl (by omega))
  | k + 1, z, p, hz, hp => by
    have hk : pts[k]? = some (pts[k]'(by have := at_lt hp; omega)) := List.getElem?_eq_getElem _
    rcases cover t k z _ hz hk with h | h | ⟨j, a, b, hj, h1, h2, h3, h4⟩
    · exact .inl h
    · by_cases h' : p.1 ≤ t
      · exact .inr (.inl h')
      · exact .inr (.inr ⟨k, _, p, by omega, hk, hp, h, by omega⟩)
    · exact .inr (.inr ⟨j, a, b, by omega, h1, h2, h3, h4⟩)

theorem ends {pts : List Pt} (hr : Right pts) : ∃ z p, pts[0]? = some z ∧ pts[pts.length - 1]? = some p := by
  have := hr.pos
  exact ⟨pts[0], pts[pts.length - 1], List.getElem?_eq_getElem _, List.getElem?_eq_getElem _⟩

theorem seg_mono {p q : Pt} (h1 : p.1 < q.1) (h2 : p.2 ≤ q.2) {t t' : Int} (h : t ≤ t') : seg p q t ≤ seg p q t' := by
  unfold seg
  have := Int.mul_le_mul_of_nonneg_right (show t - p.1 ≤ t' - p.1 by omega) (show 0 ≤ q.2 - p.2 by omega)
  have := Int.ediv_le_ediv (show 0 < q.1 - p.1 by omega) (show (t - p.1) * (q.2 - p.2) + (q.1 - p.1) - 1 ≤ (t' - p.1) * (q.2 - p.2) + (q.1 - p.1) - 1 by omega)
  omega

theorem arrV_mono1 {pts : List Pt} (hr : Right pts) (t : Int) : arrV pts t ≤ arrV pts (t + 1) := by
  obtain ⟨z, l, hz, hl⟩ := ends hr
  rcases cover t _ z l hz hl with h | h | ⟨j, a, b, hj, h1, h2, h3, h4⟩
  · rw [arrV_low hr hz (by omega), arrV_low hr hz (by omega)]; omega
  · rw [arrV_high hr hl h, arrV_high hr hl (by omega)]; omega
  · obtain ⟨m1, m2⟩ := hr.b _ _ _ h1 h2
    rw [arrV_seg hr h1 h2 h3 (by omega), arrV_seg hr h1 h2 (by omega) (by omega)]
    exact seg_mono m1 m2 (by omega)
theorem arrV_monoN {pts : List Pt} (hr : Right pts) (t : Int) : ∀ n : Nat, arrV pts t ≤ arrV pts (t + n)
  | 0 => by simp
  | n + 1 => by
    have h1 := arrV_monoN hr t n
    have h2 := arrV_mono1 hr (t + n)
    rw [show t + ((n + 1 : Nat) : Int) = t + n + 1 by omega]
    omega
theorem arrV_mono {pts : List Pt} (hr : Right pts) {t t' : Int} (h : t ≤ t') : arrV pts t ≤ arrV pts t' := by
  have := arrV_monoN hr t (t' - t).toNat
  rwa [show t + ((t' - t).toNat : Int) = t' by omega] at this

theorem seg_ge {p q : Pt} (hp : p.1 ≤ p.2) (hq : q.1 ≤ q.2) (h1 : p.1 < q.1) {t : Int} (h : p.1 ≤ t) (h' : t ≤ q.1) : t ≤ seg p q t := by
  unfold seg
  have key : (t - p.2) * (q.1 - p.1) ≤ (t - p.1) * (q.2 - p.2) := by
    have e1 : 0 ≤ (t - p.1) * (q.2 - q.1) := Int.mul_nonneg (by omega) (by omega)
    have e2 : 0 ≤ (q.1 - t) * (p.2 - p.1) := Int.mul_nonneg (by omega) (by omega)
    have e3 : (t - p.1) * (q.2 - p.2) - (t - p.2) * (q.1 - p.1) = (t - p.1) * (q.2 - q.1) + (q.1 - t) * (p.2 - p.1) := by
      simp only [Int.sub_mul, Int.mul_sub, Int.mul_comm]
      omega
    omega
  have := (Int.le_ediv_iff_mul_le (show 0 < q.1 - p.1 by omega)).2 (show (t - p.2) * (q.1 - p.1) ≤ (t - p.1) * (q.2 - p.2) + (q.1 - p.1) - 1 by omega)
  omega

theorem arrV_ge {pts : List Pt} (hr : Right pts) (t : Int) : t ≤ arrV pts t := by
  obtain ⟨z, l, hz, hl⟩ := ends hr
  rcases cover t _ z l hz hl with h | h | ⟨j, a, b, hj, h1, h2, h3, h4⟩
  · rw [arrV_low hr hz (by omega)]
    have := (hr.a _ _ hz).2.2.1; omega
  · rw [arrV_high hr hl h]
    have := (hr.a _ _ hl).2.2.1; omega
  · rw [arrV_seg hr h1 h2 h3 (by omega)]
    exact seg_ge (hr.a _ _ h1).2.2.1 (hr.a _ _ h2).2.2.1 (hr.b _ _ _ h1 h2).1 h3 (by omega)

/-- A bound, for the machine's numbers. -/
theorem arrV_le {pts : List Pt} (hr : Right pts) {t : Int} (ht : 0 ≤ t) : arrV pts t ≤ t + 4096 + 8192 := by
  obtain ⟨z, l, hz, hl⟩ := ends hr
  rcases cover t _ z l hz hl with h | h | ⟨j, a, b, hj, h1, h2, h3, h4⟩
  · rw [arrV_low hr hz (by omega)]
    have := (hr.a _ _ hz).2.2.2; omega
  · rw [arrV_high hr hl h]
    have := (hr.a _ _ hl).2.2.2; omega
  · have := arrV_mono hr (show t ≤ b.1 by omega)
    rw [arrV_at hr h2] at this
    have := hr.a _ _ h2
    unfold okA at this
    omega
end Go.Proofs.YtdpgdbkacmmmjaaDoor
