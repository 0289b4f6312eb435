/- Package travel: right lists of points, the search, the arrival: walks. -/
import Derived.Test.YtdpgdbkacmmmjaaDoorTB
namespace Go.Proofs.YtdpgdbkacmmmjaaDoor
open Go.RowKit

theorem ownsRow_form {w : World} {base : Nat} {e : TypeId} {size n : Nat} {v : Value} {xs : List Value} (h : w.ownsRow base e size v n xs) : ∃ A c, v = .slice A n c := by
  rcases h.2 with ⟨hv, hn⟩ | ⟨g, cap, cur, hv, _⟩
  · exact ⟨none, 0, by rw [hv, hn]⟩
  · exact ⟨_, _, hv⟩
def rightB (pts : List Pt) : Bool := decide (fl pts pts.length = [])
theorem flA_nil {pts : List Pt} {i : Nat} : flA pts i = [] ↔ okA (pts.getD i (0, 0)) := by
  unfold flA; by_cases h : okA (pts.getD i (0, 0)) <;> simp [h]
theorem flB_nil {pts : List Pt} {i : Nat} : flB pts i = [] ↔ okB pts i := by
  unfold flB; by_cases h : okB pts i <;> simp [h]
theorem fl_nil {pts : List Pt} : ∀ k, fl pts k = [] ↔ (1 ≤ pts.length ∧ pts.length ≤ 16 ∧ ∀ i, i < k → okA (pts.getD i (0, 0)) ∧ okB pts i)
  | 0 => by
    show fl0 pts.length = [] ↔ _
    unfold fl0
    by_cases h : pts.length = 0 ∨ 16 < pts.length
    · rw [if_pos h]
      exact ⟨fun h' => (by cases h'), fun h' => (by have := h'.1; have := h'.2.1; omega)⟩
    · rw [if_neg h]
      exact ⟨fun _ => ⟨by omega, by omega, fun i hi => absurd hi (by omega)⟩, fun _ => rfl⟩
  | k + 1 => by
    show fl pts k ++ flA pts k ++ flB pts k = [] ↔ _
    rw [List.append_eq_nil_iff, List.append_eq_nil_iff, fl_nil k, flA_nil, flB_nil]
    constructor
    · rintro ⟨⟨⟨h1, h2, h3⟩, h4⟩, h5⟩
      refine ⟨h1, h2, fun i hi => ?_⟩
      rcases Nat.lt_or_ge i k with h | h
      · exact h3 i h
      · obtain rfl : i = k := by omega
        exact ⟨h4, h5⟩
    · rintro ⟨h1, h2, h3⟩
      exact ⟨⟨⟨h1, h2, fun i hi => h3 i (by omega)⟩, (h3 k (by omega)).1⟩, (h3 k (by omega)).2⟩

/-- What is right. -/
structure Right (pts : List Pt) : Prop where
  pos : 1 ≤ pts.length
  most : pts.length ≤ 16
  a : ∀ (i : Nat) (p : Pt), pts[i]? = some p → okA p
  b : ∀ (i : Nat) (p q : Pt), pts[i]? = some p → pts[i + 1]? = some q → p.1 < q.1 ∧ p.2 ≤ q.2

theorem right_of {pts : List Pt} (h : rightB pts = true) : Right pts := by
  have h' := (fl_nil pts.length).1 (of_decide_eq_true h)
  refine ⟨h'.1, h'.2.1, fun i p hp => ?_, fun i p q hp hq => ?_⟩
  · have hi : i < pts.length := (List.getElem?_eq_some_iff.1 hp).1
    have := (h'.2.2 i hi).1
    rwa [getD_of hp] at this
  · have hi : i + 1 < pts.length := (List.getElem?_eq_some_iff.1 hq).1
    have := (h'.2.2 (i + 1) hi).2 (by omega)
    rwa [show i + 1 - 1 = i from rfl, getD_of hp, getD_of hq] at this

theorem right_mk {pts : List Pt} (h : Right pts) : rightB pts = true := by
  refine decide_eq_true ((fl_nil pts.length).2 ⟨h.pos, h.most, fun i hi => ?_⟩)
  have hp : pts[i]? = some pts[i] := List.getElem?_eq_getElem hi
  refine ⟨by rw [getD_of hp]; exact h.a i _ hp, fun h0 => ?_⟩
  have hq : pts[i - 1]? = some (pts[i - 1]'(by omega)) := List.getElem?_eq_getElem (by omega)
  have := h.b (i - 1) _ pts[i] hq (by rw [show i - 1 + 1 = i by omega]; exact hp)
  rw [getD_of hp, getD_of hq]
  exact this

set_option maxHeartbeats 400000 in
theorem right_any (A : Option Addr) (n c : Nat) (pts : List Pt) (hlen : pts.length = n) (hn : n ≤ 40) (w : World) (hR : PR w A pts) (hP : PB pts) :
    Calls Tryd.prog 24 #[.slice A n c] w fun e w' => e = .returned (.bool (rightB pts)) ∧ Below w.heap.size w w' := by
  have H := St.start w
  have hlen := Lib.hid hlen
  go_enter Tryd.func24, Tryd.ntmps24
  go_wp2_with fail
  refine (check_any A n c pts hlen.out hn w hR hP).mono ?_
  rintro e w1 ⟨u, m, rfl, hrow, hb⟩
  obtain ⟨A', c', rfl⟩ := ownsRow_form hrow
  have key : rightB pts = ((m : Int) == 0) := by
    have h1 := hrow.1
    unfold rightB
    rw [hlen.out]
    by_cases h : fl pts n = []
    · rw [decide_eq_true h]
      rw [h] at h1
      have : m = 0 := by simp at h1; omega
      subst this; rfl
    · rw [decide_eq_false h]
      have : (fl pts n).length ≠ 0 := fun h0 => h (List.eq_nil_of_length_eq_zero h0)
      symm; rw [beq_eq_false_iff_ne]; omega
  have key := Lib.hid key
  clear hrow
  replace H := H.ext hb
  clear hb
  go_wp2
  go_ret
  exact ⟨ret_bool key.out.symm, H.below⟩

/-- How many points depart before t. -/
def lowB (pts : List Pt) (t : Int) : Nat := (pts.takeWhile fun p => decide (p.1 < t)).length

theorem mono_T {pts : List Pt} (h : Right pts) : ∀ (d i : Nat) (p q : Pt), pts[i]? = some p → pts[i + d + 1]? = some q → p.1 < q.1
  | 0, i, p, q, hp, hq => (h.b i p q hp hq).1
  | d + 1, i, p, q, hp, hq => by
    have hi : i + (d + 1) + 1 < pts.length := (List.getElem?_eq_some_iff.1 hq).1
    have hr : pts[i + d + 1]? = some (pts[i + d + 1]'(by omega)) := List.getElem?_eq_getElem (by omega)
    have h1 := mono_T h d i p _ hp hr
    have h2 := (h.b (i + d + 1) _ q hr hq).1
    omega
theorem mono_T' {pts : List Pt} (h : Right pts) {i j : Nat} {p q : Pt} (hij : i < j) (hp : pts[i]? = some p) (hq : pts[j]? = some q) : p.1 < q.1 :=
  mono_T h (j - i - 1) i p q hp (by rw [show i + (j - i - 1) + 1 = j by omega]; exact hq)

end Go.Proofs.YtdpgdbkacmmmjaaDoor
