/- Package travel: what Slower answers: plain laws. -/
import Derived.Test.YtdpgdbkacmmmjaaDoorTJ
namespace Go.Proofs.YtdpgdbkacmmmjaaDoor
open Go.RowKit

theorem pts_sorted {pts : List Pt} (hr : Right pts) : pts.Pairwise fun p q => p.1 < q.1 := by
  rw [List.pairwise_iff_getElem]
  intro i j hi hj hij
  exact mono_T' hr hij (List.getElem?_eq_getElem hi) (List.getElem?_eq_getElem hj)

theorem F1_mem {pts : List Pt} (hr : Right pts) {f : Int} {k : Nat} {q : Pt} (h : q ∈ F1 pts f k) : q.1 < f - 1 ∧ q.2 = arrV pts q.1 := by
  unfold F1 at h
  obtain ⟨h1, h2⟩ := List.mem_filter.1 h
  obtain ⟨i, hi⟩ := List.getElem?_of_mem (List.mem_of_mem_take h1)
  exact ⟨of_decide_eq_true h2, (arrV_at hr hi).symm⟩
theorem F2_mem {pts : List Pt} (hr : Right pts) {f d : Int} {k : Nat} {q : Pt} (h : q ∈ F2 pts f d k) : f < q.1 ∧ q.2 = arrV pts q.1 + d := by
  unfold F2 at h
  obtain ⟨p, hp, rfl⟩ := List.mem_map.1 h
  obtain ⟨h1, h2⟩ := List.mem_filter.1 hp
  obtain ⟨i, hi⟩ := List.getElem?_of_mem (List.mem_of_mem_take h1)
  exact ⟨of_decide_eq_true h2, by rw [arrV_at hr hi]⟩
theorem mid_mem {pts : List Pt} {f : Int} {q : Pt} (h : q ∈ mid pts f) : q.1 = f - 1 ∧ q.2 = arrV pts q.1 := by
  unfold mid at h
  split at h
  · have e := List.mem_singleton.1 h; subst e; exact ⟨rfl, rfl⟩
  · cases h
theorem slow_mem {pts : List Pt} {f d : Int} {q : Pt} (h : q ∈ slow pts f d) : q ∈ F1 pts f pts.length ∨ q ∈ mid pts f ∨ q = (f, arrV pts f + d) ∨ q ∈ F2 pts f d pts.length := by
  unfold slow at h
  rw [List.mem_append, List.mem_append, List.mem_append, List.mem_singleton] at h
  rcases h with ((h | h) | h) | h
  · exact .inl h
  · exact .inr (.inl h)
  · exact .inr (.inr (.inl h))
  · exact .inr (.inr (.inr h))

/-- Each point of the later function lies on the arrivals, later from f on. -/
theorem slow_val {pts : List Pt} (hr : Right pts) {f d : Int} {q : Pt} (h : q ∈ slow pts f d) : q.2 = arrV pts q.1 + (if f ≤ q.1 then d else 0) := by
  rcases slow_mem h with h | h | h | h
  · obtain ⟨h1, h2⟩ := F1_mem hr h
    rw [if_neg (by omega)]; omega
  · obtain ⟨h1, h2⟩ := mid_mem h
    rw [if_neg (by omega)]; omega
  · subst h; dsimp only; rw [if_pos (Int.le_refl _)]
  · obtain ⟨h1, h2⟩ := F2_mem hr h
    rw [if_pos (by omega)]; omega

theorem F1_sorted {pts : List Pt} (hr : Right pts) (f : Int) (k : Nat) : (F1 pts f k).Pairwise fun p q => p.1 < q.1 := by
  unfold F1
  exact ((pts_sorted hr).sublist (List.take_sublist _ _)).sublist List.filter_sublist
theorem F2_sorted {pts : List Pt} (hr : Right pts) (f d : Int) (k : Nat) : (F2 pts f d k).Pairwise fun p q => p.1 < q.1 := by
  unfold F2
  rw [List.pairwise_map]
  exact ((pts_sorted hr).sublist (List.take_sublist _ _)).sublist List.filter_sublist
theorem mid_sorted (pts : List Pt) (f : Int) : (mid pts f).Pairwise fun p q => p.1 < q.1 := by
  unfold mid; split <;> simp

theorem slow_sorted {pts : List Pt} (hr : Right pts) (f d : Int) : (slow pts f d).Pairwise fun p q => p.1 < q.1 := by
  unfold slow
  rw [List.pairwise_append, List.pairwise_append, List.pairwise_append]
  refine ⟨⟨⟨F1_sorted hr _ _, mid_sorted _ _, fun a ha b hb => ?_⟩, by simp, fun a ha b hb => ?_⟩, F2_sorted hr _ _ _, fun a ha b hb => ?_⟩
  · have := (F1_mem hr ha).1; have := (mid_mem hb).1; omega
  · have e := List.mem_singleton.1 hb
    subst e
    rcases List.mem_append.1 ha with h | h
    · have := (F1_mem hr h).1; dsimp only; omega
    · have := (mid_mem h).1; dsimp only; omega
  · have hb := (F2_mem hr hb).1
    rcases List.mem_append.1 ha with h | h
    · rcases List.mem_append.1 h with h | h
      · have := (F1_mem hr h).1; omega
      · have := (mid_mem h).1; omega
    · have e := List.mem_singleton.1 h
      subst e
      exact hb

theorem slow_pos (pts : List Pt) (f d : Int) : 1 ≤ (slow pts f d).length := by
  unfold slow; simp only [List.length_append, List.length_singleton]; omega

theorem slow_right {pts : List Pt} (hr : Right pts) {f d : Int} (hf : 0 ≤ f) (hf' : f ≤ 4096) (hd : 0 ≤ d) (hd' : d ≤ 4096) (h16 : (slow pts f d).length ≤ 16) (hall : ∀ q ∈ slow pts f d, q.2 ≤ q.1 + 4096) : Right (slow pts f d) := by
  refine ⟨slow_pos _ _ _, h16, fun i p hp => ?_, fun i p q hp hq => ?_⟩
  · have hm := List.mem_of_getElem? hp
    have := slow_bound hr hf hf' hd hd' hm
    have := hall p hm
    unfold okA; omega
  · have hlt : p.1 < q.1 := by
      obtain ⟨hi, e1⟩ := List.getElem?_eq_some_iff.1 hp
      obtain ⟨hj, e2⟩ := List.getElem?_eq_some_iff.1 hq
      have := (List.pairwise_iff_getElem.1 (slow_sorted hr f d)) i (i + 1) hi hj (by omega)
      rwa [e1, e2] at this
    refine ⟨hlt, ?_⟩
    rw [slow_val hr (List.mem_of_getElem? hp), slow_val hr (List.mem_of_getElem? hq)]
    have := arrV_mono hr (Int.le_of_lt hlt)
    split <;> split <;> omega

/-- The specification's test of the later function is the program's. -/
theorem slR_right {pts : List Pt} (hr : Right pts) {f d : Int} (hf : 0 ≤ f) (hf' : f ≤ 4096) (hd : 0 ≤ d) (hd' : d ≤ 4096) (h16 : (slow pts f d).length ≤ 16) :
    (slow pts f d).any (fun p => decide (p.1 + 4096 < p.2)) = !rightB (slow pts f d) := by
  cases hb : rightB (slow pts f d)
  · rw [Bool.not_false]
    rw [List.any_eq_true]
    apply Classical.byContradiction
    intro h
    have hall : ∀ q ∈ slow pts f d, q.2 ≤ q.1 + 4096 := fun q hq => by
      apply Classical.byContradiction
      intro h'
      exact h ⟨q, hq, decide_eq_true (by omega)⟩
    rw [right_mk (slow_right hr hf hf' hd hd' h16 hall)] at hb
    cases hb
  · rw [Bool.not_true, List.any_eq_false]
    intro q hq
    obtain ⟨i, hi⟩ := List.getElem?_of_mem hq
    have := (right_of hb).a i q hi
    unfold okA at this
    simp; omega

theorem slow_PB {pts : List Pt} (hr : Right pts) {f d : Int} (hf : 0 ≤ f) (hf' : f ≤ 4096) (hd : 0 ≤ d) (hd' : d ≤ 4096) : PB (slow pts f d) := fun q hq => by
  have := slow_bound hr hf hf' hd hd' hq
  unfold inI; omega
end Go.Proofs.YtdpgdbkacmmmjaaDoor
