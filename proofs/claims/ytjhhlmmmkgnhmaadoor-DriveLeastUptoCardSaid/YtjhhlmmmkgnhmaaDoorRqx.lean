/- Plain: beginnings of lists of rests, their labels, and those that no earlier one beats. -/
import Derived.Test.YtjhhlmmmkgnhmaaDoorRqv
namespace Go.Proofs.YtjhhlmmmkgnhmaaDoor
set_option linter.unusedSimpArgs false
set_option linter.unusedVariables false
set_option linter.unusedSectionVars false
/-- A list of rests as a number: the last one counts least. -/
def valB (b : List Bool) : Nat := b.foldl (fun v c => 2 * v + (if c = true then 1 else 0)) 0
theorem valB_snoc (b : List Bool) (c : Bool) : valB (b ++ [c]) = 2 * valB b + (if c = true then 1 else 0) := by simp [valB, List.foldl_append]
theorem valB_lt (b : List Bool) : valB b < 2 ^ b.length := by
  have : ∀ (b : List Bool) (v : Nat), b.foldl (fun v c => 2 * v + (if c = true then 1 else 0)) v < (v + 1) * 2 ^ b.length := by
    intro b
    induction b with
    | nil => intro v; simp
    | cons c b ih =>
      intro v
      have := ih (2 * v + (if c = true then 1 else 0))
      rw [List.foldl_cons, List.length_cons, Nat.pow_succ]
      refine Nat.lt_of_lt_of_le this ?_
      rw [show (v + 1) * (2 ^ b.length * 2) = (2 * v + 2) * 2 ^ b.length by rw [Nat.mul_comm (2 ^ b.length) 2, ← Nat.mul_assoc]; congr 1; omega]
      exact Nat.mul_le_mul_right _ (by split <;> omega)
  simpa [valB] using this b 0
section
variable (n : T_api_Network) (t : T_api_Type) (stops : List T_api_Stop) (start : Int)
/-- The label behind a beginning. -/
noncomputable def preB (b : List Bool) : T_drive_label × Int := runK n t stops b 0 (begS t start)
def okB (b : List Bool) : Prop := (preB n t stops start b).2 = 0
noncomputable def lbB (b : List Bool) : T_drive_label := (preB n t stops start b).1
def beatB (d b : List Bool) : Prop := (lbB n t stops start d).ready = (lbB n t stops start b).ready ∧ (lbB n t stops start d).since ≤ (lbB n t stops start b).since
open Classical in
noncomputable def stepB (out : List (List Bool)) (b : List Bool) : List (List Bool) := if okB n t stops start b ∧ ¬ ∃ d ∈ out, beatB n t stops start d b then out ++ [b] else out
end
section
variable {n : T_api_Network} {t : T_api_Type} {stops : List T_api_Stop} {start : Int}
theorem runK_snoc : ∀ (b : List Bool) (k : Nat) (l : T_drive_label) (c : Bool), (runK n t stops b k l).2 = 0 → runK n t stops (b ++ [c]) k l = if (nxt n t stops (runK n t stops b k l).1 (k + b.length) c).2 ≠ 0 then (zLab, (nxt n t stops (runK n t stops b k l).1 (k + b.length) c).2) else ((nxt n t stops (runK n t stops b k l).1 (k + b.length) c).1, 0)
  | [], k, l, c, _ => rfl
  | a :: b, k, l, c, h => by
    by_cases h0 : (nxt n t stops l k a).2 = 0
    · have e : ∀ r, runK n t stops (a :: r) k l = runK n t stops r (k + 1) (nxt n t stops l k a).1 := fun r => by
        simp only [runK]; rw [if_neg (by simpa using h0)]
      rw [e] at h
      have := runK_snoc b (k + 1) _ c h
      rw [List.cons_append, e, e, this, List.length_cons, show k + 1 + b.length = k + (b.length + 1) by omega]
    · simp only [runK] at h
      rw [if_pos h0] at h; exact absurd h h0
theorem runK_bad : ∀ (b : List Bool) (k : Nat) (l : T_drive_label) (c : Bool), (runK n t stops b k l).2 ≠ 0 → (runK n t stops (b ++ [c]) k l).2 ≠ 0
  | [], k, l, c, h => by simp [runK] at h
  | a :: b, k, l, c, h => by
    simp only [runK, List.cons_append] at h ⊢
    by_cases h0 : (nxt n t stops l k a).2 = 0
    · rw [if_neg (by simpa using h0)] at h ⊢
      exact runK_bad b (k + 1) _ c h
    · rw [if_pos h0]; exact h0
theorem okB_snoc {b : List Bool} {c : Bool} : okB n t stops start (b ++ [c]) ↔ okB n t stops start b ∧ (nxt n t stops (lbB n t stops start b) b.length c).2 = 0 := by
  unfold okB lbB preB
  constructor
  · intro h
    by_cases h0 : (runK n t stops b 0 (begS t start)).2 = 0
    · refine ⟨h0, ?_⟩
      rw [runK_snoc b 0 _ c h0, Nat.zero_add] at h
      split at h
      · rename_i h1; exact absurd h h1
      · rename_i h1; simpa using h1
    · exact absurd h (runK_bad b 0 _ c h0)
  · rintro ⟨h0, h1⟩
    rw [runK_snoc b 0 _ c h0, Nat.zero_add, if_neg (by simpa using h1)]
theorem lbB_snoc {b : List Bool} {c : Bool} (h : okB n t stops start (b ++ [c])) : lbB n t stops start (b ++ [c]) = (nxt n t stops (lbB n t stops start b) b.length c).1 := by
  obtain ⟨h0, h1⟩ := okB_snoc.1 h
  unfold lbB preB at *
  unfold okB preB at h0
  rw [runK_snoc b 0 _ c h0, Nat.zero_add, if_neg (by simpa using h1)]
theorem runK_labI (hT : TripOK n t stops) : ∀ (b : List Bool) (k : Nat) (l : T_drive_label), LabI k l → k + b.length ≤ stops.length → (runK n t stops b k l).2 = 0 → LabI (k + b.length) (runK n t stops b k l).1
  | [], k, l, hl, _, _ => hl
  | a :: b, k, l, hl, hk, h => by
    simp only [runK] at h ⊢
    simp only [List.length_cons] at hk
    by_cases h0 : (nxt n t stops l k a).2 = 0
    · rw [if_neg (by simpa using h0)] at h ⊢
      have := runK_labI hT b (k + 1) _ (nxt_lab hT hl (by omega) h0) (by omega) h
      rwa [List.length_cons, show k + (b.length + 1) = k + 1 + b.length by omega]
    · rw [if_pos h0] at h; exact absurd h h0
theorem lbB_labI (hT : TripOK n t stops) (hs : 0 ≤ start ∧ start ≤ 4096) {b : List Bool} (hb : b.length ≤ stops.length) (h : okB n t stops start b) : LabI b.length (lbB n t stops start b) := by
  have := runK_labI hT b 0 (begS t start) (beg_lab hT hs) (by omega) h
  rwa [Nat.zero_add] at this
/-- What beats goes on beating. -/
theorem nxt_dom (hT : TripOK n t stops) {k : Nat} {l m : T_drive_label} {c : Bool} (hl : LabI k l) (hm : LabI k m) (h1 : l.ready = m.ready) (h2 : l.since ≤ m.since) (h : (nxt n t stops m k c).2 = 0) :
    (nxt n t stops l k c).2 = 0 ∧ (nxt n t stops l k c).1.ready = (nxt n t stops m k c).1.ready ∧ (nxt n t stops l k c).1.since ≤ (nxt n t stops m k c).1.since := by
  obtain ⟨g0, g1, g2, g3⟩ := nxt_ok hT hm h
  have hd : depS t l c = depS t m c := by unfold depS; rw [h1]
  have hs : sinS l c ≤ sinS m c := by unfold sinS; split <;> omega
  have h0 : (nxt n t stops l k c).2 = 0 := by
    unfold nxt nxtD
    rw [hd, if_neg (by simpa using g0), if_neg (by omega), if_neg (by omega)]
  obtain ⟨_, _, _, k3⟩ := nxt_ok hT hl h0
  refine ⟨h0, ?_, ?_⟩
  · rw [k3, g3, hd]
  · rw [k3, g3, hd]
    show sinS l c + _ - _ ≤ sinS m c + _ - _
    omega
theorem beat_snoc (hT : TripOK n t stops) (hs : 0 ≤ start ∧ start ≤ 4096) {a b : List Bool} {c : Bool} (hl : a.length = b.length) (hb : b.length ≤ stops.length) (ha : okB n t stops start a) (h : okB n t stops start (b ++ [c])) (hbt : beatB n t stops start a b) :
    okB n t stops start (a ++ [c]) ∧ beatB n t stops start (a ++ [c]) (b ++ [c]) := by
  obtain ⟨h0, h1⟩ := okB_snoc.1 h
  have la := lbB_labI hT hs (by omega) ha
  have lb := lbB_labI hT hs hb h0
  rw [hl] at la
  obtain ⟨d1, d2, d3⟩ := nxt_dom hT la lb hbt.1 hbt.2 h1
  have ho : okB n t stops start (a ++ [c]) := okB_snoc.2 ⟨ha, by rw [hl]; exact d1⟩
  refine ⟨ho, ?_⟩
  unfold beatB
  rw [lbB_snoc ho, lbB_snoc h, hl]
  exact ⟨d2, d3⟩
theorem beat_refl {a : List Bool} : beatB n t stops start a a := ⟨rfl, Int.le_refl _⟩
theorem beat_trans {a b c : List Bool} (h : beatB n t stops start a b) (h' : beatB n t stops start b c) : beatB n t stops start a c := ⟨h.1.trans h'.1, Int.le_trans h.2 h'.2⟩
/-- What is kept. -/
theorem fold_ok : ∀ (items out : List (List Bool)), (∀ b ∈ out, okB n t stops start b) → out.Pairwise (fun a b => valB a < valB b) → items.Pairwise (fun a b => valB a < valB b) → (∀ a ∈ out, ∀ b ∈ items, valB a < valB b) →
    (∀ b ∈ items.foldl (stepB n t stops start) out, okB n t stops start b ∧ (b ∈ out ∨ b ∈ items)) ∧ (items.foldl (stepB n t stops start) out).Pairwise (fun a b => valB a < valB b) ∧ (∀ b ∈ out, b ∈ items.foldl (stepB n t stops start) out) ∧
    (∀ b ∈ items, okB n t stops start b → ∃ d ∈ items.foldl (stepB n t stops start) out, valB d ≤ valB b ∧ beatB n t stops start d b)
  | [], out, h1, h2, _, _ => ⟨fun b hb => ⟨h1 b hb, .inl hb⟩, h2, fun b hb => hb, fun b hb => by simp at hb⟩
  | x :: items, out, h1, h2, h3, h4 => by
    rw [List.pairwise_cons] at h3
    rw [List.foldl_cons]
    by_cases hx : okB n t stops start x ∧ ¬ ∃ d ∈ out, beatB n t stops start d x
    · have hst : stepB n t stops start out x = out ++ [x] := if_pos hx
      rw [hst]
      have key := fold_ok items (out ++ [x]) (fun b hb => by
        rcases List.mem_append.1 hb with h | h
        · exact h1 b h
        · rw [List.mem_singleton.1 h]; exact hx.1) (by
        rw [List.pairwise_append]
        exact ⟨h2, List.pairwise_singleton _ _, fun a ha b hb => by rw [List.mem_singleton.1 hb]; exact h4 a ha x (by simp)⟩) h3.2 (fun a ha b hb => by
        rcases List.mem_append.1 ha with h | h
        · exact h4 a h b (by simp [hb])
        · rw [List.mem_singleton.1 h]; exact h3.1 b hb)
      obtain ⟨k1, k2, k3, k4⟩ := key
      refine ⟨fun b hb => ⟨(k1 b hb).1, ?_⟩, k2, fun b hb => k3 b (by simp [hb]), fun b hb hok => ?_⟩
      · rcases (k1 b hb).2 with h | h
        · rcases List.mem_append.1 h with h' | h'
          · exact .inl h'
          · rw [List.mem_singleton.1 h']; exact .inr (by simp)
        · exact .inr (by simp [h])
      · rcases List.mem_cons.1 hb with rfl | hb
        · exact ⟨b, k3 b (by simp), Nat.le_refl _, beat_refl⟩
        · exact k4 b hb hok
    · have hst : stepB n t stops start out x = out := if_neg hx
      rw [hst]
      obtain ⟨k1, k2, k3, k4⟩ := fold_ok items out h1 h2 h3.2 (fun a ha b hb => h4 a ha b (by simp [hb]))
      refine ⟨fun b hb => ⟨(k1 b hb).1, ?_⟩, k2, k3, fun b hb hok => ?_⟩
      · rcases (k1 b hb).2 with h | h
        · exact .inl h
        · exact .inr (by simp [h])
      · rcases List.mem_cons.1 hb with rfl | hb
        · obtain ⟨d, hd, hbt⟩ : ∃ d ∈ out, beatB n t stops start d b := Classical.byContradiction fun h => hx ⟨hok, h⟩
          exact ⟨d, k3 d hd, Nat.le_of_lt (h4 d hd b (by simp)), hbt⟩
        · exact k4 b hb hok
end
/-! ### Stages -/
section
variable (rests : List Bool)
/-- Rests that may be chosen at departure k: those that are given, or both. -/
def chB (k : Nat) : List Bool := match rests[k]? with
  | some b => [b]
  | none => [false, true]
/-- A list follows what is given. -/
def folB (b : List Bool) : Prop := ∀ i x, b[i]? = some x → x ∈ chB rests i
def itemsB (P : List (List Bool)) (k : Nat) : List (List Bool) := P.flatMap fun a => (chB rests k).map fun c => a ++ [c]
end
section
variable {n : T_api_Network} {t : T_api_Type} {stops : List T_api_Stop} {start : Int} {rests : List Bool}
structure StB (n : T_api_Network) (t : T_api_Type) (stops : List T_api_Stop) (start : Int) (rests : List Bool) (k : Nat) (P : List (List Bool)) : Prop where
  ok : ∀ b ∈ P, okB n t stops start b ∧ b.length = k ∧ folB rests b
  inc : P.Pairwise (fun a b => valB a < valB b)
  cov : ∀ b, b.length = k → folB rests b → okB n t stops start b → ∃ a ∈ P, valB a ≤ valB b ∧ beatB n t stops start a b
theorem chB_inc (k : Nat) : (chB rests k).Pairwise (fun a b => (if a = true then 1 else 0 : Nat) < (if b = true then 1 else 0)) := by
  unfold chB
  split
  · exact List.pairwise_singleton _ _
  · simp
theorem fol_snoc {b : List Bool} {c : Bool} : folB rests (b ++ [c]) ↔ folB rests b ∧ c ∈ chB rests b.length := by
  unfold folB
  constructor
  · intro h
    refine ⟨fun i x hx => h i x (by rw [List.getElem?_append_left (List.getElem?_eq_some_iff.1 hx).1]; exact hx), h b.length c (by simp)⟩
  · rintro ⟨h1, h2⟩ i x hx
    rcases Nat.lt_or_ge i b.length with hi | hi
    · rw [List.getElem?_append_left hi] at hx; exact h1 i x hx
    · rw [List.getElem?_append_right hi] at hx
      have : i - b.length = 0 := by
        have := (List.getElem?_eq_some_iff.1 hx).1; simp at this; omega
      rw [this] at hx
      have hi' : i = b.length := by omega
      subst hi'
      have : c = x := by simpa using hx
      rw [← this]; exact h2
theorem items_inc {P : List (List Bool)} (k : Nat) (h : P.Pairwise (fun a b => valB a < valB b)) : (itemsB rests P k).Pairwise (fun a b => valB a < valB b) := by
  unfold itemsB
  induction P with
  | nil => simp
  | cons a P ih =>
    rw [List.pairwise_cons] at h
    rw [List.flatMap_cons, List.pairwise_append]
    refine ⟨?_, ih h.2, ?_⟩
    · rw [List.pairwise_map]
      exact (chB_inc (rests := rests) k).imp fun hab => by rw [valB_snoc, valB_snoc]; omega
    · intro x hx y hy
      obtain ⟨c, _, rfl⟩ := List.mem_map.1 hx
      obtain ⟨b, hb, hy⟩ := List.mem_flatMap.1 hy
      obtain ⟨d, _, rfl⟩ := List.mem_map.1 hy
      have := h.1 b hb
      rw [valB_snoc, valB_snoc]
      split <;> split <;> omega
theorem StB.zero : StB n t stops start rests 0 [[]] :=
  ⟨fun b hb => by rw [List.mem_singleton.1 hb]; exact ⟨rfl, rfl, fun i x hx => by simp at hx⟩, List.pairwise_singleton _ _, fun b hb _ _ => ⟨[], by simp, by rw [List.length_eq_zero_iff.1 hb]; exact Nat.le_refl _, by rw [List.length_eq_zero_iff.1 hb]; exact beat_refl⟩⟩
theorem StB.next (hT : TripOK n t stops) (hs : 0 ≤ start ∧ start ≤ 4096) {k : Nat} {P : List (List Bool)} (h : StB n t stops start rests k P) (hk : k ≤ stops.length) : StB n t stops start rests (k + 1) ((itemsB rests P k).foldl (stepB n t stops start) []) := by
  obtain ⟨k1, k2, k3, k4⟩ := fold_ok (n := n) (t := t) (stops := stops) (start := start) (itemsB rests P k) [] (fun b hb => by simp at hb) List.Pairwise.nil (items_inc k h.inc) (fun a ha => by simp at ha)
  refine ⟨fun b hb => ⟨(k1 b hb).1, ?_⟩, k2, fun b hb hf hok => ?_⟩
  · rcases (k1 b hb).2 with h' | h'
    · simp at h'
    · obtain ⟨a, ha, hx⟩ := List.mem_flatMap.1 h'
      obtain ⟨c, hc, rfl⟩ := List.mem_map.1 hx
      obtain ⟨_, q2, q3⟩ := h.ok a ha
      exact ⟨by simp [q2], fol_snoc.2 ⟨q3, by rw [q2]; exact hc⟩⟩
  · obtain ⟨b0, c, rfl⟩ : ∃ b0 c, b = b0 ++ [c] := by
      rcases List.eq_nil_or_concat b with rfl | ⟨b0, c, rfl⟩
      · simp at hb
      · exact ⟨b0, c, by simp⟩
    have hb0 : b0.length = k := by simpa using hb
    obtain ⟨f1, f2⟩ := fol_snoc.1 hf
    obtain ⟨o1, o2⟩ := okB_snoc.1 hok
    obtain ⟨a, ha, hv, hbt⟩ := h.cov b0 hb0 f1 o1
    obtain ⟨q1, q2, q3⟩ := h.ok a ha
    obtain ⟨r1, r2⟩ := beat_snoc hT hs (by omega) (by omega) q1 hok hbt
    have hmem : a ++ [c] ∈ itemsB rests P k := List.mem_flatMap.2 ⟨a, ha, List.mem_map.2 ⟨c, by rw [← hb0]; exact f2, rfl⟩⟩
    obtain ⟨d, hd, hdv, hdb⟩ := k4 _ hmem r1
    refine ⟨d, hd, ?_, beat_trans hdb r2⟩
    rw [valB_snoc] at hdv ⊢
    omega
end
end Go.Proofs.YtjhhlmmmkgnhmaaDoor
