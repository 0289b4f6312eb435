/- Package travel: Slower: plain; rows of points. -/
import Derived.Test.YtdpgdbkacmmmjaaDoorTI
import Derived.Laws.OwnMore
namespace Go.Proofs.YtdpgdbkacmmmjaaDoor
open Go.RowKit

def flat (ps : List Pt) : List Value := ps.flatMap fun p => [.int .i64 p.1, .int .i64 p.2]
theorem flat_len : ∀ ps : List Pt, (flat ps).length = ps.length * 2
  | [] => rfl
  | p :: ps => by
    have := flat_len ps
    unfold flat at *
    rw [List.flatMap_cons, List.length_append, this]; simp; omega
theorem flat_append (a b : List Pt) : flat (a ++ b) = flat a ++ flat b := by unfold flat; rw [List.flatMap_append]
theorem flat_get : ∀ (ps : List Pt) (i : Nat) (p : Pt), ps[i]? = some p → (flat ps)[i * 2]? = some (.int .i64 p.1) ∧ (flat ps)[i * 2 + 1]? = some (.int .i64 p.2)
  | [], i, p, h => by simp at h
  | q :: ps, 0, p, h => by simp at h; subst h; exact ⟨rfl, rfl⟩
  | q :: ps, i + 1, p, h => by
    have h1 := flat_get ps i p (by simpa using h)
    have e : flat (q :: ps) = .int .i64 q.1 :: .int .i64 q.2 :: flat ps := rfl
    rw [e, show (i + 1) * 2 = i * 2 + 1 + 1 by omega]
    simpa using h1

theorem PR_row {w : World} {base n c : Nat} {e : TypeId} {A : Option Addr} {ps : List Pt} (h : w.ownsRow base e 2 (.slice A n c) n (flat ps)) : PR w A ps := by
  have hl := h.1
  rw [flat_len] at hl
  intro i p hp
  have hi := at_lt hp
  rcases h.2 with ⟨_, hn⟩ | ⟨g, cap, cur, hv, _, hg, _⟩
  · omega
  · obtain ⟨rfl, rfl⟩ : A = some ⟨g, 0, none⟩ ∧ c = cap := by cases hv; exact ⟨rfl, rfl⟩
    obtain ⟨f1, f2⟩ := flat_get ps i p hp
    refine ⟨g, 0, rfl, (Array.getElem?_eq_some_iff.1 hg).1, ?_, ?_⟩
    · rw [Nat.zero_add, h.cellAt _ (by omega)]; exact f1
    · rw [Nat.zero_add, h.cellAt _ (by omega)]; exact f2
theorem row_len {w : World} {base n : Nat} {e : TypeId} {v : Value} {ps : List Pt} (h : w.ownsRow base e 2 v n (flat ps)) : ps.length = n := by
  have := h.1; rw [flat_len] at this; omega

/-- Points before a delay, of the first k. -/
def F1 (pts : List Pt) (f : Int) (k : Nat) : List Pt := (pts.take k).filter fun p => decide (p.1 < f - 1)
/-- Points behind it, later. -/
def F2 (pts : List Pt) (f d : Int) (k : Nat) : List Pt := ((pts.take k).filter fun p => decide (f < p.1)).map fun p => (p.1, p.2 + d)
def mid (pts : List Pt) (f : Int) : List Pt := if 0 < f then [(f - 1, arrV pts (f - 1))] else []
def slow (pts : List Pt) (f d : Int) : List Pt := F1 pts f pts.length ++ mid pts f ++ [(f, arrV pts f + d)] ++ F2 pts f d pts.length
def slR (pts : List Pt) (f d : Int) : List Pt × Int :=
  if rightB pts = true ∧ (0 ≤ f ∧ f ≤ 4096) ∧ (0 ≤ d ∧ d ≤ 4096) then
    if 16 < (slow pts f d).length then ([], 4) else if (slow pts f d).any (fun p => decide (p.1 + 4096 < p.2)) then ([], 2) else (slow pts f d, 0)
  else ([], 2)

theorem take_next {pts : List Pt} {k : Nat} {p : Pt} (h : pts[k]? = some p) : pts.take (k + 1) = pts.take k ++ [p] := by
  rw [List.take_add_one, h]; rfl
theorem F1_zero (pts : List Pt) (f : Int) : F1 pts f 0 = [] := rfl
theorem F2_zero (pts : List Pt) (f d : Int) : F2 pts f d 0 = [] := rfl
theorem F1_yes {pts : List Pt} {k : Nat} {p : Pt} {f : Int} (h : pts[k]? = some p) (h' : p.1 < f - 1) : F1 pts f (k + 1) = F1 pts f k ++ [p] := by
  unfold F1; rw [take_next h, List.filter_append, List.filter_cons_of_pos (by simpa using h')]; rfl
theorem F1_no {pts : List Pt} {k : Nat} {p : Pt} {f : Int} (h : pts[k]? = some p) (h' : ¬ p.1 < f - 1) : F1 pts f (k + 1) = F1 pts f k := by
  unfold F1; rw [take_next h, List.filter_append, List.filter_cons_of_neg (by simpa using h')]; simp
theorem F2_yes {pts : List Pt} {k : Nat} {p : Pt} {f d : Int} (h : pts[k]? = some p) (h' : f < p.1) : F2 pts f d (k + 1) = F2 pts f d k ++ [(p.1, p.2 + d)] := by
  unfold F2; rw [take_next h, List.filter_append, List.filter_cons_of_pos (by simpa using h'), List.map_append]; rfl
theorem F2_no {pts : List Pt} {k : Nat} {p : Pt} {f d : Int} (h : pts[k]? = some p) (h' : ¬ f < p.1) : F2 pts f d (k + 1) = F2 pts f d k := by
  unfold F2; rw [take_next h, List.filter_append, List.filter_cons_of_neg (by simpa using h'), List.map_append]; simp
theorem F1_len (pts : List Pt) (f : Int) (k : Nat) : (F1 pts f k).length ≤ k := by
  unfold F1; exact Nat.le_trans (List.length_filter_le _ _) (by rw [List.length_take]; omega)
theorem F2_len (pts : List Pt) (f d : Int) (k : Nat) : (F2 pts f d k).length ≤ k := by
  unfold F2; rw [List.length_map]; exact Nat.le_trans (List.length_filter_le _ _) (by rw [List.length_take]; omega)
theorem mid_len (pts : List Pt) (f : Int) : (mid pts f).length ≤ 1 := by unfold mid; split <;> simp
theorem point_info : (Tryd.prog.info? 38).map (fun i => (i.zero, i.size, i.bytes)) = some (some (.agg #[.int .i64 0, .int .i64 0]), 2, 16) := by kernel_rfl
theorem flat_one (p : Pt) : flat [p] = [.int .i64 p.1, .int .i64 p.2] := rfl
theorem flat_snoc (a : List Pt) (p : Pt) : flat a ++ [.int .i64 p.1, .int .i64 p.2] = flat (a ++ [p]) := (flat_append a [p]).symm

theorem flat_snoc2 (a : List Pt) (x y : Int) : flat a ++ [.int .i64 x, .int .i64 y] = flat (a ++ [(x, y)]) := flat_snoc a (x, y)
theorem slR_err {pts : List Pt} {f d : Int} (h : ¬ (rightB pts = true ∧ (0 ≤ f ∧ f ≤ 4096) ∧ (0 ≤ d ∧ d ≤ 4096))) : slR pts f d = ([], 2) := by unfold slR; rw [if_neg h]

theorem slow_bound {pts : List Pt} (hr : Right pts) {f d : Int} (hf : 0 ≤ f) (hf' : f ≤ 4096) (hd : 0 ≤ d) (hd' : d ≤ 4096) {q : Pt} (hq : q ∈ slow pts f d) : 0 ≤ q.1 ∧ q.1 ≤ 4096 ∧ q.1 ≤ q.2 ∧ q.2 ≤ 32768 := by
  have hall : ∀ p ∈ pts, okA p := fun p hp => by
    obtain ⟨i, hi⟩ := List.getElem?_of_mem hp
    exact hr.a i p hi
  unfold slow at hq
  rw [List.mem_append, List.mem_append, List.mem_append] at hq
  rcases hq with ((hq | hq) | hq) | hq
  · unfold F1 at hq
    have := hall q (List.mem_of_mem_take ((List.mem_filter.1 hq).1))
    unfold okA at this; omega
  · unfold mid at hq
    split at hq
    · have e := List.mem_singleton.1 hq
      subst e
      have := arrV_le hr (t := f - 1) (by omega)
      have := arrV_ge hr (f - 1)
      dsimp only; omega
    · cases hq
  · have e := List.mem_singleton.1 hq
    subst e
    have := arrV_le hr (t := f) (by omega)
    have := arrV_ge hr f
    dsimp only; omega
  · unfold F2 at hq
    obtain ⟨p, hp, rfl⟩ := List.mem_map.1 hq
    have := hall p (List.mem_of_mem_take ((List.mem_filter.1 hp).1))
    unfold okA at this; dsimp only; omega
end Go.Proofs.YtdpgdbkacmmmjaaDoor
