/- Walks of the small functions of package price and of its reference. -/
import Derived.Test.YtcmbckcjklociaaRows
import Derived.Test.YtcmbckcjklociaaSt
import Derived.Deep.DeepCutAuto
namespace Go.Proofs.Ytcmbckcjklociaa
open Go.RowKit

theorem ret_bool {a b : Bool} (h : a = b) : Ending.returned (.bool a) = .returned (.bool b) := by rw [h]
theorem ret_int {k : IntKind} {a b : Int} (h : a = b) : Ending.returned (.int k a) = .returned (.int k b) := by rw [h]
theorem ret_int2 {k k' : IntKind} {a b c d : Int} (h : a = b) (h' : c = d) : Ending.returned (.tuple #[.int k a, .int k' c]) = .returned (.tuple #[.int k b, .int k' d]) := by rw [h, h']

set_option maxHeartbeats 400000 in
theorem split_any (a b c d : Int) (w : World) :
    Calls Try.prog 25 #[.agg #[.int .i64 (a), .int .i64 (b), .int .i64 (c), .int .i64 (d)]] w fun e w' => e = .returned (.agg #[.int .i64 (a), .int .i64 (b), .int .i64 (c), .int .i64 (d)]) ∧ Below w.heap.size w w' := by
  go_enter Try.func25, Try.ntmps25
  go_wp2
  exact bodyPost_ret (v := .agg #[.int .i64 (a), .int .i64 (b), .int .i64 (c), .int .i64 (d)]) (by simp [results, Try.results25, go_sem]) rfl ⟨rfl, ((Below.refl _ _).alloc (Nat.le_refl _) _).alloc (by simp) _⟩

set_option maxHeartbeats 400000 in
theorem join_any (a b c d : Int) (w : World) :
    Calls Try.prog 26 #[.agg #[.int .i64 (a), .int .i64 (b), .int .i64 (c), .int .i64 (d)]] w fun e w' => e = .returned (.agg #[.int .i64 (a), .int .i64 (b), .int .i64 (c), .int .i64 (d)]) ∧ Below w.heap.size w w' := by
  go_enter Try.func26, Try.ntmps26
  go_wp2
  exact bodyPost_ret (v := .agg #[.int .i64 (a), .int .i64 (b), .int .i64 (c), .int .i64 (d)]) (by simp [results, Try.results26, go_sem]) rfl ⟨rfl, ((Below.refl _ _).alloc (Nat.le_refl _) _).alloc (by simp) _⟩

def cmpI (a b : Int) : Int := if a < b then -1 else if b < a then 1 else 0
theorem below_same (w : World) : Below w.heap.size w w := Below.refl _ _

set_option maxHeartbeats 400000 in
theorem cmp_any (a b : Int) (w : World) :
    Calls Try.prog 27 #[.int .i64 a, .int .i64 b] w fun e w' => e = .returned (.int .i64 (cmpI a b)) ∧ Below w.heap.size w w' := by
  go_enter Try.func27, Try.ntmps27
  go_wp2
  all_goals
    go_ret
    exact ⟨ret_int (by unfold cmpI; first | rw [if_pos (by assumption)] | rw [if_neg (by omega), if_pos (by omega)] | rw [if_neg (by omega), if_neg (by omega)]), below_same _⟩

set_option maxHeartbeats 400000 in
theorem order_any (a b : Int) (w : World) :
    Calls Try.prog 28 #[.int .i64 a, .int .i64 b] w fun e w' => e = .returned (.int .i64 (cmpI a b)) ∧ w = w' := by
  go_enter Try.func28, Try.ntmps28
  go_wp2
  all_goals
    go_ret
    exact ⟨ret_int (by unfold cmpI; first | rw [if_pos (by assumption)] | rw [if_neg (by omega), if_pos (by omega)] | rw [if_neg (by omega), if_neg (by omega)]), rfl⟩

def rightB (a b c d : Int) : Bool := decide (0 ≤ a ∧ a ≤ 1073741824 ∧ 0 ≤ b ∧ b ≤ 15 ∧ 0 ≤ c ∧ c ≤ 15 ∧ 0 ≤ d ∧ d ≤ 65535)
theorem rightB_iff {a b c d : Int} : rightB a b c d = true ↔ (0 ≤ a ∧ a ≤ 1073741824 ∧ 0 ≤ b ∧ b ≤ 15 ∧ 0 ≤ c ∧ c ≤ 15 ∧ 0 ≤ d ∧ d ≤ 65535) := by unfold rightB; exact decide_eq_true_iff
theorem rightB_not {a b c d : Int} (h : ¬ (0 ≤ a ∧ a ≤ 1073741824 ∧ 0 ≤ b ∧ b ≤ 15 ∧ 0 ≤ c ∧ c ≤ 15 ∧ 0 ≤ d ∧ d ≤ 65535)) : rightB a b c d = false := by unfold rightB; exact decide_eq_false h

set_option maxHeartbeats 400000 in
theorem right_any (a b c d : Int) (w : World) :
    Calls Try.prog 12 #[.agg #[.int .i64 (a), .int .i64 (b), .int .i64 (c), .int .i64 (d)]] w fun e w' => e = .returned (.bool (rightB a b c d)) ∧ Below w.heap.size w w' := by
  go_enter Try.func12, Try.ntmps12
  go_wp2
  all_goals
    go_ret
    refine ⟨ret_bool ?_, (Below.refl _ _).alloc (Nat.le_refl _) _⟩
    first | (rw [rightB_not (by omega)]; done) | (unfold rightB; apply decide_eq_decide.2; omega)

def weightN (a b c d : Int) : Int := if a < 0 ∨ b < 0 ∨ c < 0 ∨ d < 0 then 0 else if 1073741824 < a ∨ 16 ≤ b ∨ 16 ≤ c ∨ 65536 ≤ d then 0 else ((a * 16 + b) * 16 + c) * 65536 + d
def weightE (a b c d : Int) : Int := if a < 0 ∨ b < 0 ∨ c < 0 ∨ d < 0 then 2 else if 1073741824 < a ∨ 16 ≤ b ∨ 16 ≤ c ∨ 65536 ≤ d then 4 else 0
theorem weight_neg {a b c d : Int} (h : a < 0 ∨ b < 0 ∨ c < 0 ∨ d < 0) : weightN a b c d = 0 ∧ weightE a b c d = 2 := by unfold weightN weightE; rw [if_pos h, if_pos h]; exact ⟨rfl, rfl⟩
theorem weight_big {a b c d : Int} (h : ¬ (a < 0 ∨ b < 0 ∨ c < 0 ∨ d < 0)) (h' : 1073741824 < a ∨ 16 ≤ b ∨ 16 ≤ c ∨ 65536 ≤ d) : weightN a b c d = 0 ∧ weightE a b c d = 4 := by
  unfold weightN weightE; rw [if_neg h, if_neg h, if_pos h', if_pos h']; exact ⟨rfl, rfl⟩
theorem weight_ok {a b c d : Int} (h : ¬ (a < 0 ∨ b < 0 ∨ c < 0 ∨ d < 0)) (h' : ¬ (1073741824 < a ∨ 16 ≤ b ∨ 16 ≤ c ∨ 65536 ≤ d)) : weightN a b c d = ((a * 16 + b) * 16 + c) * 65536 + d ∧ weightE a b c d = 0 := by
  unfold weightN weightE; rw [if_neg h, if_neg h, if_neg h', if_neg h']; exact ⟨rfl, rfl⟩
theorem weight_end {a b c d x y : Int} (h : (x = 0 ∧ y = 2 ∧ (a < 0 ∨ b < 0 ∨ c < 0 ∨ d < 0)) ∨ (x = 0 ∧ y = 4 ∧ ¬ (a < 0 ∨ b < 0 ∨ c < 0 ∨ d < 0) ∧ (1073741824 < a ∨ 16 ≤ b ∨ 16 ≤ c ∨ 65536 ≤ d)) ∨
    (x = ((a * 16 + b) * 16 + c) * 65536 + d ∧ y = 0 ∧ ¬ (a < 0 ∨ b < 0 ∨ c < 0 ∨ d < 0) ∧ ¬ (1073741824 < a ∨ 16 ≤ b ∨ 16 ≤ c ∨ 65536 ≤ d))) : x = weightN a b c d ∧ y = weightE a b c d := by
  rcases h with ⟨h1, h2, h3⟩ | ⟨h1, h2, h3, h4⟩ | ⟨h1, h2, h3, h4⟩
  · rw [(weight_neg h3).1, (weight_neg h3).2]; exact ⟨h1, h2⟩
  · rw [(weight_big h3 h4).1, (weight_big h3 h4).2]; exact ⟨h1, h2⟩
  · rw [(weight_ok h3 h4).1, (weight_ok h3 h4).2]; exact ⟨h1, h2⟩

set_option maxHeartbeats 1000000 in
theorem refWeight_any (a b c d : Int) (w : World) :
    Calls Try.prog 20 #[.agg #[.int .i64 (a), .int .i64 (b), .int .i64 (c), .int .i64 (d)]] w fun e w' => e = .returned (.tuple #[.int .i64 (weightN a b c d), .int .i64 (weightE a b c d)]) ∧ Below w.heap.size w w' := by
  by_cases hn : a < 0 ∨ b < 0 ∨ c < 0 ∨ d < 0
  · rw [(weight_neg hn).1, (weight_neg hn).2]
    rcases hn with h | h | h | h
    all_goals
      go_enter Try.func20, Try.ntmps20
      go_wp2
      all_goals
        go_ret2
        exact ⟨rfl, (Below.refl _ _).alloc (Nat.le_refl _) _⟩
  · have ha : 0 ≤ a := by omega
    have hb : 0 ≤ b := by omega
    have hc : 0 ≤ c := by omega
    have hd : 0 ≤ d := by omega
    have H := St.start w
    by_cases hbig : 1073741824 < a ∨ 16 ≤ b ∨ 16 ≤ c ∨ 65536 ≤ d
    · rw [(weight_big hn hbig).1, (weight_big hn hbig).2]
      have hr : rightB a b c d = false := rightB_not (by omega)
      clear hn hbig
      go_enter Try.func20, Try.ntmps20
      go_wp2_with fail
      apply st_calls
      case H => repeat (first | with_reducible exact H | with_reducible apply St.alloc | with_reducible apply St.allocAny | with_reducible apply St.set | with_reducible apply St.drew | with_reducible apply St.over | with_reducible exact get0 | with_reducible exact get1 | with_reducible exact get2 | with_reducible exact get3 | with_reducible exact get4 | with_reducible exact get5 | with_reducible exact get6 | with_reducible exact get7 | simp only [List.set_cons_zero, List.set_cons_succ])
      clear H
      try clear hcs
      try clear hargs
      intro W H
      try simp only [List.set_cons_zero, List.set_cons_succ, World.size_alloc, World.size_setCell, World.size_drew] at H
      have hcs := H.cells
      dsimp only [cellsOf, neAll] at hcs
      try clear hargs
      have hargs := H.args
      refine (right_any _ _ _ _ _).mono ?_
      rintro e w1 ⟨rfl, hb1⟩
      replace H := H.ext hb1
      clear hb1
      try clear hcs
      try clear hargs
      try simp only [List.set_cons_zero, List.set_cons_succ, World.size_alloc, World.size_setCell, World.size_drew] at H
      have hcs := H.cells
      dsimp only [cellsOf, neAll] at hcs
      try clear hargs
      have hargs := H.args
      go_wp2
      go_ret2
      exact ⟨rfl, H.below⟩
    · rw [(weight_ok hn hbig).1, (weight_ok hn hbig).2]
      have hr : rightB a b c d = true := rightB_iff.2 (by omega)
      have ha' : a ≤ 1073741824 := by omega
      have hb' : b < 16 := by omega
      have hc' : c < 16 := by omega
      have hd' : d < 65536 := by omega
      clear hn hbig
      go_enter Try.func20, Try.ntmps20
      go_wp2_with fail
      apply st_calls
      case H => repeat (first | with_reducible exact H | with_reducible apply St.alloc | with_reducible apply St.allocAny | with_reducible apply St.set | with_reducible apply St.drew | with_reducible apply St.over | with_reducible exact get0 | with_reducible exact get1 | with_reducible exact get2 | with_reducible exact get3 | with_reducible exact get4 | with_reducible exact get5 | with_reducible exact get6 | with_reducible exact get7 | simp only [List.set_cons_zero, List.set_cons_succ])
      clear H
      try clear hcs
      try clear hargs
      intro W H
      try simp only [List.set_cons_zero, List.set_cons_succ, World.size_alloc, World.size_setCell, World.size_drew] at H
      have hcs := H.cells
      dsimp only [cellsOf, neAll] at hcs
      try clear hargs
      have hargs := H.args
      refine (right_any _ _ _ _ _).mono ?_
      rintro e w1 ⟨rfl, hb1⟩
      replace H := H.ext hb1
      clear hb1
      try clear hcs
      try clear hargs
      try simp only [List.set_cons_zero, List.set_cons_succ, World.size_alloc, World.size_setCell, World.size_drew] at H
      have hcs := H.cells
      dsimp only [cellsOf, neAll] at hcs
      try clear hargs
      have hargs := H.args
      go_wp2
      go_ret2
      exact ⟨rfl, H.below⟩

end Go.Proofs.Ytcmbckcjklociaa
