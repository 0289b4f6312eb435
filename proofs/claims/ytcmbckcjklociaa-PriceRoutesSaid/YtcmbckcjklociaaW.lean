/- Walks of Weight and Split of package price. -/
import Derived.Test.YtcmbckcjklociaaA
namespace Go.Proofs.Ytcmbckcjklociaa
open Go.RowKit

set_option maxHeartbeats 1000000 in
theorem weight_any (a b c d : Int) (w : World) :
    Calls Try.prog 15 #[.agg #[.int .i64 (a), .int .i64 (b), .int .i64 (c), .int .i64 (d)]] w fun e w' => e = .returned (.tuple #[.int .i64 (weightN a b c d), .int .i64 (weightE a b c d)]) ∧ Below w.heap.size w w' := by
  have key : ∀ x y : Int, ((x = 0 ∧ y = 2 ∧ (a < 0 ∨ b < 0 ∨ c < 0 ∨ d < 0)) ∨ (x = 0 ∧ y = 4 ∧ ¬ (a < 0 ∨ b < 0 ∨ c < 0 ∨ d < 0) ∧ (1073741824 < a ∨ 16 ≤ b ∨ 16 ≤ c ∨ 65536 ≤ d)) ∨
    (x = ((a * 16 + b) * 16 + c) * 65536 + d ∧ y = 0 ∧ ¬ (a < 0 ∨ b < 0 ∨ c < 0 ∨ d < 0) ∧ ¬ (1073741824 < a ∨ 16 ≤ b ∨ 16 ≤ c ∨ 65536 ≤ d))) →
    Ending.returned (.tuple #[.int .i64 x, .int .i64 y]) = Ending.returned (.tuple #[.int .i64 (weightN a b c d), .int .i64 (weightE a b c d)]) := fun x y h => ret_int2 (weight_end h).1 (weight_end h).2
  have key := Lib.hid key
  have H := St.start w
  have i0 : ∀ w, (Instr.index 67 (.agg #[.int .i64 (a), .int .i64 (b), .int .i64 (c), .int .i64 (d)]) (.int .i64 0)).run Try.prog w = .ok (.int .i64 a) w := fun _ => by kernel_rfl
  have i1 : ∀ w, (Instr.index 67 (.agg #[.int .i64 (a), .int .i64 (b), .int .i64 (c), .int .i64 (d)]) (.int .i64 1)).run Try.prog w = .ok (.int .i64 b) w := fun _ => by kernel_rfl
  have i2 : ∀ w, (Instr.index 67 (.agg #[.int .i64 (a), .int .i64 (b), .int .i64 (c), .int .i64 (d)]) (.int .i64 2)).run Try.prog w = .ok (.int .i64 c) w := fun _ => by kernel_rfl
  have i3 : ∀ w, (Instr.index 67 (.agg #[.int .i64 (a), .int .i64 (b), .int .i64 (c), .int .i64 (d)]) (.int .i64 3)).run Try.prog w = .ok (.int .i64 d) w := fun _ => by kernel_rfl
  go_enter Try.func15, Try.ntmps15
  go_wp2_with fail
  apply st_calls
  case H => repeat (first | with_reducible exact H | with_reducible apply St.alloc | with_reducible apply St.allocAny | with_reducible apply St.set | with_reducible apply St.drew | with_reducible apply St.over | with_reducible exact get0 | with_reducible exact get1 | with_reducible exact get2 | with_reducible exact get3 | with_reducible exact get4 | with_reducible exact get5 | with_reducible exact get6 | with_reducible exact get7 | simp only [List.set_cons_zero, List.set_cons_succ])
  clear H
  try clear hcs
  try clear hargs
  intro W H
  try simp only [List.set_cons_zero, List.set_cons_succ, World.size_alloc, World.size_setCell, World.size_drew] at H
  have hcs := H.cells
  dsimp only [cellsOf, neAll] at hcs
  try clear hargs
  have hargs := H.args
  refine (split_any _ _ _ _ _).mono ?_
  rintro e w1 ⟨rfl, hb1⟩
  replace H := H.ext hb1
  clear hb1
  try clear hcs
  try clear hargs
  try simp only [List.set_cons_zero, List.set_cons_succ, World.size_alloc, World.size_setCell, World.size_drew] at H
  have hcs := H.cells
  dsimp only [cellsOf, neAll] at hcs
  try clear hargs
  have hargs := H.args
  go_wp2_with fail
  apply st_wp
  case H => repeat (first | with_reducible exact H | with_reducible apply St.alloc | with_reducible apply St.allocAny | with_reducible apply St.set | with_reducible apply St.drew | with_reducible apply St.over | with_reducible exact get0 | with_reducible exact get1 | with_reducible exact get2 | with_reducible exact get3 | with_reducible exact get4 | with_reducible exact get5 | with_reducible exact get6 | with_reducible exact get7 | simp only [List.set_cons_zero, List.set_cons_succ])
  clear H
  try clear hcs
  try clear hargs
  intro W H
  try simp only [List.set_cons_zero, List.set_cons_succ, World.size_alloc, World.size_setCell, World.size_drew] at H
  have hcs := H.cells
  dsimp only [cellsOf, neAll] at hcs
  try clear hargs
  have hargs := H.args
  refine wp_loop_rounds 5 ?_
  rw [rounds_succ]
  go_wp2_with fail
  all_goals (try (rw [rounds_succ]; go_wp2_with fail))
  all_goals (try (rw [rounds_succ]; go_wp2_with fail))
  all_goals (try (rw [rounds_succ]; go_wp2_with fail))
  all_goals (try (rw [rounds_succ]; go_wp2_with fail))
  all_goals
    go_ret2
    exact ⟨key.out _ _ (by omega), H.below⟩

def splitE (n : Int) : Int := if n < 0 then 2 else if 1073741824 < n / 16777216 then 4 else 0
def splitC (n : Int) : Int := if splitE n = 0 then n / 16777216 else 0
def splitM (n : Int) : Int := if splitE n = 0 then n / 1048576 % 16 else 0
def splitO (n : Int) : Int := if splitE n = 0 then n / 65536 % 16 else 0
def splitW (n : Int) : Int := if splitE n = 0 then n % 65536 else 0

theorem split_neg {n : Int} (h : n < 0) : splitC n = 0 ∧ splitM n = 0 ∧ splitO n = 0 ∧ splitW n = 0 ∧ splitE n = 2 := by
  have e : splitE n = 2 := by unfold splitE; rw [if_pos h]
  unfold splitC splitM splitO splitW; rw [e]; exact ⟨rfl, rfl, rfl, rfl, rfl⟩
theorem split_big {n : Int} (h : ¬ n < 0) (h' : 1073741824 < n / 16777216) : splitC n = 0 ∧ splitM n = 0 ∧ splitO n = 0 ∧ splitW n = 0 ∧ splitE n = 4 := by
  have e : splitE n = 4 := by unfold splitE; rw [if_neg h, if_pos h']
  unfold splitC splitM splitO splitW; rw [e]; exact ⟨rfl, rfl, rfl, rfl, rfl⟩
theorem split_ok {n : Int} (h : ¬ n < 0) (h' : ¬ 1073741824 < n / 16777216) : splitC n = n / 16777216 ∧ splitM n = n / 1048576 % 16 ∧ splitO n = n / 65536 % 16 ∧ splitW n = n % 65536 ∧ splitE n = 0 := by
  have e : splitE n = 0 := by unfold splitE; rw [if_neg h, if_neg h']
  unfold splitC splitM splitO splitW; rw [e]; exact ⟨rfl, rfl, rfl, rfl, rfl⟩
theorem ret_sc {a b c d e a' b' c' d' e' : Int} (h : a = a' ∧ b = b' ∧ c = c' ∧ d = d' ∧ e = e') : Ending.returned (.tuple #[.agg #[.int .i64 (a), .int .i64 (b), .int .i64 (c), .int .i64 (d)], .int .i64 e]) = .returned (.tuple #[.agg #[.int .i64 (a'), .int .i64 (b'), .int .i64 (c'), .int .i64 (d')], .int .i64 e']) := by
  obtain ⟨rfl, rfl, rfl, rfl, rfl⟩ := h; rfl

set_option maxHeartbeats 1000000 in
theorem psplit_any (n : Int) (hn : n ≤ 9223372036854775807) (w : World) :
    Calls Try.prog 16 #[.int .i64 n] w fun e w' => e = .returned (.tuple #[.agg #[.int .i64 (splitC n), .int .i64 (splitM n), .int .i64 (splitO n), .int .i64 (splitW n)], .int .i64 (splitE n)]) ∧ Below w.heap.size w w' := by
  have H := St.start w
  by_cases h0 : n < 0
  · obtain ⟨e1, e2, e3, e4, e5⟩ := split_neg h0
    rw [e1, e2, e3, e4, e5]
    clear e1 e2 e3 e4 e5
    go_enter Try.func16, Try.ntmps16
    go_wp2
    refine bodyPost_ret (v := .tuple #[.agg #[.int .i64 (0), .int .i64 (0), .int .i64 (0), .int .i64 (0)], .int .i64 2]) (by simp [results, Try.results16, go_sem]) rfl ⟨rfl, ?_⟩
    apply St.below'
    all_goals (repeat (first | with_reducible exact H | with_reducible apply St.alloc | with_reducible apply St.allocAny | with_reducible apply St.set | with_reducible apply St.drew | with_reducible apply St.over | with_reducible exact get0 | with_reducible exact get1 | with_reducible exact get2 | with_reducible exact get3 | with_reducible exact get4 | with_reducible exact get5 | with_reducible exact get6 | with_reducible exact get7 | simp only [List.set_cons_zero, List.set_cons_succ]))
  · have h0' : 0 ≤ n := by omega
    by_cases hb : 1073741824 < n / 16777216
    · obtain ⟨e1, e2, e3, e4, e5⟩ := split_big h0 hb
      rw [e1, e2, e3, e4, e5]
      clear e1 e2 e3 e4 e5 h0
      have hb' : 1073741824 < n / 65536 / 16 / 16 := by omega
      clear hb
      go_enter Try.func16, Try.ntmps16
      go_wp2
      refine bodyPost_ret (v := .tuple #[.agg #[.int .i64 (0), .int .i64 (0), .int .i64 (0), .int .i64 (0)], .int .i64 4]) (by simp [results, Try.results16, go_sem]) rfl ⟨rfl, ?_⟩
      apply St.below'
      all_goals (repeat (first | with_reducible exact H | with_reducible apply St.alloc | with_reducible apply St.allocAny | with_reducible apply St.set | with_reducible apply St.drew | with_reducible apply St.over | with_reducible exact get0 | with_reducible exact get1 | with_reducible exact get2 | with_reducible exact get3 | with_reducible exact get4 | with_reducible exact get5 | with_reducible exact get6 | with_reducible exact get7 | simp only [List.set_cons_zero, List.set_cons_succ]))
    · have key : Ending.returned (.tuple #[.agg #[.int .i64 (n / 65536 / 16 / 16), .int .i64 (n / 65536 / 16 % 16), .int .i64 (n / 65536 % 16), .int .i64 (n % 65536)], .int .i64 0]) = Ending.returned (.tuple #[.agg #[.int .i64 (splitC n), .int .i64 (splitM n), .int .i64 (splitO n), .int .i64 (splitW n)], .int .i64 (splitE n)]) := by
        obtain ⟨e1, e2, e3, e4, e5⟩ := split_ok h0 hb
        refine ret_sc ?_
        rw [e1, e2, e3, e4, e5]
        refine ⟨by omega, by omega, rfl, rfl, rfl⟩
      have hb' : n / 65536 / 16 / 16 ≤ 1073741824 := by omega
      clear hb h0
      rw [← key]
      clear key
      go_enter Try.func16, Try.ntmps16
      go_wp2_with fail
      apply st_calls
      case H => repeat (first | with_reducible exact H | with_reducible apply St.alloc | with_reducible apply St.allocAny | with_reducible apply St.set | with_reducible apply St.drew | with_reducible apply St.over | with_reducible exact get0 | with_reducible exact get1 | with_reducible exact get2 | with_reducible exact get3 | with_reducible exact get4 | with_reducible exact get5 | with_reducible exact get6 | with_reducible exact get7 | simp only [List.set_cons_zero, List.set_cons_succ])
      clear H
      try clear hcs
      try clear hargs
      intro W H
      try simp only [List.set_cons_zero, List.set_cons_succ, World.size_alloc, World.size_setCell, World.size_drew] at H
      have hcs := H.cells
      dsimp only [cellsOf, neAll] at hcs
      try clear hargs
      have hargs := H.args
      refine (join_any _ _ _ _ _).mono ?_
      rintro e w1 ⟨rfl, hb1⟩
      replace H := H.ext hb1
      clear hb1
      try clear hcs
      try clear hargs
      try simp only [List.set_cons_zero, List.set_cons_succ, World.size_alloc, World.size_setCell, World.size_drew] at H
      have hcs := H.cells
      dsimp only [cellsOf, neAll] at hcs
      try clear hargs
      have hargs := H.args
      go_wp2
      refine bodyPost_ret (v := .tuple #[.agg #[.int .i64 (n / 65536 / 16 / 16), .int .i64 (n / 65536 / 16 % 16), .int .i64 (n / 65536 % 16), .int .i64 (n % 65536)], .int .i64 0]) (by simp [results, Try.results16, go_sem, hcs]) rfl ⟨rfl, ?_⟩
      apply St.below'
      all_goals (repeat (first | with_reducible exact H | with_reducible apply St.alloc | with_reducible apply St.allocAny | with_reducible apply St.set | with_reducible apply St.drew | with_reducible apply St.over | with_reducible exact get0 | with_reducible exact get1 | with_reducible exact get2 | with_reducible exact get3 | with_reducible exact get4 | with_reducible exact get5 | with_reducible exact get6 | with_reducible exact get7 | simp only [List.set_cons_zero, List.set_cons_succ]))

set_option maxHeartbeats 1000000 in
theorem refSplit_any (n : Int) (hn : n ≤ 9223372036854775807) (w : World) :
    Calls Try.prog 17 #[.int .i64 n] w fun e w' => e = .returned (.tuple #[.agg #[.int .i64 (splitC n), .int .i64 (splitM n), .int .i64 (splitO n), .int .i64 (splitW n)], .int .i64 (splitE n)]) ∧ Below w.heap.size w w' := by
  have H := St.start w
  by_cases h0 : n < 0
  · obtain ⟨e1, e2, e3, e4, e5⟩ := split_neg h0
    rw [e1, e2, e3, e4, e5]
    clear e1 e2 e3 e4 e5
    go_enter Try.func17, Try.ntmps17
    go_wp2
    refine bodyPost_ret (v := .tuple #[.agg #[.int .i64 (0), .int .i64 (0), .int .i64 (0), .int .i64 (0)], .int .i64 2]) (by simp [results, Try.results17, go_sem]) rfl ⟨rfl, ?_⟩
    apply St.below'
    all_goals (repeat (first | with_reducible exact H | with_reducible apply St.alloc | with_reducible apply St.allocAny | with_reducible apply St.set | with_reducible apply St.drew | with_reducible apply St.over | with_reducible exact get0 | with_reducible exact get1 | with_reducible exact get2 | with_reducible exact get3 | with_reducible exact get4 | with_reducible exact get5 | with_reducible exact get6 | with_reducible exact get7 | simp only [List.set_cons_zero, List.set_cons_succ]))
  · have h0' : 0 ≤ n := by omega
    by_cases hb : 1073741824 < n / 16777216
    · obtain ⟨e1, e2, e3, e4, e5⟩ := split_big h0 hb
      rw [e1, e2, e3, e4, e5]
      clear e1 e2 e3 e4 e5 h0
      have hr : rightB (n / 16777216) (n / 1048576 % 16) (n / 65536 % 16) (n % 65536) = false := rightB_not (by omega)
      clear hb
      go_enter Try.func17, Try.ntmps17
      go_wp2_with fail
      apply st_calls
      case H => repeat (first | with_reducible exact H | with_reducible apply St.alloc | with_reducible apply St.allocAny | with_reducible apply St.set | with_reducible apply St.drew | with_reducible apply St.over | with_reducible exact get0 | with_reducible exact get1 | with_reducible exact get2 | with_reducible exact get3 | with_reducible exact get4 | with_reducible exact get5 | with_reducible exact get6 | with_reducible exact get7 | simp only [List.set_cons_zero, List.set_cons_succ])
      clear H
      try clear hcs
      try clear hargs
      intro W H
      try simp only [List.set_cons_zero, List.set_cons_succ, World.size_alloc, World.size_setCell, World.size_drew] at H
      have hcs := H.cells
      dsimp only [cellsOf, neAll] at hcs
      try clear hargs
      have hargs := H.args
      refine (right_any _ _ _ _ _).mono ?_
      rintro e w1 ⟨rfl, hb1⟩
      replace H := H.ext hb1
      clear hb1
      try clear hcs
      try clear hargs
      try simp only [List.set_cons_zero, List.set_cons_succ, World.size_alloc, World.size_setCell, World.size_drew] at H
      have hcs := H.cells
      dsimp only [cellsOf, neAll] at hcs
      try clear hargs
      have hargs := H.args
      go_wp2
      refine bodyPost_ret (v := .tuple #[.agg #[.int .i64 (0), .int .i64 (0), .int .i64 (0), .int .i64 (0)], .int .i64 4]) (by simp [results, Try.results17, go_sem, hcs]) rfl ⟨rfl, ?_⟩
      apply St.below'
      all_goals (repeat (first | with_reducible exact H | with_reducible apply St.alloc | with_reducible apply St.allocAny | with_reducible apply St.set | with_reducible apply St.drew | with_reducible apply St.over | with_reducible exact get0 | with_reducible exact get1 | with_reducible exact get2 | with_reducible exact get3 | with_reducible exact get4 | with_reducible exact get5 | with_reducible exact get6 | with_reducible exact get7 | simp only [List.set_cons_zero, List.set_cons_succ]))
    · obtain ⟨e1, e2, e3, e4, e5⟩ := split_ok h0 hb
      rw [e1, e2, e3, e4, e5]
      clear e1 e2 e3 e4 e5
      have hr : rightB (n / 16777216) (n / 1048576 % 16) (n / 65536 % 16) (n % 65536) = true := rightB_iff.2 (by omega)
      clear hb h0
      go_enter Try.func17, Try.ntmps17
      go_wp2_with fail
      apply st_calls
      case H => repeat (first | with_reducible exact H | with_reducible apply St.alloc | with_reducible apply St.allocAny | with_reducible apply St.set | with_reducible apply St.drew | with_reducible apply St.over | with_reducible exact get0 | with_reducible exact get1 | with_reducible exact get2 | with_reducible exact get3 | with_reducible exact get4 | with_reducible exact get5 | with_reducible exact get6 | with_reducible exact get7 | simp only [List.set_cons_zero, List.set_cons_succ])
      clear H
      try clear hcs
      try clear hargs
      intro W H
      try simp only [List.set_cons_zero, List.set_cons_succ, World.size_alloc, World.size_setCell, World.size_drew] at H
      have hcs := H.cells
      dsimp only [cellsOf, neAll] at hcs
      try clear hargs
      have hargs := H.args
      refine (right_any _ _ _ _ _).mono ?_
      rintro e w1 ⟨rfl, hb1⟩
      replace H := H.ext hb1
      clear hb1
      try clear hcs
      try clear hargs
      try simp only [List.set_cons_zero, List.set_cons_succ, World.size_alloc, World.size_setCell, World.size_drew] at H
      have hcs := H.cells
      dsimp only [cellsOf, neAll] at hcs
      try clear hargs
      have hargs := H.args
      go_wp2
      refine bodyPost_ret (v := .tuple #[.agg #[.int .i64 (n / 16777216), .int .i64 (n / 1048576 % 16), .int .i64 (n / 65536 % 16), .int .i64 (n % 65536)], .int .i64 0]) (by simp [results, Try.results17, go_sem, hcs]) rfl ⟨rfl, ?_⟩
      apply St.below'
      all_goals (repeat (first | with_reducible exact H | with_reducible apply St.alloc | with_reducible apply St.allocAny | with_reducible apply St.set | with_reducible apply St.drew | with_reducible apply St.over | with_reducible exact get0 | with_reducible exact get1 | with_reducible exact get2 | with_reducible exact get3 | with_reducible exact get4 | with_reducible exact get5 | with_reducible exact get6 | with_reducible exact get7 | simp only [List.set_cons_zero, List.set_cons_succ]))

end Go.Proofs.Ytcmbckcjklociaa
