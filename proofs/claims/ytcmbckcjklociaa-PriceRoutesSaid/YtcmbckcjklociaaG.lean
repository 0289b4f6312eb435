/- The walks of PriceSplits and PriceWeighs. -/
import Derived.Test.YtcmbckcjklociaaF
namespace Go.Proofs.Ytcmbckcjklociaa
open Go.RowKit

set_option maxRecDepth 100000 in
set_option maxHeartbeats 1000000 in
theorem splits_true (n : Int) (hn : n ≤ 9223372036854775807) (w : World) :
    Calls Try.prog 5 #[.int .i64 n] w fun e w' => e = .returned (.bool true) ∧ Below w.heap.size w w' := by
  have H := St.start w
  by_cases hE : splitE n = 0
  · have hok : ¬ n < 0 ∧ ¬ 1073741824 < n / 16777216 := by
      refine ⟨fun h => ?_, fun h => ?_⟩
      · have := (split_neg h).2.2.2.2; omega
      · by_cases h0 : n < 0
        · have := (split_neg h0).2.2.2.2; omega
        · have := (split_big h0 h).2.2.2.2; omega
    obtain ⟨e1, e2, e3, e4, e5⟩ := split_ok hok.1 hok.2
    have hr : rightB (splitC n) (splitM n) (splitO n) (splitW n) = true := rightB_iff.2 (by rw [e1, e2, e3, e4]; omega)
    have hp : (pr (splitC n) (splitM n) (splitO n) (splitW n) == n) = true := by
      rw [beq_iff_eq, e1, e2, e3, e4]; unfold pr; omega
    clear e1 e2 e3 e4 e5 hok
    go_enter Try.func5, Try.ntmps5
    go_wp2_with fail
    apply st_calls
    case H => repeat (first | with_reducible exact H | with_reducible apply St.alloc | with_reducible apply St.allocAny | with_reducible apply St.set | with_reducible apply St.drew | with_reducible apply St.over | with_reducible exact get0 | with_reducible exact get1 | with_reducible exact get2 | with_reducible exact get3 | with_reducible exact get4 | with_reducible exact get5 | with_reducible exact get6 | with_reducible exact get7 | simp only [List.set_cons_zero, List.set_cons_succ])
    clear H
    try clear hcs
    try clear hargs
    intro W H
    try simp only [List.set_cons_zero, List.set_cons_succ, World.size_alloc, World.size_setCell, World.size_drew] at H
    have hcs := H.cells
    dsimp only [cellsOf, neAll] at hcs
    try clear hargs
    have hargs := H.args
    refine (psplit_any _ hn _).mono ?_
    rintro e w1 ⟨rfl, hb⟩
    replace H := H.ext hb
    clear hb
    try clear hcs
    try clear hargs
    try simp only [List.set_cons_zero, List.set_cons_succ, World.size_alloc, World.size_setCell, World.size_drew] at H
    have hcs := H.cells
    dsimp only [cellsOf, neAll] at hcs
    try clear hargs
    have hargs := H.args
    go_wp2_with fail
    apply st_calls
    case H => repeat (first | with_reducible exact H | with_reducible apply St.alloc | with_reducible apply St.allocAny | with_reducible apply St.set | with_reducible apply St.drew | with_reducible apply St.over | with_reducible exact get0 | with_reducible exact get1 | with_reducible exact get2 | with_reducible exact get3 | with_reducible exact get4 | with_reducible exact get5 | with_reducible exact get6 | with_reducible exact get7 | simp only [List.set_cons_zero, List.set_cons_succ])
    clear H
    try clear hcs
    try clear hargs
    intro W H
    try simp only [List.set_cons_zero, List.set_cons_succ, World.size_alloc, World.size_setCell, World.size_drew] at H
    have hcs := H.cells
    dsimp only [cellsOf, neAll] at hcs
    try clear hargs
    have hargs := H.args
    refine (refSplit_any _ hn _).mono ?_
    rintro e w1 ⟨rfl, hb⟩
    replace H := H.ext hb
    clear hb
    try clear hcs
    try clear hargs
    try simp only [List.set_cons_zero, List.set_cons_succ, World.size_alloc, World.size_setCell, World.size_drew] at H
    have hcs := H.cells
    dsimp only [cellsOf, neAll] at hcs
    try clear hargs
    have hargs := H.args
    go_wp2_with fail
    apply st_calls
    case H => repeat (first | with_reducible exact H | with_reducible apply St.alloc | with_reducible apply St.allocAny | with_reducible apply St.set | with_reducible apply St.drew | with_reducible apply St.over | with_reducible exact get0 | with_reducible exact get1 | with_reducible exact get2 | with_reducible exact get3 | with_reducible exact get4 | with_reducible exact get5 | with_reducible exact get6 | with_reducible exact get7 | simp only [List.set_cons_zero, List.set_cons_succ])
    clear H
    try clear hcs
    try clear hargs
    intro W H
    try simp only [List.set_cons_zero, List.set_cons_succ, World.size_alloc, World.size_setCell, World.size_drew] at H
    have hcs := H.cells
    dsimp only [cellsOf, neAll] at hcs
    try clear hargs
    have hargs := H.args
    refine (weightOk_any hr _).mono ?_
    rintro e w1 ⟨rfl, hb⟩
    replace H := H.ext hb
    clear hb
    try clear hcs
    try clear hargs
    try simp only [List.set_cons_zero, List.set_cons_succ, World.size_alloc, World.size_setCell, World.size_drew] at H
    have hcs := H.cells
    dsimp only [cellsOf, neAll] at hcs
    try clear hargs
    have hargs := H.args
    go_wp2_with fail
    apply st_calls
    case H => repeat (first | with_reducible exact H | with_reducible apply St.alloc | with_reducible apply St.allocAny | with_reducible apply St.set | with_reducible apply St.drew | with_reducible apply St.over | with_reducible exact get0 | with_reducible exact get1 | with_reducible exact get2 | with_reducible exact get3 | with_reducible exact get4 | with_reducible exact get5 | with_reducible exact get6 | with_reducible exact get7 | simp only [List.set_cons_zero, List.set_cons_succ])
    clear H
    try clear hcs
    try clear hargs
    intro W H
    try simp only [List.set_cons_zero, List.set_cons_succ, World.size_alloc, World.size_setCell, World.size_drew] at H
    have hcs := H.cells
    dsimp only [cellsOf, neAll] at hcs
    try clear hargs
    have hargs := H.args
    refine (awake_any _).mono ?_
    rintro e w1 ⟨rfl, hb⟩
    replace H := H.ext hb
    clear hb
    try clear hcs
    try clear hargs
    try simp only [List.set_cons_zero, List.set_cons_succ, World.size_alloc, World.size_setCell, World.size_drew] at H
    have hcs := H.cells
    dsimp only [cellsOf, neAll] at hcs
    try clear hargs
    have hargs := H.args
    go_wp2
    go_ret
    exact ⟨rfl, H.below⟩
  · have hE' : (splitE n == 0) = false := by simpa using hE
    have hE2 : (splitE n != 0) = true := by simpa using hE
    clear hE
    go_enter Try.func5, Try.ntmps5
    go_wp2_with fail
    apply st_calls
    case H => repeat (first | with_reducible exact H | with_reducible apply St.alloc | with_reducible apply St.allocAny | with_reducible apply St.set | with_reducible apply St.drew | with_reducible apply St.over | with_reducible exact get0 | with_reducible exact get1 | with_reducible exact get2 | with_reducible exact get3 | with_reducible exact get4 | with_reducible exact get5 | with_reducible exact get6 | with_reducible exact get7 | simp only [List.set_cons_zero, List.set_cons_succ])
    clear H
    try clear hcs
    try clear hargs
    intro W H
    try simp only [List.set_cons_zero, List.set_cons_succ, World.size_alloc, World.size_setCell, World.size_drew] at H
    have hcs := H.cells
    dsimp only [cellsOf, neAll] at hcs
    try clear hargs
    have hargs := H.args
    refine (psplit_any _ hn _).mono ?_
    rintro e w1 ⟨rfl, hb⟩
    replace H := H.ext hb
    clear hb
    try clear hcs
    try clear hargs
    try simp only [List.set_cons_zero, List.set_cons_succ, World.size_alloc, World.size_setCell, World.size_drew] at H
    have hcs := H.cells
    dsimp only [cellsOf, neAll] at hcs
    try clear hargs
    have hargs := H.args
    go_wp2_with fail
    apply st_calls
    case H => repeat (first | with_reducible exact H | with_reducible apply St.alloc | with_reducible apply St.allocAny | with_reducible apply St.set | with_reducible apply St.drew | with_reducible apply St.over | with_reducible exact get0 | with_reducible exact get1 | with_reducible exact get2 | with_reducible exact get3 | with_reducible exact get4 | with_reducible exact get5 | with_reducible exact get6 | with_reducible exact get7 | simp only [List.set_cons_zero, List.set_cons_succ])
    clear H
    try clear hcs
    try clear hargs
    intro W H
    try simp only [List.set_cons_zero, List.set_cons_succ, World.size_alloc, World.size_setCell, World.size_drew] at H
    have hcs := H.cells
    dsimp only [cellsOf, neAll] at hcs
    try clear hargs
    have hargs := H.args
    refine (refSplit_any _ hn _).mono ?_
    rintro e w1 ⟨rfl, hb⟩
    replace H := H.ext hb
    clear hb
    try clear hcs
    try clear hargs
    try simp only [List.set_cons_zero, List.set_cons_succ, World.size_alloc, World.size_setCell, World.size_drew] at H
    have hcs := H.cells
    dsimp only [cellsOf, neAll] at hcs
    try clear hargs
    have hargs := H.args
    go_wp2_with fail
    apply st_calls
    case H => repeat (first | with_reducible exact H | with_reducible apply St.alloc | with_reducible apply St.allocAny | with_reducible apply St.set | with_reducible apply St.drew | with_reducible apply St.over | with_reducible exact get0 | with_reducible exact get1 | with_reducible exact get2 | with_reducible exact get3 | with_reducible exact get4 | with_reducible exact get5 | with_reducible exact get6 | with_reducible exact get7 | simp only [List.set_cons_zero, List.set_cons_succ])
    clear H
    try clear hcs
    try clear hargs
    intro W H
    try simp only [List.set_cons_zero, List.set_cons_succ, World.size_alloc, World.size_setCell, World.size_drew] at H
    have hcs := H.cells
    dsimp only [cellsOf, neAll] at hcs
    try clear hargs
    have hargs := H.args
    refine (awake_any _).mono ?_
    rintro e w1 ⟨rfl, hb⟩
    replace H := H.ext hb
    clear hb
    try clear hcs
    try clear hargs
    try simp only [List.set_cons_zero, List.set_cons_succ, World.size_alloc, World.size_setCell, World.size_drew] at H
    have hcs := H.cells
    dsimp only [cellsOf, neAll] at hcs
    try clear hargs
    have hargs := H.args
    go_wp2
    go_ret
    exact ⟨rfl, H.below⟩


theorem weightE_not {a b c d : Int} (h : rightB a b c d = false) : (weightE a b c d != 0) = true := by
  have h' : ¬ (0 ≤ a ∧ a ≤ 1073741824 ∧ 0 ≤ b ∧ b ≤ 15 ∧ 0 ≤ c ∧ c ≤ 15 ∧ 0 ≤ d ∧ d ≤ 65535) := fun hh => by rw [rightB_iff.2 hh] at h; cases h
  by_cases hn : a < 0 ∨ b < 0 ∨ c < 0 ∨ d < 0
  · rw [(weight_neg hn).2]; rfl
  · rw [(weight_big hn (by omega)).2]; rfl
theorem refWeightOk_any {a b c d : Int} (h : rightB a b c d = true) (w : World) :
    Calls Try.prog 20 #[.agg #[.int .i64 (a), .int .i64 (b), .int .i64 (c), .int .i64 (d)]] w fun e w' => e = .returned (.tuple #[.int .i64 (pr a b c d), .int .i64 0]) ∧ Below w.heap.size w w' := by
  have h' := rightB_iff.1 h
  obtain ⟨h1, h2⟩ := weight_ok (a := a) (b := b) (c := c) (d := d) (by omega) (by omega)
  have := refWeight_any a b c d w
  rw [h1, h2] at this
  exact this
theorem psplitPr_any {a b c d : Int} (h : rightB a b c d = true) (w : World) :
    Calls Try.prog 16 #[.int .i64 (pr a b c d)] w fun e w' => e = .returned (.tuple #[.agg #[.int .i64 (a), .int .i64 (b), .int .i64 (c), .int .i64 (d)], .int .i64 0]) ∧ Below w.heap.size w w' := by
  have h' := rightB_iff.1 h
  have hb := pr_bd h
  have hp : pr a b c d = ((a * 16 + b) * 16 + c) * 65536 + d := rfl
  obtain ⟨e1, e2, e3, e4, e5⟩ := split_ok (n := pr a b c d) (by omega) (by omega)
  have := psplit_any (pr a b c d) (by omega) w
  rw [e1, e2, e3, e4, e5, show pr a b c d / 16777216 = a by omega, show pr a b c d / 1048576 % 16 = b by omega, show pr a b c d / 65536 % 16 = c by omega, show pr a b c d % 65536 = d by omega] at this
  exact this
theorem cmpI_lt {a b : Int} (h : a < b) : cmpI a b = -1 := by unfold cmpI; rw [if_pos h]
theorem cmpI_gt {a b : Int} (h : b < a) : cmpI a b = 1 := by unfold cmpI; rw [if_neg (by omega), if_pos h]
theorem cmpI_eq (a : Int) : cmpI a a = 0 := by unfold cmpI; rw [if_neg (by omega), if_neg (by omega)]
theorem lex_pr {a b c d a' b' c' d' : Int} (h : rightB a b c d = true) (h' : rightB a' b' c' d' = true) :
    (pr a b c d < pr a' b' c' d' ∧ lexC a b c d a' b' c' d' = -1 ∧ ¬ (a = a' ∧ b = b' ∧ c = c' ∧ d = d')) ∨
    (pr a b c d = pr a' b' c' d' ∧ lexC a b c d a' b' c' d' = 0 ∧ (a = a' ∧ b = b' ∧ c = c' ∧ d = d')) ∨
    (pr a' b' c' d' < pr a b c d ∧ lexC a b c d a' b' c' d' = 1 ∧ ¬ (a = a' ∧ b = b' ∧ c = c' ∧ d = d')) := by
  have q := rightB_iff.1 h
  have q' := rightB_iff.1 h'
  unfold pr
  rcases Int.lt_trichotomy a a' with ha | ha | ha
  · left; exact ⟨by omega, by rw [← lex1 (by rw [cmpI_lt ha]; rfl), cmpI_lt ha], by omega⟩
  · subst ha
    have h1 : (cmpI a a != 0) = false := by rw [cmpI_eq]; rfl
    rcases Int.lt_trichotomy b b' with hb | hb | hb
    · left; exact ⟨by omega, by rw [← lex2 h1 (by rw [cmpI_lt hb]; rfl), cmpI_lt hb], by omega⟩
    · subst hb
      have h2 : (cmpI b b != 0) = false := by rw [cmpI_eq]; rfl
      rcases Int.lt_trichotomy c c' with hc | hc | hc
      · left; exact ⟨by omega, by rw [← lex3 h1 h2 (by rw [cmpI_lt hc]; rfl), cmpI_lt hc], by omega⟩
      · subst hc
        have h3 : (cmpI c c != 0) = false := by rw [cmpI_eq]; rfl
        rw [← lex4 h1 h2 h3]
        rcases Int.lt_trichotomy d d' with hd | hd | hd
        · left; exact ⟨by omega, cmpI_lt hd, by omega⟩
        · subst hd; right; left; exact ⟨rfl, cmpI_eq _, rfl, rfl, rfl, rfl⟩
        · right; right; exact ⟨by omega, cmpI_gt hd, by omega⟩
      · right; right; exact ⟨by omega, by rw [← lex3 h1 h2 (by rw [cmpI_gt hc]; rfl), cmpI_gt hc], by omega⟩
    · right; right; exact ⟨by omega, by rw [← lex2 h1 (by rw [cmpI_gt hb]; rfl), cmpI_gt hb], by omega⟩
  · right; right; exact ⟨by omega, by rw [← lex1 (by rw [cmpI_gt ha]; rfl), cmpI_gt ha], by omega⟩

end Go.Proofs.Ytcmbckcjklociaa
