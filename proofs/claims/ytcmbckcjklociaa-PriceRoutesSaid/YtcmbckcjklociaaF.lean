/- The laws of package price that speak of scores alone: their walks. -/
import Derived.Test.YtcmbckcjklociaaE
namespace Go.Proofs.Ytcmbckcjklociaa
open Go.RowKit

def pr (a b c d : Int) : Int := ((a * 16 + b) * 16 + c) * 65536 + d
theorem weightOk_any {a b c d : Int} (h : rightB a b c d = true) (w : World) :
    Calls Try.prog 15 #[.agg #[.int .i64 (a), .int .i64 (b), .int .i64 (c), .int .i64 (d)]] w fun e w' => e = .returned (.tuple #[.int .i64 (pr a b c d), .int .i64 0]) ∧ Below w.heap.size w w' := by
  have h' := rightB_iff.1 h
  obtain ⟨h1, h2⟩ := weight_ok (a := a) (b := b) (c := c) (d := d) (by omega) (by omega)
  have := weight_any a b c d w
  rw [h1, h2] at this
  exact this
theorem pr_bd {a b c d : Int} (h : rightB a b c d = true) : 0 ≤ pr a b c d ∧ pr a b c d ≤ 18014398526259200 := by
  have h' := rightB_iff.1 h
  unfold pr; omega
theorem pr_add (a b c d a' b' c' d' : Int) : (pr (a + a') (b + b') (c + c') (d + d') == pr a b c d + pr a' b' c' d') = true := by
  rw [beq_iff_eq]; unfold pr; omega
theorem addSwap_any (a b c d a' b' c' d' : Int) (w : World) (ha : 0 ≤ a ∧ a ≤ 1073741824) (ha' : 0 ≤ a' ∧ a' ≤ 1073741824) (hb : 0 ≤ b ∧ b ≤ 15) (hb' : 0 ≤ b' ∧ b' ≤ 15) (hc : 0 ≤ c ∧ c ≤ 15) (hc' : 0 ≤ c' ∧ c' ≤ 15) (hd : 0 ≤ d ∧ d ≤ 65535) (hd' : 0 ≤ d' ∧ d' ≤ 65535) :
    Calls Try.prog 13 #[.agg #[.int .i64 (a'), .int .i64 (b'), .int .i64 (c'), .int .i64 (d')], .agg #[.int .i64 (a), .int .i64 (b), .int .i64 (c), .int .i64 (d)]] w fun e w' => e = .returned (.agg #[.int .i64 (a + a'), .int .i64 (b + b'), .int .i64 (c + c'), .int .i64 (d + d')]) ∧ Below w.heap.size w w' := by
  have := add_any a' b' c' d' a b c d w ha' ha hb' hb hc' hc hd' hd
  rw [Int.add_comm a' a, Int.add_comm b' b, Int.add_comm c' c, Int.add_comm d' d] at this
  exact this

set_option maxRecDepth 100000 in
set_option maxHeartbeats 1000000 in
theorem adds_true (a b c d a' b' c' d' : Int) (w : World) :
    Calls Try.prog 4 #[.agg #[.int .i64 (a), .int .i64 (b), .int .i64 (c), .int .i64 (d)], .agg #[.int .i64 (a'), .int .i64 (b'), .int .i64 (c'), .int .i64 (d')]] w fun e w' => e = .returned (.bool true) ∧ Below w.heap.size w w' := by
  have H := St.start w
  by_cases hr : rightB a b c d = true
  · by_cases hr' : rightB a' b' c' d' = true
    · obtain ⟨q1, q2, q3, q4, q5, q6, q7, q8⟩ := rightB_iff.1 hr
      obtain ⟨p1, p2, p3, p4, p5, p6, p7, p8⟩ := rightB_iff.1 hr'
      by_cases hs : rightB (a + a') (b + b') (c + c') (d + d') = true
      · have b1 := pr_bd hr
        have b2 := pr_bd hr'
        have key := pr_add a b c d a' b' c' d'
        obtain ⟨b11, b12⟩ := b1
        obtain ⟨b21, b22⟩ := b2
        go_enter Try.func4, Try.ntmps4
        go_wp2_with fail
        apply st_calls
        case H => repeat (first | with_reducible exact H | with_reducible apply St.alloc | with_reducible apply St.allocAny | with_reducible apply St.set | with_reducible apply St.drew | with_reducible apply St.over | with_reducible exact get0 | with_reducible exact get1 | with_reducible exact get2 | with_reducible exact get3 | with_reducible exact get4 | with_reducible exact get5 | with_reducible exact get6 | with_reducible exact get7 | simp only [List.set_cons_zero, List.set_cons_succ])
        clear H
        try clear hcs
        try clear hargs
        intro W H
        try simp only [List.set_cons_zero, List.set_cons_succ, World.size_alloc, World.size_setCell, World.size_drew] at H
        have hcs := H.cells
        dsimp only [cellsOf, neAll] at hcs
        try clear hargs
        have hargs := H.args
        refine (right_any _ _ _ _ _).mono ?_
        rintro e w1 ⟨rfl, hb⟩
        replace H := H.ext hb
        clear hb
        try clear hcs
        try clear hargs
        try simp only [List.set_cons_zero, List.set_cons_succ, World.size_alloc, World.size_setCell, World.size_drew] at H
        have hcs := H.cells
        dsimp only [cellsOf, neAll] at hcs
        try clear hargs
        have hargs := H.args
        go_wp2_with fail
        apply st_calls
        case H => repeat (first | with_reducible exact H | with_reducible apply St.alloc | with_reducible apply St.allocAny | with_reducible apply St.set | with_reducible apply St.drew | with_reducible apply St.over | with_reducible exact get0 | with_reducible exact get1 | with_reducible exact get2 | with_reducible exact get3 | with_reducible exact get4 | with_reducible exact get5 | with_reducible exact get6 | with_reducible exact get7 | simp only [List.set_cons_zero, List.set_cons_succ])
        clear H
        try clear hcs
        try clear hargs
        intro W H
        try simp only [List.set_cons_zero, List.set_cons_succ, World.size_alloc, World.size_setCell, World.size_drew] at H
        have hcs := H.cells
        dsimp only [cellsOf, neAll] at hcs
        try clear hargs
        have hargs := H.args
        refine (right_any _ _ _ _ _).mono ?_
        rintro e w1 ⟨rfl, hb⟩
        replace H := H.ext hb
        clear hb
        try clear hcs
        try clear hargs
        try simp only [List.set_cons_zero, List.set_cons_succ, World.size_alloc, World.size_setCell, World.size_drew] at H
        have hcs := H.cells
        dsimp only [cellsOf, neAll] at hcs
        try clear hargs
        have hargs := H.args
        go_wp2_with fail
        apply st_calls
        case H => repeat (first | with_reducible exact H | with_reducible apply St.alloc | with_reducible apply St.allocAny | with_reducible apply St.set | with_reducible apply St.drew | with_reducible apply St.over | with_reducible exact get0 | with_reducible exact get1 | with_reducible exact get2 | with_reducible exact get3 | with_reducible exact get4 | with_reducible exact get5 | with_reducible exact get6 | with_reducible exact get7 | simp only [List.set_cons_zero, List.set_cons_succ])
        clear H
        try clear hcs
        try clear hargs
        intro W H
        try simp only [List.set_cons_zero, List.set_cons_succ, World.size_alloc, World.size_setCell, World.size_drew] at H
        have hcs := H.cells
        dsimp only [cellsOf, neAll] at hcs
        try clear hargs
        have hargs := H.args
        refine (add_any _ _ _ _ _ _ _ _ _ ⟨q1, q2⟩ ⟨p1, p2⟩ ⟨q3, q4⟩ ⟨p3, p4⟩ ⟨q5, q6⟩ ⟨p5, p6⟩ ⟨q7, q8⟩ ⟨p7, p8⟩).mono ?_
        rintro e w1 ⟨rfl, hb⟩
        replace H := H.ext hb
        clear hb
        try clear hcs
        try clear hargs
        try simp only [List.set_cons_zero, List.set_cons_succ, World.size_alloc, World.size_setCell, World.size_drew] at H
        have hcs := H.cells
        dsimp only [cellsOf, neAll] at hcs
        try clear hargs
        have hargs := H.args
        go_wp2_with fail
        apply st_wp
        case H => repeat (first | with_reducible exact H | with_reducible apply St.alloc | with_reducible apply St.allocAny | with_reducible apply St.set | with_reducible apply St.drew | with_reducible apply St.over | with_reducible exact get0 | with_reducible exact get1 | with_reducible exact get2 | with_reducible exact get3 | with_reducible exact get4 | with_reducible exact get5 | with_reducible exact get6 | with_reducible exact get7 | simp only [List.set_cons_zero, List.set_cons_succ])
        clear H
        try clear hcs
        try clear hargs
        intro W H
        try simp only [List.set_cons_zero, List.set_cons_succ, World.size_alloc, World.size_setCell, World.size_drew] at H
        have hcs := H.cells
        dsimp only [cellsOf, neAll] at hcs
        try clear hargs
        have hargs := H.args
        refine wp_region_mix 12 (by kernel_rfl) (by kernel_rfl) ?_
        (refine mix_step 0 rfl (by kernel_rfl) (fun K hK => ?_); go_simp; refine hK _ ?_; clear hK K)
        (refine mix_step 1 rfl (by kernel_rfl) (fun K hK => ?_); go_simp; refine hK _ ?_; clear hK K)
        (refine mix_step 2 rfl (by kernel_rfl) (fun K hK => ?_); go_simp; refine hK _ ?_; clear hK K)
        (refine mix_step 3 rfl (by kernel_rfl) (fun K hK => ?_); go_simp; (apply Exists.intro; refine ⟨fun _ => ?_, hK _ ?_⟩; exact refAdd_any _ _ _ _ _ _ _ _ _ ⟨q1, q2⟩ ⟨p1, p2⟩ ⟨q3, q4⟩ ⟨p3, p4⟩ ⟨q5, q6⟩ ⟨p5, p6⟩ ⟨q7, q8⟩ ⟨p7, p8⟩); clear hK K)
        (refine mix_step 4 rfl (by kernel_rfl) (fun K hK => ?_); go_simp; refine hK _ ?_; clear hK K)
        (refine mix_step 5 rfl (by kernel_rfl) (fun K hK => ?_); go_simp; refine hK _ ?_; clear hK K)
        (refine mix_step 6 rfl (by kernel_rfl) (fun K hK => ?_); go_simp; refine hK _ ?_; clear hK K)
        (refine mix_step 7 rfl (by kernel_rfl) (fun K hK => ?_); go_simp; refine hK _ ?_; clear hK K)
        (refine mix_step 8 rfl (by kernel_rfl) (fun K hK => ?_); go_simp; refine hK _ ?_; clear hK K)
        (refine mix_step 9 rfl (by kernel_rfl) (fun K hK => ?_); go_simp; (apply Exists.intro; refine ⟨fun _ => ?_, hK _ ?_⟩; exact addSwap_any _ _ _ _ _ _ _ _ _ ⟨q1, q2⟩ ⟨p1, p2⟩ ⟨q3, q4⟩ ⟨p3, p4⟩ ⟨q5, q6⟩ ⟨p5, p6⟩ ⟨q7, q8⟩ ⟨p7, p8⟩); clear hK K)
        (refine mix_step 10 rfl (by kernel_rfl) (fun K hK => ?_); go_simp; refine hK _ ?_; clear hK K)
        (refine mix_step 11 rfl (by kernel_rfl) (fun K hK => ?_); go_simp; refine hK _ ?_; clear hK K)
        refine mix_end' (by kernel_rfl) (fun W1 hb => ?_)
        replace H := H.ext hb
        clear hb
        try clear hcs
        try clear hargs
        try simp only [List.set_cons_zero, List.set_cons_succ, World.size_alloc, World.size_setCell, World.size_drew] at H
        have hcs := H.cells
        dsimp only [cellsOf, neAll] at hcs
        try clear hargs
        have hargs := H.args
        simp only [List.drop_succ_cons, List.drop_zero]
        go_wp2_with fail
        apply st_calls
        case H => repeat (first | with_reducible exact H | with_reducible apply St.alloc | with_reducible apply St.allocAny | with_reducible apply St.set | with_reducible apply St.drew | with_reducible apply St.over | with_reducible exact get0 | with_reducible exact get1 | with_reducible exact get2 | with_reducible exact get3 | with_reducible exact get4 | with_reducible exact get5 | with_reducible exact get6 | with_reducible exact get7 | simp only [List.set_cons_zero, List.set_cons_succ])
        clear H
        try clear hcs
        try clear hargs
        intro W H
        try simp only [List.set_cons_zero, List.set_cons_succ, World.size_alloc, World.size_setCell, World.size_drew] at H
        have hcs := H.cells
        dsimp only [cellsOf, neAll] at hcs
        try clear hargs
        have hargs := H.args
        refine (right_any _ _ _ _ _).mono ?_
        rintro e w1 ⟨rfl, hb⟩
        replace H := H.ext hb
        clear hb
        try clear hcs
        try clear hargs
        try simp only [List.set_cons_zero, List.set_cons_succ, World.size_alloc, World.size_setCell, World.size_drew] at H
        have hcs := H.cells
        dsimp only [cellsOf, neAll] at hcs
        try clear hargs
        have hargs := H.args
        go_wp2_with fail
        apply st_calls
        case H => repeat (first | with_reducible exact H | with_reducible apply St.alloc | with_reducible apply St.allocAny | with_reducible apply St.set | with_reducible apply St.drew | with_reducible apply St.over | with_reducible exact get0 | with_reducible exact get1 | with_reducible exact get2 | with_reducible exact get3 | with_reducible exact get4 | with_reducible exact get5 | with_reducible exact get6 | with_reducible exact get7 | simp only [List.set_cons_zero, List.set_cons_succ])
        clear H
        try clear hcs
        try clear hargs
        intro W H
        try simp only [List.set_cons_zero, List.set_cons_succ, World.size_alloc, World.size_setCell, World.size_drew] at H
        have hcs := H.cells
        dsimp only [cellsOf, neAll] at hcs
        try clear hargs
        have hargs := H.args
        refine (weightOk_any hr _).mono ?_
        rintro e w1 ⟨rfl, hb⟩
        replace H := H.ext hb
        clear hb
        try clear hcs
        try clear hargs
        try simp only [List.set_cons_zero, List.set_cons_succ, World.size_alloc, World.size_setCell, World.size_drew] at H
        have hcs := H.cells
        dsimp only [cellsOf, neAll] at hcs
        try clear hargs
        have hargs := H.args
        go_wp2_with fail
        apply st_calls
        case H => repeat (first | with_reducible exact H | with_reducible apply St.alloc | with_reducible apply St.allocAny | with_reducible apply St.set | with_reducible apply St.drew | with_reducible apply St.over | with_reducible exact get0 | with_reducible exact get1 | with_reducible exact get2 | with_reducible exact get3 | with_reducible exact get4 | with_reducible exact get5 | with_reducible exact get6 | with_reducible exact get7 | simp only [List.set_cons_zero, List.set_cons_succ])
        clear H
        try clear hcs
        try clear hargs
        intro W H
        try simp only [List.set_cons_zero, List.set_cons_succ, World.size_alloc, World.size_setCell, World.size_drew] at H
        have hcs := H.cells
        dsimp only [cellsOf, neAll] at hcs
        try clear hargs
        have hargs := H.args
        refine (weightOk_any hr' _).mono ?_
        rintro e w1 ⟨rfl, hb⟩
        replace H := H.ext hb
        clear hb
        try clear hcs
        try clear hargs
        try simp only [List.set_cons_zero, List.set_cons_succ, World.size_alloc, World.size_setCell, World.size_drew] at H
        have hcs := H.cells
        dsimp only [cellsOf, neAll] at hcs
        try clear hargs
        have hargs := H.args
        go_wp2_with fail
        apply st_calls
        case H => repeat (first | with_reducible exact H | with_reducible apply St.alloc | with_reducible apply St.allocAny | with_reducible apply St.set | with_reducible apply St.drew | with_reducible apply St.over | with_reducible exact get0 | with_reducible exact get1 | with_reducible exact get2 | with_reducible exact get3 | with_reducible exact get4 | with_reducible exact get5 | with_reducible exact get6 | with_reducible exact get7 | simp only [List.set_cons_zero, List.set_cons_succ])
        clear H
        try clear hcs
        try clear hargs
        intro W H
        try simp only [List.set_cons_zero, List.set_cons_succ, World.size_alloc, World.size_setCell, World.size_drew] at H
        have hcs := H.cells
        dsimp only [cellsOf, neAll] at hcs
        try clear hargs
        have hargs := H.args
        refine (weightOk_any hs _).mono ?_
        rintro e w1 ⟨rfl, hb⟩
        replace H := H.ext hb
        clear hb
        try clear hcs
        try clear hargs
        try simp only [List.set_cons_zero, List.set_cons_succ, World.size_alloc, World.size_setCell, World.size_drew] at H
        have hcs := H.cells
        dsimp only [cellsOf, neAll] at hcs
        try clear hargs
        have hargs := H.args
        go_wp2_with fail
        apply st_calls
        case H => repeat (first | with_reducible exact H | with_reducible apply St.alloc | with_reducible apply St.allocAny | with_reducible apply St.set | with_reducible apply St.drew | with_reducible apply St.over | with_reducible exact get0 | with_reducible exact get1 | with_reducible exact get2 | with_reducible exact get3 | with_reducible exact get4 | with_reducible exact get5 | with_reducible exact get6 | with_reducible exact get7 | simp only [List.set_cons_zero, List.set_cons_succ])
        clear H
        try clear hcs
        try clear hargs
        intro W H
        try simp only [List.set_cons_zero, List.set_cons_succ, World.size_alloc, World.size_setCell, World.size_drew] at H
        have hcs := H.cells
        dsimp only [cellsOf, neAll] at hcs
        try clear hargs
        have hargs := H.args
        refine (awake_any _).mono ?_
        rintro e w1 ⟨rfl, hb⟩
        replace H := H.ext hb
        clear hb
        try clear hcs
        try clear hargs
        try simp only [List.set_cons_zero, List.set_cons_succ, World.size_alloc, World.size_setCell, World.size_drew] at H
        have hcs := H.cells
        dsimp only [cellsOf, neAll] at hcs
        try clear hargs
        have hargs := H.args
        go_wp2
        go_ret
        exact ⟨rfl, H.below⟩
      · have hs2 : rightB (a + a') (b + b') (c + c') (d + d') = false := by simpa using hs
        clear hs
        go_enter Try.func4, Try.ntmps4
        go_wp2_with fail
        apply st_calls
        case H => repeat (first | with_reducible exact H | with_reducible apply St.alloc | with_reducible apply St.allocAny | with_reducible apply St.set | with_reducible apply St.drew | with_reducible apply St.over | with_reducible exact get0 | with_reducible exact get1 | with_reducible exact get2 | with_reducible exact get3 | with_reducible exact get4 | with_reducible exact get5 | with_reducible exact get6 | with_reducible exact get7 | simp only [List.set_cons_zero, List.set_cons_succ])
        clear H
        try clear hcs
        try clear hargs
        intro W H
        try simp only [List.set_cons_zero, List.set_cons_succ, World.size_alloc, World.size_setCell, World.size_drew] at H
        have hcs := H.cells
        dsimp only [cellsOf, neAll] at hcs
        try clear hargs
        have hargs := H.args
        refine (right_any _ _ _ _ _).mono ?_
        rintro e w1 ⟨rfl, hb⟩
        replace H := H.ext hb
        clear hb
        try clear hcs
        try clear hargs
        try simp only [List.set_cons_zero, List.set_cons_succ, World.size_alloc, World.size_setCell, World.size_drew] at H
        have hcs := H.cells
        dsimp only [cellsOf, neAll] at hcs
        try clear hargs
        have hargs := H.args
        go_wp2_with fail
        apply st_calls
        case H => repeat (first | with_reducible exact H | with_reducible apply St.alloc | with_reducible apply St.allocAny | with_reducible apply St.set | with_reducible apply St.drew | with_reducible apply St.over | with_reducible exact get0 | with_reducible exact get1 | with_reducible exact get2 | with_reducible exact get3 | with_reducible exact get4 | with_reducible exact get5 | with_reducible exact get6 | with_reducible exact get7 | simp only [List.set_cons_zero, List.set_cons_succ])
        clear H
        try clear hcs
        try clear hargs
        intro W H
        try simp only [List.set_cons_zero, List.set_cons_succ, World.size_alloc, World.size_setCell, World.size_drew] at H
        have hcs := H.cells
        dsimp only [cellsOf, neAll] at hcs
        try clear hargs
        have hargs := H.args
        refine (right_any _ _ _ _ _).mono ?_
        rintro e w1 ⟨rfl, hb⟩
        replace H := H.ext hb
        clear hb
        try clear hcs
        try clear hargs
        try simp only [List.set_cons_zero, List.set_cons_succ, World.size_alloc, World.size_setCell, World.size_drew] at H
        have hcs := H.cells
        dsimp only [cellsOf, neAll] at hcs
        try clear hargs
        have hargs := H.args
        go_wp2_with fail
        apply st_calls
        case H => repeat (first | with_reducible exact H | with_reducible apply St.alloc | with_reducible apply St.allocAny | with_reducible apply St.set | with_reducible apply St.drew | with_reducible apply St.over | with_reducible exact get0 | with_reducible exact get1 | with_reducible exact get2 | with_reducible exact get3 | with_reducible exact get4 | with_reducible exact get5 | with_reducible exact get6 | with_reducible exact get7 | simp only [List.set_cons_zero, List.set_cons_succ])
        clear H
        try clear hcs
        try clear hargs
        intro W H
        try simp only [List.set_cons_zero, List.set_cons_succ, World.size_alloc, World.size_setCell, World.size_drew] at H
        have hcs := H.cells
        dsimp only [cellsOf, neAll] at hcs
        try clear hargs
        have hargs := H.args
        refine (add_any _ _ _ _ _ _ _ _ _ ⟨q1, q2⟩ ⟨p1, p2⟩ ⟨q3, q4⟩ ⟨p3, p4⟩ ⟨q5, q6⟩ ⟨p5, p6⟩ ⟨q7, q8⟩ ⟨p7, p8⟩).mono ?_
        rintro e w1 ⟨rfl, hb⟩
        replace H := H.ext hb
        clear hb
        try clear hcs
        try clear hargs
        try simp only [List.set_cons_zero, List.set_cons_succ, World.size_alloc, World.size_setCell, World.size_drew] at H
        have hcs := H.cells
        dsimp only [cellsOf, neAll] at hcs
        try clear hargs
        have hargs := H.args
        go_wp2_with fail
        apply st_wp
        case H => repeat (first | with_reducible exact H | with_reducible apply St.alloc | with_reducible apply St.allocAny | with_reducible apply St.set | with_reducible apply St.drew | with_reducible apply St.over | with_reducible exact get0 | with_reducible exact get1 | with_reducible exact get2 | with_reducible exact get3 | with_reducible exact get4 | with_reducible exact get5 | with_reducible exact get6 | with_reducible exact get7 | simp only [List.set_cons_zero, List.set_cons_succ])
        clear H
        try clear hcs
        try clear hargs
        intro W H
        try simp only [List.set_cons_zero, List.set_cons_succ, World.size_alloc, World.size_setCell, World.size_drew] at H
        have hcs := H.cells
        dsimp only [cellsOf, neAll] at hcs
        try clear hargs
        have hargs := H.args
        refine wp_region_mix 12 (by kernel_rfl) (by kernel_rfl) ?_
        (refine mix_step 0 rfl (by kernel_rfl) (fun K hK => ?_); go_simp; refine hK _ ?_; clear hK K)
        (refine mix_step 1 rfl (by kernel_rfl) (fun K hK => ?_); go_simp; refine hK _ ?_; clear hK K)
        (refine mix_step 2 rfl (by kernel_rfl) (fun K hK => ?_); go_simp; refine hK _ ?_; clear hK K)
        (refine mix_step 3 rfl (by kernel_rfl) (fun K hK => ?_); go_simp; (apply Exists.intro; refine ⟨fun _ => ?_, hK _ ?_⟩; exact refAdd_any _ _ _ _ _ _ _ _ _ ⟨q1, q2⟩ ⟨p1, p2⟩ ⟨q3, q4⟩ ⟨p3, p4⟩ ⟨q5, q6⟩ ⟨p5, p6⟩ ⟨q7, q8⟩ ⟨p7, p8⟩); clear hK K)
        (refine mix_step 4 rfl (by kernel_rfl) (fun K hK => ?_); go_simp; refine hK _ ?_; clear hK K)
        (refine mix_step 5 rfl (by kernel_rfl) (fun K hK => ?_); go_simp; refine hK _ ?_; clear hK K)
        (refine mix_step 6 rfl (by kernel_rfl) (fun K hK => ?_); go_simp; refine hK _ ?_; clear hK K)
        (refine mix_step 7 rfl (by kernel_rfl) (fun K hK => ?_); go_simp; refine hK _ ?_; clear hK K)
        (refine mix_step 8 rfl (by kernel_rfl) (fun K hK => ?_); go_simp; refine hK _ ?_; clear hK K)
        (refine mix_step 9 rfl (by kernel_rfl) (fun K hK => ?_); go_simp; (apply Exists.intro; refine ⟨fun _ => ?_, hK _ ?_⟩; exact addSwap_any _ _ _ _ _ _ _ _ _ ⟨q1, q2⟩ ⟨p1, p2⟩ ⟨q3, q4⟩ ⟨p3, p4⟩ ⟨q5, q6⟩ ⟨p5, p6⟩ ⟨q7, q8⟩ ⟨p7, p8⟩); clear hK K)
        (refine mix_step 10 rfl (by kernel_rfl) (fun K hK => ?_); go_simp; refine hK _ ?_; clear hK K)
        (refine mix_step 11 rfl (by kernel_rfl) (fun K hK => ?_); go_simp; refine hK _ ?_; clear hK K)
        refine mix_end' (by kernel_rfl) (fun W1 hb => ?_)
        replace H := H.ext hb
        clear hb
        try clear hcs
        try clear hargs
        try simp only [List.set_cons_zero, List.set_cons_succ, World.size_alloc, World.size_setCell, World.size_drew] at H
        have hcs := H.cells
        dsimp only [cellsOf, neAll] at hcs
        try clear hargs
        have hargs := H.args
        simp only [List.drop_succ_cons, List.drop_zero]
        go_wp2_with fail
        apply st_calls
        case H => repeat (first | with_reducible exact H | with_reducible apply St.alloc | with_reducible apply St.allocAny | with_reducible apply St.set | with_reducible apply St.drew | with_reducible apply St.over | with_reducible exact get0 | with_reducible exact get1 | with_reducible exact get2 | with_reducible exact get3 | with_reducible exact get4 | with_reducible exact get5 | with_reducible exact get6 | with_reducible exact get7 | simp only [List.set_cons_zero, List.set_cons_succ])
        clear H
        try clear hcs
        try clear hargs
        intro W H
        try simp only [List.set_cons_zero, List.set_cons_succ, World.size_alloc, World.size_setCell, World.size_drew] at H
        have hcs := H.cells
        dsimp only [cellsOf, neAll] at hcs
        try clear hargs
        have hargs := H.args
        refine (right_any _ _ _ _ _).mono ?_
        rintro e w1 ⟨rfl, hb⟩
        replace H := H.ext hb
        clear hb
        try clear hcs
        try clear hargs
        try simp only [List.set_cons_zero, List.set_cons_succ, World.size_alloc, World.size_setCell, World.size_drew] at H
        have hcs := H.cells
        dsimp only [cellsOf, neAll] at hcs
        try clear hargs
        have hargs := H.args
        go_wp2_with fail
        apply st_calls
        case H => repeat (first | with_reducible exact H | with_reducible apply St.alloc | with_reducible apply St.allocAny | with_reducible apply St.set | with_reducible apply St.drew | with_reducible apply St.over | with_reducible exact get0 | with_reducible exact get1 | with_reducible exact get2 | with_reducible exact get3 | with_reducible exact get4 | with_reducible exact get5 | with_reducible exact get6 | with_reducible exact get7 | simp only [List.set_cons_zero, List.set_cons_succ])
        clear H
        try clear hcs
        try clear hargs
        intro W H
        try simp only [List.set_cons_zero, List.set_cons_succ, World.size_alloc, World.size_setCell, World.size_drew] at H
        have hcs := H.cells
        dsimp only [cellsOf, neAll] at hcs
        try clear hargs
        have hargs := H.args
        refine (awake_any _).mono ?_
        rintro e w1 ⟨rfl, hb⟩
        replace H := H.ext hb
        clear hb
        try clear hcs
        try clear hargs
        try simp only [List.set_cons_zero, List.set_cons_succ, World.size_alloc, World.size_setCell, World.size_drew] at H
        have hcs := H.cells
        dsimp only [cellsOf, neAll] at hcs
        try clear hargs
        have hargs := H.args
        go_wp2
        go_ret
        exact ⟨rfl, H.below⟩
    · have hr2 : rightB a' b' c' d' = false := by simpa using hr'
      clear hr'
      go_enter Try.func4, Try.ntmps4
      go_wp2_with fail
      apply st_calls
      case H => repeat (first | with_reducible exact H | with_reducible apply St.alloc | with_reducible apply St.allocAny | with_reducible apply St.set | with_reducible apply St.drew | with_reducible apply St.over | with_reducible exact get0 | with_reducible exact get1 | with_reducible exact get2 | with_reducible exact get3 | with_reducible exact get4 | with_reducible exact get5 | with_reducible exact get6 | with_reducible exact get7 | simp only [List.set_cons_zero, List.set_cons_succ])
      clear H
      try clear hcs
      try clear hargs
      intro W H
      try simp only [List.set_cons_zero, List.set_cons_succ, World.size_alloc, World.size_setCell, World.size_drew] at H
      have hcs := H.cells
      dsimp only [cellsOf, neAll] at hcs
      try clear hargs
      have hargs := H.args
      refine (right_any _ _ _ _ _).mono ?_
      rintro e w1 ⟨rfl, hb⟩
      replace H := H.ext hb
      clear hb
      try clear hcs
      try clear hargs
      try simp only [List.set_cons_zero, List.set_cons_succ, World.size_alloc, World.size_setCell, World.size_drew] at H
      have hcs := H.cells
      dsimp only [cellsOf, neAll] at hcs
      try clear hargs
      have hargs := H.args
      go_wp2_with fail
      apply st_calls
      case H => repeat (first | with_reducible exact H | with_reducible apply St.alloc | with_reducible apply St.allocAny | with_reducible apply St.set | with_reducible apply St.drew | with_reducible apply St.over | with_reducible exact get0 | with_reducible exact get1 | with_reducible exact get2 | with_reducible exact get3 | with_reducible exact get4 | with_reducible exact get5 | with_reducible exact get6 | with_reducible exact get7 | simp only [List.set_cons_zero, List.set_cons_succ])
      clear H
      try clear hcs
      try clear hargs
      intro W H
      try simp only [List.set_cons_zero, List.set_cons_succ, World.size_alloc, World.size_setCell, World.size_drew] at H
      have hcs := H.cells
      dsimp only [cellsOf, neAll] at hcs
      try clear hargs
      have hargs := H.args
      refine (right_any _ _ _ _ _).mono ?_
      rintro e w1 ⟨rfl, hb⟩
      replace H := H.ext hb
      clear hb
      try clear hcs
      try clear hargs
      try simp only [List.set_cons_zero, List.set_cons_succ, World.size_alloc, World.size_setCell, World.size_drew] at H
      have hcs := H.cells
      dsimp only [cellsOf, neAll] at hcs
      try clear hargs
      have hargs := H.args
      go_wp2_with fail
      apply st_calls
      case H => repeat (first | with_reducible exact H | with_reducible apply St.alloc | with_reducible apply St.allocAny | with_reducible apply St.set | with_reducible apply St.drew | with_reducible apply St.over | with_reducible exact get0 | with_reducible exact get1 | with_reducible exact get2 | with_reducible exact get3 | with_reducible exact get4 | with_reducible exact get5 | with_reducible exact get6 | with_reducible exact get7 | simp only [List.set_cons_zero, List.set_cons_succ])
      clear H
      try clear hcs
      try clear hargs
      intro W H
      try simp only [List.set_cons_zero, List.set_cons_succ, World.size_alloc, World.size_setCell, World.size_drew] at H
      have hcs := H.cells
      dsimp only [cellsOf, neAll] at hcs
      try clear hargs
      have hargs := H.args
      refine (awake_any _).mono ?_
      rintro e w1 ⟨rfl, hb⟩
      replace H := H.ext hb
      clear hb
      try clear hcs
      try clear hargs
      try simp only [List.set_cons_zero, List.set_cons_succ, World.size_alloc, World.size_setCell, World.size_drew] at H
      have hcs := H.cells
      dsimp only [cellsOf, neAll] at hcs
      try clear hargs
      have hargs := H.args
      go_wp2
      go_ret
      exact ⟨rfl, H.below⟩
  · have hr2 : rightB a b c d = false := by simpa using hr
    clear hr
    go_enter Try.func4, Try.ntmps4
    go_wp2_with fail
    apply st_calls
    case H => repeat (first | with_reducible exact H | with_reducible apply St.alloc | with_reducible apply St.allocAny | with_reducible apply St.set | with_reducible apply St.drew | with_reducible apply St.over | with_reducible exact get0 | with_reducible exact get1 | with_reducible exact get2 | with_reducible exact get3 | with_reducible exact get4 | with_reducible exact get5 | with_reducible exact get6 | with_reducible exact get7 | simp only [List.set_cons_zero, List.set_cons_succ])
    clear H
    try clear hcs
    try clear hargs
    intro W H
    try simp only [List.set_cons_zero, List.set_cons_succ, World.size_alloc, World.size_setCell, World.size_drew] at H
    have hcs := H.cells
    dsimp only [cellsOf, neAll] at hcs
    try clear hargs
    have hargs := H.args
    refine (right_any _ _ _ _ _).mono ?_
    rintro e w1 ⟨rfl, hb⟩
    replace H := H.ext hb
    clear hb
    try clear hcs
    try clear hargs
    try simp only [List.set_cons_zero, List.set_cons_succ, World.size_alloc, World.size_setCell, World.size_drew] at H
    have hcs := H.cells
    dsimp only [cellsOf, neAll] at hcs
    try clear hargs
    have hargs := H.args
    go_wp2_with fail
    apply st_calls
    case H => repeat (first | with_reducible exact H | with_reducible apply St.alloc | with_reducible apply St.allocAny | with_reducible apply St.set | with_reducible apply St.drew | with_reducible apply St.over | with_reducible exact get0 | with_reducible exact get1 | with_reducible exact get2 | with_reducible exact get3 | with_reducible exact get4 | with_reducible exact get5 | with_reducible exact get6 | with_reducible exact get7 | simp only [List.set_cons_zero, List.set_cons_succ])
    clear H
    try clear hcs
    try clear hargs
    intro W H
    try simp only [List.set_cons_zero, List.set_cons_succ, World.size_alloc, World.size_setCell, World.size_drew] at H
    have hcs := H.cells
    dsimp only [cellsOf, neAll] at hcs
    try clear hargs
    have hargs := H.args
    refine (awake_any _).mono ?_
    rintro e w1 ⟨rfl, hb⟩
    replace H := H.ext hb
    clear hb
    try clear hcs
    try clear hargs
    try simp only [List.set_cons_zero, List.set_cons_succ, World.size_alloc, World.size_setCell, World.size_drew] at H
    have hcs := H.cells
    dsimp only [cellsOf, neAll] at hcs
    try clear hargs
    have hargs := H.args
    go_wp2
    go_ret
    exact ⟨rfl, H.below⟩
end Go.Proofs.Ytcmbckcjklociaa
