/- Walks of Add and Compare of package price and of its reference. -/
import Derived.Test.YtcmbckcjklociaaA
namespace Go.Proofs.Ytcmbckcjklociaa
open Go.RowKit

set_option maxHeartbeats 4000000 in
theorem add_any (a b c d a' b' c' d' : Int) (w : World) (ha : 0 ≤ a ∧ a ≤ 1073741824) (ha' : 0 ≤ a' ∧ a' ≤ 1073741824) (hb : 0 ≤ b ∧ b ≤ 15) (hb' : 0 ≤ b' ∧ b' ≤ 15) (hc : 0 ≤ c ∧ c ≤ 15) (hc' : 0 ≤ c' ∧ c' ≤ 15) (hd : 0 ≤ d ∧ d ≤ 65535) (hd' : 0 ≤ d' ∧ d' ≤ 65535) :
    Calls Try.prog 13 #[.agg #[.int .i64 a, .int .i64 b, .int .i64 c, .int .i64 d], .agg #[.int .i64 a', .int .i64 b', .int .i64 c', .int .i64 d']] w fun e w' => e = .returned (.agg #[.int .i64 (a + a'), .int .i64 (b + b'), .int .i64 (c + c'), .int .i64 (d + d')]) ∧ Below w.heap.size w w' := by
  have H := St.start w
  go_enter Try.func13, Try.ntmps13
  go_upto_region 1 with fail
  apply st_wp
  case H => repeat (first | with_reducible exact H | with_reducible apply St.alloc | with_reducible apply St.allocAny | with_reducible apply St.set | with_reducible apply St.drew | with_reducible apply St.over | with_reducible exact get0 | with_reducible exact get1 | with_reducible exact get2 | with_reducible exact get3 | with_reducible exact get4 | with_reducible exact get5 | with_reducible exact get6 | with_reducible exact get7 | simp only [List.set_cons_zero, List.set_cons_succ])
  clear H
  try clear hcs
  try clear hargs
  intro W H
  try simp only [List.set_cons_zero, List.set_cons_succ, World.size_alloc, World.size_setCell, World.size_drew] at H
  have hcs := H.cells
  dsimp only [cellsOf, neAll] at hcs
  try clear hargs
  have hargs := H.args
  go_cut [5, 6] (fun s5 s6 wx => ∃ g h : Nat, s5 = .pointer (some ⟨g, 0, none⟩) ∧ s6 = .pointer (some ⟨h, 0, none⟩) ∧
    St w wx [(g, 67, [.int .i64 a, .int .i64 b, .int .i64 c, .int .i64 d]), (h, 67, [.int .i64 a', .int .i64 b', .int .i64 c', .int .i64 d']), (w.heap.size + 1 + 1, 41, [.int .i64 0, .int .i64 0, .int .i64 0, .int .i64 0])] [])
  case first =>
    refine wp_region_mix 6 (by kernel_rfl) (by kernel_rfl) ?_
    (refine mix_step 0 rfl (by kernel_rfl) (fun K hK => ?_); go_simp; refine hK _ ?_; clear hK K)
    (refine mix_step 1 rfl (by kernel_rfl) (fun K hK => ?_); go_simp; (apply Exists.intro; refine ⟨fun _ => ?_, hK _ ?_⟩; exact split_any _ _ _ _ _); clear hK K)
    (refine mix_step 2 rfl (by kernel_rfl) (fun K hK => ?_); go_simp; refine hK _ ?_; clear hK K)
    (refine mix_step 3 rfl (by kernel_rfl) (fun K hK => ?_); go_simp; (apply Exists.intro; refine ⟨fun _ => ?_, hK _ ?_⟩; exact split_any _ _ _ _ _); clear hK K)
    refine mix_two' 4 5 rfl rfl (by kernel_rfl) (fun W1 K hb hK => ?_) (fun W1 K hb hK => ?_)
    · go_simp
      refine hK _ _ ((Below.refl _ _).alloc (Nat.le_refl _) _) ?_
      clear hK K
      replace H := H.ext hb
      clear hb
      apply st_mx
      case H => repeat (first | with_reducible exact H | with_reducible apply St.alloc | with_reducible apply St.allocAny | with_reducible apply St.set | with_reducible apply St.drew | with_reducible apply St.over | with_reducible exact get0 | with_reducible exact get1 | with_reducible exact get2 | with_reducible exact get3 | with_reducible exact get4 | with_reducible exact get5 | with_reducible exact get6 | with_reducible exact get7 | simp only [List.set_cons_zero, List.set_cons_succ])
      clear H
      try clear hcs
      try clear hargs
      intro W H
      try simp only [List.set_cons_zero, List.set_cons_succ, World.size_alloc, World.size_setCell, World.size_drew] at H
      have hcs := H.cells
      dsimp only [cellsOf, neAll] at hcs
      try clear hargs
      have hargs := H.args
      refine mix_one' 5 rfl (by kernel_rfl) (fun W2 K hb hK => ?_)
      go_simp
      refine hK _ _ ((Below.refl _ _).alloc (Nat.le_refl _) _) ?_
      clear hK K
      replace H := H.ext hb
      clear hb
      apply st_mx
      case H => repeat (first | with_reducible exact H | with_reducible apply St.alloc | with_reducible apply St.allocAny | with_reducible apply St.set | with_reducible apply St.drew | with_reducible apply St.over | with_reducible exact get0 | with_reducible exact get1 | with_reducible exact get2 | with_reducible exact get3 | with_reducible exact get4 | with_reducible exact get5 | with_reducible exact get6 | with_reducible exact get7 | simp only [List.set_cons_zero, List.set_cons_succ])
      clear H
      try clear hcs
      try clear hargs
      intro W H
      try simp only [List.set_cons_zero, List.set_cons_succ, World.size_alloc, World.size_setCell, World.size_drew] at H
      have hcs := H.cells
      dsimp only [cellsOf, neAll] at hcs
      try clear hargs
      have hargs := H.args
      refine mix_end' (by kernel_rfl) (fun W1 hb => ?_)
      replace H := H.ext hb
      clear hb
      try clear hcs
      try clear hargs
      try simp only [List.set_cons_zero, List.set_cons_succ, World.size_alloc, World.size_setCell, World.size_drew] at H
      have hcs := H.cells
      dsimp only [cellsOf, neAll] at hcs
      try clear hargs
      have hargs := H.args
      simp only [List.drop_succ_cons, List.drop_zero]
      go_wp2_with fail
      go_meet
      refine ⟨_, _, rfl, rfl, ?_⟩
      apply St.pick [1, 0, 2] (by decide)
      case H => repeat (first | with_reducible exact H | with_reducible apply St.alloc | with_reducible apply St.allocAny | with_reducible apply St.set | with_reducible apply St.drew | with_reducible apply St.over | with_reducible exact get0 | with_reducible exact get1 | with_reducible exact get2 | with_reducible exact get3 | with_reducible exact get4 | with_reducible exact get5 | with_reducible exact get6 | with_reducible exact get7 | simp only [List.set_cons_zero, List.set_cons_succ])
      all_goals first | rfl | simp only [List.set_cons_zero, List.set_cons_succ, World.size_alloc, World.size_setCell, World.size_drew]
    · go_simp
      refine hK _ _ ((Below.refl _ _).alloc (Nat.le_refl _) _) ?_
      clear hK K
      replace H := H.ext hb
      clear hb
      apply st_mx
      case H => repeat (first | with_reducible exact H | with_reducible apply St.alloc | with_reducible apply St.allocAny | with_reducible apply St.set | with_reducible apply St.drew | with_reducible apply St.over | with_reducible exact get0 | with_reducible exact get1 | with_reducible exact get2 | with_reducible exact get3 | with_reducible exact get4 | with_reducible exact get5 | with_reducible exact get6 | with_reducible exact get7 | simp only [List.set_cons_zero, List.set_cons_succ])
      clear H
      try clear hcs
      try clear hargs
      intro W H
      try simp only [List.set_cons_zero, List.set_cons_succ, World.size_alloc, World.size_setCell, World.size_drew] at H
      have hcs := H.cells
      dsimp only [cellsOf, neAll] at hcs
      try clear hargs
      have hargs := H.args
      refine mix_one' 4 rfl (by kernel_rfl) (fun W2 K hb hK => ?_)
      go_simp
      refine hK _ _ ((Below.refl _ _).alloc (Nat.le_refl _) _) ?_
      clear hK K
      replace H := H.ext hb
      clear hb
      apply st_mx
      case H => repeat (first | with_reducible exact H | with_reducible apply St.alloc | with_reducible apply St.allocAny | with_reducible apply St.set | with_reducible apply St.drew | with_reducible apply St.over | with_reducible exact get0 | with_reducible exact get1 | with_reducible exact get2 | with_reducible exact get3 | with_reducible exact get4 | with_reducible exact get5 | with_reducible exact get6 | with_reducible exact get7 | simp only [List.set_cons_zero, List.set_cons_succ])
      clear H
      try clear hcs
      try clear hargs
      intro W H
      try simp only [List.set_cons_zero, List.set_cons_succ, World.size_alloc, World.size_setCell, World.size_drew] at H
      have hcs := H.cells
      dsimp only [cellsOf, neAll] at hcs
      try clear hargs
      have hargs := H.args
      refine mix_end' (by kernel_rfl) (fun W1 hb => ?_)
      replace H := H.ext hb
      clear hb
      try clear hcs
      try clear hargs
      try simp only [List.set_cons_zero, List.set_cons_succ, World.size_alloc, World.size_setCell, World.size_drew] at H
      have hcs := H.cells
      dsimp only [cellsOf, neAll] at hcs
      try clear hargs
      have hargs := H.args
      simp only [List.drop_succ_cons, List.drop_zero]
      go_wp2_with fail
      go_meet
      refine ⟨_, _, rfl, rfl, ?_⟩
      apply St.pick [0, 1, 2] (by decide)
      case H => repeat (first | with_reducible exact H | with_reducible apply St.alloc | with_reducible apply St.allocAny | with_reducible apply St.set | with_reducible apply St.drew | with_reducible apply St.over | with_reducible exact get0 | with_reducible exact get1 | with_reducible exact get2 | with_reducible exact get3 | with_reducible exact get4 | with_reducible exact get5 | with_reducible exact get6 | with_reducible exact get7 | simp only [List.set_cons_zero, List.set_cons_succ])
      all_goals first | rfl | simp only [List.set_cons_zero, List.set_cons_succ, World.size_alloc, World.size_setCell, World.size_drew]
  case rest =>
    obtain ⟨g, h, rfl, rfl, H⟩ := hcut
    obtain ⟨ha1, ha2⟩ := ha
    obtain ⟨hb1, hb2⟩ := hb
    obtain ⟨hc1, hc2⟩ := hc
    obtain ⟨hd1, hd2⟩ := hd
    obtain ⟨ha1', ha2'⟩ := ha'
    obtain ⟨hb1', hb2'⟩ := hb'
    obtain ⟨hc1', hc2'⟩ := hc'
    obtain ⟨hd1', hd2'⟩ := hd'
    try clear hcs
    try clear hargs
    try simp only [List.set_cons_zero, List.set_cons_succ, World.size_alloc, World.size_setCell, World.size_drew] at H
    have hcs := H.cells
    dsimp only [cellsOf, neAll] at hcs
    try clear hargs
    have hargs := H.args
    go_wp2
    refine wp_loop_rounds 5 ?_
    rw [rounds_succ]
    go_upto_region 5 with fail
    refine wp_region_mix 7 (by kernel_rfl) (by kernel_rfl) ?_
    (refine mix_step 0 rfl (by kernel_rfl) (fun K hK => ?_); go_simp; refine hK _ ?_; clear hK K)
    (refine mix_step 1 rfl (by kernel_rfl) (fun K hK => ?_); go_simp; refine hK _ ?_; clear hK K)
    (refine mix_step 2 rfl (by kernel_rfl) (fun K hK => ?_); go_simp; refine hK _ ?_; clear hK K)
    (refine mix_step 3 rfl (by kernel_rfl) (fun K hK => ?_); go_simp; refine hK _ ?_; clear hK K)
    (refine mix_step 4 rfl (by kernel_rfl) (fun K hK => ?_); go_simp; refine hK _ ?_; clear hK K)
    (refine mix_step 5 rfl (by kernel_rfl) (fun K hK => ?_); go_simp; refine hK _ ?_; clear hK K)
    (refine mix_step 6 rfl (by kernel_rfl) (fun K hK => ?_); go_simp; refine hK _ ?_; clear hK K)
    refine mix_end' (by kernel_rfl) (fun W1 hb => ?_)
    replace H := H.ext hb
    clear hb
    try clear hcs
    try clear hargs
    try simp only [List.set_cons_zero, List.set_cons_succ, World.size_alloc, World.size_setCell, World.size_drew] at H
    have hcs := H.cells
    dsimp only [cellsOf, neAll] at hcs
    try clear hargs
    have hargs := H.args
    simp only [List.drop_succ_cons, List.drop_zero]
    go_wp2_with fail
    apply st_rounds
    case H => repeat (first | with_reducible exact H | with_reducible apply St.alloc | with_reducible apply St.allocAny | with_reducible apply St.set | with_reducible apply St.drew | with_reducible apply St.over | with_reducible exact get0 | with_reducible exact get1 | with_reducible exact get2 | with_reducible exact get3 | with_reducible exact get4 | with_reducible exact get5 | with_reducible exact get6 | with_reducible exact get7 | simp only [List.set_cons_zero, List.set_cons_succ])
    clear H
    try clear hcs
    try clear hargs
    intro W H
    try simp only [List.set_cons_zero, List.set_cons_succ, World.size_alloc, World.size_setCell, World.size_drew] at H
    have hcs := H.cells
    dsimp only [cellsOf, neAll] at hcs
    try clear hargs
    have hargs := H.args
    rw [rounds_succ]
    go_upto_region 5 with fail
    refine wp_region_mix 7 (by kernel_rfl) (by kernel_rfl) ?_
    (refine mix_step 0 rfl (by kernel_rfl) (fun K hK => ?_); go_simp; refine hK _ ?_; clear hK K)
    (refine mix_step 1 rfl (by kernel_rfl) (fun K hK => ?_); go_simp; refine hK _ ?_; clear hK K)
    (refine mix_step 2 rfl (by kernel_rfl) (fun K hK => ?_); go_simp; refine hK _ ?_; clear hK K)
    (refine mix_step 3 rfl (by kernel_rfl) (fun K hK => ?_); go_simp; refine hK _ ?_; clear hK K)
    (refine mix_step 4 rfl (by kernel_rfl) (fun K hK => ?_); go_simp; refine hK _ ?_; clear hK K)
    (refine mix_step 5 rfl (by kernel_rfl) (fun K hK => ?_); go_simp; refine hK _ ?_; clear hK K)
    (refine mix_step 6 rfl (by kernel_rfl) (fun K hK => ?_); go_simp; refine hK _ ?_; clear hK K)
    refine mix_end' (by kernel_rfl) (fun W1 hb => ?_)
    replace H := H.ext hb
    clear hb
    try clear hcs
    try clear hargs
    try simp only [List.set_cons_zero, List.set_cons_succ, World.size_alloc, World.size_setCell, World.size_drew] at H
    have hcs := H.cells
    dsimp only [cellsOf, neAll] at hcs
    try clear hargs
    have hargs := H.args
    simp only [List.drop_succ_cons, List.drop_zero]
    go_wp2_with fail
    apply st_rounds
    case H => repeat (first | with_reducible exact H | with_reducible apply St.alloc | with_reducible apply St.allocAny | with_reducible apply St.set | with_reducible apply St.drew | with_reducible apply St.over | with_reducible exact get0 | with_reducible exact get1 | with_reducible exact get2 | with_reducible exact get3 | with_reducible exact get4 | with_reducible exact get5 | with_reducible exact get6 | with_reducible exact get7 | simp only [List.set_cons_zero, List.set_cons_succ])
    clear H
    try clear hcs
    try clear hargs
    intro W H
    try simp only [List.set_cons_zero, List.set_cons_succ, World.size_alloc, World.size_setCell, World.size_drew] at H
    have hcs := H.cells
    dsimp only [cellsOf, neAll] at hcs
    try clear hargs
    have hargs := H.args
    rw [rounds_succ]
    go_upto_region 5 with fail
    refine wp_region_mix 7 (by kernel_rfl) (by kernel_rfl) ?_
    (refine mix_step 0 rfl (by kernel_rfl) (fun K hK => ?_); go_simp; refine hK _ ?_; clear hK K)
    (refine mix_step 1 rfl (by kernel_rfl) (fun K hK => ?_); go_simp; refine hK _ ?_; clear hK K)
    (refine mix_step 2 rfl (by kernel_rfl) (fun K hK => ?_); go_simp; refine hK _ ?_; clear hK K)
    (refine mix_step 3 rfl (by kernel_rfl) (fun K hK => ?_); go_simp; refine hK _ ?_; clear hK K)
    (refine mix_step 4 rfl (by kernel_rfl) (fun K hK => ?_); go_simp; refine hK _ ?_; clear hK K)
    (refine mix_step 5 rfl (by kernel_rfl) (fun K hK => ?_); go_simp; refine hK _ ?_; clear hK K)
    (refine mix_step 6 rfl (by kernel_rfl) (fun K hK => ?_); go_simp; refine hK _ ?_; clear hK K)
    refine mix_end' (by kernel_rfl) (fun W1 hb => ?_)
    replace H := H.ext hb
    clear hb
    try clear hcs
    try clear hargs
    try simp only [List.set_cons_zero, List.set_cons_succ, World.size_alloc, World.size_setCell, World.size_drew] at H
    have hcs := H.cells
    dsimp only [cellsOf, neAll] at hcs
    try clear hargs
    have hargs := H.args
    simp only [List.drop_succ_cons, List.drop_zero]
    go_wp2_with fail
    apply st_rounds
    case H => repeat (first | with_reducible exact H | with_reducible apply St.alloc | with_reducible apply St.allocAny | with_reducible apply St.set | with_reducible apply St.drew | with_reducible apply St.over | with_reducible exact get0 | with_reducible exact get1 | with_reducible exact get2 | with_reducible exact get3 | with_reducible exact get4 | with_reducible exact get5 | with_reducible exact get6 | with_reducible exact get7 | simp only [List.set_cons_zero, List.set_cons_succ])
    clear H
    try clear hcs
    try clear hargs
    intro W H
    try simp only [List.set_cons_zero, List.set_cons_succ, World.size_alloc, World.size_setCell, World.size_drew] at H
    have hcs := H.cells
    dsimp only [cellsOf, neAll] at hcs
    try clear hargs
    have hargs := H.args
    rw [rounds_succ]
    go_upto_region 5 with fail
    refine wp_region_mix 7 (by kernel_rfl) (by kernel_rfl) ?_
    (refine mix_step 0 rfl (by kernel_rfl) (fun K hK => ?_); go_simp; refine hK _ ?_; clear hK K)
    (refine mix_step 1 rfl (by kernel_rfl) (fun K hK => ?_); go_simp; refine hK _ ?_; clear hK K)
    (refine mix_step 2 rfl (by kernel_rfl) (fun K hK => ?_); go_simp; refine hK _ ?_; clear hK K)
    (refine mix_step 3 rfl (by kernel_rfl) (fun K hK => ?_); go_simp; refine hK _ ?_; clear hK K)
    (refine mix_step 4 rfl (by kernel_rfl) (fun K hK => ?_); go_simp; refine hK _ ?_; clear hK K)
    (refine mix_step 5 rfl (by kernel_rfl) (fun K hK => ?_); go_simp; refine hK _ ?_; clear hK K)
    (refine mix_step 6 rfl (by kernel_rfl) (fun K hK => ?_); go_simp; refine hK _ ?_; clear hK K)
    refine mix_end' (by kernel_rfl) (fun W1 hb => ?_)
    replace H := H.ext hb
    clear hb
    try clear hcs
    try clear hargs
    try simp only [List.set_cons_zero, List.set_cons_succ, World.size_alloc, World.size_setCell, World.size_drew] at H
    have hcs := H.cells
    dsimp only [cellsOf, neAll] at hcs
    try clear hargs
    have hargs := H.args
    simp only [List.drop_succ_cons, List.drop_zero]
    go_wp2_with fail
    apply st_rounds
    case H => repeat (first | with_reducible exact H | with_reducible apply St.alloc | with_reducible apply St.allocAny | with_reducible apply St.set | with_reducible apply St.drew | with_reducible apply St.over | with_reducible exact get0 | with_reducible exact get1 | with_reducible exact get2 | with_reducible exact get3 | with_reducible exact get4 | with_reducible exact get5 | with_reducible exact get6 | with_reducible exact get7 | simp only [List.set_cons_zero, List.set_cons_succ])
    clear H
    try clear hcs
    try clear hargs
    intro W H
    try simp only [List.set_cons_zero, List.set_cons_succ, World.size_alloc, World.size_setCell, World.size_drew] at H
    have hcs := H.cells
    dsimp only [cellsOf, neAll] at hcs
    try clear hargs
    have hargs := H.args
    rw [rounds_succ]
    go_wp2_with fail
    go_at_call 26
    refine (join_any _ _ _ _ _).mono ?_
    rintro e W1 ⟨rfl, hb⟩
    replace H := H.ext hb
    clear hb
    try clear hcs
    try clear hargs
    try simp only [List.set_cons_zero, List.set_cons_succ, World.size_alloc, World.size_setCell, World.size_drew] at H
    have hcs := H.cells
    dsimp only [cellsOf, neAll] at hcs
    try clear hargs
    have hargs := H.args
    go_wp2
    refine bodyPost_ret (v := .agg #[.int .i64 (a + a'), .int .i64 (b + b'), .int .i64 (c + c'), .int .i64 (d + d')]) (by simp [results, Try.results13, go_sem, hcs]) rfl ⟨rfl, ?_⟩
    apply St.below'
    all_goals (repeat (first | with_reducible exact H | with_reducible apply St.alloc | with_reducible apply St.allocAny | with_reducible apply St.set | with_reducible apply St.drew | with_reducible apply St.over | with_reducible exact get0 | with_reducible exact get1 | with_reducible exact get2 | with_reducible exact get3 | with_reducible exact get4 | with_reducible exact get5 | with_reducible exact get6 | with_reducible exact get7 | simp only [List.set_cons_zero, List.set_cons_succ]))

set_option maxHeartbeats 1000000 in
theorem refAdd_any (a b c d a' b' c' d' : Int) (w : World) (ha : 0 ≤ a ∧ a ≤ 1073741824) (ha' : 0 ≤ a' ∧ a' ≤ 1073741824) (hb : 0 ≤ b ∧ b ≤ 15) (hb' : 0 ≤ b' ∧ b' ≤ 15) (hc : 0 ≤ c ∧ c ≤ 15) (hc' : 0 ≤ c' ∧ c' ≤ 15) (hd : 0 ≤ d ∧ d ≤ 65535) (hd' : 0 ≤ d' ∧ d' ≤ 65535) :
    Calls Try.prog 14 #[.agg #[.int .i64 (a), .int .i64 (b), .int .i64 (c), .int .i64 (d)], .agg #[.int .i64 (a'), .int .i64 (b'), .int .i64 (c'), .int .i64 (d')]] w fun e w' => e = .returned (.agg #[.int .i64 (a + a'), .int .i64 (b + b'), .int .i64 (c + c'), .int .i64 (d + d')]) ∧ Below w.heap.size w w' := by
  have H := St.start w
  obtain ⟨ha1, ha2⟩ := ha
  obtain ⟨hb1, hb2⟩ := hb
  obtain ⟨hc1, hc2⟩ := hc
  obtain ⟨hd1, hd2⟩ := hd
  obtain ⟨ha1', ha2'⟩ := ha'
  obtain ⟨hb1', hb2'⟩ := hb'
  obtain ⟨hc1', hc2'⟩ := hc'
  obtain ⟨hd1', hd2'⟩ := hd'
  go_enter Try.func14, Try.ntmps14
  go_wp2
  refine bodyPost_ret (v := .agg #[.int .i64 (a + a'), .int .i64 (b + b'), .int .i64 (c + c'), .int .i64 (d + d')]) (by simp [results, Try.results14, go_sem]) rfl ⟨rfl, ?_⟩
  apply St.below'
  all_goals (repeat (first | with_reducible exact H | with_reducible apply St.alloc | with_reducible apply St.allocAny | with_reducible apply St.set | with_reducible apply St.drew | with_reducible apply St.over | with_reducible exact get0 | with_reducible exact get1 | with_reducible exact get2 | with_reducible exact get3 | with_reducible exact get4 | with_reducible exact get5 | with_reducible exact get6 | with_reducible exact get7 | simp only [List.set_cons_zero, List.set_cons_succ]))

def lexC (a b c d a' b' c' d' : Int) : Int := if (cmpI a a' != 0) = true then cmpI a a' else if (cmpI b b' != 0) = true then cmpI b b' else if (cmpI c c' != 0) = true then cmpI c c' else cmpI d d'
section
variable {a b c d a' b' c' d' : Int}
theorem lex1 (h : (cmpI a a' != 0) = true) : cmpI a a' = lexC a b c d a' b' c' d' := by unfold lexC; rw [if_pos h]
theorem lex2 (h : (cmpI a a' != 0) = false) (h2 : (cmpI b b' != 0) = true) : cmpI b b' = lexC a b c d a' b' c' d' := by unfold lexC; rw [h, if_neg Bool.false_ne_true, if_pos h2]
theorem lex3 (h : (cmpI a a' != 0) = false) (h2 : (cmpI b b' != 0) = false) (h3 : (cmpI c c' != 0) = true) : cmpI c c' = lexC a b c d a' b' c' d' := by unfold lexC; rw [h, h2, if_neg Bool.false_ne_true, if_neg Bool.false_ne_true, if_pos h3]
theorem lex4 (h : (cmpI a a' != 0) = false) (h2 : (cmpI b b' != 0) = false) (h3 : (cmpI c c' != 0) = false) : cmpI d d' = lexC a b c d a' b' c' d' := by unfold lexC; rw [h, h2, h3, if_neg Bool.false_ne_true, if_neg Bool.false_ne_true, if_neg Bool.false_ne_true]
theorem lex5 (h : (cmpI a a' != 0) = false) (h2 : (cmpI b b' != 0) = false) (h3 : (cmpI c c' != 0) = false) (h4 : (cmpI d d' != 0) = false) : 0 = lexC a b c d a' b' c' d' := by
  rw [← lex4 h h2 h3]; simpa using Eq.symm (by simpa using h4 : cmpI d d' = 0)
end

set_option maxHeartbeats 1000000 in
theorem refCompare_any (a b c d a' b' c' d' : Int) (w : World) :
    Calls Try.prog 22 #[.agg #[.int .i64 (a), .int .i64 (b), .int .i64 (c), .int .i64 (d)], .agg #[.int .i64 (a'), .int .i64 (b'), .int .i64 (c'), .int .i64 (d')]] w fun e w' => e = .returned (.int .i64 (lexC a b c d a' b' c' d')) ∧ Below w.heap.size w w' := by
  have H := St.start w
  go_enter Try.func22, Try.ntmps22
  go_wp2_with (go_at_call 28; refine (order_any _ _ _).mono ?_; rintro e w1 ⟨rfl, rfl⟩)
  all_goals
    go_ret
    refine ⟨ret_int (by first | exact lex1 (by assumption) | exact lex2 (by assumption) (by assumption) | exact lex3 (by assumption) (by assumption) (by assumption) | exact lex4 (by assumption) (by assumption) (by assumption)), ?_⟩
    apply St.below'
    all_goals (repeat (first | with_reducible exact H | with_reducible apply St.alloc | with_reducible apply St.allocAny | with_reducible apply St.set | with_reducible apply St.drew | with_reducible apply St.over | with_reducible exact get0 | with_reducible exact get1 | with_reducible exact get2 | with_reducible exact get3 | with_reducible exact get4 | with_reducible exact get5 | with_reducible exact get6 | with_reducible exact get7 | simp only [List.set_cons_zero, List.set_cons_succ]))

set_option maxHeartbeats 4000000 in
theorem compare_any (a b c d a' b' c' d' : Int) (w : World) :
    Calls Try.prog 21 #[.agg #[.int .i64 (a), .int .i64 (b), .int .i64 (c), .int .i64 (d)], .agg #[.int .i64 (a'), .int .i64 (b'), .int .i64 (c'), .int .i64 (d')]] w fun e w' => e = .returned (.int .i64 (lexC a b c d a' b' c' d')) ∧ Below w.heap.size w w' := by
  have H := St.start w
  go_enter Try.func21, Try.ntmps21
  go_upto_region 1 with fail
  apply st_wp
  case H => repeat (first | with_reducible exact H | with_reducible apply St.alloc | with_reducible apply St.allocAny | with_reducible apply St.set | with_reducible apply St.drew | with_reducible apply St.over | with_reducible exact get0 | with_reducible exact get1 | with_reducible exact get2 | with_reducible exact get3 | with_reducible exact get4 | with_reducible exact get5 | with_reducible exact get6 | with_reducible exact get7 | simp only [List.set_cons_zero, List.set_cons_succ])
  clear H
  try clear hcs
  try clear hargs
  intro W H
  try simp only [List.set_cons_zero, List.set_cons_succ, World.size_alloc, World.size_setCell, World.size_drew] at H
  have hcs := H.cells
  dsimp only [cellsOf, neAll] at hcs
  try clear hargs
  have hargs := H.args
  go_cut [5, 6] (fun s5 s6 wx => ∃ g h : Nat, s5 = .pointer (some ⟨g, 0, none⟩) ∧ s6 = .pointer (some ⟨h, 0, none⟩) ∧
    St w wx [(g, 67, [.int .i64 (a), .int .i64 (b), .int .i64 (c), .int .i64 (d)]), (h, 67, [.int .i64 (a'), .int .i64 (b'), .int .i64 (c'), .int .i64 (d')])] [])
  case first =>
    refine wp_region_mix 6 (by kernel_rfl) (by kernel_rfl) ?_
    (refine mix_step 0 rfl (by kernel_rfl) (fun K hK => ?_); go_simp; refine hK _ ?_; clear hK K)
    (refine mix_step 1 rfl (by kernel_rfl) (fun K hK => ?_); go_simp; (apply Exists.intro; refine ⟨fun _ => ?_, hK _ ?_⟩; exact split_any _ _ _ _ _); clear hK K)
    (refine mix_step 2 rfl (by kernel_rfl) (fun K hK => ?_); go_simp; refine hK _ ?_; clear hK K)
    (refine mix_step 3 rfl (by kernel_rfl) (fun K hK => ?_); go_simp; (apply Exists.intro; refine ⟨fun _ => ?_, hK _ ?_⟩; exact split_any _ _ _ _ _); clear hK K)
    refine mix_two' 4 5 rfl rfl (by kernel_rfl) (fun W1 K hb hK => ?_) (fun W1 K hb hK => ?_)
    · go_simp
      refine hK _ _ ((Below.refl _ _).alloc (Nat.le_refl _) _) ?_
      clear hK K
      replace H := H.ext hb
      clear hb
      apply st_mx
      case H => repeat (first | with_reducible exact H | with_reducible apply St.alloc | with_reducible apply St.allocAny | with_reducible apply St.set | with_reducible apply St.drew | with_reducible apply St.over | with_reducible exact get0 | with_reducible exact get1 | with_reducible exact get2 | with_reducible exact get3 | with_reducible exact get4 | with_reducible exact get5 | with_reducible exact get6 | with_reducible exact get7 | simp only [List.set_cons_zero, List.set_cons_succ])
      clear H
      try clear hcs
      try clear hargs
      intro W H
      try simp only [List.set_cons_zero, List.set_cons_succ, World.size_alloc, World.size_setCell, World.size_drew] at H
      have hcs := H.cells
      dsimp only [cellsOf, neAll] at hcs
      try clear hargs
      have hargs := H.args
      refine mix_one' 5 rfl (by kernel_rfl) (fun W2 K hb hK => ?_)
      go_simp
      refine hK _ _ ((Below.refl _ _).alloc (Nat.le_refl _) _) ?_
      clear hK K
      replace H := H.ext hb
      clear hb
      apply st_mx
      case H => repeat (first | with_reducible exact H | with_reducible apply St.alloc | with_reducible apply St.allocAny | with_reducible apply St.set | with_reducible apply St.drew | with_reducible apply St.over | with_reducible exact get0 | with_reducible exact get1 | with_reducible exact get2 | with_reducible exact get3 | with_reducible exact get4 | with_reducible exact get5 | with_reducible exact get6 | with_reducible exact get7 | simp only [List.set_cons_zero, List.set_cons_succ])
      clear H
      try clear hcs
      try clear hargs
      intro W H
      try simp only [List.set_cons_zero, List.set_cons_succ, World.size_alloc, World.size_setCell, World.size_drew] at H
      have hcs := H.cells
      dsimp only [cellsOf, neAll] at hcs
      try clear hargs
      have hargs := H.args
      refine mix_end' (by kernel_rfl) (fun W1 hb => ?_)
      replace H := H.ext hb
      clear hb
      try clear hcs
      try clear hargs
      try simp only [List.set_cons_zero, List.set_cons_succ, World.size_alloc, World.size_setCell, World.size_drew] at H
      have hcs := H.cells
      dsimp only [cellsOf, neAll] at hcs
      try clear hargs
      have hargs := H.args
      simp only [List.drop_succ_cons, List.drop_zero]
      go_wp2_with fail
      go_meet
      refine ⟨_, _, rfl, rfl, ?_⟩
      apply St.pick [1, 0] (by decide)
      case H => repeat (first | with_reducible exact H | with_reducible apply St.alloc | with_reducible apply St.allocAny | with_reducible apply St.set | with_reducible apply St.drew | with_reducible apply St.over | with_reducible exact get0 | with_reducible exact get1 | with_reducible exact get2 | with_reducible exact get3 | with_reducible exact get4 | with_reducible exact get5 | with_reducible exact get6 | with_reducible exact get7 | simp only [List.set_cons_zero, List.set_cons_succ])
      all_goals first | rfl | simp only [List.set_cons_zero, List.set_cons_succ, World.size_alloc, World.size_setCell, World.size_drew]
    · go_simp
      refine hK _ _ ((Below.refl _ _).alloc (Nat.le_refl _) _) ?_
      clear hK K
      replace H := H.ext hb
      clear hb
      apply st_mx
      case H => repeat (first | with_reducible exact H | with_reducible apply St.alloc | with_reducible apply St.allocAny | with_reducible apply St.set | with_reducible apply St.drew | with_reducible apply St.over | with_reducible exact get0 | with_reducible exact get1 | with_reducible exact get2 | with_reducible exact get3 | with_reducible exact get4 | with_reducible exact get5 | with_reducible exact get6 | with_reducible exact get7 | simp only [List.set_cons_zero, List.set_cons_succ])
      clear H
      try clear hcs
      try clear hargs
      intro W H
      try simp only [List.set_cons_zero, List.set_cons_succ, World.size_alloc, World.size_setCell, World.size_drew] at H
      have hcs := H.cells
      dsimp only [cellsOf, neAll] at hcs
      try clear hargs
      have hargs := H.args
      refine mix_one' 4 rfl (by kernel_rfl) (fun W2 K hb hK => ?_)
      go_simp
      refine hK _ _ ((Below.refl _ _).alloc (Nat.le_refl _) _) ?_
      clear hK K
      replace H := H.ext hb
      clear hb
      apply st_mx
      case H => repeat (first | with_reducible exact H | with_reducible apply St.alloc | with_reducible apply St.allocAny | with_reducible apply St.set | with_reducible apply St.drew | with_reducible apply St.over | with_reducible exact get0 | with_reducible exact get1 | with_reducible exact get2 | with_reducible exact get3 | with_reducible exact get4 | with_reducible exact get5 | with_reducible exact get6 | with_reducible exact get7 | simp only [List.set_cons_zero, List.set_cons_succ])
      clear H
      try clear hcs
      try clear hargs
      intro W H
      try simp only [List.set_cons_zero, List.set_cons_succ, World.size_alloc, World.size_setCell, World.size_drew] at H
      have hcs := H.cells
      dsimp only [cellsOf, neAll] at hcs
      try clear hargs
      have hargs := H.args
      refine mix_end' (by kernel_rfl) (fun W1 hb => ?_)
      replace H := H.ext hb
      clear hb
      try clear hcs
      try clear hargs
      try simp only [List.set_cons_zero, List.set_cons_succ, World.size_alloc, World.size_setCell, World.size_drew] at H
      have hcs := H.cells
      dsimp only [cellsOf, neAll] at hcs
      try clear hargs
      have hargs := H.args
      simp only [List.drop_succ_cons, List.drop_zero]
      go_wp2_with fail
      go_meet
      refine ⟨_, _, rfl, rfl, ?_⟩
      apply St.pick [0, 1] (by decide)
      case H => repeat (first | with_reducible exact H | with_reducible apply St.alloc | with_reducible apply St.allocAny | with_reducible apply St.set | with_reducible apply St.drew | with_reducible apply St.over | with_reducible exact get0 | with_reducible exact get1 | with_reducible exact get2 | with_reducible exact get3 | with_reducible exact get4 | with_reducible exact get5 | with_reducible exact get6 | with_reducible exact get7 | simp only [List.set_cons_zero, List.set_cons_succ])
      all_goals first | rfl | simp only [List.set_cons_zero, List.set_cons_succ, World.size_alloc, World.size_setCell, World.size_drew]
  case rest =>
    obtain ⟨g, h, rfl, rfl, H⟩ := hcut
    try clear hcs
    try clear hargs
    try simp only [List.set_cons_zero, List.set_cons_succ, World.size_alloc, World.size_setCell, World.size_drew] at H
    have hcs := H.cells
    dsimp only [cellsOf, neAll] at hcs
    try clear hargs
    have hargs := H.args
    go_wp2
    refine wp_loop_rounds 5 ?_
    rw [rounds_succ]
    go_upto_region 5 with fail
    refine wp_region_mix 7 (by kernel_rfl) (by kernel_rfl) ?_
    (refine mix_step 0 rfl (by kernel_rfl) (fun K hK => ?_); go_simp; refine hK _ ?_; clear hK K)
    (refine mix_step 1 rfl (by kernel_rfl) (fun K hK => ?_); go_simp; refine hK _ ?_; clear hK K)
    (refine mix_step 2 rfl (by kernel_rfl) (fun K hK => ?_); go_simp; refine hK _ ?_; clear hK K)
    (refine mix_step 3 rfl (by kernel_rfl) (fun K hK => ?_); go_simp; refine hK _ ?_; clear hK K)
    (refine mix_step 4 rfl (by kernel_rfl) (fun K hK => ?_); go_simp; refine hK _ ?_; clear hK K)
    (refine mix_step 5 rfl (by kernel_rfl) (fun K hK => ?_); go_simp; refine hK _ ?_; clear hK K)
    (refine mix_step 6 rfl (by kernel_rfl) (fun K hK => ?_); go_simp; (apply Exists.intro; refine ⟨fun _ => ?_, hK _ ?_⟩; exact cmp_any _ _ _); clear hK K)
    refine mix_end' (by kernel_rfl) (fun W1 hb => ?_)
    replace H := H.ext hb
    clear hb
    try clear hcs
    try clear hargs
    try simp only [List.set_cons_zero, List.set_cons_succ, World.size_alloc, World.size_setCell, World.size_drew] at H
    have hcs := H.cells
    dsimp only [cellsOf, neAll] at hcs
    try clear hargs
    have hargs := H.args
    simp only [List.drop_succ_cons, List.drop_zero]
    go_wp2_with fail
    · go_ret
      exact ⟨ret_int (lex1 (by assumption)), H.below⟩
    rw [rounds_succ]
    go_upto_region 5 with fail
    refine wp_region_mix 7 (by kernel_rfl) (by kernel_rfl) ?_
    (refine mix_step 0 rfl (by kernel_rfl) (fun K hK => ?_); go_simp; refine hK _ ?_; clear hK K)
    (refine mix_step 1 rfl (by kernel_rfl) (fun K hK => ?_); go_simp; refine hK _ ?_; clear hK K)
    (refine mix_step 2 rfl (by kernel_rfl) (fun K hK => ?_); go_simp; refine hK _ ?_; clear hK K)
    (refine mix_step 3 rfl (by kernel_rfl) (fun K hK => ?_); go_simp; refine hK _ ?_; clear hK K)
    (refine mix_step 4 rfl (by kernel_rfl) (fun K hK => ?_); go_simp; refine hK _ ?_; clear hK K)
    (refine mix_step 5 rfl (by kernel_rfl) (fun K hK => ?_); go_simp; refine hK _ ?_; clear hK K)
    (refine mix_step 6 rfl (by kernel_rfl) (fun K hK => ?_); go_simp; (apply Exists.intro; refine ⟨fun _ => ?_, hK _ ?_⟩; exact cmp_any _ _ _); clear hK K)
    refine mix_end' (by kernel_rfl) (fun W1 hb => ?_)
    replace H := H.ext hb
    clear hb
    try clear hcs
    try clear hargs
    try simp only [List.set_cons_zero, List.set_cons_succ, World.size_alloc, World.size_setCell, World.size_drew] at H
    have hcs := H.cells
    dsimp only [cellsOf, neAll] at hcs
    try clear hargs
    have hargs := H.args
    simp only [List.drop_succ_cons, List.drop_zero]
    go_wp2_with fail
    · go_ret
      exact ⟨ret_int (lex2 (by assumption) (by assumption)), H.below⟩
    rw [rounds_succ]
    go_upto_region 5 with fail
    refine wp_region_mix 7 (by kernel_rfl) (by kernel_rfl) ?_
    (refine mix_step 0 rfl (by kernel_rfl) (fun K hK => ?_); go_simp; refine hK _ ?_; clear hK K)
    (refine mix_step 1 rfl (by kernel_rfl) (fun K hK => ?_); go_simp; refine hK _ ?_; clear hK K)
    (refine mix_step 2 rfl (by kernel_rfl) (fun K hK => ?_); go_simp; refine hK _ ?_; clear hK K)
    (refine mix_step 3 rfl (by kernel_rfl) (fun K hK => ?_); go_simp; refine hK _ ?_; clear hK K)
    (refine mix_step 4 rfl (by kernel_rfl) (fun K hK => ?_); go_simp; refine hK _ ?_; clear hK K)
    (refine mix_step 5 rfl (by kernel_rfl) (fun K hK => ?_); go_simp; refine hK _ ?_; clear hK K)
    (refine mix_step 6 rfl (by kernel_rfl) (fun K hK => ?_); go_simp; (apply Exists.intro; refine ⟨fun _ => ?_, hK _ ?_⟩; exact cmp_any _ _ _); clear hK K)
    refine mix_end' (by kernel_rfl) (fun W1 hb => ?_)
    replace H := H.ext hb
    clear hb
    try clear hcs
    try clear hargs
    try simp only [List.set_cons_zero, List.set_cons_succ, World.size_alloc, World.size_setCell, World.size_drew] at H
    have hcs := H.cells
    dsimp only [cellsOf, neAll] at hcs
    try clear hargs
    have hargs := H.args
    simp only [List.drop_succ_cons, List.drop_zero]
    go_wp2_with fail
    · go_ret
      exact ⟨ret_int (lex3 (by assumption) (by assumption) (by assumption)), H.below⟩
    rw [rounds_succ]
    go_upto_region 5 with fail
    refine wp_region_mix 7 (by kernel_rfl) (by kernel_rfl) ?_
    (refine mix_step 0 rfl (by kernel_rfl) (fun K hK => ?_); go_simp; refine hK _ ?_; clear hK K)
    (refine mix_step 1 rfl (by kernel_rfl) (fun K hK => ?_); go_simp; refine hK _ ?_; clear hK K)
    (refine mix_step 2 rfl (by kernel_rfl) (fun K hK => ?_); go_simp; refine hK _ ?_; clear hK K)
    (refine mix_step 3 rfl (by kernel_rfl) (fun K hK => ?_); go_simp; refine hK _ ?_; clear hK K)
    (refine mix_step 4 rfl (by kernel_rfl) (fun K hK => ?_); go_simp; refine hK _ ?_; clear hK K)
    (refine mix_step 5 rfl (by kernel_rfl) (fun K hK => ?_); go_simp; refine hK _ ?_; clear hK K)
    (refine mix_step 6 rfl (by kernel_rfl) (fun K hK => ?_); go_simp; (apply Exists.intro; refine ⟨fun _ => ?_, hK _ ?_⟩; exact cmp_any _ _ _); clear hK K)
    refine mix_end' (by kernel_rfl) (fun W1 hb => ?_)
    replace H := H.ext hb
    clear hb
    try clear hcs
    try clear hargs
    try simp only [List.set_cons_zero, List.set_cons_succ, World.size_alloc, World.size_setCell, World.size_drew] at H
    have hcs := H.cells
    dsimp only [cellsOf, neAll] at hcs
    try clear hargs
    have hargs := H.args
    simp only [List.drop_succ_cons, List.drop_zero]
    go_wp2_with fail
    · go_ret
      exact ⟨ret_int (lex4 (by assumption) (by assumption) (by assumption)), H.below⟩
    rw [rounds_succ]
    go_wp2
    go_ret
    exact ⟨ret_int (lex5 (by assumption) (by assumption) (by assumption) (by assumption)), H.below⟩

end Go.Proofs.Ytcmbckcjklociaa
