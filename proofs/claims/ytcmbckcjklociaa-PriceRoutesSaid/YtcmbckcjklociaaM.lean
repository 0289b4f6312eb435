/- The law PriceRoutes: walk. -/
import Derived.Test.YtcmbckcjklociaaL
namespace Go.Proofs.Ytcmbckcjklociaa
set_option linter.unusedSimpArgs false
set_option linter.unusedVariables false
open Go.RowKit

set_option maxRecDepth 100000 in
set_option maxHeartbeats 2000000 in
theorem routes_true {N : Nat} (w : World) (cx : Array Value) (x : InstD) (hx : (rdInst N).holds w cx.toList x) (cr : Array Value) (r : RouteD) (hr : (rdRoute N).holds w cr.toList r) (cs : Array Value) (s : SheetD) (hs : (rdSheet N).holds w cs.toList s) :
    Calls Try.prog 3 #[.agg cx, .agg cr, .agg cs] w fun e w' => e = .returned (.bool true) ∧ Below w.heap.size w w' := by
  have hx' := hx
  have hr' := hr
  have hs' := hs
  obtain ⟨A1, c1, A2, c2, A3, c3, A4, c4, A5, c5, A6, c6, e, -, -, -, -, -, -, -⟩ := inst_cells hx'
  obtain rfl := toArr e
  obtain ⟨B1, d1, B2, d2, e, -, -, -, -⟩ := route_cells hr'
  obtain rfl := toArr e
  obtain ⟨C1, f1, e, -, -, -⟩ := sheet_cells hs'
  obtain rfl := toArr e
  clear hx' hr' hs'
  have H := St.start w
  go_enter Try.func3, Try.ntmps3
  go_wp2_with fail
  apply st_calls
  case H => repeat (first | with_reducible exact H | with_reducible apply St.alloc | with_reducible apply St.allocAny | with_reducible apply St.set | with_reducible apply St.drew | with_reducible apply St.over | with_reducible exact get0 | with_reducible exact get1 | with_reducible exact get2 | with_reducible exact get3 | with_reducible exact get4 | with_reducible exact get5 | with_reducible exact get6 | with_reducible exact get7 | simp only [List.set_cons_zero, List.set_cons_succ])
  clear H
  try clear hcs
  try clear hargs
  intro W H
  try simp only [List.set_cons_zero, List.set_cons_succ, World.size_alloc, World.size_setCell, World.size_drew] at H
  have hcs := H.cells
  dsimp only [cellsOf, neAll] at hcs
  try clear hargs
  have hargs := H.args
  refine (tame_any _ _ _ _ _ _ _ ((rdInst N).ext _ _ _ _ H.below hx) ((rdRoute N).ext _ _ _ _ H.below hr) ((rdSheet N).ext _ _ _ _ H.below hs)).mono ?_
  rintro e w1 ⟨⟨b, hT, rfl⟩, hb⟩
  replace H := H.ext hb
  clear hb
  cases b
  · clear hT
    go_wp2_with fail
    apply st_calls
    case H => repeat (first | with_reducible exact H | with_reducible apply St.alloc | with_reducible apply St.allocAny | with_reducible apply St.set | with_reducible apply St.drew | with_reducible apply St.over | with_reducible exact get0 | with_reducible exact get1 | with_reducible exact get2 | with_reducible exact get3 | with_reducible exact get4 | with_reducible exact get5 | with_reducible exact get6 | with_reducible exact get7 | simp only [List.set_cons_zero, List.set_cons_succ])
    clear H
    try clear hcs
    try clear hargs
    intro W H
    try simp only [List.set_cons_zero, List.set_cons_succ, World.size_alloc, World.size_setCell, World.size_drew] at H
    have hcs := H.cells
    dsimp only [cellsOf, neAll] at hcs
    try clear hargs
    have hargs := H.args
    refine (awake_any _).mono ?_
    rintro e w1 ⟨rfl, hb⟩
    replace H := H.ext hb
    clear hb
    try clear hcs
    try clear hargs
    try simp only [List.set_cons_zero, List.set_cons_succ, World.size_alloc, World.size_setCell, World.size_drew] at H
    have hcs := H.cells
    dsimp only [cellsOf, neAll] at hcs
    try clear hargs
    have hargs := H.args
    go_wp2
    go_ret
    exact ⟨rfl, H.below⟩
  · replace hT := hT rfl
    obtain ⟨V, hV⟩ : ∃ V, V = rtV x r s := ⟨_, rfl⟩
    have hA := fun W' (h : Below w.heap.size w W') => route_any W' _ _ _ x r s ((rdInst N).ext _ _ _ _ h hx) ((rdRoute N).ext _ _ _ _ h hr) ((rdSheet N).ext _ _ _ _ h hs) hT
    have hB := fun W' (h : Below w.heap.size w W') => refRoute_any W' _ _ _ x r s ((rdInst N).ext _ _ _ _ h hx) ((rdRoute N).ext _ _ _ _ h hr) ((rdSheet N).ext _ _ _ _ h hs) hT
    simp only [← hV] at hA hB
    clear hV hT
    replace hA := Lib.hid hA
    replace hB := Lib.hid hB
    try clear hcs
    try clear hargs
    try simp only [List.set_cons_zero, List.set_cons_succ, World.size_alloc, World.size_setCell, World.size_drew] at H
    have hcs := H.cells
    dsimp only [cellsOf, neAll] at hcs
    try clear hargs
    have hargs := H.args
    go_upto_region 3 with fail
    refine wp_region_mix 12 (by kernel_rfl) (by kernel_rfl) ?_
    (refine mix_step 0 rfl (by kernel_rfl) (fun K hK => ?_); go_simp; refine hK _ ?_; clear hK K)
    (refine mix_step 1 rfl (by kernel_rfl) (fun K hK => ?_); go_simp; refine hK _ ?_; clear hK K)
    (refine mix_step 2 rfl (by kernel_rfl) (fun K hK => ?_); go_simp; refine hK _ ?_; clear hK K)
    (refine mix_step 3 rfl (by kernel_rfl) (fun K hK => ?_); go_simp; (apply Exists.intro; refine ⟨fun _ => ?_, hK _ ?_⟩; exact hA.out _ (B_over H.below _)); clear hK K)
    (refine mix_step 4 rfl (by kernel_rfl) (fun K hK => ?_); go_simp; refine hK _ ?_; clear hK K)
    (refine mix_step 5 rfl (by kernel_rfl) (fun K hK => ?_); go_simp; refine hK _ ?_; clear hK K)
    (refine mix_step 6 rfl (by kernel_rfl) (fun K hK => ?_); go_simp; refine hK _ ?_; clear hK K)
    (refine mix_step 7 rfl (by kernel_rfl) (fun K hK => ?_); go_simp; (apply Exists.intro; refine ⟨fun _ => ?_, hK _ ?_⟩; exact hB.out _ (B_over H.below _)); clear hK K)
    (refine mix_step 8 rfl (by kernel_rfl) (fun K hK => ?_); go_simp; refine hK _ ?_; clear hK K)
    (refine mix_step 9 rfl (by kernel_rfl) (fun K hK => ?_); go_simp; refine hK _ ?_; clear hK K)
    (refine mix_step 10 rfl (by kernel_rfl) (fun K hK => ?_); go_simp; (apply Exists.intro; refine ⟨fun _ => ?_, hK _ ?_⟩; exact awake_any _); clear hK K)
    (refine mix_step 11 rfl (by kernel_rfl) (fun K hK => ?_); go_simp; refine hK _ ?_; clear hK K)
    refine mix_end' (by kernel_rfl) (fun W1 hb => ?_)
    replace H := H.ext hb
    clear hb
    try clear hcs
    try clear hargs
    try simp only [List.set_cons_zero, List.set_cons_succ, World.size_alloc, World.size_setCell, World.size_drew] at H
    have hcs := H.cells
    dsimp only [cellsOf, neAll] at hcs
    try clear hargs
    have hargs := H.args
    simp only [List.drop_succ_cons, List.drop_zero]
    go_wp2
    go_ret
    exact ⟨rfl, H.below⟩
end Go.Proofs.Ytcmbckcjklociaa
