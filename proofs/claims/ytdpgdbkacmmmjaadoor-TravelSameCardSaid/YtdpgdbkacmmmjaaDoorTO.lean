/- Package lorrylaw07: awake: walk. -/
import Derived.Test.YtdpgdbkacmmmjaaDoorTN
namespace Go.Proofs.YtdpgdbkacmmmjaaDoor
open Go.RowKit

def aw : List Pt := [(0, 5), (20, 35)]
def aw2 : List Pt := [(0, 5), (9, 19), (10, 23), (20, 38)]
theorem aw_right : rightB aw = true := by decide
theorem aw_R : Right aw := right_of aw_right
theorem aw_PB : PB aw := fun p hp => by
  unfold inI
  simp only [aw, List.mem_cons, List.not_mem_nil, or_false] at hp
  rcases hp with rfl | rfl <;> decide
theorem aw_10 : arrV aw 10 = 20 := by decide
theorem aw_11 : arrV aw 11 = 22 := by decide
theorem aw_r10 : ArrR aw 10 = 20 := by rw [ArrR_in aw_right (by omega) (by omega)]; decide
theorem aw_r1 : ArrR aw 1 = 7 := by rw [ArrR_in aw_right (by omega) (by omega)]; decide
theorem aw_r30 : ArrR aw 30 = 45 := by rw [ArrR_in aw_right (by omega) (by omega)]; decide
theorem aw_slow : slow aw 10 3 = aw2 := by decide
theorem aw_sl : slR aw 10 3 = (aw2, 0) := by
  unfold slR
  rw [if_pos ⟨aw_right, by omega, by omega⟩, aw_slow]
  decide
theorem aw_fl : fl aw 2 = [] := by decide
theorem aw_lat {d : Int} {ok : Bool} (h : LatS aw 20 d ok) : d = 10 ∧ ok = true := by
  refine LatS_unique h (.inr ⟨aw_right, by omega, by omega, by rw [aw_10]; omega, fun t h1 h2 => ?_, rfl⟩)
  have := arrV_mono aw_R (show (11 : Int) ≤ t by omega)
  rw [aw_11] at this; omega

set_option maxRecDepth 100000 in
set_option maxHeartbeats 2000000 in
theorem awake_any (w : World) :
    Calls Tryd.prog 9 #[] w fun e w' => e = .returned (.bool true) ∧ Below w.heap.size w w' := by
  have H := St.start w
  go_enter Tryd.func9, Tryd.ntmps9
  go_wp2_with fail
  apply st_calls
  case H => repeat (first | with_reducible exact H | with_reducible apply St.alloc | with_reducible apply St.allocAny | with_reducible apply St.set | with_reducible apply St.drew | with_reducible apply St.over | with_reducible exact get0 | with_reducible exact get1 | with_reducible exact get2 | with_reducible exact get3 | with_reducible exact get4 | with_reducible exact get5 | with_reducible exact get6 | with_reducible exact get7 | simp only [List.set_cons_zero, List.set_cons_succ])
  clear H
  try clear hcs
  try clear hargs
  intro W H
  try simp only [List.set_cons_zero, List.set_cons_succ, World.size_alloc, World.size_setCell, World.size_drew] at H
  have hcs := H.cells
  dsimp only [cellsOf, neAll] at hcs
  try clear hargs
  have hargs := H.args
  have hR : PR W (some ⟨_, 0, none⟩) aw := PR_blk H 0 rfl
  refine (Latest_any _ 2 2 aw rfl (by omega) 20 (by unfold inI; omega) _ hR aw_PB).mono ?_
  rintro e w1 ⟨d, ok, hL, rfl, hb⟩
  obtain ⟨rfl, rfl⟩ := aw_lat hL
  clear hL
  replace hR := hR.ext hb
  replace H := H.ext hb
  clear hb
  go_wp2_with fail
  refine (Slower_any _ 2 2 aw rfl (by omega) 10 3 (by unfold inI; omega) (by unfold inI; omega) _ hR aw_PB).mono ?_
  rintro e w2 ⟨v, rfl, ⟨m, hrow⟩, hb⟩
  rw [aw_sl] at hrow ⊢
  dsimp only at hrow ⊢
  obtain ⟨A2, c2, rfl⟩ := ownsRow_form hrow
  obtain rfl : m = 4 := (row_len hrow).symm
  replace H := H.addRow hb hrow
  replace hR := hR.ext hb
  clear hrow hb
  go_wp2_with fail
  apply st_calls
  case H => repeat (first | with_reducible exact H | with_reducible apply St.alloc | with_reducible apply St.allocAny | with_reducible apply St.set | with_reducible apply St.drew | with_reducible apply St.over | with_reducible exact get0 | with_reducible exact get1 | with_reducible exact get2 | with_reducible exact get3 | with_reducible exact get4 | with_reducible exact get5 | with_reducible exact get6 | with_reducible exact get7 | simp only [List.set_cons_zero, List.set_cons_succ])
  clear H
  try clear hcs
  try clear hargs
  intro W H
  try simp only [List.set_cons_zero, List.set_cons_succ, World.size_alloc, World.size_setCell, World.size_drew] at H
  have hcs := H.cells
  dsimp only [cellsOf, neAll] at hcs
  try clear hargs
  have hargs := H.args
  refine (Arrive_any _ 2 2 aw rfl (by omega) 10 (by unfold inI; omega) _ (PR_blk H 0 rfl) aw_PB).mono ?_
  rintro e w3 ⟨rfl, hb⟩
  rw [aw_r10]
  replace H := H.ext hb
  clear hb
  go_wp2_with fail
  refine (Arrive_any _ 2 2 aw rfl (by omega) 1 (by unfold inI; omega) _ (PR_blk H 0 rfl) aw_PB).mono ?_
  rintro e w4 ⟨rfl, hb⟩
  rw [aw_r1]
  replace H := H.ext hb
  clear hb
  go_wp2_with fail
  refine (Arrive_any _ 2 2 aw rfl (by omega) 30 (by unfold inI; omega) _ (PR_blk H 0 rfl) aw_PB).mono ?_
  rintro e w5 ⟨rfl, hb⟩
  rw [aw_r30]
  replace H := H.ext hb
  clear hb
  go_wp2_with fail
  apply st_calls
  case H => repeat (first | with_reducible exact H | with_reducible apply St.alloc | with_reducible apply St.allocAny | with_reducible apply St.set | with_reducible apply St.drew | with_reducible apply St.over | with_reducible exact get0 | with_reducible exact get1 | with_reducible exact get2 | with_reducible exact get3 | with_reducible exact get4 | with_reducible exact get5 | with_reducible exact get6 | with_reducible exact get7 | simp only [List.set_cons_zero, List.set_cons_succ])
  clear H
  try clear hcs
  try clear hargs
  intro W H
  try simp only [List.set_cons_zero, List.set_cons_succ, World.size_alloc, World.size_setCell, World.size_drew] at H
  have hcs := H.cells
  dsimp only [cellsOf, neAll] at hcs
  try clear hargs
  have hargs := H.args
  refine (points_any _ _ 4 4 _ _ aw2 aw2 rfl rfl (by omega) _ (PR_row H.row) (PR_blk H 0 rfl)).mono ?_
  rintro e w6 ⟨rfl, hb⟩
  rw [show decide (aw2 = aw2) = true from decide_eq_true rfl]
  replace H := H.ext hb
  clear hb
  go_wp2_with fail
  refine (check_any _ 2 2 aw rfl (by omega) _ (PR_blk H 1 rfl) aw_PB).mono ?_
  rintro e w7 ⟨u, m, rfl, hrow, hb⟩
  obtain ⟨A3, c3, rfl⟩ := ownsRow_form hrow
  rw [aw_fl] at hrow
  obtain rfl : m = 0 := by have := hrow.1; simp at this; omega
  clear hrow
  replace H := H.ext hb
  clear hb
  go_wp2
  go_ret
  exact ⟨rfl, H.below⟩
end Go.Proofs.YtdpgdbkacmmmjaaDoor
