/- The law's own example ('awake'): it answers true. -/
import Derived.Test.YtcmbckcjklociaaD
import Derived.Test.YtcmbckcjklociaaC
import Derived.Carry
namespace Go.Proofs.Ytcmbckcjklociaa
open Go.RowKit
theorem bcell {W w1 : World} (hb : Below W.heap.size W w1) : (∀ b o, b < W.heap.size → w1.cell? ⟨b, o, none⟩ = W.cell? ⟨b, o, none⟩) ∧ (∀ b o, b < W.heap.size → w1.frozen? ⟨b, o, none⟩ = W.frozen? ⟨b, o, none⟩) :=
  ⟨fun b o h => hb.cell (p := ⟨b, o, none⟩) h, fun b o h => hb.frozen (p := ⟨b, o, none⟩) h⟩
set_option maxHeartbeats 400000 in
theorem awake_any (w : World) : Calls Try.prog 9 #[] w fun e w' => e = .returned (.bool true) ∧ Below w.heap.size w w' := by
  have H := St.start w
  have e12 : weightN 1 0 0 0 = 16777216 ∧ weightE 1 0 0 0 = 0 := by
    obtain ⟨h1, h2⟩ := weight_ok (a := 1) (b := 0) (c := 0) (d := 0) (by omega) (by omega)
    exact ⟨by rw [h1]; omega, h2⟩
  have hw := weight_any 1 0 0 0 w
  rw [e12.1, e12.2] at hw
  clear e12
  have hw := Lib.hid hw
  go_enter Try.func9, Try.ntmps9
  go_wp2_with fail
  refine hw.out.mono ?_
  clear hw
  rintro e w1 ⟨rfl, hb1⟩
  replace H := H.ext hb1
  clear hb1
  go_wp2_with fail
  apply st_calls
  case H => repeat (first | with_reducible exact H | with_reducible apply St.alloc | with_reducible apply St.allocAny | with_reducible apply St.set | with_reducible apply St.drew | with_reducible apply St.over | with_reducible exact get0 | with_reducible exact get1 | with_reducible exact get2 | with_reducible exact get3 | with_reducible exact get4 | with_reducible exact get5 | with_reducible exact get6 | with_reducible exact get7 | simp only [List.set_cons_zero, List.set_cons_succ])
  clear H
  try clear hcs
  try clear hargs
  intro W H
  try simp only [List.set_cons_zero, List.set_cons_succ, World.size_alloc, World.size_setCell, World.size_drew] at H
  have hcs := H.cells
  dsimp only [cellsOf, neAll] at hcs
  try clear hargs
  have hargs := H.args
  refine (route_awake w1.heap.size _ (H.blks (w1.heap.size, 57, _) (List.mem_cons_of_mem _ List.mem_cons_self)).1).mono ?_
  rintro e w2 ⟨rfl, hb2⟩
  replace H := H.ext hb2
  clear hb2
  try clear hcs
  try clear hargs
  try simp only [List.set_cons_zero, List.set_cons_succ, World.size_alloc, World.size_setCell, World.size_drew] at H
  have hcs := H.cells
  dsimp only [cellsOf, neAll] at hcs
  try clear hargs
  have hargs := H.args
  go_wp2
  go_ret
  exact ⟨rfl, H.below⟩

end Go.Proofs.Ytcmbckcjklociaa
