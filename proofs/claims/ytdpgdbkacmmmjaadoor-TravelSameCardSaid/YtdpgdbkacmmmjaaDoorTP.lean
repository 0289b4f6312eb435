/- Package lorrylaw07: a list of points as an argument; the law TravelArrives: walk. -/
import Derived.Test.YtdpgdbkacmmmjaaDoorTO
import Derived.Test.YtdpgdbkacmmmjaaDoorLaw
import Derived.Deep.SlicePairs
namespace Go.Proofs.YtdpgdbkacmmmjaaDoor
open Go.RowKit Go.Deep Go.ChangeShapes Go.WideShapes

theorem points_read {H : Type} {enc : TypeId × Value → H} {W : World} {fuel : Nat} {v : Value} {x : DataW H × List MemPlace}
    (h : DataW.trod enc Tryd.prog W 0 (fun _ => true) true fuel 22 [v] = some x) : ∃ A n c pts, v = .slice A n c ∧ pts.length = n ∧ PR W A pts ∧ PB pts := by
  rcases open_slice_pairs Tryd.underlying22 Tryd.underlying38 (by kernel_rfl) rfl rfl (by kernel_rfl) (by kernel_rfl) h with ⟨hc, hx⟩ | ⟨a, len, cap, m, k, V0, V1, D0, D1, P0, P1, hc, _, hl, hm, hmm, hx, hall⟩
  · simp only [List.cons.injEq, and_true] at hc
    exact ⟨none, 0, 0, [], hc, rfl, fun i p hp => by simp at hp, fun p hp => by cases hp⟩
  · simp only [List.cons.injEq, and_true] at hc
    have hint : ∀ i, i < len → ∃ p : Pt, V0 i = .int .i64 p.1 ∧ V1 i = .int .i64 p.2 ∧ inI p.1 ∧ inI p.2 := fun i hi => by
      have hi' : i < m := by rw [hmm, if_pos rfl]; omega
      obtain ⟨N, h1, h2, h3⟩ := DataW.trod_int Tryd.underlying3 (hall i hi').2.2.1
      obtain ⟨M, g1, g2, g3⟩ := DataW.trod_int Tryd.underlying3 (hall i hi').2.2.2
      simp only [List.cons.injEq, and_true] at h1 g1
      exact ⟨(N, M), h1, g1, i64_bounds h3, i64_bounds g3⟩
    obtain ⟨q, hq⟩ := choose_lt hint
    refine ⟨some a, len, cap, (List.range len).map q, hc, by simp, fun i p hp => ?_, fun p hp => ?_⟩
    · have hi : i < len := by have := at_lt hp; simpa using this
      have hp' : p = q i := by
        rw [List.getElem?_map, List.getElem?_range hi] at hp
        simpa using hp.symm
      subst hp'
      have hi' : i < m := by rw [hmm, if_pos rfl]; omega
      have h0 := (hall 0 (by omega)).1
      obtain ⟨b, off, spot⟩ := a
      have hspot : spot = none := by simpa [Addr.add] using World.cell?_spot h0
      subst hspot
      obtain ⟨e1, e2, _, _⟩ := hq i hi
      have c1 := (hall i hi').1
      have c2 := (hall i hi').2.1
      rw [add_plain] at c1 c2
      rw [e1] at c1
      rw [e2] at c2
      refine ⟨b, off, rfl, ?_, c1, by rw [Nat.add_assoc]; exact c2⟩
      rcases Nat.lt_or_ge b W.heap.size with h | h
      · exact h
      · exfalso
        unfold World.cell? at c1
        rw [Array.getElem?_eq_none h] at c1
        simp at c1
    · obtain ⟨i, hi, rfl⟩ := List.mem_map.1 hp
      have := hq i (List.mem_range.1 hi)
      exact ⟨this.2.2.1, this.2.2.2⟩

set_option maxRecDepth 100000 in
set_option maxHeartbeats 1000000 in
theorem arrives_true (A : Option Addr) (n c : Nat) (pts : List Pt) (hlen : pts.length = n) (t a : Int) (ht : inI t) (ha : inI a) (w : World) (hR : PR w A pts) (hP : PB pts) :
    Calls Tryd.prog 4 #[.slice A n c, .int .i64 t, .int .i64 a] w fun e w' => e = .returned (.bool true) ∧ Below w.heap.size w w' := by
  have H := St.start w
  go_enter Tryd.func4, Tryd.ntmps4
  by_cases hn : 40 < n
  · have hn' : (40 : Int) < n := by omega
    go_wp2_with fail
    apply st_calls
    case H => repeat (first | with_reducible exact H | with_reducible apply St.alloc | with_reducible apply St.allocAny | with_reducible apply St.set | with_reducible apply St.drew | with_reducible apply St.over | with_reducible exact get0 | with_reducible exact get1 | with_reducible exact get2 | with_reducible exact get3 | with_reducible exact get4 | with_reducible exact get5 | with_reducible exact get6 | with_reducible exact get7 | simp only [List.set_cons_zero, List.set_cons_succ])
    clear H
    try clear hcs
    try clear hargs
    intro W H
    try simp only [List.set_cons_zero, List.set_cons_succ, World.size_alloc, World.size_setCell, World.size_drew] at H
    have hcs := H.cells
    dsimp only [cellsOf, neAll] at hcs
    try clear hargs
    have hargs := H.args
    refine (awake_any _).mono ?_
    rintro e w1 ⟨rfl, hb⟩
    replace H := H.ext hb
    clear hb
    try clear hcs
    try clear hargs
    try simp only [List.set_cons_zero, List.set_cons_succ, World.size_alloc, World.size_setCell, World.size_drew] at H
    have hcs := H.cells
    dsimp only [cellsOf, neAll] at hcs
    try clear hargs
    have hargs := H.args
    go_wp2
    go_ret
    exact ⟨rfl, H.below⟩
  · have hn' : ¬ (40 : Int) < n := by omega
    go_wp2_with fail
    refine (Latest_any A n c pts hlen (by omega) a ha _ hR hP).mono ?_
    rintro e w1 ⟨d, ok, hL, rfl, hb⟩
    replace H := H.ext hb
    clear hb
    go_wp2_with fail
    refine (refLatest_any A n c pts hlen (by omega) a ha _ (hR.ext H.below) hP).mono ?_
    rintro e w2 ⟨d', ok', hL', rfl, hb⟩
    replace H := H.ext hb
    clear hb
    obtain ⟨rfl, rfl⟩ := LatS_unique hL hL'
    clear hL hL'
    go_wp2_with fail
    apply st_calls
    case H => repeat (first | with_reducible exact H | with_reducible apply St.alloc | with_reducible apply St.allocAny | with_reducible apply St.set | with_reducible apply St.drew | with_reducible apply St.over | with_reducible exact get0 | with_reducible exact get1 | with_reducible exact get2 | with_reducible exact get3 | with_reducible exact get4 | with_reducible exact get5 | with_reducible exact get6 | with_reducible exact get7 | simp only [List.set_cons_zero, List.set_cons_succ])
    clear H
    try clear hcs
    try clear hargs
    intro W H
    try simp only [List.set_cons_zero, List.set_cons_succ, World.size_alloc, World.size_setCell, World.size_drew] at H
    have hcs := H.cells
    dsimp only [cellsOf, neAll] at hcs
    try clear hargs
    have hargs := H.args
    refine (Arrive_any A n c pts hlen (by omega) t ht _ (hR.ext H.below) hP).mono ?_
    rintro e w1 ⟨rfl, hb⟩
    replace H := H.ext hb
    clear hb
    try clear hcs
    try clear hargs
    try simp only [List.set_cons_zero, List.set_cons_succ, World.size_alloc, World.size_setCell, World.size_drew] at H
    have hcs := H.cells
    dsimp only [cellsOf, neAll] at hcs
    try clear hargs
    have hargs := H.args
    go_wp2_with fail
    apply st_calls
    case H => repeat (first | with_reducible exact H | with_reducible apply St.alloc | with_reducible apply St.allocAny | with_reducible apply St.set | with_reducible apply St.drew | with_reducible apply St.over | with_reducible exact get0 | with_reducible exact get1 | with_reducible exact get2 | with_reducible exact get3 | with_reducible exact get4 | with_reducible exact get5 | with_reducible exact get6 | with_reducible exact get7 | simp only [List.set_cons_zero, List.set_cons_succ])
    clear H
    try clear hcs
    try clear hargs
    intro W H
    try simp only [List.set_cons_zero, List.set_cons_succ, World.size_alloc, World.size_setCell, World.size_drew] at H
    have hcs := H.cells
    dsimp only [cellsOf, neAll] at hcs
    try clear hargs
    have hargs := H.args
    refine (refArrive_any A n c pts hlen (by omega) t ht _ (hR.ext H.below) hP).mono ?_
    rintro e w1 ⟨rfl, hb⟩
    replace H := H.ext hb
    clear hb
    try clear hcs
    try clear hargs
    try simp only [List.set_cons_zero, List.set_cons_succ, World.size_alloc, World.size_setCell, World.size_drew] at H
    have hcs := H.cells
    dsimp only [cellsOf, neAll] at hcs
    try clear hargs
    have hargs := H.args
    go_wp2_with fail
    apply st_calls
    case H => repeat (first | with_reducible exact H | with_reducible apply St.alloc | with_reducible apply St.allocAny | with_reducible apply St.set | with_reducible apply St.drew | with_reducible apply St.over | with_reducible exact get0 | with_reducible exact get1 | with_reducible exact get2 | with_reducible exact get3 | with_reducible exact get4 | with_reducible exact get5 | with_reducible exact get6 | with_reducible exact get7 | simp only [List.set_cons_zero, List.set_cons_succ])
    clear H
    try clear hcs
    try clear hargs
    intro W H
    try simp only [List.set_cons_zero, List.set_cons_succ, World.size_alloc, World.size_setCell, World.size_drew] at H
    have hcs := H.cells
    dsimp only [cellsOf, neAll] at hcs
    try clear hargs
    have hargs := H.args
    refine (awake_any _).mono ?_
    rintro e w1 ⟨rfl, hb⟩
    replace H := H.ext hb
    clear hb
    try clear hcs
    try clear hargs
    try simp only [List.set_cons_zero, List.set_cons_succ, World.size_alloc, World.size_setCell, World.size_drew] at H
    have hcs := H.cells
    dsimp only [cellsOf, neAll] at hcs
    try clear hargs
    have hargs := H.args
    go_wp2
    go_ret
    exact ⟨rfl, H.below⟩
end Go.Proofs.YtdpgdbkacmmmjaaDoor
