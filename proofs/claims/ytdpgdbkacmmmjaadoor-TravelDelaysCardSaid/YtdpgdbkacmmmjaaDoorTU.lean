/- Package lorrylaw07: the law TravelDelays: walk. -/
import Derived.Test.YtdpgdbkacmmmjaaDoorTQ
namespace Go.Proofs.YtdpgdbkacmmmjaaDoor
open Go.RowKit

set_option maxRecDepth 100000 in
set_option maxHeartbeats 1000000 in
theorem delays_true (A : Option Addr) (n c : Nat) (pts : List Pt) (hlen : pts.length = n) (f d : Int) (hf : inI f) (hd : inI d) (w : World) (hR : PR w A pts) (hP : PB pts) :
    Calls Tryd.prog 7 #[.slice A n c, .int .i64 f, .int .i64 d] w fun e w' => e = .returned (.bool true) ∧ Below w.heap.size w w' := by
  have H := St.start w
  go_enter Tryd.func7, Tryd.ntmps7
  by_cases hn : 40 < n
  · have hn' : (40 : Int) < n := by omega
    go_wp2_with fail
    apply st_calls
    case H => repeat (first | with_reducible exact H | with_reducible apply St.alloc | with_reducible apply St.allocAny | with_reducible apply St.set | with_reducible apply St.drew | with_reducible apply St.over | with_reducible exact get0 | with_reducible exact get1 | with_reducible exact get2 | with_reducible exact get3 | with_reducible exact get4 | with_reducible exact get5 | with_reducible exact get6 | with_reducible exact get7 | simp only [List.set_cons_zero, List.set_cons_succ])
    clear H
    try clear hcs
    try clear hargs
    intro W H
    try simp only [List.set_cons_zero, List.set_cons_succ, World.size_alloc, World.size_setCell, World.size_drew] at H
    have hcs := H.cells
    dsimp only [cellsOf, neAll] at hcs
    try clear hargs
    have hargs := H.args
    refine (awake_any _).mono ?_
    rintro e w1 ⟨rfl, hb⟩
    replace H := H.ext hb
    clear hb
    try clear hcs
    try clear hargs
    try simp only [List.set_cons_zero, List.set_cons_succ, World.size_alloc, World.size_setCell, World.size_drew] at H
    have hcs := H.cells
    dsimp only [cellsOf, neAll] at hcs
    try clear hargs
    have hargs := H.args
    go_wp2
    go_ret
    exact ⟨rfl, H.below⟩
  · have hn' : ¬ (40 : Int) < n := by omega
    go_wp2_with fail
    refine (Slower_any A n c pts hlen (by omega) f d hf hd _ hR hP).mono ?_
    rintro e w1 ⟨v, rfl, ⟨m, hrow⟩, hb⟩
    obtain ⟨A1, c1, rfl⟩ := ownsRow_form hrow
    have hl := slR_len pts f d
    by_cases he : (slR pts f d).2 = 0
    · obtain ⟨hr, hf', hd', e1, hrs⟩ := slR_ok he
      rw [e1] at hrow hl
      rw [he]
      clear he e1
      replace hr := right_of hr
      have hml := row_len hrow
      replace H := H.addRow hb hrow
      clear hrow hb
      have hPs := slow_PB hr hf'.1 hf'.2 hd'.1 hd'.2
      obtain ⟨L, hL⟩ : ∃ L, L = slow pts f d := ⟨_, rfl⟩
      rw [← hL] at hl hml hPs hrs H
      have hval : ∀ q ∈ L, q.2 = arrV pts q.1 + (if f ≤ q.1 then d else 0) := fun q hq => slow_val hr (hL ▸ hq)
      have hbnd : ∀ q ∈ L, 0 ≤ q.1 ∧ q.1 ≤ 4096 ∧ q.1 ≤ q.2 ∧ q.2 ≤ 32768 := fun q hq => slow_bound hr hf'.1 hf'.2 hd'.1 hd'.2 (hL ▸ hq)
      clear hL
      have hm : m ≤ 40 := by omega
      have hRL := PR_row H.row
      have hB := H.below
      clear H
      have H := St.start w1
      have hR1 := hR.ext hB
      go_wp2_with fail
      refine (check_any A1 m c1 L hml hm _ (hRL.ext H.below) hPs).mono ?_
      rintro e w2 ⟨u, m3, rfl, hrow, hb⟩
      obtain ⟨A3, c3, rfl⟩ := ownsRow_form hrow
      have hrl := right_len hml hrow.1
      clear hrow
      replace H := H.ext hb
      clear hb
      rcases hrl with ⟨_, rfl⟩ | ⟨h0, _⟩
      case inr => rw [hrs] at h0; cases h0
      clear hrs
      have hbr := Lib.hid (right_mk hr)
      replace hval := Lib.hid hval
      replace hml := Lib.hid hml
      replace hlen := Lib.hid hlen
      obtain ⟨hd1, hd2⟩ := hd'
      go_wp2_with fail
      go_loopg [9] m (fun g s9 wr => ∃ k : Nat, k ≤ m ∧ g = m - k ∧ s9 = .int .i64 k ∧ St w1 wr [] [])
      case atStart => exact ⟨0, by omega, by omega, rfl, H⟩
      case round =>
        clear H
        obtain ⟨k, hk, rfl, rfl, H⟩ := hrel
        try clear hcs
        try clear hargs
        try simp only [List.set_cons_zero, List.set_cons_succ, World.size_alloc, World.size_setCell, World.size_drew] at H
        have hcs := H.cells
        dsimp only [cellsOf, neAll] at hcs
        try clear hargs
        have hargs := H.args
        by_cases hkm : k < m
        · have hkm' : (k : Int) < m := by omega
          have hk0 : 0 ≤ (k : Int) := by omega
          obtain ⟨⟨x, y⟩, hp⟩ : ∃ p, L[k]? = some p := ⟨_, List.getElem?_eq_getElem (by have := hml.out; omega)⟩
          obtain ⟨b1, b2, b3, b4⟩ := hbnd _ (List.mem_of_getElem? hp)
          have hv := hval.out _ (List.mem_of_getElem? hp)
          obtain ⟨b, off, rfl, hb, c1, c2⟩ := hRL _ _ hp
          dsimp only at c1 c2 b1 b2 b3 b4 hv
          clear hp
          try clear hcs
          try clear hargs
          try simp only [List.set_cons_zero, List.set_cons_succ, World.size_alloc, World.size_setCell, World.size_drew] at H
          have hcs := H.cells
          dsimp only [cellsOf, neAll] at hcs
          try clear hargs
          have hargs := H.args
          have hA := Lib.hid (ArrR_in hbr.out (t := x) (by omega) (by omega))
          replace hv := Lib.hid hv
          go_wp2_with fail
          refine (Arrive_any A n c pts hlen.out (by omega) x ⟨by omega, by omega⟩ _ (hR1.ext H.below) hP).mono ?_
          rintro e w3 ⟨rfl, hb3⟩
          replace H := H.ext hb3
          clear hb3
          try clear hcs
          try clear hargs
          try simp only [List.set_cons_zero, List.set_cons_succ, World.size_alloc, World.size_setCell, World.size_drew] at H
          have hcs := H.cells
          dsimp only [cellsOf, neAll] at hcs
          try clear hargs
          have hargs := H.args
          rw [hA.out]
          have hge := arrV_ge (right_of hbr.out) x
          by_cases hfx : f ≤ x
          · have hv' : y = arrV pts x + d := by have := hv.out; rw [if_pos hfx] at this; exact this
            subst hv'
            go_wp2_with fail
            go_roundg (m - (k + 1))
            case measure => omega
            case rel => exact ⟨k + 1, by omega, rfl, by go_num, H⟩
          · have hv' : y = arrV pts x := by have := hv.out; rw [if_neg hfx] at this; omega
            subst hv'
            go_wp2_with fail
            go_roundg (m - (k + 1))
            case measure => omega
            case rel => exact ⟨k + 1, by omega, rfl, by go_num, H⟩
        · obtain rfl : k = m := by omega
          go_wp2_with fail
          apply st_calls
          case H => repeat (first | with_reducible exact H | with_reducible apply St.alloc | with_reducible apply St.allocAny | with_reducible apply St.set | with_reducible apply St.drew | with_reducible apply St.over | with_reducible exact get0 | with_reducible exact get1 | with_reducible exact get2 | with_reducible exact get3 | with_reducible exact get4 | with_reducible exact get5 | with_reducible exact get6 | with_reducible exact get7 | simp only [List.set_cons_zero, List.set_cons_succ])
          clear H
          try clear hcs
          try clear hargs
          intro W H
          try simp only [List.set_cons_zero, List.set_cons_succ, World.size_alloc, World.size_setCell, World.size_drew] at H
          have hcs := H.cells
          dsimp only [cellsOf, neAll] at hcs
          try clear hargs
          have hargs := H.args
          refine (awake_any _).mono ?_
          rintro e w1 ⟨rfl, hb⟩
          replace H := H.ext hb
          clear hb
          try clear hcs
          try clear hargs
          try simp only [List.set_cons_zero, List.set_cons_succ, World.size_alloc, World.size_setCell, World.size_drew] at H
          have hcs := H.cells
          dsimp only [cellsOf, neAll] at hcs
          try clear hargs
          have hargs := H.args
          go_wp2
          go_ret
          exact ⟨rfl, B_below hB H.below⟩
    · have e1 := slR_bad he
      rw [e1] at hrow
      have hml := row_len hrow
      obtain rfl : m = 0 := by simpa using hml.symm
      clear hrow hml e1 hl
      replace H := H.ext hb
      clear hb
      have he' : ((slR pts f d).2 == 0) = false := by simpa using he
      go_wp2_with fail
      apply st_calls
      case H => repeat (first | with_reducible exact H | with_reducible apply St.alloc | with_reducible apply St.allocAny | with_reducible apply St.set | with_reducible apply St.drew | with_reducible apply St.over | with_reducible exact get0 | with_reducible exact get1 | with_reducible exact get2 | with_reducible exact get3 | with_reducible exact get4 | with_reducible exact get5 | with_reducible exact get6 | with_reducible exact get7 | simp only [List.set_cons_zero, List.set_cons_succ])
      clear H
      try clear hcs
      try clear hargs
      intro W H
      try simp only [List.set_cons_zero, List.set_cons_succ, World.size_alloc, World.size_setCell, World.size_drew] at H
      have hcs := H.cells
      dsimp only [cellsOf, neAll] at hcs
      try clear hargs
      have hargs := H.args
      refine (awake_any _).mono ?_
      rintro e w1 ⟨rfl, hb⟩
      replace H := H.ext hb
      clear hb
      try clear hcs
      try clear hargs
      try simp only [List.set_cons_zero, List.set_cons_succ, World.size_alloc, World.size_setCell, World.size_drew] at H
      have hcs := H.cells
      dsimp only [cellsOf, neAll] at hcs
      try clear hargs
      have hargs := H.args
      go_wp2
      go_ret
      exact ⟨rfl, H.below⟩
end Go.Proofs.YtdpgdbkacmmmjaaDoor
