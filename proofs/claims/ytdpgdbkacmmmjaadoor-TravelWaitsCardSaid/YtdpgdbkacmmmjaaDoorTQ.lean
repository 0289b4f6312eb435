/- Package lorrylaw07: the laws TravelSlows, TravelWaits: walks. -/
import Derived.Test.YtdpgdbkacmmmjaaDoorTP
namespace Go.Proofs.YtdpgdbkacmmmjaaDoor
open Go.RowKit

theorem slR_len (pts : List Pt) (f d : Int) : (slR pts f d).1.length ≤ 16 := by
  unfold slR
  split
  · split
    · simp
    · split
      · simp
      · dsimp only; omega
  · simp

theorem slR_ok {pts : List Pt} {f d : Int} (h : (slR pts f d).2 = 0) : rightB pts = true ∧ (0 ≤ f ∧ f ≤ 4096) ∧ (0 ≤ d ∧ d ≤ 4096) ∧ (slR pts f d).1 = slow pts f d ∧ rightB (slow pts f d) = true := by
  unfold slR at h ⊢
  split at h
  · rename_i h1
    split at h
    · cases h
    · rename_i h2
      split at h
      · cases h
      · rename_i h3
        have hk := slR_right (right_of h1.1) h1.2.1.1 h1.2.1.2 h1.2.2.1 h1.2.2.2 (by omega)
        refine ⟨h1.1, h1.2.1, h1.2.2, ?_, ?_⟩
        · rw [if_pos h1, if_neg h2, if_neg h3]
        · rw [hk] at h3
          cases hb : rightB (slow pts f d)
          · rw [hb] at h3; simp at h3
          · rfl
  · cases h
theorem slR_bad {pts : List Pt} {f d : Int} (h : (slR pts f d).2 ≠ 0) : (slR pts f d).1 = [] := by
  unfold slR at h ⊢
  split
  · rename_i h1
    rw [if_pos h1] at h
    split
    · rfl
    · rename_i h2
      rw [if_neg h2] at h
      split
      · rfl
      · rename_i h3
        rw [if_neg h3] at h
        exact absurd rfl h
  · rfl

set_option maxRecDepth 100000 in
set_option maxHeartbeats 1000000 in
theorem slows_true (A : Option Addr) (n c : Nat) (pts : List Pt) (hlen : pts.length = n) (f d : Int) (hf : inI f) (hd : inI d) (w : World) (hR : PR w A pts) (hP : PB pts) :
    Calls Tryd.prog 6 #[.slice A n c, .int .i64 f, .int .i64 d] w fun e w' => e = .returned (.bool true) ∧ Below w.heap.size w w' := by
  have H := St.start w
  go_enter Tryd.func6, Tryd.ntmps6
  by_cases hn : 40 < n
  · have hn' : (40 : Int) < n := by omega
    go_wp2_with fail
    apply st_calls
    case H => repeat (first | with_reducible exact H | with_reducible apply St.alloc | with_reducible apply St.allocAny | with_reducible apply St.set | with_reducible apply St.drew | with_reducible apply St.over | with_reducible exact get0 | with_reducible exact get1 | with_reducible exact get2 | with_reducible exact get3 | with_reducible exact get4 | with_reducible exact get5 | with_reducible exact get6 | with_reducible exact get7 | simp only [List.set_cons_zero, List.set_cons_succ])
    clear H
    try clear hcs
    try clear hargs
    intro W H
    try simp only [List.set_cons_zero, List.set_cons_succ, World.size_alloc, World.size_setCell, World.size_drew] at H
    have hcs := H.cells
    dsimp only [cellsOf, neAll] at hcs
    try clear hargs
    have hargs := H.args
    refine (awake_any _).mono ?_
    rintro e w1 ⟨rfl, hb⟩
    replace H := H.ext hb
    clear hb
    try clear hcs
    try clear hargs
    try simp only [List.set_cons_zero, List.set_cons_succ, World.size_alloc, World.size_setCell, World.size_drew] at H
    have hcs := H.cells
    dsimp only [cellsOf, neAll] at hcs
    try clear hargs
    have hargs := H.args
    go_wp2
    go_ret
    exact ⟨rfl, H.below⟩
  · have hn' : ¬ (40 : Int) < n := by omega
    go_wp2_with fail
    refine (Slower_any A n c pts hlen (by omega) f d hf hd _ hR hP).mono ?_
    rintro e w1 ⟨v, rfl, ⟨m, hrow⟩, hb⟩
    obtain ⟨A1, c1, rfl⟩ := ownsRow_form hrow
    replace H := H.addRow hb hrow
    clear hrow hb
    go_wp2_with fail
    refine (refSlower_any A n c pts hlen (by omega) f d hf hd _ (hR.ext H.below) hP).mono ?_
    rintro e w2 ⟨v, rfl, ⟨m', hrow⟩, hb⟩
    obtain ⟨A2, c2, rfl⟩ := ownsRow_form hrow
    replace H := H.addRow hb hrow
    clear hrow hb
    have hl := slR_len pts f d
    have l1 := row_len H.swap.row
    have l2 := row_len H.row
    obtain ⟨L, hL⟩ : ∃ L, L = slR pts f d := ⟨_, rfl⟩
    rw [← hL] at hl l1 l2 H ⊢
    have hm : m ≤ 1000 := by omega
    replace l1 := Lib.hid l1
    replace l2 := Lib.hid l2
    clear hL
    go_wp2_with fail
    refine (points_any A1 A2 m m' c1 c2 L.1 L.1 l1.out l2.out hm _ (PR_row H.swap.row) (PR_row H.row)).mono ?_
    rintro e w3 ⟨rfl, hb⟩
    rw [show decide (L.1 = L.1) = true from decide_eq_true rfl]
    replace H := H.ext hb
    clear hb
    go_wp2_with fail
    apply st_calls
    case H => repeat (first | with_reducible exact H | with_reducible apply St.alloc | with_reducible apply St.allocAny | with_reducible apply St.set | with_reducible apply St.drew | with_reducible apply St.over | with_reducible exact get0 | with_reducible exact get1 | with_reducible exact get2 | with_reducible exact get3 | with_reducible exact get4 | with_reducible exact get5 | with_reducible exact get6 | with_reducible exact get7 | simp only [List.set_cons_zero, List.set_cons_succ])
    clear H
    try clear hcs
    try clear hargs
    intro W H
    try simp only [List.set_cons_zero, List.set_cons_succ, World.size_alloc, World.size_setCell, World.size_drew] at H
    have hcs := H.cells
    dsimp only [cellsOf, neAll] at hcs
    try clear hargs
    have hargs := H.args
    refine (awake_any _).mono ?_
    rintro e w1 ⟨rfl, hb⟩
    replace H := H.ext hb
    clear hb
    try clear hcs
    try clear hargs
    try simp only [List.set_cons_zero, List.set_cons_succ, World.size_alloc, World.size_setCell, World.size_drew] at H
    have hcs := H.cells
    dsimp only [cellsOf, neAll] at hcs
    try clear hargs
    have hargs := H.args
    go_wp2
    go_ret
    exact ⟨rfl, H.below⟩

set_option maxRecDepth 100000 in
set_option maxHeartbeats 1000000 in
theorem waits_true (A : Option Addr) (n c : Nat) (pts : List Pt) (hlen : pts.length = n) (t a : Int) (ht : inI t) (ha : inI a) (w : World) (hR : PR w A pts) (hP : PB pts) :
    Calls Tryd.prog 5 #[.slice A n c, .int .i64 t, .int .i64 a] w fun e w' => e = .returned (.bool true) ∧ Below w.heap.size w w' := by
  obtain ⟨ht1, ht2⟩ := ht
  have H := St.start w
  go_enter Tryd.func5, Tryd.ntmps5
  by_cases hn : 40 < n
  · have hn' : (40 : Int) < n := by omega
    go_wp2_with fail
    apply st_calls
    case H => repeat (first | with_reducible exact H | with_reducible apply St.alloc | with_reducible apply St.allocAny | with_reducible apply St.set | with_reducible apply St.drew | with_reducible apply St.over | with_reducible exact get0 | with_reducible exact get1 | with_reducible exact get2 | with_reducible exact get3 | with_reducible exact get4 | with_reducible exact get5 | with_reducible exact get6 | with_reducible exact get7 | simp only [List.set_cons_zero, List.set_cons_succ])
    clear H
    try clear hcs
    try clear hargs
    intro W H
    try simp only [List.set_cons_zero, List.set_cons_succ, World.size_alloc, World.size_setCell, World.size_drew] at H
    have hcs := H.cells
    dsimp only [cellsOf, neAll] at hcs
    try clear hargs
    have hargs := H.args
    refine (awake_any _).mono ?_
    rintro e w1 ⟨rfl, hb⟩
    replace H := H.ext hb
    clear hb
    try clear hcs
    try clear hargs
    try simp only [List.set_cons_zero, List.set_cons_succ, World.size_alloc, World.size_setCell, World.size_drew] at H
    have hcs := H.cells
    dsimp only [cellsOf, neAll] at hcs
    try clear hargs
    have hargs := H.args
    go_wp2
    go_ret
    exact ⟨rfl, H.below⟩
  · have hn' : ¬ (40 : Int) < n := by omega
    go_wp2_with fail
    refine (refCheck_any A n c pts hlen (by omega) _ hR hP).mono ?_
    rintro e w1 ⟨u, m, rfl, hrow, hb⟩
    obtain ⟨A', c', rfl⟩ := ownsRow_form hrow
    have hrl := right_len hlen hrow.1
    clear hrow
    replace H := H.ext hb
    clear hb
    rcases hrl with ⟨hb, rfl⟩ | ⟨hb, hm⟩
    · have hr := right_of hb
      by_cases h1 : t < 0
      · go_wp2_with fail
        apply st_calls
        case H => repeat (first | with_reducible exact H | with_reducible apply St.alloc | with_reducible apply St.allocAny | with_reducible apply St.set | with_reducible apply St.drew | with_reducible apply St.over | with_reducible exact get0 | with_reducible exact get1 | with_reducible exact get2 | with_reducible exact get3 | with_reducible exact get4 | with_reducible exact get5 | with_reducible exact get6 | with_reducible exact get7 | simp only [List.set_cons_zero, List.set_cons_succ])
        clear H
        try clear hcs
        try clear hargs
        intro W H
        try simp only [List.set_cons_zero, List.set_cons_succ, World.size_alloc, World.size_setCell, World.size_drew] at H
        have hcs := H.cells
        dsimp only [cellsOf, neAll] at hcs
        try clear hargs
        have hargs := H.args
        refine (awake_any _).mono ?_
        rintro e w1 ⟨rfl, hb⟩
        replace H := H.ext hb
        clear hb
        try clear hcs
        try clear hargs
        try simp only [List.set_cons_zero, List.set_cons_succ, World.size_alloc, World.size_setCell, World.size_drew] at H
        have hcs := H.cells
        dsimp only [cellsOf, neAll] at hcs
        try clear hargs
        have hargs := H.args
        go_wp2
        go_ret
        exact ⟨rfl, H.below⟩
      · by_cases h2 : 1073741824 ≤ t
        · go_wp2_with fail
          apply st_calls
          case H => repeat (first | with_reducible exact H | with_reducible apply St.alloc | with_reducible apply St.allocAny | with_reducible apply St.set | with_reducible apply St.drew | with_reducible apply St.over | with_reducible exact get0 | with_reducible exact get1 | with_reducible exact get2 | with_reducible exact get3 | with_reducible exact get4 | with_reducible exact get5 | with_reducible exact get6 | with_reducible exact get7 | simp only [List.set_cons_zero, List.set_cons_succ])
          clear H
          try clear hcs
          try clear hargs
          intro W H
          try simp only [List.set_cons_zero, List.set_cons_succ, World.size_alloc, World.size_setCell, World.size_drew] at H
          have hcs := H.cells
          dsimp only [cellsOf, neAll] at hcs
          try clear hargs
          have hargs := H.args
          refine (awake_any _).mono ?_
          rintro e w1 ⟨rfl, hb⟩
          replace H := H.ext hb
          clear hb
          try clear hcs
          try clear hargs
          try simp only [List.set_cons_zero, List.set_cons_succ, World.size_alloc, World.size_setCell, World.size_drew] at H
          have hcs := H.cells
          dsimp only [cellsOf, neAll] at hcs
          try clear hargs
          have hargs := H.args
          go_wp2
          go_ret
          exact ⟨rfl, H.below⟩
        · have hA := Lib.hid (ArrR_in hb (t := t) (by omega) (by omega))
          have hA1 := Lib.hid (ArrR_in hb (t := t + 1) (by omega) (by omega))
          have hge := arrV_ge hr t
          have hmono := arrV_mono1 hr t
          go_wp2_with fail
          apply st_calls
          case H => repeat (first | with_reducible exact H | with_reducible apply St.alloc | with_reducible apply St.allocAny | with_reducible apply St.set | with_reducible apply St.drew | with_reducible apply St.over | with_reducible exact get0 | with_reducible exact get1 | with_reducible exact get2 | with_reducible exact get3 | with_reducible exact get4 | with_reducible exact get5 | with_reducible exact get6 | with_reducible exact get7 | simp only [List.set_cons_zero, List.set_cons_succ])
          clear H
          try clear hcs
          try clear hargs
          intro W H
          try simp only [List.set_cons_zero, List.set_cons_succ, World.size_alloc, World.size_setCell, World.size_drew] at H
          have hcs := H.cells
          dsimp only [cellsOf, neAll] at hcs
          try clear hargs
          have hargs := H.args
          refine (Arrive_any A n c pts hlen (by omega) t ⟨ht1, ht2⟩ _ (hR.ext H.below) hP).mono ?_
          rintro e w1 ⟨rfl, hb⟩
          replace H := H.ext hb
          clear hb
          try clear hcs
          try clear hargs
          try simp only [List.set_cons_zero, List.set_cons_succ, World.size_alloc, World.size_setCell, World.size_drew] at H
          have hcs := H.cells
          dsimp only [cellsOf, neAll] at hcs
          try clear hargs
          have hargs := H.args
          rw [hA.out]
          go_wp2_with fail
          apply st_calls
          case H => repeat (first | with_reducible exact H | with_reducible apply St.alloc | with_reducible apply St.allocAny | with_reducible apply St.set | with_reducible apply St.drew | with_reducible apply St.over | with_reducible exact get0 | with_reducible exact get1 | with_reducible exact get2 | with_reducible exact get3 | with_reducible exact get4 | with_reducible exact get5 | with_reducible exact get6 | with_reducible exact get7 | simp only [List.set_cons_zero, List.set_cons_succ])
          clear H
          try clear hcs
          try clear hargs
          intro W H
          try simp only [List.set_cons_zero, List.set_cons_succ, World.size_alloc, World.size_setCell, World.size_drew] at H
          have hcs := H.cells
          dsimp only [cellsOf, neAll] at hcs
          try clear hargs
          have hargs := H.args
          refine (Arrive_any A n c pts hlen (by omega) (t + 1) ⟨by omega, by omega⟩ _ (hR.ext H.below) hP).mono ?_
          rintro e w1 ⟨rfl, hb⟩
          replace H := H.ext hb
          clear hb
          try clear hcs
          try clear hargs
          try simp only [List.set_cons_zero, List.set_cons_succ, World.size_alloc, World.size_setCell, World.size_drew] at H
          have hcs := H.cells
          dsimp only [cellsOf, neAll] at hcs
          try clear hargs
          have hargs := H.args
          rw [hA1.out]
          go_wp2_with fail
          refine (Latest_any A n c pts hlen (by omega) a ha _ (hR.ext H.below) hP).mono ?_
          rintro e w2 ⟨d, ok, hL, rfl, hb2⟩
          replace H := H.ext hb2
          clear hb2
          rcases hL with ⟨h3, rfl, rfl⟩ | ⟨h3, h4, h5, h6, h7, rfl⟩
          · have h0 : a < arrV pts 0 := by
              rcases h3 with h3 | h3
              · rw [h3] at hb; cases hb
              · exact h3
            have hA0 := Lib.hid (ArrR_in hb (t := 0) (by omega) (by omega))
            go_wp2_with fail
            apply st_calls
            case H => repeat (first | with_reducible exact H | with_reducible apply St.alloc | with_reducible apply St.allocAny | with_reducible apply St.set | with_reducible apply St.drew | with_reducible apply St.over | with_reducible exact get0 | with_reducible exact get1 | with_reducible exact get2 | with_reducible exact get3 | with_reducible exact get4 | with_reducible exact get5 | with_reducible exact get6 | with_reducible exact get7 | simp only [List.set_cons_zero, List.set_cons_succ])
            clear H
            try clear hcs
            try clear hargs
            intro W H
            try simp only [List.set_cons_zero, List.set_cons_succ, World.size_alloc, World.size_setCell, World.size_drew] at H
            have hcs := H.cells
            dsimp only [cellsOf, neAll] at hcs
            try clear hargs
            have hargs := H.args
            refine (Arrive_any A n c pts hlen (by omega) 0 ⟨by omega, by omega⟩ _ (hR.ext H.below) hP).mono ?_
            rintro e w1 ⟨rfl, hb⟩
            replace H := H.ext hb
            clear hb
            try clear hcs
            try clear hargs
            try simp only [List.set_cons_zero, List.set_cons_succ, World.size_alloc, World.size_setCell, World.size_drew] at H
            have hcs := H.cells
            dsimp only [cellsOf, neAll] at hcs
            try clear hargs
            have hargs := H.args
            rw [hA0.out]
            go_wp2_with fail
            apply st_calls
            case H => repeat (first | with_reducible exact H | with_reducible apply St.alloc | with_reducible apply St.allocAny | with_reducible apply St.set | with_reducible apply St.drew | with_reducible apply St.over | with_reducible exact get0 | with_reducible exact get1 | with_reducible exact get2 | with_reducible exact get3 | with_reducible exact get4 | with_reducible exact get5 | with_reducible exact get6 | with_reducible exact get7 | simp only [List.set_cons_zero, List.set_cons_succ])
            clear H
            try clear hcs
            try clear hargs
            intro W H
            try simp only [List.set_cons_zero, List.set_cons_succ, World.size_alloc, World.size_setCell, World.size_drew] at H
            have hcs := H.cells
            dsimp only [cellsOf, neAll] at hcs
            try clear hargs
            have hargs := H.args
            refine (awake_any _).mono ?_
            rintro e w1 ⟨rfl, hb⟩
            replace H := H.ext hb
            clear hb
            try clear hcs
            try clear hargs
            try simp only [List.set_cons_zero, List.set_cons_succ, World.size_alloc, World.size_setCell, World.size_drew] at H
            have hcs := H.cells
            dsimp only [cellsOf, neAll] at hcs
            try clear hargs
            have hargs := H.args
            go_wp2
            go_ret
            exact ⟨rfl, H.below⟩
          · have hAd := Lib.hid (ArrR_in hb (t := d) (by omega) (by omega))
            by_cases hd : d = 4096
            · subst hd
              go_wp2_with fail
              apply st_calls
              case H => repeat (first | with_reducible exact H | with_reducible apply St.alloc | with_reducible apply St.allocAny | with_reducible apply St.set | with_reducible apply St.drew | with_reducible apply St.over | with_reducible exact get0 | with_reducible exact get1 | with_reducible exact get2 | with_reducible exact get3 | with_reducible exact get4 | with_reducible exact get5 | with_reducible exact get6 | with_reducible exact get7 | simp only [List.set_cons_zero, List.set_cons_succ])
              clear H
              try clear hcs
              try clear hargs
              intro W H
              try simp only [List.set_cons_zero, List.set_cons_succ, World.size_alloc, World.size_setCell, World.size_drew] at H
              have hcs := H.cells
              dsimp only [cellsOf, neAll] at hcs
              try clear hargs
              have hargs := H.args
              refine (Arrive_any A n c pts hlen (by omega) 4096 ⟨by omega, by omega⟩ _ (hR.ext H.below) hP).mono ?_
              rintro e w1 ⟨rfl, hb⟩
              replace H := H.ext hb
              clear hb
              try clear hcs
              try clear hargs
              try simp only [List.set_cons_zero, List.set_cons_succ, World.size_alloc, World.size_setCell, World.size_drew] at H
              have hcs := H.cells
              dsimp only [cellsOf, neAll] at hcs
              try clear hargs
              have hargs := H.args
              rw [hAd.out]
              clear h7
              go_wp2_with fail
              apply st_calls
              case H => repeat (first | with_reducible exact H | with_reducible apply St.alloc | with_reducible apply St.allocAny | with_reducible apply St.set | with_reducible apply St.drew | with_reducible apply St.over | with_reducible exact get0 | with_reducible exact get1 | with_reducible exact get2 | with_reducible exact get3 | with_reducible exact get4 | with_reducible exact get5 | with_reducible exact get6 | with_reducible exact get7 | simp only [List.set_cons_zero, List.set_cons_succ])
              clear H
              try clear hcs
              try clear hargs
              intro W H
              try simp only [List.set_cons_zero, List.set_cons_succ, World.size_alloc, World.size_setCell, World.size_drew] at H
              have hcs := H.cells
              dsimp only [cellsOf, neAll] at hcs
              try clear hargs
              have hargs := H.args
              refine (awake_any _).mono ?_
              rintro e w1 ⟨rfl, hb⟩
              replace H := H.ext hb
              clear hb
              try clear hcs
              try clear hargs
              try simp only [List.set_cons_zero, List.set_cons_succ, World.size_alloc, World.size_setCell, World.size_drew] at H
              have hcs := H.cells
              dsimp only [cellsOf, neAll] at hcs
              try clear hargs
              have hargs := H.args
              go_wp2
              go_ret
              exact ⟨rfl, H.below⟩
            · have h8 := h7 (d + 1) (by omega) (by omega)
              clear h7
              have hAd1 := Lib.hid (ArrR_in hb (t := d + 1) (by omega) (by omega))
              go_wp2_with fail
              apply st_calls
              case H => repeat (first | with_reducible exact H | with_reducible apply St.alloc | with_reducible apply St.allocAny | with_reducible apply St.set | with_reducible apply St.drew | with_reducible apply St.over | with_reducible exact get0 | with_reducible exact get1 | with_reducible exact get2 | with_reducible exact get3 | with_reducible exact get4 | with_reducible exact get5 | with_reducible exact get6 | with_reducible exact get7 | simp only [List.set_cons_zero, List.set_cons_succ])
              clear H
              try clear hcs
              try clear hargs
              intro W H
              try simp only [List.set_cons_zero, List.set_cons_succ, World.size_alloc, World.size_setCell, World.size_drew] at H
              have hcs := H.cells
              dsimp only [cellsOf, neAll] at hcs
              try clear hargs
              have hargs := H.args
              refine (Arrive_any A n c pts hlen (by omega) d ⟨by omega, by omega⟩ _ (hR.ext H.below) hP).mono ?_
              rintro e w1 ⟨rfl, hb⟩
              replace H := H.ext hb
              clear hb
              try clear hcs
              try clear hargs
              try simp only [List.set_cons_zero, List.set_cons_succ, World.size_alloc, World.size_setCell, World.size_drew] at H
              have hcs := H.cells
              dsimp only [cellsOf, neAll] at hcs
              try clear hargs
              have hargs := H.args
              rw [hAd.out]
              go_wp2_with fail
              apply st_calls
              case H => repeat (first | with_reducible exact H | with_reducible apply St.alloc | with_reducible apply St.allocAny | with_reducible apply St.set | with_reducible apply St.drew | with_reducible apply St.over | with_reducible exact get0 | with_reducible exact get1 | with_reducible exact get2 | with_reducible exact get3 | with_reducible exact get4 | with_reducible exact get5 | with_reducible exact get6 | with_reducible exact get7 | simp only [List.set_cons_zero, List.set_cons_succ])
              clear H
              try clear hcs
              try clear hargs
              intro W H
              try simp only [List.set_cons_zero, List.set_cons_succ, World.size_alloc, World.size_setCell, World.size_drew] at H
              have hcs := H.cells
              dsimp only [cellsOf, neAll] at hcs
              try clear hargs
              have hargs := H.args
              refine (Arrive_any A n c pts hlen (by omega) (d + 1) ⟨by omega, by omega⟩ _ (hR.ext H.below) hP).mono ?_
              rintro e w1 ⟨rfl, hb⟩
              replace H := H.ext hb
              clear hb
              try clear hcs
              try clear hargs
              try simp only [List.set_cons_zero, List.set_cons_succ, World.size_alloc, World.size_setCell, World.size_drew] at H
              have hcs := H.cells
              dsimp only [cellsOf, neAll] at hcs
              try clear hargs
              have hargs := H.args
              rw [hAd1.out]
              go_wp2_with fail
              apply st_calls
              case H => repeat (first | with_reducible exact H | with_reducible apply St.alloc | with_reducible apply St.allocAny | with_reducible apply St.set | with_reducible apply St.drew | with_reducible apply St.over | with_reducible exact get0 | with_reducible exact get1 | with_reducible exact get2 | with_reducible exact get3 | with_reducible exact get4 | with_reducible exact get5 | with_reducible exact get6 | with_reducible exact get7 | simp only [List.set_cons_zero, List.set_cons_succ])
              clear H
              try clear hcs
              try clear hargs
              intro W H
              try simp only [List.set_cons_zero, List.set_cons_succ, World.size_alloc, World.size_setCell, World.size_drew] at H
              have hcs := H.cells
              dsimp only [cellsOf, neAll] at hcs
              try clear hargs
              have hargs := H.args
              refine (awake_any _).mono ?_
              rintro e w1 ⟨rfl, hb⟩
              replace H := H.ext hb
              clear hb
              try clear hcs
              try clear hargs
              try simp only [List.set_cons_zero, List.set_cons_succ, World.size_alloc, World.size_setCell, World.size_drew] at H
              have hcs := H.cells
              dsimp only [cellsOf, neAll] at hcs
              try clear hargs
              have hargs := H.args
              go_wp2
              go_ret
              exact ⟨rfl, H.below⟩
    · have hm' : (0 : Int) < m := by omega
      go_wp2_with fail
      apply st_calls
      case H => repeat (first | with_reducible exact H | with_reducible apply St.alloc | with_reducible apply St.allocAny | with_reducible apply St.set | with_reducible apply St.drew | with_reducible apply St.over | with_reducible exact get0 | with_reducible exact get1 | with_reducible exact get2 | with_reducible exact get3 | with_reducible exact get4 | with_reducible exact get5 | with_reducible exact get6 | with_reducible exact get7 | simp only [List.set_cons_zero, List.set_cons_succ])
      clear H
      try clear hcs
      try clear hargs
      intro W H
      try simp only [List.set_cons_zero, List.set_cons_succ, World.size_alloc, World.size_setCell, World.size_drew] at H
      have hcs := H.cells
      dsimp only [cellsOf, neAll] at hcs
      try clear hargs
      have hargs := H.args
      refine (awake_any _).mono ?_
      rintro e w1 ⟨rfl, hb⟩
      replace H := H.ext hb
      clear hb
      try clear hcs
      try clear hargs
      try simp only [List.set_cons_zero, List.set_cons_succ, World.size_alloc, World.size_setCell, World.size_drew] at H
      have hcs := H.cells
      dsimp only [cellsOf, neAll] at hcs
      try clear hargs
      have hargs := H.args
      go_wp2
      go_ret
      exact ⟨rfl, H.below⟩
end Go.Proofs.YtdpgdbkacmmmjaaDoor
