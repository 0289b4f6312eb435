/- Package lorryref07: Arrive, Latest: walks. -/
import Derived.Test.YtdpgdbkacmmmjaaDoorTH
import Derived.Test.YtdpgdbkacmmmjaaDoorTC
namespace Go.Proofs.YtdpgdbkacmmmjaaDoor
open Go.RowKit

theorem right_len {pts : List Pt} {n m : Nat} (hlen : pts.length = n) (h : (fl pts n).length = m * 2) : (rightB pts = true ∧ m = 0) ∨ (rightB pts = false ∧ 0 < m) := by
  unfold rightB
  rw [hlen]
  by_cases h' : fl pts n = []
  · refine .inl ⟨decide_eq_true h', ?_⟩
    rw [h'] at h; simp at h; omega
  · refine .inr ⟨decide_eq_false h', ?_⟩
    have : (fl pts n).length ≠ 0 := fun h0 => h' (List.eq_nil_of_length_eq_zero h0)
    omega

theorem ArrR_in {pts : List Pt} {t : Int} (hb : rightB pts = true) (h1 : 0 ≤ t) (h2 : t ≤ 1073741824) : ArrR pts t = arrV pts t := by unfold ArrR; rw [if_pos ⟨⟨h1, h2⟩, hb⟩]
theorem ArrR_out {pts : List Pt} {t : Int} (h : rightB pts = false ∨ t < 0 ∨ 1073741824 < t) : ArrR pts t = 0 := by
  unfold ArrR; rw [if_neg]; rintro ⟨⟨h1, h2⟩, h3⟩
  rcases h with h | h | h
  · rw [h] at h3; cases h3
  · omega
  · omega

set_option maxRecDepth 100000 in
set_option maxHeartbeats 1000000 in
theorem refArrive_any (A : Option Addr) (n c : Nat) (pts : List Pt) (hlen : pts.length = n) (hn : n ≤ 40) (t : Int) (ht : inI t) (w : World) (hR : PR w A pts) (hP : PB pts) :
    Calls Tryd.prog 15 #[.slice A n c, .int .i64 t] w fun e w' => e = .returned (.int .i64 (ArrR pts t)) ∧ Below w.heap.size w w' := by
  obtain ⟨ht1, ht2⟩ := ht
  have H := St.start w
  go_enter Tryd.func15, Tryd.ntmps15
  go_wp2_with fail
  refine (refCheck_any A n c pts hlen hn w hR hP).mono ?_
  rintro e w1 ⟨u, m, rfl, hrow, hb⟩
  obtain ⟨A', c', rfl⟩ := ownsRow_form hrow
  have hrl := right_len hlen hrow.1
  clear hrow
  replace H := H.ext hb
  clear hb
  rcases hrl with ⟨hb, rfl⟩ | ⟨hb, hm⟩
  · have hr := right_of hb
    by_cases h1 : t < 0
    · have hA := Lib.hid (ArrR_out (pts := pts) (.inr (.inl h1)))
      go_wp2
      go_ret
      exact ⟨by rw [hA.out]; rfl, H.below⟩
    · by_cases h2 : 1073741824 < t
      · have hA := Lib.hid (ArrR_out (pts := pts) (.inr (.inr h2)))
        go_wp2
        go_ret
        exact ⟨by rw [hA.out]; rfl, H.below⟩
      · have hA := Lib.hid (ArrR_in hb (t := t) (by omega) (by omega))
        have hb := Lib.hid hb
        have hpos := hr.pos
        rw [hlen] at hpos
        have hlen := Lib.hid hlen
        go_wp2_with fail
        go_loopg [5] n (fun g s5 wr => ∃ k : Nat, k + 1 ≤ n ∧ g = n - k ∧ s5 = .int .i64 k ∧ (∀ (j : Nat) (p q : Pt), j < k → pts[j]? = some p → pts[j + 1]? = some q → ¬ (p.1 ≤ t ∧ t < q.1)) ∧ St w wr [] [])
        case atStart => exact ⟨0, hpos, rfl, rfl, fun j p q hj => absurd hj (by omega), H⟩
        case round =>
          clear H
          obtain ⟨k, hk, rfl, rfl, hno, H⟩ := hrel
          have hno := Lib.hid hno
          try clear hcs
          try clear hargs
          try simp only [List.set_cons_zero, List.set_cons_succ, World.size_alloc, World.size_setCell, World.size_drew] at H
          have hcs := H.cells
          dsimp only [cellsOf, neAll] at hcs
          try clear hargs
          have hargs := H.args
          by_cases hkn : k + 1 < n
          · have hk1 : (k : Int) + 1 < n := by omega
            have hk0 : 0 ≤ (k : Int) + 1 := by omega
            have hk2 : (k : Int) < n := by omega
            obtain ⟨p, hp⟩ : ∃ p, pts[k]? = some p := ⟨_, List.getElem?_eq_getElem (by have := hlen.out; omega)⟩
            obtain ⟨q, hq⟩ : ∃ q, pts[k + 1]? = some q := ⟨_, List.getElem?_eq_getElem (by have := hlen.out; omega)⟩
            obtain ⟨a1, a2, a3, a4⟩ := hr.a _ _ hp
            obtain ⟨b1, b2, b3, b4⟩ := hr.a _ _ hq
            obtain ⟨m1, m2⟩ := hr.b _ _ _ hp hq
            obtain ⟨b, off, rfl, hbb, c1, c2⟩ := hR _ p hp
            obtain ⟨b', off', e, hb', c3, c4⟩ := hR _ q hq
            obtain ⟨rfl, rfl⟩ : b = b' ∧ off = off' := by cases e; exact ⟨rfl, rfl⟩
            clear e hb'
            try clear hcs
            try clear hargs
            try simp only [List.set_cons_zero, List.set_cons_succ, World.size_alloc, World.size_setCell, World.size_drew] at H
            have hcs := H.cells
            dsimp only [cellsOf, neAll] at hcs
            try clear hargs
            have hargs := H.args
            by_cases h3 : p.1 ≤ t
            · by_cases h4 : t < q.1
              · have hS := Lib.hid (arrV_seg hr hp hq h3 (by omega))
                go_upto_region 9 with fail
                apply st_wp
                case H => repeat (first | with_reducible exact H | with_reducible apply St.alloc | with_reducible apply St.allocAny | with_reducible apply St.set | with_reducible apply St.drew | with_reducible apply St.over | with_reducible exact get0 | with_reducible exact get1 | with_reducible exact get2 | with_reducible exact get3 | with_reducible exact get4 | with_reducible exact get5 | with_reducible exact get6 | with_reducible exact get7 | simp only [List.set_cons_zero, List.set_cons_succ])
                clear H
                try clear hcs
                try clear hargs
                intro W H
                try simp only [List.set_cons_zero, List.set_cons_succ, World.size_alloc, World.size_setCell, World.size_drew] at H
                have hcs := H.cells
                dsimp only [cellsOf, neAll] at hcs
                try clear hargs
                have hargs := H.args
                have hM : 0 ≤ (t - p.1) * (q.2 - p.2) ∧ (t - p.1) * (q.2 - p.2) ≤ 4096 * 8192 := 
                  ⟨Int.mul_nonneg (by omega) (by omega), Int.mul_le_mul (by omega) (by omega) (by omega) (by omega)⟩
                obtain ⟨hM1, hM2⟩ := hM
                have x1 : IntKind.i64.wrap (t - p.1) = t - p.1 := IntWalk.i64_in _ (by omega)
                have x2 : IntKind.i64.wrap (q.2 - p.2) = q.2 - p.2 := IntWalk.i64_in _ (by omega)
                have x3 : IntKind.i64.wrap ((t - p.1) * (q.2 - p.2)) = (t - p.1) * (q.2 - p.2) := IntWalk.i64_in _ (by omega)
                have x8 : IntKind.i64.wrap (q.1 - p.1) = q.1 - p.1 := IntWalk.i64_in _ (by omega)
                have x9 : (q.1 - p.1 = 0) = False := eq_false (by omega)
                refine wp_region_mix 26 (by kernel_rfl) (by kernel_rfl) ?_
                (refine mix_step 0 rfl (by kernel_rfl) (fun K hK => ?_); go_simp; refine hK _ ?_; clear hK K)
                (refine mix_step 1 rfl (by kernel_rfl) (fun K hK => ?_); go_simp; refine hK _ ?_; clear hK K)
                (refine mix_step 2 rfl (by kernel_rfl) (fun K hK => ?_); go_simp; refine hK _ ?_; clear hK K)
                (refine mix_step 3 rfl (by kernel_rfl) (fun K hK => ?_); go_simp; refine hK _ ?_; clear hK K)
                (refine mix_step 4 rfl (by kernel_rfl) (fun K hK => ?_); go_simp; refine hK _ ?_; clear hK K)
                (refine mix_step 5 rfl (by kernel_rfl) (fun K hK => ?_); go_simp; refine hK _ ?_; clear hK K)
                (refine mix_step 6 rfl (by kernel_rfl) (fun K hK => ?_); go_simp; refine hK _ ?_; clear hK K)
                (refine mix_step 7 rfl (by kernel_rfl) (fun K hK => ?_); go_simp; refine hK _ ?_; clear hK K)
                (refine mix_step 8 rfl (by kernel_rfl) (fun K hK => ?_); go_simp; refine hK _ ?_; clear hK K)
                (refine mix_step 9 rfl (by kernel_rfl) (fun K hK => ?_); go_simp; refine hK _ ?_; clear hK K)
                (refine mix_step 10 rfl (by kernel_rfl) (fun K hK => ?_); go_simp; refine hK _ ?_; clear hK K)
                (refine mix_step 11 rfl (by kernel_rfl) (fun K hK => ?_); go_simp; refine hK _ ?_; clear hK K)
                (refine mix_step 12 rfl (by kernel_rfl) (fun K hK => ?_); go_simp; refine hK _ ?_; clear hK K)
                (refine mix_step 13 rfl (by kernel_rfl) (fun K hK => ?_); go_simp; refine hK _ ?_; clear hK K)
                (refine mix_step 14 rfl (by kernel_rfl) (fun K hK => ?_); go_simp; refine hK _ ?_; clear hK K)
                (refine mix_step 15 rfl (by kernel_rfl) (fun K hK => ?_); go_simp; refine hK _ ?_; clear hK K)
                (refine mix_step 16 rfl (by kernel_rfl) (fun K hK => ?_); go_simp; refine hK _ ?_; clear hK K)
                (refine mix_step 17 rfl (by kernel_rfl) (fun K hK => ?_); go_simp; refine hK _ ?_; clear hK K)
                (refine mix_step 18 rfl (by kernel_rfl) (fun K hK => ?_); go_simp; refine hK _ ?_; clear hK K)
                (refine mix_step 19 rfl (by kernel_rfl) (fun K hK => ?_); go_simp; refine hK _ ?_; clear hK K)
                (refine mix_step 20 rfl (by kernel_rfl) (fun K hK => ?_); go_simp; refine hK _ ?_; clear hK K)
                (refine mix_step 21 rfl (by kernel_rfl) (fun K hK => ?_); go_simp; refine hK _ ?_; clear hK K)
                (refine mix_step 22 rfl (by kernel_rfl) (fun K hK => ?_); go_simp; refine hK _ ?_; clear hK K)
                (refine mix_step 23 rfl (by kernel_rfl) (fun K hK => ?_); go_simp; refine hK _ ?_; clear hK K)
                (refine mix_step 24 rfl (by kernel_rfl) (fun K hK => ?_); go_simp; refine hK _ ?_; clear hK K)
                (refine mix_step 25 rfl (by kernel_rfl) (fun K hK => ?_); go_simp; refine hK _ ?_; clear hK K)
                refine mix_end' (by kernel_rfl) (fun W1 hb => ?_)
                replace H := H.ext hb
                clear hb
                try clear hcs
                try clear hargs
                try simp only [List.set_cons_zero, List.set_cons_succ, World.size_alloc, World.size_setCell, World.size_drew] at H
                have hcs := H.cells
                dsimp only [cellsOf, neAll] at hcs
                try clear hargs
                have hargs := H.args
                simp only [List.drop_succ_cons, List.drop_zero]
                go_wp2
                go_ret
                refine ⟨?_, H.below⟩
                rw [hA.out, hS.out]
                show _ = Ending.returned (.int .i64 (seg p q t))
                unfold seg
                obtain ⟨M, hM⟩ : ∃ M, M = (t - p.1) * (q.2 - p.2) := ⟨_, rfl⟩
                rw [← hM] at hM1 hM2 ⊢
                obtain ⟨wd, hwd⟩ : ∃ wd, wd = q.1 - p.1 := ⟨_, rfl⟩
                have hq1 : 0 ≤ (M + wd - 1) / wd ∧ (M + wd - 1) / wd ≤ M + wd - 1 := ⟨Int.ediv_nonneg (by omega) (by omega), Int.ediv_le_self _ (by omega)⟩
                obtain ⟨hq1, hq2⟩ := hq1
                rw [← hwd]
                have y : IntKind.i64.wrap (p.2 + IntKind.i64.wrap ((IntKind.i64.wrap (IntKind.i64.wrap (IntKind.i64.wrap (M + q.1) - p.1) - 1)).tdiv wd)) = p.2 + (M + wd - 1) / wd := by
                  rw [IntWalk.i64_in (M + q.1) (by omega), show M + q.1 - p.1 = M + wd by omega, IntWalk.i64_in (M + wd) (by omega), IntWalk.i64_in (M + wd - 1) (by omega), Int.tdiv_eq_ediv_of_nonneg (by omega), IntWalk.i64_in ((M + wd - 1) / wd) (by omega), IntWalk.i64_in _ (by omega)]
                rw [← y]; rfl
              · go_wp2
                go_roundg (n - (k + 1))
                case measure => omega
                case rel => 
                  refine ⟨k + 1, hkn, rfl, by go_num, fun j p' q' hj hp' hq' => ?_, ?_⟩
                  · rcases Nat.lt_or_ge j k with h | h
                    · exact hno.out j p' q' h hp' hq'
                    · obtain rfl : j = k := by omega
                      rw [hp] at hp'; rw [hq] at hq'; cases hp'; cases hq'; omega
                  · skip
                    apply St.pick [] (by decide)
                    case H => repeat (first | with_reducible exact H | with_reducible apply St.alloc | with_reducible apply St.allocAny | with_reducible apply St.set | with_reducible apply St.drew | with_reducible apply St.over | with_reducible exact get0 | with_reducible exact get1 | with_reducible exact get2 | with_reducible exact get3 | with_reducible exact get4 | with_reducible exact get5 | with_reducible exact get6 | with_reducible exact get7 | simp only [List.set_cons_zero, List.set_cons_succ])
                    all_goals first | rfl | simp only [List.set_cons_zero, List.set_cons_succ, World.size_alloc, World.size_setCell, World.size_drew]
            · go_wp2
              go_roundg (n - (k + 1))
              case measure => omega
              case rel => 
                refine ⟨k + 1, hkn, rfl, by go_num, fun j p' q' hj hp' hq' => ?_, ?_⟩
                · rcases Nat.lt_or_ge j k with h | h
                  · exact hno.out j p' q' h hp' hq'
                  · obtain rfl : j = k := by omega
                    rw [hp] at hp'; rw [hq] at hq'; cases hp'; cases hq'; omega
                · skip
                  apply St.pick [] (by decide)
                  case H => repeat (first | with_reducible exact H | with_reducible apply St.alloc | with_reducible apply St.allocAny | with_reducible apply St.set | with_reducible apply St.drew | with_reducible apply St.over | with_reducible exact get0 | with_reducible exact get1 | with_reducible exact get2 | with_reducible exact get3 | with_reducible exact get4 | with_reducible exact get5 | with_reducible exact get6 | with_reducible exact get7 | simp only [List.set_cons_zero, List.set_cons_succ])
                  all_goals first | rfl | simp only [List.set_cons_zero, List.set_cons_succ, World.size_alloc, World.size_setCell, World.size_drew]
          · obtain rfl : k + 1 = n := by omega
            obtain ⟨z, hz⟩ : ∃ z, pts[0]? = some z := ⟨_, List.getElem?_eq_getElem (by have := hlen.out; omega)⟩
            obtain ⟨l, hl⟩ : ∃ l, pts[k]? = some l := ⟨_, List.getElem?_eq_getElem (by have := hlen.out; omega)⟩
            obtain ⟨a1, a2, a3, a4⟩ := hr.a _ _ hz
            obtain ⟨b1, b2, b3, b4⟩ := hr.a _ _ hl
            have hcov : t < z.1 ∨ l.1 ≤ t := by
              rcases cover t k z l hz hl with h | h | ⟨j, a, b, hj, h3, h4, h5, h6⟩
              · exact .inl h
              · exact .inr h
              · exact absurd ⟨h5, h6⟩ (hno.out j a b hj h3 h4)
            obtain ⟨b, off, rfl, hbb, c1, c2⟩ := hR _ z hz
            obtain ⟨b', off', e, hb', c3, c4⟩ := hR _ l hl
            obtain ⟨rfl, rfl⟩ : b = b' ∧ off = off' := by cases e; exact ⟨rfl, rfl⟩
            clear e hb'
            rw [Nat.zero_mul, Nat.add_zero] at c1 c2
            try clear hcs
            try clear hargs
            try simp only [List.set_cons_zero, List.set_cons_succ, World.size_alloc, World.size_setCell, World.size_drew] at H
            have hcs := H.cells
            dsimp only [cellsOf, neAll] at hcs
            try clear hargs
            have hargs := H.args
            by_cases hz1 : z.1 < t
            · have hlt : l.1 ≤ t := by omega
              have hV := Lib.hid (arrV_high hr (p := l) (by rw [hlen.out]; exact hl) hlt)
              clear hcov
              have hk1 : (k : Int) < (k : Int) + 1 := by omega
              have hk0 : 0 ≤ (k : Int) := by omega
              go_wp2
              go_ret
              refine ⟨by rw [hA.out, hV.out]; rfl, ?_⟩
              apply St.below'
              all_goals (repeat (first | with_reducible exact H | with_reducible apply St.alloc | with_reducible apply St.allocAny | with_reducible apply St.set | with_reducible apply St.drew | with_reducible apply St.over | with_reducible exact get0 | with_reducible exact get1 | with_reducible exact get2 | with_reducible exact get3 | with_reducible exact get4 | with_reducible exact get5 | with_reducible exact get6 | with_reducible exact get7 | simp only [List.set_cons_zero, List.set_cons_succ]))
            · have hV := Lib.hid (arrV_low hr hz (t := t) (by omega))
              clear hcov
              go_wp2
              go_ret
              refine ⟨by rw [hA.out, hV.out]; rfl, ?_⟩
              apply St.below'
              all_goals (repeat (first | with_reducible exact H | with_reducible apply St.alloc | with_reducible apply St.allocAny | with_reducible apply St.set | with_reducible apply St.drew | with_reducible apply St.over | with_reducible exact get0 | with_reducible exact get1 | with_reducible exact get2 | with_reducible exact get3 | with_reducible exact get4 | with_reducible exact get5 | with_reducible exact get6 | with_reducible exact get7 | simp only [List.set_cons_zero, List.set_cons_succ]))
  · have hA := Lib.hid (ArrR_out (pts := pts) (t := t) (.inl hb))
    have hm' : (0 : Int) < m := by omega
    go_wp2
    go_ret
    exact ⟨by rw [hA.out]; rfl, H.below⟩

set_option maxRecDepth 100000 in
set_option maxHeartbeats 1000000 in
theorem refLatest_any (A : Option Addr) (n c : Nat) (pts : List Pt) (hlen : pts.length = n) (hn : n ≤ 40) (a : Int) (ha : inI a) (w : World) (hR : PR w A pts) (hP : PB pts) :
    Calls Tryd.prog 13 #[.slice A n c, .int .i64 a] w fun e w' => ∃ d ok, LatS pts a d ok ∧ e = .returned (.tuple #[.int .i64 d, .bool ok]) ∧ Below w.heap.size w w' := by
  obtain ⟨ha1, ha2⟩ := ha
  have H := St.start w
  go_enter Tryd.func13, Tryd.ntmps13
  go_wp2_with fail
  refine (refCheck_any A n c pts hlen hn w hR hP).mono ?_
  rintro e w1 ⟨u, m, rfl, hrow, hb⟩
  obtain ⟨A', c', rfl⟩ := ownsRow_form hrow
  have hrl := right_len hlen hrow.1
  clear hrow
  replace H := H.ext hb
  clear hb
  rcases hrl with ⟨hb, rfl⟩ | ⟨hb, hm⟩
  · have hr := right_of hb
    have hb := Lib.hid hb
    go_wp2_with fail
    go_loopg [6] 4097 (fun g s6 wr => ∃ x : Int, -1 ≤ x ∧ x ≤ 4096 ∧ g = (x + 1).toNat ∧ s6 = .int .i64 x ∧ (∀ t : Int, x < t → t ≤ 4096 → a < arrV pts t) ∧ St w wr [] [])
    case atStart => exact ⟨4096, by omega, by omega, rfl, rfl, fun t h h' => absurd h (by omega), H⟩
    case round =>
      clear H
      obtain ⟨x, hx1, hx2, rfl, rfl, hno, H⟩ := hrel
      have hno := Lib.hid hno
      try clear hcs
      try clear hargs
      try simp only [List.set_cons_zero, List.set_cons_succ, World.size_alloc, World.size_setCell, World.size_drew] at H
      have hcs := H.cells
      dsimp only [cellsOf, neAll] at hcs
      try clear hargs
      have hargs := H.args
      by_cases hx : 0 ≤ x
      · go_wp2_with fail
        apply st_calls
        case H => repeat (first | with_reducible exact H | with_reducible apply St.alloc | with_reducible apply St.allocAny | with_reducible apply St.set | with_reducible apply St.drew | with_reducible apply St.over | with_reducible exact get0 | with_reducible exact get1 | with_reducible exact get2 | with_reducible exact get3 | with_reducible exact get4 | with_reducible exact get5 | with_reducible exact get6 | with_reducible exact get7 | simp only [List.set_cons_zero, List.set_cons_succ])
        clear H
        try clear hcs
        try clear hargs
        intro W H
        try simp only [List.set_cons_zero, List.set_cons_succ, World.size_alloc, World.size_setCell, World.size_drew] at H
        have hcs := H.cells
        dsimp only [cellsOf, neAll] at hcs
        try clear hargs
        have hargs := H.args
        refine (refArrive_any A n c pts hlen hn x ⟨by omega, by omega⟩ _ (hR.ext H.below) hP).mono ?_
        rintro e w1 ⟨rfl, hb⟩
        replace H := H.ext hb
        clear hb
        try clear hcs
        try clear hargs
        try simp only [List.set_cons_zero, List.set_cons_succ, World.size_alloc, World.size_setCell, World.size_drew] at H
        have hcs := H.cells
        dsimp only [cellsOf, neAll] at hcs
        try clear hargs
        have hargs := H.args
        have hA := Lib.hid (ArrR_in hb.out (t := x) (by omega) (by omega))
        rw [hA.out]
        by_cases hle : arrV pts x ≤ a
        · have hle' := Lib.hid hle
          go_wp2
          exact bodyPost_ret (v := .tuple #[.int .i64 x, .bool true]) (by simp [results, Tryd.results13, go_sem]) rfl ⟨x, true, .inr ⟨hb.out, hx, hx2, hle'.out, hno.out, rfl⟩, rfl, H.below⟩
        · go_wp2
          go_roundg (x - 1 + 1).toNat
          case measure => omega
          case rel =>
            refine ⟨x - 1, by omega, by omega, rfl, by go_num, fun t h1 h2 => ?_, H⟩
            by_cases hxt : x = t
            · subst hxt; omega
            · exact hno.out t (by omega) h2
      · obtain rfl : x = -1 := by omega
        have h0 := Lib.hid (hno.out 0 (by omega) (by omega))
        go_wp2
        exact bodyPost_ret (v := .tuple #[.int .i64 0, .bool false]) (by simp [results, Tryd.results13, go_sem]) rfl (by first | exact ⟨0, false, .inl ⟨.inr h0.out, rfl, rfl⟩, rfl, H.below⟩ | exact ⟨0, .inl ⟨.inl ⟨.inr h0.out, rfl, rfl⟩, rfl, H.below⟩⟩)
  · have hm' : (0 : Int) < m := by omega
    go_wp2
    exact bodyPost_ret (v := .tuple #[.int .i64 0, .bool false]) (by simp [results, Tryd.results13, go_sem]) rfl ⟨0, false, .inl ⟨.inl hb, rfl, rfl⟩, rfl, H.below⟩

theorem LatS_unique {pts : List Pt} {a d d' : Int} {ok ok' : Bool} (h : LatS pts a d ok) (h' : LatS pts a d' ok') : d = d' ∧ ok = ok' := by
  rcases h with ⟨h1, rfl, rfl⟩ | ⟨h1, h2, h3, h4, h5, rfl⟩ <;> rcases h' with ⟨h1', rfl, rfl⟩ | ⟨h1', h2', h3', h4', h5', rfl⟩
  · exact ⟨rfl, rfl⟩
  · exfalso
    rcases h1 with h1 | h1
    · rw [h1] at h1'; cases h1'
    · have := arrV_mono (right_of h1') h2'; omega
  · exfalso
    rcases h1' with h1' | h1'
    · rw [h1] at h1'; cases h1'
    · have := arrV_mono (right_of h1) h2; omega
  · refine ⟨?_, rfl⟩
    rcases Int.lt_trichotomy d d' with h | h | h
    · have := h5 d' h h3'; omega
    · exact h
    · have := h5' d h h3; omega
end Go.Proofs.YtdpgdbkacmmmjaaDoor
