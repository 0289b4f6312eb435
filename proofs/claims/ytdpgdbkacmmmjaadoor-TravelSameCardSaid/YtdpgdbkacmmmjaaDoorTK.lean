/- Package travel: Slower: walk. -/
import Derived.Test.YtdpgdbkacmmmjaaDoorTJ
namespace Go.Proofs.YtdpgdbkacmmmjaaDoor
open Go.RowKit


set_option maxRecDepth 100000 in
set_option maxHeartbeats 2000000 in
theorem Slower_any (A : Option Addr) (n c : Nat) (pts : List Pt) (hlen : pts.length = n) (hn : n ≤ 40) (f d : Int) (hf : inI f) (hd : inI d) (w : World) (hR : PR w A pts) (hP : PB pts) :
    Calls Tryd.prog 16 #[.slice A n c, .int .i64 f, .int .i64 d] w fun e w' => ∃ v, e = .returned (.tuple #[v, .int .i64 (slR pts f d).2]) ∧ (∃ m, w'.ownsRow w.heap.size 38 2 v m (flat (slR pts f d).1)) ∧ Below w.heap.size w w' := by
  obtain ⟨hf1, hf2⟩ := hf
  obtain ⟨hd1, hd2⟩ := hd
  obtain ⟨i0, hi0, hz0, hz1, hz2⟩ := info_parts point_info
  have H := (St.start w).addNil 38 2
  go_enter Tryd.func16, Tryd.ntmps16
  go_wp2_with fail
  apply st_calls
  case H => repeat (first | with_reducible exact H | with_reducible apply St.alloc | with_reducible apply St.allocAny | with_reducible apply St.set | with_reducible apply St.drew | with_reducible apply St.over | with_reducible exact get0 | with_reducible exact get1 | with_reducible exact get2 | with_reducible exact get3 | with_reducible exact get4 | with_reducible exact get5 | with_reducible exact get6 | with_reducible exact get7 | simp only [List.set_cons_zero, List.set_cons_succ])
  clear H
  try clear hcs
  try clear hargs
  intro W H
  try simp only [List.set_cons_zero, List.set_cons_succ, World.size_alloc, World.size_setCell, World.size_drew] at H
  have hcs := H.cells
  dsimp only [cellsOf, neAll] at hcs
  try clear hargs
  have hargs := H.args
  refine (right_any A n c pts hlen hn _ (hR.ext H.below) hP).mono ?_
  rintro e w1 ⟨rfl, hb⟩
  replace H := H.ext hb
  clear hb
  try clear hcs
  try clear hargs
  try simp only [List.set_cons_zero, List.set_cons_succ, World.size_alloc, World.size_setCell, World.size_drew] at H
  have hcs := H.cells
  dsimp only [cellsOf, neAll] at hcs
  try clear hargs
  have hargs := H.args
  cases hb : rightB pts
  · have hA := Lib.hid (slR_err (pts := pts) (f := f) (d := d) (by rw [hb]; exact fun h => absurd h.1 (by decide)))
    go_wp2
    exact bodyPost_ret (v := .tuple #[.slice none 0 0, .int .i64 2]) (by simp [results, Tryd.results16, go_sem]) rfl ⟨.slice none 0 0, by rw [hA.out], ⟨0, by rw [hA.out]; exact ownsRow_nil _ _ _ _⟩, H.below⟩
  · have hr := right_of hb
    by_cases h1 : 0 ≤ f ∧ f ≤ 4096
    · have hD1 : decide (0 ≤ f ∧ f ≤ 4096) = true := decide_eq_true h1
      go_wp2_with fail
      apply st_calls
      case H => repeat (first | with_reducible exact H | with_reducible apply St.alloc | with_reducible apply St.allocAny | with_reducible apply St.set | with_reducible apply St.drew | with_reducible apply St.over | with_reducible exact get0 | with_reducible exact get1 | with_reducible exact get2 | with_reducible exact get3 | with_reducible exact get4 | with_reducible exact get5 | with_reducible exact get6 | with_reducible exact get7 | simp only [List.set_cons_zero, List.set_cons_succ])
      clear H
      try clear hcs
      try clear hargs
      intro W H
      try simp only [List.set_cons_zero, List.set_cons_succ, World.size_alloc, World.size_setCell, World.size_drew] at H
      have hcs := H.cells
      dsimp only [cellsOf, neAll] at hcs
      try clear hargs
      have hargs := H.args
      refine (within_any f 0 4096 _).mono ?_
      rintro e w1 ⟨rfl, hb⟩
      replace H := H.ext hb
      clear hb
      try clear hcs
      try clear hargs
      try simp only [List.set_cons_zero, List.set_cons_succ, World.size_alloc, World.size_setCell, World.size_drew] at H
      have hcs := H.cells
      dsimp only [cellsOf, neAll] at hcs
      try clear hargs
      have hargs := H.args
      by_cases h2 : 0 ≤ d ∧ d ≤ 4096
      · have hD2 : decide (0 ≤ d ∧ d ≤ 4096) = true := decide_eq_true h2
        have hS : slR pts f d = if 16 < (slow pts f d).length then ([], 4) else if (slow pts f d).any (fun p => decide (p.1 + 4096 < p.2)) then ([], 2) else (slow pts f d, 0) := by unfold slR; rw [if_pos ⟨hb, h1, h2⟩]
        replace hS := Lib.hid hS
        replace hb := Lib.hid hb
        obtain ⟨h11, h12⟩ := h1
        obtain ⟨h21, h22⟩ := h2
        go_wp2_with fail
        apply st_calls
        case H => repeat (first | with_reducible exact H | with_reducible apply St.alloc | with_reducible apply St.allocAny | with_reducible apply St.set | with_reducible apply St.drew | with_reducible apply St.over | with_reducible exact get0 | with_reducible exact get1 | with_reducible exact get2 | with_reducible exact get3 | with_reducible exact get4 | with_reducible exact get5 | with_reducible exact get6 | with_reducible exact get7 | simp only [List.set_cons_zero, List.set_cons_succ])
        clear H
        try clear hcs
        try clear hargs
        intro W H
        try simp only [List.set_cons_zero, List.set_cons_succ, World.size_alloc, World.size_setCell, World.size_drew] at H
        have hcs := H.cells
        dsimp only [cellsOf, neAll] at hcs
        try clear hargs
        have hargs := H.args
        refine (within_any d 0 4096 _).mono ?_
        rintro e w1 ⟨rfl, hb⟩
        replace H := H.ext hb
        clear hb
        try clear hcs
        try clear hargs
        try simp only [List.set_cons_zero, List.set_cons_succ, World.size_alloc, World.size_setCell, World.size_drew] at H
        have hcs := H.cells
        dsimp only [cellsOf, neAll] at hcs
        try clear hargs
        have hargs := H.args
        rw [hD2]
        clear hD1 hD2
        have hn16 := hr.most
        rw [hlen] at hn16
        replace hlen := Lib.hid hlen
        go_upto_region 5 with fail
        go_loopg [8, 30] n (fun g s8 s30 wr => ∃ k m : Nat, k ≤ n ∧ g = n - k ∧ m ≤ k ∧ s30 = .int .i64 k ∧ St w wr [] [rowR w.heap.size 38 2 s8 m (flat (F1 pts f k))])
        case atStart => exact ⟨0, 0, by omega, by omega, by omega, rfl, H⟩
        case round =>
          clear H
          obtain ⟨k, m, hk, rfl, hm, rfl, H⟩ := hrel
          by_cases hkn : k < n
          · obtain ⟨p, hp⟩ : ∃ p, pts[k]? = some p := ⟨_, List.getElem?_eq_getElem (by have := hlen.out; omega)⟩
            obtain ⟨a1, a2, a3, a4⟩ := hr.a _ _ hp
            obtain ⟨b, off, rfl, hlt, c1, c2⟩ := hR k p hp
            replace hp := Lib.hid hp
            have hkn' : (k : Int) < n := by omega
            try clear hcs
            try clear hargs
            try simp only [List.set_cons_zero, List.set_cons_succ, World.size_alloc, World.size_setCell, World.size_drew] at H
            have hcs := H.cells
            dsimp only [cellsOf, neAll] at hcs
            try clear hargs
            have hargs := H.args
            by_cases hpf : p.1 < f - 1
            · have e1 := Lib.hid (F1_yes hp.out hpf)
              go_upto_region 8 with fail
              apply st_wp
              case H => repeat (first | with_reducible exact H | with_reducible apply St.alloc | with_reducible apply St.allocAny | with_reducible apply St.set | with_reducible apply St.drew | with_reducible apply St.over | with_reducible exact get0 | with_reducible exact get1 | with_reducible exact get2 | with_reducible exact get3 | with_reducible exact get4 | with_reducible exact get5 | with_reducible exact get6 | with_reducible exact get7 | simp only [List.set_cons_zero, List.set_cons_succ])
              clear H
              try clear hcs
              try clear hargs
              intro W H
              try simp only [List.set_cons_zero, List.set_cons_succ, World.size_alloc, World.size_setCell, World.size_drew] at H
              have hcs := H.cells
              dsimp only [cellsOf, neAll] at hcs
              try clear hargs
              have hargs := H.args
              go_wp2_with (at_builtin; refine wpList_appendNew_St rfl _ _ _ rfl H i0 _ 16 Tryd.underlying22 hi0 hz0 hz1 hz2 rfl (by omega) rfl 1 1 [.int .i64 (p.1), .int .i64 (p.2)] _ rfl rfl (by simp [Value.oneCell']) (by unfold maxLen; omega) (by omega) H.below.size ?_; intro v1 W1 H1)
              rw [flat_snoc] at H1
              go_roundg (n - (k + 1))
              case measure => omega
              case rel => exact ⟨k + 1, m + 1, by omega, rfl, by omega, by go_num, by rw [e1.out]; exact H1.dropB⟩
            · have e1 := Lib.hid (F1_no hp.out hpf)
              go_wp2_with fail
              go_roundg (n - (k + 1))
              case measure => omega
              case rel =>
                refine ⟨k + 1, m, by omega, rfl, by omega, by go_num, ?_⟩
                rw [e1.out]
                apply St.pick [] (by decide)
                case H => repeat (first | with_reducible exact H | with_reducible apply St.alloc | with_reducible apply St.allocAny | with_reducible apply St.set | with_reducible apply St.drew | with_reducible apply St.over | with_reducible exact get0 | with_reducible exact get1 | with_reducible exact get2 | with_reducible exact get3 | with_reducible exact get4 | with_reducible exact get5 | with_reducible exact get6 | with_reducible exact get7 | simp only [List.set_cons_zero, List.set_cons_succ])
                all_goals first | rfl | simp only [List.set_cons_zero, List.set_cons_succ, World.size_alloc, World.size_setCell, World.size_drew]
          · obtain rfl : k = n := by omega
            try clear hcs
            try clear hargs
            try simp only [List.set_cons_zero, List.set_cons_succ, World.size_alloc, World.size_setCell, World.size_drew] at H
            have hcs := H.cells
            dsimp only [cellsOf, neAll] at hcs
            try clear hargs
            have hargs := H.args
            go_upto_if 45 with fail
            go_cut [8] (fun s8 wx => ∃ m', m' ≤ k + 1 ∧ St w wx [] [rowR w.heap.size 38 2 s8 m' (flat (F1 pts f k ++ mid pts f))])
            case first =>
              by_cases hf0 : 0 < f
              · have hmid : mid pts f = [(f - 1, arrV pts (f - 1))] := by unfold mid; rw [if_pos hf0]
                replace hmid := Lib.hid hmid
                go_wp2_with fail
                apply st_calls
                case H => repeat (first | with_reducible exact H | with_reducible apply St.alloc | with_reducible apply St.allocAny | with_reducible apply St.set | with_reducible apply St.drew | with_reducible apply St.over | with_reducible exact get0 | with_reducible exact get1 | with_reducible exact get2 | with_reducible exact get3 | with_reducible exact get4 | with_reducible exact get5 | with_reducible exact get6 | with_reducible exact get7 | simp only [List.set_cons_zero, List.set_cons_succ])
                clear H
                try clear hcs
                try clear hargs
                intro W H
                try simp only [List.set_cons_zero, List.set_cons_succ, World.size_alloc, World.size_setCell, World.size_drew] at H
                have hcs := H.cells
                dsimp only [cellsOf, neAll] at hcs
                try clear hargs
                have hargs := H.args
                refine (arrive_any A k c pts hlen.out hr (f - 1) (by omega) (by omega) _ (hR.ext H.below)).mono ?_
                rintro e w1 ⟨rfl, hb⟩
                replace H := H.ext hb
                clear hb
                try clear hcs
                try clear hargs
                try simp only [List.set_cons_zero, List.set_cons_succ, World.size_alloc, World.size_setCell, World.size_drew] at H
                have hcs := H.cells
                dsimp only [cellsOf, neAll] at hcs
                try clear hargs
                have hargs := H.args
                go_wp2_with (at_builtin; refine wpList_appendNew_St rfl _ _ _ rfl H i0 _ 16 Tryd.underlying22 hi0 hz0 hz1 hz2 rfl (by omega) rfl 1 1 [.int .i64 (f - 1), .int .i64 (arrV pts (f - 1))] _ rfl rfl (by simp [Value.oneCell']) (by unfold maxLen; omega) (by omega) H.below.size ?_; intro v1 W1 H1)
                go_meet
                refine ⟨m + 1, by omega, ?_⟩
                rw [hmid.out, flat_append, flat_one]
                exact H1
              · have hmid : mid pts f = [] := by unfold mid; rw [if_neg hf0]
                replace hmid := Lib.hid hmid
                go_wp2_with fail
                go_meet
                refine ⟨m, by omega, ?_⟩
                rw [hmid.out, List.append_nil]
                exact H
            case rest =>
              clear H
              obtain ⟨m1, hm1, H⟩ := hcut
              go_wp2_with fail
              apply st_calls
              case H => repeat (first | with_reducible exact H | with_reducible apply St.alloc | with_reducible apply St.allocAny | with_reducible apply St.set | with_reducible apply St.drew | with_reducible apply St.over | with_reducible exact get0 | with_reducible exact get1 | with_reducible exact get2 | with_reducible exact get3 | with_reducible exact get4 | with_reducible exact get5 | with_reducible exact get6 | with_reducible exact get7 | simp only [List.set_cons_zero, List.set_cons_succ])
              clear H
              try clear hcs
              try clear hargs
              intro W H
              try simp only [List.set_cons_zero, List.set_cons_succ, World.size_alloc, World.size_setCell, World.size_drew] at H
              have hcs := H.cells
              dsimp only [cellsOf, neAll] at hcs
              try clear hargs
              have hargs := H.args
              refine (arrive_any A k c pts hlen.out hr f (by omega) (by omega) _ (hR.ext H.below)).mono ?_
              rintro e w1 ⟨rfl, hb⟩
              replace H := H.ext hb
              clear hb
              try clear hcs
              try clear hargs
              try simp only [List.set_cons_zero, List.set_cons_succ, World.size_alloc, World.size_setCell, World.size_drew] at H
              have hcs := H.cells
              dsimp only [cellsOf, neAll] at hcs
              try clear hargs
              have hargs := H.args
              have hle := arrV_le hr (t := f) (by omega)
              have hge := arrV_ge hr f
              have x1 : IntKind.i64.wrap (arrV pts f + d) = arrV pts f + d := IntWalk.i64_in _ (by omega)
              go_upto_region 14 with (at_builtin; refine wpList_appendNew_St rfl _ _ _ rfl H i0 _ 16 Tryd.underlying22 hi0 hz0 hz1 hz2 rfl (by omega) rfl 1 1 [.int .i64 (f), .int .i64 (arrV pts f + d)] _ rfl rfl (by simp [Value.oneCell']) (by unfold maxLen; omega) (by omega) H.below.size ?_; intro v1 W1 H1)
              clear H
              have H := H1
              clear H1
              rw [flat_snoc2] at H
              go_loopg [8, 68] k (fun g s8 s68 wr => ∃ j m : Nat, j ≤ k ∧ g = k - j ∧ m ≤ k + 2 + j ∧ s68 = .int .i64 j ∧ St w wr [] [rowR w.heap.size 38 2 s8 m (flat (F1 pts f k ++ mid pts f ++ [(f, arrV pts f + d)] ++ F2 pts f d j))])
              case atStart => exact ⟨0, m1 + 1, by omega, by omega, by omega, rfl, by rw [F2_zero, List.append_nil]; exact H⟩
              case round =>
                clear H
                obtain ⟨j, m2, hj, rfl, hm2, rfl, H⟩ := hrel
                by_cases hjk : j < k
                · obtain ⟨p, hp⟩ : ∃ p, pts[j]? = some p := ⟨_, List.getElem?_eq_getElem (by have := hlen.out; omega)⟩
                  obtain ⟨a1, a2, a3, a4⟩ := hr.a _ _ hp
                  obtain ⟨b, off, rfl, hlt, c1, c2⟩ := hR j p hp
                  replace hp := Lib.hid hp
                  have hjk' : (j : Int) < k := by omega
                  try clear hcs
                  try clear hargs
                  try simp only [List.set_cons_zero, List.set_cons_succ, World.size_alloc, World.size_setCell, World.size_drew] at H
                  have hcs := H.cells
                  dsimp only [cellsOf, neAll] at hcs
                  try clear hargs
                  have hargs := H.args
                  by_cases hpf : f < p.1
                  · have e1 := Lib.hid (F2_yes (d := d) hp.out hpf)
                    go_upto_region 17 with fail
                    apply st_wp
                    case H => repeat (first | with_reducible exact H | with_reducible apply St.alloc | with_reducible apply St.allocAny | with_reducible apply St.set | with_reducible apply St.drew | with_reducible apply St.over | with_reducible exact get0 | with_reducible exact get1 | with_reducible exact get2 | with_reducible exact get3 | with_reducible exact get4 | with_reducible exact get5 | with_reducible exact get6 | with_reducible exact get7 | simp only [List.set_cons_zero, List.set_cons_succ])
                    clear H
                    try clear hcs
                    try clear hargs
                    intro W H
                    try simp only [List.set_cons_zero, List.set_cons_succ, World.size_alloc, World.size_setCell, World.size_drew] at H
                    have hcs := H.cells
                    dsimp only [cellsOf, neAll] at hcs
                    try clear hargs
                    have hargs := H.args
                    go_wp2_with (at_builtin; refine wpList_appendNew_St rfl _ _ _ rfl H i0 _ 16 Tryd.underlying22 hi0 hz0 hz1 hz2 rfl (by omega) rfl 1 1 [.int .i64 (p.1), .int .i64 (p.2 + d)] _ rfl rfl (by simp [Value.oneCell']) (by unfold maxLen; omega) (by omega) H.below.size ?_; intro v1 W1 H1)
                    rw [flat_snoc2] at H1
                    go_roundg (k - (j + 1))
                    case measure => omega
                    case rel => exact ⟨j + 1, m2 + 1, by omega, rfl, by omega, by go_num, by rw [e1.out, ← List.append_assoc]; exact H1.dropB⟩
                  · have e1 := Lib.hid (F2_no (d := d) hp.out hpf)
                    go_wp2_with fail
                    go_roundg (k - (j + 1))
                    case measure => omega
                    case rel =>
                      refine ⟨j + 1, m2, by omega, rfl, by omega, by go_num, ?_⟩
                      rw [e1.out]
                      apply St.pick [] (by decide)
                      case H => repeat (first | with_reducible exact H | with_reducible apply St.alloc | with_reducible apply St.allocAny | with_reducible apply St.set | with_reducible apply St.drew | with_reducible apply St.over | with_reducible exact get0 | with_reducible exact get1 | with_reducible exact get2 | with_reducible exact get3 | with_reducible exact get4 | with_reducible exact get5 | with_reducible exact get6 | with_reducible exact get7 | simp only [List.set_cons_zero, List.set_cons_succ])
                      all_goals first | rfl | simp only [List.set_cons_zero, List.set_cons_succ, World.size_alloc, World.size_setCell, World.size_drew]
                · obtain rfl : j = k := by omega
                  have eL : F1 pts f j ++ mid pts f ++ [(f, arrV pts f + d)] ++ F2 pts f d j = slow pts f d := by unfold slow; rw [hlen.out]
                  rw [eL] at H
                  clear eL
                  have hml := Lib.hid (row_len H.row)
                  obtain ⟨A2, c2, rfl⟩ := ownsRow_form H.row
                  try clear hcs
                  try clear hargs
                  try simp only [List.set_cons_zero, List.set_cons_succ, World.size_alloc, World.size_setCell, World.size_drew] at H
                  have hcs := H.cells
                  dsimp only [cellsOf, neAll] at hcs
                  try clear hargs
                  have hargs := H.args
                  by_cases h16 : 16 < m2
                  · have h16' : (16 : Int) < m2 := by omega
                    have hS2 : slR pts f d = ([], 4) := by rw [hS.out, hml.out, if_pos h16]
                    replace hS2 := Lib.hid hS2
                    go_wp2
                    exact bodyPost_ret (v := .tuple #[.slice none 0 0, .int .i64 4]) (by simp [results, Tryd.results16, go_sem]) rfl ⟨.slice none 0 0, by rw [hS2.out], ⟨0, by rw [hS2.out]; exact ownsRow_nil _ _ _ _⟩, H.below⟩
                  · have hS2 : slR pts f d = if (slow pts f d).any (fun p => decide (p.1 + 4096 < p.2)) then ([], 2) else (slow pts f d, 0) := by rw [hS.out, hml.out, if_neg h16]
                    replace hS2 := Lib.hid hS2
                    go_upto_region 22 with fail
                    go_loopg [92] m2 (fun g s92 wr => ∃ i : Nat, i ≤ m2 ∧ g = m2 - i ∧ s92 = .int .i64 i ∧ (∀ (x : Nat) (q : Pt), x < i → (slow pts f d)[x]? = some q → ¬ q.1 + 4096 < q.2) ∧ St w wr [] [rowR w.heap.size 38 2 (.slice A2 m2 c2) m2 (flat (slow pts f d))])
                    case atStart => exact ⟨0, by omega, by omega, rfl, fun x q hx => absurd hx (by omega), H⟩
                    case round =>
                      clear H
                      obtain ⟨i, hi, rfl, rfl, hno, H⟩ := hrel
                      replace hno := Lib.hid hno
                      by_cases him : i < m2
                      · obtain ⟨q, hq⟩ : ∃ q, (slow pts f d)[i]? = some q := ⟨_, List.getElem?_eq_getElem (by have := hml.out; omega)⟩
                        obtain ⟨a1, a2, a3, a4⟩ := slow_bound hr h11 h12 h21 h22 (List.mem_of_getElem? hq)
                        obtain ⟨b, off, rfl, hlt, c1, c2⟩ := PR_row H.row i q hq
                        have him' : (i : Int) < m2 := by omega
                        try clear hcs
                        try clear hargs
                        try simp only [List.set_cons_zero, List.set_cons_succ, World.size_alloc, World.size_setCell, World.size_drew] at H
                        have hcs := H.cells
                        dsimp only [cellsOf, neAll] at hcs
                        try clear hargs
                        have hargs := H.args
                        by_cases hbad : q.1 + 4096 < q.2
                        · have hS3 : slR pts f d = ([], 2) := by
                            rw [hS2.out, if_pos (List.any_eq_true.2 ⟨q, List.mem_of_getElem? hq, decide_eq_true hbad⟩)]
                          replace hS3 := Lib.hid hS3
                          replace hq := Lib.hid hq
                          go_wp2
                          refine bodyPost_ret (v := .tuple #[.slice none 0 0, .int .i64 2]) (by simp [results, Tryd.results16, go_sem]) rfl ⟨.slice none 0 0, by rw [hS3.out], ⟨0, by rw [hS3.out]; exact ownsRow_nil _ _ _ _⟩, ?_⟩
                          apply St.below'
                          all_goals (repeat (first | with_reducible exact H | with_reducible apply St.alloc | with_reducible apply St.allocAny | with_reducible apply St.set | with_reducible apply St.drew | with_reducible apply St.over | with_reducible exact get0 | with_reducible exact get1 | with_reducible exact get2 | with_reducible exact get3 | with_reducible exact get4 | with_reducible exact get5 | with_reducible exact get6 | with_reducible exact get7 | simp only [List.set_cons_zero, List.set_cons_succ]))
                        · replace hq := Lib.hid hq
                          go_wp2_with fail
                          go_roundg (m2 - (i + 1))
                          case measure => omega
                          case rel =>
                            refine ⟨i + 1, by omega, rfl, by go_num, fun x q' hx hq' => ?_, ?_⟩
                            · rcases Nat.lt_or_ge x i with h | h
                              · exact hno.out x q' h hq'
                              · obtain rfl : x = i := by omega
                                rw [hq.out] at hq'; cases hq'; exact hbad
                            · skip
                              apply St.pick [] (by decide)
                              case H => repeat (first | with_reducible exact H | with_reducible apply St.alloc | with_reducible apply St.allocAny | with_reducible apply St.set | with_reducible apply St.drew | with_reducible apply St.over | with_reducible exact get0 | with_reducible exact get1 | with_reducible exact get2 | with_reducible exact get3 | with_reducible exact get4 | with_reducible exact get5 | with_reducible exact get6 | with_reducible exact get7 | simp only [List.set_cons_zero, List.set_cons_succ])
                              all_goals first | rfl | simp only [List.set_cons_zero, List.set_cons_succ, World.size_alloc, World.size_setCell, World.size_drew]
                      · obtain rfl : i = m2 := by omega
                        have hS3 : slR pts f d = (slow pts f d, 0) := by
                          rw [hS2.out, if_neg]
                          intro h
                          obtain ⟨q, hq, hq'⟩ := List.any_eq_true.1 h
                          obtain ⟨x, hx⟩ := List.getElem?_of_mem hq
                          exact hno.out x q (by have := at_lt hx; have := hml.out; omega) hx (of_decide_eq_true hq')
                        replace hS3 := Lib.hid hS3
                        try clear hcs
                        try clear hargs
                        try simp only [List.set_cons_zero, List.set_cons_succ, World.size_alloc, World.size_setCell, World.size_drew] at H
                        have hcs := H.cells
                        dsimp only [cellsOf, neAll] at hcs
                        try clear hargs
                        have hargs := H.args
                        go_wp2
                        exact bodyPost_ret (v := .tuple #[.slice A2 i c2, .int .i64 0]) (by simp [results, Tryd.results16, go_sem]) rfl ⟨.slice A2 i c2, by rw [hS3.out], ⟨i, by rw [hS3.out]; exact H.row⟩, H.below⟩
      · have hD2 : decide (0 ≤ d ∧ d ≤ 4096) = false := decide_eq_false h2
        have hA := Lib.hid (slR_err (pts := pts) (f := f) (d := d) (fun h => h2 h.2.2))
        go_wp2_with fail
        apply st_calls
        case H => repeat (first | with_reducible exact H | with_reducible apply St.alloc | with_reducible apply St.allocAny | with_reducible apply St.set | with_reducible apply St.drew | with_reducible apply St.over | with_reducible exact get0 | with_reducible exact get1 | with_reducible exact get2 | with_reducible exact get3 | with_reducible exact get4 | with_reducible exact get5 | with_reducible exact get6 | with_reducible exact get7 | simp only [List.set_cons_zero, List.set_cons_succ])
        clear H
        try clear hcs
        try clear hargs
        intro W H
        try simp only [List.set_cons_zero, List.set_cons_succ, World.size_alloc, World.size_setCell, World.size_drew] at H
        have hcs := H.cells
        dsimp only [cellsOf, neAll] at hcs
        try clear hargs
        have hargs := H.args
        refine (within_any d 0 4096 _).mono ?_
        rintro e w1 ⟨rfl, hb⟩
        replace H := H.ext hb
        clear hb
        try clear hcs
        try clear hargs
        try simp only [List.set_cons_zero, List.set_cons_succ, World.size_alloc, World.size_setCell, World.size_drew] at H
        have hcs := H.cells
        dsimp only [cellsOf, neAll] at hcs
        try clear hargs
        have hargs := H.args
        rw [hD2]
        go_wp2
        exact bodyPost_ret (v := .tuple #[.slice none 0 0, .int .i64 2]) (by simp [results, Tryd.results16, go_sem]) rfl ⟨.slice none 0 0, by rw [hA.out], ⟨0, by rw [hA.out]; exact ownsRow_nil _ _ _ _⟩, H.below⟩
    · have hD1 : decide (0 ≤ f ∧ f ≤ 4096) = false := decide_eq_false h1
      have hA := Lib.hid (slR_err (pts := pts) (f := f) (d := d) (fun h => h1 h.2.1))
      go_wp2_with fail
      apply st_calls
      case H => repeat (first | with_reducible exact H | with_reducible apply St.alloc | with_reducible apply St.allocAny | with_reducible apply St.set | with_reducible apply St.drew | with_reducible apply St.over | with_reducible exact get0 | with_reducible exact get1 | with_reducible exact get2 | with_reducible exact get3 | with_reducible exact get4 | with_reducible exact get5 | with_reducible exact get6 | with_reducible exact get7 | simp only [List.set_cons_zero, List.set_cons_succ])
      clear H
      try clear hcs
      try clear hargs
      intro W H
      try simp only [List.set_cons_zero, List.set_cons_succ, World.size_alloc, World.size_setCell, World.size_drew] at H
      have hcs := H.cells
      dsimp only [cellsOf, neAll] at hcs
      try clear hargs
      have hargs := H.args
      refine (within_any f 0 4096 _).mono ?_
      rintro e w1 ⟨rfl, hb⟩
      replace H := H.ext hb
      clear hb
      try clear hcs
      try clear hargs
      try simp only [List.set_cons_zero, List.set_cons_succ, World.size_alloc, World.size_setCell, World.size_drew] at H
      have hcs := H.cells
      dsimp only [cellsOf, neAll] at hcs
      try clear hargs
      have hargs := H.args
      rw [hD1]
      go_wp2
      exact bodyPost_ret (v := .tuple #[.slice none 0 0, .int .i64 2]) (by simp [results, Tryd.results16, go_sem]) rfl ⟨.slice none 0 0, by rw [hA.out], ⟨0, by rw [hA.out]; exact ownsRow_nil _ _ _ _⟩, H.below⟩
end Go.Proofs.YtdpgdbkacmmmjaaDoor
