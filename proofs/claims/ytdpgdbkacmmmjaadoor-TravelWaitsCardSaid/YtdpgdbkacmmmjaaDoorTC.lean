/- The reference of package travel: the walk of Check. -/
import Derived.Test.YtdpgdbkacmmmjaaDoorTB
namespace Go.Proofs.YtdpgdbkacmmmjaaDoor
open Go.RowKit

set_option maxRecDepth 100000 in
set_option maxHeartbeats 1000000 in
theorem refCheck_any (A : Option Addr) (n c : Nat) (pts : List Pt) (hlen : pts.length = n) (hn : n ≤ 40) (w : World) (hR : PR w A pts) (_hP : PB pts) :
    Calls Tryd.prog 11 #[.slice A n c] w fun e w' => ∃ u m, e = .returned u ∧ w'.ownsRow w.heap.size 28 2 u m (fl pts n) ∧ Below w.heap.size w w' := by
  obtain ⟨i0, hi0, hz0, hz1, hz2⟩ := info_parts fault_info
  have H := (St.start w).addNil 28 2
  have hlen := Lib.hid hlen
  go_enter Tryd.func11, Tryd.ntmps11
  go_upto_region 2 with fail
  go_cut [13] (fun s13 wx => w = wx ∧ s13 = .bool (decide (n = 0 ∨ 16 < n)))
  case first =>
    by_cases h0 : n = 0
    · subst h0
      go_wp2
      go_meet
      exact ⟨rfl, rfl⟩
    · have h0' : (1 : Int) ≤ (n : Int) := by omega
      go_wp2
      go_meet
      refine ⟨rfl, ?_⟩
      exact congrArg Value.bool (by rw [Bool.eq_iff_iff]; simp; omega)
  case rest =>
    obtain ⟨rfl, rfl⟩ := hcut
    go_upto_if 13 with fail
    go_cut [3] (fun s3 wx => ∃ m, m ≤ 1 ∧ St w wx [] [rowR w.heap.size 28 2 s3 m (fl0 n)])
    case first =>
      by_cases h0 : n = 0 ∨ 16 < n
      · have hd : decide (n = 0 ∨ 16 < n) = true := decide_eq_true h0
        have hf : fl0 n = [.int .i64 4, .string ⟨#[]⟩] := by unfold fl0; rw [if_pos h0]
        have hf := Lib.hid hf
        go_wp2_with (at_builtin; refine wpList_appendNew_St rfl _ _ _ rfl H i0 _ 24 Tryd.underlying24 hi0 hz0 hz1 hz2 rfl (by omega) rfl 1 1 [.int .i64 4, .string ⟨#[]⟩] _ rfl rfl (by simp [Value.oneCell']) (by unfold maxLen; omega) (by omega) H.below.size ?_; intro v1 W1 H1)
        go_meet
        refine ⟨1, by omega, ?_⟩
        rw [hf.out]
        exact H1
      · have hd : decide (n = 0 ∨ 16 < n) = false := decide_eq_false h0
        have hf : fl0 n = [] := by unfold fl0; rw [if_neg h0]
        have hf := Lib.hid hf
        go_wp2
        go_meet
        refine ⟨0, by omega, ?_⟩
        rw [hf.out]
        exact H
    case rest =>
      obtain ⟨m0, hm0, H⟩ := hcut
      have e0 : fl pts 0 = fl0 n := by show fl0 pts.length = fl0 n; rw [hlen.out]
      have e0 := Lib.hid e0
      go_wp2_with fail
      go_loopg [3, 4] n (fun g s3 s4 wr => ∃ k m : Nat, k ≤ n ∧ g = n - k ∧ m ≤ 1 + 2 * k ∧ s4 = .int .i64 k ∧ St w wr [] [rowR w.heap.size 28 2 s3 m (fl pts k)])
      case atStart => exact ⟨0, m0, by omega, by omega, by omega, rfl, by rw [e0.out]; exact H⟩
      case round =>
        clear H
        obtain ⟨k, m, hk, rfl, hm, rfl, H⟩ := hrel
        by_cases hkn : k < n
        · obtain ⟨p, hp⟩ : ∃ p, pts[k]? = some p := ⟨_, List.getElem?_eq_getElem (by have := hlen.out; omega)⟩
          obtain ⟨b, off, rfl, hlt, c1, c2⟩ := hR k p hp
          have hp := Lib.hid hp
          have hkn' : (k : Int) < n := by omega
          try clear hcs
          try clear hargs
          try simp only [List.set_cons_zero, List.set_cons_succ, World.size_alloc, World.size_setCell, World.size_drew] at H
          have hcs := H.cells
          dsimp only [cellsOf, neAll] at hcs
          try clear hargs
          have hargs := H.args
          go_upto_region 8 with fail
          apply st_wp
          case H => repeat (first | with_reducible exact H | with_reducible apply St.alloc | with_reducible apply St.allocAny | with_reducible apply St.set | with_reducible apply St.drew | with_reducible apply St.over | with_reducible exact get0 | with_reducible exact get1 | with_reducible exact get2 | with_reducible exact get3 | with_reducible exact get4 | with_reducible exact get5 | with_reducible exact get6 | with_reducible exact get7 | simp only [List.set_cons_zero, List.set_cons_succ])
          clear H
          try clear hcs
          try clear hargs
          intro W H
          try simp only [List.set_cons_zero, List.set_cons_succ, World.size_alloc, World.size_setCell, World.size_drew] at H
          have hcs := H.cells
          dsimp only [cellsOf, neAll] at hcs
          try clear hargs
          have hargs := H.args
          go_cut [50] (fun s50 wx => s50 = .bool (!decide (okA p)) ∧ St w wx [(wr.heap.size, 38, [.int .i64 p.1, .int .i64 p.2])] [rowR w.heap.size 28 2 u3 m (fl pts k)])
          case first =>
            -- DONE{
            by_cases h1 : p.1 < 0
            · go_wp2
              go_meet
              refine ⟨congrArg Value.bool ?_, H⟩
              rw [show decide (okA p) = false from decide_eq_false (by unfold okA; omega)]; first | rfl | (simp; omega)
            · have h1' : 0 ≤ p.1 := by omega
              by_cases h0 : 4096 < p.1
              · go_wp2
                go_meet
                refine ⟨congrArg Value.bool ?_, H⟩
                rw [show decide (okA p) = false from decide_eq_false (by unfold okA; omega)]; first | rfl | (simp; omega)
              · have h0' : p.1 ≤ 4096 := by omega
                by_cases h2 : p.2 < p.1
                · go_wp2
                  go_meet
                  refine ⟨congrArg Value.bool ?_, H⟩
                  rw [show decide (okA p) = false from decide_eq_false (by unfold okA; omega)]; first | rfl | (simp; omega)
                · have h2' : p.1 ≤ p.2 := by omega
                  by_cases h3 : p.1 + 4096 < p.2
                  · go_wp2
                    go_meet
                    refine ⟨congrArg Value.bool ?_, H⟩
                    rw [show decide (okA p) = false from decide_eq_false (by unfold okA; omega)]; first | rfl | (simp; omega)
                  · go_wp2
                    go_meet
                    refine ⟨congrArg Value.bool ?_, H⟩
                    rw [show decide (okA p) = true from decide_eq_true (by unfold okA; omega)]; first | rfl | (simp; omega)
            -- }DONE
          case rest =>
            clear H
            obtain ⟨rfl, H⟩ := hcut
            try clear hcs
            try clear hargs
            try simp only [List.set_cons_zero, List.set_cons_succ, World.size_alloc, World.size_setCell, World.size_drew] at H
            have hcs := H.cells
            dsimp only [cellsOf, neAll] at hcs
            try clear hargs
            have hargs := H.args
            go_upto_if 50 with fail
            go_cut [3] (fun s3 wx => ∃ m', m' ≤ m + 1 ∧ St w wx [(wr.heap.size, 38, [.int .i64 p.1, .int .i64 p.2])] [rowR w.heap.size 28 2 s3 m' (fl pts k ++ flA pts k)])
            case first =>
              -- DONE{
              by_cases hA : okA p
              · rw [show (!decide (okA p)) = false from by rw [decide_eq_true hA]; rfl]
                go_wp2
                go_meet
                refine ⟨m, by omega, ?_⟩
                rw [show flA pts k = [] from by unfold flA; rw [getD_of hp.out, if_pos hA], List.append_nil]
                exact H
              · rw [show (!decide (okA p)) = true from by rw [decide_eq_false hA]; rfl]
                go_wp2_with fail
                apply st_calls
                case H => repeat (first | with_reducible exact H | with_reducible apply St.alloc | with_reducible apply St.allocAny | with_reducible apply St.set | with_reducible apply St.drew | with_reducible apply St.over | with_reducible exact get0 | with_reducible exact get1 | with_reducible exact get2 | with_reducible exact get3 | with_reducible exact get4 | with_reducible exact get5 | with_reducible exact get6 | with_reducible exact get7 | simp only [List.set_cons_zero, List.set_cons_succ])
                clear H
                try clear hcs
                try clear hargs
                intro W H
                try simp only [List.set_cons_zero, List.set_cons_succ, World.size_alloc, World.size_setCell, World.size_drew] at H
                have hcs := H.cells
                dsimp only [cellsOf, neAll] at hcs
                try clear hargs
                have hargs := H.args
                refine (decimal_any k (by omega) _).mono ?_
                rintro e w1 ⟨rfl, hb⟩
                replace H := H.ext hb
                clear hb
                try clear hcs
                try clear hargs
                try simp only [List.set_cons_zero, List.set_cons_succ, World.size_alloc, World.size_setCell, World.size_drew] at H
                have hcs := H.cells
                dsimp only [cellsOf, neAll] at hcs
                try clear hargs
                have hargs := H.args
                go_wp2_with (at_builtin; refine wpList_appendNew_St rfl _ _ _ rfl H i0 _ 24 Tryd.underlying24 hi0 hz0 hz1 hz2 rfl (by omega) rfl 1 1 [.int .i64 2, .string (dec2 k)] _ rfl rfl (by simp [Value.oneCell']) (by unfold maxLen; omega) (by omega) H.below.size ?_; intro v1 W1 H1)
                go_meet
                refine ⟨m + 1, by omega, ?_⟩
                rw [show flA pts k = [.int .i64 2, .string (dec2 k)] from by unfold flA; rw [getD_of hp.out, if_neg hA]]
                exact H1
              -- }DONE
            case rest =>
              clear H
              obtain ⟨m1, hm1, H⟩ := hcut
              go_upto_region 10 with fail
              apply st_wp
              case H => repeat (first | with_reducible exact H | with_reducible apply St.alloc | with_reducible apply St.allocAny | with_reducible apply St.set | with_reducible apply St.drew | with_reducible apply St.over | with_reducible exact get0 | with_reducible exact get1 | with_reducible exact get2 | with_reducible exact get3 | with_reducible exact get4 | with_reducible exact get5 | with_reducible exact get6 | with_reducible exact get7 | simp only [List.set_cons_zero, List.set_cons_succ])
              clear H
              try clear hcs
              try clear hargs
              intro W H
              try simp only [List.set_cons_zero, List.set_cons_succ, World.size_alloc, World.size_setCell, World.size_drew] at H
              have hcs := H.cells
              dsimp only [cellsOf, neAll] at hcs
              try clear hargs
              have hargs := H.args
              clear hcs
              try clear hcs
              try clear hargs
              try simp only [List.set_cons_zero, List.set_cons_succ, World.size_alloc, World.size_setCell, World.size_drew] at H
              have hcs := H.cells
              dsimp only [cellsOf, neAll] at hcs
              try clear hargs
              have hargs := H.args
              go_cut [80] (fun s80 wx => s80 = .bool (!decide (okB pts k)) ∧ St w wx [(wr.heap.size, 38, [.int .i64 p.1, .int .i64 p.2])] [rowR w.heap.size 28 2 u3 m1 (fl pts k ++ flA pts k)])
              case first =>
                by_cases hk0 : k = 0
                · -- DONE{
                  subst hk0
                  have key : decide (okB pts 0) = true := decide_eq_true (fun h => absurd h (by omega))
                  have key := Lib.hid key
                  refine wp_region_mix 24 (by kernel_rfl) (by kernel_rfl) ?_
                  (refine mix_step 0 rfl (by kernel_rfl) (fun K hK => ?_); go_simp; refine hK _ ?_; clear hK K)
                  (refine mix_step 1 rfl (by kernel_rfl) (fun K hK => ?_); go_simp; refine hK _ ?_; clear hK K)
                  (refine mix_step 2 rfl (by kernel_rfl) (fun K hK => ?_); go_simp; refine hK _ ?_; clear hK K)
                  (refine mix_step 3 rfl (by kernel_rfl) (fun K hK => ?_); go_simp; refine hK _ ?_; clear hK K)
                  (refine mix_step 4 rfl (by kernel_rfl) (fun K hK => ?_); go_simp; refine hK _ ?_; clear hK K)
                  (refine mix_step 5 rfl (by kernel_rfl) (fun K hK => ?_); go_simp; refine hK _ ?_; clear hK K)
                  (refine mix_step 6 rfl (by kernel_rfl) (fun K hK => ?_); go_simp; refine hK _ ?_; clear hK K)
                  (refine mix_step 7 rfl (by kernel_rfl) (fun K hK => ?_); go_simp; refine hK _ ?_; clear hK K)
                  (refine mix_step 8 rfl (by kernel_rfl) (fun K hK => ?_); go_simp; refine hK _ ?_; clear hK K)
                  (refine mix_step 9 rfl (by kernel_rfl) (fun K hK => ?_); go_simp; refine hK _ ?_; clear hK K)
                  (refine mix_step 10 rfl (by kernel_rfl) (fun K hK => ?_); go_simp; refine hK _ ?_; clear hK K)
                  (refine mix_step 11 rfl (by kernel_rfl) (fun K hK => ?_); go_simp; refine hK _ ?_; clear hK K)
                  (refine mix_step 12 rfl (by kernel_rfl) (fun K hK => ?_); go_simp; refine hK _ ?_; clear hK K)
                  (refine mix_step 13 rfl (by kernel_rfl) (fun K hK => ?_); go_simp; refine hK _ ?_; clear hK K)
                  (refine mix_step 14 rfl (by kernel_rfl) (fun K hK => ?_); go_simp; refine hK _ ?_; clear hK K)
                  (refine mix_step 15 rfl (by kernel_rfl) (fun K hK => ?_); go_simp; refine hK _ ?_; clear hK K)
                  (refine mix_step 16 rfl (by kernel_rfl) (fun K hK => ?_); go_simp; refine hK _ ?_; clear hK K)
                  (refine mix_step 17 rfl (by kernel_rfl) (fun K hK => ?_); go_simp; refine hK _ ?_; clear hK K)
                  (refine mix_step 18 rfl (by kernel_rfl) (fun K hK => ?_); go_simp; refine hK _ ?_; clear hK K)
                  (refine mix_step 19 rfl (by kernel_rfl) (fun K hK => ?_); go_simp; refine hK _ ?_; clear hK K)
                  (refine mix_step 20 rfl (by kernel_rfl) (fun K hK => ?_); go_simp; refine hK _ ?_; clear hK K)
                  (refine mix_step 21 rfl (by kernel_rfl) (fun K hK => ?_); go_simp; refine hK _ ?_; clear hK K)
                  (refine mix_step 22 rfl (by kernel_rfl) (fun K hK => ?_); go_simp; refine hK _ ?_; clear hK K)
                  (refine mix_step 23 rfl (by kernel_rfl) (fun K hK => ?_); go_simp; refine hK _ ?_; clear hK K)
                  refine mix_end' (by kernel_rfl) (fun W1 hb => ?_)
                  replace H := H.ext hb
                  clear hb
                  try clear hcs
                  try clear hargs
                  try simp only [List.set_cons_zero, List.set_cons_succ, World.size_alloc, World.size_setCell, World.size_drew] at H
                  have hcs := H.cells
                  dsimp only [cellsOf, neAll] at hcs
                  try clear hargs
                  have hargs := H.args
                  simp only [List.drop_succ_cons, List.drop_zero]
                  go_wp2_with fail
                  go_meet
                  exact ⟨by rw [key.out]; rfl, H⟩
                  -- }DONE
                · obtain ⟨j, rfl⟩ : ∃ j, k = j + 1 := ⟨k - 1, by omega⟩
                  obtain ⟨q, hq⟩ : ∃ q, pts[j]? = some q := ⟨_, List.getElem?_eq_getElem (by have := hlen.out; omega)⟩
                  obtain ⟨b', off', hb', hlt', d1, d2⟩ := hR j q hq
                  obtain ⟨rfl, rfl⟩ : b = b' ∧ off = off' := by
                    injection hb' with hb'
                    injection hb' with h1 h2
                    exact ⟨h1, h2⟩
                  have hokB : okB pts (j + 1) ↔ (q.1 < p.1 ∧ q.2 ≤ p.2) := by
                    unfold okB
                    rw [show j + 1 - 1 = j from rfl, getD_of hq, getD_of hp.out]
                    exact ⟨fun h => h (by omega), fun h _ => h⟩
                  have hokB := Lib.hid hokB
                  clear hb' hq
                  have hj0 : (0 : Int) ≤ (j : Int) := by omega
                  have hjn : (j : Int) < n := by omega
                  have hjw : IntKind.i64.wrap (j : Int) = j := IntWalk.i64_in _ (by omega)
                  by_cases h1 : p.1 ≤ q.1
                  · refine wp_region_mix 24 (by kernel_rfl) (by kernel_rfl) ?_
                    (refine mix_step 0 rfl (by kernel_rfl) (fun K hK => ?_); go_simp; refine hK _ ?_; clear hK K)
                    (refine mix_step 1 rfl (by kernel_rfl) (fun K hK => ?_); go_simp; refine hK _ ?_; clear hK K)
                    (refine mix_step 2 rfl (by kernel_rfl) (fun K hK => ?_); go_simp; refine hK _ ?_; clear hK K)
                    (refine mix_step 3 rfl (by kernel_rfl) (fun K hK => ?_); go_simp; refine hK _ ?_; clear hK K)
                    (refine mix_step 4 rfl (by kernel_rfl) (fun K hK => ?_); go_simp; refine hK _ ?_; clear hK K)
                    (refine mix_step 5 rfl (by kernel_rfl) (fun K hK => ?_); go_simp; refine hK _ ?_; clear hK K)
                    (refine mix_step 6 rfl (by kernel_rfl) (fun K hK => ?_); go_simp; refine hK _ ?_; clear hK K)
                    (refine mix_step 7 rfl (by kernel_rfl) (fun K hK => ?_); go_simp; refine hK _ ?_; clear hK K)
                    (refine mix_step 8 rfl (by kernel_rfl) (fun K hK => ?_); go_simp; refine hK _ ?_; clear hK K)
                    (refine mix_step 9 rfl (by kernel_rfl) (fun K hK => ?_); go_simp; refine hK _ ?_; clear hK K)
                    (refine mix_step 10 rfl (by kernel_rfl) (fun K hK => ?_); go_simp; refine hK _ ?_; clear hK K)
                    (refine mix_step 11 rfl (by kernel_rfl) (fun K hK => ?_); go_simp; refine hK _ ?_; clear hK K)
                    (refine mix_step 12 rfl (by kernel_rfl) (fun K hK => ?_); go_simp; refine hK _ ?_; clear hK K)
                    (refine mix_step 13 rfl (by kernel_rfl) (fun K hK => ?_); go_simp; refine hK _ ?_; clear hK K)
                    (refine mix_step 14 rfl (by kernel_rfl) (fun K hK => ?_); go_simp; refine hK _ ?_; clear hK K)
                    (refine mix_step 15 rfl (by kernel_rfl) (fun K hK => ?_); go_simp; refine hK _ ?_; clear hK K)
                    (refine mix_step 16 rfl (by kernel_rfl) (fun K hK => ?_); go_simp; refine hK _ ?_; clear hK K)
                    (refine mix_step 17 rfl (by kernel_rfl) (fun K hK => ?_); go_simp; refine hK _ ?_; clear hK K)
                    (refine mix_step 18 rfl (by kernel_rfl) (fun K hK => ?_); go_simp; refine hK _ ?_; clear hK K)
                    (refine mix_step 19 rfl (by kernel_rfl) (fun K hK => ?_); go_simp; refine hK _ ?_; clear hK K)
                    (refine mix_step 20 rfl (by kernel_rfl) (fun K hK => ?_); go_simp; refine hK _ ?_; clear hK K)
                    (refine mix_step 21 rfl (by kernel_rfl) (fun K hK => ?_); go_simp; refine hK _ ?_; clear hK K)
                    (refine mix_step 22 rfl (by kernel_rfl) (fun K hK => ?_); go_simp; refine hK _ ?_; clear hK K)
                    (refine mix_step 23 rfl (by kernel_rfl) (fun K hK => ?_); go_simp; refine hK _ ?_; clear hK K)
                    refine mix_end' (by kernel_rfl) (fun W1 hb => ?_)
                    replace H := H.ext hb
                    clear hb
                    try clear hcs
                    try clear hargs
                    try simp only [List.set_cons_zero, List.set_cons_succ, World.size_alloc, World.size_setCell, World.size_drew] at H
                    have hcs := H.cells
                    dsimp only [cellsOf, neAll] at hcs
                    try clear hargs
                    have hargs := H.args
                    simp only [List.drop_succ_cons, List.drop_zero]
                    go_wp2_with fail
                    go_meet
                    exact ⟨by rw [show decide (okB pts (j + 1)) = false from decide_eq_false (fun h => by have := hokB.out.1 h; omega)]; rfl, H⟩
                  · have h1' : q.1 < p.1 := by omega
                    by_cases h2 : p.2 < q.2
                    · refine wp_region_mix 24 (by kernel_rfl) (by kernel_rfl) ?_
                      (refine mix_step 0 rfl (by kernel_rfl) (fun K hK => ?_); go_simp; refine hK _ ?_; clear hK K)
                      (refine mix_step 1 rfl (by kernel_rfl) (fun K hK => ?_); go_simp; refine hK _ ?_; clear hK K)
                      (refine mix_step 2 rfl (by kernel_rfl) (fun K hK => ?_); go_simp; refine hK _ ?_; clear hK K)
                      (refine mix_step 3 rfl (by kernel_rfl) (fun K hK => ?_); go_simp; refine hK _ ?_; clear hK K)
                      (refine mix_step 4 rfl (by kernel_rfl) (fun K hK => ?_); go_simp; refine hK _ ?_; clear hK K)
                      (refine mix_step 5 rfl (by kernel_rfl) (fun K hK => ?_); go_simp; refine hK _ ?_; clear hK K)
                      (refine mix_step 6 rfl (by kernel_rfl) (fun K hK => ?_); go_simp; refine hK _ ?_; clear hK K)
                      (refine mix_step 7 rfl (by kernel_rfl) (fun K hK => ?_); go_simp; refine hK _ ?_; clear hK K)
                      (refine mix_step 8 rfl (by kernel_rfl) (fun K hK => ?_); go_simp; refine hK _ ?_; clear hK K)
                      (refine mix_step 9 rfl (by kernel_rfl) (fun K hK => ?_); go_simp; refine hK _ ?_; clear hK K)
                      (refine mix_step 10 rfl (by kernel_rfl) (fun K hK => ?_); go_simp; refine hK _ ?_; clear hK K)
                      (refine mix_step 11 rfl (by kernel_rfl) (fun K hK => ?_); go_simp; refine hK _ ?_; clear hK K)
                      (refine mix_step 12 rfl (by kernel_rfl) (fun K hK => ?_); go_simp; refine hK _ ?_; clear hK K)
                      (refine mix_step 13 rfl (by kernel_rfl) (fun K hK => ?_); go_simp; refine hK _ ?_; clear hK K)
                      (refine mix_step 14 rfl (by kernel_rfl) (fun K hK => ?_); go_simp; refine hK _ ?_; clear hK K)
                      (refine mix_step 15 rfl (by kernel_rfl) (fun K hK => ?_); go_simp; refine hK _ ?_; clear hK K)
                      (refine mix_step 16 rfl (by kernel_rfl) (fun K hK => ?_); go_simp; refine hK _ ?_; clear hK K)
                      (refine mix_step 17 rfl (by kernel_rfl) (fun K hK => ?_); go_simp; refine hK _ ?_; clear hK K)
                      (refine mix_step 18 rfl (by kernel_rfl) (fun K hK => ?_); go_simp; refine hK _ ?_; clear hK K)
                      (refine mix_step 19 rfl (by kernel_rfl) (fun K hK => ?_); go_simp; refine hK _ ?_; clear hK K)
                      (refine mix_step 20 rfl (by kernel_rfl) (fun K hK => ?_); go_simp; refine hK _ ?_; clear hK K)
                      (refine mix_step 21 rfl (by kernel_rfl) (fun K hK => ?_); go_simp; refine hK _ ?_; clear hK K)
                      (refine mix_step 22 rfl (by kernel_rfl) (fun K hK => ?_); go_simp; refine hK _ ?_; clear hK K)
                      (refine mix_step 23 rfl (by kernel_rfl) (fun K hK => ?_); go_simp; refine hK _ ?_; clear hK K)
                      refine mix_end' (by kernel_rfl) (fun W1 hb => ?_)
                      replace H := H.ext hb
                      clear hb
                      try clear hcs
                      try clear hargs
                      try simp only [List.set_cons_zero, List.set_cons_succ, World.size_alloc, World.size_setCell, World.size_drew] at H
                      have hcs := H.cells
                      dsimp only [cellsOf, neAll] at hcs
                      try clear hargs
                      have hargs := H.args
                      simp only [List.drop_succ_cons, List.drop_zero]
                      go_wp2_with fail
                      go_meet
                      exact ⟨by rw [show decide (okB pts (j + 1)) = false from decide_eq_false (fun h => by have := hokB.out.1 h; omega)]; first | rfl | (simp; omega), H⟩
                    · have h2' : q.2 ≤ p.2 := by omega
                      refine wp_region_mix 24 (by kernel_rfl) (by kernel_rfl) ?_
                      (refine mix_step 0 rfl (by kernel_rfl) (fun K hK => ?_); go_simp; refine hK _ ?_; clear hK K)
                      (refine mix_step 1 rfl (by kernel_rfl) (fun K hK => ?_); go_simp; refine hK _ ?_; clear hK K)
                      (refine mix_step 2 rfl (by kernel_rfl) (fun K hK => ?_); go_simp; refine hK _ ?_; clear hK K)
                      (refine mix_step 3 rfl (by kernel_rfl) (fun K hK => ?_); go_simp; refine hK _ ?_; clear hK K)
                      (refine mix_step 4 rfl (by kernel_rfl) (fun K hK => ?_); go_simp; refine hK _ ?_; clear hK K)
                      (refine mix_step 5 rfl (by kernel_rfl) (fun K hK => ?_); go_simp; refine hK _ ?_; clear hK K)
                      (refine mix_step 6 rfl (by kernel_rfl) (fun K hK => ?_); go_simp; refine hK _ ?_; clear hK K)
                      (refine mix_step 7 rfl (by kernel_rfl) (fun K hK => ?_); go_simp; refine hK _ ?_; clear hK K)
                      (refine mix_step 8 rfl (by kernel_rfl) (fun K hK => ?_); go_simp; refine hK _ ?_; clear hK K)
                      (refine mix_step 9 rfl (by kernel_rfl) (fun K hK => ?_); go_simp; refine hK _ ?_; clear hK K)
                      (refine mix_step 10 rfl (by kernel_rfl) (fun K hK => ?_); go_simp; refine hK _ ?_; clear hK K)
                      (refine mix_step 11 rfl (by kernel_rfl) (fun K hK => ?_); go_simp; refine hK _ ?_; clear hK K)
                      (refine mix_step 12 rfl (by kernel_rfl) (fun K hK => ?_); go_simp; refine hK _ ?_; clear hK K)
                      (refine mix_step 13 rfl (by kernel_rfl) (fun K hK => ?_); go_simp; refine hK _ ?_; clear hK K)
                      (refine mix_step 14 rfl (by kernel_rfl) (fun K hK => ?_); go_simp; refine hK _ ?_; clear hK K)
                      (refine mix_step 15 rfl (by kernel_rfl) (fun K hK => ?_); go_simp; refine hK _ ?_; clear hK K)
                      (refine mix_step 16 rfl (by kernel_rfl) (fun K hK => ?_); go_simp; refine hK _ ?_; clear hK K)
                      (refine mix_step 17 rfl (by kernel_rfl) (fun K hK => ?_); go_simp; refine hK _ ?_; clear hK K)
                      (refine mix_step 18 rfl (by kernel_rfl) (fun K hK => ?_); go_simp; refine hK _ ?_; clear hK K)
                      (refine mix_step 19 rfl (by kernel_rfl) (fun K hK => ?_); go_simp; refine hK _ ?_; clear hK K)
                      (refine mix_step 20 rfl (by kernel_rfl) (fun K hK => ?_); go_simp; refine hK _ ?_; clear hK K)
                      (refine mix_step 21 rfl (by kernel_rfl) (fun K hK => ?_); go_simp; refine hK _ ?_; clear hK K)
                      (refine mix_step 22 rfl (by kernel_rfl) (fun K hK => ?_); go_simp; refine hK _ ?_; clear hK K)
                      (refine mix_step 23 rfl (by kernel_rfl) (fun K hK => ?_); go_simp; refine hK _ ?_; clear hK K)
                      refine mix_end' (by kernel_rfl) (fun W1 hb => ?_)
                      replace H := H.ext hb
                      clear hb
                      try clear hcs
                      try clear hargs
                      try simp only [List.set_cons_zero, List.set_cons_succ, World.size_alloc, World.size_setCell, World.size_drew] at H
                      have hcs := H.cells
                      dsimp only [cellsOf, neAll] at hcs
                      try clear hargs
                      have hargs := H.args
                      simp only [List.drop_succ_cons, List.drop_zero]
                      go_wp2_with fail
                      go_meet
                      exact ⟨by rw [show decide (okB pts (j + 1)) = true from decide_eq_true (hokB.out.2 ⟨h1', h2'⟩)]; first | rfl | (simp; omega), H⟩
              case rest =>
                clear H
                obtain ⟨rfl, H⟩ := hcut
                try clear hcs
                try clear hargs
                try simp only [List.set_cons_zero, List.set_cons_succ, World.size_alloc, World.size_setCell, World.size_drew] at H
                have hcs := H.cells
                dsimp only [cellsOf, neAll] at hcs
                try clear hargs
                have hargs := H.args
                by_cases hB : okB pts k
                · have e1 : fl pts (k + 1) = fl pts k ++ flA pts k := by
                    show fl pts k ++ flA pts k ++ flB pts k = _
                    rw [show flB pts k = [] from by unfold flB; rw [if_pos hB], List.append_nil]
                  have e1 := Lib.hid e1
                  rw [show (!decide (okB pts k)) = false from by rw [decide_eq_true hB]; rfl]
                  go_wp2
                  go_roundg (n - (k + 1))
                  case measure => omega
                  case rel => exact ⟨k + 1, m1, by omega, rfl, by omega, by go_num, by rw [e1.out]; exact H.dropB⟩
                · have e1 : fl pts (k + 1) = fl pts k ++ flA pts k ++ [.int .i64 13, .string (dec2 k)] := by
                    show fl pts k ++ flA pts k ++ flB pts k = _
                    rw [show flB pts k = [.int .i64 13, .string (dec2 k)] from by unfold flB; rw [if_neg hB]]
                  have e1 := Lib.hid e1
                  rw [show (!decide (okB pts k)) = true from by rw [decide_eq_false hB]; rfl]
                  go_wp2_with fail
                  apply st_calls
                  case H => repeat (first | with_reducible exact H | with_reducible apply St.alloc | with_reducible apply St.allocAny | with_reducible apply St.set | with_reducible apply St.drew | with_reducible apply St.over | with_reducible exact get0 | with_reducible exact get1 | with_reducible exact get2 | with_reducible exact get3 | with_reducible exact get4 | with_reducible exact get5 | with_reducible exact get6 | with_reducible exact get7 | simp only [List.set_cons_zero, List.set_cons_succ])
                  clear H
                  try clear hcs
                  try clear hargs
                  intro W H
                  try simp only [List.set_cons_zero, List.set_cons_succ, World.size_alloc, World.size_setCell, World.size_drew] at H
                  have hcs := H.cells
                  dsimp only [cellsOf, neAll] at hcs
                  try clear hargs
                  have hargs := H.args
                  refine (decimal_any k (by omega) _).mono ?_
                  rintro e w1 ⟨rfl, hb⟩
                  replace H := H.ext hb
                  clear hb
                  try clear hcs
                  try clear hargs
                  try simp only [List.set_cons_zero, List.set_cons_succ, World.size_alloc, World.size_setCell, World.size_drew] at H
                  have hcs := H.cells
                  dsimp only [cellsOf, neAll] at hcs
                  try clear hargs
                  have hargs := H.args
                  go_wp2_with (at_builtin; refine wpList_appendNew_St rfl _ _ _ rfl H i0 _ 24 Tryd.underlying24 hi0 hz0 hz1 hz2 rfl (by omega) rfl 1 1 [.int .i64 13, .string (dec2 k)] _ rfl rfl (by simp [Value.oneCell']) (by unfold maxLen; omega) (by omega) H.below.size ?_; intro v1 W1 H1)
                  go_roundg (n - (k + 1))
                  case measure => omega
                  case rel => exact ⟨k + 1, m1 + 1, by omega, rfl, by omega, by go_num, by rw [e1.out]; exact H1.dropB⟩
        · obtain rfl : k = n := by omega
          try clear hcs
          try clear hargs
          try simp only [List.set_cons_zero, List.set_cons_succ, World.size_alloc, World.size_setCell, World.size_drew] at H
          have hcs := H.cells
          dsimp only [cellsOf, neAll] at hcs
          try clear hargs
          have hargs := H.args
          go_wp2
          go_ret
          exact ⟨_, m, rfl, H.row, H.below⟩
end Go.Proofs.YtdpgdbkacmmmjaaDoor
