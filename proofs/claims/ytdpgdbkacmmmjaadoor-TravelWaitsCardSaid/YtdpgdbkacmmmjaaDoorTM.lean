/- Package lorryref07: Slower: walk. -/
import Derived.Test.YtdpgdbkacmmmjaaDoorTL
namespace Go.Proofs.YtdpgdbkacmmmjaaDoor
open Go.RowKit


theorem news_of_blk {w0 w : World} {σ : Sg} {ρ : List Rsrc} {g : Nat} {t : TypeId} {cs : List Value} (H : St w0 w ((g, t, cs) :: σ) ρ) : ∀ j u, cs[j]? = some u → w.cell? ((⟨g, 0, none⟩ : Addr).add j) = some u := by
  intro j u hj
  have h1 : ((⟨g, 0, none⟩ : Addr).add j) = ⟨g, j, none⟩ := by
    unfold Addr.add; split <;> simp_all
  rw [h1, ((H.blks _ List.mem_cons_self).1).cell]
  exact hj

set_option maxRecDepth 100000 in
set_option maxHeartbeats 4000000 in
theorem refSlower_any (A : Option Addr) (n c : Nat) (pts : List Pt) (hlen : pts.length = n) (hn : n ≤ 40) (f d : Int) (hf : inI f) (hd : inI d) (w : World) (hR : PR w A pts) (hP : PB pts) :
    Calls Tryd.prog 17 #[.slice A n c, .int .i64 f, .int .i64 d] w fun e w' => ∃ v, e = .returned (.tuple #[v, .int .i64 (slR pts f d).2]) ∧ (∃ m, w'.ownsRow w.heap.size 38 2 v m (flat (slR pts f d).1)) ∧ Below w.heap.size w w' := by
  obtain ⟨hf1, hf2⟩ := hf
  obtain ⟨hd1, hd2⟩ := hd
  obtain ⟨i0, hi0, hz0, hz1, hz2⟩ := info_parts point_info
  have H := (St.start w).addNil 38 2
  go_enter Tryd.func17, Tryd.ntmps17
  go_wp2_with fail
  refine (refCheck_any A n c pts hlen hn w hR hP).mono ?_
  rintro e w1 ⟨u, m, rfl, hrow, hb⟩
  obtain ⟨A', c', rfl⟩ := ownsRow_form hrow
  have hrl := right_len hlen hrow.1
  clear hrow
  replace H := H.ext hb
  clear hb
  rcases hrl with ⟨hb, rfl⟩ | ⟨hb, hm⟩
  · have hr := right_of hb
    by_cases h1 : f < 0
    · have hA := Lib.hid (slR_err (pts := pts) (f := f) (d := d) (fun h => by have := h.2.1.1; omega))
      go_wp2
      exact bodyPost_ret (v := .tuple #[.slice none 0 0, .int .i64 2]) (by simp [results, Tryd.results17, go_sem]) rfl ⟨.slice none 0 0, by rw [hA.out], ⟨0, by rw [hA.out]; exact ownsRow_nil _ _ _ _⟩, H.below⟩
    · by_cases h2 : 4096 < f
      · have hA := Lib.hid (slR_err (pts := pts) (f := f) (d := d) (fun h => by have := h.2.1.2; omega))
        go_wp2
        exact bodyPost_ret (v := .tuple #[.slice none 0 0, .int .i64 2]) (by simp [results, Tryd.results17, go_sem]) rfl ⟨.slice none 0 0, by rw [hA.out], ⟨0, by rw [hA.out]; exact ownsRow_nil _ _ _ _⟩, H.below⟩
      · by_cases h3 : d < 0
        · have hA := Lib.hid (slR_err (pts := pts) (f := f) (d := d) (fun h => by have := h.2.2.1; omega))
          go_wp2
          exact bodyPost_ret (v := .tuple #[.slice none 0 0, .int .i64 2]) (by simp [results, Tryd.results17, go_sem]) rfl ⟨.slice none 0 0, by rw [hA.out], ⟨0, by rw [hA.out]; exact ownsRow_nil _ _ _ _⟩, H.below⟩
        · by_cases h4 : 4096 < d
          · have hA := Lib.hid (slR_err (pts := pts) (f := f) (d := d) (fun h => by have := h.2.2.2; omega))
            go_wp2
            exact bodyPost_ret (v := .tuple #[.slice none 0 0, .int .i64 2]) (by simp [results, Tryd.results17, go_sem]) rfl ⟨.slice none 0 0, by rw [hA.out], ⟨0, by rw [hA.out]; exact ownsRow_nil _ _ _ _⟩, H.below⟩
          · have h11 : 0 ≤ f := by omega
            have h12 : f ≤ 4096 := by omega
            have h21 : 0 ≤ d := by omega
            have h22 : d ≤ 4096 := by omega
            have hS := Lib.hid (show slR pts f d = if 16 < (slow pts f d).length then ([], 4) else if (slow pts f d).any (fun p => decide (p.1 + 4096 < p.2)) then ([], 2) else (slow pts f d, 0) by unfold slR; rw [if_pos ⟨hb, ⟨h11, h12⟩, h21, h22⟩])
            replace hb := Lib.hid hb
            have hn16 := hr.most
            rw [hlen] at hn16
            replace hlen := Lib.hid hlen
            go_upto_region 5 with fail
            go_loopg [8, 9] n (fun g s8 s9 wr => ∃ k m : Nat, k ≤ n ∧ g = n - k ∧ m ≤ k ∧ s9 = .int .i64 k ∧ St w wr [] [rowR w.heap.size 38 2 s8 m (flat (F1 pts f k))])
            case atStart => exact ⟨0, 0, by omega, by omega, by omega, rfl, H⟩
            case round =>
              clear H
              obtain ⟨k, m, hk, rfl, hm, rfl, H⟩ := hrel
              by_cases hkn : k < n
              · obtain ⟨p, hp⟩ : ∃ p, pts[k]? = some p := ⟨_, List.getElem?_eq_getElem (by have := hlen.out; omega)⟩
                obtain ⟨a1, a2, a3, a4⟩ := hr.a _ _ hp
                obtain ⟨b, off, rfl, hlt, c1, c2⟩ := hR k p hp
                replace hp := Lib.hid hp
                have hkn' : (k : Int) < n := by omega
                try clear hcs
                try clear hargs
                try simp only [List.set_cons_zero, List.set_cons_succ, World.size_alloc, World.size_setCell, World.size_drew] at H
                have hcs := H.cells
                dsimp only [cellsOf, neAll] at hcs
                try clear hargs
                have hargs := H.args
                by_cases hpf : p.1 < f - 1
                · have e1 := Lib.hid (F1_yes hp.out hpf)
                  go_upto_region 8 with fail
                  go_wp2_with (at_builtin; refine wpList_appendNew_St rfl _ _ _ rfl H i0 _ 16 Tryd.underlying22 hi0 hz0 hz1 hz2 rfl (by omega) rfl 1 1 [.int .i64 (p.1), .int .i64 (p.2)] _ rfl rfl (by simp [Value.oneCell']) (by unfold maxLen; omega) (by omega) H.below.size ?_; intro v1 W1 H1)
                  rw [flat_snoc] at H1
                  go_roundg (n - (k + 1))
                  case measure => omega
                  case rel => exact ⟨k + 1, m + 1, by omega, rfl, by omega, by go_num, by rw [e1.out]; exact H1⟩
                · have e1 := Lib.hid (F1_no hp.out hpf)
                  go_wp2_with fail
                  go_roundg (n - (k + 1))
                  case measure => omega
                  case rel => exact ⟨k + 1, m, by omega, rfl, by omega, by go_num, by rw [e1.out]; exact H⟩
              · obtain rfl : k = n := by omega
                try clear hcs
                try clear hargs
                try simp only [List.set_cons_zero, List.set_cons_succ, World.size_alloc, World.size_setCell, World.size_drew] at H
                have hcs := H.cells
                dsimp only [cellsOf, neAll] at hcs
                try clear hargs
                have hargs := H.args
                go_upto_if 53 with fail
                go_cut [8] (fun s8 wx => ∃ m', m' ≤ k + 1 ∧ St w wx [] [rowR w.heap.size 38 2 s8 m' (flat (F1 pts f k ++ mid pts f))])
                case first =>
                  by_cases hf0 : 0 < f
                  · have hmid : mid pts f = [(f - 1, arrV pts (f - 1))] := by unfold mid; rw [if_pos hf0]
                    replace hmid := Lib.hid hmid
                    have hA := Lib.hid (ArrR_in hb.out (t := f - 1) (by omega) (by omega))
                    go_wp2_with fail
                    apply st_calls
                    case H => repeat (first | with_reducible exact H | with_reducible apply St.alloc | with_reducible apply St.allocAny | with_reducible apply St.set | with_reducible apply St.drew | with_reducible apply St.over | with_reducible exact get0 | with_reducible exact get1 | with_reducible exact get2 | with_reducible exact get3 | with_reducible exact get4 | with_reducible exact get5 | with_reducible exact get6 | with_reducible exact get7 | simp only [List.set_cons_zero, List.set_cons_succ])
                    clear H
                    try clear hcs
                    try clear hargs
                    intro W H
                    try simp only [List.set_cons_zero, List.set_cons_succ, World.size_alloc, World.size_setCell, World.size_drew] at H
                    have hcs := H.cells
                    dsimp only [cellsOf, neAll] at hcs
                    try clear hargs
                    have hargs := H.args
                    refine (refArrive_any A k c pts hlen.out (by omega) (f - 1) ⟨by omega, by omega⟩ _ (hR.ext H.below) hP).mono ?_
                    rintro e w1 ⟨rfl, hb⟩
                    replace H := H.ext hb
                    clear hb
                    try clear hcs
                    try clear hargs
                    try simp only [List.set_cons_zero, List.set_cons_succ, World.size_alloc, World.size_setCell, World.size_drew] at H
                    have hcs := H.cells
                    dsimp only [cellsOf, neAll] at hcs
                    try clear hargs
                    have hargs := H.args
                    rw [hA.out]
                    go_wp2_with (at_builtin; refine wpList_appendNew_St rfl _ _ _ rfl H i0 _ 16 Tryd.underlying22 hi0 hz0 hz1 hz2 rfl (by omega) rfl 1 1 [.int .i64 (f - 1), .int .i64 (arrV pts (f - 1))] _ rfl rfl (by simp [Value.oneCell']) (by unfold maxLen; omega) (by omega) H.below.size ?_; intro v1 W1 H1)
                    go_meet
                    refine ⟨m + 1, by omega, ?_⟩
                    rw [hmid.out, flat_append, flat_one]
                    exact H1
                  · have hmid : mid pts f = [] := by unfold mid; rw [if_neg hf0]
                    replace hmid := Lib.hid hmid
                    go_wp2_with fail
                    go_meet
                    refine ⟨m, by omega, ?_⟩
                    rw [hmid.out, List.append_nil]
                    exact H
                case rest =>
                  clear H
                  obtain ⟨m1, hm1, H⟩ := hcut
                  have hA := Lib.hid (ArrR_in hb.out (t := f) (by omega) (by omega))
                  go_wp2_with fail
                  apply st_calls
                  case H => repeat (first | with_reducible exact H | with_reducible apply St.alloc | with_reducible apply St.allocAny | with_reducible apply St.set | with_reducible apply St.drew | with_reducible apply St.over | with_reducible exact get0 | with_reducible exact get1 | with_reducible exact get2 | with_reducible exact get3 | with_reducible exact get4 | with_reducible exact get5 | with_reducible exact get6 | with_reducible exact get7 | simp only [List.set_cons_zero, List.set_cons_succ])
                  clear H
                  try clear hcs
                  try clear hargs
                  intro W H
                  try simp only [List.set_cons_zero, List.set_cons_succ, World.size_alloc, World.size_setCell, World.size_drew] at H
                  have hcs := H.cells
                  dsimp only [cellsOf, neAll] at hcs
                  try clear hargs
                  have hargs := H.args
                  refine (refArrive_any A k c pts hlen.out (by omega) f ⟨by omega, by omega⟩ _ (hR.ext H.below) hP).mono ?_
                  rintro e w1 ⟨rfl, hb⟩
                  replace H := H.ext hb
                  clear hb
                  try clear hcs
                  try clear hargs
                  try simp only [List.set_cons_zero, List.set_cons_succ, World.size_alloc, World.size_setCell, World.size_drew] at H
                  have hcs := H.cells
                  dsimp only [cellsOf, neAll] at hcs
                  try clear hargs
                  have hargs := H.args
                  rw [hA.out]
                  have hle := arrV_le hr (t := f) (by omega)
                  have hge := arrV_ge hr f
                  have x1 : IntKind.i64.wrap (arrV pts f + d) = arrV pts f + d := IntWalk.i64_in _ (by omega)
                  go_upto_region 13 with (at_builtin; refine wpList_appendNew_St rfl _ _ _ rfl H i0 _ 16 Tryd.underlying22 hi0 hz0 hz1 hz2 rfl (by omega) rfl 1 1 [.int .i64 (f), .int .i64 (arrV pts f + d)] _ rfl rfl (by simp [Value.oneCell']) (by unfold maxLen; omega) (by omega) H.below.size ?_; intro v1 W1 H1)
                  clear H
                  have H := H1
                  clear H1
                  rw [flat_snoc2] at H
                  go_loopg [8, 10] k (fun g s8 s10 wr => ∃ j m : Nat, j ≤ k ∧ g = k - j ∧ m ≤ k + 2 + j ∧ s10 = .int .i64 j ∧ St w wr [] [rowR w.heap.size 38 2 s8 m (flat (F1 pts f k ++ mid pts f ++ [(f, arrV pts f + d)] ++ F2 pts f d j))])
                  case atStart => exact ⟨0, m1 + 1, by omega, by omega, by omega, rfl, by rw [F2_zero, List.append_nil]; exact H⟩
                  case round =>
                    clear H
                    obtain ⟨j, m2, hj, rfl, hm2, rfl, H⟩ := hrel
                    by_cases hjk : j < k
                    · obtain ⟨p, hp⟩ : ∃ p, pts[j]? = some p := ⟨_, List.getElem?_eq_getElem (by have := hlen.out; omega)⟩
                      obtain ⟨a1, a2, a3, a4⟩ := hr.a _ _ hp
                      obtain ⟨b, off, rfl, hlt, c1, c2⟩ := hR j p hp
                      replace hp := Lib.hid hp
                      have hjk' : (j : Int) < k := by omega
                      have hj0 : 0 ≤ (j : Int) := by omega
                      have x3 : IntKind.i64.wrap (p.2 + d) = p.2 + d := IntWalk.i64_in _ (by omega)
                      try clear hcs
                      try clear hargs
                      try simp only [List.set_cons_zero, List.set_cons_succ, World.size_alloc, World.size_setCell, World.size_drew] at H
                      have hcs := H.cells
                      dsimp only [cellsOf, neAll] at hcs
                      try clear hargs
                      have hargs := H.args
                      by_cases hpf : f < p.1
                      · have e1 := Lib.hid (F2_yes (d := d) hp.out hpf)
                        go_upto_region 16 with fail
                        apply st_wp
                        case H => repeat (first | with_reducible exact H | with_reducible apply St.alloc | with_reducible apply St.allocAny | with_reducible apply St.set | with_reducible apply St.drew | with_reducible apply St.over | with_reducible exact get0 | with_reducible exact get1 | with_reducible exact get2 | with_reducible exact get3 | with_reducible exact get4 | with_reducible exact get5 | with_reducible exact get6 | with_reducible exact get7 | simp only [List.set_cons_zero, List.set_cons_succ])
                        clear H
                        try clear hcs
                        try clear hargs
                        intro W H
                        try simp only [List.set_cons_zero, List.set_cons_succ, World.size_alloc, World.size_setCell, World.size_drew] at H
                        have hcs := H.cells
                        dsimp only [cellsOf, neAll] at hcs
                        try clear hargs
                        have hargs := H.args
                        refine wp_region_mix 15 (by kernel_rfl) (by kernel_rfl) ?_
                        (refine mix_step 0 rfl (by kernel_rfl) (fun K hK => ?_); go_simp; refine hK _ ?_; clear hK K)
                        (refine mix_step 1 rfl (by kernel_rfl) (fun K hK => ?_); go_simp; refine hK _ ?_; clear hK K)
                        (refine mix_step 2 rfl (by kernel_rfl) (fun K hK => ?_); go_simp; refine hK _ ?_; clear hK K)
                        (refine mix_step 3 rfl (by kernel_rfl) (fun K hK => ?_); go_simp; refine hK _ ?_; clear hK K)
                        (refine mix_step 4 rfl (by kernel_rfl) (fun K hK => ?_); go_simp; refine hK _ ?_; clear hK K)
                        (refine mix_step 5 rfl (by kernel_rfl) (fun K hK => ?_); go_simp; refine hK _ ?_; clear hK K)
                        (refine mix_step 6 rfl (by kernel_rfl) (fun K hK => ?_); go_simp; refine hK _ ?_; clear hK K)
                        (refine mix_step 7 rfl (by kernel_rfl) (fun K hK => ?_); go_simp; refine hK _ ?_; clear hK K)
                        (refine mix_step 8 rfl (by kernel_rfl) (fun K hK => ?_); go_simp; refine hK _ ?_; clear hK K)
                        (refine mix_step 9 rfl (by kernel_rfl) (fun K hK => ?_); go_simp; refine hK _ ?_; clear hK K)
                        (refine mix_step 10 rfl (by kernel_rfl) (fun K hK => ?_); go_simp; refine hK _ ?_; clear hK K)
                        (refine mix_step 11 rfl (by kernel_rfl) (fun K hK => ?_); go_simp; refine hK _ ?_; clear hK K)
                        (refine mix_step 12 rfl (by kernel_rfl) (fun K hK => ?_); go_simp; refine hK _ ?_; clear hK K)
                        (refine mix_step 13 rfl (by kernel_rfl) (fun K hK => ?_); go_simp; refine hK _ ?_; clear hK K)
                        refine mix_one' 14 rfl (by kernel_rfl) (fun W1 K hb hK => ?_)
                        go_simp
                        refine hK _ _ ((Below.refl _ _).alloc (Nat.le_refl _) _) ?_
                        clear hK K
                        replace H := H.ext hb
                        clear hb
                        apply st_mx
                        case H => repeat (first | with_reducible exact H | with_reducible apply St.alloc | with_reducible apply St.allocAny | with_reducible apply St.set | with_reducible apply St.drew | with_reducible apply St.over | with_reducible exact get0 | with_reducible exact get1 | with_reducible exact get2 | with_reducible exact get3 | with_reducible exact get4 | with_reducible exact get5 | with_reducible exact get6 | with_reducible exact get7 | simp only [List.set_cons_zero, List.set_cons_succ])
                        clear H
                        try clear hcs
                        try clear hargs
                        intro W H
                        try simp only [List.set_cons_zero, List.set_cons_succ, World.size_alloc, World.size_setCell, World.size_drew] at H
                        have hcs := H.cells
                        dsimp only [cellsOf, neAll] at hcs
                        try clear hargs
                        have hargs := H.args
                        refine mix_end' (by kernel_rfl) (fun W1 hb => ?_)
                        replace H := H.ext hb
                        clear hb
                        try clear hcs
                        try clear hargs
                        try simp only [List.set_cons_zero, List.set_cons_succ, World.size_alloc, World.size_setCell, World.size_drew] at H
                        have hcs := H.cells
                        dsimp only [cellsOf, neAll] at hcs
                        try clear hargs
                        have hargs := H.args
                        simp only [List.drop_succ_cons, List.drop_zero]
                        go_wp2_with (at_builtin; refine wpList_append_St rfl _ _ _ rfl H i0 _ 16 Tryd.underlying22 hi0 hz0 hz1 hz2 rfl (by omega) rfl _ 1 1 [.int .i64 p.1, .int .i64 (p.2 + d)] rfl rfl (news_of_blk H) (by simp [Value.oneCell']) (by unfold maxLen; omega) (by omega) H.below.size ?_; intro v1 W2 H1)
                        rw [flat_snoc2] at H1
                        go_roundg (k - (j + 1))
                        case measure => omega
                        case rel => exact ⟨j + 1, m2 + 1, by omega, rfl, by omega, by go_num, by rw [e1.out, ← List.append_assoc]; exact H1.dropB⟩
                      · have e1 := Lib.hid (F2_no (d := d) hp.out hpf)
                        go_wp2_with fail
                        go_roundg (k - (j + 1))
                        case measure => omega
                        case rel => exact ⟨j + 1, m2, by omega, rfl, by omega, by go_num, by rw [e1.out]; exact H⟩
                    · obtain rfl : j = k := by omega
                      have eL : F1 pts f j ++ mid pts f ++ [(f, arrV pts f + d)] ++ F2 pts f d j = slow pts f d := by unfold slow; rw [hlen.out]
                      rw [eL] at H
                      clear eL
                      have hml := Lib.hid (row_len H.row)
                      obtain ⟨A2, c2, rfl⟩ := ownsRow_form H.row
                      try clear hcs
                      try clear hargs
                      try simp only [List.set_cons_zero, List.set_cons_succ, World.size_alloc, World.size_setCell, World.size_drew] at H
                      have hcs := H.cells
                      dsimp only [cellsOf, neAll] at hcs
                      try clear hargs
                      have hargs := H.args
                      by_cases h16 : 16 < m2
                      · have h16' : (16 : Int) < m2 := by omega
                        have hS2 := Lib.hid (show slR pts f d = ([], 4) by rw [hS.out, hml.out, if_pos h16])
                        go_wp2
                        exact bodyPost_ret (v := .tuple #[.slice none 0 0, .int .i64 4]) (by simp [results, Tryd.results17, go_sem]) rfl ⟨.slice none 0 0, by rw [hS2.out], ⟨0, by rw [hS2.out]; exact ownsRow_nil _ _ _ _⟩, H.below⟩
                      · have hany := slR_right hr h11 h12 h21 h22 (by rw [hml.out]; omega)
                        replace hany := Lib.hid hany
                        have h16' : ¬ (16 : Int) < m2 := by omega
                        go_wp2_with fail
                        refine (refCheck_any A2 m2 c2 (slow pts f d) hml.out (by omega) _ (PR_row H.row) (slow_PB hr h11 h12 h21 h22)).mono ?_
                        rintro e w1 ⟨u, m3, rfl, hrow, hb'⟩
                        obtain ⟨A3, c3, rfl⟩ := ownsRow_form hrow
                        have hrl := right_len hml.out hrow.1
                        clear hrow
                        replace H := H.ext hb'
                        clear hb'
                        rcases hrl with ⟨hb3, rfl⟩ | ⟨hb3, hm3⟩
                        · have hS2 := Lib.hid (show slR pts f d = (slow pts f d, 0) by rw [hS.out, hml.out, if_neg h16, hany.out, hb3]; rfl)
                          replace hb3 := Lib.hid hb3
                          go_wp2
                          exact bodyPost_ret (v := .tuple #[.slice A2 m2 c2, .int .i64 0]) (by simp [results, Tryd.results17, go_sem]) rfl ⟨.slice A2 m2 c2, by rw [hS2.out], ⟨m2, by rw [hS2.out]; exact H.row⟩, H.below⟩
                        · have hS2 := Lib.hid (show slR pts f d = ([], 2) by rw [hS.out, hml.out, if_neg h16, hany.out, hb3]; rfl)
                          replace hb3 := Lib.hid hb3
                          have hm3' : (0 : Int) < m3 := by omega
                          go_wp2
                          exact bodyPost_ret (v := .tuple #[.slice none 0 0, .int .i64 2]) (by simp [results, Tryd.results17, go_sem]) rfl ⟨.slice none 0 0, by rw [hS2.out], ⟨0, by rw [hS2.out]; exact ownsRow_nil _ _ _ _⟩, H.below⟩
  · have hA := Lib.hid (slR_err (pts := pts) (f := f) (d := d) (by rw [hb]; exact fun h => absurd h.1 (by decide)))
    have hm' : (0 : Int) < m := by omega
    go_wp2
    exact bodyPost_ret (v := .tuple #[.slice none 0 0, .int .i64 2]) (by simp [results, Tryd.results17, go_sem]) rfl ⟨.slice none 0 0, by rw [hA.out], ⟨0, by rw [hA.out]; exact ownsRow_nil _ _ _ _⟩, H.below⟩
end Go.Proofs.YtdpgdbkacmmmjaaDoor
