/- Package lorrylaw07: points, awake: walks. -/
import Derived.Test.YtdpgdbkacmmmjaaDoorTK
import Derived.Test.YtdpgdbkacmmmjaaDoorTM
namespace Go.Proofs.YtdpgdbkacmmmjaaDoor
open Go.RowKit

theorem PR_blk {w0 w : World} {σ : Sg} {ρ : List Rsrc} {g : Nat} {t : TypeId} {ps : List Pt} (H : St w0 w σ ρ) (k : Nat) (hk : σ[k]? = some (g, t, flat ps)) : PR w (some ⟨g, 0, none⟩) ps := by
  have hB := (H.blks _ (List.mem_of_getElem? hk)).1
  intro i p hp
  obtain ⟨f1, f2⟩ := flat_get ps i p hp
  refine ⟨g, 0, rfl, hB.lt, ?_, ?_⟩
  · rw [Nat.zero_add, hB.cell]; exact f1
  · rw [Nat.zero_add, hB.cell]; exact f2

set_option maxRecDepth 100000 in
set_option maxHeartbeats 1000000 in
theorem points_any (A B : Option Addr) (n m c c' : Nat) (ps qs : List Pt) (hlen : ps.length = n) (hlen' : qs.length = m) (hn : n ≤ 1000) (w : World) (hR : PR w A ps) (hR' : PR w B qs) :
    Calls Tryd.prog 18 #[.slice A n c, .slice B m c'] w fun e w' => e = .returned (.bool (decide (ps = qs))) ∧ Below w.heap.size w w' := by
  have H := St.start w
  go_enter Tryd.func18, Tryd.ntmps18
  by_cases hnm : n = m
  · subst hnm
    replace hlen := Lib.hid hlen
    replace hlen' := Lib.hid hlen'
    go_wp2_with fail
    go_loopg [5] n (fun g s5 wr => ∃ k : Nat, k ≤ n ∧ g = n - k ∧ s5 = .int .i64 k ∧ (∀ j : Nat, j < k → ps[j]? = qs[j]?) ∧ St w wr [] [])
    case atStart => exact ⟨0, by omega, by omega, rfl, fun j hj => absurd hj (by omega), H⟩
    case round =>
      clear H
      obtain ⟨k, hk, rfl, rfl, heq, H⟩ := hrel
      replace heq := Lib.hid heq
      try clear hcs
      try clear hargs
      try simp only [List.set_cons_zero, List.set_cons_succ, World.size_alloc, World.size_setCell, World.size_drew] at H
      have hcs := H.cells
      dsimp only [cellsOf, neAll] at hcs
      try clear hargs
      have hargs := H.args
      by_cases hkn : k < n
      · have hkn' : (k : Int) < n := by omega
        have hk0 : 0 ≤ (k : Int) := by omega
        obtain ⟨⟨x, y⟩, hp⟩ : ∃ p, ps[k]? = some p := ⟨_, List.getElem?_eq_getElem (by have := hlen.out; omega)⟩
        obtain ⟨⟨x', y'⟩, hq⟩ : ∃ q, qs[k]? = some q := ⟨_, List.getElem?_eq_getElem (by have := hlen'.out; omega)⟩
        obtain ⟨b, off, rfl, hb, c1, c2⟩ := hR _ _ hp
        obtain ⟨b', off', rfl, hb', c3, c4⟩ := hR' _ _ hq
        dsimp only at c1 c2 c3 c4
        try clear hcs
        try clear hargs
        try simp only [List.set_cons_zero, List.set_cons_succ, World.size_alloc, World.size_setCell, World.size_drew] at H
        have hcs := H.cells
        dsimp only [cellsOf, neAll] at hcs
        try clear hargs
        have hargs := H.args
        by_cases hx : x = x'
        · by_cases hy : y = y'
          · subst hx
            subst hy
            replace hp := Lib.hid hp
            replace hq := Lib.hid hq
            go_upto_region 6 with fail
            refine wp_region_mix 9 (by kernel_rfl) (by kernel_rfl) ?_
            (refine mix_step 0 rfl (by kernel_rfl) (fun K hK => ?_); go_simp; refine hK _ ?_; clear hK K)
            (refine mix_step 1 rfl (by kernel_rfl) (fun K hK => ?_); go_simp; refine hK _ ?_; clear hK K)
            (refine mix_step 2 rfl (by kernel_rfl) (fun K hK => ?_); go_simp; refine hK _ ?_; clear hK K)
            (refine mix_step 3 rfl (by kernel_rfl) (fun K hK => ?_); go_simp; refine hK _ ?_; clear hK K)
            (refine mix_step 4 rfl (by kernel_rfl) (fun K hK => ?_); go_simp; refine hK _ ?_; clear hK K)
            (refine mix_step 5 rfl (by kernel_rfl) (fun K hK => ?_); go_simp; refine hK _ ?_; clear hK K)
            (refine mix_step 6 rfl (by kernel_rfl) (fun K hK => ?_); go_simp; refine hK _ ?_; clear hK K)
            (refine mix_step 7 rfl (by kernel_rfl) (fun K hK => ?_); go_simp; refine hK _ ?_; clear hK K)
            (refine mix_step 8 rfl (by kernel_rfl) (fun K hK => ?_); go_simp; refine hK _ ?_; clear hK K)
            refine mix_end' (by kernel_rfl) (fun W1 hb => ?_)
            replace H := H.ext hb
            clear hb
            try clear hcs
            try clear hargs
            try simp only [List.set_cons_zero, List.set_cons_succ, World.size_alloc, World.size_setCell, World.size_drew] at H
            have hcs := H.cells
            dsimp only [cellsOf, neAll] at hcs
            try clear hargs
            have hargs := H.args
            simp only [List.drop_succ_cons, List.drop_zero]
            go_wp2_with fail
            go_roundg (n - (k + 1))
            case measure => omega
            case rel =>
              refine ⟨k + 1, by omega, rfl, by go_num, fun j hj => ?_, H⟩
              rcases Nat.lt_or_ge j k with h | h
              · exact heq.out j h
              · obtain rfl : j = k := by omega
                rw [hp.out, hq.out]
          · subst hx
            have hne : decide (ps = qs) = false := decide_eq_false (fun e => by subst e; rw [hp] at hq; injection hq with hq; injection hq with h1 h2; exact hy h2)
            replace hne := Lib.hid hne
            replace hp := Lib.hid hp
            replace hq := Lib.hid hq
            go_upto_region 6 with fail
            refine wp_region_mix 9 (by kernel_rfl) (by kernel_rfl) ?_
            (refine mix_step 0 rfl (by kernel_rfl) (fun K hK => ?_); go_simp; refine hK _ ?_; clear hK K)
            (refine mix_step 1 rfl (by kernel_rfl) (fun K hK => ?_); go_simp; refine hK _ ?_; clear hK K)
            (refine mix_step 2 rfl (by kernel_rfl) (fun K hK => ?_); go_simp; refine hK _ ?_; clear hK K)
            (refine mix_step 3 rfl (by kernel_rfl) (fun K hK => ?_); go_simp; refine hK _ ?_; clear hK K)
            (refine mix_step 4 rfl (by kernel_rfl) (fun K hK => ?_); go_simp; refine hK _ ?_; clear hK K)
            (refine mix_step 5 rfl (by kernel_rfl) (fun K hK => ?_); go_simp; refine hK _ ?_; clear hK K)
            (refine mix_step 6 rfl (by kernel_rfl) (fun K hK => ?_); go_simp; refine hK _ ?_; clear hK K)
            (refine mix_step 7 rfl (by kernel_rfl) (fun K hK => ?_); go_simp; refine hK _ ?_; clear hK K)
            (refine mix_step 8 rfl (by kernel_rfl) (fun K hK => ?_); go_simp; refine hK _ ?_; clear hK K)
            refine mix_end' (by kernel_rfl) (fun W1 hb => ?_)
            replace H := H.ext hb
            clear hb
            try clear hcs
            try clear hargs
            try simp only [List.set_cons_zero, List.set_cons_succ, World.size_alloc, World.size_setCell, World.size_drew] at H
            have hcs := H.cells
            dsimp only [cellsOf, neAll] at hcs
            try clear hargs
            have hargs := H.args
            simp only [List.drop_succ_cons, List.drop_zero]
            go_wp2
            go_ret
            exact ⟨by rw [hne.out]; rfl, H.below⟩
        · have hne : decide (ps = qs) = false := decide_eq_false (fun e => by subst e; rw [hp] at hq; injection hq with hq; injection hq with h1 h2; exact hx h1)
          replace hne := Lib.hid hne
          replace hp := Lib.hid hp
          replace hq := Lib.hid hq
          go_upto_region 6 with fail
          refine wp_region_mix 9 (by kernel_rfl) (by kernel_rfl) ?_
          (refine mix_step 0 rfl (by kernel_rfl) (fun K hK => ?_); go_simp; refine hK _ ?_; clear hK K)
          (refine mix_step 1 rfl (by kernel_rfl) (fun K hK => ?_); go_simp; refine hK _ ?_; clear hK K)
          (refine mix_step 2 rfl (by kernel_rfl) (fun K hK => ?_); go_simp; refine hK _ ?_; clear hK K)
          (refine mix_step 3 rfl (by kernel_rfl) (fun K hK => ?_); go_simp; refine hK _ ?_; clear hK K)
          (refine mix_step 4 rfl (by kernel_rfl) (fun K hK => ?_); go_simp; refine hK _ ?_; clear hK K)
          (refine mix_step 5 rfl (by kernel_rfl) (fun K hK => ?_); go_simp; refine hK _ ?_; clear hK K)
          (refine mix_step 6 rfl (by kernel_rfl) (fun K hK => ?_); go_simp; refine hK _ ?_; clear hK K)
          (refine mix_step 7 rfl (by kernel_rfl) (fun K hK => ?_); go_simp; refine hK _ ?_; clear hK K)
          (refine mix_step 8 rfl (by kernel_rfl) (fun K hK => ?_); go_simp; refine hK _ ?_; clear hK K)
          refine mix_end' (by kernel_rfl) (fun W1 hb => ?_)
          replace H := H.ext hb
          clear hb
          try clear hcs
          try clear hargs
          try simp only [List.set_cons_zero, List.set_cons_succ, World.size_alloc, World.size_setCell, World.size_drew] at H
          have hcs := H.cells
          dsimp only [cellsOf, neAll] at hcs
          try clear hargs
          have hargs := H.args
          simp only [List.drop_succ_cons, List.drop_zero]
          go_wp2
          go_ret
          exact ⟨by rw [hne.out]; rfl, H.below⟩
      · obtain rfl : k = n := by omega
        have hE : decide (ps = qs) = true := decide_eq_true (List.ext_getElem? fun j => by
          rcases Nat.lt_or_ge j k with h | h
          · exact heq.out j h
          · rw [List.getElem?_eq_none (by have := hlen.out; omega), List.getElem?_eq_none (by have := hlen'.out; omega)])
        replace hE := Lib.hid hE
        go_wp2
        go_ret
        exact ⟨by rw [hE.out]; rfl, H.below⟩
  · have hne : decide (ps = qs) = false := decide_eq_false (fun e => hnm (by rw [← hlen, ← hlen', e]))
    replace hne := Lib.hid hne
    have hnm' : ¬ (n : Int) = m := by omega
    clear hlen hlen'
    go_wp2
    go_ret
    exact ⟨by rw [hne.out]; rfl, H.below⟩
end Go.Proofs.YtdpgdbkacmmmjaaDoor
