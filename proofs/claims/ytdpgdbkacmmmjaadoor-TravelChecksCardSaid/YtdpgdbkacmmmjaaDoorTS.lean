/- Package lorrylaw07: rows of faults; the law TravelChecks: walk. -/
import Derived.Test.YtdpgdbkacmmmjaaDoorTP
namespace Go.Proofs.YtdpgdbkacmmmjaaDoor
open Go.RowKit

abbrev Ft := Int × ByteArray
def flatF (ps : List Ft) : List Value := ps.flatMap fun p => [.int .i64 p.1, .string p.2]
theorem flatF_len : ∀ ps : List Ft, (flatF ps).length = ps.length * 2
  | [] => rfl
  | p :: ps => by
    have := flatF_len ps
    unfold flatF at *
    rw [List.flatMap_cons, List.length_append, this]; simp; omega
theorem flatF_append (a b : List Ft) : flatF (a ++ b) = flatF a ++ flatF b := by unfold flatF; rw [List.flatMap_append]
theorem flatF_get : ∀ (ps : List Ft) (i : Nat) (p : Ft), ps[i]? = some p → (flatF ps)[i * 2]? = some (.int .i64 p.1) ∧ (flatF ps)[i * 2 + 1]? = some (.string p.2)
  | [], i, p, h => by simp at h
  | q :: ps, 0, p, h => by simp at h; subst h; exact ⟨rfl, rfl⟩
  | q :: ps, i + 1, p, h => by
    have h1 := flatF_get ps i p (by simpa using h)
    have e : flatF (q :: ps) = .int .i64 q.1 :: .string q.2 :: flatF ps := rfl
    rw [e, show (i + 1) * 2 = i * 2 + 1 + 1 by omega]
    simpa using h1
/-- v is a slice that reads as these faults, in w. -/
def FR (w : World) (A : Option Addr) (fs : List Ft) : Prop :=
  ∀ i p, fs[i]? = some p → ∃ b off, A = some ⟨b, off, none⟩ ∧ b < w.heap.size ∧ w.cell? ⟨b, off + i * 2, none⟩ = some (.int .i64 p.1) ∧ w.cell? ⟨b, off + i * 2 + 1, none⟩ = some (.string p.2)
theorem FR_row {w : World} {base n c : Nat} {e : TypeId} {A : Option Addr} {ps : List Ft} (h : w.ownsRow base e 2 (.slice A n c) n (flatF ps)) : FR w A ps := by
  have hl := h.1
  rw [flatF_len] at hl
  intro i p hp
  have hi : i < ps.length := (List.getElem?_eq_some_iff.1 hp).1
  rcases h.2 with ⟨_, hn⟩ | ⟨g, cap, cur, hv, _, hg, _⟩
  · omega
  · obtain ⟨rfl, rfl⟩ : A = some ⟨g, 0, none⟩ ∧ c = cap := by cases hv; exact ⟨rfl, rfl⟩
    obtain ⟨f1, f2⟩ := flatF_get ps i p hp
    refine ⟨g, 0, rfl, (Array.getElem?_eq_some_iff.1 hg).1, ?_, ?_⟩
    · rw [Nat.zero_add, h.cellAt _ (by omega)]; exact f1
    · rw [Nat.zero_add, h.cellAt _ (by omega)]; exact f2
theorem fl_isF (pts : List Pt) : ∀ k, ∃ l : List Ft, fl pts k = flatF l
  | 0 => by
    show ∃ l, fl0 pts.length = flatF l
    unfold fl0
    split
    · exact ⟨[(4, ⟨#[]⟩)], rfl⟩
    · exact ⟨[], rfl⟩
  | k + 1 => by
    obtain ⟨l, hl⟩ := fl_isF pts k
    show ∃ l, fl pts k ++ flA pts k ++ flB pts k = flatF l
    rw [hl]
    have hA : ∃ l, flA pts k = flatF l := by
      unfold flA; split
      · exact ⟨[], rfl⟩
      · exact ⟨[(2, dec2 k)], rfl⟩
    have hB : ∃ l, flB pts k = flatF l := by
      unfold flB; split
      · exact ⟨[], rfl⟩
      · exact ⟨[(13, dec2 k)], rfl⟩
    obtain ⟨lA, hA⟩ := hA
    obtain ⟨lB, hB⟩ := hB
    exact ⟨l ++ lA ++ lB, by rw [hA, hB, flatF_append, flatF_append]⟩

theorem fl_len (pts : List Pt) : ∀ k, (fl pts k).length ≤ 2 + 4 * k
  | 0 => by
    show (fl0 pts.length).length ≤ _
    unfold fl0; split <;> simp
  | k + 1 => by
    have h := fl_len pts k
    show (fl pts k ++ flA pts k ++ flB pts k).length ≤ _
    rw [List.length_append, List.length_append]
    have hA : (flA pts k).length ≤ 2 := by unfold flA; split <;> simp
    have hB : (flB pts k).length ≤ 2 := by unfold flB; split <;> simp
    omega

set_option maxRecDepth 100000 in
set_option maxHeartbeats 1000000 in
theorem checks_true (A : Option Addr) (n c : Nat) (pts : List Pt) (hlen : pts.length = n) (w : World) (hR : PR w A pts) (hP : PB pts) :
    Calls Tryd.prog 3 #[.slice A n c] w fun e w' => e = .returned (.bool true) ∧ Below w.heap.size w w' := by
  have H := St.start w
  go_enter Tryd.func3, Tryd.ntmps3
  by_cases hn : 40 < n
  · have hn' : (40 : Int) < n := by omega
    go_wp2_with fail
    apply st_calls
    case H => repeat (first | with_reducible exact H | with_reducible apply St.alloc | with_reducible apply St.allocAny | with_reducible apply St.set | with_reducible apply St.drew | with_reducible apply St.over | with_reducible exact get0 | with_reducible exact get1 | with_reducible exact get2 | with_reducible exact get3 | with_reducible exact get4 | with_reducible exact get5 | with_reducible exact get6 | with_reducible exact get7 | simp only [List.set_cons_zero, List.set_cons_succ])
    clear H
    try clear hcs
    try clear hargs
    intro W H
    try simp only [List.set_cons_zero, List.set_cons_succ, World.size_alloc, World.size_setCell, World.size_drew] at H
    have hcs := H.cells
    dsimp only [cellsOf, neAll] at hcs
    try clear hargs
    have hargs := H.args
    refine (awake_any _).mono ?_
    rintro e w1 ⟨rfl, hb⟩
    replace H := H.ext hb
    clear hb
    try clear hcs
    try clear hargs
    try simp only [List.set_cons_zero, List.set_cons_succ, World.size_alloc, World.size_setCell, World.size_drew] at H
    have hcs := H.cells
    dsimp only [cellsOf, neAll] at hcs
    try clear hargs
    have hargs := H.args
    go_wp2
    go_ret
    exact ⟨rfl, H.below⟩
  · have hn' : ¬ (40 : Int) < n := by omega
    obtain ⟨L, hL⟩ := fl_isF pts n
    go_wp2_with fail
    refine (check_any A n c pts hlen (by omega) _ hR hP).mono ?_
    rintro e w1 ⟨u, m, rfl, hrow, hb⟩
    obtain ⟨A1, c1, rfl⟩ := ownsRow_form hrow
    rw [hL] at hrow
    have l1 : L.length = m := by have := hrow.1; rw [flatF_len] at this; omega
    have l1b : L.length ≤ 81 := by
      have h1 := fl_len pts n
      rw [hL, flatF_len] at h1
      omega
    replace H := H.addRow hb hrow
    clear hrow hb
    go_wp2_with fail
    refine (refCheck_any A n c pts hlen (by omega) _ (hR.ext H.below) hP).mono ?_
    rintro e w2 ⟨u, m', rfl, hrow, hb⟩
    obtain ⟨A2, c2, rfl⟩ := ownsRow_form hrow
    rw [hL] at hrow
    have l2 : L.length = m' := by have := hrow.1; rw [flatF_len] at this; omega
    obtain rfl : m = m' := l1.symm.trans l2
    clear l2
    replace H := H.addRow hb hrow
    clear hrow hb hL
    have hm : m ≤ 1000 := by omega
    replace l1 := Lib.hid l1
    clear l1b
    have F1 := FR_row H.swap.row
    have F2 := FR_row H.row
    have hB := H.below
    clear H
    have H := St.start w2
    go_wp2_with fail
    go_loopg [5] m (fun g s5 wr => ∃ k : Nat, k ≤ m ∧ g = m - k ∧ s5 = .int .i64 k ∧ St w2 wr [] [])
    case atStart => exact ⟨0, by omega, by omega, rfl, H⟩
    case round =>
      clear H
      obtain ⟨k, hk, rfl, rfl, H⟩ := hrel
      try clear hcs
      try clear hargs
      try simp only [List.set_cons_zero, List.set_cons_succ, World.size_alloc, World.size_setCell, World.size_drew] at H
      have hcs := H.cells
      dsimp only [cellsOf, neAll] at hcs
      try clear hargs
      have hargs := H.args
      by_cases hkm : k < m
      · have hkm' : (k : Int) < m := by omega
        have hk0 : 0 ≤ (k : Int) := by omega
        obtain ⟨⟨x, y⟩, hp⟩ : ∃ p, L[k]? = some p := ⟨_, List.getElem?_eq_getElem (by have := l1.out; omega)⟩
        obtain ⟨b, off, rfl, hb, c1, c2⟩ := F1 _ _ hp
        obtain ⟨b', off', rfl, hb', c3, c4⟩ := F2 _ _ hp
        dsimp only at c1 c2 c3 c4
        clear hp
        try clear hcs
        try clear hargs
        try simp only [List.set_cons_zero, List.set_cons_succ, World.size_alloc, World.size_setCell, World.size_drew] at H
        have hcs := H.cells
        dsimp only [cellsOf, neAll] at hcs
        try clear hargs
        have hargs := H.args
        go_upto_region 10 with fail
        refine wp_region_mix 9 (by kernel_rfl) (by kernel_rfl) ?_
        (refine mix_step 0 rfl (by kernel_rfl) (fun K hK => ?_); go_simp; refine hK _ ?_; clear hK K)
        (refine mix_step 1 rfl (by kernel_rfl) (fun K hK => ?_); go_simp; refine hK _ ?_; clear hK K)
        (refine mix_step 2 rfl (by kernel_rfl) (fun K hK => ?_); go_simp; refine hK _ ?_; clear hK K)
        (refine mix_step 3 rfl (by kernel_rfl) (fun K hK => ?_); go_simp; refine hK _ ?_; clear hK K)
        (refine mix_step 4 rfl (by kernel_rfl) (fun K hK => ?_); go_simp; refine hK _ ?_; clear hK K)
        (refine mix_step 5 rfl (by kernel_rfl) (fun K hK => ?_); go_simp; refine hK _ ?_; clear hK K)
        (refine mix_step 6 rfl (by kernel_rfl) (fun K hK => ?_); go_simp; refine hK _ ?_; clear hK K)
        (refine mix_step 7 rfl (by kernel_rfl) (fun K hK => ?_); go_simp; refine hK _ ?_; clear hK K)
        (refine mix_step 8 rfl (by kernel_rfl) (fun K hK => ?_); go_simp; refine hK _ ?_; clear hK K)
        refine mix_end' (by kernel_rfl) (fun W1 hb => ?_)
        replace H := H.ext hb
        clear hb
        try clear hcs
        try clear hargs
        try simp only [List.set_cons_zero, List.set_cons_succ, World.size_alloc, World.size_setCell, World.size_drew] at H
        have hcs := H.cells
        dsimp only [cellsOf, neAll] at hcs
        try clear hargs
        have hargs := H.args
        simp only [List.drop_succ_cons, List.drop_zero]
        go_wp2_with fail
        go_roundg (m - (k + 1))
        case measure => omega
        case rel => exact ⟨k + 1, by omega, rfl, by go_num, H⟩
      · obtain rfl : k = m := by omega
        go_wp2_with fail
        apply st_calls
        case H => repeat (first | with_reducible exact H | with_reducible apply St.alloc | with_reducible apply St.allocAny | with_reducible apply St.set | with_reducible apply St.drew | with_reducible apply St.over | with_reducible exact get0 | with_reducible exact get1 | with_reducible exact get2 | with_reducible exact get3 | with_reducible exact get4 | with_reducible exact get5 | with_reducible exact get6 | with_reducible exact get7 | simp only [List.set_cons_zero, List.set_cons_succ])
        clear H
        try clear hcs
        try clear hargs
        intro W H
        try simp only [List.set_cons_zero, List.set_cons_succ, World.size_alloc, World.size_setCell, World.size_drew] at H
        have hcs := H.cells
        dsimp only [cellsOf, neAll] at hcs
        try clear hargs
        have hargs := H.args
        refine (awake_any _).mono ?_
        rintro e w1 ⟨rfl, hb⟩
        replace H := H.ext hb
        clear hb
        try clear hcs
        try clear hargs
        try simp only [List.set_cons_zero, List.set_cons_succ, World.size_alloc, World.size_setCell, World.size_drew] at H
        have hcs := H.cells
        dsimp only [cellsOf, neAll] at hcs
        try clear hargs
        have hargs := H.args
        go_wp2
        go_ret
        exact ⟨rfl, B_below hB H.below⟩
end Go.Proofs.YtdpgdbkacmmmjaaDoor
