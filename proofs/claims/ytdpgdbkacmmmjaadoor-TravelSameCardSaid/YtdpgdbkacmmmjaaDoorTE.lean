/- Package travel: the binary search, the arrival: walks. -/
import Derived.Test.YtdpgdbkacmmmjaaDoorTD
import Derived.Laws.BitsAllLaws
namespace Go.Proofs.YtdpgdbkacmmmjaaDoor
open Go.RowKit

def foundB (pts : List Pt) (t : Int) (i : Nat) : Bool := match pts[i]? with
  | some p => decide (p.1 = t)
  | none => false

set_option maxRecDepth 100000 in
set_option maxHeartbeats 1000000 in
theorem search_any (A : Option Addr) (n c : Nat) (pts : List Pt) (hlen : pts.length = n) (hr : Right pts) (t : Int) (ht : 0 ≤ t) (ht' : t ≤ 1073741825) (w : World) (hR : PR w A pts) :
    Calls Tryd.prog 27 #[.slice A n c, .int .i64 t, .func (.func 28) #[] #[]] w fun e w' =>
      ∃ i : Nat, i ≤ n ∧ (∀ (k : Nat) (p : Pt), k < i → pts[k]? = some p → p.1 < t) ∧ (∀ (k : Nat) (p : Pt), i ≤ k → pts[k]? = some p → t ≤ p.1) ∧
        e = .returned (.tuple #[.int .i64 i, .bool (foundB pts t i)]) ∧ Below w.heap.size w w' := by
  have hn := hr.most
  rw [hlen] at hn
  have H := St.start w
  have hlen := Lib.hid hlen
  go_enter Tryd.func27, Tryd.ntmps27
  go_wp2_with fail
  go_loopg [9, 10] n (fun g s9 s10 wr => ∃ i j : Nat, i ≤ j ∧ j ≤ n ∧ g = j - i ∧ s9 = .int .i64 i ∧ s10 = .int .i64 j ∧ (∀ (k : Nat) (p : Pt), k < i → pts[k]? = some p → p.1 < t) ∧ (∀ (k : Nat) (p : Pt), j ≤ k → pts[k]? = some p → t ≤ p.1) ∧ St w wr [] [])
  case atStart => exact ⟨0, n, by omega, Nat.le_refl _, rfl, rfl, rfl, fun k p hk => absurd hk (by omega), fun k p hk hp => absurd (List.getElem?_eq_some_iff.1 hp).1 (by have := hlen.out; omega), H⟩
  case round =>
    clear H
    obtain ⟨i, j, hij, hjn, rfl, rfl, rfl, h1, h2, H⟩ := hrel
    have h1 := Lib.hid h1
    have h2 := Lib.hid h2
    try clear hcs
    try clear hargs
    try simp only [List.set_cons_zero, List.set_cons_succ, World.size_alloc, World.size_setCell, World.size_drew] at H
    have hcs := H.cells
    dsimp only [cellsOf, neAll] at hcs
    try clear hargs
    have hargs := H.args
    by_cases hlt : i < j
    · have hlt' : (i : Int) < j := by omega
      obtain ⟨p, hp⟩ : ∃ p, pts[(i + j) / 2]? = some p := ⟨_, List.getElem?_eq_getElem (by have := hlen.out; omega)⟩
      obtain ⟨b, off, rfl, hb, c1, c2⟩ := hR _ p hp
      obtain ⟨a1, a2, a3, a4⟩ := hr.a _ _ hp
      go_wp2_with fail
      apply st_calls
      case H => repeat (first | with_reducible exact H | with_reducible apply St.alloc | with_reducible apply St.allocAny | with_reducible apply St.set | with_reducible apply St.drew | with_reducible apply St.over | with_reducible exact get0 | with_reducible exact get1 | with_reducible exact get2 | with_reducible exact get3 | with_reducible exact get4 | with_reducible exact get5 | with_reducible exact get6 | with_reducible exact get7 | simp only [List.set_cons_zero, List.set_cons_succ])
      clear H
      try clear hcs
      try clear hargs
      intro W H
      try simp only [List.set_cons_zero, List.set_cons_succ, World.size_alloc, World.size_setCell, World.size_drew] at H
      have hcs := H.cells
      dsimp only [cellsOf, neAll] at hcs
      try clear hargs
      have hargs := H.args
      refine (closure_any p t ⟨by omega, by omega⟩ ht ht' a1 _).mono ?_
      rintro e w1 ⟨rfl, hb⟩
      replace H := H.ext hb
      clear hb
      try clear hcs
      try clear hargs
      try simp only [List.set_cons_zero, List.set_cons_succ, World.size_alloc, World.size_setCell, World.size_drew] at H
      have hcs := H.cells
      dsimp only [cellsOf, neAll] at hcs
      try clear hargs
      have hargs := H.args
      by_cases hpt : p.1 < t
      · go_wp2
        go_roundg (j - ((i + j) / 2 + 1))
        case measure => omega
        case rel =>
          refine ⟨(i + j) / 2 + 1, j, by omega, hjn, rfl, by go_num, rfl, fun k p' hk hp' => ?_, h2.out, H⟩
          rcases Nat.lt_or_ge k ((i + j) / 2) with hk' | hk'
          · have := mono_T' hr hk' hp' hp; omega
          · obtain rfl : k = (i + j) / 2 := by omega
            rw [hp] at hp'; cases hp'; exact hpt
      · go_wp2
        go_roundg ((i + j) / 2 - i)
        case measure => omega
        case rel =>
          refine ⟨i, (i + j) / 2, by omega, by omega, rfl, rfl, by go_num, h1.out, fun k p' hk hp' => ?_, H⟩
          rcases Nat.lt_or_ge ((i + j) / 2) k with hk' | hk'
          · have := mono_T' hr hk' hp hp'; omega
          · obtain rfl : k = (i + j) / 2 := by omega
            rw [hp] at hp'; cases hp'; omega
    · obtain rfl : i = j := by omega
      by_cases hin : i < n
      · obtain ⟨p, hp⟩ : ∃ p, pts[i]? = some p := ⟨_, List.getElem?_eq_getElem (by have := hlen.out; omega)⟩
        obtain ⟨b, off, rfl, hb, c1, c2⟩ := hR _ p hp
        obtain ⟨a1, a2, a3, a4⟩ := hr.a _ _ hp
        have hf : foundB pts t i = (p.1 - t == 0) := by
          unfold foundB; simp only [hp]
          by_cases h : p.1 = t
          · subst h; simp
          · rw [show decide (p.1 = t) = false from decide_eq_false h]; symm; rw [beq_eq_false_iff_ne]; omega
        have hf := Lib.hid hf
        go_wp2_with fail
        apply st_calls
        case H => repeat (first | with_reducible exact H | with_reducible apply St.alloc | with_reducible apply St.allocAny | with_reducible apply St.set | with_reducible apply St.drew | with_reducible apply St.over | with_reducible exact get0 | with_reducible exact get1 | with_reducible exact get2 | with_reducible exact get3 | with_reducible exact get4 | with_reducible exact get5 | with_reducible exact get6 | with_reducible exact get7 | simp only [List.set_cons_zero, List.set_cons_succ])
        clear H
        try clear hcs
        try clear hargs
        intro W H
        try simp only [List.set_cons_zero, List.set_cons_succ, World.size_alloc, World.size_setCell, World.size_drew] at H
        have hcs := H.cells
        dsimp only [cellsOf, neAll] at hcs
        try clear hargs
        have hargs := H.args
        refine (closure_any p t ⟨by omega, by omega⟩ ht ht' a1 _).mono ?_
        rintro e w1 ⟨rfl, hb⟩
        replace H := H.ext hb
        clear hb
        try clear hcs
        try clear hargs
        try simp only [List.set_cons_zero, List.set_cons_succ, World.size_alloc, World.size_setCell, World.size_drew] at H
        have hcs := H.cells
        dsimp only [cellsOf, neAll] at hcs
        try clear hargs
        have hargs := H.args
        go_wp2
        exact bodyPost_ret (v := .tuple #[.int .i64 i, .bool (p.1 - t == 0)]) (by simp [results, Tryd.results27, go_sem]) rfl ⟨i, hjn, h1.out, h2.out, by rw [hf.out], H.below⟩
      · obtain rfl : i = n := by omega
        have hf : foundB pts t i = false := by
          unfold foundB; simp only [List.getElem?_eq_none (show pts.length ≤ i by have := hlen.out; omega)]
        have hf := Lib.hid hf
        go_wp2
        exact bodyPost_ret (v := .tuple #[.int .i64 i, .bool false]) (by simp [results, Tryd.results27, go_sem]) rfl ⟨i, hjn, h1.out, h2.out, by rw [hf.out], H.below⟩
end Go.Proofs.YtdpgdbkacmmmjaaDoor
