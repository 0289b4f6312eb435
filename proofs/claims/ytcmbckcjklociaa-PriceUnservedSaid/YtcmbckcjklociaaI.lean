/- Unserved: walks. -/
import Derived.Test.YtcmbckcjklociaaG
import Derived.Test.YtcmbckcjklociaaOpensI
import Derived.Test.YtcmbckcjklociaaLoad
namespace Go.Proofs.Ytcmbckcjklociaa
open Go.RowKit

/-- What an order costs that is not served: cost, moved, error. -/
def unsV (os : List OrdD) (k : Int) : Int × Int × Int :=
  if k < 0 ∨ os.length ≤ k then (0, 0, 2) else match os[k.toNat]? with
    | none => (0, 0, 2)
    | some o => if o.off = true then (0, 0, 9) else if o.penalty = -1 then (0, 0, 23) else (o.penalty, if o.now = -1 then 0 else 1, 0)

set_option maxRecDepth 100000 in
set_option maxHeartbeats 1000000 in
theorem unserved_any (A : Option Addr) (n c : Nat) (os : List OrdD) (hlen : os.length = n) (hn : n ≤ 40) (k : Int) (hk1 : -9223372036854775808 ≤ k) (hk2 : k ≤ 9223372036854775807) (v0 v1 v2 v4 v5 : Value) (w : World) (hR : SlR rdOrd w A os) :
    Calls Try.prog 18 #[.agg #[v0, v1, v2, .slice A n c, v4, v5], .int .i64 k] w fun e w' => e = .returned (.tuple #[.agg #[.int .i64 ((unsV os k).1), .int .i64 ((unsV os k).2.1), .int .i64 (0), .int .i64 (0)], .int .i64 (unsV os k).2.2]) ∧ Below w.heap.size w w' := by
  have H := St.start w
  by_cases h1 : k < 0 ∨ n ≤ k
  · have hV : unsV os k = (0, 0, 2) := by unfold unsV; rw [if_pos (by rw [hlen]; exact h1)]
    replace hV := Lib.hid hV
    clear hlen
    go_enter Try.func18, Try.ntmps18
    by_cases h0 : k < 0
    · go_wp2
      refine bodyPost_ret (v := .tuple #[.agg #[.int .i64 (0), .int .i64 (0), .int .i64 (0), .int .i64 (0)], .int .i64 2]) (by simp [results, Try.results18, go_sem]) rfl ⟨by rw [hV.out], ?_⟩
      apply St.below'
      all_goals (repeat (first | with_reducible exact H | with_reducible apply St.alloc | with_reducible apply St.allocAny | with_reducible apply St.set | with_reducible apply St.drew | with_reducible apply St.over | with_reducible exact get0 | with_reducible exact get1 | with_reducible exact get2 | with_reducible exact get3 | with_reducible exact get4 | with_reducible exact get5 | with_reducible exact get6 | with_reducible exact get7 | simp only [List.set_cons_zero, List.set_cons_succ]))
    · have h2 : (n : Int) ≤ k := by omega
      go_wp2
      refine bodyPost_ret (v := .tuple #[.agg #[.int .i64 (0), .int .i64 (0), .int .i64 (0), .int .i64 (0)], .int .i64 2]) (by simp [results, Try.results18, go_sem]) rfl ⟨by rw [hV.out], ?_⟩
      apply St.below'
      all_goals (repeat (first | with_reducible exact H | with_reducible apply St.alloc | with_reducible apply St.allocAny | with_reducible apply St.set | with_reducible apply St.drew | with_reducible apply St.over | with_reducible exact get0 | with_reducible exact get1 | with_reducible exact get2 | with_reducible exact get3 | with_reducible exact get4 | with_reducible exact get5 | with_reducible exact get6 | with_reducible exact get7 | simp only [List.set_cons_zero, List.set_cons_succ]))
  · obtain ⟨j, rfl⟩ : ∃ j : Nat, k = j := ⟨k.toNat, by omega⟩
    have hj : j < n := by omega
    obtain ⟨o, ho⟩ : ∃ o, os[j]? = some o := ⟨_, List.getElem?_eq_getElem (by omega)⟩
    have hV : unsV os j = if o.off = true then (0, 0, 9) else if o.penalty = -1 then (0, 0, 23) else (o.penalty, if o.now = -1 then 0 else 1, 0) := by
      unfold unsV; rw [if_neg (by rw [hlen]; omega), Int.toNat_natCast, ho]
    replace hV := Lib.hid hV
    obtain ⟨b, off, cs, rfl, hb, hr, hc⟩ := hR j o ho
    obtain ⟨A1, c1, rfl, -, -, -⟩ := ord_cells hr
    rw [rdOrd_size] at hc
    clear hr ho hR hlen h1
    have hj' : (j : Int) < n := by omega
    have c0 : w.cell? ⟨b, off + j * 16, none⟩ = some (.string o.name) := hc 0 _ rfl
    have c1 : w.cell? ⟨b, off + j * 16 + 1, none⟩ = some _ := hc 1 _ rfl
    have c2 : w.cell? ⟨b, off + j * 16 + 2, none⟩ = some _ := hc 2 _ rfl
    have c3 : w.cell? ⟨b, off + j * 16 + 3, none⟩ = some _ := hc 3 _ rfl
    have c4 : w.cell? ⟨b, off + j * 16 + 4, none⟩ = some _ := hc 4 _ rfl
    have c5 : w.cell? ⟨b, off + j * 16 + 5, none⟩ = some _ := hc 5 _ rfl
    have c6 : w.cell? ⟨b, off + j * 16 + 6, none⟩ = some _ := hc 6 _ rfl
    have c7 : w.cell? ⟨b, off + j * 16 + 7, none⟩ = some _ := hc 7 _ rfl
    have c8 : w.cell? ⟨b, off + j * 16 + 8, none⟩ = some _ := hc 8 _ rfl
    have c9 : w.cell? ⟨b, off + j * 16 + 9, none⟩ = some _ := hc 9 _ rfl
    have c10 : w.cell? ⟨b, off + j * 16 + 10, none⟩ = some _ := hc 10 _ rfl
    have c11 : w.cell? ⟨b, off + j * 16 + 11, none⟩ = some _ := hc 11 _ rfl
    have c12 : w.cell? ⟨b, off + j * 16 + 12, none⟩ = some _ := hc 12 _ rfl
    have c13 : w.cell? ⟨b, off + j * 16 + 13, none⟩ = some _ := hc 13 _ rfl
    have c14 : w.cell? ⟨b, off + j * 16 + 14, none⟩ = some _ := hc 14 _ rfl
    have c15 : w.cell? ⟨b, off + j * 16 + 15, none⟩ = some _ := hc 15 _ rfl
    clear hc
    go_enter Try.func18, Try.ntmps18
    cases hoff : o.off
    · rw [hoff] at c15
      by_cases hp : o.penalty = -1
      · have hV2 : unsV os j = (0, 0, 23) := by rw [hV.out, if_neg (by rw [hoff]; decide), if_pos hp]
        replace hV2 := Lib.hid hV2
        rw [hp] at c11
        replace hoff := Lib.hid hoff
        replace hp := Lib.hid hp
        go_wp2
        refine bodyPost_ret (v := .tuple #[.agg #[.int .i64 (0), .int .i64 (0), .int .i64 (0), .int .i64 (0)], .int .i64 23]) (by simp [results, Try.results18, go_sem]) rfl ⟨by rw [hV2.out], ?_⟩
        apply St.below'
        all_goals (repeat (first | with_reducible exact H | with_reducible apply St.alloc | with_reducible apply St.allocAny | with_reducible apply St.set | with_reducible apply St.drew | with_reducible apply St.over | with_reducible exact get0 | with_reducible exact get1 | with_reducible exact get2 | with_reducible exact get3 | with_reducible exact get4 | with_reducible exact get5 | with_reducible exact get6 | with_reducible exact get7 | simp only [List.set_cons_zero, List.set_cons_succ]))
      · have hp' : (o.penalty == -1) = false := beq_eq_false_iff_ne.2 hp
        by_cases hnow : o.now = -1
        · have hV2 : unsV os j = (o.penalty, 0, 0) := by rw [hV.out, if_neg (by rw [hoff]; decide), if_neg hp, if_pos hnow]
          replace hV2 := Lib.hid hV2
          rw [hnow] at c14
          replace hoff := Lib.hid hoff
          replace hnow := Lib.hid hnow
          go_wp2
          refine bodyPost_ret (v := .tuple #[.agg #[.int .i64 (o.penalty), .int .i64 (0), .int .i64 (0), .int .i64 (0)], .int .i64 0]) (by simp [results, Try.results18, go_sem]) rfl ⟨by rw [hV2.out], ?_⟩
          apply St.below'
          all_goals (repeat (first | with_reducible exact H | with_reducible apply St.alloc | with_reducible apply St.allocAny | with_reducible apply St.set | with_reducible apply St.drew | with_reducible apply St.over | with_reducible exact get0 | with_reducible exact get1 | with_reducible exact get2 | with_reducible exact get3 | with_reducible exact get4 | with_reducible exact get5 | with_reducible exact get6 | with_reducible exact get7 | simp only [List.set_cons_zero, List.set_cons_succ]))
        · have hV2 : unsV os j = (o.penalty, 1, 0) := by rw [hV.out, if_neg (by rw [hoff]; decide), if_neg hp, if_neg hnow]
          replace hV2 := Lib.hid hV2
          have hn' : (o.now != -1) = true := by rw [bne_iff_ne]; exact hnow
          replace hoff := Lib.hid hoff
          go_wp2
          refine bodyPost_ret (v := .tuple #[.agg #[.int .i64 (o.penalty), .int .i64 (1), .int .i64 (0), .int .i64 (0)], .int .i64 0]) (by simp [results, Try.results18, go_sem]) rfl ⟨by rw [hV2.out], ?_⟩
          apply St.below'
          all_goals (repeat (first | with_reducible exact H | with_reducible apply St.alloc | with_reducible apply St.allocAny | with_reducible apply St.set | with_reducible apply St.drew | with_reducible apply St.over | with_reducible exact get0 | with_reducible exact get1 | with_reducible exact get2 | with_reducible exact get3 | with_reducible exact get4 | with_reducible exact get5 | with_reducible exact get6 | with_reducible exact get7 | simp only [List.set_cons_zero, List.set_cons_succ]))
    · have hV2 : unsV os j = (0, 0, 9) := by rw [hV.out, if_pos hoff]
      replace hV2 := Lib.hid hV2
      rw [hoff] at c15
      replace hoff := Lib.hid hoff
      go_wp2
      refine bodyPost_ret (v := .tuple #[.agg #[.int .i64 (0), .int .i64 (0), .int .i64 (0), .int .i64 (0)], .int .i64 9]) (by simp [results, Try.results18, go_sem]) rfl ⟨by rw [hV2.out], ?_⟩
      apply St.below'
      all_goals (repeat (first | with_reducible exact H | with_reducible apply St.alloc | with_reducible apply St.allocAny | with_reducible apply St.set | with_reducible apply St.drew | with_reducible apply St.over | with_reducible exact get0 | with_reducible exact get1 | with_reducible exact get2 | with_reducible exact get3 | with_reducible exact get4 | with_reducible exact get5 | with_reducible exact get6 | with_reducible exact get7 | simp only [List.set_cons_zero, List.set_cons_succ]))
set_option maxRecDepth 100000 in
set_option maxHeartbeats 1000000 in
theorem refUnserved_any (A : Option Addr) (n c : Nat) (os : List OrdD) (hlen : os.length = n) (hn : n ≤ 40) (k : Int) (hk1 : -9223372036854775808 ≤ k) (hk2 : k ≤ 9223372036854775807) (v0 v1 v2 v4 v5 : Value) (w : World) (hR : SlR rdOrd w A os) :
    Calls Try.prog 19 #[.agg #[v0, v1, v2, .slice A n c, v4, v5], .int .i64 k] w fun e w' => e = .returned (.tuple #[.agg #[.int .i64 ((unsV os k).1), .int .i64 ((unsV os k).2.1), .int .i64 (0), .int .i64 (0)], .int .i64 (unsV os k).2.2]) ∧ Below w.heap.size w w' := by
  have H := St.start w
  by_cases h1 : k < 0 ∨ n ≤ k
  · have hV : unsV os k = (0, 0, 2) := by unfold unsV; rw [if_pos (by rw [hlen]; exact h1)]
    replace hV := Lib.hid hV
    clear hlen
    go_enter Try.func19, Try.ntmps19
    by_cases h0 : k < 0
    · go_wp2
      refine bodyPost_ret (v := .tuple #[.agg #[.int .i64 (0), .int .i64 (0), .int .i64 (0), .int .i64 (0)], .int .i64 2]) (by simp [results, Try.results19, go_sem]) rfl ⟨by rw [hV.out], ?_⟩
      apply St.below'
      all_goals (repeat (first | with_reducible exact H | with_reducible apply St.alloc | with_reducible apply St.allocAny | with_reducible apply St.set | with_reducible apply St.drew | with_reducible apply St.over | with_reducible exact get0 | with_reducible exact get1 | with_reducible exact get2 | with_reducible exact get3 | with_reducible exact get4 | with_reducible exact get5 | with_reducible exact get6 | with_reducible exact get7 | simp only [List.set_cons_zero, List.set_cons_succ]))
    · have h2 : (n : Int) ≤ k := by omega
      go_wp2
      refine bodyPost_ret (v := .tuple #[.agg #[.int .i64 (0), .int .i64 (0), .int .i64 (0), .int .i64 (0)], .int .i64 2]) (by simp [results, Try.results19, go_sem]) rfl ⟨by rw [hV.out], ?_⟩
      apply St.below'
      all_goals (repeat (first | with_reducible exact H | with_reducible apply St.alloc | with_reducible apply St.allocAny | with_reducible apply St.set | with_reducible apply St.drew | with_reducible apply St.over | with_reducible exact get0 | with_reducible exact get1 | with_reducible exact get2 | with_reducible exact get3 | with_reducible exact get4 | with_reducible exact get5 | with_reducible exact get6 | with_reducible exact get7 | simp only [List.set_cons_zero, List.set_cons_succ]))
  · obtain ⟨j, rfl⟩ : ∃ j : Nat, k = j := ⟨k.toNat, by omega⟩
    have hj : j < n := by omega
    obtain ⟨o, ho⟩ : ∃ o, os[j]? = some o := ⟨_, List.getElem?_eq_getElem (by omega)⟩
    have hV : unsV os j = if o.off = true then (0, 0, 9) else if o.penalty = -1 then (0, 0, 23) else (o.penalty, if o.now = -1 then 0 else 1, 0) := by
      unfold unsV; rw [if_neg (by rw [hlen]; omega), Int.toNat_natCast, ho]
    replace hV := Lib.hid hV
    obtain ⟨b, off, cs, rfl, hb, hr, hc⟩ := hR j o ho
    obtain ⟨A1, c1, rfl, -, -, -⟩ := ord_cells hr
    rw [rdOrd_size] at hc
    clear hr ho hR hlen h1
    have hj' : (j : Int) < n := by omega
    have c0 : w.cell? ⟨b, off + j * 16, none⟩ = some (.string o.name) := hc 0 _ rfl
    have c1 : w.cell? ⟨b, off + j * 16 + 1, none⟩ = some _ := hc 1 _ rfl
    have c2 : w.cell? ⟨b, off + j * 16 + 2, none⟩ = some _ := hc 2 _ rfl
    have c3 : w.cell? ⟨b, off + j * 16 + 3, none⟩ = some _ := hc 3 _ rfl
    have c4 : w.cell? ⟨b, off + j * 16 + 4, none⟩ = some _ := hc 4 _ rfl
    have c5 : w.cell? ⟨b, off + j * 16 + 5, none⟩ = some _ := hc 5 _ rfl
    have c6 : w.cell? ⟨b, off + j * 16 + 6, none⟩ = some _ := hc 6 _ rfl
    have c7 : w.cell? ⟨b, off + j * 16 + 7, none⟩ = some _ := hc 7 _ rfl
    have c8 : w.cell? ⟨b, off + j * 16 + 8, none⟩ = some _ := hc 8 _ rfl
    have c9 : w.cell? ⟨b, off + j * 16 + 9, none⟩ = some _ := hc 9 _ rfl
    have c10 : w.cell? ⟨b, off + j * 16 + 10, none⟩ = some _ := hc 10 _ rfl
    have c11 : w.cell? ⟨b, off + j * 16 + 11, none⟩ = some _ := hc 11 _ rfl
    have c12 : w.cell? ⟨b, off + j * 16 + 12, none⟩ = some _ := hc 12 _ rfl
    have c13 : w.cell? ⟨b, off + j * 16 + 13, none⟩ = some _ := hc 13 _ rfl
    have c14 : w.cell? ⟨b, off + j * 16 + 14, none⟩ = some _ := hc 14 _ rfl
    have c15 : w.cell? ⟨b, off + j * 16 + 15, none⟩ = some _ := hc 15 _ rfl
    clear hc
    go_enter Try.func19, Try.ntmps19
    cases hoff : o.off
    · rw [hoff] at c15
      by_cases hp : o.penalty = -1
      · have hV2 : unsV os j = (0, 0, 23) := by rw [hV.out, if_neg (by rw [hoff]; decide), if_pos hp]
        replace hV2 := Lib.hid hV2
        rw [hp] at c11
        replace hoff := Lib.hid hoff
        replace hp := Lib.hid hp
        go_wp2
        refine bodyPost_ret (v := .tuple #[.agg #[.int .i64 (0), .int .i64 (0), .int .i64 (0), .int .i64 (0)], .int .i64 23]) (by simp [results, Try.results19, go_sem]) rfl ⟨by rw [hV2.out], ?_⟩
        apply St.below'
        all_goals (repeat (first | with_reducible exact H | with_reducible apply St.alloc | with_reducible apply St.allocAny | with_reducible apply St.set | with_reducible apply St.drew | with_reducible apply St.over | with_reducible exact get0 | with_reducible exact get1 | with_reducible exact get2 | with_reducible exact get3 | with_reducible exact get4 | with_reducible exact get5 | with_reducible exact get6 | with_reducible exact get7 | simp only [List.set_cons_zero, List.set_cons_succ]))
      · have hp' : (o.penalty == -1) = false := beq_eq_false_iff_ne.2 hp
        by_cases hnow : o.now = -1
        · have hV2 : unsV os j = (o.penalty, 0, 0) := by rw [hV.out, if_neg (by rw [hoff]; decide), if_neg hp, if_pos hnow]
          replace hV2 := Lib.hid hV2
          rw [hnow] at c14
          replace hoff := Lib.hid hoff
          replace hnow := Lib.hid hnow
          go_wp2
          refine bodyPost_ret (v := .tuple #[.agg #[.int .i64 (o.penalty), .int .i64 (0), .int .i64 (0), .int .i64 (0)], .int .i64 0]) (by simp [results, Try.results19, go_sem]) rfl ⟨by rw [hV2.out], ?_⟩
          apply St.below'
          all_goals (repeat (first | with_reducible exact H | with_reducible apply St.alloc | with_reducible apply St.allocAny | with_reducible apply St.set | with_reducible apply St.drew | with_reducible apply St.over | with_reducible exact get0 | with_reducible exact get1 | with_reducible exact get2 | with_reducible exact get3 | with_reducible exact get4 | with_reducible exact get5 | with_reducible exact get6 | with_reducible exact get7 | simp only [List.set_cons_zero, List.set_cons_succ]))
        · have hV2 : unsV os j = (o.penalty, 1, 0) := by rw [hV.out, if_neg (by rw [hoff]; decide), if_neg hp, if_neg hnow]
          replace hV2 := Lib.hid hV2
          have hn' : (o.now != -1) = true := by rw [bne_iff_ne]; exact hnow
          replace hoff := Lib.hid hoff
          go_wp2
          refine bodyPost_ret (v := .tuple #[.agg #[.int .i64 (o.penalty), .int .i64 (1), .int .i64 (0), .int .i64 (0)], .int .i64 0]) (by simp [results, Try.results19, go_sem]) rfl ⟨by rw [hV2.out], ?_⟩
          apply St.below'
          all_goals (repeat (first | with_reducible exact H | with_reducible apply St.alloc | with_reducible apply St.allocAny | with_reducible apply St.set | with_reducible apply St.drew | with_reducible apply St.over | with_reducible exact get0 | with_reducible exact get1 | with_reducible exact get2 | with_reducible exact get3 | with_reducible exact get4 | with_reducible exact get5 | with_reducible exact get6 | with_reducible exact get7 | simp only [List.set_cons_zero, List.set_cons_succ]))
    · have hV2 : unsV os j = (0, 0, 9) := by rw [hV.out, if_pos hoff]
      replace hV2 := Lib.hid hV2
      rw [hoff] at c15
      replace hoff := Lib.hid hoff
      go_wp2
      refine bodyPost_ret (v := .tuple #[.agg #[.int .i64 (0), .int .i64 (0), .int .i64 (0), .int .i64 (0)], .int .i64 9]) (by simp [results, Try.results19, go_sem]) rfl ⟨by rw [hV2.out], ?_⟩
      apply St.below'
      all_goals (repeat (first | with_reducible exact H | with_reducible apply St.alloc | with_reducible apply St.allocAny | with_reducible apply St.set | with_reducible apply St.drew | with_reducible apply St.over | with_reducible exact get0 | with_reducible exact get1 | with_reducible exact get2 | with_reducible exact get3 | with_reducible exact get4 | with_reducible exact get5 | with_reducible exact get6 | with_reducible exact get7 | simp only [List.set_cons_zero, List.set_cons_succ]))

set_option maxRecDepth 100000 in
set_option maxHeartbeats 1000000 in
theorem unserved_true (w : World) (v : Value) (os : List OrdD) (hv : rdOrd.slice.holds w [v] os) (k : Int) (hk : isI k) :
    Calls Try.prog 6 #[v, .int .i64 k] w fun e w' => e = .returned (.bool true) ∧ Below w.heap.size w w' := by
  obtain ⟨hk1, hk2⟩ := hk
  obtain ⟨A, c, e, hmax, hR⟩ := hv
  cases e
  obtain ⟨n, hlen⟩ : ∃ n, os.length = n := ⟨_, rfl⟩
  rw [hlen] at hmax ⊢
  have H := St.start w
  go_enter Try.func6, Try.ntmps6
  by_cases hn : 40 < n
  · have hn' : (40 : Int) < n := by omega
    go_wp2_with fail
    apply st_calls
    case H => repeat (first | with_reducible exact H | with_reducible apply St.alloc | with_reducible apply St.allocAny | with_reducible apply St.set | with_reducible apply St.drew | with_reducible apply St.over | with_reducible exact get0 | with_reducible exact get1 | with_reducible exact get2 | with_reducible exact get3 | with_reducible exact get4 | with_reducible exact get5 | with_reducible exact get6 | with_reducible exact get7 | simp only [List.set_cons_zero, List.set_cons_succ])
    clear H
    try clear hcs
    try clear hargs
    intro W H
    try simp only [List.set_cons_zero, List.set_cons_succ, World.size_alloc, World.size_setCell, World.size_drew] at H
    have hcs := H.cells
    dsimp only [cellsOf, neAll] at hcs
    try clear hargs
    have hargs := H.args
    refine (awake_any _).mono ?_
    rintro e w1 ⟨rfl, hb⟩
    replace H := H.ext hb
    clear hb
    try clear hcs
    try clear hargs
    try simp only [List.set_cons_zero, List.set_cons_succ, World.size_alloc, World.size_setCell, World.size_drew] at H
    have hcs := H.cells
    dsimp only [cellsOf, neAll] at hcs
    try clear hargs
    have hargs := H.args
    go_wp2
    go_ret
    exact ⟨rfl, H.below⟩
  · have hn' : ¬ (40 : Int) < n := by omega
    obtain ⟨V, hV⟩ : ∃ V, V = unsV os k := ⟨_, rfl⟩
    replace hV := Lib.hid hV
    go_wp2_with fail
    apply st_calls
    case H => repeat (first | with_reducible exact H | with_reducible apply St.alloc | with_reducible apply St.allocAny | with_reducible apply St.set | with_reducible apply St.drew | with_reducible apply St.over | with_reducible exact get0 | with_reducible exact get1 | with_reducible exact get2 | with_reducible exact get3 | with_reducible exact get4 | with_reducible exact get5 | with_reducible exact get6 | with_reducible exact get7 | simp only [List.set_cons_zero, List.set_cons_succ])
    clear H
    try clear hcs
    try clear hargs
    intro W H
    try simp only [List.set_cons_zero, List.set_cons_succ, World.size_alloc, World.size_setCell, World.size_drew] at H
    have hcs := H.cells
    dsimp only [cellsOf, neAll] at hcs
    try clear hargs
    have hargs := H.args
    refine (unserved_any A n c os hlen (by omega) k hk1 hk2 _ _ _ _ _ _ (hR.ext H.below)).mono ?_
    rintro e w1 ⟨rfl, hb⟩
    replace H := H.ext hb
    clear hb
    try clear hcs
    try clear hargs
    try simp only [List.set_cons_zero, List.set_cons_succ, World.size_alloc, World.size_setCell, World.size_drew] at H
    have hcs := H.cells
    dsimp only [cellsOf, neAll] at hcs
    try clear hargs
    have hargs := H.args
    rw [← hV.out]
    go_wp2_with fail
    apply st_calls
    case H => repeat (first | with_reducible exact H | with_reducible apply St.alloc | with_reducible apply St.allocAny | with_reducible apply St.set | with_reducible apply St.drew | with_reducible apply St.over | with_reducible exact get0 | with_reducible exact get1 | with_reducible exact get2 | with_reducible exact get3 | with_reducible exact get4 | with_reducible exact get5 | with_reducible exact get6 | with_reducible exact get7 | simp only [List.set_cons_zero, List.set_cons_succ])
    clear H
    try clear hcs
    try clear hargs
    intro W H
    try simp only [List.set_cons_zero, List.set_cons_succ, World.size_alloc, World.size_setCell, World.size_drew] at H
    have hcs := H.cells
    dsimp only [cellsOf, neAll] at hcs
    try clear hargs
    have hargs := H.args
    refine (refUnserved_any A n c os hlen (by omega) k hk1 hk2 _ _ _ _ _ _ (hR.ext H.below)).mono ?_
    rintro e w1 ⟨rfl, hb⟩
    replace H := H.ext hb
    clear hb
    try clear hcs
    try clear hargs
    try simp only [List.set_cons_zero, List.set_cons_succ, World.size_alloc, World.size_setCell, World.size_drew] at H
    have hcs := H.cells
    dsimp only [cellsOf, neAll] at hcs
    try clear hargs
    have hargs := H.args
    rw [← hV.out]
    clear hV
    go_wp2_with fail
    apply st_calls
    case H => repeat (first | with_reducible exact H | with_reducible apply St.alloc | with_reducible apply St.allocAny | with_reducible apply St.set | with_reducible apply St.drew | with_reducible apply St.over | with_reducible exact get0 | with_reducible exact get1 | with_reducible exact get2 | with_reducible exact get3 | with_reducible exact get4 | with_reducible exact get5 | with_reducible exact get6 | with_reducible exact get7 | simp only [List.set_cons_zero, List.set_cons_succ])
    clear H
    try clear hcs
    try clear hargs
    intro W H
    try simp only [List.set_cons_zero, List.set_cons_succ, World.size_alloc, World.size_setCell, World.size_drew] at H
    have hcs := H.cells
    dsimp only [cellsOf, neAll] at hcs
    try clear hargs
    have hargs := H.args
    refine (awake_any _).mono ?_
    rintro e w1 ⟨rfl, hb⟩
    replace H := H.ext hb
    clear hb
    try clear hcs
    try clear hargs
    try simp only [List.set_cons_zero, List.set_cons_succ, World.size_alloc, World.size_setCell, World.size_drew] at H
    have hcs := H.cells
    dsimp only [cellsOf, neAll] at hcs
    try clear hargs
    have hargs := H.args
    go_wp2
    go_ret
    exact ⟨rfl, H.below⟩
end Go.Proofs.Ytcmbckcjklociaa
