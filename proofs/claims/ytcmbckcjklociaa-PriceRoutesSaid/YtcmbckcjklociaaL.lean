/- The law PriceRoutes: tame, the reference, the law: walks. -/
import Derived.Test.YtcmbckcjklociaaK
namespace Go.Proofs.Ytcmbckcjklociaa
set_option linter.unusedSimpArgs false
set_option linter.unusedVariables false
open Go.RowKit

def TameE (x : InstD) (r : RouteD) (s : SheetD) (e : Ending) : Prop := ∃ b : Bool, (b = true → TameP x r s) ∧ e = .returned (.bool b)
theorem tame_no {x : InstD} {r : RouteD} {s : SheetD} : TameE x r s (.returned (.bool false)) := ⟨false, fun h => (by cases h), rfl⟩
theorem tame_yes {x : InstD} {r : RouteD} {s : SheetD} (h : TameP x r s) : TameE x r s (.returned (.bool true)) := ⟨true, fun _ => h, rfl⟩

set_option maxRecDepth 100000 in
set_option maxHeartbeats 2000000 in
theorem tame_any (w : World) (cx cr cs : Array Value) (x : InstD) (r : RouteD) (s : SheetD) {N : Nat} (hx : (rdInst N).holds w cx.toList x) (hr : (rdRoute N).holds w cr.toList r) (hs : (rdSheet N).holds w cs.toList s) :
    Calls Try.prog 8 #[.agg cx, .agg cr, .agg cs] w fun e w' => TameE x r s e ∧ Below w.heap.size w w' := by
  obtain ⟨A1, c1, A2, c2, A3, c3, A4, c4, A5, c5, A6, c6, e, hmax, -, -, hR3, hR4, -, -⟩ := inst_cells hx
  obtain rfl := toArr e
  obtain ⟨B1, d1, B2, d2, e, -, hmr, -, hV⟩ := route_cells hr
  obtain rfl := toArr e
  obtain ⟨C1, f1, e, -, hms, -⟩ := sheet_cells hs
  obtain rfl := toArr e
  clear hx hr hs
  obtain ⟨typ, start, rests, visits⟩ := r
  dsimp only at *
  have H := St.start w
  go_enter Try.func8, Try.ntmps8
  by_cases h1 : (20 : Int) < x.types.length
  · go_wp2
    go_ret
    refine ⟨tame_no, ?_⟩
    apply St.below'
    all_goals (repeat (first | with_reducible exact H | with_reducible apply St.alloc | with_reducible apply St.allocAny | with_reducible apply St.set | with_reducible apply St.drew | with_reducible apply St.over | with_reducible exact get0 | with_reducible exact get1 | with_reducible exact get2 | with_reducible exact get3 | with_reducible exact get4 | with_reducible exact get5 | with_reducible exact get6 | with_reducible exact get7 | simp only [List.set_cons_zero, List.set_cons_succ]))
  by_cases h2 : (40 : Int) < x.orders.length
  · go_wp2
    go_ret
    refine ⟨tame_no, ?_⟩
    apply St.below'
    all_goals (repeat (first | with_reducible exact H | with_reducible apply St.alloc | with_reducible apply St.allocAny | with_reducible apply St.set | with_reducible apply St.drew | with_reducible apply St.over | with_reducible exact get0 | with_reducible exact get1 | with_reducible exact get2 | with_reducible exact get3 | with_reducible exact get4 | with_reducible exact get5 | with_reducible exact get6 | with_reducible exact get7 | simp only [List.set_cons_zero, List.set_cons_succ]))
  by_cases h3 : (80 : Int) < visits.length
  · go_wp2
    go_ret
    refine ⟨tame_no, ?_⟩
    apply St.below'
    all_goals (repeat (first | with_reducible exact H | with_reducible apply St.alloc | with_reducible apply St.allocAny | with_reducible apply St.set | with_reducible apply St.drew | with_reducible apply St.over | with_reducible exact get0 | with_reducible exact get1 | with_reducible exact get2 | with_reducible exact get3 | with_reducible exact get4 | with_reducible exact get5 | with_reducible exact get6 | with_reducible exact get7 | simp only [List.set_cons_zero, List.set_cons_succ]))
  by_cases h4 : s.miles < 0
  · go_wp2
    go_ret
    refine ⟨tame_no, ?_⟩
    apply St.below'
    all_goals (repeat (first | with_reducible exact H | with_reducible apply St.alloc | with_reducible apply St.allocAny | with_reducible apply St.set | with_reducible apply St.drew | with_reducible apply St.over | with_reducible exact get0 | with_reducible exact get1 | with_reducible exact get2 | with_reducible exact get3 | with_reducible exact get4 | with_reducible exact get5 | with_reducible exact get6 | with_reducible exact get7 | simp only [List.set_cons_zero, List.set_cons_succ]))
  by_cases h5 : 1000000 < s.miles
  · go_wp2
    go_ret
    refine ⟨tame_no, ?_⟩
    apply St.below'
    all_goals (repeat (first | with_reducible exact H | with_reducible apply St.alloc | with_reducible apply St.allocAny | with_reducible apply St.set | with_reducible apply St.drew | with_reducible apply St.over | with_reducible exact get0 | with_reducible exact get1 | with_reducible exact get2 | with_reducible exact get3 | with_reducible exact get4 | with_reducible exact get5 | with_reducible exact get6 | with_reducible exact get7 | simp only [List.set_cons_zero, List.set_cons_succ]))
  by_cases h6 : s.fin < 0
  · go_wp2
    go_ret
    refine ⟨tame_no, ?_⟩
    apply St.below'
    all_goals (repeat (first | with_reducible exact H | with_reducible apply St.alloc | with_reducible apply St.allocAny | with_reducible apply St.set | with_reducible apply St.drew | with_reducible apply St.over | with_reducible exact get0 | with_reducible exact get1 | with_reducible exact get2 | with_reducible exact get3 | with_reducible exact get4 | with_reducible exact get5 | with_reducible exact get6 | with_reducible exact get7 | simp only [List.set_cons_zero, List.set_cons_succ]))
  by_cases h7 : 8192 < s.fin
  · go_wp2
    go_ret
    refine ⟨tame_no, ?_⟩
    apply St.below'
    all_goals (repeat (first | with_reducible exact H | with_reducible apply St.alloc | with_reducible apply St.allocAny | with_reducible apply St.set | with_reducible apply St.drew | with_reducible apply St.over | with_reducible exact get0 | with_reducible exact get1 | with_reducible exact get2 | with_reducible exact get3 | with_reducible exact get4 | with_reducible exact get5 | with_reducible exact get6 | with_reducible exact get7 | simp only [List.set_cons_zero, List.set_cons_succ]))
  by_cases h8 : typ < 0
  · have hT : TameP x ⟨typ, start, rests, visits⟩ s := ⟨by omega, by omega, by dsimp only; omega, by omega, by omega, by omega, by omega, fun t h => absurd h (by dsimp only; omega)⟩
    replace hT := Lib.hid hT
    go_wp2
    go_ret
    refine ⟨tame_yes hT.out, ?_⟩
    apply St.below'
    all_goals (repeat (first | with_reducible exact H | with_reducible apply St.alloc | with_reducible apply St.allocAny | with_reducible apply St.set | with_reducible apply St.drew | with_reducible apply St.over | with_reducible exact get0 | with_reducible exact get1 | with_reducible exact get2 | with_reducible exact get3 | with_reducible exact get4 | with_reducible exact get5 | with_reducible exact get6 | with_reducible exact get7 | simp only [List.set_cons_zero, List.set_cons_succ]))
  by_cases h9 : (x.types.length : Int) ≤ typ
  · have hT : TameP x ⟨typ, start, rests, visits⟩ s := ⟨by omega, by omega, by dsimp only; omega, by omega, by omega, by omega, by omega, fun t _ h => by rw [List.getElem?_eq_none (by dsimp only; omega)] at h; cases h⟩
    replace hT := Lib.hid hT
    go_wp2
    go_ret
    refine ⟨tame_yes hT.out, ?_⟩
    apply St.below'
    all_goals (repeat (first | with_reducible exact H | with_reducible apply St.alloc | with_reducible apply St.allocAny | with_reducible apply St.set | with_reducible apply St.drew | with_reducible apply St.over | with_reducible exact get0 | with_reducible exact get1 | with_reducible exact get2 | with_reducible exact get3 | with_reducible exact get4 | with_reducible exact get5 | with_reducible exact get6 | with_reducible exact get7 | simp only [List.set_cons_zero, List.set_cons_succ]))
  obtain ⟨j, rfl⟩ : ∃ j : Nat, typ = j := ⟨typ.toNat, by omega⟩
  have hjl : j < x.types.length := by omega
  have hjl' : (j : Int) < x.types.length := by omega
  obtain ⟨t, hTT⟩ : ∃ t, x.types[j]? = some t := ⟨_, List.getElem?_eq_getElem hjl⟩
  obtain ⟨b, off, cs, rfl, hb, hrow, hc⟩ := hR3 j t hTT
  obtain ⟨T1, g1, rfl, -, -, -⟩ := typ_cells hrow
  clear hrow hR3 hR4
  rw [rdTyp_size] at hc
  have k0 := hc 0 _ rfl
  have k1 := hc 1 _ rfl
  have k2 := hc 2 _ rfl
  have k3 := hc 3 _ rfl
  have k4 := hc 4 _ rfl
  have k5 := hc 5 _ rfl
  have k6 := hc 6 _ rfl
  have k7 := hc 7 _ rfl
  have k8 := hc 8 _ rfl
  have k9 := hc 9 _ rfl
  have k10 := hc 10 _ rfl
  have k11 := hc 11 _ rfl
  have k12 := hc 12 _ rfl
  have k13 := hc 13 _ rfl
  rw [Nat.add_zero] at k0
  clear hc
  have hTJ : 0 ≤ t.opn ∧ t.opn ≤ s.fin ∧ 0 ≤ t.fixed ∧ t.fixed ≤ 100000 ∧ 0 ≤ t.perMile ∧ t.perMile ≤ 100 ∧ 0 ≤ t.perTick ∧ t.perTick ≤ 100 → TameP x ⟨j, start, rests, visits⟩ s := fun hh =>
    ⟨by omega, by omega, by dsimp only; omega, by omega, by omega, by omega, by omega, fun t' _ h => by
      rw [Int.toNat_natCast, hTT] at h; cases h; exact hh⟩
  replace hTJ := Lib.hid hTJ
  replace hTT := Lib.hid hTT
  go_upto_region 5 with fail
  apply st_wp
  case H => repeat (first | with_reducible exact H | with_reducible apply St.alloc | with_reducible apply St.allocAny | with_reducible apply St.set | with_reducible apply St.drew | with_reducible apply St.over | with_reducible exact get0 | with_reducible exact get1 | with_reducible exact get2 | with_reducible exact get3 | with_reducible exact get4 | with_reducible exact get5 | with_reducible exact get6 | with_reducible exact get7 | simp only [List.set_cons_zero, List.set_cons_succ])
  clear H
  try clear hcs
  try clear hargs
  intro W H
  try simp only [List.set_cons_zero, List.set_cons_succ, World.size_alloc, World.size_setCell, World.size_drew] at H
  have hcs := H.cells
  dsimp only [cellsOf, neAll] at hcs
  try clear hargs
  have hargs := H.args
  go_upto_region 6 with fail
  apply st_wp
  case H => repeat (first | with_reducible exact H | with_reducible apply St.alloc | with_reducible apply St.allocAny | with_reducible apply St.set | with_reducible apply St.drew | with_reducible apply St.over | with_reducible exact get0 | with_reducible exact get1 | with_reducible exact get2 | with_reducible exact get3 | with_reducible exact get4 | with_reducible exact get5 | with_reducible exact get6 | with_reducible exact get7 | simp only [List.set_cons_zero, List.set_cons_succ])
  clear H
  try clear hcs
  try clear hargs
  intro W H
  try simp only [List.set_cons_zero, List.set_cons_succ, World.size_alloc, World.size_setCell, World.size_drew] at H
  have hcs := H.cells
  dsimp only [cellsOf, neAll] at hcs
  try clear hargs
  have hargs := H.args
  by_cases g1 : 0 ≤ t.opn
  case neg => 
    go_wp2
    go_ret
    refine ⟨tame_no, ?_⟩
    apply St.below'
    all_goals (repeat (first | with_reducible exact H | with_reducible apply St.alloc | with_reducible apply St.allocAny | with_reducible apply St.set | with_reducible apply St.drew | with_reducible apply St.over | with_reducible exact get0 | with_reducible exact get1 | with_reducible exact get2 | with_reducible exact get3 | with_reducible exact get4 | with_reducible exact get5 | with_reducible exact get6 | with_reducible exact get7 | simp only [List.set_cons_zero, List.set_cons_succ]))
  by_cases g2 : t.opn ≤ s.fin
  case neg => 
    go_wp2
    go_ret
    refine ⟨tame_no, ?_⟩
    apply St.below'
    all_goals (repeat (first | with_reducible exact H | with_reducible apply St.alloc | with_reducible apply St.allocAny | with_reducible apply St.set | with_reducible apply St.drew | with_reducible apply St.over | with_reducible exact get0 | with_reducible exact get1 | with_reducible exact get2 | with_reducible exact get3 | with_reducible exact get4 | with_reducible exact get5 | with_reducible exact get6 | with_reducible exact get7 | simp only [List.set_cons_zero, List.set_cons_succ]))
  by_cases g3 : 0 ≤ t.fixed
  case neg => 
    go_wp2
    go_ret
    refine ⟨tame_no, ?_⟩
    apply St.below'
    all_goals (repeat (first | with_reducible exact H | with_reducible apply St.alloc | with_reducible apply St.allocAny | with_reducible apply St.set | with_reducible apply St.drew | with_reducible apply St.over | with_reducible exact get0 | with_reducible exact get1 | with_reducible exact get2 | with_reducible exact get3 | with_reducible exact get4 | with_reducible exact get5 | with_reducible exact get6 | with_reducible exact get7 | simp only [List.set_cons_zero, List.set_cons_succ]))
  by_cases g4 : t.fixed ≤ 100000
  case neg => 
    go_wp2
    go_ret
    refine ⟨tame_no, ?_⟩
    apply St.below'
    all_goals (repeat (first | with_reducible exact H | with_reducible apply St.alloc | with_reducible apply St.allocAny | with_reducible apply St.set | with_reducible apply St.drew | with_reducible apply St.over | with_reducible exact get0 | with_reducible exact get1 | with_reducible exact get2 | with_reducible exact get3 | with_reducible exact get4 | with_reducible exact get5 | with_reducible exact get6 | with_reducible exact get7 | simp only [List.set_cons_zero, List.set_cons_succ]))
  by_cases g5 : 0 ≤ t.perMile
  case neg => 
    go_wp2
    go_ret
    refine ⟨tame_no, ?_⟩
    apply St.below'
    all_goals (repeat (first | with_reducible exact H | with_reducible apply St.alloc | with_reducible apply St.allocAny | with_reducible apply St.set | with_reducible apply St.drew | with_reducible apply St.over | with_reducible exact get0 | with_reducible exact get1 | with_reducible exact get2 | with_reducible exact get3 | with_reducible exact get4 | with_reducible exact get5 | with_reducible exact get6 | with_reducible exact get7 | simp only [List.set_cons_zero, List.set_cons_succ]))
  by_cases g6 : t.perMile ≤ 100
  case neg => 
    go_wp2
    go_ret
    refine ⟨tame_no, ?_⟩
    apply St.below'
    all_goals (repeat (first | with_reducible exact H | with_reducible apply St.alloc | with_reducible apply St.allocAny | with_reducible apply St.set | with_reducible apply St.drew | with_reducible apply St.over | with_reducible exact get0 | with_reducible exact get1 | with_reducible exact get2 | with_reducible exact get3 | with_reducible exact get4 | with_reducible exact get5 | with_reducible exact get6 | with_reducible exact get7 | simp only [List.set_cons_zero, List.set_cons_succ]))
  by_cases g7 : 0 ≤ t.perTick
  case neg => 
    go_wp2
    go_ret
    refine ⟨tame_no, ?_⟩
    apply St.below'
    all_goals (repeat (first | with_reducible exact H | with_reducible apply St.alloc | with_reducible apply St.allocAny | with_reducible apply St.set | with_reducible apply St.drew | with_reducible apply St.over | with_reducible exact get0 | with_reducible exact get1 | with_reducible exact get2 | with_reducible exact get3 | with_reducible exact get4 | with_reducible exact get5 | with_reducible exact get6 | with_reducible exact get7 | simp only [List.set_cons_zero, List.set_cons_succ]))
  by_cases g8 : t.perTick ≤ 100
  case neg => 
    go_wp2
    go_ret
    refine ⟨tame_no, ?_⟩
    apply St.below'
    all_goals (repeat (first | with_reducible exact H | with_reducible apply St.alloc | with_reducible apply St.allocAny | with_reducible apply St.set | with_reducible apply St.drew | with_reducible apply St.over | with_reducible exact get0 | with_reducible exact get1 | with_reducible exact get2 | with_reducible exact get3 | with_reducible exact get4 | with_reducible exact get5 | with_reducible exact get6 | with_reducible exact get7 | simp only [List.set_cons_zero, List.set_cons_succ]))
  have hT := hTJ.out ⟨g1, g2, g3, g4, g5, g6, g7, g8⟩
  replace hT := Lib.hid hT
  go_wp2
  go_ret
  refine ⟨tame_yes hT.out, ?_⟩
  apply St.below'
  all_goals (repeat (first | with_reducible exact H | with_reducible apply St.alloc | with_reducible apply St.allocAny | with_reducible apply St.set | with_reducible apply St.drew | with_reducible apply St.over | with_reducible exact get0 | with_reducible exact get1 | with_reducible exact get2 | with_reducible exact get3 | with_reducible exact get4 | with_reducible exact get5 | with_reducible exact get6 | with_reducible exact get7 | simp only [List.set_cons_zero, List.set_cons_succ]))

set_option maxRecDepth 100000 in
set_option maxHeartbeats 4000000 in
theorem refRoute_any (w : World) (cx cr cs : Array Value) (x : InstD) (r : RouteD) (s : SheetD) {N : Nat} (hx : (rdInst N).holds w cx.toList x) (hr : (rdRoute N).holds w cr.toList r) (hs : (rdSheet N).holds w cs.toList s) (ht : TameP x r s) :
    Calls Try.prog 11 #[.agg cx, .agg cr, .agg cs] w fun e w' => e = .returned (.agg #[.int .i64 ((rtV x r s).1), .int .i64 ((rtV x r s).2.1), .int .i64 ((rtV x r s).2.2.1), .int .i64 ((rtV x r s).2.2.2)]) ∧ Below w.heap.size w w' := by
  obtain ⟨A1, c1, A2, c2, A3, c3, A4, c4, A5, c5, A6, c6, e, hmax, -, -, hR3, hR4, -, -⟩ := inst_cells hx
  obtain rfl := toArr e
  obtain ⟨B1, d1, B2, d2, e, ⟨hr1, hr2⟩, hmr, -, hV⟩ := route_cells hr
  obtain rfl := toArr e
  obtain ⟨C1, f1, e, -, hms, -⟩ := sheet_cells hs
  obtain rfl := toArr e
  clear hx hr hs
  obtain ⟨t1, t2, t3, t4, t5, t6, t7, t8⟩ := ht
  obtain ⟨typ, start, rests, visits⟩ := r
  dsimp only at *
  have H := St.start w
  by_cases hout : typ < 0 ∨ (x.types.length : Int) ≤ typ
  · have hVV := Lib.hid (rtV_out (r := ⟨typ, start, rests, visits⟩) (s := s) hout)
    go_enter Try.func11, Try.ntmps11
    by_cases h0 : typ < 0
    · go_wp2
      refine bodyPost_ret (v := .agg #[.int .i64 (0), .int .i64 (0), .int .i64 (0), .int .i64 (0)]) (by simp [results, Try.results11, go_sem]) rfl ⟨by rw [hVV.out], ?_⟩
      apply St.below'
      all_goals (repeat (first | with_reducible exact H | with_reducible apply St.alloc | with_reducible apply St.allocAny | with_reducible apply St.set | with_reducible apply St.drew | with_reducible apply St.over | with_reducible exact get0 | with_reducible exact get1 | with_reducible exact get2 | with_reducible exact get3 | with_reducible exact get4 | with_reducible exact get5 | with_reducible exact get6 | with_reducible exact get7 | simp only [List.set_cons_zero, List.set_cons_succ]))
    · have h1 : (x.types.length : Int) ≤ typ := by omega
      clear hout
      go_wp2
      refine bodyPost_ret (v := .agg #[.int .i64 (0), .int .i64 (0), .int .i64 (0), .int .i64 (0)]) (by simp [results, Try.results11, go_sem]) rfl ⟨by rw [hVV.out], ?_⟩
      apply St.below'
      all_goals (repeat (first | with_reducible exact H | with_reducible apply St.alloc | with_reducible apply St.allocAny | with_reducible apply St.set | with_reducible apply St.drew | with_reducible apply St.over | with_reducible exact get0 | with_reducible exact get1 | with_reducible exact get2 | with_reducible exact get3 | with_reducible exact get4 | with_reducible exact get5 | with_reducible exact get6 | with_reducible exact get7 | simp only [List.set_cons_zero, List.set_cons_succ]))
  · obtain ⟨j, rfl⟩ : ∃ j : Nat, typ = j := ⟨typ.toNat, by omega⟩
    have hjl : j < x.types.length := by omega
    have hjl' : (j : Int) < x.types.length := by omega
    obtain ⟨t, hT⟩ : ∃ t, x.types[j]? = some t := ⟨_, List.getElem?_eq_getElem hjl⟩
    obtain ⟨u1, u2, u3, u4, u5, u6, u7, u8⟩ := t8 t (by omega) (by rw [Int.toNat_natCast]; exact hT)
    have hVV : rtV x ⟨j, start, rests, visits⟩ s = (t.fixed + t.perMile * s.miles + t.perTick * (s.fin - t.opn), rtCnt x.orders visits (fM j) visits.length, rtCnt x.orders visits (fO j) visits.length, (s.fin - t.opn) / 64 * ((s.fin - t.opn) / 64)) := by
      unfold rtV; rw [if_neg (by dsimp only; omega), Int.toNat_natCast, hT]
    replace hVV := Lib.hid hVV
    clear t8 hout
    obtain ⟨b, off, cs, rfl, hb, hrow, hc⟩ := hR3 j t hT
    obtain ⟨T1, g1, rfl, -, -, -⟩ := typ_cells hrow
    clear hrow hR3 hT
    rw [rdTyp_size] at hc
    have k0 := hc 0 _ rfl
    have k1 := hc 1 _ rfl
    have k2 := hc 2 _ rfl
    have k3 := hc 3 _ rfl
    have k4 := hc 4 _ rfl
    have k5 := hc 5 _ rfl
    have k6 := hc 6 _ rfl
    have k7 := hc 7 _ rfl
    have k8 := hc 8 _ rfl
    have k9 := hc 9 _ rfl
    have k10 := hc 10 _ rfl
    have k11 := hc 11 _ rfl
    have k12 := hc 12 _ rfl
    have k13 := hc 13 _ rfl
    rw [Nat.add_zero] at k0
    clear hc
    obtain ⟨n, hn⟩ : ∃ n, visits.length = n := ⟨_, rfl⟩
    obtain ⟨no, hno⟩ : ∃ n, x.orders.length = n := ⟨_, rfl⟩
    rw [hn] at hmr t3 hVV ⊢
    rw [hno] at hmax t2 ⊢
    replace hn := Lib.hid hn
    replace hno := Lib.hid hno
    have hM1 : 0 ≤ t.perMile * s.miles ∧ t.perMile * s.miles ≤ 100 * 1000000 := ⟨Int.mul_nonneg (by omega) (by omega), Int.mul_le_mul (by omega) (by omega) (by omega) (by omega)⟩
    have hM2 : 0 ≤ t.perTick * (s.fin - t.opn) ∧ t.perTick * (s.fin - t.opn) ≤ 100 * 8192 := ⟨Int.mul_nonneg (by omega) (by omega), Int.mul_le_mul (by omega) (by omega) (by omega) (by omega)⟩
    have hM3 : 0 ≤ (s.fin - t.opn) / 64 * ((s.fin - t.opn) / 64) ∧ (s.fin - t.opn) / 64 * ((s.fin - t.opn) / 64) ≤ 128 * 128 := ⟨Int.mul_nonneg (by omega) (by omega), Int.mul_le_mul (by omega) (by omega) (by omega) (by omega)⟩
    obtain ⟨hM11, hM12⟩ := hM1
    obtain ⟨hM21, hM22⟩ := hM2
    obtain ⟨hM31, hM32⟩ := hM3
    go_enter Try.func11, Try.ntmps11
    go_upto_region 3 with fail
    apply st_wp
    case H => repeat (first | with_reducible exact H | with_reducible apply St.alloc | with_reducible apply St.allocAny | with_reducible apply St.set | with_reducible apply St.drew | with_reducible apply St.over | with_reducible exact get0 | with_reducible exact get1 | with_reducible exact get2 | with_reducible exact get3 | with_reducible exact get4 | with_reducible exact get5 | with_reducible exact get6 | with_reducible exact get7 | simp only [List.set_cons_zero, List.set_cons_succ])
    clear H
    try clear hcs
    try clear hargs
    intro W H
    try simp only [List.set_cons_zero, List.set_cons_succ, World.size_alloc, World.size_setCell, World.size_drew] at H
    have hcs := H.cells
    dsimp only [cellsOf, neAll] at hcs
    try clear hargs
    have hargs := H.args
    obtain ⟨Wt, rfl⟩ : ∃ x : World, x = W := ⟨_, rfl⟩
    go_upto_region 4 with fail
    apply st_wp
    case H => repeat (first | with_reducible exact H | with_reducible apply St.alloc | with_reducible apply St.allocAny | with_reducible apply St.set | with_reducible apply St.drew | with_reducible apply St.over | with_reducible exact get0 | with_reducible exact get1 | with_reducible exact get2 | with_reducible exact get3 | with_reducible exact get4 | with_reducible exact get5 | with_reducible exact get6 | with_reducible exact get7 | simp only [List.set_cons_zero, List.set_cons_succ])
    clear H
    try clear hcs
    try clear hargs
    intro W H
    try simp only [List.set_cons_zero, List.set_cons_succ, World.size_alloc, World.size_setCell, World.size_drew] at H
    have hcs := H.cells
    dsimp only [cellsOf, neAll] at hcs
    try clear hargs
    have hargs := H.args
    obtain ⟨Wo, rfl⟩ : ∃ x : World, x = W := ⟨_, rfl⟩
    go_upto_region 6 with fail
    clear k0 k1 k2 k3 k4 k5 k6 k7 k8 k9 k10 k11 k12 k13 hmax hms t1 t4 t5 t6 t7 u1 u2 u3 u4 u5 u6 u7 u8 hM11 hM12 hM21 hM22 hM31 hM32
    go_wp2_with fail
    go_loopg [10, 11] n (fun g s10 s11 wr => ∃ k : Nat, k ≤ n ∧ g = n - k ∧ s10 = .int .i64 k ∧ St w wr [(Wo.heap.size, 41, [.int .i64 (t.fixed + t.perMile * s.miles + t.perTick * (s.fin - t.opn)), .int .i64 (rtCnt x.orders visits (fM j) k), .int .i64 (rtCnt x.orders visits (fO j) k), .int .i64 ((s.fin - t.opn) / 64 * ((s.fin - t.opn) / 64))]),
      (w.heap.size + 1 + 1 + 1, 41, [.int .i64 (0), .int .i64 (0), .int .i64 (0), .int .i64 (0)]), (w.heap.size + 1, 34, [.int .i64 j, .int .i64 start, .slice B1 rests.length d1, .slice B2 n d2]), (w.heap.size, 30, [.slice A1 x.net.places.length c1, .slice A2 x.net.arcs.length c2, .slice (some ⟨b, off, none⟩) x.types.length c3, .slice A4 no c4, .slice A5 x.apart.length c5, .slice A6 x.before.length c6])] [])
    case atStart =>
      refine ⟨0, by omega, rfl, rfl, ?_⟩
      apply St.pick [0, 2, 4, 5] (by decide)
      case H => repeat (first | with_reducible exact H | with_reducible apply St.alloc | with_reducible apply St.allocAny | with_reducible apply St.set | with_reducible apply St.drew | with_reducible apply St.over | with_reducible exact get0 | with_reducible exact get1 | with_reducible exact get2 | with_reducible exact get3 | with_reducible exact get4 | with_reducible exact get5 | with_reducible exact get6 | with_reducible exact get7 | simp only [List.set_cons_zero, List.set_cons_succ])
      all_goals first | rfl | simp only [List.set_cons_zero, List.set_cons_succ, World.size_alloc, World.size_setCell, World.size_drew]
    case round =>
      clear H
      obtain ⟨k, hk, rfl, rfl, H⟩ := hrel
      by_cases hkn : k < n
      · have hkn' : (k : Int) < n := by omega
        obtain ⟨⟨vo, vd⟩, hv⟩ : ∃ v, visits[k]? = some v := ⟨_, List.getElem?_eq_getElem (by have := hn.out; omega)⟩
        have hbeg := begins_any B2 n d2 visits hn.out t3 k _ hv
        obtain ⟨b2, off2, cs, rfl, hb2, hrow, hc⟩ := hV k _ hv
        obtain ⟨rfl, hvo⟩ := vis_cells hrow
        rw [rdVis_size] at hc
        have m0 := hc 0 _ rfl
        have m1 := hc 1 _ rfl
        rw [Nat.add_zero] at m0
        clear hc
        dsimp only at m0 m1 hvo hbeg
        clear hrow
        obtain ⟨hvo1, hvo2⟩ := hvo
        have hcM := rtCnt_bd x.orders visits (fM j) k
        have hcO := rtCnt_bd x.orders visits (fO j) k
        obtain ⟨hcM1, hcM2⟩ := hcM
        obtain ⟨hcO1, hcO2⟩ := hcO
        replace hv := Lib.hid hv
        replace hbeg := Lib.hid hbeg
        try clear hcs
        try clear hargs
        try simp only [List.set_cons_zero, List.set_cons_succ, World.size_alloc, World.size_setCell, World.size_drew] at H
        have hcs := H.cells
        dsimp only [cellsOf, neAll] at hcs
        try clear hargs
        have hargs := H.args
        by_cases hv0 : vo < 0
        · have e1 := Lib.hid (rtCnt_no (f := fM j) (rtHit_neg (os := x.orders) hv.out hv0))
          have e2 := Lib.hid (rtCnt_no (f := fO j) (rtHit_neg (os := x.orders) hv.out hv0))
          go_wp2_with fail
          go_roundg (n - (k + 1))
          case measure => omega
          case rel =>
            refine ⟨k + 1, by omega, rfl, by go_num, ?_⟩
            rw [e1.out, e2.out]
            apply St.pick [0, 1, 2, 3] (by decide)
            case H => repeat (first | with_reducible exact H | with_reducible apply St.alloc | with_reducible apply St.allocAny | with_reducible apply St.set | with_reducible apply St.drew | with_reducible apply St.over | with_reducible exact get0 | with_reducible exact get1 | with_reducible exact get2 | with_reducible exact get3 | with_reducible exact get4 | with_reducible exact get5 | with_reducible exact get6 | with_reducible exact get7 | simp only [List.set_cons_zero, List.set_cons_succ])
            all_goals first | rfl | simp only [List.set_cons_zero, List.set_cons_succ, World.size_alloc, World.size_setCell, World.size_drew]
        by_cases hv1 : (no : Int) ≤ vo
        · have e1 := Lib.hid (rtCnt_no (f := fM j) (rtHit_big (os := x.orders) hv.out (by dsimp only; have := hno.out; omega)))
          have e2 := Lib.hid (rtCnt_no (f := fO j) (rtHit_big (os := x.orders) hv.out (by dsimp only; have := hno.out; omega)))
          go_wp2_with fail
          go_roundg (n - (k + 1))
          case measure => omega
          case rel =>
            refine ⟨k + 1, by omega, rfl, by go_num, ?_⟩
            rw [e1.out, e2.out]
            apply St.pick [0, 1, 2, 3] (by decide)
            case H => repeat (first | with_reducible exact H | with_reducible apply St.alloc | with_reducible apply St.allocAny | with_reducible apply St.set | with_reducible apply St.drew | with_reducible apply St.over | with_reducible exact get0 | with_reducible exact get1 | with_reducible exact get2 | with_reducible exact get3 | with_reducible exact get4 | with_reducible exact get5 | with_reducible exact get6 | with_reducible exact get7 | simp only [List.set_cons_zero, List.set_cons_succ])
            all_goals first | rfl | simp only [List.set_cons_zero, List.set_cons_succ, World.size_alloc, World.size_setCell, World.size_drew]
        obtain ⟨i, rfl⟩ : ∃ i : Nat, vo = i := ⟨vo.toNat, by omega⟩
        have hil : i < no := by omega
        have hil' : (i : Int) < no := by omega
        have hi0 : 0 ≤ (i : Int) := by omega
        obtain ⟨o, ho⟩ : ∃ o, x.orders[i]? = some o := ⟨_, List.getElem?_eq_getElem (by have := hno.out; omega)⟩
        have ho' : x.orders[((⟨i, vd⟩ : VisD).order).toNat]? = some o := by dsimp only; rw [Int.toNat_natCast]; exact ho
        go_wp2_with fail
        apply st_calls
        case H => repeat (first | with_reducible exact H | with_reducible apply St.alloc | with_reducible apply St.allocAny | with_reducible apply St.set | with_reducible apply St.drew | with_reducible apply St.over | with_reducible exact get0 | with_reducible exact get1 | with_reducible exact get2 | with_reducible exact get3 | with_reducible exact get4 | with_reducible exact get5 | with_reducible exact get6 | with_reducible exact get7 | simp only [List.set_cons_zero, List.set_cons_succ])
        clear H
        try clear hcs
        try clear hargs
        intro W H
        try simp only [List.set_cons_zero, List.set_cons_succ, World.size_alloc, World.size_setCell, World.size_drew] at H
        have hcs := H.cells
        dsimp only [cellsOf, neAll] at hcs
        try clear hargs
        have hargs := H.args
        refine (hbeg.out _ (hV.ext H.below)).mono ?_
        rintro e w1 ⟨rfl, hb⟩
        replace H := H.ext hb
        clear hb
        try clear hcs
        try clear hargs
        try simp only [List.set_cons_zero, List.set_cons_succ, World.size_alloc, World.size_setCell, World.size_drew] at H
        have hcs := H.cells
        dsimp only [cellsOf, neAll] at hcs
        try clear hargs
        have hargs := H.args
        cases hB : begB visits k i
        · have e1 := Lib.hid (rtCnt_no (f := fM j) (rtHit_seen (os := x.orders) hv.out (by dsimp only; omega) ho' hB))
          have e2 := Lib.hid (rtCnt_no (f := fO j) (rtHit_seen (os := x.orders) hv.out (by dsimp only; omega) ho' hB))
          clear ho ho'
          replace hB := Lib.hid hB
          go_wp2_with fail
          go_roundg (n - (k + 1))
          case measure => omega
          case rel =>
            refine ⟨k + 1, by omega, rfl, by go_num, ?_⟩
            rw [e1.out, e2.out]
            apply St.pick [0, 1, 2, 3] (by decide)
            case H => repeat (first | with_reducible exact H | with_reducible apply St.alloc | with_reducible apply St.allocAny | with_reducible apply St.set | with_reducible apply St.drew | with_reducible apply St.over | with_reducible exact get0 | with_reducible exact get1 | with_reducible exact get2 | with_reducible exact get3 | with_reducible exact get4 | with_reducible exact get5 | with_reducible exact get6 | with_reducible exact get7 | simp only [List.set_cons_zero, List.set_cons_succ])
            all_goals first | rfl | simp only [List.set_cons_zero, List.set_cons_succ, World.size_alloc, World.size_setCell, World.size_drew]
        · have e1 := Lib.hid (rtHit_is (f := fM j) (os := x.orders) hv.out (by dsimp only; omega) ho' hB)
          have e2 := Lib.hid (rtHit_is (f := fO j) (os := x.orders) hv.out (by dsimp only; omega) ho' hB)
          clear ho'
          replace hB := Lib.hid hB
          obtain ⟨b3, off3, cs, rfl, hb3, hrow, hc⟩ := hR4 i o ho
          obtain ⟨L1, l1, rfl, hoi, -, -⟩ := ord_cells hrow
          rw [rdOrd_size] at hc
          have z0 := hc 0 _ rfl
          have z1 := hc 1 _ rfl
          have z2 := hc 2 _ rfl
          have z3 := hc 3 _ rfl
          have z4 := hc 4 _ rfl
          have z5 := hc 5 _ rfl
          have z6 := hc 6 _ rfl
          have z7 := hc 7 _ rfl
          have z8 := hc 8 _ rfl
          have z9 := hc 9 _ rfl
          have z10 := hc 10 _ rfl
          have z11 := hc 11 _ rfl
          have z12 := hc 12 _ rfl
          have z13 := hc 13 _ rfl
          have z14 := hc 14 _ rfl
          have z15 := hc 15 _ rfl
          rw [Nat.add_zero] at z0
          clear hc
          clear hrow ho hoi
          clear z0 z1 z2 z3 z4 z5 z6 z7 z8 z9 z10 z11 z12 z15
          go_upto_region 11 with fail
          apply st_wp
          case H => repeat (first | with_reducible exact H | with_reducible apply St.alloc | with_reducible apply St.allocAny | with_reducible apply St.set | with_reducible apply St.drew | with_reducible apply St.over | with_reducible exact get0 | with_reducible exact get1 | with_reducible exact get2 | with_reducible exact get3 | with_reducible exact get4 | with_reducible exact get5 | with_reducible exact get6 | with_reducible exact get7 | simp only [List.set_cons_zero, List.set_cons_succ])
          clear H
          try clear hcs
          try clear hargs
          intro W H
          try simp only [List.set_cons_zero, List.set_cons_succ, World.size_alloc, World.size_setCell, World.size_drew] at H
          have hcs := H.cells
          dsimp only [cellsOf, neAll] at hcs
          try clear hargs
          have hargs := H.args
          go_cut [100] (fun s100 wx => s100 = .bool (fM j o) ∧ St w wx [(Wo.heap.size, 41, [.int .i64 (t.fixed + t.perMile * s.miles + t.perTick * (s.fin - t.opn)), .int .i64 (rtCnt x.orders visits (fM j) k), .int .i64 (rtCnt x.orders visits (fO j) k), .int .i64 ((s.fin - t.opn) / 64 * ((s.fin - t.opn) / 64))]), (w.heap.size + 1 + 1 + 1, 41, [.int .i64 (0), .int .i64 (0), .int .i64 (0), .int .i64 (0)]), (w.heap.size + 1, 34, [.int .i64 j, .int .i64 start, .slice B1 rests.length d1, .slice (some ⟨b2, off2, none⟩) n d2]), (w.heap.size, 30, [.slice A1 x.net.places.length c1, .slice A2 x.net.arcs.length c2, .slice (some ⟨b, off, none⟩) x.types.length c3, .slice (some ⟨b3, off3, none⟩) no c4, .slice A5 x.apart.length c5, .slice A6 x.before.length c6])] [])
          case first =>
            by_cases n1 : o.now = -1
            · have b1 : (o.now != -1) = false := by rw [n1]; rfl
              have bb := Lib.hid (show fM j o = false by unfold fM; rw [b1]; rfl)
              replace n1 := Lib.hid n1
              refine wp_region_mix 18 (by kernel_rfl) (by kernel_rfl) ?_
              (refine mix_step 0 rfl (by kernel_rfl) (fun K hK => ?_); go_simp; refine hK _ ?_; clear hK K)
              (refine mix_step 1 rfl (by kernel_rfl) (fun K hK => ?_); go_simp; refine hK _ ?_; clear hK K)
              (refine mix_step 2 rfl (by kernel_rfl) (fun K hK => ?_); go_simp; refine hK _ ?_; clear hK K)
              (refine mix_step 3 rfl (by kernel_rfl) (fun K hK => ?_); go_simp; refine hK _ ?_; clear hK K)
              (refine mix_step 4 rfl (by kernel_rfl) (fun K hK => ?_); go_simp; refine hK _ ?_; clear hK K)
              (refine mix_step 5 rfl (by kernel_rfl) (fun K hK => ?_); go_simp; refine hK _ ?_; clear hK K)
              (refine mix_step 6 rfl (by kernel_rfl) (fun K hK => ?_); go_simp; refine hK _ ?_; clear hK K)
              (refine mix_step 7 rfl (by kernel_rfl) (fun K hK => ?_); go_simp; refine hK _ ?_; clear hK K)
              (refine mix_step 8 rfl (by kernel_rfl) (fun K hK => ?_); go_simp; refine hK _ ?_; clear hK K)
              (refine mix_step 9 rfl (by kernel_rfl) (fun K hK => ?_); go_simp; refine hK _ ?_; clear hK K)
              (refine mix_step 10 rfl (by kernel_rfl) (fun K hK => ?_); go_simp; refine hK _ ?_; clear hK K)
              (refine mix_step 11 rfl (by kernel_rfl) (fun K hK => ?_); go_simp; refine hK _ ?_; clear hK K)
              (refine mix_step 12 rfl (by kernel_rfl) (fun K hK => ?_); go_simp; refine hK _ ?_; clear hK K)
              (refine mix_step 13 rfl (by kernel_rfl) (fun K hK => ?_); go_simp; refine hK _ ?_; clear hK K)
              (refine mix_step 14 rfl (by kernel_rfl) (fun K hK => ?_); go_simp; refine hK _ ?_; clear hK K)
              (refine mix_step 15 rfl (by kernel_rfl) (fun K hK => ?_); go_simp; refine hK _ ?_; clear hK K)
              (refine mix_step 16 rfl (by kernel_rfl) (fun K hK => ?_); go_simp; refine hK _ ?_; clear hK K)
              (refine mix_step 17 rfl (by kernel_rfl) (fun K hK => ?_); go_simp; refine hK _ ?_; clear hK K)
              refine mix_end' (by kernel_rfl) (fun W1 hb => ?_)
              replace H := H.ext hb
              clear hb
              try clear hcs
              try clear hargs
              try simp only [List.set_cons_zero, List.set_cons_succ, World.size_alloc, World.size_setCell, World.size_drew] at H
              have hcs := H.cells
              dsimp only [cellsOf, neAll] at hcs
              try clear hargs
              have hargs := H.args
              simp only [List.drop_succ_cons, List.drop_zero]
              go_wp2_with fail
              go_meet
              exact ⟨by rw [bb.out], H⟩
            · have b1 : (o.now != -1) = true := by rw [bne_iff_ne]; exact n1
              by_cases n2 : o.now = (j : Int)
              · have b2 : (o.now != (j : Int)) = false := by rw [n2]; simp
                have bb := Lib.hid (show fM j o = false by unfold fM; rw [b1, b2]; rfl)
                replace n2 := Lib.hid n2
                refine wp_region_mix 18 (by kernel_rfl) (by kernel_rfl) ?_
                (refine mix_step 0 rfl (by kernel_rfl) (fun K hK => ?_); go_simp; refine hK _ ?_; clear hK K)
                (refine mix_step 1 rfl (by kernel_rfl) (fun K hK => ?_); go_simp; refine hK _ ?_; clear hK K)
                (refine mix_step 2 rfl (by kernel_rfl) (fun K hK => ?_); go_simp; refine hK _ ?_; clear hK K)
                (refine mix_step 3 rfl (by kernel_rfl) (fun K hK => ?_); go_simp; refine hK _ ?_; clear hK K)
                (refine mix_step 4 rfl (by kernel_rfl) (fun K hK => ?_); go_simp; refine hK _ ?_; clear hK K)
                (refine mix_step 5 rfl (by kernel_rfl) (fun K hK => ?_); go_simp; refine hK _ ?_; clear hK K)
                (refine mix_step 6 rfl (by kernel_rfl) (fun K hK => ?_); go_simp; refine hK _ ?_; clear hK K)
                (refine mix_step 7 rfl (by kernel_rfl) (fun K hK => ?_); go_simp; refine hK _ ?_; clear hK K)
                (refine mix_step 8 rfl (by kernel_rfl) (fun K hK => ?_); go_simp; refine hK _ ?_; clear hK K)
                (refine mix_step 9 rfl (by kernel_rfl) (fun K hK => ?_); go_simp; refine hK _ ?_; clear hK K)
                (refine mix_step 10 rfl (by kernel_rfl) (fun K hK => ?_); go_simp; refine hK _ ?_; clear hK K)
                (refine mix_step 11 rfl (by kernel_rfl) (fun K hK => ?_); go_simp; refine hK _ ?_; clear hK K)
                (refine mix_step 12 rfl (by kernel_rfl) (fun K hK => ?_); go_simp; refine hK _ ?_; clear hK K)
                (refine mix_step 13 rfl (by kernel_rfl) (fun K hK => ?_); go_simp; refine hK _ ?_; clear hK K)
                (refine mix_step 14 rfl (by kernel_rfl) (fun K hK => ?_); go_simp; refine hK _ ?_; clear hK K)
                (refine mix_step 15 rfl (by kernel_rfl) (fun K hK => ?_); go_simp; refine hK _ ?_; clear hK K)
                (refine mix_step 16 rfl (by kernel_rfl) (fun K hK => ?_); go_simp; refine hK _ ?_; clear hK K)
                (refine mix_step 17 rfl (by kernel_rfl) (fun K hK => ?_); go_simp; refine hK _ ?_; clear hK K)
                refine mix_end' (by kernel_rfl) (fun W1 hb => ?_)
                replace H := H.ext hb
                clear hb
                try clear hcs
                try clear hargs
                try simp only [List.set_cons_zero, List.set_cons_succ, World.size_alloc, World.size_setCell, World.size_drew] at H
                have hcs := H.cells
                dsimp only [cellsOf, neAll] at hcs
                try clear hargs
                have hargs := H.args
                simp only [List.drop_succ_cons, List.drop_zero]
                go_wp2_with fail
                go_meet
                exact ⟨by rw [bb.out], H⟩
              · have b2 : (o.now != (j : Int)) = true := by rw [bne_iff_ne]; exact n2
                have bb := Lib.hid (show fM j o = true by unfold fM; rw [b1, b2]; rfl)
                refine wp_region_mix 18 (by kernel_rfl) (by kernel_rfl) ?_
                (refine mix_step 0 rfl (by kernel_rfl) (fun K hK => ?_); go_simp; refine hK _ ?_; clear hK K)
                (refine mix_step 1 rfl (by kernel_rfl) (fun K hK => ?_); go_simp; refine hK _ ?_; clear hK K)
                (refine mix_step 2 rfl (by kernel_rfl) (fun K hK => ?_); go_simp; refine hK _ ?_; clear hK K)
                (refine mix_step 3 rfl (by kernel_rfl) (fun K hK => ?_); go_simp; refine hK _ ?_; clear hK K)
                (refine mix_step 4 rfl (by kernel_rfl) (fun K hK => ?_); go_simp; refine hK _ ?_; clear hK K)
                (refine mix_step 5 rfl (by kernel_rfl) (fun K hK => ?_); go_simp; refine hK _ ?_; clear hK K)
                (refine mix_step 6 rfl (by kernel_rfl) (fun K hK => ?_); go_simp; refine hK _ ?_; clear hK K)
                (refine mix_step 7 rfl (by kernel_rfl) (fun K hK => ?_); go_simp; refine hK _ ?_; clear hK K)
                (refine mix_step 8 rfl (by kernel_rfl) (fun K hK => ?_); go_simp; refine hK _ ?_; clear hK K)
                (refine mix_step 9 rfl (by kernel_rfl) (fun K hK => ?_); go_simp; refine hK _ ?_; clear hK K)
                (refine mix_step 10 rfl (by kernel_rfl) (fun K hK => ?_); go_simp; refine hK _ ?_; clear hK K)
                (refine mix_step 11 rfl (by kernel_rfl) (fun K hK => ?_); go_simp; refine hK _ ?_; clear hK K)
                (refine mix_step 12 rfl (by kernel_rfl) (fun K hK => ?_); go_simp; refine hK _ ?_; clear hK K)
                (refine mix_step 13 rfl (by kernel_rfl) (fun K hK => ?_); go_simp; refine hK _ ?_; clear hK K)
                (refine mix_step 14 rfl (by kernel_rfl) (fun K hK => ?_); go_simp; refine hK _ ?_; clear hK K)
                (refine mix_step 15 rfl (by kernel_rfl) (fun K hK => ?_); go_simp; refine hK _ ?_; clear hK K)
                (refine mix_step 16 rfl (by kernel_rfl) (fun K hK => ?_); go_simp; refine hK _ ?_; clear hK K)
                (refine mix_step 17 rfl (by kernel_rfl) (fun K hK => ?_); go_simp; refine hK _ ?_; clear hK K)
                refine mix_end' (by kernel_rfl) (fun W1 hb => ?_)
                replace H := H.ext hb
                clear hb
                try clear hcs
                try clear hargs
                try simp only [List.set_cons_zero, List.set_cons_succ, World.size_alloc, World.size_setCell, World.size_drew] at H
                have hcs := H.cells
                dsimp only [cellsOf, neAll] at hcs
                try clear hargs
                have hargs := H.args
                simp only [List.drop_succ_cons, List.drop_zero]
                go_wp2_with fail
                go_meet
                exact ⟨by rw [bb.out], H⟩
          case rest =>
            clear H
            obtain ⟨rfl, H⟩ := hcut
            try clear hcs
            try clear hargs
            try simp only [List.set_cons_zero, List.set_cons_succ, World.size_alloc, World.size_setCell, World.size_drew] at H
            have hcs := H.cells
            dsimp only [cellsOf, neAll] at hcs
            try clear hargs
            have hargs := H.args
            cases hM : fM j o
            · have f1 := Lib.hid (rtCnt_no (e1.out.trans hM))
              replace hM := Lib.hid hM
              go_upto_region 13 with fail
              apply st_wp
              case H => repeat (first | with_reducible exact H | with_reducible apply St.alloc | with_reducible apply St.allocAny | with_reducible apply St.set | with_reducible apply St.drew | with_reducible apply St.over | with_reducible exact get0 | with_reducible exact get1 | with_reducible exact get2 | with_reducible exact get3 | with_reducible exact get4 | with_reducible exact get5 | with_reducible exact get6 | with_reducible exact get7 | simp only [List.set_cons_zero, List.set_cons_succ])
              clear H
              try clear hcs
              try clear hargs
              intro W H
              try simp only [List.set_cons_zero, List.set_cons_succ, World.size_alloc, World.size_setCell, World.size_drew] at H
              have hcs := H.cells
              dsimp only [cellsOf, neAll] at hcs
              try clear hargs
              have hargs := H.args
              go_cut [122] (fun s122 wx => s122 = .bool (fO j o) ∧ St w wx [(Wo.heap.size, 41, [.int .i64 (t.fixed + t.perMile * s.miles + t.perTick * (s.fin - t.opn)), .int .i64 (rtCnt x.orders visits (fM j) k), .int .i64 (rtCnt x.orders visits (fO j) k), .int .i64 ((s.fin - t.opn) / 64 * ((s.fin - t.opn) / 64))]), (w.heap.size + 1 + 1 + 1, 41, [.int .i64 (0), .int .i64 (0), .int .i64 (0), .int .i64 (0)]), (w.heap.size + 1, 34, [.int .i64 j, .int .i64 start, .slice B1 rests.length d1, .slice (some ⟨b2, off2, none⟩) n d2]), (w.heap.size, 30, [.slice A1 x.net.places.length c1, .slice A2 x.net.arcs.length c2, .slice (some ⟨b, off, none⟩) x.types.length c3, .slice (some ⟨b3, off3, none⟩) no c4, .slice A5 x.apart.length c5, .slice A6 x.before.length c6])] [])
              case first =>
                by_cases n1 : o.last = -1
                · have b1 : (o.last != -1) = false := by rw [n1]; rfl
                  have bb := Lib.hid (show fO j o = false by unfold fO; rw [b1]; rfl)
                  replace n1 := Lib.hid n1
                  refine wp_region_mix 18 (by kernel_rfl) (by kernel_rfl) ?_
                  (refine mix_step 0 rfl (by kernel_rfl) (fun K hK => ?_); go_simp; refine hK _ ?_; clear hK K)
                  (refine mix_step 1 rfl (by kernel_rfl) (fun K hK => ?_); go_simp; refine hK _ ?_; clear hK K)
                  (refine mix_step 2 rfl (by kernel_rfl) (fun K hK => ?_); go_simp; refine hK _ ?_; clear hK K)
                  (refine mix_step 3 rfl (by kernel_rfl) (fun K hK => ?_); go_simp; refine hK _ ?_; clear hK K)
                  (refine mix_step 4 rfl (by kernel_rfl) (fun K hK => ?_); go_simp; refine hK _ ?_; clear hK K)
                  (refine mix_step 5 rfl (by kernel_rfl) (fun K hK => ?_); go_simp; refine hK _ ?_; clear hK K)
                  (refine mix_step 6 rfl (by kernel_rfl) (fun K hK => ?_); go_simp; refine hK _ ?_; clear hK K)
                  (refine mix_step 7 rfl (by kernel_rfl) (fun K hK => ?_); go_simp; refine hK _ ?_; clear hK K)
                  (refine mix_step 8 rfl (by kernel_rfl) (fun K hK => ?_); go_simp; refine hK _ ?_; clear hK K)
                  (refine mix_step 9 rfl (by kernel_rfl) (fun K hK => ?_); go_simp; refine hK _ ?_; clear hK K)
                  (refine mix_step 10 rfl (by kernel_rfl) (fun K hK => ?_); go_simp; refine hK _ ?_; clear hK K)
                  (refine mix_step 11 rfl (by kernel_rfl) (fun K hK => ?_); go_simp; refine hK _ ?_; clear hK K)
                  (refine mix_step 12 rfl (by kernel_rfl) (fun K hK => ?_); go_simp; refine hK _ ?_; clear hK K)
                  (refine mix_step 13 rfl (by kernel_rfl) (fun K hK => ?_); go_simp; refine hK _ ?_; clear hK K)
                  (refine mix_step 14 rfl (by kernel_rfl) (fun K hK => ?_); go_simp; refine hK _ ?_; clear hK K)
                  (refine mix_step 15 rfl (by kernel_rfl) (fun K hK => ?_); go_simp; refine hK _ ?_; clear hK K)
                  (refine mix_step 16 rfl (by kernel_rfl) (fun K hK => ?_); go_simp; refine hK _ ?_; clear hK K)
                  (refine mix_step 17 rfl (by kernel_rfl) (fun K hK => ?_); go_simp; refine hK _ ?_; clear hK K)
                  refine mix_end' (by kernel_rfl) (fun W1 hb => ?_)
                  replace H := H.ext hb
                  clear hb
                  try clear hcs
                  try clear hargs
                  try simp only [List.set_cons_zero, List.set_cons_succ, World.size_alloc, World.size_setCell, World.size_drew] at H
                  have hcs := H.cells
                  dsimp only [cellsOf, neAll] at hcs
                  try clear hargs
                  have hargs := H.args
                  simp only [List.drop_succ_cons, List.drop_zero]
                  go_wp2_with fail
                  go_meet
                  exact ⟨by rw [bb.out], H⟩
                · have b1 : (o.last != -1) = true := by rw [bne_iff_ne]; exact n1
                  by_cases n2 : o.last = (j : Int)
                  · have b2 : (o.last != (j : Int)) = false := by rw [n2]; simp
                    have bb := Lib.hid (show fO j o = false by unfold fO; rw [b1, b2]; rfl)
                    replace n2 := Lib.hid n2
                    refine wp_region_mix 18 (by kernel_rfl) (by kernel_rfl) ?_
                    (refine mix_step 0 rfl (by kernel_rfl) (fun K hK => ?_); go_simp; refine hK _ ?_; clear hK K)
                    (refine mix_step 1 rfl (by kernel_rfl) (fun K hK => ?_); go_simp; refine hK _ ?_; clear hK K)
                    (refine mix_step 2 rfl (by kernel_rfl) (fun K hK => ?_); go_simp; refine hK _ ?_; clear hK K)
                    (refine mix_step 3 rfl (by kernel_rfl) (fun K hK => ?_); go_simp; refine hK _ ?_; clear hK K)
                    (refine mix_step 4 rfl (by kernel_rfl) (fun K hK => ?_); go_simp; refine hK _ ?_; clear hK K)
                    (refine mix_step 5 rfl (by kernel_rfl) (fun K hK => ?_); go_simp; refine hK _ ?_; clear hK K)
                    (refine mix_step 6 rfl (by kernel_rfl) (fun K hK => ?_); go_simp; refine hK _ ?_; clear hK K)
                    (refine mix_step 7 rfl (by kernel_rfl) (fun K hK => ?_); go_simp; refine hK _ ?_; clear hK K)
                    (refine mix_step 8 rfl (by kernel_rfl) (fun K hK => ?_); go_simp; refine hK _ ?_; clear hK K)
                    (refine mix_step 9 rfl (by kernel_rfl) (fun K hK => ?_); go_simp; refine hK _ ?_; clear hK K)
                    (refine mix_step 10 rfl (by kernel_rfl) (fun K hK => ?_); go_simp; refine hK _ ?_; clear hK K)
                    (refine mix_step 11 rfl (by kernel_rfl) (fun K hK => ?_); go_simp; refine hK _ ?_; clear hK K)
                    (refine mix_step 12 rfl (by kernel_rfl) (fun K hK => ?_); go_simp; refine hK _ ?_; clear hK K)
                    (refine mix_step 13 rfl (by kernel_rfl) (fun K hK => ?_); go_simp; refine hK _ ?_; clear hK K)
                    (refine mix_step 14 rfl (by kernel_rfl) (fun K hK => ?_); go_simp; refine hK _ ?_; clear hK K)
                    (refine mix_step 15 rfl (by kernel_rfl) (fun K hK => ?_); go_simp; refine hK _ ?_; clear hK K)
                    (refine mix_step 16 rfl (by kernel_rfl) (fun K hK => ?_); go_simp; refine hK _ ?_; clear hK K)
                    (refine mix_step 17 rfl (by kernel_rfl) (fun K hK => ?_); go_simp; refine hK _ ?_; clear hK K)
                    refine mix_end' (by kernel_rfl) (fun W1 hb => ?_)
                    replace H := H.ext hb
                    clear hb
                    try clear hcs
                    try clear hargs
                    try simp only [List.set_cons_zero, List.set_cons_succ, World.size_alloc, World.size_setCell, World.size_drew] at H
                    have hcs := H.cells
                    dsimp only [cellsOf, neAll] at hcs
                    try clear hargs
                    have hargs := H.args
                    simp only [List.drop_succ_cons, List.drop_zero]
                    go_wp2_with fail
                    go_meet
                    exact ⟨by rw [bb.out], H⟩
                  · have b2 : (o.last != (j : Int)) = true := by rw [bne_iff_ne]; exact n2
                    have bb := Lib.hid (show fO j o = true by unfold fO; rw [b1, b2]; rfl)
                    refine wp_region_mix 18 (by kernel_rfl) (by kernel_rfl) ?_
                    (refine mix_step 0 rfl (by kernel_rfl) (fun K hK => ?_); go_simp; refine hK _ ?_; clear hK K)
                    (refine mix_step 1 rfl (by kernel_rfl) (fun K hK => ?_); go_simp; refine hK _ ?_; clear hK K)
                    (refine mix_step 2 rfl (by kernel_rfl) (fun K hK => ?_); go_simp; refine hK _ ?_; clear hK K)
                    (refine mix_step 3 rfl (by kernel_rfl) (fun K hK => ?_); go_simp; refine hK _ ?_; clear hK K)
                    (refine mix_step 4 rfl (by kernel_rfl) (fun K hK => ?_); go_simp; refine hK _ ?_; clear hK K)
                    (refine mix_step 5 rfl (by kernel_rfl) (fun K hK => ?_); go_simp; refine hK _ ?_; clear hK K)
                    (refine mix_step 6 rfl (by kernel_rfl) (fun K hK => ?_); go_simp; refine hK _ ?_; clear hK K)
                    (refine mix_step 7 rfl (by kernel_rfl) (fun K hK => ?_); go_simp; refine hK _ ?_; clear hK K)
                    (refine mix_step 8 rfl (by kernel_rfl) (fun K hK => ?_); go_simp; refine hK _ ?_; clear hK K)
                    (refine mix_step 9 rfl (by kernel_rfl) (fun K hK => ?_); go_simp; refine hK _ ?_; clear hK K)
                    (refine mix_step 10 rfl (by kernel_rfl) (fun K hK => ?_); go_simp; refine hK _ ?_; clear hK K)
                    (refine mix_step 11 rfl (by kernel_rfl) (fun K hK => ?_); go_simp; refine hK _ ?_; clear hK K)
                    (refine mix_step 12 rfl (by kernel_rfl) (fun K hK => ?_); go_simp; refine hK _ ?_; clear hK K)
                    (refine mix_step 13 rfl (by kernel_rfl) (fun K hK => ?_); go_simp; refine hK _ ?_; clear hK K)
                    (refine mix_step 14 rfl (by kernel_rfl) (fun K hK => ?_); go_simp; refine hK _ ?_; clear hK K)
                    (refine mix_step 15 rfl (by kernel_rfl) (fun K hK => ?_); go_simp; refine hK _ ?_; clear hK K)
                    (refine mix_step 16 rfl (by kernel_rfl) (fun K hK => ?_); go_simp; refine hK _ ?_; clear hK K)
                    (refine mix_step 17 rfl (by kernel_rfl) (fun K hK => ?_); go_simp; refine hK _ ?_; clear hK K)
                    refine mix_end' (by kernel_rfl) (fun W1 hb => ?_)
                    replace H := H.ext hb
                    clear hb
                    try clear hcs
                    try clear hargs
                    try simp only [List.set_cons_zero, List.set_cons_succ, World.size_alloc, World.size_setCell, World.size_drew] at H
                    have hcs := H.cells
                    dsimp only [cellsOf, neAll] at hcs
                    try clear hargs
                    have hargs := H.args
                    simp only [List.drop_succ_cons, List.drop_zero]
                    go_wp2_with fail
                    go_meet
                    exact ⟨by rw [bb.out], H⟩
              case rest =>
                clear H
                obtain ⟨rfl, H⟩ := hcut
                try clear hcs
                try clear hargs
                try simp only [List.set_cons_zero, List.set_cons_succ, World.size_alloc, World.size_setCell, World.size_drew] at H
                have hcs := H.cells
                dsimp only [cellsOf, neAll] at hcs
                try clear hargs
                have hargs := H.args
                cases hO : fO j o
                · have f2 := Lib.hid (rtCnt_no (e2.out.trans hO))
                  replace hO := Lib.hid hO
                  go_wp2_with fail
                  go_roundg (n - (k + 1))
                  case measure => omega
                  case rel =>
                    refine ⟨k + 1, by omega, rfl, by go_num, ?_⟩
                    rw [f1.out, f2.out]
                    apply St.pick [0, 1, 2, 3] (by decide)
                    case H => repeat (first | with_reducible exact H | with_reducible apply St.alloc | with_reducible apply St.allocAny | with_reducible apply St.set | with_reducible apply St.drew | with_reducible apply St.over | with_reducible exact get0 | with_reducible exact get1 | with_reducible exact get2 | with_reducible exact get3 | with_reducible exact get4 | with_reducible exact get5 | with_reducible exact get6 | with_reducible exact get7 | simp only [List.set_cons_zero, List.set_cons_succ])
                    all_goals first | rfl | simp only [List.set_cons_zero, List.set_cons_succ, World.size_alloc, World.size_setCell, World.size_drew]
                · have f2 := Lib.hid (rtCnt_yes (e2.out.trans hO))
                  replace hO := Lib.hid hO
                  go_wp2_with fail
                  go_roundg (n - (k + 1))
                  case measure => omega
                  case rel =>
                    refine ⟨k + 1, by omega, rfl, by go_num, ?_⟩
                    rw [f1.out, f2.out]
                    apply St.pick [0, 1, 2, 3] (by decide)
                    case H => repeat (first | with_reducible exact H | with_reducible apply St.alloc | with_reducible apply St.allocAny | with_reducible apply St.set | with_reducible apply St.drew | with_reducible apply St.over | with_reducible exact get0 | with_reducible exact get1 | with_reducible exact get2 | with_reducible exact get3 | with_reducible exact get4 | with_reducible exact get5 | with_reducible exact get6 | with_reducible exact get7 | simp only [List.set_cons_zero, List.set_cons_succ])
                    all_goals first | rfl | simp only [List.set_cons_zero, List.set_cons_succ, World.size_alloc, World.size_setCell, World.size_drew]
            · have f1 := Lib.hid (rtCnt_yes (e1.out.trans hM))
              replace hM := Lib.hid hM
              go_upto_region 13 with fail
              apply st_wp
              case H => repeat (first | with_reducible exact H | with_reducible apply St.alloc | with_reducible apply St.allocAny | with_reducible apply St.set | with_reducible apply St.drew | with_reducible apply St.over | with_reducible exact get0 | with_reducible exact get1 | with_reducible exact get2 | with_reducible exact get3 | with_reducible exact get4 | with_reducible exact get5 | with_reducible exact get6 | with_reducible exact get7 | simp only [List.set_cons_zero, List.set_cons_succ])
              clear H
              try clear hcs
              try clear hargs
              intro W H
              try simp only [List.set_cons_zero, List.set_cons_succ, World.size_alloc, World.size_setCell, World.size_drew] at H
              have hcs := H.cells
              dsimp only [cellsOf, neAll] at hcs
              try clear hargs
              have hargs := H.args
              go_cut [122] (fun s122 wx => s122 = .bool (fO j o) ∧ St w wx [(Wo.heap.size, 41, [.int .i64 (t.fixed + t.perMile * s.miles + t.perTick * (s.fin - t.opn)), .int .i64 (rtCnt x.orders visits (fM j) k + 1), .int .i64 (rtCnt x.orders visits (fO j) k), .int .i64 ((s.fin - t.opn) / 64 * ((s.fin - t.opn) / 64))]), (w.heap.size + 1 + 1 + 1, 41, [.int .i64 (0), .int .i64 (0), .int .i64 (0), .int .i64 (0)]), (w.heap.size + 1, 34, [.int .i64 j, .int .i64 start, .slice B1 rests.length d1, .slice (some ⟨b2, off2, none⟩) n d2]), (w.heap.size, 30, [.slice A1 x.net.places.length c1, .slice A2 x.net.arcs.length c2, .slice (some ⟨b, off, none⟩) x.types.length c3, .slice (some ⟨b3, off3, none⟩) no c4, .slice A5 x.apart.length c5, .slice A6 x.before.length c6])] [])
              case first =>
                by_cases n1 : o.last = -1
                · have b1 : (o.last != -1) = false := by rw [n1]; rfl
                  have bb := Lib.hid (show fO j o = false by unfold fO; rw [b1]; rfl)
                  replace n1 := Lib.hid n1
                  refine wp_region_mix 18 (by kernel_rfl) (by kernel_rfl) ?_
                  (refine mix_step 0 rfl (by kernel_rfl) (fun K hK => ?_); go_simp; refine hK _ ?_; clear hK K)
                  (refine mix_step 1 rfl (by kernel_rfl) (fun K hK => ?_); go_simp; refine hK _ ?_; clear hK K)
                  (refine mix_step 2 rfl (by kernel_rfl) (fun K hK => ?_); go_simp; refine hK _ ?_; clear hK K)
                  (refine mix_step 3 rfl (by kernel_rfl) (fun K hK => ?_); go_simp; refine hK _ ?_; clear hK K)
                  (refine mix_step 4 rfl (by kernel_rfl) (fun K hK => ?_); go_simp; refine hK _ ?_; clear hK K)
                  (refine mix_step 5 rfl (by kernel_rfl) (fun K hK => ?_); go_simp; refine hK _ ?_; clear hK K)
                  (refine mix_step 6 rfl (by kernel_rfl) (fun K hK => ?_); go_simp; refine hK _ ?_; clear hK K)
                  (refine mix_step 7 rfl (by kernel_rfl) (fun K hK => ?_); go_simp; refine hK _ ?_; clear hK K)
                  (refine mix_step 8 rfl (by kernel_rfl) (fun K hK => ?_); go_simp; refine hK _ ?_; clear hK K)
                  (refine mix_step 9 rfl (by kernel_rfl) (fun K hK => ?_); go_simp; refine hK _ ?_; clear hK K)
                  (refine mix_step 10 rfl (by kernel_rfl) (fun K hK => ?_); go_simp; refine hK _ ?_; clear hK K)
                  (refine mix_step 11 rfl (by kernel_rfl) (fun K hK => ?_); go_simp; refine hK _ ?_; clear hK K)
                  (refine mix_step 12 rfl (by kernel_rfl) (fun K hK => ?_); go_simp; refine hK _ ?_; clear hK K)
                  (refine mix_step 13 rfl (by kernel_rfl) (fun K hK => ?_); go_simp; refine hK _ ?_; clear hK K)
                  (refine mix_step 14 rfl (by kernel_rfl) (fun K hK => ?_); go_simp; refine hK _ ?_; clear hK K)
                  (refine mix_step 15 rfl (by kernel_rfl) (fun K hK => ?_); go_simp; refine hK _ ?_; clear hK K)
                  (refine mix_step 16 rfl (by kernel_rfl) (fun K hK => ?_); go_simp; refine hK _ ?_; clear hK K)
                  (refine mix_step 17 rfl (by kernel_rfl) (fun K hK => ?_); go_simp; refine hK _ ?_; clear hK K)
                  refine mix_end' (by kernel_rfl) (fun W1 hb => ?_)
                  replace H := H.ext hb
                  clear hb
                  try clear hcs
                  try clear hargs
                  try simp only [List.set_cons_zero, List.set_cons_succ, World.size_alloc, World.size_setCell, World.size_drew] at H
                  have hcs := H.cells
                  dsimp only [cellsOf, neAll] at hcs
                  try clear hargs
                  have hargs := H.args
                  simp only [List.drop_succ_cons, List.drop_zero]
                  go_wp2_with fail
                  go_meet
                  exact ⟨by rw [bb.out], H⟩
                · have b1 : (o.last != -1) = true := by rw [bne_iff_ne]; exact n1
                  by_cases n2 : o.last = (j : Int)
                  · have b2 : (o.last != (j : Int)) = false := by rw [n2]; simp
                    have bb := Lib.hid (show fO j o = false by unfold fO; rw [b1, b2]; rfl)
                    replace n2 := Lib.hid n2
                    refine wp_region_mix 18 (by kernel_rfl) (by kernel_rfl) ?_
                    (refine mix_step 0 rfl (by kernel_rfl) (fun K hK => ?_); go_simp; refine hK _ ?_; clear hK K)
                    (refine mix_step 1 rfl (by kernel_rfl) (fun K hK => ?_); go_simp; refine hK _ ?_; clear hK K)
                    (refine mix_step 2 rfl (by kernel_rfl) (fun K hK => ?_); go_simp; refine hK _ ?_; clear hK K)
                    (refine mix_step 3 rfl (by kernel_rfl) (fun K hK => ?_); go_simp; refine hK _ ?_; clear hK K)
                    (refine mix_step 4 rfl (by kernel_rfl) (fun K hK => ?_); go_simp; refine hK _ ?_; clear hK K)
                    (refine mix_step 5 rfl (by kernel_rfl) (fun K hK => ?_); go_simp; refine hK _ ?_; clear hK K)
                    (refine mix_step 6 rfl (by kernel_rfl) (fun K hK => ?_); go_simp; refine hK _ ?_; clear hK K)
                    (refine mix_step 7 rfl (by kernel_rfl) (fun K hK => ?_); go_simp; refine hK _ ?_; clear hK K)
                    (refine mix_step 8 rfl (by kernel_rfl) (fun K hK => ?_); go_simp; refine hK _ ?_; clear hK K)
                    (refine mix_step 9 rfl (by kernel_rfl) (fun K hK => ?_); go_simp; refine hK _ ?_; clear hK K)
                    (refine mix_step 10 rfl (by kernel_rfl) (fun K hK => ?_); go_simp; refine hK _ ?_; clear hK K)
                    (refine mix_step 11 rfl (by kernel_rfl) (fun K hK => ?_); go_simp; refine hK _ ?_; clear hK K)
                    (refine mix_step 12 rfl (by kernel_rfl) (fun K hK => ?_); go_simp; refine hK _ ?_; clear hK K)
                    (refine mix_step 13 rfl (by kernel_rfl) (fun K hK => ?_); go_simp; refine hK _ ?_; clear hK K)
                    (refine mix_step 14 rfl (by kernel_rfl) (fun K hK => ?_); go_simp; refine hK _ ?_; clear hK K)
                    (refine mix_step 15 rfl (by kernel_rfl) (fun K hK => ?_); go_simp; refine hK _ ?_; clear hK K)
                    (refine mix_step 16 rfl (by kernel_rfl) (fun K hK => ?_); go_simp; refine hK _ ?_; clear hK K)
                    (refine mix_step 17 rfl (by kernel_rfl) (fun K hK => ?_); go_simp; refine hK _ ?_; clear hK K)
                    refine mix_end' (by kernel_rfl) (fun W1 hb => ?_)
                    replace H := H.ext hb
                    clear hb
                    try clear hcs
                    try clear hargs
                    try simp only [List.set_cons_zero, List.set_cons_succ, World.size_alloc, World.size_setCell, World.size_drew] at H
                    have hcs := H.cells
                    dsimp only [cellsOf, neAll] at hcs
                    try clear hargs
                    have hargs := H.args
                    simp only [List.drop_succ_cons, List.drop_zero]
                    go_wp2_with fail
                    go_meet
                    exact ⟨by rw [bb.out], H⟩
                  · have b2 : (o.last != (j : Int)) = true := by rw [bne_iff_ne]; exact n2
                    have bb := Lib.hid (show fO j o = true by unfold fO; rw [b1, b2]; rfl)
                    refine wp_region_mix 18 (by kernel_rfl) (by kernel_rfl) ?_
                    (refine mix_step 0 rfl (by kernel_rfl) (fun K hK => ?_); go_simp; refine hK _ ?_; clear hK K)
                    (refine mix_step 1 rfl (by kernel_rfl) (fun K hK => ?_); go_simp; refine hK _ ?_; clear hK K)
                    (refine mix_step 2 rfl (by kernel_rfl) (fun K hK => ?_); go_simp; refine hK _ ?_; clear hK K)
                    (refine mix_step 3 rfl (by kernel_rfl) (fun K hK => ?_); go_simp; refine hK _ ?_; clear hK K)
                    (refine mix_step 4 rfl (by kernel_rfl) (fun K hK => ?_); go_simp; refine hK _ ?_; clear hK K)
                    (refine mix_step 5 rfl (by kernel_rfl) (fun K hK => ?_); go_simp; refine hK _ ?_; clear hK K)
                    (refine mix_step 6 rfl (by kernel_rfl) (fun K hK => ?_); go_simp; refine hK _ ?_; clear hK K)
                    (refine mix_step 7 rfl (by kernel_rfl) (fun K hK => ?_); go_simp; refine hK _ ?_; clear hK K)
                    (refine mix_step 8 rfl (by kernel_rfl) (fun K hK => ?_); go_simp; refine hK _ ?_; clear hK K)
                    (refine mix_step 9 rfl (by kernel_rfl) (fun K hK => ?_); go_simp; refine hK _ ?_; clear hK K)
                    (refine mix_step 10 rfl (by kernel_rfl) (fun K hK => ?_); go_simp; refine hK _ ?_; clear hK K)
                    (refine mix_step 11 rfl (by kernel_rfl) (fun K hK => ?_); go_simp; refine hK _ ?_; clear hK K)
                    (refine mix_step 12 rfl (by kernel_rfl) (fun K hK => ?_); go_simp; refine hK _ ?_; clear hK K)
                    (refine mix_step 13 rfl (by kernel_rfl) (fun K hK => ?_); go_simp; refine hK _ ?_; clear hK K)
                    (refine mix_step 14 rfl (by kernel_rfl) (fun K hK => ?_); go_simp; refine hK _ ?_; clear hK K)
                    (refine mix_step 15 rfl (by kernel_rfl) (fun K hK => ?_); go_simp; refine hK _ ?_; clear hK K)
                    (refine mix_step 16 rfl (by kernel_rfl) (fun K hK => ?_); go_simp; refine hK _ ?_; clear hK K)
                    (refine mix_step 17 rfl (by kernel_rfl) (fun K hK => ?_); go_simp; refine hK _ ?_; clear hK K)
                    refine mix_end' (by kernel_rfl) (fun W1 hb => ?_)
                    replace H := H.ext hb
                    clear hb
                    try clear hcs
                    try clear hargs
                    try simp only [List.set_cons_zero, List.set_cons_succ, World.size_alloc, World.size_setCell, World.size_drew] at H
                    have hcs := H.cells
                    dsimp only [cellsOf, neAll] at hcs
                    try clear hargs
                    have hargs := H.args
                    simp only [List.drop_succ_cons, List.drop_zero]
                    go_wp2_with fail
                    go_meet
                    exact ⟨by rw [bb.out], H⟩
              case rest =>
                clear H
                obtain ⟨rfl, H⟩ := hcut
                try clear hcs
                try clear hargs
                try simp only [List.set_cons_zero, List.set_cons_succ, World.size_alloc, World.size_setCell, World.size_drew] at H
                have hcs := H.cells
                dsimp only [cellsOf, neAll] at hcs
                try clear hargs
                have hargs := H.args
                cases hO : fO j o
                · have f2 := Lib.hid (rtCnt_no (e2.out.trans hO))
                  replace hO := Lib.hid hO
                  go_wp2_with fail
                  go_roundg (n - (k + 1))
                  case measure => omega
                  case rel =>
                    refine ⟨k + 1, by omega, rfl, by go_num, ?_⟩
                    rw [f1.out, f2.out]
                    apply St.pick [0, 1, 2, 3] (by decide)
                    case H => repeat (first | with_reducible exact H | with_reducible apply St.alloc | with_reducible apply St.allocAny | with_reducible apply St.set | with_reducible apply St.drew | with_reducible apply St.over | with_reducible exact get0 | with_reducible exact get1 | with_reducible exact get2 | with_reducible exact get3 | with_reducible exact get4 | with_reducible exact get5 | with_reducible exact get6 | with_reducible exact get7 | simp only [List.set_cons_zero, List.set_cons_succ])
                    all_goals first | rfl | simp only [List.set_cons_zero, List.set_cons_succ, World.size_alloc, World.size_setCell, World.size_drew]
                · have f2 := Lib.hid (rtCnt_yes (e2.out.trans hO))
                  replace hO := Lib.hid hO
                  go_wp2_with fail
                  go_roundg (n - (k + 1))
                  case measure => omega
                  case rel =>
                    refine ⟨k + 1, by omega, rfl, by go_num, ?_⟩
                    rw [f1.out, f2.out]
                    apply St.pick [0, 1, 2, 3] (by decide)
                    case H => repeat (first | with_reducible exact H | with_reducible apply St.alloc | with_reducible apply St.allocAny | with_reducible apply St.set | with_reducible apply St.drew | with_reducible apply St.over | with_reducible exact get0 | with_reducible exact get1 | with_reducible exact get2 | with_reducible exact get3 | with_reducible exact get4 | with_reducible exact get5 | with_reducible exact get6 | with_reducible exact get7 | simp only [List.set_cons_zero, List.set_cons_succ])
                    all_goals first | rfl | simp only [List.set_cons_zero, List.set_cons_succ, World.size_alloc, World.size_setCell, World.size_drew]
      · obtain rfl : k = n := by omega
        try clear hcs
        try clear hargs
        try simp only [List.set_cons_zero, List.set_cons_succ, World.size_alloc, World.size_setCell, World.size_drew] at H
        have hcs := H.cells
        dsimp only [cellsOf, neAll] at hcs
        try clear hargs
        have hargs := H.args
        go_wp2
        refine bodyPost_ret (v := .agg #[.int .i64 (t.fixed + t.perMile * s.miles + t.perTick * (s.fin - t.opn)), .int .i64 (rtCnt x.orders visits (fM j) k), .int .i64 (rtCnt x.orders visits (fO j) k), .int .i64 ((s.fin - t.opn) / 64 * ((s.fin - t.opn) / 64))]) (by simp [results, Try.results11, go_sem, hcs]) rfl ⟨by rw [hVV.out], ?_⟩
        apply St.below'
        all_goals (repeat (first | with_reducible exact H | with_reducible apply St.alloc | with_reducible apply St.allocAny | with_reducible apply St.set | with_reducible apply St.drew | with_reducible apply St.over | with_reducible exact get0 | with_reducible exact get1 | with_reducible exact get2 | with_reducible exact get3 | with_reducible exact get4 | with_reducible exact get5 | with_reducible exact get6 | with_reducible exact get7 | simp only [List.set_cons_zero, List.set_cons_succ]))
end Go.Proofs.Ytcmbckcjklociaa
