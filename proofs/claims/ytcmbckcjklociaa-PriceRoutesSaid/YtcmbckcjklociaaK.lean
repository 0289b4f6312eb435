/- Route: walks. -/
import Derived.Test.YtcmbckcjklociaaJ
namespace Go.Proofs.Ytcmbckcjklociaa
set_option linter.unusedSimpArgs false
set_option linter.unusedVariables false
open Go.RowKit

theorem toArr {cs : Array Value} {l : List Value} (h : cs.toList = l) : cs = l.toArray := by rw [← h]

/-- The numbers that can occur. -/
def TameP (x : InstD) (r : RouteD) (s : SheetD) : Prop :=
  x.types.length ≤ 20 ∧ x.orders.length ≤ 40 ∧ r.visits.length ≤ 80 ∧ 0 ≤ s.miles ∧ s.miles ≤ 1000000 ∧ 0 ≤ s.fin ∧ s.fin ≤ 8192 ∧
    ∀ t, 0 ≤ r.typ → x.types[r.typ.toNat]? = some t → 0 ≤ t.opn ∧ t.opn ≤ s.fin ∧ 0 ≤ t.fixed ∧ t.fixed ≤ 100000 ∧ 0 ≤ t.perMile ∧ t.perMile ≤ 100 ∧ 0 ≤ t.perTick ∧ t.perTick ≤ 100

theorem rtV_out {x : InstD} {r : RouteD} {s : SheetD} (h : r.typ < 0 ∨ (x.types.length : Int) ≤ r.typ) : rtV x r s = (0, 0, 0, 0) := by
  unfold rtV
  by_cases h0 : r.typ < 0
  · rw [if_pos h0]
  · rw [if_neg h0, List.getElem?_eq_none (by omega)]

theorem zero_int (w : World) : (zeroValue 3).run Try.prog w = .ok (.int .i64 0) w := by kernel_rfl

set_option maxRecDepth 100000 in
set_option maxHeartbeats 4000000 in
theorem route_any (w : World) (cx cr cs : Array Value) (x : InstD) (r : RouteD) (s : SheetD) {N : Nat} (hx : (rdInst N).holds w cx.toList x) (hr : (rdRoute N).holds w cr.toList r) (hs : (rdSheet N).holds w cs.toList s) (ht : TameP x r s) :
    Calls Try.prog 10 #[.agg cx, .agg cr, .agg cs] w fun e w' => e = .returned (.agg #[.int .i64 ((rtV x r s).1), .int .i64 ((rtV x r s).2.1), .int .i64 ((rtV x r s).2.2.1), .int .i64 ((rtV x r s).2.2.2)]) ∧ Below w.heap.size w w' := by
  obtain ⟨A1, c1, A2, c2, A3, c3, A4, c4, A5, c5, A6, c6, e, hmax, -, -, hR3, hR4, -, -⟩ := inst_cells hx
  obtain rfl := toArr e
  obtain ⟨B1, d1, B2, d2, e, ⟨hr1, hr2⟩, hmr, -, hV⟩ := route_cells hr
  obtain rfl := toArr e
  obtain ⟨C1, f1, e, -, hms, -⟩ := sheet_cells hs
  obtain rfl := toArr e
  clear hx hr hs
  obtain ⟨t1, t2, t3, t4, t5, t6, t7, t8⟩ := ht
  obtain ⟨typ, start, rests, visits⟩ := r
  dsimp only at *
  have hmm := @run_makeMap Try.prog
  have H := St.start w
  by_cases hout : typ < 0 ∨ (x.types.length : Int) ≤ typ
  · have hVV := Lib.hid (rtV_out (r := ⟨typ, start, rests, visits⟩) (s := s) hout)
    go_enter Try.func10, Try.ntmps10
    by_cases h0 : typ < 0
    · go_wp2
      refine bodyPost_ret (v := .agg #[.int .i64 (0), .int .i64 (0), .int .i64 (0), .int .i64 (0)]) (by simp [results, Try.results10, go_sem]) rfl ⟨by rw [hVV.out], ?_⟩
      apply St.below'
      all_goals (repeat (first | with_reducible exact H | with_reducible apply St.alloc | with_reducible apply St.allocAny | with_reducible apply St.set | with_reducible apply St.drew | with_reducible apply St.over | with_reducible exact get0 | with_reducible exact get1 | with_reducible exact get2 | with_reducible exact get3 | with_reducible exact get4 | with_reducible exact get5 | with_reducible exact get6 | with_reducible exact get7 | simp only [List.set_cons_zero, List.set_cons_succ]))
    · have h1 : (x.types.length : Int) ≤ typ := by omega
      clear hout
      go_wp2
      refine bodyPost_ret (v := .agg #[.int .i64 (0), .int .i64 (0), .int .i64 (0), .int .i64 (0)]) (by simp [results, Try.results10, go_sem]) rfl ⟨by rw [hVV.out], ?_⟩
      apply St.below'
      all_goals (repeat (first | with_reducible exact H | with_reducible apply St.alloc | with_reducible apply St.allocAny | with_reducible apply St.set | with_reducible apply St.drew | with_reducible apply St.over | with_reducible exact get0 | with_reducible exact get1 | with_reducible exact get2 | with_reducible exact get3 | with_reducible exact get4 | with_reducible exact get5 | with_reducible exact get6 | with_reducible exact get7 | simp only [List.set_cons_zero, List.set_cons_succ]))
  · obtain ⟨j, rfl⟩ : ∃ j : Nat, typ = j := ⟨typ.toNat, by omega⟩
    have hjl : j < x.types.length := by omega
    have hjl' : (j : Int) < x.types.length := by omega
    obtain ⟨t, hT⟩ : ∃ t, x.types[j]? = some t := ⟨_, List.getElem?_eq_getElem hjl⟩
    obtain ⟨u1, u2, u3, u4, u5, u6, u7, u8⟩ := t8 t (by omega) (by rw [Int.toNat_natCast]; exact hT)
    have hVV : rtV x ⟨j, start, rests, visits⟩ s = (t.fixed + t.perMile * s.miles + t.perTick * (s.fin - t.opn), rtCnt x.orders visits (fM j) visits.length, rtCnt x.orders visits (fO j) visits.length, (s.fin - t.opn) / 64 * ((s.fin - t.opn) / 64)) := by
      unfold rtV; rw [if_neg (by dsimp only; omega), Int.toNat_natCast, hT]
    replace hVV := Lib.hid hVV
    clear t8 hout
    obtain ⟨b, off, cs, rfl, hb, hrow, hc⟩ := hR3 j t hT
    obtain ⟨T1, g1, rfl, -, -, -⟩ := typ_cells hrow
    clear hrow hR3 hT
    rw [rdTyp_size] at hc
    have k0 := hc 0 _ rfl
    have k1 := hc 1 _ rfl
    have k2 := hc 2 _ rfl
    have k3 := hc 3 _ rfl
    have k4 := hc 4 _ rfl
    have k5 := hc 5 _ rfl
    have k6 := hc 6 _ rfl
    have k7 := hc 7 _ rfl
    have k8 := hc 8 _ rfl
    have k9 := hc 9 _ rfl
    have k10 := hc 10 _ rfl
    have k11 := hc 11 _ rfl
    have k12 := hc 12 _ rfl
    have k13 := hc 13 _ rfl
    rw [Nat.add_zero] at k0
    clear hc
    obtain ⟨n, hn⟩ : ∃ n, visits.length = n := ⟨_, rfl⟩
    obtain ⟨no, hno⟩ : ∃ n, x.orders.length = n := ⟨_, rfl⟩
    rw [hn] at hmr t3 hVV ⊢
    rw [hno] at hmax t2 ⊢
    replace hn := Lib.hid hn
    replace hno := Lib.hid hno
    have hM1 : 0 ≤ t.perMile * s.miles ∧ t.perMile * s.miles ≤ 100 * 1000000 := ⟨Int.mul_nonneg (by omega) (by omega), Int.mul_le_mul (by omega) (by omega) (by omega) (by omega)⟩
    have hM2 : 0 ≤ t.perTick * (s.fin - t.opn) ∧ t.perTick * (s.fin - t.opn) ≤ 100 * 8192 := ⟨Int.mul_nonneg (by omega) (by omega), Int.mul_le_mul (by omega) (by omega) (by omega) (by omega)⟩
    have hM3 : 0 ≤ (s.fin - t.opn) / 64 * ((s.fin - t.opn) / 64) ∧ (s.fin - t.opn) / 64 * ((s.fin - t.opn) / 64) ≤ 128 * 128 := ⟨Int.mul_nonneg (by omega) (by omega), Int.mul_le_mul (by omega) (by omega) (by omega) (by omega)⟩
    obtain ⟨hM11, hM12⟩ := hM1
    obtain ⟨hM21, hM22⟩ := hM2
    obtain ⟨hM31, hM32⟩ := hM3
    go_enter Try.func10, Try.ntmps10
    go_upto_region 3 with fail
    apply st_wp
    case H => repeat (first | with_reducible exact H | with_reducible apply St.alloc | with_reducible apply St.allocAny | with_reducible apply St.set | with_reducible apply St.drew | with_reducible apply St.over | with_reducible exact get0 | with_reducible exact get1 | with_reducible exact get2 | with_reducible exact get3 | with_reducible exact get4 | with_reducible exact get5 | with_reducible exact get6 | with_reducible exact get7 | simp only [List.set_cons_zero, List.set_cons_succ])
    clear H
    try clear hcs
    try clear hargs
    intro W H
    try simp only [List.set_cons_zero, List.set_cons_succ, World.size_alloc, World.size_setCell, World.size_drew] at H
    have hcs := H.cells
    dsimp only [cellsOf, neAll] at hcs
    try clear hargs
    have hargs := H.args
    obtain ⟨Wt, rfl⟩ : ∃ x : World, x = W := ⟨_, rfl⟩
    go_upto_region 4 with fail
    apply st_wp
    case H => repeat (first | with_reducible exact H | with_reducible apply St.alloc | with_reducible apply St.allocAny | with_reducible apply St.set | with_reducible apply St.drew | with_reducible apply St.over | with_reducible exact get0 | with_reducible exact get1 | with_reducible exact get2 | with_reducible exact get3 | with_reducible exact get4 | with_reducible exact get5 | with_reducible exact get6 | with_reducible exact get7 | simp only [List.set_cons_zero, List.set_cons_succ])
    clear H
    try clear hcs
    try clear hargs
    intro W H
    try simp only [List.set_cons_zero, List.set_cons_succ, World.size_alloc, World.size_setCell, World.size_drew] at H
    have hcs := H.cells
    dsimp only [cellsOf, neAll] at hcs
    try clear hargs
    have hargs := H.args
    obtain ⟨Wo, rfl⟩ : ∃ x : World, x = W := ⟨_, rfl⟩
    go_upto_region 7 with fail
    apply st_wp
    case H => repeat (first | with_reducible exact H | with_reducible apply St.alloc | with_reducible apply St.allocAny | with_reducible apply St.set | with_reducible apply St.drew | with_reducible apply St.over | with_reducible exact get0 | with_reducible exact get1 | with_reducible exact get2 | with_reducible exact get3 | with_reducible exact get4 | with_reducible exact get5 | with_reducible exact get6 | with_reducible exact get7 | simp only [List.set_cons_zero, List.set_cons_succ])
    clear H
    try clear hcs
    try clear hargs
    intro W H
    try simp only [List.set_cons_zero, List.set_cons_succ, World.size_alloc, World.size_setCell, World.size_drew] at H
    have hcs := H.cells
    dsimp only [cellsOf, neAll] at hcs
    try clear hargs
    have hargs := H.args
    obtain ⟨Wm, rfl⟩ : ∃ x : World, x = W := ⟨_, rfl⟩
    go_wp2_with fail
    replace H := H.addCnt (P := Try.prog) (k := 3) (e := 3)
    rw [← seenF_zero visits] at H
    clear hmm
    go_loopg [61] n (fun g s61 wr => ∃ k : Nat, k ≤ n ∧ g = n - k ∧ s61 = .int .i64 k ∧ St w wr [(Wo.heap.size, 41, [.int .i64 (t.fixed + t.perMile * s.miles + t.perTick * (s.fin - t.opn)), .int .i64 (rtCnt x.orders visits (fM j) k), .int .i64 (rtCnt x.orders visits (fO j) k), .int .i64 ((s.fin - t.opn) / 64 * ((s.fin - t.opn) / 64))]),
      (w.heap.size + 1 + 1 + 1, 41, [.int .i64 (0), .int .i64 (0), .int .i64 (0), .int .i64 (0)]), (w.heap.size + 1, 34, [.int .i64 j, .int .i64 start, .slice B1 rests.length d1, .slice B2 n d2]),
      (w.heap.size, 30, [.slice A1 x.net.places.length c1, .slice A2 x.net.arcs.length c2, .slice (some ⟨b, off, none⟩) x.types.length c3, .slice A4 no c4, .slice A5 x.apart.length c5, .slice A6 x.before.length c6])]
      [cntR Try.prog 3 3 Wm.heap.size k (seenF visits k)])
    case atStart =>
      refine ⟨0, by omega, rfl, rfl, ?_⟩
      apply St.pick [0, 2, 4, 5] (by decide)
      case H => repeat (first | with_reducible exact H | with_reducible apply St.alloc | with_reducible apply St.allocAny | with_reducible apply St.set | with_reducible apply St.drew | with_reducible apply St.over | with_reducible exact get0 | with_reducible exact get1 | with_reducible exact get2 | with_reducible exact get3 | with_reducible exact get4 | with_reducible exact get5 | with_reducible exact get6 | with_reducible exact get7 | simp only [List.set_cons_zero, List.set_cons_succ])
      all_goals first | rfl | simp only [List.set_cons_zero, List.set_cons_succ, World.size_alloc, World.size_setCell, World.size_drew]
    case round =>
      clear H
      obtain ⟨k, hk, rfl, rfl, H⟩ := hrel
      by_cases hkn : k < n
      · have hkn' : (k : Int) < n := by omega
        obtain ⟨⟨vo, vd⟩, hv⟩ : ∃ v, visits[k]? = some v := ⟨_, List.getElem?_eq_getElem (by have := hn.out; omega)⟩
        obtain ⟨b2, off2, cs, rfl, hb2, hrow, hc⟩ := hV k _ hv
        obtain ⟨rfl, hvo⟩ := vis_cells hrow
        rw [rdVis_size] at hc
        have m0 := hc 0 _ rfl
        have m1 := hc 1 _ rfl
        rw [Nat.add_zero] at m0
        clear hc
        dsimp only at m0 m1 hvo
        clear hrow
        have hs := seenF_bd visits k vo
        have hs' := seenF_bd visits (k + 1) vo
        have hsu := Lib.hid (seenF_succ hv)
        have hsb := Lib.hid (seen_beg hv)
        have hcM := rtCnt_bd x.orders visits (fM j) k
        have hcO := rtCnt_bd x.orders visits (fO j) k
        obtain ⟨hs1, hs2⟩ := hs
        obtain ⟨hs3, hs4⟩ := hs'
        obtain ⟨hcM1, hcM2⟩ := hcM
        obtain ⟨hcO1, hcO2⟩ := hcO
        replace hv := Lib.hid hv
        try clear hcs
        try clear hargs
        try simp only [List.set_cons_zero, List.set_cons_succ, World.size_alloc, World.size_setCell, World.size_drew] at H
        have hcs := H.cells
        dsimp only [cellsOf, neAll] at hcs
        try clear hargs
        have hargs := H.args
        go_upto_region 11 with fail
        apply st_wp
        case H => repeat (first | with_reducible exact H | with_reducible apply St.alloc | with_reducible apply St.allocAny | with_reducible apply St.set | with_reducible apply St.drew | with_reducible apply St.over | with_reducible exact get0 | with_reducible exact get1 | with_reducible exact get2 | with_reducible exact get3 | with_reducible exact get4 | with_reducible exact get5 | with_reducible exact get6 | with_reducible exact get7 | simp only [List.set_cons_zero, List.set_cons_succ])
        clear H
        try clear hcs
        try clear hargs
        intro W H
        try simp only [List.set_cons_zero, List.set_cons_succ, World.size_alloc, World.size_setCell, World.size_drew] at H
        have hcs := H.cells
        dsimp only [cellsOf, neAll] at hcs
        try clear hargs
        have hargs := H.args
        obtain ⟨Wv, rfl⟩ : ∃ x : World, x = W := ⟨_, rfl⟩
        have q1 := H.getCnt Try.underlying3 Try.underlying3 Try.underlying58 (zero_int _) hvo
        obtain ⟨w2, q2, H2⟩ := H.putCnt (v := seenF visits k vo + 1) Try.underlying3 Try.underlying3 Try.underlying58 (by unfold maxLen; omega) hvo (by unfold isI; omega)
        rw [hsu.out] at H2
        go_upto_region 12 with fail
        clear H q1 q2
        have H := H2
        clear H2
        try clear hcs
        try clear hargs
        try simp only [List.set_cons_zero, List.set_cons_succ, World.size_alloc, World.size_setCell, World.size_drew] at H
        have hcs := H.cells
        dsimp only [cellsOf, neAll] at hcs
        try clear hargs
        have hargs := H.args
        have q1 := H.getCnt Try.underlying3 Try.underlying3 Try.underlying58 (zero_int _) hvo
        by_cases hv0 : vo < 0
        · have e1 := Lib.hid (rtCnt_no (f := fM j) (rtHit_neg (os := x.orders) hv.out hv0))
          have e2 := Lib.hid (rtCnt_no (f := fO j) (rtHit_neg (os := x.orders) hv.out hv0))
          go_wp2_with fail
          go_roundg (n - (k + 1))
          case measure => omega
          case rel =>
            refine ⟨k + 1, by omega, rfl, by go_num, ?_⟩
            rw [e1.out, e2.out]
            apply St.pick [1, 2, 3, 4] (by decide)
            case H => repeat (first | with_reducible exact H | with_reducible apply St.alloc | with_reducible apply St.allocAny | with_reducible apply St.set | with_reducible apply St.drew | with_reducible apply St.over | with_reducible exact get0 | with_reducible exact get1 | with_reducible exact get2 | with_reducible exact get3 | with_reducible exact get4 | with_reducible exact get5 | with_reducible exact get6 | with_reducible exact get7 | simp only [List.set_cons_zero, List.set_cons_succ])
            all_goals first | rfl | simp only [List.set_cons_zero, List.set_cons_succ, World.size_alloc, World.size_setCell, World.size_drew]
        by_cases hv1 : (no : Int) ≤ vo
        · have e1 := Lib.hid (rtCnt_no (f := fM j) (rtHit_big (os := x.orders) hv.out (by dsimp only; have := hno.out; omega)))
          have e2 := Lib.hid (rtCnt_no (f := fO j) (rtHit_big (os := x.orders) hv.out (by dsimp only; have := hno.out; omega)))
          go_wp2_with fail
          go_roundg (n - (k + 1))
          case measure => omega
          case rel =>
            refine ⟨k + 1, by omega, rfl, by go_num, ?_⟩
            rw [e1.out, e2.out]
            apply St.pick [1, 2, 3, 4] (by decide)
            case H => repeat (first | with_reducible exact H | with_reducible apply St.alloc | with_reducible apply St.allocAny | with_reducible apply St.set | with_reducible apply St.drew | with_reducible apply St.over | with_reducible exact get0 | with_reducible exact get1 | with_reducible exact get2 | with_reducible exact get3 | with_reducible exact get4 | with_reducible exact get5 | with_reducible exact get6 | with_reducible exact get7 | simp only [List.set_cons_zero, List.set_cons_succ])
            all_goals first | rfl | simp only [List.set_cons_zero, List.set_cons_succ, World.size_alloc, World.size_setCell, World.size_drew]
        obtain ⟨i, rfl⟩ : ∃ i : Nat, vo = i := ⟨vo.toNat, by omega⟩
        have hil : i < no := by omega
        have hil' : (i : Int) < no := by omega
        obtain ⟨o, ho⟩ : ∃ o, x.orders[i]? = some o := ⟨_, List.getElem?_eq_getElem (by have := hno.out; omega)⟩
        have ho' : x.orders[((⟨i, vd⟩ : VisD).order).toNat]? = some o := by dsimp only; rw [Int.toNat_natCast]; exact ho
        by_cases hsn : 1 < seenF visits (k + 1) i
        · have hbg : begB visits k ((⟨i, vd⟩ : VisD).order) = false := by rw [hsb.out]; exact decide_eq_false (by dsimp only; omega)
          have e1 := Lib.hid (rtCnt_no (f := fM j) (rtHit_seen (os := x.orders) hv.out hv0 ho' hbg))
          have e2 := Lib.hid (rtCnt_no (f := fO j) (rtHit_seen (os := x.orders) hv.out hv0 ho' hbg))
          clear ho ho' hbg
          go_wp2_with fail
          go_roundg (n - (k + 1))
          case measure => omega
          case rel =>
            refine ⟨k + 1, by omega, rfl, by go_num, ?_⟩
            rw [e1.out, e2.out]
            apply St.pick [1, 2, 3, 4] (by decide)
            case H => repeat (first | with_reducible exact H | with_reducible apply St.alloc | with_reducible apply St.allocAny | with_reducible apply St.set | with_reducible apply St.drew | with_reducible apply St.over | with_reducible exact get0 | with_reducible exact get1 | with_reducible exact get2 | with_reducible exact get3 | with_reducible exact get4 | with_reducible exact get5 | with_reducible exact get6 | with_reducible exact get7 | simp only [List.set_cons_zero, List.set_cons_succ])
            all_goals first | rfl | simp only [List.set_cons_zero, List.set_cons_succ, World.size_alloc, World.size_setCell, World.size_drew]
        · have hbg : begB visits k ((⟨i, vd⟩ : VisD).order) = true := by rw [hsb.out]; exact decide_eq_true (by dsimp only; omega)
          have e1 := Lib.hid (rtHit_is (f := fM j) (os := x.orders) hv.out hv0 ho' hbg)
          have e2 := Lib.hid (rtHit_is (f := fO j) (os := x.orders) hv.out hv0 ho' hbg)
          clear ho' hbg
          obtain ⟨b3, off3, cs, rfl, hb3, hrow, hc⟩ := hR4 i o ho
          obtain ⟨L1, l1, rfl, hoi, -, -⟩ := ord_cells hrow
          rw [rdOrd_size] at hc
          have z0 := hc 0 _ rfl
          have z1 := hc 1 _ rfl
          have z2 := hc 2 _ rfl
          have z3 := hc 3 _ rfl
          have z4 := hc 4 _ rfl
          have z5 := hc 5 _ rfl
          have z6 := hc 6 _ rfl
          have z7 := hc 7 _ rfl
          have z8 := hc 8 _ rfl
          have z9 := hc 9 _ rfl
          have z10 := hc 10 _ rfl
          have z11 := hc 11 _ rfl
          have z12 := hc 12 _ rfl
          have z13 := hc 13 _ rfl
          have z14 := hc 14 _ rfl
          have z15 := hc 15 _ rfl
          rw [Nat.add_zero] at z0
          clear hc
          clear hrow ho hoi
          go_upto_region 14 with fail
          apply st_wp
          case H => repeat (first | with_reducible exact H | with_reducible apply St.alloc | with_reducible apply St.allocAny | with_reducible apply St.set | with_reducible apply St.drew | with_reducible apply St.over | with_reducible exact get0 | with_reducible exact get1 | with_reducible exact get2 | with_reducible exact get3 | with_reducible exact get4 | with_reducible exact get5 | with_reducible exact get6 | with_reducible exact get7 | simp only [List.set_cons_zero, List.set_cons_succ])
          clear H
          try clear hcs
          try clear hargs
          intro W H
          try simp only [List.set_cons_zero, List.set_cons_succ, World.size_alloc, World.size_setCell, World.size_drew] at H
          have hcs := H.cells
          dsimp only [cellsOf, neAll] at hcs
          try clear hargs
          have hargs := H.args
          clear q1
          go_wp2_with fail
          apply st_calls
          case H => repeat (first | with_reducible exact H | with_reducible apply St.alloc | with_reducible apply St.allocAny | with_reducible apply St.set | with_reducible apply St.drew | with_reducible apply St.over | with_reducible exact get0 | with_reducible exact get1 | with_reducible exact get2 | with_reducible exact get3 | with_reducible exact get4 | with_reducible exact get5 | with_reducible exact get6 | with_reducible exact get7 | simp only [List.set_cons_zero, List.set_cons_succ])
          clear H
          try clear hcs
          try clear hargs
          intro W H
          try simp only [List.set_cons_zero, List.set_cons_succ, World.size_alloc, World.size_setCell, World.size_drew] at H
          have hcs := H.cells
          dsimp only [cellsOf, neAll] at hcs
          try clear hargs
          have hargs := H.args
          refine (foreign_any _ _ _).mono ?_
          rintro e w1 ⟨rfl, hb⟩
          replace H := H.ext hb
          clear hb
          try clear hcs
          try clear hargs
          try simp only [List.set_cons_zero, List.set_cons_succ, World.size_alloc, World.size_setCell, World.size_drew] at H
          have hcs := H.cells
          dsimp only [cellsOf, neAll] at hcs
          try clear hargs
          have hargs := H.args
          cases hM : (o.now != -1 && o.now != (j : Int))
          · have f1 := Lib.hid (rtCnt_no (e1.out.trans hM))
            replace hM := Lib.hid hM
            go_wp2_with fail
            apply st_calls
            case H => repeat (first | with_reducible exact H | with_reducible apply St.alloc | with_reducible apply St.allocAny | with_reducible apply St.set | with_reducible apply St.drew | with_reducible apply St.over | with_reducible exact get0 | with_reducible exact get1 | with_reducible exact get2 | with_reducible exact get3 | with_reducible exact get4 | with_reducible exact get5 | with_reducible exact get6 | with_reducible exact get7 | simp only [List.set_cons_zero, List.set_cons_succ])
            clear H
            try clear hcs
            try clear hargs
            intro W H
            try simp only [List.set_cons_zero, List.set_cons_succ, World.size_alloc, World.size_setCell, World.size_drew] at H
            have hcs := H.cells
            dsimp only [cellsOf, neAll] at hcs
            try clear hargs
            have hargs := H.args
            refine (foreign_any _ _ _).mono ?_
            rintro e w1 ⟨rfl, hb⟩
            replace H := H.ext hb
            clear hb
            try clear hcs
            try clear hargs
            try simp only [List.set_cons_zero, List.set_cons_succ, World.size_alloc, World.size_setCell, World.size_drew] at H
            have hcs := H.cells
            dsimp only [cellsOf, neAll] at hcs
            try clear hargs
            have hargs := H.args
            cases hO : (o.last != -1 && o.last != (j : Int))
            · have f2 := Lib.hid (rtCnt_no (e2.out.trans hO))
              replace hO := Lib.hid hO
              go_wp2_with fail
              go_roundg (n - (k + 1))
              case measure => omega
              case rel =>
                refine ⟨k + 1, by omega, rfl, by go_num, ?_⟩
                rw [f1.out, f2.out]
                apply St.pick [2, 3, 4, 5] (by decide)
                case H => repeat (first | with_reducible exact H | with_reducible apply St.alloc | with_reducible apply St.allocAny | with_reducible apply St.set | with_reducible apply St.drew | with_reducible apply St.over | with_reducible exact get0 | with_reducible exact get1 | with_reducible exact get2 | with_reducible exact get3 | with_reducible exact get4 | with_reducible exact get5 | with_reducible exact get6 | with_reducible exact get7 | simp only [List.set_cons_zero, List.set_cons_succ])
                all_goals first | rfl | simp only [List.set_cons_zero, List.set_cons_succ, World.size_alloc, World.size_setCell, World.size_drew]
            · have f2 := Lib.hid (rtCnt_yes (e2.out.trans hO))
              replace hO := Lib.hid hO
              go_wp2_with fail
              go_roundg (n - (k + 1))
              case measure => omega
              case rel =>
                refine ⟨k + 1, by omega, rfl, by go_num, ?_⟩
                rw [f1.out, f2.out]
                apply St.pick [2, 3, 4, 5] (by decide)
                case H => repeat (first | with_reducible exact H | with_reducible apply St.alloc | with_reducible apply St.allocAny | with_reducible apply St.set | with_reducible apply St.drew | with_reducible apply St.over | with_reducible exact get0 | with_reducible exact get1 | with_reducible exact get2 | with_reducible exact get3 | with_reducible exact get4 | with_reducible exact get5 | with_reducible exact get6 | with_reducible exact get7 | simp only [List.set_cons_zero, List.set_cons_succ])
                all_goals first | rfl | simp only [List.set_cons_zero, List.set_cons_succ, World.size_alloc, World.size_setCell, World.size_drew]
          · have f1 := Lib.hid (rtCnt_yes (e1.out.trans hM))
            replace hM := Lib.hid hM
            go_upto_region 16 with fail
            apply st_wp
            case H => repeat (first | with_reducible exact H | with_reducible apply St.alloc | with_reducible apply St.allocAny | with_reducible apply St.set | with_reducible apply St.drew | with_reducible apply St.over | with_reducible exact get0 | with_reducible exact get1 | with_reducible exact get2 | with_reducible exact get3 | with_reducible exact get4 | with_reducible exact get5 | with_reducible exact get6 | with_reducible exact get7 | simp only [List.set_cons_zero, List.set_cons_succ])
            clear H
            try clear hcs
            try clear hargs
            intro W H
            try simp only [List.set_cons_zero, List.set_cons_succ, World.size_alloc, World.size_setCell, World.size_drew] at H
            have hcs := H.cells
            dsimp only [cellsOf, neAll] at hcs
            try clear hargs
            have hargs := H.args
            go_wp2_with fail
            apply st_calls
            case H => repeat (first | with_reducible exact H | with_reducible apply St.alloc | with_reducible apply St.allocAny | with_reducible apply St.set | with_reducible apply St.drew | with_reducible apply St.over | with_reducible exact get0 | with_reducible exact get1 | with_reducible exact get2 | with_reducible exact get3 | with_reducible exact get4 | with_reducible exact get5 | with_reducible exact get6 | with_reducible exact get7 | simp only [List.set_cons_zero, List.set_cons_succ])
            clear H
            try clear hcs
            try clear hargs
            intro W H
            try simp only [List.set_cons_zero, List.set_cons_succ, World.size_alloc, World.size_setCell, World.size_drew] at H
            have hcs := H.cells
            dsimp only [cellsOf, neAll] at hcs
            try clear hargs
            have hargs := H.args
            refine (foreign_any _ _ _).mono ?_
            rintro e w1 ⟨rfl, hb⟩
            replace H := H.ext hb
            clear hb
            try clear hcs
            try clear hargs
            try simp only [List.set_cons_zero, List.set_cons_succ, World.size_alloc, World.size_setCell, World.size_drew] at H
            have hcs := H.cells
            dsimp only [cellsOf, neAll] at hcs
            try clear hargs
            have hargs := H.args
            cases hO : (o.last != -1 && o.last != (j : Int))
            · have f2 := Lib.hid (rtCnt_no (e2.out.trans hO))
              replace hO := Lib.hid hO
              go_wp2_with fail
              go_roundg (n - (k + 1))
              case measure => omega
              case rel =>
                refine ⟨k + 1, by omega, rfl, by go_num, ?_⟩
                rw [f1.out, f2.out]
                apply St.pick [2, 3, 4, 5] (by decide)
                case H => repeat (first | with_reducible exact H | with_reducible apply St.alloc | with_reducible apply St.allocAny | with_reducible apply St.set | with_reducible apply St.drew | with_reducible apply St.over | with_reducible exact get0 | with_reducible exact get1 | with_reducible exact get2 | with_reducible exact get3 | with_reducible exact get4 | with_reducible exact get5 | with_reducible exact get6 | with_reducible exact get7 | simp only [List.set_cons_zero, List.set_cons_succ])
                all_goals first | rfl | simp only [List.set_cons_zero, List.set_cons_succ, World.size_alloc, World.size_setCell, World.size_drew]
            · have f2 := Lib.hid (rtCnt_yes (e2.out.trans hO))
              replace hO := Lib.hid hO
              go_wp2_with fail
              go_roundg (n - (k + 1))
              case measure => omega
              case rel =>
                refine ⟨k + 1, by omega, rfl, by go_num, ?_⟩
                rw [f1.out, f2.out]
                apply St.pick [2, 3, 4, 5] (by decide)
                case H => repeat (first | with_reducible exact H | with_reducible apply St.alloc | with_reducible apply St.allocAny | with_reducible apply St.set | with_reducible apply St.drew | with_reducible apply St.over | with_reducible exact get0 | with_reducible exact get1 | with_reducible exact get2 | with_reducible exact get3 | with_reducible exact get4 | with_reducible exact get5 | with_reducible exact get6 | with_reducible exact get7 | simp only [List.set_cons_zero, List.set_cons_succ])
                all_goals first | rfl | simp only [List.set_cons_zero, List.set_cons_succ, World.size_alloc, World.size_setCell, World.size_drew]
      · obtain rfl : k = n := by omega
        try clear hcs
        try clear hargs
        try simp only [List.set_cons_zero, List.set_cons_succ, World.size_alloc, World.size_setCell, World.size_drew] at H
        have hcs := H.cells
        dsimp only [cellsOf, neAll] at hcs
        try clear hargs
        have hargs := H.args
        go_wp2
        refine bodyPost_ret (v := .agg #[.int .i64 (t.fixed + t.perMile * s.miles + t.perTick * (s.fin - t.opn)), .int .i64 (rtCnt x.orders visits (fM j) k), .int .i64 (rtCnt x.orders visits (fO j) k), .int .i64 ((s.fin - t.opn) / 64 * ((s.fin - t.opn) / 64))]) (by simp [results, Try.results10, go_sem, hcs]) rfl ⟨by rw [hVV.out], ?_⟩
        apply St.below'
        all_goals (repeat (first | with_reducible exact H | with_reducible apply St.alloc | with_reducible apply St.allocAny | with_reducible apply St.set | with_reducible apply St.drew | with_reducible apply St.over | with_reducible exact get0 | with_reducible exact get1 | with_reducible exact get2 | with_reducible exact get3 | with_reducible exact get4 | with_reducible exact get5 | with_reducible exact get6 | with_reducible exact get7 | simp only [List.set_cons_zero, List.set_cons_succ]))
end Go.Proofs.Ytcmbckcjklociaa
