/- Package travel, lorryref07: Same; the law TravelSame: walks. -/
import Derived.Test.YtdpgdbkacmmmjaaDoorTP
namespace Go.Proofs.YtdpgdbkacmmmjaaDoor
open Go.RowKit

def SameP (a b : List Pt) : Prop := rightB a = true ∧ rightB b = true ∧ ∀ t : Int, 0 ≤ t → t ≤ 4096 → arrV a t = arrV b t
theorem SameP_symm {a b : List Pt} (h : SameP a b) : SameP b a := ⟨h.2.1, h.1, fun t h1 h2 => (h.2.2 t h1 h2).symm⟩
theorem SameP_self {a : List Pt} : SameP a a ↔ rightB a = true := ⟨fun h => h.1, fun h => ⟨h, h, fun _ _ _ => rfl⟩⟩
theorem bool_eq {s s' : Bool} {P : Prop} (h : s = true ↔ P) (h' : s' = true ↔ P) : s = s' := by
  cases s <;> cases s' <;> simp_all

set_option maxRecDepth 100000 in
set_option maxHeartbeats 1000000 in
theorem Same_any (A B : Option Addr) (n c m c' : Nat) (ps qs : List Pt) (hlen : ps.length = n) (hn : n ≤ 40) (hlen' : qs.length = m) (hm : m ≤ 40) (w : World) (hR : PR w A ps) (hP : PB ps) (hR' : PR w B qs) (hP' : PB qs) :
    Calls Tryd.prog 19 #[.slice A n c, .slice B m c'] w fun e w' => ∃ s : Bool, (s = true ↔ SameP ps qs) ∧ e = .returned (.bool s) ∧ Below w.heap.size w w' := by
  have H := St.start w
  go_enter Tryd.func19, Tryd.ntmps19
  go_wp2_with fail
  apply st_calls
  case H => repeat (first | with_reducible exact H | with_reducible apply St.alloc | with_reducible apply St.allocAny | with_reducible apply St.set | with_reducible apply St.drew | with_reducible apply St.over | with_reducible exact get0 | with_reducible exact get1 | with_reducible exact get2 | with_reducible exact get3 | with_reducible exact get4 | with_reducible exact get5 | with_reducible exact get6 | with_reducible exact get7 | simp only [List.set_cons_zero, List.set_cons_succ])
  clear H
  try clear hcs
  try clear hargs
  intro W H
  try simp only [List.set_cons_zero, List.set_cons_succ, World.size_alloc, World.size_setCell, World.size_drew] at H
  have hcs := H.cells
  dsimp only [cellsOf, neAll] at hcs
  try clear hargs
  have hargs := H.args
  refine (right_any A n c ps hlen hn _ (hR.ext H.below) hP).mono ?_
  rintro e w1 ⟨rfl, hb⟩
  replace H := H.ext hb
  clear hb
  try clear hcs
  try clear hargs
  try simp only [List.set_cons_zero, List.set_cons_succ, World.size_alloc, World.size_setCell, World.size_drew] at H
  have hcs := H.cells
  dsimp only [cellsOf, neAll] at hcs
  try clear hargs
  have hargs := H.args
  cases hb : rightB ps
  · have hno := Lib.hid (show ((false = true) ↔ SameP ps qs) from ⟨fun h => (by cases h), fun h => by rw [h.1] at hb; cases hb⟩)
    go_wp2
    refine bodyPost_ret (v := .bool false) (by simp [results, Tryd.results19, go_sem]) rfl ?_
    exact ⟨false, hno.out, rfl, H.below⟩
  · have hr := right_of hb
    go_wp2_with fail
    apply st_calls
    case H => repeat (first | with_reducible exact H | with_reducible apply St.alloc | with_reducible apply St.allocAny | with_reducible apply St.set | with_reducible apply St.drew | with_reducible apply St.over | with_reducible exact get0 | with_reducible exact get1 | with_reducible exact get2 | with_reducible exact get3 | with_reducible exact get4 | with_reducible exact get5 | with_reducible exact get6 | with_reducible exact get7 | simp only [List.set_cons_zero, List.set_cons_succ])
    clear H
    try clear hcs
    try clear hargs
    intro W H
    try simp only [List.set_cons_zero, List.set_cons_succ, World.size_alloc, World.size_setCell, World.size_drew] at H
    have hcs := H.cells
    dsimp only [cellsOf, neAll] at hcs
    try clear hargs
    have hargs := H.args
    refine (right_any B m c' qs hlen' hm _ (hR'.ext H.below) hP').mono ?_
    rintro e w1 ⟨rfl, hb⟩
    replace H := H.ext hb
    clear hb
    try clear hcs
    try clear hargs
    try simp only [List.set_cons_zero, List.set_cons_succ, World.size_alloc, World.size_setCell, World.size_drew] at H
    have hcs := H.cells
    dsimp only [cellsOf, neAll] at hcs
    try clear hargs
    have hargs := H.args
    cases hb' : rightB qs
    · have hno := Lib.hid (show ((false = true) ↔ SameP ps qs) from ⟨fun h => (by cases h), fun h => by rw [h.2.1] at hb'; cases hb'⟩)
      go_wp2
      refine bodyPost_ret (v := .bool false) (by simp [results, Tryd.results19, go_sem]) rfl ?_
      exact ⟨false, hno.out, rfl, H.below⟩
    · have hr' := right_of hb'
      replace hb := Lib.hid hb
      replace hb' := Lib.hid hb'
      go_wp2_with fail
      go_loopg [14] 4097 (fun g s14 wr => ∃ k : Nat, k ≤ 4097 ∧ g = 4097 - k ∧ s14 = .int .i64 k ∧ (∀ t : Int, 0 ≤ t → t < k → arrV ps t = arrV qs t) ∧ St w wr [] [])
      case atStart => exact ⟨0, by omega, by omega, rfl, fun t h1 h2 => absurd h2 (by omega), H⟩
      case round =>
        clear H
        obtain ⟨k, hk, rfl, rfl, heq, H⟩ := hrel
        replace heq := Lib.hid heq
        try clear hcs
        try clear hargs
        try simp only [List.set_cons_zero, List.set_cons_succ, World.size_alloc, World.size_setCell, World.size_drew] at H
        have hcs := H.cells
        dsimp only [cellsOf, neAll] at hcs
        try clear hargs
        have hargs := H.args
        by_cases hkn : k < 4097
        · have hkn' : (k : Int) < 4097 := by omega
          go_wp2_with fail
          apply st_calls
          case H => repeat (first | with_reducible exact H | with_reducible apply St.alloc | with_reducible apply St.allocAny | with_reducible apply St.set | with_reducible apply St.drew | with_reducible apply St.over | with_reducible exact get0 | with_reducible exact get1 | with_reducible exact get2 | with_reducible exact get3 | with_reducible exact get4 | with_reducible exact get5 | with_reducible exact get6 | with_reducible exact get7 | simp only [List.set_cons_zero, List.set_cons_succ])
          clear H
          try clear hcs
          try clear hargs
          intro W H
          try simp only [List.set_cons_zero, List.set_cons_succ, World.size_alloc, World.size_setCell, World.size_drew] at H
          have hcs := H.cells
          dsimp only [cellsOf, neAll] at hcs
          try clear hargs
          have hargs := H.args
          refine (arrive_any A n c ps hlen hr k (by omega) (by omega) _ (hR.ext H.below)).mono ?_
          rintro e w1 ⟨rfl, hb⟩
          replace H := H.ext hb
          clear hb
          try clear hcs
          try clear hargs
          try simp only [List.set_cons_zero, List.set_cons_succ, World.size_alloc, World.size_setCell, World.size_drew] at H
          have hcs := H.cells
          dsimp only [cellsOf, neAll] at hcs
          try clear hargs
          have hargs := H.args
          go_wp2_with fail
          apply st_calls
          case H => repeat (first | with_reducible exact H | with_reducible apply St.alloc | with_reducible apply St.allocAny | with_reducible apply St.set | with_reducible apply St.drew | with_reducible apply St.over | with_reducible exact get0 | with_reducible exact get1 | with_reducible exact get2 | with_reducible exact get3 | with_reducible exact get4 | with_reducible exact get5 | with_reducible exact get6 | with_reducible exact get7 | simp only [List.set_cons_zero, List.set_cons_succ])
          clear H
          try clear hcs
          try clear hargs
          intro W H
          try simp only [List.set_cons_zero, List.set_cons_succ, World.size_alloc, World.size_setCell, World.size_drew] at H
          have hcs := H.cells
          dsimp only [cellsOf, neAll] at hcs
          try clear hargs
          have hargs := H.args
          refine (arrive_any B m c' qs hlen' hr' k (by omega) (by omega) _ (hR'.ext H.below)).mono ?_
          rintro e w1 ⟨rfl, hb⟩
          replace H := H.ext hb
          clear hb
          try clear hcs
          try clear hargs
          try simp only [List.set_cons_zero, List.set_cons_succ, World.size_alloc, World.size_setCell, World.size_drew] at H
          have hcs := H.cells
          dsimp only [cellsOf, neAll] at hcs
          try clear hargs
          have hargs := H.args
          by_cases hv : arrV ps k = arrV qs k
          · have hvh := Lib.hid hv
            rw [hv]
            clear hv
            go_wp2_with fail
            go_roundg (4097 - (k + 1))
            case measure => omega
            case rel =>
              refine ⟨k + 1, by omega, rfl, by go_num, fun t h1 h2 => ?_, H⟩
              by_cases hlt : t < k
              · exact heq.out t h1 hlt
              · have : t = k := by omega
                rw [this]; exact hvh.out
          · have hno := Lib.hid (show ((false = true) ↔ SameP ps qs) from ⟨fun h => (by cases h), fun h => absurd (h.2.2 k (by omega) (by omega)) hv⟩)
            go_wp2
            refine bodyPost_ret (v := .bool false) (by simp [results, Tryd.results19, go_sem]) rfl ?_
            exact ⟨false, hno.out, rfl, H.below⟩
        · obtain rfl : k = 4097 := by omega
          have hyes := Lib.hid (show ((true = true) ↔ SameP ps qs) from ⟨fun _ => ⟨hb.out, hb'.out, fun t h1 h2 => heq.out t h1 (by omega)⟩, fun _ => rfl⟩)
          go_wp2
          refine bodyPost_ret (v := .bool true) (by simp [results, Tryd.results19, go_sem]) rfl ?_
          first | exact ⟨true, hyes.out, rfl, H.below⟩ | exact .inr ⟨hyes.out.1 trivial, rfl, H.below⟩

set_option maxRecDepth 100000 in
set_option maxHeartbeats 1000000 in
theorem refSame_any (A B : Option Addr) (n c m c' : Nat) (ps qs : List Pt) (hlen : ps.length = n) (hn : n ≤ 40) (hlen' : qs.length = m) (hm : m ≤ 40) (w : World) (hR : PR w A ps) (hP : PB ps) (hR' : PR w B qs) (hP' : PB qs) :
    Calls Tryd.prog 20 #[.slice A n c, .slice B m c'] w fun e w' => ∃ s : Bool, (s = true ↔ SameP ps qs) ∧ e = .returned (.bool s) ∧ Below w.heap.size w w' := by
  have H := St.start w
  go_enter Tryd.func20, Tryd.ntmps20
  go_wp2_with fail
  refine (refCheck_any A n c ps hlen hn w hR hP).mono ?_
  rintro e w1 ⟨u, k1, rfl, hrow, hb⟩
  obtain ⟨A', c1, rfl⟩ := ownsRow_form hrow
  have hrl := right_len hlen hrow.1
  clear hrow
  replace H := H.ext hb
  clear hb
  rcases hrl with ⟨hb, rfl⟩ | ⟨hb, hk1⟩
  · have hr := right_of hb
    go_wp2_with fail
    refine (refCheck_any B m c' qs hlen' hm _ (hR'.ext H.below) hP').mono ?_
    rintro e w2 ⟨u, k2, rfl, hrow, hb2⟩
    obtain ⟨B', c2, rfl⟩ := ownsRow_form hrow
    have hrl := right_len hlen' hrow.1
    clear hrow
    replace H := H.ext hb2
    clear hb2
    rcases hrl with ⟨hb', rfl⟩ | ⟨hb', hk2⟩
    · have hr' := right_of hb'
      replace hb := Lib.hid hb
      replace hb' := Lib.hid hb'
      go_wp2_with fail
      go_loopg [5] 4097 (fun g s5 wr => ∃ k : Nat, k ≤ 4097 ∧ g = 4097 - k ∧ s5 = .int .i64 k ∧ (∀ t : Int, 0 ≤ t → t < k → arrV ps t = arrV qs t) ∧ St w wr [] [])
      case atStart => exact ⟨0, by omega, by omega, rfl, fun t h1 h2 => absurd h2 (by omega), H⟩
      case round =>
        clear H
        obtain ⟨k, hk, rfl, rfl, heq, H⟩ := hrel
        replace heq := Lib.hid heq
        try clear hcs
        try clear hargs
        try simp only [List.set_cons_zero, List.set_cons_succ, World.size_alloc, World.size_setCell, World.size_drew] at H
        have hcs := H.cells
        dsimp only [cellsOf, neAll] at hcs
        try clear hargs
        have hargs := H.args
        by_cases hkn : k < 4097
        · have hkn' : (k : Int) ≤ 4096 := by omega
          have e1 := Lib.hid (ArrR_in hb.out (t := (k : Int)) (by omega) (by omega))
          have e2 := Lib.hid (ArrR_in hb'.out (t := (k : Int)) (by omega) (by omega))
          go_wp2_with fail
          apply st_calls
          case H => repeat (first | with_reducible exact H | with_reducible apply St.alloc | with_reducible apply St.allocAny | with_reducible apply St.set | with_reducible apply St.drew | with_reducible apply St.over | with_reducible exact get0 | with_reducible exact get1 | with_reducible exact get2 | with_reducible exact get3 | with_reducible exact get4 | with_reducible exact get5 | with_reducible exact get6 | with_reducible exact get7 | simp only [List.set_cons_zero, List.set_cons_succ])
          clear H
          try clear hcs
          try clear hargs
          intro W H
          try simp only [List.set_cons_zero, List.set_cons_succ, World.size_alloc, World.size_setCell, World.size_drew] at H
          have hcs := H.cells
          dsimp only [cellsOf, neAll] at hcs
          try clear hargs
          have hargs := H.args
          refine (refArrive_any A n c ps hlen hn k ⟨by omega, by omega⟩ _ (hR.ext H.below) hP).mono ?_
          rintro e w1 ⟨rfl, hb⟩
          replace H := H.ext hb
          clear hb
          try clear hcs
          try clear hargs
          try simp only [List.set_cons_zero, List.set_cons_succ, World.size_alloc, World.size_setCell, World.size_drew] at H
          have hcs := H.cells
          dsimp only [cellsOf, neAll] at hcs
          try clear hargs
          have hargs := H.args
          rw [e1.out]
          go_wp2_with fail
          apply st_calls
          case H => repeat (first | with_reducible exact H | with_reducible apply St.alloc | with_reducible apply St.allocAny | with_reducible apply St.set | with_reducible apply St.drew | with_reducible apply St.over | with_reducible exact get0 | with_reducible exact get1 | with_reducible exact get2 | with_reducible exact get3 | with_reducible exact get4 | with_reducible exact get5 | with_reducible exact get6 | with_reducible exact get7 | simp only [List.set_cons_zero, List.set_cons_succ])
          clear H
          try clear hcs
          try clear hargs
          intro W H
          try simp only [List.set_cons_zero, List.set_cons_succ, World.size_alloc, World.size_setCell, World.size_drew] at H
          have hcs := H.cells
          dsimp only [cellsOf, neAll] at hcs
          try clear hargs
          have hargs := H.args
          refine (refArrive_any B m c' qs hlen' hm k ⟨by omega, by omega⟩ _ (hR'.ext H.below) hP').mono ?_
          rintro e w1 ⟨rfl, hb⟩
          replace H := H.ext hb
          clear hb
          try clear hcs
          try clear hargs
          try simp only [List.set_cons_zero, List.set_cons_succ, World.size_alloc, World.size_setCell, World.size_drew] at H
          have hcs := H.cells
          dsimp only [cellsOf, neAll] at hcs
          try clear hargs
          have hargs := H.args
          rw [e2.out]
          by_cases hv : arrV ps k = arrV qs k
          · have hvh := Lib.hid hv
            rw [hv]
            clear hv
            go_wp2_with fail
            go_roundg (4097 - (k + 1))
            case measure => omega
            case rel =>
              refine ⟨k + 1, by omega, rfl, by go_num, fun t h1 h2 => ?_, H⟩
              by_cases hlt : t < k
              · exact heq.out t h1 hlt
              · have : t = k := by omega
                rw [this]; exact hvh.out
          · have hno := Lib.hid (show ((false = true) ↔ SameP ps qs) from ⟨fun h => (by cases h), fun h => absurd (h.2.2 k (by omega) (by omega)) hv⟩)
            go_wp2
            refine bodyPost_ret (v := .bool false) (by simp [results, Tryd.results20, go_sem]) rfl ?_
            exact ⟨false, hno.out, rfl, H.below⟩
        · obtain rfl : k = 4097 := by omega
          have hyes := Lib.hid (show ((true = true) ↔ SameP ps qs) from ⟨fun _ => ⟨hb.out, hb'.out, fun t h1 h2 => heq.out t h1 (by omega)⟩, fun _ => rfl⟩)
          go_wp2
          refine bodyPost_ret (v := .bool true) (by simp [results, Tryd.results20, go_sem]) rfl ?_
          first | exact ⟨true, hyes.out, rfl, H.below⟩ | exact .inr ⟨hyes.out.1 trivial, rfl, H.below⟩
    · have hno := Lib.hid (show ((false = true) ↔ SameP ps qs) from ⟨fun h => (by cases h), fun h => by rw [h.2.1] at hb'; cases hb'⟩)
      have hk2' : (0 : Int) < k2 := by omega
      go_wp2
      refine bodyPost_ret (v := .bool false) (by simp [results, Tryd.results20, go_sem]) rfl ?_
      exact ⟨false, hno.out, rfl, H.below⟩
  · have hno := Lib.hid (show ((false = true) ↔ SameP ps qs) from ⟨fun h => (by cases h), fun h => by rw [h.1] at hb; cases hb⟩)
    have hk1' : (0 : Int) < k1 := by omega
    go_wp2
    refine bodyPost_ret (v := .bool false) (by simp [results, Tryd.results20, go_sem]) rfl ?_
    exact ⟨false, hno.out, rfl, H.below⟩

set_option maxRecDepth 100000 in
set_option maxHeartbeats 1000000 in
theorem same_true (A B : Option Addr) (n c m c' : Nat) (ps qs : List Pt) (hlen : ps.length = n) (hlen' : qs.length = m) (t : Int) (ht : inI t) (w : World) (hR : PR w A ps) (hP : PB ps) (hR' : PR w B qs) (hP' : PB qs) :
    Calls Tryd.prog 8 #[.slice A n c, .slice B m c', .int .i64 t] w fun e w' => e = .returned (.bool true) ∧ Below w.heap.size w w' := by
  obtain ⟨ht1, ht2⟩ := ht
  have H := St.start w
  go_enter Tryd.func8, Tryd.ntmps8
  by_cases hn : 20 < n
  · have hn' : (20 : Int) < n := by omega
    go_wp2_with fail
    apply st_calls
    case H => repeat (first | with_reducible exact H | with_reducible apply St.alloc | with_reducible apply St.allocAny | with_reducible apply St.set | with_reducible apply St.drew | with_reducible apply St.over | with_reducible exact get0 | with_reducible exact get1 | with_reducible exact get2 | with_reducible exact get3 | with_reducible exact get4 | with_reducible exact get5 | with_reducible exact get6 | with_reducible exact get7 | simp only [List.set_cons_zero, List.set_cons_succ])
    clear H
    try clear hcs
    try clear hargs
    intro W H
    try simp only [List.set_cons_zero, List.set_cons_succ, World.size_alloc, World.size_setCell, World.size_drew] at H
    have hcs := H.cells
    dsimp only [cellsOf, neAll] at hcs
    try clear hargs
    have hargs := H.args
    refine (awake_any _).mono ?_
    rintro e w1 ⟨rfl, hb⟩
    replace H := H.ext hb
    clear hb
    try clear hcs
    try clear hargs
    try simp only [List.set_cons_zero, List.set_cons_succ, World.size_alloc, World.size_setCell, World.size_drew] at H
    have hcs := H.cells
    dsimp only [cellsOf, neAll] at hcs
    try clear hargs
    have hargs := H.args
    go_wp2
    go_ret
    exact ⟨rfl, H.below⟩
  · have hn' : ¬ (20 : Int) < n := by omega
    by_cases hm : 20 < m
    · have hm' : (20 : Int) < m := by omega
      go_wp2_with fail
      apply st_calls
      case H => repeat (first | with_reducible exact H | with_reducible apply St.alloc | with_reducible apply St.allocAny | with_reducible apply St.set | with_reducible apply St.drew | with_reducible apply St.over | with_reducible exact get0 | with_reducible exact get1 | with_reducible exact get2 | with_reducible exact get3 | with_reducible exact get4 | with_reducible exact get5 | with_reducible exact get6 | with_reducible exact get7 | simp only [List.set_cons_zero, List.set_cons_succ])
      clear H
      try clear hcs
      try clear hargs
      intro W H
      try simp only [List.set_cons_zero, List.set_cons_succ, World.size_alloc, World.size_setCell, World.size_drew] at H
      have hcs := H.cells
      dsimp only [cellsOf, neAll] at hcs
      try clear hargs
      have hargs := H.args
      refine (awake_any _).mono ?_
      rintro e w1 ⟨rfl, hb⟩
      replace H := H.ext hb
      clear hb
      try clear hcs
      try clear hargs
      try simp only [List.set_cons_zero, List.set_cons_succ, World.size_alloc, World.size_setCell, World.size_drew] at H
      have hcs := H.cells
      dsimp only [cellsOf, neAll] at hcs
      try clear hargs
      have hargs := H.args
      go_wp2
      go_ret
      exact ⟨rfl, H.below⟩
    · have hm' : ¬ (20 : Int) < m := by omega
      go_wp2_with fail
      refine (Same_any A B n c m c' ps qs hlen (by omega) hlen' (by omega) _ hR hP hR' hP').mono ?_
      rintro e w1 ⟨s, hs, rfl, hb⟩
      replace H := H.ext hb
      clear hb
      go_wp2_with fail
      refine (refSame_any A B n c m c' ps qs hlen (by omega) hlen' (by omega) _ (hR.ext H.below) hP (hR'.ext H.below) hP').mono ?_
      rintro e w2 ⟨s2, hs2, rfl, hb⟩
      obtain rfl := bool_eq hs hs2
      clear hs2
      replace H := H.ext hb
      clear hb
      go_wp2_with fail
      refine (Same_any B A m c' n c qs ps hlen' (by omega) hlen (by omega) _ (hR'.ext H.below) hP' (hR.ext H.below) hP).mono ?_
      rintro e w3 ⟨s3, hs3, rfl, hb⟩
      obtain rfl := bool_eq hs (hs3.trans ⟨SameP_symm, SameP_symm⟩)
      clear hs3
      replace H := H.ext hb
      clear hb
      go_wp2_with fail
      refine (Same_any A A n c n c ps ps hlen (by omega) hlen (by omega) _ (hR.ext H.below) hP (hR.ext H.below) hP).mono ?_
      rintro e w4 ⟨s4, hs4, rfl, hb⟩
      have hs4' := Lib.hid (show s4 = rightB ps from bool_eq (hs4.trans SameP_self) Iff.rfl)
      clear hs4
      replace H := H.ext hb
      clear hb
      go_wp2_with fail
      refine (check_any A n c ps hlen (by omega) _ (hR.ext H.below) hP).mono ?_
      rintro e w5 ⟨u, k1, rfl, hrow, hb⟩
      obtain ⟨A', c1, rfl⟩ := ownsRow_form hrow
      have hrl := right_len hlen hrow.1
      clear hrow
      replace H := H.ext hb
      clear hb
      have hk : (s4 = true ∧ k1 = 0) ∨ (s4 = false ∧ ¬ (k1 : Int) = 0) := by
        rw [hs4'.out]
        rcases hrl with ⟨h1, h2⟩ | ⟨h1, h2⟩
        · exact .inl ⟨h1, h2⟩
        · exact .inr ⟨h1, by omega⟩
      clear hrl hs4'
      rcases hk with ⟨rfl, rfl⟩ | ⟨rfl, hk⟩
      · cases s
        · clear hs
          go_wp2_with fail
          apply st_calls
          case H => repeat (first | with_reducible exact H | with_reducible apply St.alloc | with_reducible apply St.allocAny | with_reducible apply St.set | with_reducible apply St.drew | with_reducible apply St.over | with_reducible exact get0 | with_reducible exact get1 | with_reducible exact get2 | with_reducible exact get3 | with_reducible exact get4 | with_reducible exact get5 | with_reducible exact get6 | with_reducible exact get7 | simp only [List.set_cons_zero, List.set_cons_succ])
          clear H
          try clear hcs
          try clear hargs
          intro W H
          try simp only [List.set_cons_zero, List.set_cons_succ, World.size_alloc, World.size_setCell, World.size_drew] at H
          have hcs := H.cells
          dsimp only [cellsOf, neAll] at hcs
          try clear hargs
          have hargs := H.args
          refine (awake_any _).mono ?_
          rintro e w1 ⟨rfl, hb⟩
          replace H := H.ext hb
          clear hb
          try clear hcs
          try clear hargs
          try simp only [List.set_cons_zero, List.set_cons_succ, World.size_alloc, World.size_setCell, World.size_drew] at H
          have hcs := H.cells
          dsimp only [cellsOf, neAll] at hcs
          try clear hargs
          have hargs := H.args
          go_wp2
          go_ret
          exact ⟨rfl, H.below⟩
        · have hS := hs.1 rfl
          clear hs
          by_cases h1 : t < 0
          · clear hS
            go_wp2_with fail
            apply st_calls
            case H => repeat (first | with_reducible exact H | with_reducible apply St.alloc | with_reducible apply St.allocAny | with_reducible apply St.set | with_reducible apply St.drew | with_reducible apply St.over | with_reducible exact get0 | with_reducible exact get1 | with_reducible exact get2 | with_reducible exact get3 | with_reducible exact get4 | with_reducible exact get5 | with_reducible exact get6 | with_reducible exact get7 | simp only [List.set_cons_zero, List.set_cons_succ])
            clear H
            try clear hcs
            try clear hargs
            intro W H
            try simp only [List.set_cons_zero, List.set_cons_succ, World.size_alloc, World.size_setCell, World.size_drew] at H
            have hcs := H.cells
            dsimp only [cellsOf, neAll] at hcs
            try clear hargs
            have hargs := H.args
            refine (awake_any _).mono ?_
            rintro e w1 ⟨rfl, hb⟩
            replace H := H.ext hb
            clear hb
            try clear hcs
            try clear hargs
            try simp only [List.set_cons_zero, List.set_cons_succ, World.size_alloc, World.size_setCell, World.size_drew] at H
            have hcs := H.cells
            dsimp only [cellsOf, neAll] at hcs
            try clear hargs
            have hargs := H.args
            go_wp2
            go_ret
            exact ⟨rfl, H.below⟩
          · by_cases h2 : 4096 < t
            · clear hS
              go_wp2_with fail
              apply st_calls
              case H => repeat (first | with_reducible exact H | with_reducible apply St.alloc | with_reducible apply St.allocAny | with_reducible apply St.set | with_reducible apply St.drew | with_reducible apply St.over | with_reducible exact get0 | with_reducible exact get1 | with_reducible exact get2 | with_reducible exact get3 | with_reducible exact get4 | with_reducible exact get5 | with_reducible exact get6 | with_reducible exact get7 | simp only [List.set_cons_zero, List.set_cons_succ])
              clear H
              try clear hcs
              try clear hargs
              intro W H
              try simp only [List.set_cons_zero, List.set_cons_succ, World.size_alloc, World.size_setCell, World.size_drew] at H
              have hcs := H.cells
              dsimp only [cellsOf, neAll] at hcs
              try clear hargs
              have hargs := H.args
              refine (awake_any _).mono ?_
              rintro e w1 ⟨rfl, hb⟩
              replace H := H.ext hb
              clear hb
              try clear hcs
              try clear hargs
              try simp only [List.set_cons_zero, List.set_cons_succ, World.size_alloc, World.size_setCell, World.size_drew] at H
              have hcs := H.cells
              dsimp only [cellsOf, neAll] at hcs
              try clear hargs
              have hargs := H.args
              go_wp2
              go_ret
              exact ⟨rfl, H.below⟩
            · have e1 := Lib.hid (ArrR_in hS.1 (t := t) (by omega) (by omega))
              have e2 := Lib.hid (ArrR_in hS.2.1 (t := t) (by omega) (by omega))
              have e3 := Lib.hid (hS.2.2 t (by omega) (by omega))
              clear hS
              go_wp2_with fail
              apply st_calls
              case H => repeat (first | with_reducible exact H | with_reducible apply St.alloc | with_reducible apply St.allocAny | with_reducible apply St.set | with_reducible apply St.drew | with_reducible apply St.over | with_reducible exact get0 | with_reducible exact get1 | with_reducible exact get2 | with_reducible exact get3 | with_reducible exact get4 | with_reducible exact get5 | with_reducible exact get6 | with_reducible exact get7 | simp only [List.set_cons_zero, List.set_cons_succ])
              clear H
              try clear hcs
              try clear hargs
              intro W H
              try simp only [List.set_cons_zero, List.set_cons_succ, World.size_alloc, World.size_setCell, World.size_drew] at H
              have hcs := H.cells
              dsimp only [cellsOf, neAll] at hcs
              try clear hargs
              have hargs := H.args
              refine (Arrive_any A n c ps hlen (by omega) t ⟨ht1, ht2⟩ _ (hR.ext H.below) hP).mono ?_
              rintro e w1 ⟨rfl, hb⟩
              replace H := H.ext hb
              clear hb
              try clear hcs
              try clear hargs
              try simp only [List.set_cons_zero, List.set_cons_succ, World.size_alloc, World.size_setCell, World.size_drew] at H
              have hcs := H.cells
              dsimp only [cellsOf, neAll] at hcs
              try clear hargs
              have hargs := H.args
              rw [e1.out]
              go_wp2_with fail
              apply st_calls
              case H => repeat (first | with_reducible exact H | with_reducible apply St.alloc | with_reducible apply St.allocAny | with_reducible apply St.set | with_reducible apply St.drew | with_reducible apply St.over | with_reducible exact get0 | with_reducible exact get1 | with_reducible exact get2 | with_reducible exact get3 | with_reducible exact get4 | with_reducible exact get5 | with_reducible exact get6 | with_reducible exact get7 | simp only [List.set_cons_zero, List.set_cons_succ])
              clear H
              try clear hcs
              try clear hargs
              intro W H
              try simp only [List.set_cons_zero, List.set_cons_succ, World.size_alloc, World.size_setCell, World.size_drew] at H
              have hcs := H.cells
              dsimp only [cellsOf, neAll] at hcs
              try clear hargs
              have hargs := H.args
              refine (Arrive_any B m c' qs hlen' (by omega) t ⟨ht1, ht2⟩ _ (hR'.ext H.below) hP').mono ?_
              rintro e w1 ⟨rfl, hb⟩
              replace H := H.ext hb
              clear hb
              try clear hcs
              try clear hargs
              try simp only [List.set_cons_zero, List.set_cons_succ, World.size_alloc, World.size_setCell, World.size_drew] at H
              have hcs := H.cells
              dsimp only [cellsOf, neAll] at hcs
              try clear hargs
              have hargs := H.args
              rw [e2.out, e3.out]
              go_wp2_with fail
              apply st_calls
              case H => repeat (first | with_reducible exact H | with_reducible apply St.alloc | with_reducible apply St.allocAny | with_reducible apply St.set | with_reducible apply St.drew | with_reducible apply St.over | with_reducible exact get0 | with_reducible exact get1 | with_reducible exact get2 | with_reducible exact get3 | with_reducible exact get4 | with_reducible exact get5 | with_reducible exact get6 | with_reducible exact get7 | simp only [List.set_cons_zero, List.set_cons_succ])
              clear H
              try clear hcs
              try clear hargs
              intro W H
              try simp only [List.set_cons_zero, List.set_cons_succ, World.size_alloc, World.size_setCell, World.size_drew] at H
              have hcs := H.cells
              dsimp only [cellsOf, neAll] at hcs
              try clear hargs
              have hargs := H.args
              refine (awake_any _).mono ?_
              rintro e w1 ⟨rfl, hb⟩
              replace H := H.ext hb
              clear hb
              try clear hcs
              try clear hargs
              try simp only [List.set_cons_zero, List.set_cons_succ, World.size_alloc, World.size_setCell, World.size_drew] at H
              have hcs := H.cells
              dsimp only [cellsOf, neAll] at hcs
              try clear hargs
              have hargs := H.args
              go_wp2
              go_ret
              exact ⟨rfl, H.below⟩
      · cases s
        · clear hs
          go_wp2_with fail
          apply st_calls
          case H => repeat (first | with_reducible exact H | with_reducible apply St.alloc | with_reducible apply St.allocAny | with_reducible apply St.set | with_reducible apply St.drew | with_reducible apply St.over | with_reducible exact get0 | with_reducible exact get1 | with_reducible exact get2 | with_reducible exact get3 | with_reducible exact get4 | with_reducible exact get5 | with_reducible exact get6 | with_reducible exact get7 | simp only [List.set_cons_zero, List.set_cons_succ])
          clear H
          try clear hcs
          try clear hargs
          intro W H
          try simp only [List.set_cons_zero, List.set_cons_succ, World.size_alloc, World.size_setCell, World.size_drew] at H
          have hcs := H.cells
          dsimp only [cellsOf, neAll] at hcs
          try clear hargs
          have hargs := H.args
          refine (awake_any _).mono ?_
          rintro e w1 ⟨rfl, hb⟩
          replace H := H.ext hb
          clear hb
          try clear hcs
          try clear hargs
          try simp only [List.set_cons_zero, List.set_cons_succ, World.size_alloc, World.size_setCell, World.size_drew] at H
          have hcs := H.cells
          dsimp only [cellsOf, neAll] at hcs
          try clear hargs
          have hargs := H.args
          go_wp2
          go_ret
          exact ⟨rfl, H.below⟩
        · have hS := hs.1 rfl
          clear hs
          by_cases h1 : t < 0
          · clear hS
            go_wp2_with fail
            apply st_calls
            case H => repeat (first | with_reducible exact H | with_reducible apply St.alloc | with_reducible apply St.allocAny | with_reducible apply St.set | with_reducible apply St.drew | with_reducible apply St.over | with_reducible exact get0 | with_reducible exact get1 | with_reducible exact get2 | with_reducible exact get3 | with_reducible exact get4 | with_reducible exact get5 | with_reducible exact get6 | with_reducible exact get7 | simp only [List.set_cons_zero, List.set_cons_succ])
            clear H
            try clear hcs
            try clear hargs
            intro W H
            try simp only [List.set_cons_zero, List.set_cons_succ, World.size_alloc, World.size_setCell, World.size_drew] at H
            have hcs := H.cells
            dsimp only [cellsOf, neAll] at hcs
            try clear hargs
            have hargs := H.args
            refine (awake_any _).mono ?_
            rintro e w1 ⟨rfl, hb⟩
            replace H := H.ext hb
            clear hb
            try clear hcs
            try clear hargs
            try simp only [List.set_cons_zero, List.set_cons_succ, World.size_alloc, World.size_setCell, World.size_drew] at H
            have hcs := H.cells
            dsimp only [cellsOf, neAll] at hcs
            try clear hargs
            have hargs := H.args
            go_wp2
            go_ret
            exact ⟨rfl, H.below⟩
          · by_cases h2 : 4096 < t
            · clear hS
              go_wp2_with fail
              apply st_calls
              case H => repeat (first | with_reducible exact H | with_reducible apply St.alloc | with_reducible apply St.allocAny | with_reducible apply St.set | with_reducible apply St.drew | with_reducible apply St.over | with_reducible exact get0 | with_reducible exact get1 | with_reducible exact get2 | with_reducible exact get3 | with_reducible exact get4 | with_reducible exact get5 | with_reducible exact get6 | with_reducible exact get7 | simp only [List.set_cons_zero, List.set_cons_succ])
              clear H
              try clear hcs
              try clear hargs
              intro W H
              try simp only [List.set_cons_zero, List.set_cons_succ, World.size_alloc, World.size_setCell, World.size_drew] at H
              have hcs := H.cells
              dsimp only [cellsOf, neAll] at hcs
              try clear hargs
              have hargs := H.args
              refine (awake_any _).mono ?_
              rintro e w1 ⟨rfl, hb⟩
              replace H := H.ext hb
              clear hb
              try clear hcs
              try clear hargs
              try simp only [List.set_cons_zero, List.set_cons_succ, World.size_alloc, World.size_setCell, World.size_drew] at H
              have hcs := H.cells
              dsimp only [cellsOf, neAll] at hcs
              try clear hargs
              have hargs := H.args
              go_wp2
              go_ret
              exact ⟨rfl, H.below⟩
            · have e1 := Lib.hid (ArrR_in hS.1 (t := t) (by omega) (by omega))
              have e2 := Lib.hid (ArrR_in hS.2.1 (t := t) (by omega) (by omega))
              have e3 := Lib.hid (hS.2.2 t (by omega) (by omega))
              clear hS
              go_wp2_with fail
              apply st_calls
              case H => repeat (first | with_reducible exact H | with_reducible apply St.alloc | with_reducible apply St.allocAny | with_reducible apply St.set | with_reducible apply St.drew | with_reducible apply St.over | with_reducible exact get0 | with_reducible exact get1 | with_reducible exact get2 | with_reducible exact get3 | with_reducible exact get4 | with_reducible exact get5 | with_reducible exact get6 | with_reducible exact get7 | simp only [List.set_cons_zero, List.set_cons_succ])
              clear H
              try clear hcs
              try clear hargs
              intro W H
              try simp only [List.set_cons_zero, List.set_cons_succ, World.size_alloc, World.size_setCell, World.size_drew] at H
              have hcs := H.cells
              dsimp only [cellsOf, neAll] at hcs
              try clear hargs
              have hargs := H.args
              refine (Arrive_any A n c ps hlen (by omega) t ⟨ht1, ht2⟩ _ (hR.ext H.below) hP).mono ?_
              rintro e w1 ⟨rfl, hb⟩
              replace H := H.ext hb
              clear hb
              try clear hcs
              try clear hargs
              try simp only [List.set_cons_zero, List.set_cons_succ, World.size_alloc, World.size_setCell, World.size_drew] at H
              have hcs := H.cells
              dsimp only [cellsOf, neAll] at hcs
              try clear hargs
              have hargs := H.args
              rw [e1.out]
              go_wp2_with fail
              apply st_calls
              case H => repeat (first | with_reducible exact H | with_reducible apply St.alloc | with_reducible apply St.allocAny | with_reducible apply St.set | with_reducible apply St.drew | with_reducible apply St.over | with_reducible exact get0 | with_reducible exact get1 | with_reducible exact get2 | with_reducible exact get3 | with_reducible exact get4 | with_reducible exact get5 | with_reducible exact get6 | with_reducible exact get7 | simp only [List.set_cons_zero, List.set_cons_succ])
              clear H
              try clear hcs
              try clear hargs
              intro W H
              try simp only [List.set_cons_zero, List.set_cons_succ, World.size_alloc, World.size_setCell, World.size_drew] at H
              have hcs := H.cells
              dsimp only [cellsOf, neAll] at hcs
              try clear hargs
              have hargs := H.args
              refine (Arrive_any B m c' qs hlen' (by omega) t ⟨ht1, ht2⟩ _ (hR'.ext H.below) hP').mono ?_
              rintro e w1 ⟨rfl, hb⟩
              replace H := H.ext hb
              clear hb
              try clear hcs
              try clear hargs
              try simp only [List.set_cons_zero, List.set_cons_succ, World.size_alloc, World.size_setCell, World.size_drew] at H
              have hcs := H.cells
              dsimp only [cellsOf, neAll] at hcs
              try clear hargs
              have hargs := H.args
              rw [e2.out, e3.out]
              go_wp2_with fail
              apply st_calls
              case H => repeat (first | with_reducible exact H | with_reducible apply St.alloc | with_reducible apply St.allocAny | with_reducible apply St.set | with_reducible apply St.drew | with_reducible apply St.over | with_reducible exact get0 | with_reducible exact get1 | with_reducible exact get2 | with_reducible exact get3 | with_reducible exact get4 | with_reducible exact get5 | with_reducible exact get6 | with_reducible exact get7 | simp only [List.set_cons_zero, List.set_cons_succ])
              clear H
              try clear hcs
              try clear hargs
              intro W H
              try simp only [List.set_cons_zero, List.set_cons_succ, World.size_alloc, World.size_setCell, World.size_drew] at H
              have hcs := H.cells
              dsimp only [cellsOf, neAll] at hcs
              try clear hargs
              have hargs := H.args
              refine (awake_any _).mono ?_
              rintro e w1 ⟨rfl, hb⟩
              replace H := H.ext hb
              clear hb
              try clear hcs
              try clear hargs
              try simp only [List.set_cons_zero, List.set_cons_succ, World.size_alloc, World.size_setCell, World.size_drew] at H
              have hcs := H.cells
              dsimp only [cellsOf, neAll] at hcs
              try clear hargs
              have hargs := H.args
              go_wp2
              go_ret
              exact ⟨rfl, H.below⟩
end Go.Proofs.YtdpgdbkacmmmjaaDoor
