/- Package travel: Arrive, Latest: walks. -/
import Derived.Test.YtdpgdbkacmmmjaaDoorTG
namespace Go.Proofs.YtdpgdbkacmmmjaaDoor
open Go.RowKit

def ArrR (pts : List Pt) (t : Int) : Int := if (0 ≤ t ∧ t ≤ 1073741824) ∧ rightB pts = true then arrV pts t else 0

set_option maxHeartbeats 400000 in
theorem Arrive_any (A : Option Addr) (n c : Nat) (pts : List Pt) (hlen : pts.length = n) (hn : n ≤ 40) (t : Int) (ht : inI t) (w : World) (hR : PR w A pts) (hP : PB pts) :
    Calls Tryd.prog 14 #[.slice A n c, .int .i64 t] w fun e w' => e = .returned (.int .i64 (ArrR pts t)) ∧ Below w.heap.size w w' := by
  obtain ⟨ht1, ht2⟩ := ht
  have H := St.start w
  go_enter Tryd.func14, Tryd.ntmps14
  go_wp2_with fail
  apply st_calls
  case H => repeat (first | with_reducible exact H | with_reducible apply St.alloc | with_reducible apply St.allocAny | with_reducible apply St.set | with_reducible apply St.drew | with_reducible apply St.over | with_reducible exact get0 | with_reducible exact get1 | with_reducible exact get2 | with_reducible exact get3 | with_reducible exact get4 | with_reducible exact get5 | with_reducible exact get6 | with_reducible exact get7 | simp only [List.set_cons_zero, List.set_cons_succ])
  clear H
  try clear hcs
  try clear hargs
  intro W H
  try simp only [List.set_cons_zero, List.set_cons_succ, World.size_alloc, World.size_setCell, World.size_drew] at H
  have hcs := H.cells
  dsimp only [cellsOf, neAll] at hcs
  try clear hargs
  have hargs := H.args
  refine (within_any t 0 1073741824 _).mono ?_
  rintro e w1 ⟨rfl, hb⟩
  replace H := H.ext hb
  clear hb
  try clear hcs
  try clear hargs
  try simp only [List.set_cons_zero, List.set_cons_succ, World.size_alloc, World.size_setCell, World.size_drew] at H
  have hcs := H.cells
  dsimp only [cellsOf, neAll] at hcs
  try clear hargs
  have hargs := H.args
  by_cases h : 0 ≤ t ∧ t ≤ 1073741824
  · have hA : ArrR pts t = if rightB pts = true then arrV pts t else 0 := by unfold ArrR; simp only [h, and_self, true_and]
    have hA := Lib.hid hA
    rw [decide_eq_true h]
    go_wp2_with fail
    apply st_calls
    case H => repeat (first | with_reducible exact H | with_reducible apply St.alloc | with_reducible apply St.allocAny | with_reducible apply St.set | with_reducible apply St.drew | with_reducible apply St.over | with_reducible exact get0 | with_reducible exact get1 | with_reducible exact get2 | with_reducible exact get3 | with_reducible exact get4 | with_reducible exact get5 | with_reducible exact get6 | with_reducible exact get7 | simp only [List.set_cons_zero, List.set_cons_succ])
    clear H
    try clear hcs
    try clear hargs
    intro W H
    try simp only [List.set_cons_zero, List.set_cons_succ, World.size_alloc, World.size_setCell, World.size_drew] at H
    have hcs := H.cells
    dsimp only [cellsOf, neAll] at hcs
    try clear hargs
    have hargs := H.args
    refine (right_any A n c pts hlen hn _ (hR.ext H.below) hP).mono ?_
    rintro e w1 ⟨rfl, hb⟩
    replace H := H.ext hb
    clear hb
    try clear hcs
    try clear hargs
    try simp only [List.set_cons_zero, List.set_cons_succ, World.size_alloc, World.size_setCell, World.size_drew] at H
    have hcs := H.cells
    dsimp only [cellsOf, neAll] at hcs
    try clear hargs
    have hargs := H.args
    cases hb : rightB pts
    · rw [hb] at hA
      have hA := Lib.hid hA.out
      go_wp2
      go_ret
      exact ⟨by rw [hA.out]; rfl, H.below⟩
    · rw [hb] at hA
      have hA := Lib.hid hA.out
      have hr := right_of hb
      have hb := Lib.hid hb
      go_wp2_with fail
      apply st_calls
      case H => repeat (first | with_reducible exact H | with_reducible apply St.alloc | with_reducible apply St.allocAny | with_reducible apply St.set | with_reducible apply St.drew | with_reducible apply St.over | with_reducible exact get0 | with_reducible exact get1 | with_reducible exact get2 | with_reducible exact get3 | with_reducible exact get4 | with_reducible exact get5 | with_reducible exact get6 | with_reducible exact get7 | simp only [List.set_cons_zero, List.set_cons_succ])
      clear H
      try clear hcs
      try clear hargs
      intro W H
      try simp only [List.set_cons_zero, List.set_cons_succ, World.size_alloc, World.size_setCell, World.size_drew] at H
      have hcs := H.cells
      dsimp only [cellsOf, neAll] at hcs
      try clear hargs
      have hargs := H.args
      refine (arrive_any A n c pts hlen hr t h.1 (by omega) _ (hR.ext H.below)).mono ?_
      rintro e w1 ⟨rfl, hb⟩
      replace H := H.ext hb
      clear hb
      try clear hcs
      try clear hargs
      try simp only [List.set_cons_zero, List.set_cons_succ, World.size_alloc, World.size_setCell, World.size_drew] at H
      have hcs := H.cells
      dsimp only [cellsOf, neAll] at hcs
      try clear hargs
      have hargs := H.args
      go_wp2
      go_ret
      exact ⟨by rw [hA.out]; rfl, H.below⟩
  · have hA : ArrR pts t = 0 := by unfold ArrR; rw [if_neg (fun h' => h h'.1)]
    have hA := Lib.hid hA
    rw [decide_eq_false h]
    go_wp2
    go_ret
    exact ⟨by rw [hA.out]; rfl, H.below⟩

/-- What the latest departure is. -/
def LatS (pts : List Pt) (a d : Int) (ok : Bool) : Prop :=
  ((rightB pts = false ∨ a < arrV pts 0) ∧ d = 0 ∧ ok = false) ∨ (rightB pts = true ∧ 0 ≤ d ∧ d ≤ 4096 ∧ arrV pts d ≤ a ∧ (∀ t, d < t → t ≤ 4096 → a < arrV pts t) ∧ ok = true)

set_option maxRecDepth 100000 in
set_option maxHeartbeats 1000000 in
theorem Latest_any (A : Option Addr) (n c : Nat) (pts : List Pt) (hlen : pts.length = n) (hn : n ≤ 40) (a : Int) (ha : inI a) (w : World) (hR : PR w A pts) (hP : PB pts) :
    Calls Tryd.prog 12 #[.slice A n c, .int .i64 a] w fun e w' => ∃ d ok, LatS pts a d ok ∧ e = .returned (.tuple #[.int .i64 d, .bool ok]) ∧ Below w.heap.size w w' := by
  obtain ⟨ha1, ha2⟩ := ha
  have H := St.start w
  go_enter Tryd.func12, Tryd.ntmps12
  go_wp2_with fail
  apply st_calls
  case H => repeat (first | with_reducible exact H | with_reducible apply St.alloc | with_reducible apply St.allocAny | with_reducible apply St.set | with_reducible apply St.drew | with_reducible apply St.over | with_reducible exact get0 | with_reducible exact get1 | with_reducible exact get2 | with_reducible exact get3 | with_reducible exact get4 | with_reducible exact get5 | with_reducible exact get6 | with_reducible exact get7 | simp only [List.set_cons_zero, List.set_cons_succ])
  clear H
  try clear hcs
  try clear hargs
  intro W H
  try simp only [List.set_cons_zero, List.set_cons_succ, World.size_alloc, World.size_setCell, World.size_drew] at H
  have hcs := H.cells
  dsimp only [cellsOf, neAll] at hcs
  try clear hargs
  have hargs := H.args
  refine (right_any A n c pts hlen hn _ (hR.ext H.below) hP).mono ?_
  rintro e w1 ⟨rfl, hb⟩
  replace H := H.ext hb
  clear hb
  try clear hcs
  try clear hargs
  try simp only [List.set_cons_zero, List.set_cons_succ, World.size_alloc, World.size_setCell, World.size_drew] at H
  have hcs := H.cells
  dsimp only [cellsOf, neAll] at hcs
  try clear hargs
  have hargs := H.args
  cases hb : rightB pts
  · go_wp2
    exact bodyPost_ret (v := .tuple #[.int .i64 0, .bool false]) (by simp [results, Tryd.results12, go_sem]) rfl ⟨0, false, .inl ⟨.inl hb, rfl, rfl⟩, rfl, H.below⟩
  · have hr := right_of hb
    have hb := Lib.hid hb
    go_wp2_with fail
    apply st_calls
    case H => repeat (first | with_reducible exact H | with_reducible apply St.alloc | with_reducible apply St.allocAny | with_reducible apply St.set | with_reducible apply St.drew | with_reducible apply St.over | with_reducible exact get0 | with_reducible exact get1 | with_reducible exact get2 | with_reducible exact get3 | with_reducible exact get4 | with_reducible exact get5 | with_reducible exact get6 | with_reducible exact get7 | simp only [List.set_cons_zero, List.set_cons_succ])
    clear H
    try clear hcs
    try clear hargs
    intro W H
    try simp only [List.set_cons_zero, List.set_cons_succ, World.size_alloc, World.size_setCell, World.size_drew] at H
    have hcs := H.cells
    dsimp only [cellsOf, neAll] at hcs
    try clear hargs
    have hargs := H.args
    refine (arrive_any A n c pts hlen hr 0 (by omega) (by omega) _ (hR.ext H.below)).mono ?_
    rintro e w1 ⟨rfl, hb⟩
    replace H := H.ext hb
    clear hb
    try clear hcs
    try clear hargs
    try simp only [List.set_cons_zero, List.set_cons_succ, World.size_alloc, World.size_setCell, World.size_drew] at H
    have hcs := H.cells
    dsimp only [cellsOf, neAll] at hcs
    try clear hargs
    have hargs := H.args
    by_cases h0 : a < arrV pts 0
    · go_wp2
      exact bodyPost_ret (v := .tuple #[.int .i64 0, .bool false]) (by simp [results, Tryd.results12, go_sem]) rfl ⟨0, false, .inl ⟨.inr h0, rfl, rfl⟩, rfl, H.below⟩
    · have h0 := Lib.hid h0
      go_wp2_with fail
      go_loopg [6, 7] 4096 (fun g s6 s7 wr => ∃ lo hi : Nat, lo ≤ hi ∧ hi ≤ 4096 ∧ g = hi - lo ∧ s6 = .int .i64 lo ∧ s7 = .int .i64 hi ∧ arrV pts lo ≤ a ∧ (∀ t : Int, hi < t → t ≤ 4096 → a < arrV pts t) ∧ St w wr [] [])
      case atStart => exact ⟨0, 4096, by omega, by omega, rfl, rfl, rfl, by have := h0.out; omega, fun t h h' => absurd h (by omega), H⟩
      case round =>
        clear H
        obtain ⟨lo, hi, hlh, hhi, rfl, rfl, rfl, h1, h2, H⟩ := hrel
        have h2 := Lib.hid h2
        try clear hcs
        try clear hargs
        try simp only [List.set_cons_zero, List.set_cons_succ, World.size_alloc, World.size_setCell, World.size_drew] at H
        have hcs := H.cells
        dsimp only [cellsOf, neAll] at hcs
        try clear hargs
        have hargs := H.args
        by_cases hlt : lo < hi
        · have hlt' : (lo : Int) < hi := by omega
          have h1 := Lib.hid h1
          obtain ⟨mi, hmi⟩ : ∃ mi : Nat, mi = (lo + hi + 1) / 2 := ⟨_, rfl⟩
          have em : ((lo : Int) + hi + 1) / 2 = (mi : Int) := by omega
          have m1 : lo < mi := by omega
          have m2 : mi ≤ hi := by omega
          clear hmi
          go_wp2_with fail
          simp only [em]
          clear em
          go_wp2_with fail
          apply st_calls
          case H => repeat (first | with_reducible exact H | with_reducible apply St.alloc | with_reducible apply St.allocAny | with_reducible apply St.set | with_reducible apply St.drew | with_reducible apply St.over | with_reducible exact get0 | with_reducible exact get1 | with_reducible exact get2 | with_reducible exact get3 | with_reducible exact get4 | with_reducible exact get5 | with_reducible exact get6 | with_reducible exact get7 | simp only [List.set_cons_zero, List.set_cons_succ])
          clear H
          try clear hcs
          try clear hargs
          intro W H
          try simp only [List.set_cons_zero, List.set_cons_succ, World.size_alloc, World.size_setCell, World.size_drew] at H
          have hcs := H.cells
          dsimp only [cellsOf, neAll] at hcs
          try clear hargs
          have hargs := H.args
          refine (arrive_any A n c pts hlen hr mi (by omega) (by omega) _ (hR.ext H.below)).mono ?_
          rintro e w1 ⟨rfl, hb⟩
          replace H := H.ext hb
          clear hb
          try clear hcs
          try clear hargs
          try simp only [List.set_cons_zero, List.set_cons_succ, World.size_alloc, World.size_setCell, World.size_drew] at H
          have hcs := H.cells
          dsimp only [cellsOf, neAll] at hcs
          try clear hargs
          have hargs := H.args
          by_cases hle : arrV pts mi ≤ a
          · go_wp2
            go_roundg (hi - mi)
            case measure => omega
            case rel => exact ⟨mi, hi, by omega, hhi, rfl, rfl, rfl, hle, h2.out, H⟩
          · go_wp2
            go_roundg (mi - 1 - lo)
            case measure => omega
            case rel =>
              have e7 : ((mi - 1 : Nat) : Int) = (mi : Int) - 1 := by omega
              refine ⟨lo, mi - 1, by omega, by omega, rfl, rfl, by rw [e7], h1.out, fun t ht ht' => ?_, H⟩
              have := arrV_mono hr (show (mi : Int) ≤ t by omega)
              omega
        · obtain rfl : lo = hi := by omega
          go_wp2
          exact bodyPost_ret (v := .tuple #[.int .i64 lo, .bool true]) (by simp [results, Tryd.results12, go_sem]) rfl ⟨lo, true, .inr ⟨hb.out, by omega, by omega, h1, h2.out, rfl⟩, rfl, H.below⟩
end Go.Proofs.YtdpgdbkacmmmjaaDoor
