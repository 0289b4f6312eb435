/- Package travel: the arrival: walk. -/
import Derived.Test.YtdpgdbkacmmmjaaDoorTE
import Derived.Test.YtdpgdbkacmmmjaaDoorMix
namespace Go.Proofs.YtdpgdbkacmmmjaaDoor
open Go.RowKit

/-- The arrival at t, i points depart before t. -/
def arrAt (pts : List Pt) (t : Int) (i : Nat) : Int :=
  let n := pts.length
  let p (k : Nat) : Pt := pts.getD k (0, 0)
  if foundB pts t i then (p i).2
  else if i = 0 then t + (p 0).2 - (p 0).1
  else if i = n then t + (p (i - 1)).2 - (p (i - 1)).1
  else (p (i - 1)).2 + ((t - (p (i - 1)).1) * ((p i).2 - (p (i - 1)).2) + ((p i).1 - (p (i - 1)).1) - 1) / ((p i).1 - (p (i - 1)).1)
def arrV (pts : List Pt) (t : Int) : Int := arrAt pts t (lowB pts t)

theorem lowB_of : ∀ (pts : List Pt) (t : Int) (i : Nat), i ≤ pts.length → (∀ (k : Nat) (p : Pt), k < i → pts[k]? = some p → p.1 < t) → (∀ (k : Nat) (p : Pt), i ≤ k → pts[k]? = some p → t ≤ p.1) → lowB pts t = i
  | [], t, i, hi, _, _ => by simp at hi; subst hi; rfl
  | p :: ps, t, 0, _, _, h2 => by
    have := h2 0 p (Nat.le_refl _) rfl
    unfold lowB; rw [List.takeWhile_cons_of_neg (by simp; omega)]; rfl
  | p :: ps, t, i + 1, hi, h1, h2 => by
    have h := h1 0 p (by omega) rfl
    unfold lowB
    rw [List.takeWhile_cons_of_pos (by simpa using h)]
    have := lowB_of ps t i (by simp at hi; omega) (fun k q hk hq => h1 (k + 1) q (by omega) hq) (fun k q hk hq => h2 (k + 1) q (by omega) hq)
    unfold lowB at this
    simp [this]

set_option maxRecDepth 100000 in
set_option maxHeartbeats 1000000 in
theorem arrive_any (A : Option Addr) (n c : Nat) (pts : List Pt) (hlen : pts.length = n) (hr : Right pts) (t : Int) (ht : 0 ≤ t) (ht' : t ≤ 1073741825) (w : World) (hR : PR w A pts) :
    Calls Tryd.prog 25 #[.slice A n c, .int .i64 t] w fun e w' => e = .returned (.int .i64 (arrV pts t)) ∧ Below w.heap.size w w' := by
  have hn := hr.most
  have hn1 := hr.pos
  rw [hlen] at hn hn1
  have H := St.start w
  have hlen := Lib.hid hlen
  go_enter Tryd.func25, Tryd.ntmps25
  go_wp2_with fail
  apply st_calls
  case H => repeat (first | with_reducible exact H | with_reducible apply St.alloc | with_reducible apply St.allocAny | with_reducible apply St.set | with_reducible apply St.drew | with_reducible apply St.over | with_reducible exact get0 | with_reducible exact get1 | with_reducible exact get2 | with_reducible exact get3 | with_reducible exact get4 | with_reducible exact get5 | with_reducible exact get6 | with_reducible exact get7 | simp only [List.set_cons_zero, List.set_cons_succ])
  clear H
  try clear hcs
  try clear hargs
  intro W H
  try simp only [List.set_cons_zero, List.set_cons_succ, World.size_alloc, World.size_setCell, World.size_drew] at H
  have hcs := H.cells
  dsimp only [cellsOf, neAll] at hcs
  try clear hargs
  have hargs := H.args
  refine (search_any A n c pts hlen.out hr t ht ht' _ (hR.ext H.below)).mono ?_
  rintro e w1 ⟨i, hi, g1, g2, rfl, hb⟩
  replace H := H.ext hb
  clear hb
  have hV : arrV pts t = arrAt pts t i := by unfold arrV; rw [lowB_of pts t i (by have := hlen.out; omega) g1 g2]
  have hV := Lib.hid hV
  have hfi : foundB pts t i = true → i < n := fun h => by
    rcases Nat.lt_or_ge i n with h' | h'
    · exact h'
    · unfold foundB at h; simp only [List.getElem?_eq_none (show pts.length ≤ i by have := hlen.out; omega)] at h; cases h
  by_cases hf : foundB pts t i = true
  · obtain ⟨p, hp⟩ : ∃ p, pts[i]? = some p := ⟨_, List.getElem?_eq_getElem (by have := hlen.out; have := hfi hf; omega)⟩
    have hin := hfi hf
    have hin' : (i : Int) < n := by omega
    clear hfi
    have hVA : arrAt pts t i = p.2 := by unfold arrAt; simp only [hf, if_true]; rw [getD_of hp]
    rw [hf]
    have hVA := Lib.hid hVA
    have hf := Lib.hid hf
    obtain ⟨b, off, rfl, hb, c1, c2⟩ := hR _ p hp
    obtain ⟨a1, a2, a3, a4⟩ := hr.a _ _ hp
    try clear hcs
    try clear hargs
    try simp only [List.set_cons_zero, List.set_cons_succ, World.size_alloc, World.size_setCell, World.size_drew] at H
    have hcs := H.cells
    dsimp only [cellsOf, neAll] at hcs
    try clear hargs
    have hargs := H.args
    go_wp2
    go_ret
    exact ⟨by rw [hV.out, hVA.out]; rfl, H.below⟩
  · clear hfi
    rw [Bool.not_eq_true] at hf
    by_cases hi0 : i = 0
    · subst hi0
      obtain ⟨p, hp⟩ : ∃ p, pts[0]? = some p := ⟨_, List.getElem?_eq_getElem (by have := hlen.out; omega)⟩
      have hVA : arrAt pts t 0 = t + p.2 - p.1 := by unfold arrAt; simp only [hf, if_true]; rw [getD_of hp]; rfl
      rw [hf]
      have hVA := Lib.hid hVA
      have hf := Lib.hid hf
      obtain ⟨b, off, rfl, hb, c1, c2⟩ := hR _ p hp
      obtain ⟨a1, a2, a3, a4⟩ := hr.a _ _ hp
      try clear hcs
      try clear hargs
      try simp only [List.set_cons_zero, List.set_cons_succ, World.size_alloc, World.size_setCell, World.size_drew] at H
      have hcs := H.cells
      dsimp only [cellsOf, neAll] at hcs
      try clear hargs
      have hargs := H.args
      rw [Nat.zero_mul, Nat.add_zero] at c1 c2
      have hn0 : 0 < n := hn1
      have x1 : IntKind.i64.wrap (t + p.2) = t + p.2 := IntWalk.i64_in _ (by omega)
      have x2 : IntKind.i64.wrap (t + p.2 - p.1) = t + p.2 - p.1 := IntWalk.i64_in _ (by omega)
      go_upto_region 5 with fail
      refine wp_region_mix 11 (by kernel_rfl) (by kernel_rfl) ?_
      (refine mix_step 0 rfl (by kernel_rfl) (fun K hK => ?_); go_simp; refine hK _ ?_; clear hK K)
      (refine mix_step 1 rfl (by kernel_rfl) (fun K hK => ?_); go_simp; refine hK _ ?_; clear hK K)
      (refine mix_step 2 rfl (by kernel_rfl) (fun K hK => ?_); go_simp; refine hK _ ?_; clear hK K)
      (refine mix_step 3 rfl (by kernel_rfl) (fun K hK => ?_); go_simp; refine hK _ ?_; clear hK K)
      (refine mix_step 4 rfl (by kernel_rfl) (fun K hK => ?_); go_simp; refine hK _ ?_; clear hK K)
      (refine mix_step 5 rfl (by kernel_rfl) (fun K hK => ?_); go_simp; refine hK _ ?_; clear hK K)
      (refine mix_step 6 rfl (by kernel_rfl) (fun K hK => ?_); go_simp; refine hK _ ?_; clear hK K)
      (refine mix_step 7 rfl (by kernel_rfl) (fun K hK => ?_); go_simp; refine hK _ ?_; clear hK K)
      (refine mix_step 8 rfl (by kernel_rfl) (fun K hK => ?_); go_simp; refine hK _ ?_; clear hK K)
      (refine mix_step 9 rfl (by kernel_rfl) (fun K hK => ?_); go_simp; refine hK _ ?_; clear hK K)
      (refine mix_step 10 rfl (by kernel_rfl) (fun K hK => ?_); go_simp; refine hK _ ?_; clear hK K)
      refine mix_end' (by kernel_rfl) (fun W1 hb => ?_)
      replace H := H.ext hb
      clear hb
      try clear hcs
      try clear hargs
      try simp only [List.set_cons_zero, List.set_cons_succ, World.size_alloc, World.size_setCell, World.size_drew] at H
      have hcs := H.cells
      dsimp only [cellsOf, neAll] at hcs
      try clear hargs
      have hargs := H.args
      simp only [List.drop_succ_cons, List.drop_zero]
      go_wp2
      go_ret
      exact ⟨by rw [hV.out, hVA.out]; rfl, H.below⟩
    · obtain ⟨j, rfl⟩ : ∃ j, i = j + 1 := ⟨i - 1, by omega⟩
      obtain ⟨p, hp⟩ : ∃ p, pts[j]? = some p := ⟨_, List.getElem?_eq_getElem (by have := hlen.out; omega)⟩
      obtain ⟨a1, a2, a3, a4⟩ := hr.a _ _ hp
      have e0 : 0 ≤ (j : Int) := by omega
      have e1 : IntKind.i64.wrap (j : Int) = j := IntWalk.i64_in _ (by omega)
      by_cases hin : j + 1 = n
      · have hVA : arrAt pts t (j + 1) = t + p.2 - p.1 := by
          have := hlen.out
          unfold arrAt; simp only [hf, if_true]
          rw [if_neg (by decide), if_neg (by omega), if_pos (by omega), Nat.add_sub_cancel, getD_of hp]
        rw [hf]
        have hVA := Lib.hid hVA
        have hf := Lib.hid hf
        have hj : (j : Int) < n := by omega
        have e2 : IntKind.i64.wrap ((n : Int) - 1) = j := by rw [show (n : Int) - 1 = j by omega]; exact e1
        obtain ⟨b, off, rfl, hb, c1, c2⟩ := hR _ p hp
        try clear hcs
        try clear hargs
        try simp only [List.set_cons_zero, List.set_cons_succ, World.size_alloc, World.size_setCell, World.size_drew] at H
        have hcs := H.cells
        dsimp only [cellsOf, neAll] at hcs
        try clear hargs
        have hargs := H.args
        have x1 : IntKind.i64.wrap (t + p.2) = t + p.2 := IntWalk.i64_in _ (by omega)
        have x2 : IntKind.i64.wrap (t + p.2 - p.1) = t + p.2 - p.1 := IntWalk.i64_in _ (by omega)
        go_upto_region 7 with fail
        refine wp_region_mix 15 (by kernel_rfl) (by kernel_rfl) ?_
        (refine mix_step 0 rfl (by kernel_rfl) (fun K hK => ?_); go_simp; refine hK _ ?_; clear hK K)
        (refine mix_step 1 rfl (by kernel_rfl) (fun K hK => ?_); go_simp; refine hK _ ?_; clear hK K)
        (refine mix_step 2 rfl (by kernel_rfl) (fun K hK => ?_); go_simp; refine hK _ ?_; clear hK K)
        (refine mix_step 3 rfl (by kernel_rfl) (fun K hK => ?_); go_simp; refine hK _ ?_; clear hK K)
        (refine mix_step 4 rfl (by kernel_rfl) (fun K hK => ?_); go_simp; refine hK _ ?_; clear hK K)
        (refine mix_step 5 rfl (by kernel_rfl) (fun K hK => ?_); go_simp; refine hK _ ?_; clear hK K)
        (refine mix_step 6 rfl (by kernel_rfl) (fun K hK => ?_); go_simp; refine hK _ ?_; clear hK K)
        (refine mix_step 7 rfl (by kernel_rfl) (fun K hK => ?_); go_simp; refine hK _ ?_; clear hK K)
        (refine mix_step 8 rfl (by kernel_rfl) (fun K hK => ?_); go_simp; refine hK _ ?_; clear hK K)
        (refine mix_step 9 rfl (by kernel_rfl) (fun K hK => ?_); go_simp; refine hK _ ?_; clear hK K)
        (refine mix_step 10 rfl (by kernel_rfl) (fun K hK => ?_); go_simp; refine hK _ ?_; clear hK K)
        (refine mix_step 11 rfl (by kernel_rfl) (fun K hK => ?_); go_simp; refine hK _ ?_; clear hK K)
        (refine mix_step 12 rfl (by kernel_rfl) (fun K hK => ?_); go_simp; refine hK _ ?_; clear hK K)
        (refine mix_step 13 rfl (by kernel_rfl) (fun K hK => ?_); go_simp; refine hK _ ?_; clear hK K)
        (refine mix_step 14 rfl (by kernel_rfl) (fun K hK => ?_); go_simp; refine hK _ ?_; clear hK K)
        refine mix_end' (by kernel_rfl) (fun W1 hb => ?_)
        replace H := H.ext hb
        clear hb
        try clear hcs
        try clear hargs
        try simp only [List.set_cons_zero, List.set_cons_succ, World.size_alloc, World.size_setCell, World.size_drew] at H
        have hcs := H.cells
        dsimp only [cellsOf, neAll] at hcs
        try clear hargs
        have hargs := H.args
        simp only [List.drop_succ_cons, List.drop_zero]
        go_wp2
        go_ret
        exact ⟨by rw [hV.out, hVA.out]; rfl, H.below⟩
      · have hin' : j + 1 < n := by omega
        have hin2 : ((j : Int) + 1) < n := by omega
        have hj0 : 0 ≤ (j : Int) + 1 := by omega
        have hj : (j : Int) < n := by omega
        have hj1 : IntKind.i64.wrap ((j : Int) + 1) = (j : Int) + 1 := IntWalk.i64_in _ (by omega)
        obtain ⟨q, hq⟩ : ∃ q, pts[j + 1]? = some q := ⟨_, List.getElem?_eq_getElem (by have := hlen.out; omega)⟩
        obtain ⟨b1, b2, b3, b4⟩ := hr.a _ _ hq
        obtain ⟨m1, m2⟩ := hr.b _ _ _ hp hq
        have k1 := g1 j p (by omega) hp
        have k2 := g2 (j + 1) q (Nat.le_refl _) hq
        have hVA : arrAt pts t (j + 1) = p.2 + ((t - p.1) * (q.2 - p.2) + (q.1 - p.1) - 1) / (q.1 - p.1) := by
          have := hlen.out
          unfold arrAt; simp only [hf, if_true]
          rw [if_neg (by decide), if_neg (by omega), if_neg (by omega), Nat.add_sub_cancel, getD_of hp, getD_of hq]
        rw [hf]
        have hVA := Lib.hid hVA
        have hf := Lib.hid hf
        obtain ⟨b, off, rfl, hb, c1, c2⟩ := hR _ p hp
        obtain ⟨b', off', e, hb', c3, c4⟩ := hR _ q hq
        obtain ⟨rfl, rfl⟩ : b = b' ∧ off = off' := by cases e; exact ⟨rfl, rfl⟩
        clear e hb'
        try clear hcs
        try clear hargs
        try simp only [List.set_cons_zero, List.set_cons_succ, World.size_alloc, World.size_setCell, World.size_drew] at H
        have hcs := H.cells
        dsimp only [cellsOf, neAll] at hcs
        try clear hargs
        have hargs := H.args
        go_upto_region 8 with fail
        apply st_wp
        case H => repeat (first | with_reducible exact H | with_reducible apply St.alloc | with_reducible apply St.allocAny | with_reducible apply St.set | with_reducible apply St.drew | with_reducible apply St.over | with_reducible exact get0 | with_reducible exact get1 | with_reducible exact get2 | with_reducible exact get3 | with_reducible exact get4 | with_reducible exact get5 | with_reducible exact get6 | with_reducible exact get7 | simp only [List.set_cons_zero, List.set_cons_succ])
        clear H
        try clear hcs
        try clear hargs
        intro W H
        try simp only [List.set_cons_zero, List.set_cons_succ, World.size_alloc, World.size_setCell, World.size_drew] at H
        have hcs := H.cells
        dsimp only [cellsOf, neAll] at hcs
        try clear hargs
        have hargs := H.args
        have y1 : ((j : Int) + 1 == 0) = false := by rw [beq_eq_false_iff_ne]; omega
        have y2 : ((j : Int) + 1 == (n : Int)) = false := by rw [beq_eq_false_iff_ne]; omega
        simp only [y1, y2]
        go_cut [7, 8] (fun s7 s8 wx => ∃ g h : Nat, s7 = .pointer (some ⟨g, 0, none⟩) ∧ s8 = .pointer (some ⟨h, 0, none⟩) ∧ St w wx [(g, 38, [.int .i64 p.1, .int .i64 p.2]), (h, 38, [.int .i64 q.1, .int .i64 q.2])] [])
        case first =>
          refine wp_region_mixb 12 (by kernel_rfl) (by kernel_rfl) ?_
          (refine mixb_step 0 rfl (by kernel_rfl) rfl (fun K hK => ?_); go_simp; refine hK _ ?_; clear hK K)
          (refine mixb_step 1 rfl (by kernel_rfl) rfl (fun K hK => ?_); go_simp; refine hK _ ?_; clear hK K)
          (refine mixb_step 2 rfl (by kernel_rfl) rfl (fun K hK => ?_); go_simp; refine hK _ ?_; clear hK K)
          (refine mixb_step 3 rfl (by kernel_rfl) rfl (fun K hK => ?_); go_simp; refine hK _ ?_; clear hK K)
          (refine mixb_step 4 rfl (by kernel_rfl) rfl (fun K hK => ?_); go_simp; refine hK _ ?_; clear hK K)
          (refine mixb_step 5 rfl (by kernel_rfl) rfl (fun K hK => ?_); go_simp; refine hK _ ?_; clear hK K)
          (refine mixb_step 6 rfl (by kernel_rfl) rfl (fun K hK => ?_); go_simp; refine hK _ ?_; clear hK K)
          (refine mixb_step 7 rfl (by kernel_rfl) rfl (fun K hK => ?_); go_simp; refine hK _ ?_; clear hK K)
          (refine mixb_step 8 rfl (by kernel_rfl) rfl (fun K hK => ?_); go_simp; refine hK _ ?_; clear hK K)
          obtain ⟨B, hBe⟩ : ∃ B, B = W.heap.size := ⟨_, rfl⟩
          rw [← hBe]
          have hB : B ≤ W.heap.size := by omega
          clear hBe
          refine mixb_two 9 10 rfl rfl (by kernel_rfl) (fun W1 K hb hK => ?_) (fun W1 K hb hK => ?_)
          · have hg := Nat.le_trans hB hb.size
            go_simp
            refine hK _ _ ((Below.refl _ _).alloc hg _) ?_
            clear hK K hB
            replace H := H.ext hb
            clear hb
            apply st_mxb'
            case H => repeat (first | with_reducible exact H | with_reducible apply St.alloc | with_reducible apply St.allocAny | with_reducible apply St.set | with_reducible apply St.drew | with_reducible apply St.over | with_reducible exact get0 | with_reducible exact get1 | with_reducible exact get2 | with_reducible exact get3 | with_reducible exact get4 | with_reducible exact get5 | with_reducible exact get6 | with_reducible exact get7 | simp only [List.set_cons_zero, List.set_cons_succ])
            case hB => simp only [World.size_alloc, World.size_setCell]; omega
            clear H
            try clear hcs
            try clear hargs
            intro W H hB
            try simp only [List.set_cons_zero, List.set_cons_succ, World.size_alloc, World.size_setCell, World.size_drew] at H
            have hcs := H.cells
            dsimp only [cellsOf, neAll] at hcs
            try clear hargs
            have hargs := H.args
            refine mixb_one 10 rfl (by kernel_rfl) (fun W2 K hb hK => ?_)
            have hg2 := Nat.le_trans hB hb.size
            go_simp
            refine hK _ _ ((Below.refl _ _).alloc hg2 _) ?_
            clear hK K hB
            replace H := H.ext hb
            clear hb
            apply st_mxb'
            case H => repeat (first | with_reducible exact H | with_reducible apply St.alloc | with_reducible apply St.allocAny | with_reducible apply St.set | with_reducible apply St.drew | with_reducible apply St.over | with_reducible exact get0 | with_reducible exact get1 | with_reducible exact get2 | with_reducible exact get3 | with_reducible exact get4 | with_reducible exact get5 | with_reducible exact get6 | with_reducible exact get7 | simp only [List.set_cons_zero, List.set_cons_succ])
            case hB => simp only [World.size_alloc, World.size_setCell]; omega
            clear H
            try clear hcs
            try clear hargs
            intro W H hB
            try simp only [List.set_cons_zero, List.set_cons_succ, World.size_alloc, World.size_setCell, World.size_drew] at H
            have hcs := H.cells
            dsimp only [cellsOf, neAll] at hcs
            try clear hargs
            have hargs := H.args
            refine mixb_one 11 rfl (by kernel_rfl) (fun W3 K hb hK => ?_)
            have hg3 := Nat.le_trans hB hb.size
            replace H := H.ext hb
            clear hb
            try clear hcs
            try clear hargs
            try simp only [List.set_cons_zero, List.set_cons_succ, World.size_alloc, World.size_setCell, World.size_drew] at H
            have hcs := H.cells
            dsimp only [cellsOf, neAll] at hcs
            try clear hargs
            have hargs := H.args
            go_simp
            refine hK _ _ (by repeat (first | exact Below.refl _ _ | refine Below.setCell ?_ (by assumption) _)) ?_
            clear hK K hB
            apply st_mxb'
            case H => repeat (first | with_reducible exact H | with_reducible apply St.alloc | with_reducible apply St.allocAny | with_reducible apply St.set | with_reducible apply St.drew | with_reducible apply St.over | with_reducible exact get0 | with_reducible exact get1 | with_reducible exact get2 | with_reducible exact get3 | with_reducible exact get4 | with_reducible exact get5 | with_reducible exact get6 | with_reducible exact get7 | simp only [List.set_cons_zero, List.set_cons_succ])
            case hB => simp only [World.size_alloc, World.size_setCell]; omega
            clear H
            try clear hcs
            try clear hargs
            intro W H hB
            try simp only [List.set_cons_zero, List.set_cons_succ, World.size_alloc, World.size_setCell, World.size_drew] at H
            have hcs := H.cells
            dsimp only [cellsOf, neAll] at hcs
            try clear hargs
            have hargs := H.args
            refine mixb_end (by kernel_rfl) (fun W1 hb => ?_)
            replace H := H.ext hb
            clear hb
            try clear hcs
            try clear hargs
            try simp only [List.set_cons_zero, List.set_cons_succ, World.size_alloc, World.size_setCell, World.size_drew] at H
            have hcs := H.cells
            dsimp only [cellsOf, neAll] at hcs
            try clear hargs
            have hargs := H.args
            simp only [List.drop_succ_cons, List.drop_zero]
            go_wp2_with fail
            go_meet
            refine ⟨_, _, rfl, rfl, ?_⟩
            apply St.pick [1, 0] (by decide)
            case H => repeat (first | with_reducible exact H | with_reducible apply St.alloc | with_reducible apply St.allocAny | with_reducible apply St.set | with_reducible apply St.drew | with_reducible apply St.over | with_reducible exact get0 | with_reducible exact get1 | with_reducible exact get2 | with_reducible exact get3 | with_reducible exact get4 | with_reducible exact get5 | with_reducible exact get6 | with_reducible exact get7 | simp only [List.set_cons_zero, List.set_cons_succ])
            all_goals first | rfl | simp only [List.set_cons_zero, List.set_cons_succ, World.size_alloc, World.size_setCell, World.size_drew]
          · have hg := Nat.le_trans hB hb.size
            go_simp
            refine hK _ _ ((Below.refl _ _).alloc hg _) ?_
            clear hK K hB
            replace H := H.ext hb
            clear hb
            apply st_mxb'
            case H => repeat (first | with_reducible exact H | with_reducible apply St.alloc | with_reducible apply St.allocAny | with_reducible apply St.set | with_reducible apply St.drew | with_reducible apply St.over | with_reducible exact get0 | with_reducible exact get1 | with_reducible exact get2 | with_reducible exact get3 | with_reducible exact get4 | with_reducible exact get5 | with_reducible exact get6 | with_reducible exact get7 | simp only [List.set_cons_zero, List.set_cons_succ])
            case hB => simp only [World.size_alloc, World.size_setCell]; omega
            clear H
            try clear hcs
            try clear hargs
            intro W H hB
            try simp only [List.set_cons_zero, List.set_cons_succ, World.size_alloc, World.size_setCell, World.size_drew] at H
            have hcs := H.cells
            dsimp only [cellsOf, neAll] at hcs
            try clear hargs
            have hargs := H.args
            refine mixb_one 9 rfl (by kernel_rfl) (fun W2 K hb hK => ?_)
            have hg2 := Nat.le_trans hB hb.size
            go_simp
            refine hK _ _ ((Below.refl _ _).alloc hg2 _) ?_
            clear hK K hB
            replace H := H.ext hb
            clear hb
            apply st_mxb'
            case H => repeat (first | with_reducible exact H | with_reducible apply St.alloc | with_reducible apply St.allocAny | with_reducible apply St.set | with_reducible apply St.drew | with_reducible apply St.over | with_reducible exact get0 | with_reducible exact get1 | with_reducible exact get2 | with_reducible exact get3 | with_reducible exact get4 | with_reducible exact get5 | with_reducible exact get6 | with_reducible exact get7 | simp only [List.set_cons_zero, List.set_cons_succ])
            case hB => simp only [World.size_alloc, World.size_setCell]; omega
            clear H
            try clear hcs
            try clear hargs
            intro W H hB
            try simp only [List.set_cons_zero, List.set_cons_succ, World.size_alloc, World.size_setCell, World.size_drew] at H
            have hcs := H.cells
            dsimp only [cellsOf, neAll] at hcs
            try clear hargs
            have hargs := H.args
            refine mixb_one 11 rfl (by kernel_rfl) (fun W3 K hb hK => ?_)
            have hg3 := Nat.le_trans hB hb.size
            replace H := H.ext hb
            clear hb
            try clear hcs
            try clear hargs
            try simp only [List.set_cons_zero, List.set_cons_succ, World.size_alloc, World.size_setCell, World.size_drew] at H
            have hcs := H.cells
            dsimp only [cellsOf, neAll] at hcs
            try clear hargs
            have hargs := H.args
            go_simp
            refine hK _ _ (by repeat (first | exact Below.refl _ _ | refine Below.setCell ?_ (by assumption) _)) ?_
            clear hK K hB
            apply st_mxb'
            case H => repeat (first | with_reducible exact H | with_reducible apply St.alloc | with_reducible apply St.allocAny | with_reducible apply St.set | with_reducible apply St.drew | with_reducible apply St.over | with_reducible exact get0 | with_reducible exact get1 | with_reducible exact get2 | with_reducible exact get3 | with_reducible exact get4 | with_reducible exact get5 | with_reducible exact get6 | with_reducible exact get7 | simp only [List.set_cons_zero, List.set_cons_succ])
            case hB => simp only [World.size_alloc, World.size_setCell]; omega
            clear H
            try clear hcs
            try clear hargs
            intro W H hB
            try simp only [List.set_cons_zero, List.set_cons_succ, World.size_alloc, World.size_setCell, World.size_drew] at H
            have hcs := H.cells
            dsimp only [cellsOf, neAll] at hcs
            try clear hargs
            have hargs := H.args
            refine mixb_end (by kernel_rfl) (fun W1 hb => ?_)
            replace H := H.ext hb
            clear hb
            try clear hcs
            try clear hargs
            try simp only [List.set_cons_zero, List.set_cons_succ, World.size_alloc, World.size_setCell, World.size_drew] at H
            have hcs := H.cells
            dsimp only [cellsOf, neAll] at hcs
            try clear hargs
            have hargs := H.args
            simp only [List.drop_succ_cons, List.drop_zero]
            go_wp2_with fail
            go_meet
            refine ⟨_, _, rfl, rfl, ?_⟩
            apply St.pick [0, 1] (by decide)
            case H => repeat (first | with_reducible exact H | with_reducible apply St.alloc | with_reducible apply St.allocAny | with_reducible apply St.set | with_reducible apply St.drew | with_reducible apply St.over | with_reducible exact get0 | with_reducible exact get1 | with_reducible exact get2 | with_reducible exact get3 | with_reducible exact get4 | with_reducible exact get5 | with_reducible exact get6 | with_reducible exact get7 | simp only [List.set_cons_zero, List.set_cons_succ])
            all_goals first | rfl | simp only [List.set_cons_zero, List.set_cons_succ, World.size_alloc, World.size_setCell, World.size_drew]
        case rest =>
          clear H hj1 hj0
          obtain ⟨g, h, rfl, rfl, H⟩ := hcut
          try clear hcs
          try clear hargs
          try simp only [List.set_cons_zero, List.set_cons_succ, World.size_alloc, World.size_setCell, World.size_drew] at H
          have hcs := H.cells
          dsimp only [cellsOf, neAll] at hcs
          try clear hargs
          have hargs := H.args
          have hM : 0 ≤ (t - p.1) * (q.2 - p.2) ∧ (t - p.1) * (q.2 - p.2) ≤ 4096 * 8192 := 
            ⟨Int.mul_nonneg (by omega) (by omega), Int.mul_le_mul (by omega) (by omega) (by omega) (by omega)⟩
          obtain ⟨hM1, hM2⟩ := hM
          obtain ⟨M, hM⟩ : ∃ M, M = (t - p.1) * (q.2 - p.2) := ⟨_, rfl⟩
          rw [← hM] at hM1 hM2
          have hVA := hVA.out
          rw [← hM] at hVA
          obtain ⟨wd, hwd⟩ : ∃ wd, wd = q.1 - p.1 := ⟨_, rfl⟩
          have hq1 : 0 ≤ (M + wd - 1) / wd ∧ (M + wd - 1) / wd ≤ M + wd - 1 := ⟨Int.ediv_nonneg (by omega) (by omega), Int.ediv_le_self _ (by omega)⟩
          obtain ⟨hq1, hq2⟩ := hq1
          rw [← hwd] at hVA
          have hVA := Lib.hid hVA
          have x1 : IntKind.i64.wrap (t - p.1) = t - p.1 := IntWalk.i64_in _ (by omega)
          have x2 : IntKind.i64.wrap (q.2 - p.2) = q.2 - p.2 := IntWalk.i64_in _ (by omega)
          have x3 : IntKind.i64.wrap ((t - p.1) * (q.2 - p.2)) = M := by rw [hM]; exact IntWalk.i64_in _ (by omega)
          have x4 : IntKind.i64.wrap (M + (q.1 - p.1)) = M + wd := by rw [← hwd]; exact IntWalk.i64_in _ (by omega)
          have x5 : IntKind.i64.wrap (M + wd - 1) = M + wd - 1 := IntWalk.i64_in _ (by omega)
          have x6 : (M + wd - 1).tdiv (q.1 - p.1) = (M + wd - 1) / wd := by rw [← hwd]; exact Int.tdiv_eq_ediv_of_nonneg (by omega)
          have x7 : IntKind.i64.wrap ((M + wd - 1) / wd) = (M + wd - 1) / wd := IntWalk.i64_in _ (by omega)
          have x8 : IntKind.i64.wrap (p.2 + (M + wd - 1) / wd) = p.2 + (M + wd - 1) / wd := IntWalk.i64_in _ (by omega)
          have x9 : (q.1 - p.1 = 0) = False := eq_false (by omega)
          go_upto_region 10 with fail
          refine wp_region_mix 18 (by kernel_rfl) (by kernel_rfl) ?_
          (refine mix_step 0 rfl (by kernel_rfl) (fun K hK => ?_); go_simp; refine hK _ ?_; clear hK K)
          (refine mix_step 1 rfl (by kernel_rfl) (fun K hK => ?_); go_simp; refine hK _ ?_; clear hK K)
          (refine mix_step 2 rfl (by kernel_rfl) (fun K hK => ?_); go_simp; refine hK _ ?_; clear hK K)
          (refine mix_step 3 rfl (by kernel_rfl) (fun K hK => ?_); go_simp; refine hK _ ?_; clear hK K)
          (refine mix_step 4 rfl (by kernel_rfl) (fun K hK => ?_); go_simp; refine hK _ ?_; clear hK K)
          (refine mix_step 5 rfl (by kernel_rfl) (fun K hK => ?_); go_simp; refine hK _ ?_; clear hK K)
          (refine mix_step 6 rfl (by kernel_rfl) (fun K hK => ?_); go_simp; refine hK _ ?_; clear hK K)
          (refine mix_step 7 rfl (by kernel_rfl) (fun K hK => ?_); go_simp; refine hK _ ?_; clear hK K)
          (refine mix_step 8 rfl (by kernel_rfl) (fun K hK => ?_); go_simp; refine hK _ ?_; clear hK K)
          (refine mix_step 9 rfl (by kernel_rfl) (fun K hK => ?_); go_simp; refine hK _ ?_; clear hK K)
          (refine mix_step 10 rfl (by kernel_rfl) (fun K hK => ?_); go_simp; refine hK _ ?_; clear hK K)
          (refine mix_step 11 rfl (by kernel_rfl) (fun K hK => ?_); go_simp; refine hK _ ?_; clear hK K)
          (refine mix_step 12 rfl (by kernel_rfl) (fun K hK => ?_); go_simp; refine hK _ ?_; clear hK K)
          (refine mix_step 13 rfl (by kernel_rfl) (fun K hK => ?_); go_simp; refine hK _ ?_; clear hK K)
          (refine mix_step 14 rfl (by kernel_rfl) (fun K hK => ?_); go_simp; refine hK _ ?_; clear hK K)
          (refine mix_step 15 rfl (by kernel_rfl) (fun K hK => ?_); go_simp; refine hK _ ?_; clear hK K)
          (refine mix_step 16 rfl (by kernel_rfl) (fun K hK => ?_); go_simp; refine hK _ ?_; clear hK K)
          (refine mix_step 17 rfl (by kernel_rfl) (fun K hK => ?_); go_simp; refine hK _ ?_; clear hK K)
          refine mix_end' (by kernel_rfl) (fun W1 hb => ?_)
          replace H := H.ext hb
          clear hb
          try clear hcs
          try clear hargs
          try simp only [List.set_cons_zero, List.set_cons_succ, World.size_alloc, World.size_setCell, World.size_drew] at H
          have hcs := H.cells
          dsimp only [cellsOf, neAll] at hcs
          try clear hargs
          have hargs := H.args
          simp only [List.drop_succ_cons, List.drop_zero]
          go_wp2
          go_ret
          have x10 : IntKind.i64.wrap (p.2 + IntKind.i64.wrap ((IntKind.i64.wrap (IntKind.i64.wrap ((t - p.1) * (q.2 - p.2) + (q.1 - p.1)) - 1)).tdiv (q.1 - p.1))) = p.2 + (M + wd - 1) / wd := by rw [← hM, x4, x5, x6, x7, x8]
          exact ⟨by rw [hV.out, hVA.out, ← x10]; rfl, H.below⟩
end Go.Proofs.YtdpgdbkacmmmjaaDoor
