/- Route: walks. -/
import Derived.Test.YtcmbckcjklociaaG
import Derived.Test.YtcmbckcjklociaaOpensI
import Derived.Test.YtcmbckcjklociaaLoad
import Derived.Test.YtcmbckcjklociaaMap
import Derived.Deep.DeepCutAuto
import Derived.Deep.LoopGhost
import Derived.IntWalk
namespace Go.Proofs.Ytcmbckcjklociaa
set_option linter.unusedSimpArgs false
set_option linter.unusedVariables false
open Go.RowKit

def rtHit (os : List OrdD) (vs : List VisD) (f : OrdD → Bool) (i : Nat) : Bool := match vs[i]? with
  | none => false
  | some v => if v.order < 0 then false else match os[v.order.toNat]? with
    | none => false
    | some o => !((vs.take i).any fun u => u.order == v.order) && f o
def rtCnt (os : List OrdD) (vs : List VisD) (f : OrdD → Bool) : Nat → Int
  | 0 => 0
  | i + 1 => rtCnt os vs f i + (if rtHit os vs f i then 1 else 0)
def fM (typ : Int) (o : OrdD) : Bool := o.now != -1 && o.now != typ
def fO (typ : Int) (o : OrdD) : Bool := o.last != -1 && o.last != typ
def seenF (vs : List VisD) (i : Nat) : Int → Int := fun y => (((vs.take i).filter fun u => u.order == y).length : Int)
/-- What a route costs: cost, moved, other, work. -/
def rtV (x : InstD) (r : RouteD) (s : SheetD) : Int × Int × Int × Int :=
  if r.typ < 0 then (0, 0, 0, 0) else match x.types[r.typ.toNat]? with
    | none => (0, 0, 0, 0)
    | some t => (t.fixed + t.perMile * s.miles + t.perTick * (s.fin - t.opn), rtCnt x.orders r.visits (fM r.typ) r.visits.length, rtCnt x.orders r.visits (fO r.typ) r.visits.length, (s.fin - t.opn) / 64 * ((s.fin - t.opn) / 64))

theorem seenF_zero (vs : List VisD) : seenF vs 0 = fun _ => 0 := by funext y; simp [seenF]
theorem seenF_succ {vs : List VisD} {i : Nat} {v : VisD} (h : vs[i]? = some v) : upd (seenF vs i) v.order (seenF vs i v.order + 1) = seenF vs (i + 1) := by
  funext y
  unfold upd seenF
  rw [List.take_add_one, h, List.filter_append, List.length_append]
  by_cases hy : y = v.order
  · subst hy; simp
  · rw [if_neg hy]
    have : (v.order == y) = false := by rw [beq_eq_false_iff_ne]; exact fun e => hy e.symm
    simp [this]
theorem seenF_bd (vs : List VisD) (i : Nat) (y : Int) : 0 ≤ seenF vs i y ∧ seenF vs i y ≤ i := by
  unfold seenF
  have h1 := List.length_filter_le (fun u : VisD => u.order == y) (vs.take i)
  have h2 := List.length_take_le i vs
  omega
theorem seenF_any (vs : List VisD) (i : Nat) (y : Int) : ((vs.take i).any fun u => u.order == y) = decide (1 ≤ seenF vs i y) := by
  rw [Bool.eq_iff_iff, decide_eq_true_iff, List.any_eq_true]
  unfold seenF
  constructor
  · rintro ⟨u, hu, he⟩
    have : u ∈ (vs.take i).filter fun u => u.order == y := List.mem_filter.2 ⟨hu, he⟩
    have := List.length_pos_of_mem this
    omega
  · intro h
    have hpos : 0 < ((vs.take i).filter fun u => u.order == y).length := by omega
    obtain ⟨u, hu⟩ := List.exists_mem_of_length_pos hpos
    exact ⟨u, List.mem_filter.1 hu⟩
theorem rtCnt_bd (os : List OrdD) (vs : List VisD) (f : OrdD → Bool) : ∀ i : Nat, 0 ≤ rtCnt os vs f i ∧ rtCnt os vs f i ≤ i
  | 0 => by simp [rtCnt]
  | i + 1 => by
    have := rtCnt_bd os vs f i
    unfold rtCnt
    split <;> omega

def begB (vs : List VisD) (k : Nat) (y : Int) : Bool := !((vs.take k).any fun u => u.order == y)
theorem rtCnt_no {os : List OrdD} {vs : List VisD} {f : OrdD → Bool} {k : Nat} (h : rtHit os vs f k = false) : rtCnt os vs f (k + 1) = rtCnt os vs f k := by
  show rtCnt os vs f k + (if rtHit os vs f k = true then 1 else 0) = _
  rw [h, if_neg (by decide)]; omega
theorem rtCnt_yes {os : List OrdD} {vs : List VisD} {f : OrdD → Bool} {k : Nat} (h : rtHit os vs f k = true) : rtCnt os vs f (k + 1) = rtCnt os vs f k + 1 := by
  show rtCnt os vs f k + (if rtHit os vs f k = true then 1 else 0) = _
  rw [h, if_pos rfl]
theorem rtHit_neg {os : List OrdD} {vs : List VisD} {f : OrdD → Bool} {k : Nat} {v : VisD} (hv : vs[k]? = some v) (h : v.order < 0) : rtHit os vs f k = false := by
  unfold rtHit; simp only [hv]; rw [if_pos h]
theorem rtHit_big {os : List OrdD} {vs : List VisD} {f : OrdD → Bool} {k : Nat} {v : VisD} (hv : vs[k]? = some v) (h : (os.length : Int) ≤ v.order) : rtHit os vs f k = false := by
  unfold rtHit; simp only [hv]; rw [if_neg (by omega), List.getElem?_eq_none (by omega)]
theorem rtHit_seen {os : List OrdD} {vs : List VisD} {f : OrdD → Bool} {k : Nat} {v : VisD} {o : OrdD} (hv : vs[k]? = some v) (h : ¬ v.order < 0) (ho : os[v.order.toNat]? = some o) (hs : begB vs k v.order = false) : rtHit os vs f k = false := by
  unfold begB at hs
  unfold rtHit; simp only [hv]; rw [if_neg h]; simp only [ho]; rw [hs]; rfl
theorem rtHit_is {os : List OrdD} {vs : List VisD} {f : OrdD → Bool} {k : Nat} {v : VisD} {o : OrdD} (hv : vs[k]? = some v) (h : ¬ v.order < 0) (ho : os[v.order.toNat]? = some o) (hs : begB vs k v.order = true) : rtHit os vs f k = f o := by
  unfold begB at hs
  unfold rtHit; simp only [hv]; rw [if_neg h]; simp only [ho]; rw [hs]; rfl
theorem seen_beg {vs : List VisD} {k : Nat} {v : VisD} (hv : vs[k]? = some v) : begB vs k v.order = decide (seenF vs (k + 1) v.order ≤ 1) := by
  have h1 := seenF_any vs k v.order
  have h2 : seenF vs (k + 1) v.order = seenF vs k v.order + 1 := by rw [← seenF_succ hv]; unfold upd; rw [if_pos rfl]
  unfold begB
  rw [h1, h2, Bool.eq_iff_iff]
  simp; omega

theorem foreign_any (a b : Int) (w : World) : Calls Try.prog 23 #[.int .i64 a, .int .i64 b] w fun e w' => e = .returned (.bool (a != -1 && a != b)) ∧ Below w.heap.size w w' := by
  by_cases h : a = -1
  · have h1 : (a != -1) = false := by rw [h]; rfl
    have h2 := Lib.hid h1
    go_enter Try.func23, Try.ntmps23
    go_wp2
    go_ret
    exact ⟨ret_bool (by rw [h2.out]; rfl), Below.refl _ _⟩
  · have h1 : (a != -1) = true := by rw [bne_iff_ne]; exact h
    have h3 := Lib.hid h1
    by_cases h' : a = b
    · subst h'
      go_enter Try.func23, Try.ntmps23
      go_wp2
      go_ret
      exact ⟨ret_bool (by simp), Below.refl _ _⟩
    · have h2 : (a != b) = true := by rw [bne_iff_ne]; exact h'
      have h4 := Lib.hid h2
      go_enter Try.func23, Try.ntmps23
      go_wp2
      go_ret
      exact ⟨ret_bool (by rw [h3.out, h4.out]; rfl), Below.refl _ _⟩

theorem begB_true {vs : List VisD} {k : Nat} {y : Int} (h : ∀ (m : Nat) (u : VisD), m < k → vs[m]? = some u → u.order ≠ y) : begB vs k y = true := by
  unfold begB
  rw [Bool.not_eq_true', List.any_eq_false]
  intro u hu
  obtain ⟨i, hi⟩ := List.getElem?_of_mem hu
  rw [List.getElem?_take] at hi
  split at hi
  · rename_i hik
    have := h i u hik hi
    simpa using this
  · cases hi
theorem begB_false {vs : List VisD} {k m : Nat} {y : Int} {u : VisD} (hm : m < k) (hu : vs[m]? = some u) (hy : u.order = y) : begB vs k y = false := by
  unfold begB
  rw [Bool.not_eq_false', List.any_eq_true]
  refine ⟨u, List.mem_of_getElem? (i := m) ?_, by simpa using hy⟩
  rw [List.getElem?_take, if_pos hm, hu]

set_option maxRecDepth 100000 in
set_option maxHeartbeats 1000000 in
theorem begins_any (A : Option Addr) (n c : Nat) (vs : List VisD) (hlen : vs.length = n) (hn : n ≤ 80) (k : Nat) (v : VisD) (hv : vs[k]? = some v) (w : World) (hR : SlR rdVis w A vs) :
    Calls Try.prog 24 #[.slice A n c, .int .i64 k] w fun e w' => e = .returned (.bool (begB vs k v.order)) ∧ Below w.heap.size w w' := by
  have hk : k < n := by have := (List.getElem?_eq_some_iff.1 hv).1; omega
  have hk' : (k : Int) < n := by omega
  have H := St.start w
  obtain ⟨b, off, cs, rfl, hb, hrow, hc⟩ := hR k v hv
  obtain ⟨rfl, -⟩ := vis_cells hrow
  rw [rdVis_size] at hc
  have k0 := hc 0 _ rfl
  have k1 := hc 1 _ rfl
  rw [Nat.add_zero] at k0
  clear hc
  clear hrow
  replace hlen := Lib.hid hlen
  replace hv := Lib.hid hv
  go_enter Try.func24, Try.ntmps24
  go_wp2_with fail
  go_loopg [5] k (fun g s5 wr => ∃ i : Nat, i ≤ k ∧ g = k - i ∧ s5 = .int .i64 i ∧ (∀ (m : Nat) (u : VisD), m < i → vs[m]? = some u → u.order ≠ v.order) ∧ St w wr [] [])
  case atStart => exact ⟨0, by omega, rfl, rfl, fun m u hm => absurd hm (by omega), H⟩
  case round =>
    clear H
    obtain ⟨i, hi, rfl, rfl, hno, H⟩ := hrel
    replace hno := Lib.hid hno
    try clear hcs
    try clear hargs
    try simp only [List.set_cons_zero, List.set_cons_succ, World.size_alloc, World.size_setCell, World.size_drew] at H
    have hcs := H.cells
    dsimp only [cellsOf, neAll] at hcs
    try clear hargs
    have hargs := H.args
    by_cases hik : i < k
    · have hik' : (i : Int) < k := by omega
      have hin' : (i : Int) < n := by omega
      have hi0 : 0 ≤ (i : Int) := by omega
      have hk0 : 0 ≤ (k : Int) := by omega
      obtain ⟨u, hu⟩ : ∃ u, vs[i]? = some u := ⟨_, List.getElem?_eq_getElem (by have := hlen.out; omega)⟩
      obtain ⟨b', off', cs', e, hb', hrow, hc⟩ := hR i u hu
      cases e
      obtain ⟨rfl, -⟩ := vis_cells hrow
      rw [rdVis_size] at hc
      have m0 := hc 0 _ rfl
      have m1 := hc 1 _ rfl
      rw [Nat.add_zero] at m0
      clear hc
      clear hrow
      replace hu := Lib.hid hu
      by_cases hx : u.order = v.order
      · have hB := Lib.hid (begB_false hik hu.out hx)
        rw [hx] at m0
        replace hx := Lib.hid hx
        go_upto_region 4 with fail
        refine wp_region_mix 11 (by kernel_rfl) (by kernel_rfl) ?_
        (refine mix_step 0 rfl (by kernel_rfl) (fun K hK => ?_); go_simp; refine hK _ ?_; clear hK K)
        (refine mix_step 1 rfl (by kernel_rfl) (fun K hK => ?_); go_simp; refine hK _ ?_; clear hK K)
        (refine mix_step 2 rfl (by kernel_rfl) (fun K hK => ?_); go_simp; refine hK _ ?_; clear hK K)
        (refine mix_step 3 rfl (by kernel_rfl) (fun K hK => ?_); go_simp; refine hK _ ?_; clear hK K)
        (refine mix_step 4 rfl (by kernel_rfl) (fun K hK => ?_); go_simp; refine hK _ ?_; clear hK K)
        (refine mix_step 5 rfl (by kernel_rfl) (fun K hK => ?_); go_simp; refine hK _ ?_; clear hK K)
        (refine mix_step 6 rfl (by kernel_rfl) (fun K hK => ?_); go_simp; refine hK _ ?_; clear hK K)
        (refine mix_step 7 rfl (by kernel_rfl) (fun K hK => ?_); go_simp; refine hK _ ?_; clear hK K)
        (refine mix_step 8 rfl (by kernel_rfl) (fun K hK => ?_); go_simp; refine hK _ ?_; clear hK K)
        (refine mix_step 9 rfl (by kernel_rfl) (fun K hK => ?_); go_simp; refine hK _ ?_; clear hK K)
        (refine mix_step 10 rfl (by kernel_rfl) (fun K hK => ?_); go_simp; refine hK _ ?_; clear hK K)
        refine mix_end' (by kernel_rfl) (fun W1 hb => ?_)
        replace H := H.ext hb
        clear hb
        try clear hcs
        try clear hargs
        try simp only [List.set_cons_zero, List.set_cons_succ, World.size_alloc, World.size_setCell, World.size_drew] at H
        have hcs := H.cells
        dsimp only [cellsOf, neAll] at hcs
        try clear hargs
        have hargs := H.args
        simp only [List.drop_succ_cons, List.drop_zero]
        go_wp2
        go_ret
        exact ⟨ret_bool (by rw [hB.out]), H.below⟩
      · have hx' : (u.order == v.order) = false := beq_eq_false_iff_ne.2 hx
        go_upto_region 4 with fail
        refine wp_region_mix 11 (by kernel_rfl) (by kernel_rfl) ?_
        (refine mix_step 0 rfl (by kernel_rfl) (fun K hK => ?_); go_simp; refine hK _ ?_; clear hK K)
        (refine mix_step 1 rfl (by kernel_rfl) (fun K hK => ?_); go_simp; refine hK _ ?_; clear hK K)
        (refine mix_step 2 rfl (by kernel_rfl) (fun K hK => ?_); go_simp; refine hK _ ?_; clear hK K)
        (refine mix_step 3 rfl (by kernel_rfl) (fun K hK => ?_); go_simp; refine hK _ ?_; clear hK K)
        (refine mix_step 4 rfl (by kernel_rfl) (fun K hK => ?_); go_simp; refine hK _ ?_; clear hK K)
        (refine mix_step 5 rfl (by kernel_rfl) (fun K hK => ?_); go_simp; refine hK _ ?_; clear hK K)
        (refine mix_step 6 rfl (by kernel_rfl) (fun K hK => ?_); go_simp; refine hK _ ?_; clear hK K)
        (refine mix_step 7 rfl (by kernel_rfl) (fun K hK => ?_); go_simp; refine hK _ ?_; clear hK K)
        (refine mix_step 8 rfl (by kernel_rfl) (fun K hK => ?_); go_simp; refine hK _ ?_; clear hK K)
        (refine mix_step 9 rfl (by kernel_rfl) (fun K hK => ?_); go_simp; refine hK _ ?_; clear hK K)
        (refine mix_step 10 rfl (by kernel_rfl) (fun K hK => ?_); go_simp; refine hK _ ?_; clear hK K)
        refine mix_end' (by kernel_rfl) (fun W1 hb => ?_)
        replace H := H.ext hb
        clear hb
        try clear hcs
        try clear hargs
        try simp only [List.set_cons_zero, List.set_cons_succ, World.size_alloc, World.size_setCell, World.size_drew] at H
        have hcs := H.cells
        dsimp only [cellsOf, neAll] at hcs
        try clear hargs
        have hargs := H.args
        simp only [List.drop_succ_cons, List.drop_zero]
        go_wp2_with fail
        go_roundg (k - (i + 1))
        case measure => omega
        case rel =>
          refine ⟨i + 1, by omega, rfl, by go_num, fun m u' hm hu' => ?_, H⟩
          rcases Nat.lt_or_ge m i with h | h
          · exact hno.out m u' h hu'
          · obtain rfl : m = i := by omega
            have := hu.out.symm.trans hu'
            cases this
            exact hx
    · obtain rfl : i = k := by omega
      have hB := Lib.hid (begB_true hno.out)
      go_wp2
      go_ret
      exact ⟨ret_bool (by rw [hB.out]), H.below⟩
end Go.Proofs.Ytcmbckcjklociaa
