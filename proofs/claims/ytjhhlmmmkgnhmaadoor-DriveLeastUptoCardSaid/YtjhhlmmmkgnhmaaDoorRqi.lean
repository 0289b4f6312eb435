/- Plain: the reference's check of an instance: it ends, and says what is right. -/
import Derived.Test.YtjhhlmmmkgnhmaaDoorRqd
namespace Go.Proofs.YtjhhlmmmkgnhmaaDoor
set_option linter.unusedSimpArgs false
set_option linter.unusedVariables false
set_option linter.unusedSectionVars false

/-! ### Stages -/
def Stg (f : List Int → Option (List Int)) (c : Nat) (P : Prop) : Prop := ∀ l : List Int, l.length + c ≤ 100 → post (f l) (Ext l c P)
section
variable {f : List Int → Option (List Int)} {c : Nat} {P Q : Prop} {l : List Int} {e : Int}
theorem Stg.bad (h : Stg f c P) (hl : l.length + (c + 1) ≤ 100) : post (chk (okN (l ++ [e]).length 8) (f (l ++ [e]))) (Ext l (c + 1) Q) :=
  post_chk (okN_of (by simp; omega)) ((h (l ++ [e]) (by simp; omega)).mono fun x hx => (Ext.one (P := False) (Nat.le_refl 1) trivial).trans hx (by omega) fun h _ => h.elim)
theorem Stg.good (h : Stg f c P) (hl : l.length + (c + 1) ≤ 100) (hp : P → Q) : post (f l) (Ext l (c + 1) Q) := (h l (by omega)).mono fun x hx => hx.mono (by omega) hp
theorem end_bad (hl : l.length + 1 ≤ 100) : post (chk (okN (l ++ [e]).length 8) (some (l ++ [e]))) (Ext l 1 Q) := post_chk (okN_of (by simp; omega)) (post_some.2 (.one (Nat.le_refl 1) trivial))
theorem end_good (hq : Q) : post (some l) (Ext l 1 Q) := post_some.2 (.nil hq)
end
theorem stg_end {P : Prop} (h : P) : Stg (fun l => some l) 0 P := fun l _ => post_some.2 (.nil h)
section
variable {α : Type} {n lo hi : Int} {f : Bool → Option α} {Q : α → Prop}
theorem bnd_in10 (h : post (f (decide (lo ≤ n ∧ n ≤ hi))) Q) : post (bnd (lorryref10_in n lo hi) f) Q := by
  have : lorryref10_in n lo hi = some (decide (lo ≤ n ∧ n ≤ hi)) := by
    unfold lorryref10_in
    congr 1
    rw [Bool.eq_iff_iff, andT, geI_t, leI_t, decide_eq_true_iff]
  rw [this]; exact h
theorem bnd_in11 (h : post (f (decide (lo ≤ n ∧ n ≤ hi))) Q) : post (bnd (lorryref11_in n lo hi) f) Q := bnd_in10 h
end
/-- A loop that only looks: it ends. -/
theorem post_scan {E : Type} {B : Int → Option (Int ⊕ E)} (n : Nat) (R : E → Prop) (P : Nat → Prop) (hn : n < 18446744073709551615)
    (step : ∀ i, i < n → post (B (i : Int)) fun x => (x = .inl ((i : Int) + 1) ∧ P i) ∨ ∃ e, x = .inr e ∧ R e) (fin : post (B (n : Int)) fun x => ∃ e, x = .inr e ∧ ((∀ i, i < n → P i) → R e)) : post (loopF B 0) R := by
  refine post_loop (fun i => ∃ k : Nat, i = (k : Int) ∧ k ≤ n ∧ ∀ j, j < k → P j) (fun i => n - i.toNat) ⟨0, rfl, Nat.zero_le _, by simp⟩ (by simp; omega) ?_
  rintro _ ⟨k, rfl, hk, hP⟩
  by_cases h : k < n
  · refine (step k h).mono ?_
    rintro x (⟨rfl, hp⟩ | ⟨e, rfl, he⟩)
    · refine ⟨fun s' hs => ?_, fun _ h => by (cases h)⟩
      cases hs
      refine ⟨⟨k + 1, by simp, by omega, fun j hj => ?_⟩, by simp; omega⟩
      rcases Nat.lt_or_ge j k with h | h
      · exact hP j h
      · obtain rfl : j = k := by omega
        exact hp
    · exact ⟨fun _ h => (by cases h), fun e' he' => by cases he'; exact he⟩
  · obtain rfl : k = n := by omega
    refine fin.mono ?_
    rintro x ⟨e, rfl, he⟩
    exact ⟨fun _ h => (by cases h), fun e' he' => by cases he'; exact he hP⟩

/-! ### Types -/
structure TypOK (np dims : Nat) (t : T_api_Type) : Prop where
  count : 0 ≤ t.count ∧ t.count ≤ 10
  from_ : 0 ≤ t.from_ ∧ t.from_ < np
  to_ : 0 ≤ t.to_ ∧ t.to_ < np
  dims1 : 1 ≤ dims ∧ dims ≤ 3
  cap : t.cap.length = dims
  caps : ∀ i, i < t.cap.length → ∀ x, t.cap[i]? = some x → 0 ≤ x ∧ x ≤ 1000
  skills : 0 ≤ t.skills ∧ t.skills ≤ 1073741823
  opn : 0 ≤ t.open_ ∧ t.open_ ≤ t.close
  close : t.close ≤ 4096
  drive : 1 ≤ t.drive ∧ t.drive ≤ 4096
  rest : 0 ≤ t.rest_ ∧ t.rest_ ≤ 4096
  profile : 0 ≤ t.profile ∧ t.profile ≤ 7
  fixed : 0 ≤ t.fixed ∧ t.fixed ≤ 100000
  perMile : 0 ≤ t.perMile ∧ t.perMile ≤ 100
  perTick : 0 ≤ t.perTick ∧ t.perTick ≤ 100
section
variable {x0 : T_api_Type} {n : T_api_Network} {l0 : List T_api_Type}
abbrev P8 (x0 : T_api_Type) : Prop := (0 ≤ x0.profile ∧ x0.profile ≤ 7) ∧ (0 ≤ x0.fixed ∧ x0.fixed ≤ 100000) ∧ (0 ≤ x0.perMile ∧ x0.perMile ≤ 100) ∧ (0 ≤ x0.perTick ∧ x0.perTick ≤ 100)
theorem ty8 : Stg (lorryref10_rules_J8 x0) 1 (P8 x0) := fun l hl => by
  unfold lorryref10_rules_J8
  refine bnd_in10 (post_br (fun h1 => bnd_in10 (post_br (fun h2 => bnd_in10 (post_br (fun h3 => bnd_in10 (post_br (fun h4 => end_good ?_) (fun _ => end_bad hl))) (fun _ => end_bad hl))) (fun _ => end_bad hl))) (fun _ => end_bad hl))
  exact ⟨of_decide_eq_true h1, of_decide_eq_true h2, of_decide_eq_true h3, of_decide_eq_true h4⟩
abbrev P7 (x0 : T_api_Type) : Prop := (1 ≤ x0.drive ∧ x0.drive ≤ 4096) ∧ (0 ≤ x0.rest_ ∧ x0.rest_ ≤ 4096) ∧ P8 x0
theorem ty7 : Stg (lorryref10_rules_J7 x0) 2 (P7 x0) := fun l hl => by
  unfold lorryref10_rules_J7
  exact bnd_in10 (post_br (fun h1 => bnd_in10 (post_br (fun h2 => ty8.good hl fun h => ⟨of_decide_eq_true h1, of_decide_eq_true h2, h⟩) (fun _ => ty8.bad hl))) (fun _ => ty8.bad hl))
abbrev P6 (x0 : T_api_Type) : Prop := (0 ≤ x0.open_ ∧ x0.open_ ≤ x0.close) ∧ x0.close ≤ 4096 ∧ P7 x0
theorem ty6 : Stg (lorryref10_rules_J6 x0) 3 (P6 x0) := fun l hl => by
  unfold lorryref10_rules_J6
  refine bnd_in10 (post_br (fun _ => ty7.bad hl) (fun h1 => ty7.good hl fun h => ?_))
  simp only [orF, ntF, gtI_f] at h1
  exact ⟨of_decide_eq_true h1.1, h1.2, h⟩
abbrev P5 (x0 : T_api_Type) : Prop := (0 ≤ x0.skills ∧ x0.skills ≤ 1073741823) ∧ P6 x0
theorem ty5 : Stg (lorryref10_rules_J5 x0) 4 (P5 x0) := fun l hl => by
  unfold lorryref10_rules_J5
  exact bnd_in10 (post_br (fun h1 => ty6.good hl fun h => ⟨of_decide_eq_true h1, h⟩) (fun _ => ty6.bad hl))
def dimsOf (l : List T_api_Type) : Nat := match l with
  | [] => 0
  | t :: _ => t.cap.length
theorem dims_eq : lorryref10_Dims l0 = some (dimsOf l0 : Int) := by
  unfold lorryref10_Dims dimsOf
  cases l0 with
  | nil => rfl
  | cons t r =>
    rw [br_neg (by simp [lenI]; omega), show (0 : Int) = ((0 : Nat) : Int) from rfl, getI_nat (a := t) rfl]; rfl
abbrev P4 (dims : Nat) (x0 : T_api_Type) : Prop := (1 ≤ dims ∧ dims ≤ 3) ∧ x0.cap.length = dims ∧ (∀ i, i < x0.cap.length → ∀ x, x0.cap[i]? = some x → 0 ≤ x ∧ x ≤ 1000) ∧ P5 x0
theorem cap_post {c : List Int} {dims : Nat} (hc : c.length ≤ 1048576) : post (lorryref10_capacity c dims) fun r => r = true → (1 ≤ dims ∧ dims ≤ 3) ∧ c.length = dims ∧ ∀ i, i < c.length → ∀ x, c[i]? = some x → 0 ≤ x ∧ x ≤ 1000 := by
  unfold lorryref10_capacity
  refine bnd_in10 (post_br (fun _ => post_some.2 fun h => by cases h) (fun h1 => ?_))
  simp only [orF, ntF, neI_f, lenI, decide_eq_true_iff] at h1
  have h2 := of_decide_eq_true h1.1
  refine post_bnd (R := fun e : Unit ⊕ Bool => (∃ u, e = .inl u ∧ ∀ i, i < c.length → ∀ x, c[i]? = some x → 0 ≤ x ∧ x ≤ 1000) ∨ e = .inr false) ?_ fun e he => ?_
  · refine post_scan (B := fun s => lorryref10_capacity_L1 c s) c.length _ (fun i => ∀ x, c[i]? = some x → 0 ≤ x ∧ x ≤ 1000) (by omega) (fun i hi => ?_) ?_
    · show post (lorryref10_capacity_L1 c (i : Int)) _
      unfold lorryref10_capacity_L1
      have e1 : c[i]? = some c[i] := List.getElem?_eq_getElem hi
      rw [br_pos (by simp [lenI]; omega), getI_nat e1, bnd_some, inc hi hc]
      exact bnd_in10 (post_br (fun h => post_some.2 (.inl ⟨rfl, fun x hx => by rw [e1] at hx; cases hx; exact of_decide_eq_true h⟩)) (fun _ => post_some.2 (.inr ⟨_, rfl, .inr rfl⟩)))
    · show post (lorryref10_capacity_L1 c (c.length : Int)) _
      unfold lorryref10_capacity_L1
      rw [br_neg (by simp [lenI])]
      exact post_some.2 ⟨_, rfl, fun h => .inl ⟨_, rfl, h⟩⟩
  · rcases he with ⟨u, rfl, h⟩ | rfl
    · have hd : (1 ≤ dims ∧ dims ≤ 3) ∧ c.length = dims := by omega
      rw [sel_inl]; exact post_some.2 fun _ => ⟨hd.1, hd.2, h⟩
    · rw [sel_inr]; exact post_some.2 fun h => by cases h
theorem ty4 (hc : x0.cap.length ≤ 1048576) : Stg (lorryref10_rules_J4 l0 x0) 5 (P4 (dimsOf l0) x0) := fun l hl => by
  unfold lorryref10_rules_J4
  rw [dims_eq, bnd_some]
  exact post_bnd (cap_post hc) fun r hr => post_br (fun h => ty5.good hl fun h' => ⟨(hr h).1, (hr h).2.1, (hr h).2.2, h'⟩) (fun _ => ty5.bad hl)
abbrev P3 (np dims : Nat) (x0 : T_api_Type) : Prop := (0 ≤ x0.from_ ∧ x0.from_ < np) ∧ (0 ≤ x0.to_ ∧ x0.to_ < np) ∧ P4 dims x0
theorem ty3 (hn : n.places.length ≤ 1048576) (hc : x0.cap.length ≤ 1048576) : Stg (lorryref10_rules_J3 n l0 x0) 6 (P3 n.places.length (dimsOf l0) x0) := fun l hl => by
  unfold lorryref10_rules_J3
  have hs : subK .i64 (lenI n.places) 1 = (n.places.length : Int) - 1 := by unfold lenI; exact subI (by omega) (by omega)
  rw [hs]
  refine bnd_in10 (post_br (fun h1 => bnd_in10 (post_br (fun h2 => (ty4 hc).good hl fun h => ⟨?_, ?_, h⟩) (fun _ => (ty4 hc).bad hl))) (fun _ => (ty4 hc).bad hl))
  · have := of_decide_eq_true h1; omega
  · have := of_decide_eq_true h2; omega
theorem ty2 (hn : n.places.length ≤ 1048576) (hc : x0.cap.length ≤ 1048576) : Stg (lorryref10_rules_J2 n l0 x0) 7 ((0 ≤ x0.count ∧ x0.count ≤ 10) ∧ P3 n.places.length (dimsOf l0) x0) := fun l hl => by
  unfold lorryref10_rules_J2
  exact bnd_in10 (post_br (fun h1 => (ty3 hn hc).good hl fun h => ⟨of_decide_eq_true h1, h⟩) (fun _ => (ty3 hn hc).bad hl))
theorem known_post {i : Nat} {s : ByteArray} (hi : i ≤ l0.length) (hl : l0.length ≤ 1048576) : post (lorryref10_known l0 (i : Int) s) fun _ => True := by
  unfold lorryref10_known
  refine post_bnd (R := fun _ => True) ?_ fun e _ => by cases e <;> exact post_some.2 trivial
  refine post_scan (B := fun x => lorryref10_known_L1 l0 (i : Int) s x) i _ (fun _ => True) (by omega) (fun k hk => ?_) ?_
  · show post (lorryref10_known_L1 l0 (i : Int) s (k : Int)) _
    unfold lorryref10_known_L1
    have e1 : l0[k]? = some (l0[k]'(by omega)) := List.getElem?_eq_getElem _
    rw [br_pos (by simp; omega), getI_nat e1, bnd_some, inc (n := i) hk (by omega)]
    exact post_br (fun _ => post_some.2 (.inr ⟨_, rfl, trivial⟩)) (fun _ => post_some.2 (.inl ⟨rfl, trivial⟩))
  · show post (lorryref10_known_L1 l0 (i : Int) s (i : Int)) _
    unfold lorryref10_known_L1
    rw [br_neg (by simp)]
    exact post_some.2 ⟨_, rfl, fun _ => trivial⟩
structure TypI (t : T_api_Type) : Prop where
  name : t.name.size ≤ 1048576
  cap : t.cap.length ≤ 1048576
theorem rules10_post (hn : n.places.length ≤ 1048576) (hl : l0.length ≤ 1048576) {i : Nat} (hx : l0[i]? = some x0) (hI : TypI x0) : post (lorryref10_rules n l0 (i : Int)) (Ext [] 9 (TypOK n.places.length (dimsOf l0) x0)) := by
  unfold lorryref10_rules
  rw [getI_nat hx, bnd_some]
  have hi := (List.getElem?_eq_some_iff.1 hx).1
  have h1 : Stg (lorryref10_rules_J1 n l0 (i : Int) x0) 8 ((0 ≤ x0.count ∧ x0.count ≤ 10) ∧ P3 n.places.length (dimsOf l0) x0) := fun l hl' => by
    unfold lorryref10_rules_J1
    exact post_bnd (known_post (by omega) hl) fun r _ => post_br (fun _ => (ty2 hn hI.cap).bad hl') (fun _ => (ty2 hn hI.cap).good hl' id)
  refine post_bnd (name_post _ hI.name) fun r _ => post_br (fun _ => h1.good (by simp) fun h => ?_) (fun _ => h1.bad (l := []) (by simp))
  obtain ⟨a, ⟨b, c, d, e, f, g, ⟨h, i, j, k, l, m, o, p⟩⟩⟩ := h
  exact ⟨a, b, c, d, e, f, g, h, i, j, k, l, m, o, p⟩
/-- Faults made of codes. -/
theorem codes_loop {r : List Int} {s : ByteArray} {i : Nat} (hi : i < 1048576) (hr : r.length ≤ 100) (out : List T_api_Fault) (ho : out.length ≤ 209715200) {B : List T_api_Fault × Int → Option ((List T_api_Fault × Int) ⊕ (List T_api_Fault))}
    (hB : ∀ l3 k, B (l3, k) = br (ltI k (lenI r)) (bnd (getI r k) fun x0 => bnd (lorryref01_Decimal (i : Int)) fun r2 => chk (okN (l3 ++ [(T_api_Fault.mk x0 r2)]).length 24) (some (.inl ((l3 ++ [(T_api_Fault.mk x0 r2)]), (addK .i64 k 1))))) (some (.inr l3))) :
    post (loopF B (out, 0)) (Ext out r.length (r = [])) := by
  refine (post_listE r.length 1 (fun _ => False) out (by omega) (fun k o hk ho' => ?_) (fun o => ?_)).mono fun x hx => hx.mono (by omega) fun h => ?_
  · have e1 : r[k]? = some r[k] := List.getElem?_eq_getElem hk
    rw [hB, br_pos (by simp [lenI]; exact hk), getI_nat e1, bnd_some, inc hk (by omega)]
    exact post_bnd (decimal_post (i : Int) (nat_isI (by omega))) fun s hs => post_chk (okN_of (by simp; omega)) (rnd_one rfl (by omega) (sm_at (by omega)))
  · rw [hB, br_neg (by simp [lenI])]
  · cases r with
    | nil => rfl
    | cons y ys => exact (h 0 (by simp)).elim
theorem Ext.len0 {α : Type} [Sm α] {r : List α} {c : Nat} {P : Prop} (h : Ext [] c P r) : r.length ≤ c := by have := h.len; simpa using this
theorem check10_post (hn : n.places.length ≤ 1048576) (hl : l0.length ≤ 1048576) (hI : ∀ t ∈ l0, TypI t) : post (lorryref10_Check n l0) (Ext [] (1 + 9 * l0.length) ((1 ≤ l0.length ∧ l0.length ≤ 6) ∧ ∀ t ∈ l0, TypOK n.places.length (dimsOf l0) t)) := by
  have main : ∀ l1 : List T_api_Fault, l1.length ≤ 1 → post (lorryref10_Check_J1 n l0 l1) (Ext l1 (9 * l0.length) (∀ i, i < l0.length → ∀ t, l0[i]? = some t → TypOK n.places.length (dimsOf l0) t)) := by
    intro l1 h1
    refine post_bndE ?_
    refine (post_listE l0.length 9 _ l1 (by omega) (fun i out hi ho => ?_) (fun out => ?_)).mono fun r h => post_some.2 h
    · show post (lorryref10_Check_L1 n l0 out (i : Int)) _
      unfold lorryref10_Check_L1
      have e1 : l0[i]? = some l0[i] := List.getElem?_eq_getElem hi
      rw [br_pos (by simp [lenI]; exact hi), inc hi hl]
      refine post_bnd (rules10_post hn hl e1 (hI _ (List.getElem_mem hi))) fun r1 hr1 => ?_
      have := hr1.len0
      refine post_bnd (codes_loop (i := i) (s := ByteArray.empty) (by omega) (by omega) out (by omega) (fun _ _ => rfl)) fun l4 h4 => post_some.2 ⟨_, rfl, h4.mono this fun h => ?_⟩
      intro t ht
      rw [e1] at ht; cases ht
      exact hr1.of_nil h
    · show lorryref10_Check_L1 n l0 out (l0.length : Int) = _
      unfold lorryref10_Check_L1
      rw [br_neg (by simp [lenI])]
  unfold lorryref10_Check
  refine bnd_in10 (post_br (fun h => (main [] (by simp)).mono fun r hr => hr.mono (by omega) fun h' => ⟨?_, fun t ht => ?_⟩) (fun h => post_chk (okN_of (by simp)) ((main _ (by simp)).mono fun r hr => (Ext.one (P := False) (Nat.le_refl 1) (sm_at (s := ByteArray.empty) (by simp [ByteArray.size_empty]))).trans hr (by omega) fun h _ => h.elim)))
  · have := of_decide_eq_true h; simp only [lenI] at this; omega
  · obtain ⟨i, hi⟩ := List.getElem?_of_mem ht
    exact h' i (List.getElem?_eq_some_iff.1 hi).1 t hi
end
end Go.Proofs.YtjhhlmmmkgnhmaaDoor
