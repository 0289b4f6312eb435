/- Plain: the reference's check of an instance: orders, pairs, all of it. -/
import Derived.Test.YtjhhlmmmkgnhmaaDoorRqi
namespace Go.Proofs.YtjhhlmmmkgnhmaaDoor
set_option linter.unusedSimpArgs false
set_option linter.unusedVariables false
set_option linter.unusedSectionVars false

/-! ### Orders -/
def StopOK (np : Nat) (s : T_api_Stop) : Prop := (s.place = -1 ∧ s.open_ = 0 ∧ s.close = 0 ∧ s.service = 0) ∨ (0 ≤ s.place ∧ s.place < np ∧ 0 ≤ s.open_ ∧ s.open_ ≤ s.close ∧ s.close ≤ 4096 ∧ 0 ≤ s.service ∧ s.service ≤ 4096)
structure OrdOK (np dims types : Nat) (o : T_api_Order) : Prop where
  load : o.load.length = dims
  loads : ∀ i, i < o.load.length → ∀ x, o.load[i]? = some x → 0 ≤ x ∧ x ≤ 1000
  pick : StopOK np o.pick
  drop : StopOK np o.drop
  one : ¬ (o.pick.place = -1 ∧ o.drop.place = -1)
  skills : 0 ≤ o.skills ∧ o.skills ≤ 1073741823
  penalty : -1 ≤ o.penalty ∧ o.penalty ≤ 1000000
  split : 1 ≤ o.split ∧ o.split ≤ 4
  whole : 1 < o.split → o.pick.place = -1 ∨ o.drop.place = -1
  last : -1 ≤ o.last_ ∧ o.last_ < types
  now : -1 ≤ o.now ∧ o.now < types
section
variable {x0 : T_api_Order} {types : Nat} {np : Nat} {dims : Nat}
abbrev Q5 (types : Nat) (x0 : T_api_Order) : Prop := (-1 ≤ x0.penalty ∧ x0.penalty ≤ 1000000) ∧ (1 ≤ x0.split ∧ x0.split ≤ 4) ∧ (1 < x0.split → x0.pick.place = -1 ∨ x0.drop.place = -1) ∧ (-1 ≤ x0.last_ ∧ x0.last_ < types) ∧ (-1 ≤ x0.now ∧ x0.now < types)
theorem or5 : Stg (lorryref11_rules_J5 types x0) 1 (Q5 types x0) := fun l hl => by
  unfold lorryref11_rules_J5
  refine bnd_in11 (post_br (fun h1 => bnd_in11 (post_br (fun _ => end_bad hl) (fun h2 => end_good ?_))) (fun _ => end_bad hl))
  simp only [orF, andF, ntF, gtI_f, neI_f, ltI_f, geI_f] at h2
  have h3 := of_decide_eq_true h1
  have h4 := of_decide_eq_true h2.1.1.1.1.1
  obtain ⟨⟨⟨⟨⟨_, h5⟩, h6⟩, h7⟩, h8⟩, h9⟩ := h2
  exact ⟨h3, h4, fun h => by rcases h5 with h5 | h5; omega; exact h5, ⟨h6, h7⟩, ⟨h8, h9⟩⟩
abbrev Q6 (types : Nat) (x0 : T_api_Order) : Prop := (0 ≤ x0.skills ∧ x0.skills ≤ 1073741823) ∧ Q5 types x0
theorem or6 : Stg (lorryref11_rules_J6 types x0) 2 (Q6 types x0) := fun l hl => by
  unfold lorryref11_rules_J6
  exact bnd_in11 (post_br (fun h1 => or5.good hl fun h => ⟨of_decide_eq_true h1, h⟩) (fun _ => or5.bad hl))
def WinOK (s : T_api_Stop) : Prop := (s.place = -1 ∧ s.open_ = 0 ∧ s.close = 0 ∧ s.service = 0) ∨ (0 ≤ s.place ∧ 0 ≤ s.open_ ∧ s.open_ ≤ s.close ∧ s.close ≤ 4096 ∧ 0 ≤ s.service ∧ s.service ≤ 4096)
theorem win_post (s : T_api_Stop) : post (lorryref08_Check s) fun r => r = 0 → WinOK s := by
  unfold lorryref08_Check
  refine post_br (fun h => post_some.2 fun _ => .inl ?_) (fun _ => post_br (fun _ => post_some.2 fun h => absurd h (by decide)) (fun h => post_some.2 fun _ => .inr ?_))
  · simp only [andT, eqI_t] at h; exact ⟨h.1.1.1, h.1.1.2, h.1.2, h.2⟩
  · simp only [orF, ltI_f, gtI_f] at h; omega
abbrev Q4 (types : Nat) (x0 : T_api_Order) : Prop := WinOK x0.pick ∧ WinOK x0.drop ∧ Q6 types x0
theorem or4 : Stg (lorryref11_rules_J4 types x0) 3 (Q4 types x0) := fun l hl => by
  unfold lorryref11_rules_J4
  refine post_bnd (win_post _) fun r4 h4 => post_br (fun _ => or6.bad hl) (fun h => post_bnd (win_post _) fun r8 h8 => post_br (fun _ => or6.bad hl) (fun h' => or6.good hl fun h6 => ⟨h4 (by simpa using h), h8 (by simpa using h'), h6⟩))
abbrev Q3 (types : Nat) (x0 : T_api_Order) : Prop := ¬ (x0.pick.place = -1 ∧ x0.drop.place = -1) ∧ Q4 types x0
theorem or3 : Stg (lorryref11_rules_J3 types x0) 4 (Q3 types x0) := fun l hl => by
  unfold lorryref11_rules_J3
  refine post_br (fun _ => or4.bad hl) (fun h => or4.good hl fun h' => ⟨?_, h'⟩)
  simp only [andF, eqI_f] at h; omega
abbrev Q2 (np types : Nat) (x0 : T_api_Order) : Prop := (-1 ≤ x0.pick.place ∧ x0.pick.place < np) ∧ (-1 ≤ x0.drop.place ∧ x0.drop.place < np) ∧ Q3 types x0
theorem or2 (hn : np ≤ 1048576) : Stg (lorryref11_rules_J2 np types x0) 5 (Q2 np types x0) := fun l hl => by
  unfold lorryref11_rules_J2
  have hs : subK .i64 (np : Int) 1 = (np : Int) - 1 := subI (by omega) (by omega)
  rw [hs]
  refine bnd_in11 (post_br (fun h1 => bnd_in11 (post_br (fun h2 => or3.good hl fun h => ⟨?_, ?_, h⟩) (fun _ => or3.bad hl))) (fun _ => or3.bad hl))
  · have := of_decide_eq_true h1; omega
  · have := of_decide_eq_true h2; omega
theorem right06_post {c : List Int} (hc : c.length ≤ 1048576) : post (lorryref06_Right c dims) fun r => r = true → c.length = dims ∧ ∀ i, i < c.length → ∀ x, c[i]? = some x → 0 ≤ x ∧ x ≤ 1000 := by
  unfold lorryref06_Right
  refine post_br (fun _ => post_some.2 fun h => by cases h) (fun h1 => ?_)
  simp only [neI_f, lenI] at h1
  have hd : c.length = dims := by omega
  refine post_bnd (R := fun e : Unit ⊕ Bool => (∃ u, e = .inl u ∧ ∀ i, i < c.length → ∀ x, c[i]? = some x → 0 ≤ x ∧ x ≤ 1000) ∨ e = .inr false) ?_ fun e he => ?_
  · refine post_scan (B := fun s => lorryref06_Right_L1 c s) c.length _ (fun i => ∀ x, c[i]? = some x → 0 ≤ x ∧ x ≤ 1000) (by omega) (fun i hi => ?_) ?_
    · show post (lorryref06_Right_L1 c (i : Int)) _
      unfold lorryref06_Right_L1
      have e1 : c[i]? = some c[i] := List.getElem?_eq_getElem hi
      rw [br_pos (by simp [lenI]; omega), getI_nat e1, bnd_some, inc hi hc]
      refine post_br (fun _ => post_some.2 (.inr ⟨_, rfl, .inr rfl⟩)) (fun h2 => post_br (fun _ => post_some.2 (.inr ⟨_, rfl, .inr rfl⟩)) (fun h3 => post_some.2 (.inl ⟨rfl, fun x hx => ?_⟩)))
      rw [e1] at hx; cases hx
      simp only [ltI_f, gtI_f] at h2 h3
      exact ⟨h2, h3⟩
    · show post (lorryref06_Right_L1 c (c.length : Int)) _
      unfold lorryref06_Right_L1
      rw [br_neg (by simp [lenI])]
      exact post_some.2 ⟨_, rfl, fun h => .inl ⟨_, rfl, h⟩⟩
  · rcases he with ⟨u, rfl, h⟩ | rfl
    · rw [sel_inl]; exact post_some.2 fun _ => ⟨hd, h⟩
    · rw [sel_inr]; exact post_some.2 fun h => by cases h
structure OrdI (o : T_api_Order) : Prop where
  name : o.name.size ≤ 1048576
  load : o.load.length ≤ 1048576
theorem rules11_post {l : List T_api_Order} (hn : np ≤ 1048576) (hl : l.length ≤ 1048576) {i : Nat} (hx : l[i]? = some x0) (hI : OrdI x0) : post (lorryref11_rules np dims types l (i : Int)) (Ext [] 9 (OrdOK np dims types x0)) := by
  unfold lorryref11_rules
  rw [getI_nat hx, bnd_some]
  have hi := (List.getElem?_eq_some_iff.1 hx).1
  have hb : Stg (fun l2 => bnd (lorryref06_Right x0.load dims) fun r1 => br r1 (lorryref11_rules_J2 np types x0 l2) (chk (okN (l2 ++ [17]).length 8) (lorryref11_rules_J2 np types x0 (l2 ++ [17])))) 6 ((x0.load.length = dims ∧ ∀ i, i < x0.load.length → ∀ x, x0.load[i]? = some x → 0 ≤ x ∧ x ≤ 1000) ∧ Q2 np types x0) := fun l hl' =>
    post_bnd (right06_post hI.load) fun r hr => post_br (fun h => (or2 hn).good hl' fun h' => ⟨hr h, h'⟩) (fun _ => (or2 hn).bad hl')
  have h1 : Stg (lorryref11_rules_J1 np dims types l (i : Int) x0) 7 ((x0.load.length = dims ∧ ∀ i, i < x0.load.length → ∀ x, x0.load[i]? = some x → 0 ≤ x ∧ x ≤ 1000) ∧ Q2 np types x0) := fun l1 hl' => by
    unfold lorryref11_rules_J1
    refine post_bnd (R := Ext l1 1 True) ?_ fun l2 h2 => ?_
    · refine post_scan (B := fun s => lorryref11_rules_L1 np dims types l (i : Int) x0 l1 s) i _ (fun _ => True) (by omega) (fun k hk => ?_) ?_
      · show post (lorryref11_rules_L1 np dims types l (i : Int) x0 l1 (k : Int)) _
        unfold lorryref11_rules_L1
        have e1 : l[k]? = some (l[k]'(by omega)) := List.getElem?_eq_getElem _
        rw [br_pos (by simp; omega), getI_nat e1, bnd_some, inc (n := i) hk (by omega)]
        exact post_br (fun _ => post_chk (okN_of (by simp; omega)) (post_some.2 (.inr ⟨_, rfl, .one (Nat.le_refl 1) trivial⟩))) (fun _ => post_some.2 (.inl ⟨rfl, trivial⟩))
      · show post (lorryref11_rules_L1 np dims types l (i : Int) x0 l1 (i : Int)) _
        unfold lorryref11_rules_L1
        rw [br_neg (by simp)]
        exact post_some.2 ⟨_, rfl, fun _ => .nil trivial⟩
    · have := h2.len
      exact (hb l2 (by omega)).mono fun r hr => h2.trans hr (by omega) fun _ h => h
  refine post_bnd (name_post _ hI.name) fun r _ => post_br (fun _ => (h1.good (l := []) (by simp) fun h => ?_ : post _ (Ext [] 8 (OrdOK np dims types x0))).mono fun r hr => hr.mono (by omega) id) (fun _ => (h1.bad (l := []) (by simp) : post _ (Ext [] 8 (OrdOK np dims types x0))).mono fun r hr => hr.mono (by omega) id)
  obtain ⟨⟨a, b⟩, ⟨c0, c⟩, ⟨d0, d⟩, e, f, g, h, ⟨i, j, k, m, o⟩⟩ := h
  refine ⟨a, b, ?_, ?_, e, h, i, j, k, m, o⟩
  · rcases f with f | f
    · exact .inl f
    · exact .inr ⟨f.1, c, f.2⟩
  · rcases g with g | g
    · exact .inl g
    · exact .inr ⟨g.1, d, g.2⟩
theorem check11_post {n : T_api_Network} {l : List T_api_Order} (hn : n.places.length ≤ 1048576) (hl : l.length ≤ 1048576) (hI : ∀ t ∈ l, OrdI t) : post (lorryref11_Check n dims types l) (Ext [] (1 + 9 * l.length) (l.length ≤ 10 ∧ ∀ t ∈ l, OrdOK n.places.length dims types t)) := by
  have main : ∀ l1 : List T_api_Fault, l1.length ≤ 1 → post (lorryref11_Check_J1 n dims types l l1) (Ext l1 (9 * l.length) (∀ i, i < l.length → ∀ t, l[i]? = some t → OrdOK n.places.length dims types t)) := by
    intro l1 h1
    refine post_bndE ?_
    refine (post_listE l.length 9 _ l1 (by omega) (fun i out hi ho => ?_) (fun out => ?_)).mono fun r h => post_some.2 h
    · show post (lorryref11_Check_L1 n dims types l out (i : Int)) _
      unfold lorryref11_Check_L1
      have e1 : l[i]? = some l[i] := List.getElem?_eq_getElem hi
      rw [br_pos (by simp [lenI]; exact hi), inc hi hl]
      refine post_bnd (rules11_post hn hl e1 (hI _ (List.getElem_mem hi))) fun r1 hr1 => ?_
      have := hr1.len0
      refine post_bnd (codes_loop (i := i) (s := ByteArray.empty) (by omega) (by omega) out (by omega) (fun _ _ => rfl)) fun l4 h4 => post_some.2 ⟨_, rfl, h4.mono this fun h => ?_⟩
      intro t ht
      rw [e1] at ht; cases ht
      exact hr1.of_nil h
    · show lorryref11_Check_L1 n dims types l out (l.length : Int) = _
      unfold lorryref11_Check_L1
      rw [br_neg (by simp [lenI])]
  unfold lorryref11_Check
  refine post_br (fun h => post_chk (okN_of (by simp)) ((main _ (by simp)).mono fun r hr => (Ext.one (P := False) (Nat.le_refl 1) (sm_at (s := ByteArray.empty) (by simp [ByteArray.size_empty]))).trans hr (by omega) fun h _ => h.elim)) (fun h => (main [] (by simp)).mono fun r hr => hr.mono (by omega) fun h' => ⟨?_, fun t ht => ?_⟩)
  · simp only [gtI_f, lenI] at h; omega
  · obtain ⟨i, hi⟩ := List.getElem?_of_mem ht
    exact h' i (List.getElem?_eq_some_iff.1 hi).1 t hi
end
/-! ### Pairs -/
def PairOK (orders : Nat) (p : A2_Int) : Prop := 0 ≤ p.x0 ∧ p.x0 < orders ∧ 0 ≤ p.x1 ∧ p.x1 < orders ∧ p.x0 ≠ p.x1
theorem decimal12_post {i : Nat} (hi : i < 1048576) : post (lorryref12_decimal (i : Int)) fun s => s.size ≤ 21 := by
  unfold lorryref12_decimal
  refine post_bnd (R := fun e => e.2.size ≤ 20) ?_ fun e he => post_chk (by rw [bytesI_size]; simp; omega) (post_some.2 (by rw [cat_size, bytesI_size]; simp; omega))
  refine post_loop (fun s => ∃ m k : Nat, s.1 = (m : Int) ∧ m < 1048576 ∧ m < 10 ^ k ∧ s.2.size + k ≤ 20) (fun s => s.1.toNat) ⟨i, 7, rfl, hi, by omega, by simp [ByteArray.size_empty]⟩ (by simp; omega) ?_
  rintro ⟨_, s⟩ ⟨m, k, rfl, h0, h1, h2⟩
  simp only at h2
  show post (lorryref12_decimal_L1 (m : Int) s) _
  unfold lorryref12_decimal_L1
  refine post_br (fun hb => post_chk (by rw [bytesI_size]; simp; omega) (post_inl ?_)) (fun _ => post_inr (show s.size ≤ 20 by omega))
  simp only [geI_t] at hb
  have hq : quoK .i64 (m : Int) 10 = ((m / 10 : Nat) : Int) := by rw [quo10 (by omega), Int.tdiv_eq_ediv_of_nonneg (by omega)]; omega
  obtain ⟨k, rfl⟩ : ∃ j, k = j + 1 := ⟨k - 1, by
    rcases Nat.eq_zero_or_pos k with rfl | h
    · simp at h1; omega
    · omega⟩
  rw [hq]
  refine ⟨⟨m / 10, k, rfl, by omega, by rw [Nat.pow_succ] at h1; omega, ?_⟩, by simp; omega⟩
  rw [cat_size, bytesI_size]
  simp; omega
theorem faults_post {orders : Nat} {l : List A2_Int} {word : ByteArray} {turned : Bool} (hl : l.length ≤ 1048576) (hw : word.size ≤ 20) : post (lorryref12_faults orders l word turned) (Ext [] (1 + l.length) (l.length ≤ 16 ∧ ∀ p ∈ l, PairOK orders p)) := by
  have main : ∀ l1 : List T_api_Fault, l1.length ≤ 1 → post (lorryref12_faults_J1 orders l word turned l1) (Ext l1 l.length (∀ i, i < l.length → ∀ p, l[i]? = some p → PairOK orders p)) := by
    intro l1 h1
    refine post_bndE ?_
    refine (post_listE l.length 1 _ l1 (by omega) (fun i out hi ho => ?_) (fun out => ?_)).mono fun r h => post_some.2 (h.mono (by omega) id)
    · show post (lorryref12_faults_L1 orders l word turned out (i : Int)) _
      unfold lorryref12_faults_L1
      have e1 : l[i]? = some l[i] := List.getElem?_eq_getElem hi
      rw [br_pos (by simp [lenI]; exact hi), inc hi hl, getI_nat e1, bnd_some]
      have hs1 : s___7215.size = 1 := rfl
      refine post_chk (by omega) (post_bnd (decimal12_post (by omega)) fun r hr => post_chk (by rw [cat_size]; omega) ?_)
      have hsm : ∀ {e : Int}, Sm.sm (T_api_Fault.mk e (catS (catS word s___7215) r)) := sm_at (by rw [cat_size, cat_size]; omega)
      generalize l[i] = p at e1
      refine post_br (fun _ => post_chk (okN_of (by simp; omega)) (rnd_one rfl (Nat.le_refl 1) hsm)) (fun h => ?_)
      refine post_bnd (R := fun _ => True) ?_ fun tw _ => post_br (fun _ => post_chk (okN_of (by simp; omega)) (rnd_one rfl (Nat.le_refl 1) hsm)) (fun _ => rnd_nil rfl ?_)
      · refine post_loop (fun s => ∃ k : Nat, s.2 = (k : Int) ∧ k ≤ i) (fun s => i - s.2.toNat) ⟨0, rfl, Nat.zero_le _⟩ (by simp; omega) ?_
        rintro ⟨b, _⟩ ⟨k, rfl, hk⟩
        show post (lorryref12_faults_L2 orders l word turned out (i : Int) p r b (k : Int)) _
        unfold lorryref12_faults_L2
        refine post_br (fun hb => ?_) (fun _ => post_inr trivial)
        simp only [ltI_t] at hb
        have hk' : k < i := by omega
        rw [inc (n := i) hk' (by omega)]
        have leaf : ∀ b : Bool, post (some (Sum.inl (b, (k : Int) + 1) : (Bool × Int) ⊕ Bool)) fun x => (∀ s', x = .inl s' → (∃ k : Nat, s'.2 = (k : Int) ∧ k ≤ i) ∧ i - s'.2.toNat < i - ((b, (k : Int)) : Bool × Int).2.toNat) ∧ ∀ e, x = .inr e → True :=
          fun b => post_inl ⟨⟨k + 1, by simp, by omega⟩, by simp; omega⟩
        refine post_br (fun _ => leaf _) (fun _ => ?_)
        have e2 : l[k]? = some (l[k]'(by omega)) := List.getElem?_eq_getElem _
        rw [getI_nat e2, bnd_some]
        exact post_br (fun _ => post_br (fun _ => leaf _) (fun _ => post_br (fun _ => post_br (fun _ => leaf _) (fun _ => leaf _)) (fun _ => leaf _))) (fun _ => post_br (fun _ => post_br (fun _ => leaf _) (fun _ => leaf _)) (fun _ => leaf _))
      · intro q hq
        rw [e1] at hq; cases hq
        simp only [orF, ltI_f, geI_f, eqI_f] at h
        exact ⟨h.1.1.1.1, h.1.1.1.2, h.1.1.2, h.1.2, h.2⟩
    · show lorryref12_faults_L1 orders l word turned out (l.length : Int) = _
      unfold lorryref12_faults_L1
      rw [br_neg (by simp [lenI])]
  unfold lorryref12_faults
  refine post_br (fun h => post_chk (okN_of (by simp)) ((main _ (by simp)).mono fun r hr => (Ext.one (P := False) (Nat.le_refl 1) (sm_at (by omega))).trans hr (by omega) fun h _ => h.elim)) (fun h => (main [] (by simp)).mono fun r hr => hr.mono (by omega) fun h' => ⟨?_, fun t ht => ?_⟩)
  · simp only [gtI_f, lenI] at h; omega
  · obtain ⟨i, hi⟩ := List.getElem?_of_mem ht
    exact h' i (List.getElem?_eq_some_iff.1 hi).1 t hi
theorem under_post {word : ByteArray} {r : List T_api_Fault} (hw : word.size ≤ 20) (hr : r.length ≤ 5000000000000) (hs : ∀ f ∈ r, Sm.sm f) : post (lorryref13_under word r) fun x => x.length = r.length := by
  refine post_bndE ?_
  refine post_loop (fun s => ∃ k : Nat, s.2 = (k : Int) ∧ k ≤ r.length ∧ s.1.length = k) (fun s => r.length - s.2.toNat) ⟨0, rfl, Nat.zero_le _, rfl⟩ (by simp; omega) ?_
  rintro ⟨out, _⟩ ⟨k, rfl, hk, hl⟩
  show post (lorryref13_under_L1 word r out (k : Int)) _
  unfold lorryref13_under_L1 lorryref13_under_J1
  refine post_br (fun hb => ?_) (fun hb => post_inr (post_some.2 ?_))
  · simp only [ltI_t, lenI] at hb
    simp only at hl
    have hk' : k < r.length := by omega
    have e1 : r[k]? = some r[k] := List.getElem?_eq_getElem hk'
    have hsk : (r[k]).at_.size ≤ 64 := hs _ (List.getElem_mem hk')
    have hadd : addK .i64 (k : Int) 1 = (k : Int) + 1 := addI (by omega) (by omega)
    have hs1 : s___7215.size = 1 := rfl
    rw [getI_nat e1, bnd_some, bnd_some, hadd]
    have leaf : ∀ f : T_api_Fault, post (chk (okN (out ++ [f]).length 24) (some (Sum.inl (out ++ [f], (k : Int) + 1) : (List T_api_Fault × Int) ⊕ (List T_api_Fault)))) fun x => (∀ s', x = .inl s' → (∃ k : Nat, s'.2 = (k : Int) ∧ k ≤ r.length ∧ s'.1.length = k) ∧ r.length - s'.2.toNat < r.length - ((out, (k : Int)) : List T_api_Fault × Int).2.toNat) ∧ ∀ e, x = .inr e → post (some e) fun x => x.length = r.length :=
      fun f => post_chk (okN_of (by simp; omega)) (post_inl ⟨⟨k + 1, by simp, by omega, by simp; omega⟩, by simp; omega⟩)
    exact post_br (fun _ => leaf _) (fun _ => post_chk (by omega) (post_chk (by rw [cat_size]; omega) (leaf _)))
  · simp only [ltI_f, lenI] at hb
    simp only at hl
    omega
structure InstI (x : T_api_Instance) : Prop where
  net : NetI x.net
  types : x.types.length ≤ 1048576
  orders : x.orders.length ≤ 1048576
  apart : x.apart.length ≤ 1048576
  before : x.before.length ≤ 1048576
  typI : ∀ t ∈ x.types, TypI t
  ordI : ∀ t ∈ x.orders, OrdI t
structure InstOK (x : T_api_Instance) : Prop where
  net : NetOK x.net
  types1 : 1 ≤ x.types.length
  types : x.types.length ≤ 6
  typ : ∀ t ∈ x.types, TypOK x.net.places.length (dimsOf x.types) t
  orders : x.orders.length ≤ 10
  ord : ∀ o ∈ x.orders, OrdOK x.net.places.length (dimsOf x.types) x.types.length o
  apart : x.apart.length ≤ 16
  aparts : ∀ p ∈ x.apart, PairOK x.orders.length p
  before : x.before.length ≤ 16
  befores : ∀ p ∈ x.before, PairOK x.orders.length p
theorem check13_post {x : T_api_Instance} (hI : InstI x) : post (lorryref13_Check x) fun r => r = [] → InstOK x := by
  have h1 := hI.types; have h2 := hI.orders; have h3 := hI.apart; have h4 := hI.before; have h5 := hI.net.arcs
  unfold lorryref13_Check
  refine post_bnd (ref09_Check_post (n := x.net) hI.net) fun r hr => ?_
  have l1 := hr.len0
  refine post_bnd (under_post (show 3 ≤ 20 by omega) (by omega) hr.sms : post (lorryref13_under_own s_net_40fa r) _) fun r1 hr1 => ?_
  refine post_bnd (check10_post (n := x.net) hI.net.places h1 hI.typI) fun r2 hr2 => ?_
  have l2 := hr2.len0
  refine post_bnd (under_post (show 5 ≤ 20 by omega) (by omega) hr2.sms) fun r3 hr3 => post_chk (okN_of (by simp; omega)) ?_
  rw [dims_eq, bnd_some]
  refine post_bnd (check11_post (n := x.net) (types := x.types.length) hI.net.places h2 hI.ordI) fun r5 hr5 => ?_
  have l5 := hr5.len0
  refine post_bnd (under_post (show 6 ≤ 20 by omega) (by omega) hr5.sms) fun r6 hr6 => post_chk (okN_of (by simp; omega)) ?_
  have hC : post (lorryref12_Check (lenI x.orders) x.apart x.before) fun r => r.length ≤ 2 + x.apart.length + x.before.length ∧ (∀ f ∈ r, Sm.sm f) ∧ (r = [] → (x.apart.length ≤ 16 ∧ ∀ p ∈ x.apart, PairOK x.orders.length p) ∧ (x.before.length ≤ 16 ∧ ∀ p ∈ x.before, PairOK x.orders.length p)) := by
    unfold lorryref12_Check
    refine post_bnd (faults_post (orders := x.orders.length) (word := s_apart_bce1) (turned := true) h3 (show 5 ≤ 20 by omega)) fun a ha => post_bnd (faults_post (orders := x.orders.length) (word := s_before_2f44) (turned := false) h4 (show 6 ≤ 20 by omega)) fun b hb => ?_
    have la := ha.len0
    have lb := hb.len0
    refine post_chk (okN_of (by simp; omega)) (post_some.2 ⟨by simp; omega, fun f hf => ?_, fun h => ?_⟩)
    · rcases List.mem_append.1 hf with h | h
      · exact ha.sms f h
      · exact hb.sms f h
    · rw [List.append_eq_nil_iff] at h
      exact ⟨ha.of_nil h.1, hb.of_nil h.2⟩
  refine post_bnd hC fun r7 ⟨l7, s7, c7⟩ => post_bnd (under_post (show 5 ≤ 20 by omega) (by omega) s7) fun r8 hr8 => post_chk (okN_of (by simp; omega)) (post_some.2 fun h => ?_)
  simp only [List.append_eq_nil_iff] at h
  obtain ⟨⟨⟨e1, e3⟩, e6⟩, e8⟩ := h
  have nil : ∀ {a b : List T_api_Fault}, a.length = b.length → a = [] → b = [] := fun h h' => List.length_eq_zero_iff.1 (by rw [← h, h']; rfl)
  obtain ⟨⟨t1, t2⟩, t3⟩ := hr2.of_nil (nil hr3 e3)
  obtain ⟨o1, o2⟩ := hr5.of_nil (nil hr6 e6)
  obtain ⟨⟨a1, a2⟩, ⟨b1, b2⟩⟩ := c7 (nil hr8 e8)
  exact ⟨hr.of_nil (nil hr1 e1), t1, t2, t3, o1, o2, a1, a2, b1, b2⟩
end Go.Proofs.YtjhhlmmmkgnhmaaDoor
