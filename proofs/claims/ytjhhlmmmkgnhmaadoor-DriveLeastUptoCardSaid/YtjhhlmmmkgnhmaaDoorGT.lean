/- The abstract machine is sound, part 14: regions that draw their order. No program in sight. -/
import Derived.Test.YtjhhlmmmkgnhmaaDoorGS
namespace Go.Proofs.YtjhhlmmmkgnhmaaDoor
set_option linter.unusedSimpArgs false
set_option linter.unusedVariables false
set_option linter.unusedSectionVars false
open Go.RowKit
section
variable {P : Program} {Γ : Gam} {φ φ' : Pl} {M M' : Nat → Prop} {w w' : World} {a : Act} {hs : List Hint} {o : Oper} {ops : Array Oper} {Q : Exit → Act → World → Prop} {σ : SS} {dsts : List Nat} {cl : List (Nat × Nat)}
/-- Operations that have come up in the text's order. -/
inductive WFd (lo : Nat) : List Dn → Nat → Nat → Prop
  | nil : WFd lo [] 0 lo
  | cons {r : List Dn} {i b : Nat} (dst : Option Nat) (v : AV) (news : List Ob) (upd : Option (Nat × Ob)) : WFd lo r i b → WFd lo (⟨i, dst, v, b, news, upd⟩ :: r) (i + 1) (b + news.length)
theorem WFd.lt {lo i b : Nat} {l : List Dn} (h : WFd lo l i b) : lo ≤ b ∧ ∀ d ∈ l, d.i < i ∧ lo ≤ d.base ∧ d.base + d.news.length ≤ b := by
  induction h with
  | nil => exact ⟨Nat.le_refl _, fun d hd => by cases hd⟩
  | cons dst v news upd _ ih =>
    refine ⟨by omega, fun d hd => ?_⟩
    rcases List.mem_cons.1 hd with rfl | hd
    · exact ⟨Nat.lt_succ_self _, ih.1, Nat.le_refl _⟩
    · have := ih.2 d hd; omega
theorem WFd.inj {lo i b : Nat} {l : List Dn} (h : WFd lo l i b) : ∀ x ∈ l, ∀ y ∈ l, x.i = y.i → x = y := by
  induction h with
  | nil => intro x hx; cases hx
  | cons dst v news upd h ih =>
    have hl := h.lt.2
    intro x hx y hy e
    rcases List.mem_cons.1 hx with rfl | hx <;> rcases List.mem_cons.1 hy with rfl | hy
    · rfl
    · have := (hl y hy).1; simp only at e; omega
    · have := (hl x hx).1; simp only at e; omega
    · exact ih x hx y hy e
/-- The first whose objects an id may be among. -/
theorem dheap_out {lo i b : Nat} {H : List (Option Ob)} {S : Nat → Bool} {l : List Dn} (h : WFd lo l i b) {id : Nat} (hid : b ≤ id ∨ id < lo) : dheap H S l id = hl H id := by
  induction h with
  | nil => rfl
  | cons dst v news upd h ih =>
    rename_i r i b
    have hlo := h.lt.1
    simp only [dheap]
    have e1 : (Nat.ble b id && Nat.blt id (b + news.length)) = false := by
      rw [Bool.and_eq_false_iff]
      rcases hid with h1 | h1
      · right; rw [← Bool.not_eq_true]; intro h2; have := Nat.le_of_ble_eq_true h2; omega
      · left; rw [← Bool.not_eq_true]; intro h2; have := Nat.le_of_ble_eq_true h2; omega
    rw [e1]
    refine ih ?_
    rcases hid with h1 | h1
    · left; omega
    · right; exact h1
theorem dheap_in {lo i b : Nat} {H : List (Option Ob)} {S : Nat → Bool} {l : List Dn} (h : WFd lo l i b) {d : Dn} (hd : d ∈ l) {id : Nat} (h1 : d.base ≤ id) (h2 : id < d.base + d.news.length) : dheap H S l id = bif S d.i then d.news[id - d.base]? else none := by
  induction h with
  | nil => cases hd
  | cons dst v news upd h ih =>
    rename_i r i b
    simp only [dheap]
    rcases List.mem_cons.1 hd with rfl | hd
    · have e1 : (Nat.ble b id && Nat.blt id (b + news.length)) = true := by
        rw [Bool.and_eq_true]; exact ⟨Nat.ble_eq_true_of_le h1, Nat.ble_eq_true_of_le h2⟩
      rw [e1]; rfl
    · have := (h.lt.2 d hd).2.2
      have e1 : (Nat.ble b id && Nat.blt id (b + news.length)) = false := by
        rw [Bool.and_eq_false_iff]; left; rw [← Bool.not_eq_true]; intro h3; have := Nat.le_of_ble_eq_true h3; omega
      rw [e1]; exact ih hd
/-- Every id is among an operation's objects, or among nobody's. -/
theorem dheap_cases {lo i b : Nat} {H : List (Option Ob)} {S : Nat → Bool} {l : List Dn} (h : WFd lo l i b) (id : Nat) : (∃ d ∈ l, d.base ≤ id ∧ id < d.base + d.news.length) ∨ ((b ≤ id ∨ id < lo) ∧ dheap H S l id = hl H id) := by
  by_cases hid : b ≤ id ∨ id < lo
  · exact .inr ⟨hid, dheap_out h hid⟩
  · left
    induction h with
    | nil => omega
    | cons dst v news upd h ih =>
      rename_i r i b
      by_cases h1 : b ≤ id
      · exact ⟨_, List.mem_cons_self, h1, by simp only; omega⟩
      · obtain ⟨d, hd, h2⟩ := ih (by omega)
        exact ⟨d, List.mem_cons_of_mem _ hd, h2⟩
theorem dlook_cases {L : List (Nat × AV)} {S : Nat → Bool} {t : Nat} : ∀ {l : List Dn}, (∃ d ∈ l, d.dst = some t ∧ S d.i = true ∧ dlook L dsts S l t = d.v) ∨ ((∀ d ∈ l, d.dst = some t → S d.i = false) ∧ dlook L dsts S l t = bif dsts.contains t then .unk else look L t)
  | [] => .inr ⟨fun d hd => (by cases hd), rfl⟩
  | d :: r => by
    simp only [dlook]
    cases hc : (d.dst == some t && S d.i) with
    | true =>
      simp only [Bool.and_eq_true, beq_iff_eq] at hc
      exact .inl ⟨d, List.mem_cons_self, hc.1, hc.2, rfl⟩
    | false =>
      simp only [Bool.and_eq_false_iff, beq_eq_false_iff_ne] at hc
      rcases dlook_cases (L := L) (S := S) (t := t) (l := r) with ⟨x, hx, h1, h2, h3⟩ | ⟨h1, h2⟩
      · exact .inl ⟨x, List.mem_cons_of_mem _ hx, h1, h2, h3⟩
      · refine .inr ⟨fun x hx e => ?_, h2⟩
        rcases List.mem_cons.1 hx with rfl | hx
        · rcases hc with h | h
          · exact absurd e h
          · exact h
        · exact h1 x hx e
theorem updOf_none {S : Nat → Bool} {id : Nat} : ∀ {l : List Dn}, (∀ x ∈ l, ∀ ob, x.upd = some (id, ob) → S x.i = false) → updOf S l id = none
  | [], _ => rfl
  | d :: r, h => by
    have ih := updOf_none (S := S) (id := id) (l := r) fun x hx => h x (List.mem_cons_of_mem _ hx)
    simp only [updOf]
    split
    · rename_i u ob hu
      cases hc : (u == id && S d.i) with
      | false => exact ih
      | true =>
        simp only [Bool.and_eq_true, beq_iff_eq] at hc
        have := h d List.mem_cons_self ob (by rw [hu, hc.1])
        rw [hc.2] at this; cases this
    · exact ih
theorem updOf_congr {S S' : Nat → Bool} {id : Nat} : ∀ {l : List Dn}, (∀ x ∈ l, ∀ ob, x.upd = some (id, ob) → S x.i = S' x.i) → updOf S l id = updOf S' l id
  | [], _ => rfl
  | d :: r, h => by
    have ih := updOf_congr (S := S) (S' := S') (id := id) (l := r) fun x hx => h x (List.mem_cons_of_mem _ hx)
    simp only [updOf]
    split
    · rename_i u ob hu
      rw [ih]
      by_cases hui : u = id
      · rw [h d List.mem_cons_self ob (by rw [hu, hui])]
      · have : (u == id) = false := by simpa using hui
        rw [this]; rfl
    · exact ih
theorem updOf_self {S : Nat → Bool} {u : Nat} {ob : Ob} {d : Dn} (hu : d.upd = some (u, ob)) (hS : S d.i = true) : ∀ {l : List Dn}, d ∈ l → (∀ x ∈ l, ∀ ob', x.upd = some (u, ob') → x = d) → updOf S l u = some ob
  | x :: r, hd, h => by
    simp only [updOf]
    split
    · rename_i u' ob' hu'
      by_cases hui : u' = u
      · have := h x List.mem_cons_self ob' (by rw [hu', hui])
        subst this
        rw [hu] at hu'; cases hu'
        simp [hS]
      · have : (u' == u) = false := by simpa using hui
        rw [this]
        rcases List.mem_cons.1 hd with rfl | hd
        · rw [hu] at hu'; cases hu'; exact absurd rfl hui
        · exact updOf_self hu hS hd fun x hx => h x (List.mem_cons_of_mem _ hx)
    · rename_i hn
      rcases List.mem_cons.1 hd with rfl | hd
      · rw [hu] at hn; cases hn
      · exact updOf_self hu hS hd fun x hx => h x (List.mem_cons_of_mem _ hx)
theorem view_some {i id : Nat} {h : Nat → Option Ob} {ob : Ob} (e : view cl i h id = some ob) : h id = some ob ∧ ∀ j, claim cl id = some j → j = i := by
  unfold view at e
  split at e
  · rename_i j hj
    cases hc : (j == i) with
    | false => rw [hc] at e; cases e
    | true => rw [hc] at e; exact ⟨e, fun j' h => by rw [hj] at h; cases h; simpa using hc⟩
  · rename_i hj; exact ⟨e, fun j' h => by rw [hj] at h; cases h⟩
/-- What an operation of the head came to, in the state of those before it. -/
def DoneAt (P : Program) (ops : Array Oper) (σ : SS) (dsts : List Nat) (cl : List (Nat × Nat)) (d : Dn) (o : Oper) (post : List Dn) : Prop :=
  (d.upd = none ∧ ∃ (r : Res) (hs : List Hint), dstep P ops o (view cl d.i (dheap σ.H (predsOf o).contains post)) d.base (dlook σ.L dsts (predsOf o).contains post) hs = some r ∧ allP r.obs ∧ r.v = d.v ∧ r.news = d.news) ∨
  (d.news = [] ∧ d.v = .unk ∧ ∃ (ub : Nat × Ob) (obs : List Prop), d.upd = some ub ∧ claim cl ub.1 = some d.i ∧ dstore P (view cl d.i (dheap σ.H (predsOf o).contains post)) (dlook σ.L dsts (predsOf o).contains post) o = some (ub, obs) ∧ allP obs)
/-- What is known of the free head's operations, all taken. -/
structure Done (P : Program) (ops : Array Oper) (σ : SS) (dsts : List Nat) (cl : List (Nat × Nat)) (n : Nat) (full : List Dn) (b : Nat) : Prop where
  wf : WFd σ.H.length full n b
  op : ∀ j, j < n → ∃ (pre post : List Dn) (d : Dn) (o : Oper), full = pre ++ d :: post ∧ d.i = j ∧ ops[j]? = some o ∧ d.dst = o.dst ∧ dstOk σ.N o.dst = true ∧ WFd σ.H.length post j d.base ∧ DoneAt P ops σ dsts cl d o post
theorem dgo_done : ∀ {l : List Oper} {i : Nat} {done : List Dn} {base : Nat} {hs : List Hint} {full : List Dn} {b : Nat} {ob : List Prop} {hs' : List Hint}, dgo P ops σ dsts cl i l done base hs = some (full, b, ob, hs') → allP ob → (∀ k, l[k]? = ops[i + k]? ∨ l.length ≤ k) → WFd σ.H.length done i base →
    ∃ pre, full = pre ++ done ∧ WFd σ.H.length full (i + l.length) b ∧ ∀ k, k < l.length → ∃ (pre post : List Dn) (d : Dn) (o : Oper), full = pre ++ d :: post ∧ d.i = i + k ∧ ops[i + k]? = some o ∧ d.dst = o.dst ∧ dstOk σ.N o.dst = true ∧ WFd σ.H.length post (i + k) d.base ∧ DoneAt P ops σ dsts cl d o post
  | [], i, done, base, hs, full, b, ob, hs', hf, _, _, hw => by
    simp only [dgo] at hf; cases hf
    exact ⟨[], rfl, hw, fun k hk => by simp at hk⟩
  | o :: l, i, done, base, hs, full, b, ob, hs', hf, ho, hl, hw => by
    simp only [dgo] at hf
    have h0 : ops[i]? = some o := by
      rcases hl 0 with h | h
      · rw [Nat.add_zero] at h; rw [← h]; rfl
      · simp at h
    have hl' : ∀ k, l[k]? = ops[i + 1 + k]? ∨ l.length ≤ k := fun k => by
      rcases hl (k + 1) with h | h
      · left; rw [show i + 1 + k = i + (k + 1) by omega, ← h]; rfl
      · right; simpa using h
    cases hd : dstOk σ.N o.dst with
    | false => rw [hd] at hf; cases hf
    | true =>
      rw [hd] at hf
      simp only [Bool.not_true, cond_false] at hf
      split at hf
      · rename_i r hr
        split at hf
        · rename_i d1 b1 ob1 hs1 h1
          cases hf
          rw [allP_append] at ho
          obtain ⟨pre, e, hwf, hall⟩ := dgo_done h1 ho.2 hl' (WFd.cons o.dst r.v r.news none hw)
          refine ⟨pre ++ [⟨i, o.dst, r.v, base, r.news, none⟩], by rw [e]; simp, by rw [List.length_cons, show i + (l.length + 1) = i + 1 + l.length by omega]; exact hwf, fun k hk => ?_⟩
          cases k with
          | zero => exact ⟨pre, done, _, o, e, rfl, h0, rfl, hd, hw, .inl ⟨rfl, r, hs, hr, ho.1, rfl, rfl⟩⟩
          | succ k =>
            have := hall k (by simpa using hk)
            rw [show i + 1 + k = i + (k + 1) by omega] at this
            exact this
        · cases hf
      · split at hf
        · rename_i ub obs hst
          cases hc : (claim cl ub.1 == some i) with
          | false => rw [hc] at hf; cases hf
          | true =>
            rw [hc] at hf
            simp only [cond_true] at hf
            split at hf
            · rename_i d1 b1 ob1 hs1 h1
              cases hf
              rw [allP_append] at ho
              obtain ⟨pre, e, hwf, hall⟩ := dgo_done h1 ho.2 hl' (WFd.cons o.dst .unk [] (some ub) hw)
              refine ⟨pre ++ [⟨i, o.dst, .unk, base, [], some ub⟩], by rw [e]; simp, by rw [List.length_cons, show i + (l.length + 1) = i + 1 + l.length by omega]; exact hwf, fun k hk => ?_⟩
              cases k with
              | zero => exact ⟨pre, done, _, o, e, rfl, h0, rfl, hd, hw, .inr ⟨rfl, rfl, ub, obs, rfl, by simpa using hc, hst, ho.1⟩⟩
              | succ k =>
                have := hall k (by simpa using hk)
                rw [show i + 1 + k = i + (k + 1) by omega] at this
                exact this
            · cases hf
        · cases hf
/-- One operation, in a state that bears what it leans on. -/
theorem dstep_sound {h hD : Nat → Option Ob} {L : Nat → AV} {base : Nat} {r : Res} (hf : dstep P ops o h base L hs = some r) (hob : allP r.obs) (hF : ∀ t, AR w M φ (L t) (a.tmps.getD t undef)) (hW : Wd Γ φ M hD w) (hsub : ∀ id ob, h id = some ob → hD id = some ob)
    (hfr : ∀ id, base ≤ id → id < base + r.news.length → φ id = none ∧ hD id = none) {K : Act → World → Prop}
    (hK : ∀ v w' φ' M', AR w' M' φ' r.v v → Wd Γ φ' M' (plc hD base r.news) w' → Ex w M φ w' M' φ' → (∀ id, φ' id ≠ none → φ id ≠ none ∨ (base ≤ id ∧ id < base + r.news.length)) → K (a.put o.dst v) w') :
    (if Region.wanted o (yielded ops a.tmps) = true then o.wp P a w K NQ else K (a.put o.dst undef) w) := by
  unfold dstep at hf
  split at hf
  · rename_i hg
    have hw : Region.wanted o (yielded ops a.tmps) = true := by unfold Region.wanted; rw [hg]
    rw [if_pos hw]
    exact dop_sound hf hob hF hW hsub hfr hK
  · rename_i j want hg
    have hwt : Region.wanted o (yielded ops a.tmps) = (yielded ops a.tmps j == some want) := by unfold Region.wanted; rw [hg]
    split at hf
    · rename_i b t hs' hv
      have hy : yielded ops a.tmps j = some b := yielded_bool hF hv fun cv h => one_bool h
      cases htw : (t == want) with
      | true =>
        rw [htw] at hf
        simp only [cond_true] at hf
        cases hdo : dop P h base L o.op hs' with
        | none => rw [hdo] at hf; cases hf
        | some r0 =>
          rw [hdo] at hf; cases hf
          obtain ⟨hbt, ho⟩ := hob
          rw [hwt, hy, hbt, if_pos (by simpa using htw)]
          exact dop_sound hdo ho hF hW hsub hfr hK
      | false =>
        rw [htw] at hf; cases hf
        obtain ⟨hbt, -⟩ := hob
        rw [hwt, hy, hbt, if_neg (by simpa using htw)]
        exact hK undef w φ M ⟨False.elim, fun _ => rfl⟩ (by rw [plc_nil]; exact hW) (Ex.refl _ _ _) fun _ h => .inl h
    · rename_i p b hs' hv
      cases hf
      have hy : yielded ops a.tmps j = none := yielded_undef (φ := φ) (M := M) hF hv fun cv h => h.2 hob.1
      rw [hwt, hy, if_neg (by simp)]
      exact hK undef w φ M ⟨False.elim, fun _ => rfl⟩ (by rw [plc_nil]; exact hW) (Ex.refl _ _ _) fun _ h => .inl h
    · rename_i b hs' hv
      have hy : yielded ops a.tmps j = some b := yielded_bool hF hv fun cv h => one_bool h
      split at hf
      · rename_i r0 hr
        cases hne : r0.news.isEmpty with
        | false => rw [hne] at hf; cases hf
        | true =>
          rw [hne] at hf
          simp only [cond_true] at hf
          cases hgv : gdv (b = want) r0.v with
          | none => rw [hgv] at hf; cases hf
          | some v =>
            rw [hgv] at hf; cases hf
            have hnil : r0.news = [] := by simpa using hne
            have hgv' : ∃ c, r0.v = .cm c ∧ v = .gd (b = want) c := by
              unfold gdv at hgv
              split at hgv
              · rename_i c hc; cases hgv; exact ⟨c, hc, rfl⟩
              · cases hgv
            obtain ⟨c, hc, rfl⟩ := hgv'
            rw [hwt, hy]
            by_cases hp : b = want
            · rw [if_pos (by simp [hp])]
              obtain ⟨v, w', φ', hrun, hr', hW', hpl, hn, hb⟩ := fop_sound (φ := φ) (M := M) (hD := hD) hr hob hp hF hW hsub (fun id h1 h2 => by rw [hnil] at h2; simp at h2; omega)
              unfold Oper.wp
              rw [hrun]
              rw [hc] at hr'
              rw [hnil] at hW' hn
              exact hK v w' φ' M ⟨fun _ => hr', fun h => absurd hp h⟩ hW' ⟨hb, fun _ h => h, hpl⟩ hn
            · rw [if_neg (by simp [hp])]
              exact hK undef w φ M ⟨fun h => absurd h hp, fun _ => rfl⟩ (by rw [plc_nil]; exact hW) (Ex.refl _ _ _) fun _ h => .inl h
      · cases hf
    · cases hf
/-- The state in the middle of the region: those that are listed have come up. -/
def InvD (Γ : Gam) (σ : SS) (dsts : List Nat) (full : List Dn) (listed : Array Bool) (a : Act) (w : World) : Prop :=
  a.tmps.size = σ.N ∧ a.defers = [] ∧ ∃ φ M, (∀ t, AR w M φ (dlook σ.L dsts (fun i => listed.getD i false) full t) (a.tmps.getD t undef)) ∧ Wd Γ φ M (dheapU σ.H (fun i => listed.getD i false) full) w ∧
    ∀ id, σ.H.length ≤ id → (∀ d ∈ full, listed.getD d.i false = true → ¬ (d.base ≤ id ∧ id < d.base + d.news.length)) → φ id = none
theorem mem_preds {o : Oper} {j : Nat} : j ∈ predsOf o ↔ ∃ e ∈ o.after, Region.binds .any e = true ∧ e.on = j := by
  unfold predsOf
  simp only [List.mem_map, List.mem_filter, Array.mem_toList_iff]
  constructor
  · rintro ⟨e, ⟨h1, h2⟩, h3⟩; exact ⟨e, h1, h2, h3⟩
  · rintro ⟨e, h1, h2, h3⟩; exact ⟨e, ⟨h1, h2⟩, h3⟩
/-- A store into a box of the call's own. -/
theorem box_store {h hD : Nat → Option Ob} {L : Nat → AV} {ub : Nat × Ob} {obs : List Prop} (hf : dstore P h L o = some (ub, obs)) (hob : allP obs) (hF : ∀ t, AR w M φ (L t) (a.tmps.getD t undef)) (hW : Wd Γ φ M hD w) (hsub : ∀ id ob, h id = some ob → hD id = some ob) :
    o.guard = none ∧ (∃ ob, h ub.1 = some ob) ∧ ∃ w', (execOp a.eval o).run P w = .ok .skip w' ∧ Wd Γ φ M (fun i => if i = ub.1 then some ub.2 else hD i) w' ∧ Ex w M φ w' M φ := by
  unfold dstore at hf
  split at hf
  · rename_i t x y hgd hop
    split at hf
    · rename_i id sz row off o1 c o2 n h1 h2 ht
      split at hf
      · rename_i ob hid
        split at hf
        · rename_i cells hbx hrows
          cases hc : (ob.sz == sz && n == c.cells.length && (row == 0 && Nat.ble (off + n) cells.length)) with
          | false => rw [hc] at hf; cases hf
          | true =>
            rw [hc] at hf; cases hf
            simp only [Bool.and_eq_true, beq_iff_eq, Nat.ble_eq] at hc
            obtain ⟨⟨hsz, hn⟩, rfl, hfit⟩ := hc
            rw [allP_append] at hob
            have hO := hW.obs id ob (hsub id ob hid)
            obtain ⟨b, C, hφi, hv⟩ : LR0 w M φ (.op id sz 0 off) (a.eval x) := getGx_ok hF h1 hob.1 trivial
            have hy := (getGx_ok hF h2 hob.2 trivial).cells
            obtain ⟨h0, hO'⟩ := hO
            rw [hφi] at hO'
            obtain ⟨cur, g1, g2, g3, g4, g5, g6⟩ := hO'
            obtain ⟨hm, hblt, hown⟩ := hW.own id ob b C (hsub id ob hid) hφi
            have hcl0 : (a.eval y).cells.size = n := by rw [← Array.length_toList, ← hy.len, hn]
            have hex : ∀ new, Ex w M φ (w.setRow b new) M φ := fun new => ⟨fun c hc => setRow_other w b c new fun e => hm (e ▸ hc), fun _ h => h, fun _ _ h => h⟩
            have hcl : cells.length = ob.sz := (g6 0 cells (by rw [hrows]; rfl)).1
            have hC : 1 ≤ C := by rw [hrows] at g3; simpa using g3
            have hle : ob.sz ≤ cur.size := by rw [g2]; exact Nat.le_mul_of_pos_left _ hC
            have hvl := hy.len
            have hcl1 : cur.toList.length = cur.size := Array.length_toList
            have hrun := run_storeVar_row2 (P := P) (p := 0 * sz + off) ht hcl0 g1 (by rw [Nat.zero_mul]; omega) (Rs.lr_one hy)
            refine ⟨hgd, ⟨ob, hid⟩, w.setRow b (cur.toList.take (0 * sz + off) ++ (a.eval y).cells.toList ++ cur.toList.drop (0 * sz + off + (a.eval y).cells.toList.length)).toArray, by simp only [execOp, hop, hv, Instr.storeAt, Instr.sureAddr, Sem.run_bind, Sem.run_pure, Result.andThen_ok, hrun], ?_⟩
            refine hW.write (ob' := { ob with rows := [cells.take off ++ c.cells ++ cells.drop (off + n)] }) (hsub id ob hid) hφi g1 ⟨h0, ?_⟩
            rw [hφi]
            refine ⟨_, setRow_heap w b cur _ ob.ety (0, 0) g1, ?_, by simpa using hC, g4, g5, fun i d hd => ?_⟩
            · rw [← g2]; simp; omega
            · cases i with
              | succ i => simp at hd
              | zero =>
                obtain rfl := Option.some.inj (show some _ = some d from hd)
                refine ⟨by simp; omega, fun j l hj => ?_⟩
                have h3 := splice_get (l := cells) (vs := c.cells) (p := off) (by omega) j
                rw [hn] at hj
                rw [h3] at hj
                rw [List.getElem?_toArray, Nat.zero_mul, Nat.zero_add, Nat.zero_mul, Nat.zero_add, splice_get (by omega)]
                have old : ∀ l, cells[j]? = some l → ∃ v, cur.toList[j]? = some v ∧ (if ob.box = true then LR (w.setRow b (cur.toList.take off ++ (a.eval y).cells.toList ++ cur.toList.drop (off + (a.eval y).cells.toList.length)).toArray) M φ l v else IR (w.setRow b (cur.toList.take off ++ (a.eval y).cells.toList ++ cur.toList.drop (off + (a.eval y).cells.toList.length)).toArray) M l v) := fun l hl => by
                  obtain ⟨v, hv, hr⟩ := (g6 0 cells (by rw [hrows]; rfl)).2 j l hl
                  rw [Nat.zero_mul, Nat.zero_add] at hv
                  rw [if_pos hbx] at hr
                  exact ⟨v, by simpa using hv, by rw [if_pos hbx]; exact hr.mono (hex _)⟩
                by_cases j1 : j < off
                · rw [if_pos j1] at hj ⊢; exact old l hj
                · rw [if_neg j1] at hj ⊢
                  by_cases j2 : j < off + c.cells.length
                  · rw [if_pos j2] at hj
                    rw [if_pos (by omega)]
                    obtain ⟨v, hv, hr⟩ := hy.get hj
                    exact ⟨v, hv, by rw [if_pos hbx]; exact hr.mono (hex _)⟩
                  · rw [if_neg j2] at hj
                    rw [if_neg (by omega)]
                    exact old l hj
        · cases hf
      · cases hf
    · cases hf
  · cases hf
theorem Done.claims {n b : Nat} {full : List Dn} (hD : Done P ops σ dsts cl n full b) : ∀ x ∈ full, ∀ u ob, x.upd = some (u, ob) → claim cl u = some x.i := fun x hx u ob hu => by
  obtain ⟨pre, post, d, o, e, hdi, -, -, -, -, hst⟩ := hD.op x.i (hD.wf.lt.2 x hx).1
  have : d = x := hD.wf.inj d (by rw [e]; simp) x hx hdi
  subst this
  rcases hst with ⟨h, -⟩ | ⟨-, -, ub, obs, h1, h2, -⟩
  · rw [h] at hu; cases hu
  · rw [h1] at hu; cases hu; exact h2
theorem inv_step {n b j : Nat} {full : List Dn} {listed : Array Bool} (hD : Done P ops σ dsts cl n full b) (hdst : ∀ x ∈ full, ∀ y ∈ full, ∀ t, x.dst = some t → y.dst = some t → x = y) (hmem : ∀ x ∈ full, ∀ t, x.dst = some t → dsts.contains t = true)
    (inv : InvD Γ σ dsts full listed a w) (hj : j < n) (hun : listed.getD j true = false) (hpre : ∀ k ∈ predsOf (ops.getD j default), listed.getD k false = true) {K : Act → World → Prop} (hK : ∀ a' w', InvD Γ σ dsts full (listed.setIfInBounds j true) a' w' → K a' w') :
    wpOp P ops Q j K a w := by
  obtain ⟨pre, post, d, o, efull, rfl, hoj, hdd, hdok, hwfp, hst⟩ := hD.op j hj
  obtain ⟨hN, hdf, φ, M, hF, hW, hφ⟩ := inv
  have hfull : ∀ x ∈ post, x ∈ full := fun x hx => by rw [efull]; simp [hx]
  have hdf' : d ∈ full := by rw [efull]; simp
  have hunf : listed.getD d.i false = false := getD_both hun
  have hog : ops.getD d.i default = o := by simp [Array.getD_eq_getD_getElem?, hoj]
  rw [hog] at hpre
  have hlt := hD.wf.lt
  have hclm := hD.claims
  have hset : ∀ k, k ≠ d.i → (listed.setIfInBounds d.i true).getD k false = listed.getD k false := fun k hk => getD_set_ne false (Ne.symm hk)
  have hin : d.i < listed.size := by
    rcases Nat.lt_or_ge d.i listed.size with h | h
    · exact h
    · simp [Array.getElem?_eq_none h] at hun
  have hself : (listed.setIfInBounds d.i true).getD d.i false = true := by simp [Array.getD_eq_getD_getElem?, hin]
  -- the slots that it sees
  have hFL : ∀ t, AR w M φ (dlook σ.L dsts (predsOf o).contains post t) (a.tmps.getD t undef) := fun t => by
    rcases dlook_cases (dsts := dsts) (L := σ.L) (S := (predsOf o).contains) (t := t) (l := post) with ⟨x, hx, h1, h2, h3⟩ | ⟨h1, h2⟩
    · rw [h3]
      have hxl : listed.getD x.i false = true := hpre x.i (by simpa using h2)
      have h4 := hF t
      rcases dlook_cases (dsts := dsts) (L := σ.L) (S := fun i => listed.getD i false) (t := t) (l := full) with ⟨y, hy, g1, g2, g3⟩ | ⟨g1, g2⟩
      · rw [g3, hdst y hy x (hfull x hx) t g1 h1] at h4; exact h4
      · rw [g1 x (hfull x hx) h1] at hxl; cases hxl
    · rw [h2]
      cases hc : dsts.contains t with
      | true => trivial
      | false =>
        have h4 := hF t
        rcases dlook_cases (dsts := dsts) (L := σ.L) (S := fun i => listed.getD i false) (t := t) (l := full) with ⟨y, hy, g1, g2, g3⟩ | ⟨g1, g2⟩
        · rw [hmem y hy t g1] at hc; cases hc
        · rw [g2, hc] at h4; exact h4
  -- the objects that it sees
  have hsub : ∀ id ob, view cl d.i (dheap σ.H (predsOf o).contains post) id = some ob → dheapU σ.H (fun i => listed.getD i false) full id = some ob := fun id ob hv => by
    obtain ⟨hid, hcl⟩ := view_some hv
    have hu : updOf (fun i => listed.getD i false) full id = none := updOf_none fun x hx ob' hx' => by
      have := hcl x.i (hclm x hx id ob' hx')
      rw [this]; exact hunf
    unfold dheapU
    rw [hu]
    rcases dheap_cases (H := σ.H) (S := (predsOf o).contains) hwfp id with ⟨x, hx, h1, h2⟩ | ⟨h1, h2⟩
    · rw [dheap_in hwfp hx h1 h2] at hid
      simp only
      rw [dheap_in hD.wf (hfull x hx) h1 h2]
      cases hs : (predsOf o).contains x.i with
      | false => rw [hs] at hid; cases hid
      | true =>
        rw [hs] at hid
        have : listed.getD x.i false = true := hpre x.i (by simpa using hs)
        rw [this]; exact hid
    · rw [h2] at hid
      have hlo : id < σ.H.length := hl_some_lt hid
      simp only
      rw [dheap_out hD.wf (.inr hlo)]; exact hid
  -- what others have left is left
  have hrest : ∀ id, ¬ (d.base ≤ id ∧ id < d.base + d.news.length) → dheap σ.H (fun i => (listed.setIfInBounds d.i true).getD i false) full id = dheap σ.H (fun i => listed.getD i false) full id := fun id hi => by
    rcases dheap_cases (H := σ.H) (S := fun i => (listed.setIfInBounds d.i true).getD i false) hD.wf id with ⟨x, hx, h1, h2⟩ | ⟨h1, h2⟩
    · have hxd : x.i ≠ d.i := fun e => hi (by rw [← hD.wf.inj x hx d hdf' e]; exact ⟨h1, h2⟩)
      rw [dheap_in hD.wf hx h1 h2, dheap_in hD.wf hx h1 h2, hset _ hxd]
    · rw [h2, dheap_out hD.wf h1]
  have hupd : ∀ id, (∀ ob, d.upd ≠ some (id, ob)) → updOf (fun i => (listed.setIfInBounds d.i true).getD i false) full id = updOf (fun i => listed.getD i false) full id := fun id hne => updOf_congr fun x hx ob hu => by
    by_cases hxd : x.i = d.i
    · have := hD.wf.inj x hx d hdf' hxd
      subst this
      exact absurd hu (hne ob)
    · exact hset _ hxd
  -- the end of it
  have fin : ∀ v w' φ' M', AR w' M' φ' d.v v → Wd Γ φ' M' (dheapU σ.H (fun i => (listed.setIfInBounds d.i true).getD i false) full) w' → Ex w M φ w' M' φ' → (∀ id, φ' id ≠ none → φ id ≠ none ∨ (d.base ≤ id ∧ id < d.base + d.news.length)) → K (a.put o.dst v) w' := by
    intro v w' φ' M' hv hW' he hn
    refine hK _ _ ⟨by rw [put_size]; exact hN, by rw [put_defers]; exact hdf, φ', M', ?_, hW', ?_⟩
    · intro t
      have h4 := AR.mono he (hF t)
      by_cases hdt : d.dst = some t
      · have hdlt : t < a.tmps.size := by
          rw [hdd] at hdt; rw [hdt] at hdok; rw [hN]; exact Nat.le_of_ble_eq_true hdok
        rw [← hdd, hdt, put_get hdlt, if_pos rfl]
        rcases dlook_cases (dsts := dsts) (L := σ.L) (S := fun i => (listed.setIfInBounds d.i true).getD i false) (t := t) (l := full) with ⟨y, hy, g1, g2, g3⟩ | ⟨g1, g2⟩
        · rw [g3, hdst y hy d hdf' t g1 hdt]; exact hv
        · have := g1 d hdf' hdt; rw [hself] at this; cases this
      · have hgd : (a.put o.dst v).tmps.getD t undef = a.tmps.getD t undef := by
          rw [← hdd]
          cases hd2 : d.dst with
          | none => rfl
          | some u =>
            rw [hd2] at hdt
            have hdlt : u < a.tmps.size := by
              rw [hdd] at hd2; rw [hd2] at hdok; rw [hN]; exact Nat.le_of_ble_eq_true hdok
            rw [put_get hdlt, if_neg (fun e => hdt (by rw [e]))]
        rw [hgd]
        have hsame : dlook σ.L dsts (fun i => (listed.setIfInBounds d.i true).getD i false) full t = dlook σ.L dsts (fun i => listed.getD i false) full t := by
          rcases dlook_cases (dsts := dsts) (L := σ.L) (S := fun i => (listed.setIfInBounds d.i true).getD i false) (t := t) (l := full) with ⟨y, hy, g1, g2, g3⟩ | ⟨g1, g2⟩
          · have hyi : y.i ≠ d.i := fun e => hdt (by rw [← hD.wf.inj y hy d hdf' e]; exact g1)
            rw [hset _ hyi] at g2
            rcases dlook_cases (dsts := dsts) (L := σ.L) (S := fun i => listed.getD i false) (t := t) (l := full) with ⟨z, hz, k1, k2, k3⟩ | ⟨k1, k2⟩
            · rw [g3, k3, hdst y hy z hz t g1 k1]
            · rw [k1 y hy g1] at g2; cases g2
          · rcases dlook_cases (dsts := dsts) (L := σ.L) (S := fun i => listed.getD i false) (t := t) (l := full) with ⟨z, hz, k1, k2, k3⟩ | ⟨k1, k2⟩
            · have hzi : z.i ≠ d.i := fun e => hdt (by rw [← hD.wf.inj z hz d hdf' e]; exact k1)
              have := g1 z hz k1
              rw [hset _ hzi, k2] at this; cases this
            · rw [g2, k2]
        rw [hsame]; exact h4
    · intro id hid hall
      refine Classical.byContradiction fun h => ?_
      rcases hn id h with h1 | h1
      · refine h1 (hφ id hid fun x hx hxl => ?_)
        by_cases hxd : x.i = d.i
        · rw [hxd, hunf] at hxl; cases hxl
        · exact hall x hx (by rw [hset _ hxd]; exact hxl)
      · exact hall d hdf' hself h1
  rcases hst with ⟨hun0, r, hs, hst, hob, hrv, hrn⟩ | ⟨hnil, hunk, ub, obs, hub, hclu, hst, hob⟩
  · have hφn : ∀ id, d.base ≤ id → id < d.base + d.news.length → φ id = none := fun id h1 h2 => by
      refine hφ id ?_ fun x hx hxl hxi => ?_
      · have := (hlt.2 d hdf').2.1; omega
      · have : x = d := by
          have e1 := dheap_in (H := []) (S := fun i => i == x.i) hD.wf hx hxi.1 hxi.2
          have e2 := dheap_in (H := []) (S := fun i => i == x.i) hD.wf hdf' h1 h2
          refine Classical.byContradiction fun hne => ?_
          have hii : d.i ≠ x.i := fun e => hne (hD.wf.inj x hx d hdf' e.symm)
          have c1 : (x.i == x.i) = true := by simp
          have c2 : (d.i == x.i) = false := by simpa using hii
          simp only [c1, cond_true] at e1
          simp only [c2, cond_false] at e2
          rw [e1] at e2
          have hl : id - x.base < x.news.length := by omega
          simp [List.getElem?_eq_getElem hl] at e2
        rw [this, hunf] at hxl; cases hxl
    have hupn : ∀ id, d.base ≤ id → id < d.base + d.news.length → updOf (fun i => listed.getD i false) full id = none := fun id h1 h2 => by
      cases hu : updOf (fun i => listed.getD i false) full id with
      | none => rfl
      | some ob =>
        have hO := hW.obs id ob (by unfold dheapU; rw [hu])
        obtain ⟨_, h3⟩ := hO
        rw [hφn id h1 h2] at h3
        exact h3.elim
    have key := dstep_sound (φ := φ) (M := M) (w := w) (a := a) (Γ := Γ) (hD := dheapU σ.H (fun i => listed.getD i false) full) (K := K) hst hob hFL hW hsub (fun id h1 h2 => by
      rw [hrn] at h2
      refine ⟨hφn id h1 h2, ?_⟩
      unfold dheapU
      rw [hupn id h1 h2]
      simp only
      rw [dheap_in hD.wf hdf' h1 h2, hunf]; rfl) fun v w' φ' M' hv hW' he hn => fin v w' φ' M' (by rw [← hrv]; exact hv) (hW'.less fun id ob hid => by
        rw [hrn]
        unfold plc
        unfold dheapU at hid ⊢
        rw [hupd id (fun ob e => by rw [hun0] at e; cases e)] at hid
        by_cases hi : d.base ≤ id ∧ id < d.base + d.news.length
        · rw [if_pos hi]
          rw [hupn id hi.1 hi.2] at hid
          simp only at hid
          rw [dheap_in hD.wf hdf' hi.1 hi.2, hself] at hid
          exact hid
        · rw [if_neg hi]
          rw [hrest id hi] at hid
          exact hid) he (by rw [← hrn]; exact hn)
    unfold wpOp
    simp only [hoj]
    split
    · rename_i hw; rw [if_pos hw] at key; exact .inl (wp_nq (fun _ _ h => h) key)
    · rename_i hw; rw [if_neg hw] at key; exact key
  · obtain ⟨hgd, ⟨ob0, hob0⟩, w', hrun, hW', he⟩ := box_store (Γ := Γ) hst hob hFL hW hsub
    have hw : Region.wanted o (yielded ops a.tmps) = true := by unfold Region.wanted; rw [hgd]
    unfold wpOp
    simp only [hoj, hw, if_true]
    left
    unfold Oper.wp
    rw [hrun]
    show K (a.put o.dst undef) w'
    refine fin undef w' φ M (by rw [hunk]; trivial) (hW'.less fun id ob hid => ?_) he fun id h => .inl h
    unfold dheapU at hid ⊢
    by_cases hi : id = ub.1
    · subst hi
      rw [if_pos rfl]
      rw [updOf_self (d := d) (u := ub.1) (ob := ub.2) hub hself hdf' (fun x hx ob' hu => by
        have := hclm x hx _ _ hu
        rw [hclu] at this
        exact hD.wf.inj x hx d hdf' (Option.some.inj this).symm)] at hid
      exact hid
    · rw [if_neg hi]
      rw [hupd id (fun ob e => by rw [hub] at e; cases e; exact hi rfl), hrest id (fun h => by rw [hnil] at h; simp at h; omega)] at hid
      exact hid
end
end Go.Proofs.YtjhhlmmmkgnhmaaDoor
