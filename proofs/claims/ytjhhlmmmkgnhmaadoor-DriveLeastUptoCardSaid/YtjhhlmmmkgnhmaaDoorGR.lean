/- The abstract machine is sound, part 12: steps that may write; ghosts. No program in sight. -/
import Derived.Test.YtjhhlmmmkgnhmaaDoorGQ
namespace Go.Proofs.YtjhhlmmmkgnhmaaDoor
set_option linter.unusedSimpArgs false
set_option linter.unusedVariables false
set_option linter.unusedSectionVars false
open Go.RowKit
section
variable {P : Program} {Γ : Gam} {φ φ' : Pl} {M M' : Nat → Prop} {h : Nat → Option Ob} {w w' : World} {a : Act} {hs : List Hint} {o : Oper} {H : List (Option Ob)} {L : List (Nat × AV)}
theorem mop_sound {r : Mes} (hW : Wd Γ φ M (hl H) w) (hF : ∀ t, AR w M φ (look L t) (a.tmps.getD t undef)) (hφ : ∀ id, H.length ≤ id → φ id = none) (hf : mop P H (look L) o.op hs = some r) (hob : allP r.obs) {K : Act → World → Prop}
    (hK : ∀ v w', Md Γ φ M w r v w' → K (a.put o.dst v) w') : o.wp P a w K NQ := by
  cases ho : o.op with
  | store t x y =>
    obtain ⟨w', hrun, hm⟩ := sound_store hW hF hφ ho hf hob
    unfold Oper.wp
    rw [hrun]
    exact hK undef w' hm
  | call c =>
    have hf' := hf
    rw [ho] at hf'
    simp only [mop] at hf'
    split at hf'
    · rename_i hc
      obtain ⟨v, w', hrun, hm⟩ := sound_append_own hW hF hφ ho hc hf hob
      unfold Oper.wp
      rw [hrun]
      exact hK v w' hm
    · rename_i hc
      obtain ⟨v, w', hrun, hm⟩ := sound_copy_own hW hF hφ ho hc hf hob
      unfold Oper.wp
      rw [hrun]
      exact hK v w' hm
    · cases hf'
  | _ => rw [ho] at hf; simp only [mop] at hf; cases hf

/-! ### Ghosts -/
/-- The state, met by slots and a world. -/
def SimC (Γ : Gam) (σ : SS) (tm : Array Value) (w : World) (φ : Pl) (M : Nat → Prop) : Prop :=
  (∀ t, AR w M φ (look σ.L t) (tm.getD t undef)) ∧ Wd Γ φ M (hl σ.H) w ∧ (∀ id, σ.H.length ≤ id → φ id = none)
section
variable {f : Lf → Lf × List Prop} (hf : ∀ l v, LR w M φ l v → allP (f l).2 → LR w M' φ (f l).1 v)
include hf
theorem gmLs_ok : ∀ {ls : List Lf} {vs : List Value}, Rs (LR w M φ) ls vs → allP (gmLs f ls).2 → Rs (LR w M' φ) (gmLs f ls).1 vs
  | [], [], _, _ => trivial
  | l :: ls, v :: vs, h, ho => by
    simp only [gmLs, allP_append] at ho ⊢
    exact ⟨hf l v h.1 ho.1, gmLs_ok h.2 ho.2⟩
  | [], _ :: _, h, _ => h.elim
  | _ :: _, [], h, _ => h.elim
theorem gmC_ok {c : Cm} {v : Value} (h : CR w M φ c v) (ho : allP (gmC f c).2) : CR w M' φ (gmC f c).1 v := by
  cases c with
  | one l => exact hf l v h ho
  | agg ls => obtain ⟨vs, e, hr⟩ := h; exact ⟨vs, e, gmLs_ok hf hr ho⟩
theorem gmCs_ok : ∀ {ls : List Cm} {vs : List Value}, Rs (CR w M φ) ls vs → allP (gmCs f ls).2 → Rs (CR w M' φ) (gmCs f ls).1 vs
  | [], [], _, _ => trivial
  | l :: ls, v :: vs, h, ho => by
    simp only [gmCs, allP_append] at ho ⊢
    exact ⟨gmC_ok hf h.1 ho.1, gmCs_ok h.2 ho.2⟩
  | [], _ :: _, h, _ => h.elim
  | _ :: _, [], h, _ => h.elim
theorem gmAV_ok (he : Ex w M φ w M' φ) {c : AV} {v : Value} (h : AR w M φ c v) (ho : allP (gmAV f c).2) : AR w M' φ (gmAV f c).1 v := by
  cases c with
  | cm c => exact gmC_ok hf h ho
  | tup cs => obtain ⟨vs, e, hr⟩ := h; exact ⟨vs, e, gmCs_ok hf hr ho⟩
  | gd p c => exact AR.mono he (c := .gd p c) h
  | unk => trivial
  | boo => exact h
omit hf in
theorem look_gm (f : Lf → Lf × List Prop) (t : Nat) : ∀ L : List (Nat × AV), look (gmSlots f L).1 t = (gmAV f (look L t)).1 ∧ (allP (gmSlots f L).2 → allP (gmAV f (look L t)).2)
  | [] => ⟨rfl, fun _ => trivial⟩
  | (k, v) :: L => by
    obtain ⟨h1, h2⟩ := look_gm f t L
    simp only [gmSlots, look, allP_append]
    cases hk : (k == t) with
    | true => exact ⟨rfl, fun h => h.1⟩
    | false => exact ⟨h1, fun h => h2 h.2⟩
theorem gmSlots_ok (he : Ex w M φ w M' φ) {tm : Array Value} {L : List (Nat × AV)} (h : ∀ t, AR w M φ (look L t) (tm.getD t undef)) (ho : allP (gmSlots f L).2) : ∀ t, AR w M' φ (look (gmSlots f L).1 t) (tm.getD t undef) := fun t => by
  obtain ⟨h1, h2⟩ := look_gm f t L
  rw [h1]
  exact gmAV_ok hf he (h t) (h2 ho)
omit hf in
theorem gmLs_len : ∀ {ls : List Lf}, (gmLs f ls).1.length = ls.length
  | [] => rfl
  | l :: ls => by simp [gmLs, gmLs_len (ls := ls)]
omit hf in
theorem gmLs_get : ∀ {ls : List Lf} {j : Nat} {l' : Lf}, (gmLs f ls).1[j]? = some l' → ∃ l, ls[j]? = some l ∧ l' = (f l).1 ∧ (allP (gmLs f ls).2 → allP (f l).2)
  | [], _, _, h => by simp [gmLs] at h
  | l :: ls, 0, l', h => by simp [gmLs] at h; exact ⟨l, rfl, h.symm, fun ho => by simp only [gmLs, allP_append] at ho; exact ho.1⟩
  | l :: ls, j + 1, l', h => by
    obtain ⟨x, h1, h2, h3⟩ := gmLs_get (ls := ls) (j := j) (l' := l') (by simpa [gmLs] using h)
    exact ⟨x, by simpa using h1, h2, fun ho => h3 (by simp only [gmLs, allP_append] at ho; exact ho.2)⟩
omit hf in
theorem gmRows_get : ∀ {rs : List (List Lf)} {i : Nat} {c' : List Lf}, (gmRows f rs).1[i]? = some c' → ∃ c, rs[i]? = some c ∧ c' = (gmLs f c).1 ∧ (allP (gmRows f rs).2 → allP (gmLs f c).2)
  | [], _, _, h => by simp [gmRows] at h
  | r :: rs, 0, c', h => by simp [gmRows] at h; exact ⟨r, rfl, h.symm, fun ho => by simp only [gmRows, allP_append] at ho; exact ho.1⟩
  | r :: rs, i + 1, c', h => by
    obtain ⟨x, h1, h2, h3⟩ := gmRows_get (rs := rs) (i := i) (c' := c') (by simpa [gmRows] using h)
    exact ⟨x, by simpa using h1, h2, fun ho => h3 (by simp only [gmRows, allP_append] at ho; exact ho.2)⟩
omit hf in
theorem gmRows_len : ∀ {rs : List (List Lf)}, (gmRows f rs).1.length = rs.length
  | [] => rfl
  | r :: rs => by simp [gmRows, gmRows_len (rs := rs)]
omit hf in
theorem hl_gm : ∀ {H : List (Option Ob)} {id : Nat}, hl (gmH f H).1 id = (gmOb f (hl H id)).1 ∧ (allP (gmH f H).2 → allP (gmOb f (hl H id)).2)
  | [], id => ⟨by simp [gmH, hl, gmOb], fun _ => by simp [hl, gmOb, allP]⟩
  | x :: H, 0 => by
    simp only [gmH, allP_append]
    exact ⟨by simp [hl], fun h => by simpa [hl] using h.1⟩
  | x :: H, id + 1 => by
    obtain ⟨h1, h2⟩ := hl_gm (H := H) (id := id)
    simp only [gmH, allP_append]
    exact ⟨by simpa [hl] using h1, fun h => by simpa [hl] using h2 h.2⟩
omit hf in
theorem gmH_len : ∀ {H : List (Option Ob)}, (gmH f H).1.length = H.length
  | [] => rfl
  | x :: H => by simp [gmH, gmH_len (H := H)]
theorem gmOb_ok (he : Ex w M φ w M' φ) {id : Nat} {ob ob' : Ob} (hO : OR w M φ id ob) (hg : (gmOb f (some ob)).1 = some ob') (ho : allP (gmOb f (some ob)).2) : OR w M' φ id ob' ∧ ob'.box = ob.box := by
  unfold gmOb at hg ho
  cases hb : ob.box with
  | false => simp only [hb, cond_false] at hg; cases hg; exact ⟨hO.mono he fun _ _ _ => rfl, hb⟩
  | true =>
    simp only [hb, cond_true] at hg ho; cases hg
    obtain ⟨h0, h1⟩ := hO
    refine ⟨⟨h0, ?_⟩, rfl⟩
    cases hφ : φ id with
    | none => rw [hφ] at h1; exact h1.elim
    | some p =>
      rw [hφ] at h1
      cases p with
      | none => rw [hb] at h1; cases h1.2
      | some bc =>
        obtain ⟨b, C⟩ := bc
        obtain ⟨cur, g1, g2, g3, g4, g5, g6⟩ := h1
        refine ⟨cur, g1, g2, by rw [gmRows_len]; exact g3, g4, fun _ => g5 hb, fun i c' hc => ?_⟩
        obtain ⟨c, hc1, rfl, hc2⟩ := gmRows_get hc
        refine ⟨by rw [gmLs_len]; exact (g6 i c hc1).1, fun j l' hj => ?_⟩
        obtain ⟨l, hl1, rfl, hl2⟩ := gmLs_get hj
        obtain ⟨v, hv, hr⟩ := (g6 i c hc1).2 j l hl1
        rw [if_pos hb] at hr
        exact ⟨v, hv, by show (if true = true then _ else _); rw [if_pos rfl]; exact hf l v hr (hl2 (hc2 ho))⟩
/-- The objects' leaves are said anew. -/
theorem gmWd (he : Ex w M φ w M' φ) (hW : Wd Γ φ M (hl H) w) (ho : allP (gmH f H).2) (hm : ∀ b, M' b → M b ∨ (b < w.heap.size ∧ (Γ.own0 b ∨ Γ.w0.heap.size ≤ b) ∧ ∀ id ob C, hl H id = some ob → φ id ≠ some (some (b, C)))) : Wd Γ φ M' (hl (gmH f H).1) w := by
  have back : ∀ id ob', hl (gmH f H).1 id = some ob' → ∃ ob, hl H id = some ob ∧ OR w M' φ id ob' := fun id ob' e => by
    obtain ⟨h1, h2⟩ := hl_gm (f := f) (H := H) (id := id)
    rw [h1] at e
    cases hh : hl H id with
    | none => rw [hh] at e; cases e
    | some ob =>
      rw [hh] at e h2
      exact ⟨ob, rfl, (gmOb_ok hf he (hW.obs id ob hh) e (h2 ho)).1⟩
  refine ⟨fun id ob' e => (back id ob' e).choose_spec.2, fun i j oi oj b Ci Cj hi hj => hW.inj i j _ _ b Ci Cj (back i oi hi).choose_spec.1 (back j oj hj).choose_spec.1, fun b hb => ?_, fun b hb => he.sub b (hW.m0 b hb), fun b hb => ?_, fun id ob' b C e p => ?_, hW.keep, hW.os, hW.tape, hW.output, hW.size, hW.pin⟩
  · rcases hm b hb with h | h
    · exact hW.mlt b h
    · exact h.1
  · rcases hm b hb with h | h
    · exact hW.mold b h
    · exact .inr h.2.1
  · obtain ⟨ob, ho1, -⟩ := back id ob' e
    have := hW.own id ob b C ho1 p
    refine ⟨fun hb => ?_, this.2⟩
    rcases hm b hb with h | h
    · exact this.1 h
    · exact h.2.2 id ob C ho1 p
end
/-- An own slice, taken for what never turns. -/
theorem own_sl {M2 : Nat → Prop} {id sz len : Nat} {ob : Ob} {v : Value} (hO : OR w M φ id ob) (hbx : ob.box = false) (hsz : ob.sz = sz) (hlen : ob.rows.length = len) (hv : LR0 w M φ (.os id sz 0 len) v) (hM : ∀ b, M b → M2 b) (hM2 : ∀ b C, φ id = some (some (b, C)) → M2 b) :
    IR w M2 (.sl false sz ob.rows) v := by
  rcases hv with ⟨b, C, hφ, rfl, hle⟩ | ⟨hφ, _, rfl, A, rfl⟩
  · obtain ⟨h0, h1⟩ := hO
    rw [hφ] at h1
    obtain ⟨cur, g1, g2, g3, g4, g5, g6⟩ := h1
    have hcell : ∀ (i : Nat) (c : List Lf) (j : Nat) (l : Lf), ob.rows[i]? = some c → c[j]? = some l → w.cell? ⟨b, 0 * sz + i * sz + j, none⟩ = some ((cur[i * sz + j]?).getD undef) ∧ IR w M2 l ((cur[i * sz + j]?).getD undef) := fun i c j l hc hj => by
      obtain ⟨u, hu, hr⟩ := (g6 i c hc).2 j l hj
      rw [hbx] at hr
      rw [hsz] at hu
      refine ⟨?_, by rw [hu]; exact IR.mono (fun _ _ => rfl) hM (by simpa using hr)⟩
      simp only [World.cell?, g1, Nat.zero_mul, Nat.zero_add]
      simp [hu]
    have key : IR w M2 (.sl false sz ob.rows) (.slice (some ⟨b, 0 * sz, none⟩) ob.rows.length (C - 0)) :=
      IR.sl false sz ob.rows b (0 * sz) (C - 0) (fun i j => (cur[i * sz + j]?).getD undef) (hM2 b C hφ) (by omega) (fun h => by cases h) (fun i c hc => by rw [(g6 i c hc).1, hsz]) (fun i c j l hc hj => (hcell i c j l hc hj).1) (fun i c j l hc hj => (hcell i c j l hc hj).2)
    rw [hlen] at key
    exact key
  · have hr0 : ob.rows = [] := List.eq_nil_of_length_eq_zero hlen
    rw [hr0]
    exact IR.sl0 false sz A 0 fun h => by cases h
theorem wkL_ok {sz : Nat} {l l' : Lf} {v : Value} (h : wkL sz l = some l') (hv : LR w M φ l v) : LR w M φ l' v := by
  unfold wkL at h
  split at h
  · cases h
    have hv' : IR w M .nils v := hv
    cases hv'
    exact IR.lr (IR.sl0 false sz none 0 fun h => by cases h)
  · rename_i cl s rows
    cases h
    have hv' : IR w M (.sl cl s rows) v := hv
    cases hv' with
    | sl0 _ _ A cap _ => exact IR.lr (IR.sl0 false s A cap fun h => by cases h)
    | sl _ _ _ b k cap vs hm hl hcl hls hc hr => exact IR.lr (IR.sl false s rows b k cap vs hm hl (fun h => by cases h) hls hc hr)
  · cases h
theorem Rs.set {R : Lf → Value → Prop} : ∀ {ls : List Lf} {vs : List Value} {k : Nat} {l' : Lf}, Rs R ls vs → (∀ v, vs[k]? = some v → R l' v) → Rs R (ls.set k l') vs
  | [], [], _, _, _, _ => trivial
  | l :: ls, v :: vs, 0, l', h, hk => ⟨hk v rfl, h.2⟩
  | l :: ls, v :: vs, k + 1, l', h, hk => ⟨h.1, Rs.set h.2 fun u hu => hk u (by simpa using hu)⟩
  | [], _ :: _, _, _, h, _ => h.elim
  | _ :: _, [], _, _, h, _ => h.elim
theorem wkC_ok {k sz : Nat} {c c' : Cm} {v : Value} (h : wkC k sz c = some c') (hv : CR w M φ c v) : CR w M φ c' v := by
  cases c with
  | one l =>
    simp only [wkC] at h
    cases hk : (k == 0) with
    | false => rw [hk] at h; cases h
    | true =>
      rw [hk] at h
      simp only [cond_true] at h
      cases hl : wkL sz l with
      | none => rw [hl] at h; cases h
      | some l' => rw [hl] at h; cases h; exact wkL_ok hl hv
  | agg ls =>
    simp only [wkC] at h
    split at h
    · rename_i l hk
      cases hl : wkL sz l with
      | none => rw [hl] at h; cases h
      | some l' =>
        rw [hl] at h; cases h
        obtain ⟨vs, e, hr⟩ := hv
        refine ⟨vs, e, Rs.set hr fun u hu => ?_⟩
        obtain ⟨u', hu', hr'⟩ := hr.get hk
        rw [hu] at hu'; cases hu'
        exact wkL_ok hl hr'
    · cases h
/-- A box, one cell of it said anew. -/
theorem box_turn {id k : Nat} {ob : Ob} {cells : List Lf} {l l' : Lf} (hW : Wd Γ φ M (hl H) w) (hid : hl H id = some ob) (hbx : ob.box = true) (hrows : ob.rows = [cells]) (hk : cells[k]? = some l) (hl' : ∀ v, LR w M φ l v → LR w M φ l' v) :
    Wd Γ φ M (hl (H.set id (some { ob with rows := [cells.set k l'] }))) w := by
  have hO := hW.obs id ob hid
  obtain ⟨h0, h1⟩ := hO
  cases hφ : φ id with
  | none => rw [hφ] at h1; exact h1.elim
  | some p =>
    cases p with
    | none => rw [hφ, hbx] at h1; cases h1.2
    | some bc =>
      obtain ⟨b, C⟩ := bc
      rw [hφ] at h1
      obtain ⟨cur, g1, g2, g3, g4, g5, g6⟩ := h1
      rw [hl_set (hl_some_lt hid)]
      refine hW.turn hid hφ (fun _ _ => rfl) rfl rfl rfl rfl ⟨h0, ?_⟩
      rw [hφ]
      refine ⟨cur, g1, g2, by rw [hrows] at g3; simpa using g3, g4, g5, fun i c hc => ?_⟩
      cases i with
      | succ i => simp at hc
      | zero =>
        obtain rfl := Option.some.inj (show some _ = some c from hc)
        have h6 := g6 0 cells (by rw [hrows]; rfl)
        refine ⟨by rw [List.length_set]; exact h6.1, fun j x hj => ?_⟩
        by_cases hjk : j = k
        · subst hjk
          have hlt := (List.getElem?_eq_some_iff.1 hk).1
          rw [List.getElem?_set_self hlt] at hj
          cases hj
          obtain ⟨v, hv, hr⟩ := h6.2 j l hk
          rw [if_pos hbx] at hr
          exact ⟨v, hv, by rw [if_pos hbx]; exact hl' v hr⟩
        · rw [List.getElem?_set_ne (Ne.symm hjk)] at hj
          exact h6.2 j x hj
theorem look_cons {t : Nat} {v : AV} {L : List (Nat × AV)} {tm : Array Value} (h : ∀ t, AR w M φ (look L t) (tm.getD t undef)) (hv : AR w M φ v (tm.getD t undef)) : ∀ u, AR w M φ (look ((t, v) :: L) u) (tm.getD u undef) := fun u => by
  simp only [look]
  cases hk : (t == u) with
  | true => simp only [beq_iff_eq] at hk; subst hk; exact hv
  | false => exact h u
theorem ghost_sound {tm : Array Value} : ∀ {hs hs' : List Hint} {σ σ' : SS} {ob : List Prop} {φ : Pl} {M : Nat → Prop}, ghost hs σ = some (σ', ob, hs') → allP ob → SimC Γ σ tm w φ M → σ'.N = σ.N ∧ ∃ φ' M', SimC Γ σ' tm w φ' M'
  | [], _, σ, _, _, φ, M, hg, _, hS => by simp only [ghost] at hg; cases hg; exact ⟨rfl, φ, M, hS⟩
  | x :: hs, hs', σ, σ', ob, φ, M, hg, ho, hS => by
    obtain ⟨hF, hW, hφ⟩ := hS
    cases x with
    | wait n =>
      cases n with
      | zero => simp only [ghost] at hg; exact ghost_sound hg ho ⟨hF, hW, hφ⟩
      | succ n => simp only [ghost] at hg; cases hg; exact ⟨rfl, φ, M, hF, hW, hφ⟩
    | frz id =>
      simp only [ghost] at hg
      split at hg
      · rename_i o1 hid
        cases hbx : o1.box with
        | true => rw [hbx] at hg; cases hg
        | false =>
          rw [hbx] at hg
          simp only [cond_false] at hg
          split at hg
          · rename_i σ2 o2 hs2 hg2
            cases hg
            simp only [allP_append] at ho
            have hO := hW.obs id o1 hid
            have hM2 : ∀ b, M b → (fun b => M b ∨ ∃ C, φ id = some (some (b, C))) b := fun _ h => .inl h
            have he : Ex w M φ w (fun b => M b ∨ ∃ C, φ id = some (some (b, C))) φ := ⟨fun _ _ => rfl, hM2, fun _ _ h => h⟩
            have hf : ∀ l v, LR w M φ l v → allP (frzF id o1.sz o1.rows l).2 → LR w (fun b => M b ∨ ∃ C, φ id = some (some (b, C))) φ (frzF id o1.sz o1.rows l).1 v := fun l v hv hp => by
              unfold frzF at hp ⊢
              split
              · rename_i i s off len
                cases hc : (i == id && s == o1.sz && off == 0) with
                | false => exact hv.mono he
                | true =>
                  simp only [hc, cond_true] at hp
                  simp only [Bool.and_eq_true, beq_iff_eq] at hc
                  obtain ⟨⟨rfl, rfl⟩, rfl⟩ := hc
                  exact IR.lr (own_sl hO hbx rfl hp.1 hv hM2 fun b C h => .inr ⟨C, h⟩)
              · exact hv.mono he
            have hW0 : Wd Γ φ M (hl (σ.H.set id none)) w := hW.less fun k ob' hk => by
              by_cases hki : k = id
              · subst hki; rw [hl_set_self (hl_some_lt hid)] at hk; cases hk
              · rw [hl_set_ne hki] at hk; exact hk
            have hW1 := gmWd hf he hW0 ho.1.2 fun b hb => by
              rcases hb with h | ⟨C, h⟩
              · exact .inl h
              · obtain ⟨q1, q2, q3⟩ := hW.own id o1 b C hid h
                refine .inr ⟨q2, q3, fun k ob' C' hk hp => ?_⟩
                by_cases hki : k = id
                · subst hki; rw [hl_set_self (hl_some_lt hid)] at hk; cases hk
                · rw [hl_set_ne hki] at hk; exact hki (hW.inj k id ob' o1 b C' C hk hid hp h)
            obtain ⟨hN, φ', M', hS'⟩ := ghost_sound hg2 ho.2 ⟨gmSlots_ok hf he hF ho.1.1, hW1, fun k hk => hφ k (by simpa [gmH_len] using hk)⟩
            exact ⟨hN, φ', M', hS'⟩
          · cases hg
      · cases hg
    | relen id n =>
      simp only [ghost] at hg
      split at hg
      · rename_i σ2 o2 hs2 hg2
        cases hg
        simp only [allP_append] at ho
        have hf : ∀ l v, LR w M φ l v → allP (relF id n l).2 → LR w M φ (relF id n l).1 v := fun l v hv hp => by
          unfold relF at hp ⊢
          split
          · rename_i i s off len
            cases hc : (i == id && off == 0) with
            | false => exact hv
            | true => simp only [hc, cond_true] at hp; obtain ⟨rfl, -⟩ := hp; exact hv
          · exact hv
        obtain ⟨hN, φ', M', hS'⟩ := ghost_sound hg2 ho.2 ⟨gmSlots_ok hf (Ex.refl _ _ _) hF ho.1.1, gmWd hf (Ex.refl _ _ _) hW ho.1.2 fun b hb => .inl hb, fun k hk => hφ k (by simpa [gmH_len] using hk)⟩
        exact ⟨hN, φ', M', hS'⟩
      · cases hg
    | nilS t k sz =>
      simp only [ghost] at hg
      split at hg
      · rename_i c hc
        split at hg
        · rename_i c' hwk
          have hv := hF t
          rw [hc] at hv
          obtain ⟨hN, φ', M', hS'⟩ := ghost_sound hg ho ⟨look_cons hF (wkC_ok hwk hv : CR w M φ c' _), hW, hφ⟩
          exact ⟨hN, φ', M', hS'⟩
        · cases hg
      · cases hg
    | nilB id k sz =>
      simp only [ghost] at hg
      split at hg
      · rename_i o1 hid
        split at hg
        · rename_i cells hbx hrows
          split at hg
          · rename_i l hk
            split at hg
            · rename_i l' hwk
              obtain ⟨hN, φ', M', hS'⟩ := ghost_sound hg ho ⟨hF, box_turn hW hid hbx hrows hk fun v hv => wkL_ok hwk hv, fun k hk => hφ k (by simpa using hk)⟩
              exact ⟨hN, φ', M', hS'⟩
            · cases hg
          · cases hg
        · cases hg
      · cases hg
    | adopt t sz e =>
      simp only [ghost] at hg
      split at hg
      · rename_i hc
        cases hz : (sz == 0) with
        | true => rw [hz] at hg; cases hg
        | false =>
          rw [hz] at hg
          have hv := hF t
          rw [hc] at hv
          have hn' : φ σ.H.length = none := hφ _ (Nat.le_refl _)
          have hh' : hl σ.H σ.H.length = none := by unfold hl; rw [List.getElem?_eq_none (Nat.le_refl _)]; rfl
          have he : Ex w M φ w M (upP φ σ.H.length none) := ⟨fun _ _ => rfl, fun _ h => h, upP_pl _ hn'⟩
          have hv' : IR w M .nils (tm.getD t undef) := hv
          have hvn : ∃ A, tm.getD t undef = .slice A 0 0 := by
            generalize tm.getD t undef = u at hv'
            cases hv'; exact ⟨none, rfl⟩
          obtain ⟨hN, φ', M', hS'⟩ := ghost_sound hg ho ⟨look_cons (fun u => AR.mono he (hF u)) (.inr ⟨upP_self _ _ _, rfl, rfl, hvn⟩ : LR0 w M (upP φ σ.H.length none) (.os σ.H.length sz 0 0) _),
            (by rw [hl_snoc]; exact hW.newNil (⟨false, sz, e, []⟩ : Ob) hn' hh' rfl rfl (by simp only [beq_eq_false_iff_ne] at hz; show 0 < sz; omega)), fun k hk => by
              simp only [List.length_append, List.length_singleton] at hk
              rw [upP_ne _ (by omega)]; exact hφ k (by omega)⟩
          exact ⟨hN, φ', M', hS'⟩
      · cases hg
    | adoptB id k sz e =>
      simp only [ghost] at hg
      split at hg
      · rename_i o1 hid
        split at hg
        · rename_i cells hbx hrows
          split at hg
          · rename_i hk
            cases hz : (sz == 0) with
            | true => rw [hz] at hg; cases hg
            | false =>
              rw [hz] at hg
              simp only [cond_false] at hg
              have hn' : φ σ.H.length = none := hφ _ (Nat.le_refl _)
              have hh' : hl σ.H σ.H.length = none := by unfold hl; rw [List.getElem?_eq_none (Nat.le_refl _)]; rfl
              have he : Ex w M φ w M (upP φ σ.H.length none) := ⟨fun _ _ => rfl, fun _ h => h, upP_pl _ hn'⟩
              have hW1 : Wd Γ (upP φ σ.H.length none) M (hl (σ.H ++ [some ⟨false, sz, e, []⟩])) w := by
                rw [hl_snoc]; exact hW.newNil (⟨false, sz, e, []⟩ : Ob) hn' hh' rfl rfl (by simp only [beq_eq_false_iff_ne] at hz; show 0 < sz; omega)
              have hlt := hl_some_lt hid
              have hid1 : hl (σ.H ++ [some ⟨false, sz, e, []⟩]) id = some o1 := by rw [hl_snoc]; dsimp only; rw [if_neg (by omega)]; exact hid
              have hW2 := box_turn (k := k) (l := .nils) (l' := .os σ.H.length sz 0 0) hW1 hid1 hbx hrows hk fun v hv => by
                have hv' : IR w M .nils v := hv
                cases hv'
                exact .inr ⟨upP_self _ _ _, rfl, rfl, none, rfl⟩
              rw [List.set_append_left _ _ hlt] at hW2
              obtain ⟨hN, φ', M', hS'⟩ := ghost_sound hg ho ⟨fun u => AR.mono he (hF u), hW2, fun k hk => by
                simp only [List.length_append, List.length_set, List.length_singleton] at hk
                rw [upP_ne _ (by omega)]; exact hφ k (by omega)⟩
              exact ⟨hN, φ', M', hS'⟩
          · cases hg
        · cases hg
      · cases hg
    | bit b => simp only [ghost] at hg; cases hg; exact ⟨rfl, φ, M, hF, hW, hφ⟩
    | spec => simp only [ghost] at hg; cases hg; exact ⟨rfl, φ, M, hF, hW, hφ⟩
    | skip => simp only [ghost] at hg; cases hg; exact ⟨rfl, φ, M, hF, hW, hφ⟩
    | cells c => simp only [ghost] at hg; cases hg; exact ⟨rfl, φ, M, hF, hW, hφ⟩
    | rows c => simp only [ghost] at hg; cases hg; exact ⟨rfl, φ, M, hF, hW, hφ⟩
    | num n => simp only [ghost] at hg; cases hg; exact ⟨rfl, φ, M, hF, hW, hφ⟩
    | byte b => simp only [ghost] at hg; cases hg; exact ⟨rfl, φ, M, hF, hW, hφ⟩
    | ints b => simp only [ghost] at hg; cases hg; exact ⟨rfl, φ, M, hF, hW, hφ⟩
    | draw n cl => simp only [ghost] at hg; cases hg; exact ⟨rfl, φ, M, hF, hW, hφ⟩
    | call i r out => simp only [ghost] at hg; cases hg; exact ⟨rfl, φ, M, hF, hW, hφ⟩
end
end Go.Proofs.YtjhhlmmmkgnhmaaDoor
