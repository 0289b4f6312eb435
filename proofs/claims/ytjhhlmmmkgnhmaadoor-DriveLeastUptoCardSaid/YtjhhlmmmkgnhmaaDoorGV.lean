/- The abstract machine is sound, part 16: runs. No program in sight. -/
import Derived.Test.YtjhhlmmmkgnhmaaDoorGU
namespace Go.Proofs.YtjhhlmmmkgnhmaaDoor
set_option linter.unusedSimpArgs false
set_option linter.unusedVariables false
set_option linter.unusedSectionVars false
set_option exponentiation.threshold 300
open Go.RowKit
section
variable {P : Program} {Γ : Gam} {body : Code} {R : Exit → Act → World → Prop} {a : Act} {w : World} {hs : List Hint}
theorem cdAt_more (body : Code) : ∀ (n p : Nat), p < 2 ^ n → cdAt body n p = cdAt body (n + 1) p
  | 0, p, h => by
    have : p = 0 := by simpa using h
    subst this; rfl
  | n + 1, p, h => by
    show (bif Nat.ble p 1 then body else child (p % 2 == 1) (cdAt body n (p / 2))) = (bif Nat.ble p 1 then body else child (p % 2 == 1) (cdAt body (n + 1) (p / 2)))
    rw [cdAt_more body n (p / 2) (by rw [Nat.pow_succ] at h; omega)]
theorem cd_child {p : Nat} (h : (Nat.ble 1 p && Nat.blt p placeMax) = true) (k : Bool) : cd body (2 * p + cond k 1 0) = child k (cd body p) := by
  rw [Bool.and_eq_true] at h
  have h1 : 1 ≤ p := Nat.le_of_ble_eq_true h.1
  have h2 : p < 2 ^ 250 := Nat.le_of_ble_eq_true h.2
  have h3 : p < 2 ^ 299 := Nat.lt_of_lt_of_le h2 (Nat.pow_le_pow_right (by omega) (by omega))
  have h4 := cdAt_more body 299 p h3
  show (bif Nat.ble (2 * p + cond k 1 0) 1 then body else child ((2 * p + cond k 1 0) % 2 == 1) (cdAt body 299 ((2 * p + cond k 1 0) / 2))) = child k (cdAt body 300 p)
  have h5 : Nat.ble (2 * p + cond k 1 0) 1 = false := by
    rw [← Bool.not_eq_true]; intro h; have := Nat.le_of_ble_eq_true h; omega
  have h6 : (2 * p + cond k 1 0) / 2 = p := by cases k <;> simp <;> omega
  have h7 : ((2 * p + cond k 1 0) % 2 == 1) = k := by cases k <;> simp <;> omega
  rw [h5, h6, h7, h4]; rfl
theorem cd_child0 {p : Nat} (h : (Nat.ble 1 p && Nat.blt p placeMax) = true) : cd body (2 * p) = child false (cd body p) := cd_child h false
theorem exitK_ok {id : Nat} : ∀ {k k' : List It}, exitK id k = some k' → exitTo id (k.map (It.item body)) = some (k'.map (It.item body))
  | [], _, h => by cases h
  | .c p :: k, k', h => exitK_ok (k := k) h
  | .l p :: k, k', h => exitK_ok (k := k) h
  | .b i :: k, k', h => by
    simp only [exitK] at h
    simp only [List.map_cons, It.item, exitTo]
    cases hi : (i == id) with
    | true => rw [hi] at h; cases h; rfl
    | false => rw [hi] at h; exact exitK_ok (k := k) h
theorem run1_sound {cf : Cf} {r : Rn} (hf : run1 P body cf hs = some r) (hob : allP r.obs) (hS : Sim Γ cf.σ a w) (hK : ∀ a' w', Sim Γ r.cf.σ a' w' → KW P body r.cf.k R a' w') : KW P body cf.k R a w := by
  intro b cs
  have go : ∀ a' w', Sim Γ r.cf.σ a' w' → Steps P (lone (b.at a (cf.k.map (It.item body))) cs w) (lone (b.at a' (r.cf.k.map (It.item body))) cs w') →
      ∃ e a' w', R e a' w' ∧ Arrives P (lone (b.at a (cf.k.map (It.item body))) cs w) b [] cs e a' w' := fun a' w' hS' hst => let ⟨e, a2, w2, hR, ha⟩ := hK a' w' hS' b cs; ⟨e, a2, w2, hR, .of_steps hst ha⟩
  unfold run1 at hf
  split at hf
  · cases hf
  · rename_i id k hk; cases hf; exact go a w hS (by rw [hk]; exact .one step_inBlock)
  · rename_i p k hk; cases hf; exact go a w hS (by rw [hk]; exact .one step_inLoop)
  · rename_i p k hk
    cases hp : (Nat.ble 1 p && Nat.blt p placeMax) with
    | false => rw [hp] at hf; cases hf
    | true =>
      rw [hp] at hf
      simp only [Bool.not_true, cond_false] at hf
      rw [hk] at go ⊢
      simp only [List.map_cons, It.item] at go ⊢
      have h0 := cd_child0 (body := body) hp
      have h1 := cd_child (body := body) hp true
      simp only [cond_true] at h1
      split at hf
      · rename_i hc; rw [hc] at go ⊢; cases hf; exact go a w hS (.one step_skip)
      · rename_i x y hc
        rw [hc] at go ⊢ h0 h1; cases hf
        simp only [List.map_cons, It.item, h0, h1, child, cond_true, cond_false] at go
        exact go a w hS (.one step_seq)
      · rename_i id x hc
        rw [hc] at go ⊢ h0; cases hf
        simp only [List.map_cons, It.item, h0, child] at go
        exact go a w hS (.one step_block)
      · rename_i x hc
        rw [hc] at go ⊢ h0; cases hf
        simp only [List.map_cons, It.item, h0, child] at go
        exact go a w hS (.one step_loop)
      · rename_i c x y hc
        split at hf
        · rename_i b1 t hs' hv
          rw [hc] at go ⊢ h0 h1; cases hf
          have hb : b1 = t := hob.1
          obtain ⟨hN, hdf, φ, M, hF, hW, hφ⟩ := hS
          have h2 := aev_ok hF c
          rw [hv] at h2
          have h3 := one_bool h2
          subst hb
          refine go a w ⟨hN, hdf, φ, M, hF, hW, hφ⟩ ?_
          have h4 := step_cond (P := P) (b := b) (k := k.map (It.item body)) (cs := cs) (w := w) (x := x) (y := y) h3
          cases b1 with
          | true => simp only [List.map_cons, It.item, cond_true, Nat.add_zero, h0, child, cond_false]; exact .one h4
          | false => simp only [List.map_cons, It.item, cond_false, h1, child, cond_true]; exact .one h4
        · cases hf
      · rename_i id hc
        rw [hc] at go ⊢
        cases hx : exitK id k with
        | none => rw [hx] at hf; cases hf
        | some k' =>
          rw [hx] at hf; cases hf
          exact go a w hS (.one (step_exit (exitK_ok hx)))
      · rename_i id ops draw hc
        rw [hc] at go ⊢
        have hw : ∀ s : St, (bif draw then drawRun P ops cf.σ hs else stepOps P ops ops.toList cf.σ hs) = some s → allP s.obs → (Code.region id ops draw).wp P (fun e a' w' => e = .normal ∧ Sim Γ s.σ a' w') a w := by
          intro s hs1 ho
          cases draw with
          | true => exact drawRun_sound hs1 ho hS fun a' w' h => ⟨rfl, h⟩
          | false => exact wp_region_list (stepOps_sound _ hs1 ho hS fun a' w' h => ⟨rfl, h⟩)
        cases hx : (bif draw then drawRun P ops cf.σ hs else stepOps P ops ops.toList cf.σ hs) with
        | none => rw [hx] at hf; cases hf
        | some s =>
          rw [hx] at hf; cases hf
          obtain ⟨e, a', w', ⟨rfl, hS'⟩, har⟩ := hw s hx hob b (k.map (It.item body)) cs
          exact go a' w' hS' har
      · cases hf
theorem runN'_sound : ∀ (n : Nat) {cf : Cf} {r : Rn} {hs : List Hint} {a : Act} {w : World}, runN' P body n cf hs = some r → allP r.obs → Sim Γ cf.σ a w → (∀ a' w', Sim Γ r.cf.σ a' w' → KW P body r.cf.k R a' w') → KW P body cf.k R a w
  | 0, cf, r, hs, a, w, hf, _, hS, hK => by cases hf; exact hK a w hS
  | n + 1, cf, r, hs, a, w, hf, hob, hS, hK => by
    simp only [runN'] at hf
    split at hf
    · rename_i σ0 o0 hs0 hg
      split at hf
      · rename_i r1 h1
        split at hf
        · rename_i r2 h2
          cases hf
          simp only [allP_append] at hob
          exact run1_sound (cf := ⟨cf.k, σ0⟩) h1 hob.1.2 (ghost_sim hg hob.1.1 hS) fun a' w' hS' => runN'_sound n h2 hob.2 hS' hK
        · cases hf
      · cases hf
    · cases hf
end
section
variable {P : Program} {Γ : Gam} {φ φ2 : Pl} {M : Nat → Prop} {w : World} {a : Act} {m : Nat → Option Nat}
def cutP (φ : Pl) (ids : List Nat) : Pl := fun i => match ids[i]? with
  | some j => φ j
  | none => none
theorem cutP_at {ids : List Nat} {i j : Nat} (h : ids[i]? = some j) : cutP φ ids i = φ j := by unfold cutP; rw [h]
theorem cutP_hm {ids : List Nat} : ∀ id k p, posOf ids 0 id = some k → φ id = some p → cutP φ ids k = some p := fun id k p h hp => (cutP_at (by simpa using (posOf_spec h).2)).trans hp
theorem look_cut {live : List Nat} {σ : SS} {f : AV → AV} (t : Nat) : look (live.map fun t => (t, f (look σ.L t))) t = f (look σ.L t) ∨ look (live.map fun t => (t, f (look σ.L t))) t = .unk := by
  induction live with
  | nil => exact .inr rfl
  | cons x r ih =>
    simp only [List.map_cons, look]
    cases h : (x == t) with
    | true =>
      have : x = t := by simpa using h
      subst this; exact .inl rfl
    | false => exact ih
theorem hl_cut {σ : SS} {ids : List Nat} {i : Nat} {ob' : Ob} (h : hl (ids.map fun i => (hl σ.H i).map (renOb m)) i = some ob') : ∃ j ob, ids[i]? = some j ∧ hl σ.H j = some ob ∧ ob' = renOb m ob := by
  unfold hl at h
  rw [List.getElem?_map] at h
  cases hj : ids[i]? with
  | none => rw [hj] at h; cases h
  | some j =>
    rw [hj] at h
    simp only [Option.map_some, Option.join_some] at h
    cases ho : (σ.H[j]?).join with
    | none => rw [ho] at h; cases h
    | some ob => rw [ho] at h; cases h; exact ⟨j, ob, rfl, ho, rfl⟩
theorem cut_wd {σ : SS} {ids pin : List Nat} (hn : noDup ids = true) (hp : pinOk pin ids = true) (hpin : ∀ p ∈ Γ.pins, p.1 ∈ pin) (hW : Wd Γ φ M (hl σ.H) w) :
    Wd Γ (cutP φ ids) M (hl (ids.map fun i => (hl σ.H i).map (renOb (posOf ids 0)))) w := by
  refine ⟨fun i ob' h => ?_, fun i j oi oj b Ci Cj h1 h2 h3 h4 => ?_, hW.mlt, hW.m0, hW.mold, fun i ob b C h1 h2 => ?_, hW.keep, hW.os, hW.tape, hW.output, hW.size, fun p hpp => ?_⟩
  · obtain ⟨j, ob, h1, h2, rfl⟩ := hl_cut h
    exact renOb_ok cutP_hm (cutP_at h1) (hW.obs j ob h2)
  · obtain ⟨i', ob1, g1, g2, -⟩ := hl_cut h1
    obtain ⟨j', ob2, g3, g4, -⟩ := hl_cut h2
    rw [cutP_at g1] at h3
    rw [cutP_at g3] at h4
    have := hW.inj i' j' ob1 ob2 b Ci Cj g2 g4 h3 h4
    subst this
    have hi := (List.getElem?_eq_some_iff.1 g1).1
    exact (List.getElem?_inj hi (noDup_spec hn)).1 (g1.trans g3.symm)
  · obtain ⟨i', ob1, g1, g2, -⟩ := hl_cut h1
    rw [cutP_at g1] at h2
    exact hW.own i' ob1 b C g2 h2
  · have h1 := hW.pin p hpp
    have h2 := List.all_eq_true.1 hp p.1 (hpin p hpp)
    cases hi : ids[p.1]? with
    | none => rw [hi] at h2; cases h2
    | some j =>
      rw [hi] at h2
      have : p.1 = j := by simpa using h2
      rw [cutP_at hi, ← this]; exact h1
theorem cutP_out {ids : List Nat} (f : Nat → Option Ob) : ∀ id, (ids.map f).length ≤ id → cutP φ ids id = none := fun id h => by
  unfold cutP
  rw [List.length_map] at h
  rw [List.getElem?_eq_none h]
theorem cut_sim {σ : SS} {live ids pin : List Nat} (hn : noDup ids = true) (hp : pinOk pin ids = true) (hpin : ∀ p ∈ Γ.pins, p.1 ∈ pin) (hS : Sim Γ σ a w) : Sim Γ (cut live ids σ) a w := by
  obtain ⟨hN, hdf, φ, M, hF, hW, hφ⟩ := hS
  refine ⟨hN, hdf, cutP φ ids, M, fun t => ?_, cut_wd hn hp hpin hW, cutP_out _⟩
  rcases look_cut (live := live) (σ := σ) (f := renAV (posOf ids 0)) t with h | h
  · show AR w M _ (look (live.map fun t => (t, renAV (posOf ids 0) (look σ.L t))) t) _
    rw [h]; exact renAV_ok cutP_hm (hF t)
  · show AR w M _ (look (live.map fun t => (t, renAV (posOf ids 0) (look σ.L t))) t) _
    rw [h]; trivial
/-! ### Results -/
def resF (tmps : Array Value) : ResultVar → Sem Value
  | .tmp t => pure (tmps.getD t undef)
  | .cell a t => do loadVar t (← asAddr (tmps.getD a undef))
theorem mapM_run {α : Type} {f : α → Sem Value} : ∀ {xs : List α} {vs : List Value}, Rs (fun x v => (f x).run P w = .ok v w) xs vs → (xs.mapM f).run P w = .ok vs w
  | [], [], _ => rfl
  | x :: xs, v :: vs, h => by
    rw [List.mapM_cons]
    simp only [Sem.run_bind, h.1, Result.andThen_ok, mapM_run h.2, Sem.run_pure]
  | [], _ :: _, h => h.elim
  | _ :: _, [], h => h.elim
theorem results_run {fn : Func} {tmps : Array Value} {vs : List Value} (h : Rs (fun x v => (resF tmps x).run P w = .ok v w) fn.results.toList vs) :
    (results fn tmps).run P w = .ok (if h : vs.toArray.size = 1 then vs.toArray[0] else .tuple vs.toArray) w := by
  have h1 := mapM_run h
  have h2 : (fn.results.mapM (resF tmps)).run P w = .ok vs.toArray w := by
    rw [Array.mapM_eq_mapM_toList]
    simp only [map_eq_pure_bind, Sem.run_bind, h1, Result.andThen_ok, Sem.run_pure]
  have h3 : results fn tmps = (do let vs ← fn.results.mapM (resF tmps); pure (if h : vs.size = 1 then vs[0] else .tuple vs)) := rfl
  rw [h3]
  simp only [Sem.run_bind, h2, Result.andThen_ok, Sem.run_pure]
theorem resC_ok {L : Nat → AV} {h : Nat → Option Ob} {x : ResultVar} {c : Cm} (hx : resC L h P x = some c) (hF : ∀ t, AR w M φ (L t) (a.tmps.getD t undef)) (hW : Wd Γ φ M h w) :
    ∃ v, (resF a.tmps x).run P w = .ok v w ∧ CR w M φ c v := by
  cases x with
  | tmp t =>
    simp only [resC] at hx
    split at hx
    · rename_i c0 hc
      cases hx
      have := hF t
      rw [hc] at this
      exact ⟨_, rfl, this⟩
    · cases hx
  | cell t ty =>
    simp only [resC] at hx
    split at hx
    · rename_i id sz row off n rw_ h1 h2 h3
      split at hx
      · rename_i ob hob
        split at hx
        · rename_i cells hbx hrows
          cases hc : (row == 0 && ob.sz == sz) with
          | false => rw [hc] at hx; cases hx
          | true =>
            rw [hc] at hx
            simp only [cond_true] at hx
            simp only [Bool.and_eq_true, beq_iff_eq] at hc
            have h4 := hF t
            rw [h1] at h4
            obtain ⟨b, C, hφ, hv⟩ := (h4 : LR0 w M φ (.op id sz row off) (a.tmps.getD t undef))
            have hO := hW.obs id ob hob
            obtain ⟨v, hl, hcr⟩ := partL_load (M := M) (φ := φ) (b := b) (k := row * sz) h2 h3 hx fun i l hl => by
              have := hO.cell' (i := 0) hφ (by rw [hrows]; rfl) i l hl
              rw [hc.1, Nat.zero_mul]; rwa [Nat.zero_mul] at this
            refine ⟨v, ?_, hcr⟩
            simp only [resF, hv, Sem.run_bind]
            simpa [asAddr] using hl
        · cases hx
      · cases hx
    · cases hx
theorem resCs_ok {L : Nat → AV} {h : Nat → Option Ob} (hF : ∀ t, AR w M φ (L t) (a.tmps.getD t undef)) (hW : Wd Γ φ M h w) : ∀ {xs : List ResultVar} {cs : List Cm}, resCs L h P xs = some cs →
    ∃ vs, Rs (fun x v => (resF a.tmps x).run P w = .ok v w) xs vs ∧ Rs (CR w M φ) cs vs
  | [], cs, hx => by cases hx; exact ⟨[], trivial, trivial⟩
  | x :: xs, cs, hx => by
    simp only [resCs] at hx
    split at hx
    · rename_i c cs' h1 h2
      cases hx
      obtain ⟨v, g1, g2⟩ := resC_ok h1 hF hW
      obtain ⟨vs, g3, g4⟩ := resCs_ok hF hW h2
      exact ⟨v :: vs, ⟨g1, g3⟩, g2, g4⟩
    · cases hx
theorem resAV_ok : ∀ {cs : List Cm} {vs : List Value}, Rs (CR w M φ) cs vs → AR w M φ (resAV cs) (if h : vs.toArray.size = 1 then vs.toArray[0] else .tuple vs.toArray)
  | [], [], _ => ⟨[], rfl, trivial⟩
  | [c], [v], h => h.1
  | c :: d :: cs, v :: u :: vs, h => by
    rw [dif_neg (by simp)]
    exact ⟨_, rfl, h⟩
  | [], _ :: _, h => h.elim
  | _ :: _, [], h => h.elim
  | [_], _ :: _ :: _, h => h.2.elim
  | _ :: _ :: _, [_], h => h.2.elim
end
/-! ### The rules -/
section
variable {P : Program} {fn : Func} {pin : List Nat} {Γ : Gam} {r : AV} {H1 : List (Option Ob)}
theorem go_run (n : Nat) (live ids : List Nat) (hs : List Hint) {cf cf' : Cf} {ob : Prop} (h : runC P (codeOf fn) n live ids cf hs = some (cf', ob)) (hp : pinOk pin ids = true) (hob : ob)
    (hg : Go P fn pin Γ r H1 cf') : Go P fn pin Γ r H1 cf := by
  intro hpin a w hS
  unfold runC at h
  split at h
  · rename_i rn hr
    split at h
    · rename_i σ o hgh
      cases hn : noDup ids with
      | false => rw [hn] at h; cases h
      | true =>
        rw [hn] at h; cases h
        rw [allP_append] at hob
        exact runN'_sound n hr hob.1 hS fun a' w' hS' => hg hpin a' w' (cut_sim hn hp hpin (ghost_sim hgh hob.2 hS'))
    · cases h
  · cases h
theorem go_ret (n : Nat) (ids : List Nat) (hs : List Hint) {cf : Cf} {ob : Prop} (h : retC P fn n ids cf hs = some (r, H1, ob)) (hp : pinOk pin ids = true) (hob : ob) : Go P fn pin Γ r H1 cf := by
  intro hpin a w hS
  unfold retC at h
  split at h
  · rename_i rn hr
    cases hk : atRet (codeOf fn) rn.cf.k with
    | false => rw [hk] at h; cases h
    | true =>
      rw [hk] at h
      simp only [cond_true] at h
      split at h
      · rename_i σ o hgh
        split at h
        · rename_i cs hcs
          cases hn : noDup ids with
          | false => rw [hn] at h; cases h
          | true =>
            rw [hn] at h; cases h
            rw [allP_append] at hob
            refine runN'_sound n hr hob.1 hS fun a' w' hS' => ?_
            obtain ⟨hN, hdf, φ, M, hF, hW, hφ⟩ := ghost_sim hgh hob.2 hS'
            have hRR : ∀ e, (e = Exit.ret ∨ e = .normal) → RR P fn Γ (renAV (posOf ids 0) (resAV cs)) (ids.map fun i => (hl σ.H i).map (renOb (posOf ids 0))) e a' w' := by
              intro e he
              obtain ⟨vs, h1, h2⟩ := resCs_ok hF hW hcs
              exact ⟨he, hdf, _, cutP φ ids, M, results_run h1, renAV_ok cutP_hm (resAV_ok h2), cut_wd hn hp hpin hW, cutP_out _⟩
            intro b cs'
            unfold atRet at hk
            split at hk
            · rename_i hk0
              rw [hk0]
              exact ⟨.normal, a', w', hRR _ (.inr rfl), .refl _ _⟩
            · rename_i p k hk0
              unfold isRet at hk
              split at hk
              · rename_i hc
                rw [hk0]
                refine ⟨.ret, a', w', hRR _ (.inl rfl), .code .ret :: k.map (It.item (codeOf fn)), ?_⟩
                simp only [List.map_cons, It.item, hc]
                exact .one step_ret
              · cases hk
            · cases hk
        · cases h
      · cases h
  · cases h
/-! The same under short names, for the printed texts. -/
theorem gn (n : Nat) (live ids : List Nat) (hs : List Hint) {cf cf' : Cf} {ob : Prop} (hob : ob) (hg : Go P fn pin Γ r H1 cf') (h : runC P (codeOf fn) n live ids cf hs = some (cf', ob) := by kernel_rfl) (hp : pinOk pin ids = true := by kernel_rfl) : Go P fn pin Γ r H1 cf :=
  go_run n live ids hs h hp hob hg
theorem gr (n : Nat) (ids : List Nat) (hs : List Hint) {cf : Cf} {ob : Prop} (hob : ob) (h : retC P fn n ids cf hs = some (r, H1, ob) := by kernel_rfl) (hp : pinOk pin ids = true := by kernel_rfl) : Go P fn pin Γ r H1 cf := go_ret n ids hs h hp hob
theorem A1 {a b : Prop} (h : a) (k : b) : a ∧ b := ⟨h, k⟩
theorem T1 : True := trivial
/-! Short words of the printed texts. -/
def bT : Hint := .bit true
def bF : Hint := .bit false
def kS : Hint := .skip
def kP : Hint := .spec
theorem rT : true = true := rfl
theorem rF : false = false := rfl
theorem fZ : False → False := id
theorem eL {α β : Type} (l : List α) (f : α → β) : (l.map f).length = (l.map f).length := rfl
theorem oJ {α : Type} {a b : α} (h : some a = some b) : b = a := (Option.some.inj h).symm
theorem A2 {a b q : Prop} (h : a) (h1 : b) (k : q) : a ∧ b ∧ q := ⟨h, h1, k⟩
theorem A4 {a b c d q : Prop} (h : a) (h1 : b) (h2 : c) (h3 : d) (k : q) : a ∧ b ∧ c ∧ d ∧ q := ⟨h, h1, h2, h3, k⟩
theorem A8 {a b c d e f g i q : Prop} (h : a) (h1 : b) (h2 : c) (h3 : d) (h4 : e) (h5 : f) (h6 : g) (h7 : i) (k : q) : a ∧ b ∧ c ∧ d ∧ e ∧ f ∧ g ∧ i ∧ q := ⟨h, h1, h2, h3, h4, h5, h6, h7, k⟩
/-- A boolean that may be this or that. -/
theorem go_amb (t : Nat) {cf : Cf} (h : (match look cf.σ.L t with
    | .boo => true
    | _ => false) = true) (h1 : Go P fn pin Γ r H1 ⟨cf.k, ⟨cf.σ.N, (t, one (.bool true)) :: cf.σ.L, cf.σ.H⟩⟩) (h2 : Go P fn pin Γ r H1 ⟨cf.k, ⟨cf.σ.N, (t, one (.bool false)) :: cf.σ.L, cf.σ.H⟩⟩) : Go P fn pin Γ r H1 cf := by
  intro hpin a w hS
  obtain ⟨hN, hdf, φ, M, hF, hW, hφ⟩ := hS
  have ht := hF t
  split at h
  · rename_i he
    rw [he] at ht
    obtain ⟨b, hb⟩ := ht
    have key : Sim Γ ⟨cf.σ.N, (t, one (.bool b)) :: cf.σ.L, cf.σ.H⟩ a w := ⟨hN, hdf, φ, M, look_cons hF (by rw [hb]; exact IR.bool b), hW, hφ⟩
    cases b
    · exact h2 hpin a w key
    · exact h1 hpin a w key
  · cases h
theorem look_args : ∀ {args : List Cm} {i t : Nat}, look (argSlots i args) t = (if i ≤ t then (match args[t - i]? with
    | some c => .cm c
    | none => .unk) else .unk)
  | [], i, t => by simp [argSlots, look]
  | c :: r, i, t => by
    simp only [argSlots, look]
    by_cases h : i = t
    · subst h; simp
    · have : (i == t) = false := by simpa using h
      rw [this, cond_false, look_args]
      by_cases h1 : i ≤ t
      · rw [if_pos h1, if_pos (by omega), show t - i = (t - (i + 1)) + 1 by omega]; simp
      · rw [if_neg h1, if_neg (by omega)]
theorem pins_in {φ : Pl} : ∀ {H0 : List Ob} {i : Nat} {p : Nat × Nat}, p ∈ pinsOf φ i H0 → p.1 ∈ boxIds i H0
  | [], _, _, h => by cases h
  | o :: r, i, p, h => by
    simp only [pinsOf, List.mem_append] at h
    simp only [boxIds, List.mem_append]
    rcases h with h | h
    · left
      split at h
      · rename_i b C hb hφ
        rw [hb]
        simp only [List.mem_singleton] at h
        subst h; simp
      · cases h
    · right; exact pins_in h
theorem afn_of {f : FuncId} {args : List Cm} {H0 : List Ob} (hf : P.funcs[f]? = some fn) (hb : fn.body.isSome = true) (hn : (Nat.ble args.length fn.ntmps && !(fn.name == "runtime.NumGoroutine")) = true)
    (h : ∀ Γ, Go P fn (boxIds 0 H0) Γ r H1 ⟨[.c 1], ⟨fn.ntmps, argSlots 0 args, H0.map some⟩⟩) : AFn P f args H0 r H1 := by
  rw [Bool.and_eq_true] at hn
  refine ⟨by unfold callOk; rw [hf]; simp only [hn.2, hb, Bool.and_self], fun w φ M0 vals hW hφ hA cs => ?_⟩
  have hlen := hA.len
  have hle : args.length ≤ fn.ntmps := Nat.le_of_ble_eq_true hn.1
  obtain ⟨c, hc⟩ := Option.isSome_iff_exists.1 hb
  have hcd : codeOf fn = c := by unfold codeOf; rw [hc]; rfl
  let b : Frame := { (default : Frame) with fn := f, kind := .normal }
  have henter : Frame.enter P f vals.toArray .normal =
      b.at { tmps := vals.toArray ++ Array.replicate (fn.ntmps - vals.toArray.size) undef, defers := [] } [.code c] := by
    simp [Frame.enter, Frame.at, hf, hc, b]
  obtain ⟨e, a', w', ⟨he, hd, v, φ', M', hr, hv, hW', hφ'⟩, harr⟩ := h ⟨w, fun b => ∃ id C, id < H0.length ∧ φ id = some (some (b, C)), M0, pinsOf φ 0 H0⟩ (fun p hp => pins_in hp)
    { tmps := vals.toArray ++ Array.replicate (fn.ntmps - vals.toArray.size) undef, defers := [] } w
    ⟨by simp; omega, rfl, φ, M0, fun t => by
      show AR w M0 φ (look (argSlots 0 args) t) _
      rw [look_args, if_pos (Nat.zero_le _), Nat.sub_zero]
      cases ha : args[t]? with
      | none => trivial
      | some c =>
        obtain ⟨v, h1, h2⟩ := hA.get ha
        have hlt : t < vals.length := (List.getElem?_eq_some_iff.1 h1).1
        have : (vals.toArray ++ Array.replicate (fn.ntmps - vals.toArray.size) undef).getD t undef = v := by
          rw [Array.getD_eq_getD_getElem?, Array.getElem?_append_left (by simpa using hlt)]
          simp [h1]
        show CR w M0 φ c ((vals.toArray ++ Array.replicate (fn.ntmps - vals.toArray.size) undef).getD t undef)
        rw [this]; exact h2, by
      have : hl (H0.map some) = fun id => H0[id]? := by
        funext id; unfold hl; rw [List.getElem?_map]; cases H0[id]? <;> rfl
      show Wd _ φ M0 (hl (H0.map some)) w
      rw [this]; exact hW, fun id hid => hφ id (by simpa using hid)⟩ b cs
  have hitem : ([It.c 1].map (It.item (codeOf fn))) = [.code c] := by rw [hcd]; rfl
  rw [hitem, ← henter] at harr
  rcases he with rfl | rfl
  · obtain ⟨todo, hs⟩ := harr
    exact ⟨.returned v, w', _, ⟨v, φ', M', rfl, hv, hW', hφ'⟩, hs, rfl, rfl, hd, rfl, fn, hf, hr⟩
  · exact ⟨.returned v, w', _, ⟨v, φ', M', rfl, hv, hW', hφ'⟩, Steps.trans harr (.one step_end), rfl, rfl, hd, rfl, fn, hf, hr⟩
end
end Go.Proofs.YtjhhlmmmkgnhmaaDoor
