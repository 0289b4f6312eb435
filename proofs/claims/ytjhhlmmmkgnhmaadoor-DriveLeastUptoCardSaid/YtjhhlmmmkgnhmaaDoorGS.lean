/- The abstract machine is sound, part 13: regions. No program in sight. -/
import Derived.Test.YtjhhlmmmkgnhmaaDoorGR
namespace Go.Proofs.YtjhhlmmmkgnhmaaDoor
set_option linter.unusedSimpArgs false
set_option linter.unusedVariables false
set_option linter.unusedSectionVars false
open Go.RowKit
section
variable {P : Program} {Γ : Gam} {φ φ' : Pl} {M M' : Nat → Prop} {w w' : World} {a : Act} {hs : List Hint} {o : Oper} {ops : Array Oper} {Q : Exit → Act → World → Prop}
theorem put_size (a : Act) (d : Option Nat) (v : Value) : (a.put d v).tmps.size = a.tmps.size := by
  cases d <;> simp [Act.put]
theorem put_defers (a : Act) (d : Option Nat) (v : Value) : (a.put d v).defers = a.defers := by
  cases d <;> rfl
theorem put_get {d t : Nat} {v : Value} (hd : d < a.tmps.size) : (a.put (some d) v).tmps.getD t undef = if d = t then v else a.tmps.getD t undef := by
  simp only [Act.put, Array.getD_eq_getD_getElem?, Array.getElem?_setIfInBounds]
  by_cases h : d = t
  · subst h; rw [if_pos rfl, if_pos rfl, if_pos hd]; rfl
  · rw [if_neg h, if_neg h]
theorem putD_ok {N : Nat} {d : Option Nat} {L : List (Nat × AV)} {v : AV} {cv : Value} (hd : dstOk N d = true) (hN : a.tmps.size = N) (hF : ∀ t, AR w M φ (look L t) (a.tmps.getD t undef)) (hv : AR w M φ v cv) :
    ∀ t, AR w M φ (look (putD d v L) t) ((a.put d cv).tmps.getD t undef) := fun t => by
  cases d with
  | none => exact hF t
  | some d =>
    have hlt : d < a.tmps.size := by rw [hN]; have := Nat.le_of_ble_eq_true hd; omega
    rw [put_get hlt]
    simp only [putD, look]
    by_cases h : d = t
    · subst h; rw [if_pos rfl]; simp; exact hv
    · rw [if_neg h]
      have : (d == t) = false := by simpa using h
      rw [this]; exact hF t
theorem hl_news {H : List (Option Ob)} {news : List Ob} : hl (H ++ news.map some) = plc (hl H) H.length news := by
  funext id
  unfold plc hl
  by_cases h : H.length ≤ id ∧ id < H.length + news.length
  · rw [if_pos h, List.getElem?_append_right h.1, List.getElem?_map]
    cases news[id - H.length]? <;> rfl
  · rw [if_neg h]
    rcases Nat.lt_or_ge id H.length with h1 | h1
    · rw [List.getElem?_append_left h1]
    · rw [List.getElem?_eq_none (by simp; omega), List.getElem?_eq_none h1]
theorem fresh_hl {H : List (Option Ob)} {id : Nat} (h : H.length ≤ id) : hl H id = none := by
  unfold hl; rw [List.getElem?_eq_none h]; rfl
theorem stepDo_sound {σ : SS} {s : St} (hd : dstOk σ.N o.dst = true) (hf : stepDo P o σ hs = some s) (hob : allP s.obs) (hS : Sim Γ σ a w) {K : Act → World → Prop} (hK : ∀ a' w', Sim Γ s.σ a' w' → K a' w') : o.wp P a w K NQ := by
  obtain ⟨hN, hdf, φ, M, hF, hW, hφ⟩ := hS
  unfold stepDo at hf
  split at hf
  · rename_i r hr
    cases hf
    refine dop_sound hr hob hF hW (fun _ _ h => h) (fun id h1 h2 => ⟨hφ id h1, fresh_hl h1⟩) fun v w' φ' M' hv hW' he hn => hK _ _ ⟨by rw [put_size]; exact hN, by rw [put_defers]; exact hdf, φ', M', ?_, ?_, ?_⟩
    · exact putD_ok hd hN (fun t => AR.mono he (hF t)) hv
    · rw [hl_news]; exact hW'
    · intro id hid
      simp only [List.length_append, List.length_map] at hid
      refine Classical.byContradiction fun h => ?_
      rcases hn id h with h1 | h1
      · exact h1 (hφ id (by omega))
      · omega
  · split at hf
    · rename_i r hr
      cases hf
      refine mop_sound hW hF hφ hr hob fun v w' hm => ?_
      obtain ⟨φ', hv, hW', he, hφ'⟩ := hm
      exact hK _ _ ⟨by rw [put_size]; exact hN, by rw [put_defers]; exact hdf, φ', M, putD_ok hd hN (fun t => AR.mono he (hF t)) hv, hW', hφ'⟩
    · cases hf
/-- What a guard's operation has yielded. -/
theorem yielded_bool {L : Nat → AV} {j : Nat} {b : Bool} (hF : ∀ t, AR w M φ (L t) (a.tmps.getD t undef)) {v : AV} (hg : ((ops[j]?).bind (·.dst)).map L = some v) (hv : ∀ cv, AR w M φ v cv → cv = .bool b) : yielded ops a.tmps j = some b := by
  unfold yielded
  cases hd : (ops[j]?).bind (·.dst) with
  | none => rw [hd] at hg; cases hg
  | some t =>
    rw [hd] at hg
    have h1 : L t = v := by simpa using hg
    have h2 := hF t
    rw [h1] at h2
    have h3 := hv _ h2
    rw [Array.getD_eq_getD_getElem?] at h3
    simp only [Option.bind_some]
    cases ht : a.tmps[t]? with
    | none => rw [ht] at h3; cases h3
    | some u => rw [ht] at h3; simp at h3; subst h3; rfl
theorem yielded_undef {L : Nat → AV} {j : Nat} (hF : ∀ t, AR w M φ (L t) (a.tmps.getD t undef)) {v : AV} (hg : ((ops[j]?).bind (·.dst)).map L = some v) (hv : ∀ cv, AR w M φ v cv → cv = undef) : yielded ops a.tmps j = none := by
  unfold yielded
  cases hd : (ops[j]?).bind (·.dst) with
  | none => rfl
  | some t =>
    rw [hd] at hg
    have h1 : L t = v := by simpa using hg
    have h2 := hF t
    rw [h1] at h2
    have h3 := hv _ h2
    rw [Array.getD_eq_getD_getElem?] at h3
    simp only [Option.bind_some]
    cases ht : a.tmps[t]? with
    | none => rfl
    | some u => rw [ht] at h3; simp at h3; subst h3; rfl
theorem one_bool {b : Bool} {cv : Value} (h : AR w M φ (.cm (.one (.bool b))) cv) : cv = .bool b := by
  have h' : IR w M (.bool b) cv := h
  cases h'; rfl
theorem spec_sound {σ : SS} {p : Prop} [Decidable p] {r : Res} {v : AV} (hd : dstOk σ.N o.dst = true) (hw : Region.wanted o (yielded ops a.tmps) = decide p) (hN : a.tmps.size = σ.N) (hdf : a.defers = []) (hF : ∀ t, AR w M φ (look σ.L t) (a.tmps.getD t undef)) (hW : Wd Γ φ M (hl σ.H) w) (hφ : ∀ id, σ.H.length ≤ id → φ id = none)
    (hf : fop P (hl σ.H) σ.H.length p (look σ.L) o.op hs = some r) (hne : r.news.isEmpty = true) (hv : gdv p r.v = some v) (hob : allP r.obs) {K : Act → World → Prop} (hK : ∀ a' w', Sim Γ ⟨σ.N, putD o.dst v σ.L, σ.H⟩ a' w' → K a' w') :
    (if Region.wanted o (yielded ops a.tmps) = true then o.wp P a w K NQ else K (a.put o.dst undef) w) := by
  rw [hw]
  have hgv : ∃ c, r.v = .cm c ∧ v = .gd p c := by
    unfold gdv at hv
    split at hv
    · rename_i c hc; cases hv; exact ⟨c, hc, rfl⟩
    · cases hv
  obtain ⟨c, hc, rfl⟩ := hgv
  have hnil : r.news = [] := by simpa using hne
  by_cases hp : p
  · rw [if_pos (by simpa using hp)]
    obtain ⟨v, w', φ', hrun, hr, hW', hpl, hn, hb⟩ := fop_sound (φ := φ) (M := M) (hD := hl σ.H) hf hob hp hF hW (fun _ _ h => h) (fun id h1 h2 => ⟨hφ id h1, fresh_hl h1⟩)
    unfold Oper.wp
    rw [hrun]
    have he : Ex w M φ w' M φ' := ⟨hb, fun _ h => h, hpl⟩
    rw [hc] at hr
    rw [hnil, plc_nil] at hW'
    refine hK _ _ ⟨by rw [put_size]; exact hN, by rw [put_defers]; exact hdf, φ', M, putD_ok hd hN (fun t => AR.mono he (hF t)) ⟨fun _ => hr, fun h => absurd hp h⟩, hW', fun id hid => ?_⟩
    refine Classical.byContradiction fun h => ?_
    rcases hn id h with h1 | h1
    · exact h1 (hφ id hid)
    · rw [hnil] at h1; simp at h1; omega
  · rw [if_neg (by simpa using hp)]
    exact hK _ _ ⟨by rw [put_size]; exact hN, by rw [put_defers]; exact hdf, φ, M, putD_ok hd hN hF ⟨fun h => absurd h hp, fun _ => rfl⟩, hW, hφ⟩
theorem skip_sound {σ : SS} (hd : dstOk σ.N o.dst = true) (hS : Sim Γ σ a w) : Sim Γ ⟨σ.N, putD o.dst und σ.L, σ.H⟩ (a.put o.dst undef) w := by
  obtain ⟨hN, hdf, φ, M, hF, hW, hφ⟩ := hS
  exact ⟨by rw [put_size]; exact hN, by rw [put_defers]; exact hdf, φ, M, putD_ok hd hN hF ⟨False.elim, fun _ => rfl⟩, hW, hφ⟩
theorem stepOp_sound {σ : SS} {s : St} (hf : stepOp P ops o σ hs = some s) (hob : allP s.obs) (hS : Sim Γ σ a w) {K : Act → World → Prop} (hK : ∀ a' w', Sim Γ s.σ a' w' → K a' w') :
    (if Region.wanted o (yielded ops a.tmps) = true then o.wp P a w K NQ else K (a.put o.dst undef) w) := by
  unfold stepOp at hf
  cases hd : dstOk σ.N o.dst with
  | false => rw [hd] at hf; cases hf
  | true =>
    rw [hd] at hf
    simp only [Bool.not_true, cond_false] at hf
    have hS0 := hS
    obtain ⟨hN, hdf, φ, M, hF, hW, hφ⟩ := hS
    split at hf
    · rename_i hg
      have hw : Region.wanted o (yielded ops a.tmps) = true := by unfold Region.wanted; rw [hg]
      rw [if_pos hw]
      exact stepDo_sound hd hf hob hS0 hK
    · rename_i j want hg
      have hwt : Region.wanted o (yielded ops a.tmps) = (yielded ops a.tmps j == some want) := by unfold Region.wanted; rw [hg]
      split at hf
      · rename_i b t hs' hv
        have hy : yielded ops a.tmps j = some b := yielded_bool hF hv fun cv h => one_bool h
        cases htw : (t == want) with
        | true =>
          rw [htw] at hf
          simp only [cond_true] at hf
          cases hdo : stepDo P o σ hs' with
          | none => rw [hdo] at hf; cases hf
          | some s0 =>
            rw [hdo] at hf; cases hf
            obtain ⟨hbt, ho⟩ := hob
            rw [hwt, hy, hbt, if_pos (by simpa using htw)]
            exact stepDo_sound hd hdo ho hS0 hK
        | false =>
          rw [htw] at hf; cases hf
          obtain ⟨hbt, -⟩ := hob
          rw [hwt, hy, hbt, if_neg (by simpa using htw)]
          exact hK _ _ (skip_sound hd hS0)
      · rename_i p b t hs' hv
        cases htw : (t == want) with
        | true =>
          rw [htw] at hf
          simp only [cond_true] at hf
          cases hdo : stepDo P o σ hs' with
          | none => rw [hdo] at hf; cases hf
          | some s0 =>
            rw [hdo] at hf; cases hf
            obtain ⟨⟨hp, hbt⟩, ho⟩ := hob
            have hy : yielded ops a.tmps j = some b := yielded_bool (w := w) (φ := φ) (M := M) hF hv fun cv h => one_bool (w := w) (φ := φ) (M := M) (h.1 hp)
            rw [hwt, hy, hbt, if_pos (by simpa using htw)]
            exact stepDo_sound hd hdo ho hS0 hK
        | false =>
          rw [htw] at hf; cases hf
          obtain ⟨⟨hp, hbt⟩, -⟩ := hob
          have hy : yielded ops a.tmps j = some b := yielded_bool (w := w) (φ := φ) (M := M) hF hv fun cv h => one_bool (w := w) (φ := φ) (M := M) (h.1 hp)
          rw [hwt, hy, hbt, if_neg (by simpa using htw)]
          exact hK _ _ (skip_sound hd hS0)
      · rename_i p b hs' hv
        cases hf
        have hy : yielded ops a.tmps j = none := yielded_undef (φ := φ) (M := M) hF hv fun cv h => h.2 hob.1
        rw [hwt, hy, if_neg (by simp)]
        exact hK _ _ (skip_sound hd hS0)
      · rename_i b hs' hv
        have hy : yielded ops a.tmps j = some b := yielded_bool hF hv fun cv h => one_bool h
        split at hf
        · rename_i r hr
          cases hne : r.news.isEmpty with
          | false => rw [hne] at hf; cases hf
          | true =>
            rw [hne] at hf
            simp only [cond_true] at hf
            cases hgv : gdv (b = want) r.v with
            | none => rw [hgv] at hf; cases hf
            | some v =>
              rw [hgv] at hf; cases hf
              exact spec_sound (p := b = want) hd (by rw [hwt, hy]; cases b <;> cases want <;> rfl) hN hdf hF hW hφ hr hne hgv hob hK
        · cases hf
      · rename_i p b hs' hv
        split at hf
        · rename_i r hr
          cases hne : r.news.isEmpty with
          | false => rw [hne] at hf; cases hf
          | true =>
            rw [hne] at hf
            simp only [cond_true] at hf
            cases hgv : gdv (p ∧ b = want) r.v with
            | none => rw [hgv] at hf; cases hf
            | some v =>
              rw [hgv] at hf; cases hf
              haveI : Decidable (p ∧ b = want) := Classical.propDecidable _
              refine spec_sound (p := p ∧ b = want) hd ?_ hN hdf hF hW hφ hr hne hgv hob hK
              rw [hwt]
              by_cases hp : p
              · have hy : yielded ops a.tmps j = some b := yielded_bool (w := w) (φ := φ) (M := M) hF hv fun cv h => one_bool (w := w) (φ := φ) (M := M) (h.1 hp)
                rw [hy]
                by_cases hb : b = want
                · simp [hp, hb]
                · simp [hp, hb]
              · have hy : yielded ops a.tmps j = none := yielded_undef (φ := φ) (M := M) hF hv fun cv h => h.2 hp
                rw [hy]
                simp [hp]
        · cases hf
      · cases hf
theorem ghost_sim {σ σ' : SS} {ob : List Prop} {hs' : List Hint} (hg : ghost hs σ = some (σ', ob, hs')) (ho : allP ob) (hS : Sim Γ σ a w) : Sim Γ σ' a w := by
  obtain ⟨hN, hdf, φ, M, hC⟩ := hS
  obtain ⟨h1, φ', M', h2⟩ := ghost_sound hg ho hC
  exact ⟨by rw [h1]; exact hN, hdf, φ', M', h2⟩
theorem stepOps_sound : ∀ (l : List Oper) {σ : SS} {hs : List Hint} {s : St} {a : Act} {w : World}, stepOps P ops l σ hs = some s → allP s.obs → Sim Γ σ a w → (∀ a' w', Sim Γ s.σ a' w' → Q .normal a' w') → wpList P ops Q l a w
  | [], σ, hs, s, a, w, hf, _, hS, hQ => by cases hf; exact hQ a w hS
  | o :: l, σ, hs, s, a, w, hf, hob, hS, hQ => by
    simp only [stepOps] at hf
    split at hf
    · rename_i σ0 o0 hs0 hg
      split at hf
      · rename_i s1 h1
        split at hf
        · rename_i s2 h2
          cases hf
          simp only [allP_append] at hob
          have hS0 := ghost_sim hg hob.1.1 hS
          have h3 := stepOp_sound (K := wpList P ops Q l) h1 hob.1.2 hS0 fun a' w' hS' => stepOps_sound l h2 hob.2 hS' hQ
          simp only [wpList]
          split
          · rename_i hw; rw [if_pos hw] at h3; exact .inl (wp_nq (fun _ _ h => h) h3)
          · rename_i hw; rw [if_neg hw] at h3; exact h3
        · cases hf
      · cases hf
    · cases hf
end
end Go.Proofs.YtjhhlmmmkgnhmaaDoor
