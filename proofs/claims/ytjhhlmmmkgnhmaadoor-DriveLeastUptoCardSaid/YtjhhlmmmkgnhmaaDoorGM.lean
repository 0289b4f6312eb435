/- The abstract machine is sound, part 8: any operation that writes to nothing that was there; calls that only read. No program in sight. -/
import Derived.Test.YtjhhlmmmkgnhmaaDoorGL
namespace Go.Proofs.YtjhhlmmmkgnhmaaDoor
set_option linter.unusedSimpArgs false
set_option linter.unusedVariables false
set_option linter.unusedSectionVars false
open Go.RowKit
section
variable {P : Program} {Γ : Gam} {φ : Pl} {M : Nat → Prop} {hD h : Nat → Option Ob} {w : World} {base : Nat} {L : Nat → AV} {a : Act} {g : Prop} {hs : List Hint} {r : Res} {o : Oper}
theorem run_builtin {c : Call} {b : Builtin} (ho : o.op = .call c) (hc : c.callee = .builtin b) : ∃ cn, (execOp a.eval o).run P w = (builtin b c.argTypes o.type cn (c.args.map a.eval)).run P w := by
  refine ⟨c.args.map fun | .const _ => true | _ => false, ?_⟩
  simp only [execOp, ho, resolve, hc, Sem.run_bind, Sem.run_pure, Result.andThen_ok, invoke]
  rfl
theorem Rs.args2 {c1 c2 : Cm} {vs : List Value} (h : Rs (CR w M φ) [c1, c2] vs) : ∃ v1 v2, vs = [v1, v2] ∧ CR w M φ c1 v1 ∧ CR w M φ c2 v2 := by
  match vs, h with
  | [v1, v2], h => exact ⟨v1, v2, rfl, h.1, h.2.1⟩
theorem Rs.args1 {c1 : Cm} {vs : List Value} (h : Rs (CR w M φ) [c1] vs) : ∃ v1, vs = [v1] ∧ CR w M φ c1 v1 := by
  match vs, h with
  | [v1], h => exact ⟨v1, rfl, h.1⟩
theorem sound_builtin (hob : allP r.obs) (hg : g) (hF : ∀ t, AR w M φ (L t) (a.tmps.getD t undef)) (hW : Wd Γ φ M hD w) (hsub : ∀ id ob, h id = some ob → hD id = some ob) {c : Call} {b : Builtin} (ho : o.op = .call c) (hc : c.callee = .builtin b) (hf : fop P h base g L o.op hs = some r)
    (hfr : ∀ id, base ≤ id → id < base + r.news.length → φ id = none ∧ hD id = none) : Yd P Γ φ M hD w base r ((execOp a.eval o).run P w) := by
  rw [ho] at hf
  simp only [fop, hc] at hf
  split at hf
  · rename_i args o1 h1
    cases hb : fopBuiltin P h base b args c.argTypes.toList hs with
    | none => rw [hb] at hf; cases hf
    | some r0 =>
      rw [hb] at hf; cases hf
      simp only [allP_append] at hob
      have hA := argsG_ok hF hg h1 hob.1
      have hargs : c.args.map a.eval = (c.args.toList.map a.eval).toArray := by apply Array.ext'; simp
      have htys : c.argTypes = c.argTypes.toList.toArray := by simp
      obtain ⟨cn, hrun⟩ := run_builtin (P := P) (w := w) (a := a) ho hc
      rw [hargs, htys] at hrun
      generalize hvs : c.args.toList.map a.eval = vs at hA hrun
      generalize htt : c.argTypes.toList = tys at hb hrun
      have key : ∀ r1 : Res, r1 = r0 → Yd P Γ φ M hD w base r0 ((execOp a.eval o).run P w) → Yd P Γ φ M hD w base ⟨r0.v, r0.news, o1 ++ r0.obs, r0.hs⟩ ((execOp a.eval o).run P w) := fun _ _ h => h
      refine key r0 rfl ?_
      by_cases hap : b = .append
      · subst hap
        have hb' := hb
        unfold fopBuiltin at hb'
        split at hb'
        all_goals first | (rename_i hq; cases hq; done) | skip
        · rename_i d x t t' _
          obtain ⟨vd, vx, rfl, hd, hx⟩ := hA.args2
          refine sound_append_new (h := h) (tys := [t']) (ty := o.type) hg hW hsub hb hob.2 hd hx (fun v w' hr => ?_) hfr
          rw [hrun]
          simp only [builtin, Sem.run_bind]
          have hr' : (Builtin.append_ #[t, t'] o.type #[vd, vx]).run P w = .ok v w' := hr
          rw [show [t, t'].toArray = #[t, t'] from rfl, show [vd, vx].toArray = #[vd, vx] from rfl, hr']
          rfl
        · cases hb'
      · unfold fopBuiltin at hb
        split at hb
        · rename_i l t
          obtain ⟨v, rfl, hl⟩ := hA.args1
          have fin : ∀ n : Int, (Builtin.len_ #[t] o.type #[v]).run P w = .ok (.int .i64 n) w → r0.v = one (.int .i64 n) → r0.news = [] → Yd P Γ φ M hD w base r0 ((execOp a.eval o).run P w) := fun n h1 h2 h3 => by
            refine Yd.val (v := .int .i64 n) ?_ h3 (by rw [h2]; exact IR.int _ _) hW
            rw [hrun]
            simp only [builtin, Sem.run_bind]
            rw [show [t].toArray = #[t] from rfl, show [v].toArray = #[v] from rfl, h1]
            rfl
          split at hb
          · rename_i s hu; cases hb
            have hl' : IR w M (.str s) v := hl
            cases hl'
            exact fin _ (by simp [Builtin.len_, run_underlying hu, goInt, sizeS]) rfl rfl
          · rename_i e hu; cases hb
            have hl' : IR w M .nils v := hl
            cases hl'
            exact fin _ (by simp [Builtin.len_, run_underlying hu, goInt]) rfl rfl
          · rename_i id sz off len e hu
            split at hb
            · rename_i n hs'
              cases hb
              obtain ⟨rfl, -⟩ := hob.2
              have hl' : LR0 w M φ (.os id sz off len) v := hl
              rcases hl' with ⟨b, C, hφ, rfl, hle⟩ | ⟨hφ, _, rfl, A, rfl⟩
              · exact fin _ (by simp [Builtin.len_, run_underlying hu, goInt]) rfl rfl
              · exact fin _ (by simp [Builtin.len_, run_underlying hu, goInt]) rfl rfl
            · cases hb
          · rename_i cl sz rows e hu
            split at hb
            · rename_i n hs'
              cases hb
              obtain ⟨rfl, -⟩ := hob.2
              have hl' : IR w M (.sl cl sz rows) v := hl
              cases hl' with
              | sl0 => exact fin _ (by simp [Builtin.len_, run_underlying hu, goInt]) rfl rfl
              | sl => exact fin _ (by simp [Builtin.len_, run_underlying hu, goInt]) rfl rfl
            · cases hb
          · cases hb
        · rename_i k p k' q
          cases hb
          obtain ⟨v1, v2, rfl, e1, e2⟩ := hA.args2
          have e1' : IR w M (.int k p) v1 := e1
          have e2' : IR w M (.int k' q) v2 := e2
          cases e1'; cases e2'
          refine Yd.val (v := .int k (maxI p q)) ?_ rfl (IR.int _ _) hW
          rw [hrun]
          simp [builtin, Builtin.max_, Builtin.max2, List.foldlM, maxI]
        · rename_i k p k' q
          cases hb
          obtain ⟨v1, v2, rfl, e1, e2⟩ := hA.args2
          have e1' : IR w M (.int k p) v1 := e1
          have e2' : IR w M (.int k' q) v2 := e2
          cases e1'; cases e2'
          refine Yd.val (v := .int k (minI p q)) ?_ rfl (IR.int _ _) hW
          rw [hrun]
          simp [builtin, Builtin.min_, Builtin.min2, List.foldlM, minI]
        · exact absurd rfl hap
        · cases hb
  · cases hf
theorem fop_sound (hf : fop P h base g L o.op hs = some r) (hob : allP r.obs) (hg : g) (hF : ∀ t, AR w M φ (L t) (a.tmps.getD t undef)) (hW : Wd Γ φ M hD w) (hsub : ∀ id ob, h id = some ob → hD id = some ob)
    (hfr : ∀ id, base ≤ id → id < base + r.news.length → φ id = none ∧ hD id = none) : Yd P Γ φ M hD w base r ((execOp a.eval o).run P w) := by
  cases ho : o.op with
  | move x => rw [ho] at hf; exact sound_move hob hg hF hW (.inl ho) hf
  | assign x => rw [ho] at hf; exact sound_move (h := h) (hs := hs) hob hg hF hW (.inr ho) (by simpa only [fop] using hf)
  | pick c x y => exact sound_pick hob hg hF hW ho hf
  | alloc e => exact sound_alloc hob hg hF hW ho hf hfr
  | box e x => exact sound_box hob hg hF hW ho hf hfr
  | build t ps => exact sound_build hob hg hF hW ho hf
  | buildSlice t n ps => exact sound_buildSlice hob hg hF hW ho hf hfr
  | load t x => exact sound_load ho hf hob hg hF hW hsub
  | nilCheck x => exact sound_nilCheck hob hg hF hW ho hf
  | binOp op t x y u =>
    rw [ho] at hf; simp only [fop] at hf
    split at hf
    · rename_i r1 h1; cases hf; exact sound_binOp hob hg hF hW ho h1
    · exact sound_nil hob hg hF hW ho hf
  | unOp u t x => exact sound_unOp hob hg hF hW ho hf
  | convert s d x => exact sound_convert hob hg hF hW hsub ho hf
  | makeFunc f first caps => exact sound_makeFunc hob hg hF hW ho hf
  | makeSlice t x y => exact sound_makeSlice hob hg hF hW ho hf hfr
  | slice t x lo hi mx => exact sound_slice hob hg hF hW ho hf
  | fieldAddr t x f => exact sound_fieldAddr hob hg hF hW ho hf
  | field t x f => exact sound_field hob hg hF hW ho hf
  | indexAddr t x i => exact sound_indexAddr hob hg hF hW ho hf
  | index t x i => exact sound_index hob hg hF hW ho hf
  | extract x i => exact sound_extract hob hg hF hW ho hf
  | call c =>
    cases hc : c.callee with
    | builtin b => exact sound_builtin hob hg hF hW hsub ho hc hf hfr
    | value f => rw [ho] at hf; simp only [fop, hc] at hf; cases hf
    | invoke x m => rw [ho] at hf; simp only [fop, hc] at hf; cases hf
  | _ => rw [ho] at hf; simp only [fop] at hf; cases hf
end
end Go.Proofs.YtjhhlmmmkgnhmaaDoor
