/- The abstract machine is sound, part 9: calls that only read. No program in sight. -/
import Derived.Test.YtjhhlmmmkgnhmaaDoorGW
namespace Go.Proofs.YtjhhlmmmkgnhmaaDoor
set_option linter.unusedSimpArgs false
set_option linter.unusedVariables false
set_option linter.unusedSectionVars false
open Go.RowKit
section
variable {P : Program} {Γ : Gam} {φ φ' : Pl} {M M' : Nat → Prop} {hD h : Nat → Option Ob} {w w' : World} {base : Nat} {L : Nat → AV} {a : Act} {g : Prop} {hs : List Hint} {r : Res} {o : Oper}
/-! What bears no reference of the call's own. -/
theorem LR0.free {l : Lf} {v : Value} (hf : free0 l = true) (h : LR0 w M φ l v) : LR0 w M φ' l v := by
  cases l <;> first | exact h | cases hf
theorem LR.free {l : Lf} {v : Value} (hf : freeL l = true) (h : LR w M φ l v) : LR w M φ' l v := by
  rcases h.split with ⟨hn, h0⟩ | ⟨f, caps, vs, rfl, rfl, h2⟩
  · rw [LR_eq hn]
    refine LR0.free ?_ h0
    cases l <;> first | exact hf | cases hn
  · have hf' : caps.all free0 = true := hf
    exact ⟨vs, rfl, h2.imp_mem fun x hx y h => LR0.free (List.all_eq_true.1 hf' x hx) h⟩
theorem CR.free {c : Cm} {v : Value} (hf : freeC c = true) (h : CR w M φ c v) : CR w M φ' c v := by
  cases c with
  | one l => exact LR.free hf h
  | agg ls =>
    obtain ⟨vs, h1, h2⟩ := h
    exact ⟨vs, h1, h2.imp_mem fun x hx y h => LR.free (List.all_eq_true.1 hf x hx) h⟩
theorem AR.free {c : AV} {v : Value} (hf : freeAV c = true) (h : AR w M φ c v) : AR w M φ' c v := by
  cases c with
  | cm c => exact CR.free hf h
  | tup cs =>
    obtain ⟨vs, h1, h2⟩ := h
    exact ⟨vs, h1, h2.imp_mem fun x hx y h => CR.free (List.all_eq_true.1 hf x hx) h⟩
  | gd p c => cases hf
  | unk => trivial
  | boo => exact h
theorem LR.plain {l : Lf} {v : Value} (hf : plainL l = true) (h : LR w M φ l v) : LR w' M' φ' l v := by
  cases l <;> first
    | (cases hf; done)
    | (have h' : IR w M _ v := h
       cases h'
       first | exact IR.int _ _ | exact IR.bool _ | exact IR.str _)
theorem CR.plain {c : Cm} {v : Value} (hf : plainC c = true) (h : CR w M φ c v) : CR w' M' φ' c v := by
  cases c with
  | one l => exact LR.plain hf h
  | agg ls =>
    obtain ⟨vs, h1, h2⟩ := h
    exact ⟨vs, h1, h2.imp_mem fun x hx y h => LR.plain (List.all_eq_true.1 hf x hx) h⟩
theorem AR.plain {c : AV} {v : Value} (hf : plainAV c = true) (h : AR w M φ c v) : AR w' M' φ' c v := by
  cases c with
  | cm c => exact CR.plain hf h
  | tup cs =>
    obtain ⟨vs, h1, h2⟩ := h
    exact ⟨vs, h1, h2.imp_mem fun x hx y h => CR.plain (List.all_eq_true.1 hf x hx) h⟩
  | gd p c => cases hf
  | unk => cases hf
  | boo => cases hf
/-- What a callee may take for what never turns, while it only reads. -/
def Lent (M : Nat → Prop) (φ : Pl) (hD : Nat → Option Ob) : Nat → Prop := fun b => M b ∨ ∃ id ob C, hD id = some ob ∧ φ id = some (some (b, C))
theorem Lent.sub : ∀ b, M b → Lent M φ hD b := fun _ h => .inl h
theorem loan0_ok (hW : Wd Γ φ M hD w) (hsub : ∀ id ob, h id = some ob → hD id = some ob) {l l' : Lf} {v : Value} {ob : List Prop} (hl : loan0 h l = some (l', ob)) (ho : allP ob) (hv : LR w M φ l v) : LR w (Lent M φ hD) φ' l' v := by
  have imm : ∀ {l : Lf}, IR w M l v → LR w (Lent M φ hD) φ' l v := fun h => IR.lr (h.mono (fun _ _ => rfl) Lent.sub)
  cases l with
  | os id sz off len =>
    simp only [loan0] at hl
    split at hl
    · rename_i o1 ho1
      cases hc : (off == 0 && !o1.box && o1.sz == sz) with
      | false => rw [hc] at hl; cases hl
      | true =>
        rw [hc] at hl; cases hl
        simp only [Bool.and_eq_true, beq_iff_eq, Bool.not_eq_true'] at hc
        obtain ⟨⟨rfl, hbx⟩, hsz⟩ := hc
        obtain ⟨hlen, -⟩ := ho
        have hO := hW.obs id o1 (hsub id o1 ho1)
        rcases (hv : LR0 w M φ (.os id sz 0 len) v) with ⟨b, C, hφ, rfl, hle⟩ | ⟨hφ, _, rfl, A, rfl⟩
        · obtain ⟨h0, h1⟩ := hO
          rw [hφ] at h1
          obtain ⟨cur, g1, g2, g3, g4, g5, g6⟩ := h1
          have hcell : ∀ (i : Nat) (c : List Lf) (j : Nat) (l : Lf), o1.rows[i]? = some c → c[j]? = some l → w.cell? ⟨b, 0 * sz + i * sz + j, none⟩ = some ((cur[i * sz + j]?).getD undef) ∧ IR w (Lent M φ hD) l ((cur[i * sz + j]?).getD undef) := fun i c j l hc hj => by
            obtain ⟨u, hu, hr⟩ := (g6 i c hc).2 j l hj
            rw [hbx] at hr
            rw [hsz] at hu
            refine ⟨?_, by rw [hu]; exact IR.mono (fun _ _ => rfl) Lent.sub (by simpa using hr)⟩
            simp only [World.cell?, g1, Nat.zero_mul, Nat.zero_add]
            simp [hu]
          have key : IR w (Lent M φ hD) (.sl false sz o1.rows) (.slice (some ⟨b, 0 * sz, none⟩) o1.rows.length (C - 0)) :=
            IR.sl false sz o1.rows b (0 * sz) (C - 0) (fun i j => (cur[i * sz + j]?).getD undef) (.inr ⟨id, o1, C, hsub id o1 ho1, hφ⟩) (by omega) (fun h => by cases h) (fun i c hc => by rw [(g6 i c hc).1, hsz]) (fun i c j l hc hj => (hcell i c j l hc hj).1) (fun i c j l hc hj => (hcell i c j l hc hj).2)
          rw [hlen] at key
          exact IR.lr key
        · have hr0 : o1.rows = [] := List.eq_nil_of_length_eq_zero hlen
          rw [hr0]
          exact IR.lr (IR.sl0 false sz A 0 fun h => by cases h)
    · cases hl
  | op id sz row off =>
    simp only [loan0] at hl
    split at hl
    · rename_i o1 ho1
      cases hc : (o1.box && row == 0) with
      | false => rw [hc] at hl; cases hl
      | true =>
        rw [hc] at hl
        simp only [cond_true] at hl
        simp only [Bool.and_eq_true, beq_iff_eq] at hc
        obtain ⟨hbx, rfl⟩ := hc
        split at hl
        · rename_i cells hrows
          cases hi : cells.all immL with
          | false => rw [hi] at hl; cases hl
          | true =>
            rw [hi] at hl; cases hl
            have hO := hW.obs id o1 (hsub id o1 ho1)
            obtain ⟨b, C, hφ, rfl⟩ := (hv : LR0 w M φ (.op id sz 0 off) v)
            have hcell : ∀ (j : Nat) (l : Lf), cells[j]? = some l → ∃ u, w.cell? ⟨b, 0 + j, none⟩ = some u ∧ IR w M l u := fun j l hj => by
              obtain ⟨u, hu, hr⟩ := hO.cell' (i := 0) hφ (by rw [hrows]; rfl) j l hj
              exact ⟨u, by rw [Nat.zero_mul] at hu; exact hu, LR.imm (List.all_eq_true.1 hi l (List.mem_of_getElem? hj)) hr⟩
            have key : IR w (Lent M φ hD) (.ip cells off) (.pointer (some ⟨b, 0 + off, none⟩)) := by
              refine IR.ip cells off b 0 (fun i => (w.cell? ⟨b, 0 + i, none⟩).getD undef) (.inr ⟨id, o1, C, hsub id o1 ho1, hφ⟩) (fun i l hl => ?_) (fun i l hl => ?_)
              · obtain ⟨u, hu, hr⟩ := hcell i l hl; simp only [hu, Option.getD_some]
              · obtain ⟨u, hu, hr⟩ := hcell i l hl; simp only [hu, Option.getD_some]; exact hr.mono (fun _ _ => rfl) Lent.sub
            rw [show 0 * sz + off = 0 + off by rw [Nat.zero_mul]]
            exact IR.lr key
        · cases hl
    · cases hl
  | fn f caps => cases hl
  | any => cases hl; exact imm hv
  | int k n => cases hl; exact imm hv
  | bool b => cases hl; exact imm hv
  | str s => cases hl; exact imm hv
  | nilp => cases hl; exact imm hv
  | nils => cases hl; exact imm hv
  | ip c off => cases hl; exact imm hv
  | sl cl sz rows => cases hl; exact imm hv
theorem loan0_nf {l l' : Lf} {ob : List Prop} (hl : loan0 h l = some (l', ob)) : isFn l = false ∧ isFn l' = false := by
  have bif_some : ∀ {c : Bool} {x : Option (Lf × List Prop)}, (bif c then x else none) = some (l', ob) → x = some (l', ob) := by
    intro c x hc; cases c
    · cases hc
    · exact hc
  cases l with
  | os id sz off len =>
    simp only [loan0] at hl
    split at hl
    · cases bif_some hl; exact ⟨rfl, rfl⟩
    · cases hl
  | op id sz row off =>
    simp only [loan0] at hl
    split at hl
    · have h1 := bif_some hl
      split at h1
      · cases bif_some h1; exact ⟨rfl, rfl⟩
      · cases h1
    · cases hl
  | fn f caps => cases hl
  | _ => cases hl; exact ⟨rfl, rfl⟩
theorem loan0s_ok (hW : Wd Γ φ M hD w) (hsub : ∀ id ob, h id = some ob → hD id = some ob) : ∀ {ls ls' : List Lf} {vs : List Value} {ob : List Prop}, loan0s h ls = some (ls', ob) → allP ob → Rs (LR0 w M φ) ls vs → Rs (LR0 w (Lent M φ hD) φ') ls' vs
  | [], _, [], _, hl, _, _ => by cases hl; trivial
  | l :: ls, ls', v :: vs, ob, hl, ho, hr => by
    simp only [loan0s] at hl
    split at hl
    · rename_i x o1 xs o2 h1 h2
      cases hl
      rw [allP_append] at ho
      obtain ⟨n1, n2⟩ := loan0_nf h1
      refine ⟨?_, loan0s_ok hW hsub h2 ho.2 hr.2⟩
      rw [← LR_eq n2]
      exact loan0_ok hW hsub h1 ho.1 (by rw [LR_eq n1]; exact hr.1)
    · cases hl
  | [], _, _ :: _, _, _, _, h => h.elim
  | _ :: _, _, [], _, _, _, h => h.elim
theorem loanL_ok (hW : Wd Γ φ M hD w) (hsub : ∀ id ob, h id = some ob → hD id = some ob) {l l' : Lf} {v : Value} {ob : List Prop} (hl : loanL h l = some (l', ob)) (ho : allP ob) (hv : LR w M φ l v) : LR w (Lent M φ hD) φ' l' v := by
  cases l with
  | fn f caps =>
    simp only [loanL] at hl
    cases h1 : loan0s h caps with
    | none => rw [h1] at hl; cases hl
    | some p =>
      obtain ⟨x, o1⟩ := p; rw [h1] at hl; cases hl
      obtain ⟨vs, e, hr⟩ := hv
      exact ⟨vs, e, loan0s_ok hW hsub h1 ho hr⟩
  | _ => exact loan0_ok hW hsub (by simpa only [loanL] using hl) ho hv
theorem loanLs_ok (hW : Wd Γ φ M hD w) (hsub : ∀ id ob, h id = some ob → hD id = some ob) : ∀ {ls ls' : List Lf} {vs : List Value} {ob : List Prop}, loanLs h ls = some (ls', ob) → allP ob → Rs (LR w M φ) ls vs → Rs (LR w (Lent M φ hD) φ') ls' vs
  | [], _, [], _, hl, _, _ => by cases hl; trivial
  | l :: ls, ls', v :: vs, ob, hl, ho, hr => by
    simp only [loanLs] at hl
    split at hl
    · rename_i x o1 xs o2 h1 h2
      cases hl
      rw [allP_append] at ho
      exact ⟨loanL_ok hW hsub h1 ho.1 hr.1, loanLs_ok hW hsub h2 ho.2 hr.2⟩
    · cases hl
  | [], _, _ :: _, _, _, _, h => h.elim
  | _ :: _, _, [], _, _, _, h => h.elim
theorem loanC_ok (hW : Wd Γ φ M hD w) (hsub : ∀ id ob, h id = some ob → hD id = some ob) {c c' : Cm} {v : Value} {ob : List Prop} (hl : loanC h c = some (c', ob)) (ho : allP ob) (hv : CR w M φ c v) : CR w (Lent M φ hD) φ' c' v := by
  cases c with
  | one l =>
    simp only [loanC] at hl
    cases h1 : loanL h l with
    | none => rw [h1] at hl; cases hl
    | some p => obtain ⟨x, o1⟩ := p; rw [h1] at hl; cases hl; exact loanL_ok hW hsub h1 ho hv
  | agg ls =>
    simp only [loanC] at hl
    cases h1 : loanLs h ls with
    | none => rw [h1] at hl; cases hl
    | some p =>
      obtain ⟨x, o1⟩ := p; rw [h1] at hl; cases hl
      obtain ⟨vs, e, hr⟩ := hv
      exact ⟨vs, e, loanLs_ok hW hsub h1 ho hr⟩
theorem loanCs_ok (hW : Wd Γ φ M hD w) (hsub : ∀ id ob, h id = some ob → hD id = some ob) : ∀ {cs cs' : List Cm} {vs : List Value} {ob : List Prop}, loanCs h cs = some (cs', ob) → allP ob → Rs (CR w M φ) cs vs → Rs (CR w (Lent M φ hD) φ') cs' vs
  | [], _, [], _, hl, _, _ => by cases hl; trivial
  | l :: ls, ls', v :: vs, ob, hl, ho, hr => by
    simp only [loanCs] at hl
    split at hl
    · rename_i x o1 xs o2 h1 h2
      cases hl
      rw [allP_append] at ho
      exact ⟨loanC_ok hW hsub h1 ho.1 hr.1, loanCs_ok hW hsub h2 ho.2 hr.2⟩
    · cases hl
  | [], _, _ :: _, _, _, _, h => h.elim
  | _ :: _, _, [], _, _, _, h => h.elim
/-- The call is entered. -/
theorem run_call {c : Call} {f : Operand} {k : FuncId} {caps : List Value} (ho : o.op = .call c) (hc : c.callee = .value f) (hf : a.eval f = .func (.func k) #[] caps.toArray) (hk : callOk P k = true) :
    (execOp a.eval o).run P w = .ok (.enter k (c.args.toList.map a.eval ++ caps).toArray) w := by
  unfold callOk at hk
  split at hk
  · rename_i fn hfn
    simp only [Bool.and_eq_true, Bool.not_eq_true'] at hk
    have hb : ¬ fn.body = none := fun e => by rw [e] at hk; cases hk.2
    have hne : ¬ fn.name = "runtime.NumGoroutine" := by simpa using hk.1
    have he : c.args.map a.eval ++ caps.toArray = (c.args.toList.map a.eval ++ caps).toArray := by apply Array.ext'; simp
    simp [execOp, ho, resolve, hc, hf, Deferred.ofValue, invoke, callFunc, hfn, hne, hb, he]
  · cases hk
/-- More of what never turns. -/
theorem Wd.moreM (hW : Wd Γ φ M hD w) (hsub : ∀ b, M b → M' b) (hnew : ∀ b, M' b → M b ∨ (Γ.w0.heap.size ≤ b ∧ b < w.heap.size ∧ ∀ id ob C, hD id = some ob → φ id ≠ some (some (b, C)))) : Wd Γ φ M' hD w := by
  have he : Ex w M φ w M' φ := ⟨fun _ _ => rfl, hsub, fun _ _ h => h⟩
  refine ⟨fun id ob e => (hW.obs id ob e).mono he fun _ _ _ => rfl, hW.inj, fun b hb => ?_, fun b hb => hsub b (hW.m0 b hb), fun b hb => ?_, fun id ob b C e p => ⟨fun hb => ?_, (hW.own id ob b C e p).2⟩, hW.keep, hW.os, hW.tape, hW.output, hW.size, hW.pin⟩
  · rcases hnew b hb with h | h
    · exact hW.mlt b h
    · exact h.2.1
  · rcases hnew b hb with h | h
    · exact hW.mold b h
    · exact .inr (.inr h.1)
  · rcases hnew b hb with h | h
    · exact (hW.own id ob b C e p).1 h
    · exact h.2.2 id ob C e p
theorem wd_none (hM : ∀ b, M b → b < w.heap.size) : Wd ⟨w, fun b => ∃ id C, id < ([] : List Ob).length ∧ (fun _ => none : Pl) id = some (some (b, C)), M, pinsOf (fun _ => none) 0 []⟩ (fun _ => none) M (fun id => ([] : List Ob)[id]?) w :=
  ⟨fun id ob e => by simp at e, fun i j oi oj b Ci Cj hi => by simp at hi, hM, fun _ h => h, fun _ h => .inl h, fun id ob b C e => by simp at e, fun _ _ _ => rfl, rfl, rfl, rfl, Nat.le_refl _, fun p hp => by simp [pinsOf] at hp⟩
theorem callPure_sound {c : Call} (ho : o.op = .call c) (hf : callPure P h L c hs = some r) (hob : allP r.obs) (hF : ∀ t, AR w M φ (L t) (a.tmps.getD t undef)) (hW : Wd Γ φ M hD w) (hsub : ∀ id ob, h id = some ob → hD id = some ob) {K : Act → World → Prop}
    (hK : ∀ v w' M', AR w' M' φ r.v v → Wd Γ φ M' hD w' → Ex w M φ w' M' φ → K (a.put o.dst v) w') : r.news = [] ∧ o.wp P a w K NQ := by
  unfold callPure at hf
  split at hf
  · rename_i f hcf
    split at hf
    · rename_i k caps args0 o1 r0 hs' h1 h2
      have hfv : AR w M φ (aev L f) (a.eval f) := aev_ok hF f
      rw [h1] at hfv
      obtain ⟨cvs, hcv, hcr⟩ : LR w M φ (.fn (.func k) caps) (a.eval f) := hfv
      have hcaps : Rs (CR w M φ) (caps.map Cm.one) cvs := by
        refine Rs.map_left (hcr.imp_mem fun x hx y h => ?_)
        show LR w M φ x y
        have : isFn x = false := by
          cases x <;> first | rfl | skip
          exact (by cases h)
        rw [LR_eq this]; exact h
      -- the callee's own say
      have go : ∀ {args' : List Cm} {M0 : Nat → Prop} {r1 : AV}, AFn P k args' [] r1 [] → (∀ b, M0 b → b < w.heap.size) → Rs (CR w M0 (fun _ => none)) args' (c.args.toList.map a.eval ++ cvs) →
          (∀ v w' M', Below w.heap.size w w' → AR w' M' (fun _ => none) r1 v → (∀ b, M0 b → M' b) → (∀ b, M' b → M0 b ∨ (w.heap.size ≤ b ∧ b < w'.heap.size)) → K (a.put o.dst v) w') → o.wp P a w K NQ := by
        intro args' M0 r1 hA hM hargs hk
        unfold Oper.wp
        rw [run_call ho hcf hcv hA.1]
        show Calls P k _ w _
        refine (hA.2 w (fun _ => none) M0 _ (wd_none hM) (fun _ _ => rfl) hargs).mono ?_
        rintro e w' ⟨v, φ', M', rfl, hr, hW', hφ'⟩
        have hφn : φ' = fun _ => none := funext fun id => hφ' id (Nat.zero_le _)
        subst hφn
        have hbel : Below w.heap.size w w' := ⟨hW'.os, hW'.tape, hW'.output, hW'.size, fun b hb => hW'.keep b hb fun ⟨id, C, h, _⟩ => by simp at h⟩
        refine hk v w' M' hbel hr hW'.m0 fun b hb => ?_
        rcases hW'.mold b hb with h | ⟨id, C, h, _⟩ | h
        · exact .inl h
        · simp at h
        · exact .inr ⟨h, hW'.mlt b hb⟩
      cases hfree : (args0 ++ caps.map Cm.one).all freeC with
      | true =>
        rw [hfree] at hf
        simp only [cond_true] at hf
        cases hfr : freeAV r0 with
        | false => rw [hfr] at hf; cases hf
        | true =>
          rw [hfr] at hf; cases hf
          simp only [allP_append, allP] at hob
          refine ⟨rfl, go hob.2.1 (fun b hb => hW.mlt b hb) ?_ ?_⟩
          · exact ((argsG_ok hF trivial h2 hob.1).append hcaps).imp_mem fun x hx y h => CR.free (List.all_eq_true.1 hfree x hx) h
          · intro v w' M' hbel hr hs1 hs2
            refine hK v w' M' (AR.free hfr hr) ((hW.grow hbel).moreM hs1 fun b hb => ?_) ⟨fun b hb => hbel.block b (hW.mlt b hb), hs1, fun _ _ h => h⟩
            rcases hs2 b hb with h | h
            · exact .inl h
            · exact .inr ⟨Nat.le_trans hW.size h.1, h.2, fun id ob C e p => by have := (hW.own id ob b C e p).2.1; omega⟩
      | false =>
        rw [hfree] at hf
        simp only [cond_false] at hf
        split at hf
        · rename_i args' o2 h3
          cases hpl : plainAV r0 with
          | false => rw [hpl] at hf; cases hf
          | true =>
            rw [hpl] at hf; cases hf
            simp only [allP_append, allP] at hob
            refine ⟨rfl, go (M0 := Lent M φ hD) hob.2.1 ?_ (loanCs_ok hW hsub h3 hob.1.2 ((argsG_ok hF trivial h2 hob.1.1).append hcaps)) ?_⟩
            · rintro b (h | ⟨id, ob, C, e, p⟩)
              · exact hW.mlt b h
              · exact (hW.own id ob b C e p).2.1
            · intro v w' M' hbel hr hs1 hs2
              exact hK v w' M (AR.plain hpl hr) (hW.grow hbel) (hW.ex_grow hbel)
        · cases hf
    · cases hf
  · cases hf
theorem allOb_spec : ∀ {out : List (Option Ob)} {obs : List Ob}, allOb out = some obs → out = obs.map some
  | [], _, h => by cases h; rfl
  | some o :: r, obs, h => by
    simp only [allOb] at h
    cases hr : allOb r with
    | none => rw [hr] at h; cases h
    | some os => rw [hr] at h; cases h; rw [allOb_spec hr]; rfl
  | none :: _, _, h => by cases h
theorem callOwn_sound {c : Call} (ho : o.op = .call c) (hf : callOwn P base L c hs = some r) (hob : allP r.obs) (hF : ∀ t, AR w M φ (L t) (a.tmps.getD t undef)) (hW : Wd Γ φ M hD w)
    (hfr : ∀ id, base ≤ id → id < base + r.news.length → φ id = none ∧ hD id = none) {K : Act → World → Prop}
    (hK : ∀ v w' φ' M', AR w' M' φ' r.v v → Wd Γ φ' M' (plc hD base r.news) w' → Ex w M φ w' M' φ' → (∀ id, φ' id ≠ none → φ id ≠ none ∨ (base ≤ id ∧ id < base + r.news.length)) → K (a.put o.dst v) w') : o.wp P a w K NQ := by
  unfold callOwn at hf
  split at hf
  · rename_i f hcf
    split at hf
    · rename_i k caps args0 o1 r0 out hs' h1 h2
      split at hf
      · rename_i obs hobs
        cases hc : ((args0 ++ caps.map Cm.one).all freeC && obs.all (fun o => !o.box)) with
        | false => rw [hc] at hf; cases hf
        | true =>
          rw [hc] at hf; cases hf
          rw [Bool.and_eq_true] at hc
          obtain ⟨hfree, hbox⟩ := hc
          have hout := allOb_spec hobs
          subst hout
          simp only [allP_append, allP] at hob
          have hfv : AR w M φ (aev L f) (a.eval f) := aev_ok hF f
          rw [h1] at hfv
          obtain ⟨cvs, hcv, hcr⟩ : LR w M φ (.fn (.func k) caps) (a.eval f) := hfv
          have hcaps : Rs (CR w M φ) (caps.map Cm.one) cvs := by
            refine Rs.map_left (hcr.imp_mem fun x hx y h => ?_)
            show LR w M φ x y
            have : isFn x = false := by
              cases x <;> first | rfl | skip
              exact (by cases h)
            rw [LR_eq this]; exact h
          have hargs : Rs (CR w M (fun _ => none)) (args0 ++ caps.map Cm.one) (c.args.toList.map a.eval ++ cvs) := ((argsG_ok hF trivial h2 hob.1).append hcaps).imp_mem fun x hx y h => CR.free (List.all_eq_true.1 hfree x hx) h
          unfold Oper.wp
          rw [run_call ho hcf hcv hob.2.1.1]
          show Calls P k _ w _
          refine (hob.2.1.2 w (fun _ => none) M _ (wd_none hW.mlt) (fun _ _ => rfl) hargs).mono ?_
          rintro e w' ⟨v, φ', M', rfl, hr, hW', hφ'⟩
          rw [List.length_map] at hφ'
          have hhl : ∀ i, hl (obs.map some) i = obs[i]? := fun i => by unfold hl; rw [List.getElem?_map]; cases obs[i]? <;> rfl
          have hbel : Below w.heap.size w w' := ⟨hW'.os, hW'.tape, hW'.output, hW'.size, fun b hb => hW'.keep b hb fun ⟨id, C, h, _⟩ => by simp at h⟩
          have hs1 : ∀ b, M b → M' b := hW'.m0
          have hs2 : ∀ b, M' b → M b ∨ w.heap.size ≤ b := fun b hb => by
            rcases hW'.mold b hb with h | ⟨id, C, h, _⟩ | h
            · exact .inl h
            · simp at h
            · exact .inr h
          have hW2 : Wd Γ φ M' hD w' := (hW.grow hbel).moreM hs1 fun b hb => by
            rcases hs2 b hb with h | h
            · exact .inl h
            · exact .inr ⟨Nat.le_trans hW.size h, hW'.mlt b hb, fun id ob C e p => by have := (hW.own id ob b C e p).2.1; omega⟩
          have hown : ∀ i ob b C, obs[i]? = some ob → φ' i = some (some (b, C)) → ¬ M' b ∧ b < w'.heap.size ∧ w.heap.size ≤ b := fun i ob b C h p => by
            obtain ⟨g1, g2, g3⟩ := hW'.own i ob b C ((hhl i).trans h) p
            refine ⟨g1, g2, ?_⟩
            rcases g3 with ⟨id, C, h, _⟩ | h
            · simp at h
            · exact h
          let φ2 : Pl := fun i => if base ≤ i ∧ i < base + obs.length then φ' (i - base) else φ i
          have hin : ∀ i, base ≤ i → i < base + obs.length → φ2 i = φ' (i - base) := fun i h1 h2 => if_pos ⟨h1, h2⟩
          have hout : ∀ i, ¬ (base ≤ i ∧ i < base + obs.length) → φ2 i = φ i := fun i h => if_neg h
          have hpl : ∀ i p, φ i = some p → φ2 i = some p := fun i p h => by
            by_cases hi : base ≤ i ∧ i < base + obs.length
            · rw [(hfr i hi.1 hi.2).1] at h; cases h
            · rw [hout i hi]; exact h
          have hm : ∀ id k p, (some (base + id) : Option Nat) = some k → φ' id = some p → φ2 k = some p := fun id k p h hp => by
            cases h
            have hlt : id < obs.length := by
              rcases Nat.lt_or_ge id obs.length with h | h
              · exact h
              · rw [hφ' id h] at hp; cases hp
            rw [hin _ (by omega) (by omega), show base + id - base = id by omega]; exact hp
          have he : Ex w' M' φ w' M' φ2 := ⟨fun _ _ => rfl, fun _ h => h, hpl⟩
          refine hK v w' φ2 M' (renAV_ok hm hr) ?_ ⟨fun b hb => hbel.block b (hW.mlt b hb), hs1, hpl⟩ fun i hi => ?_
          · have hplc : ∀ {i ob}, plc hD base obs i = some ob → (base ≤ i ∧ i < base + obs.length ∧ obs[i - base]? = some ob) ∨ (¬ (base ≤ i ∧ i < base + obs.length) ∧ hD i = some ob) := fun {i ob} h => by
              unfold plc at h
              split at h
              · rename_i hi; exact .inl ⟨hi.1, hi.2, h⟩
              · rename_i hi; exact .inr ⟨hi, h⟩
            refine ⟨fun i ob h => ?_, fun i j oi oj b Ci Cj h1 h2 h3 h4 => ?_, hW'.mlt, fun b hb => hs1 b (hW.m0 b hb), fun b hb => ?_, fun i ob b C h1 h2 => ?_, hW2.keep, hW2.os, hW2.tape, hW2.output, hW2.size, fun p hp => hpl _ _ (hW.pin p hp)⟩
            · rcases hplc h with ⟨g1, g2, g3⟩ | ⟨g1, g2⟩
              · have hb : ob.box = false := by simpa using List.all_eq_true.1 hbox ob (List.mem_of_getElem? g3)
                have := renOb_ok (m := fun j => some (base + j)) (φ2 := φ2) (i := i) (j := i - base) hm (hin i g1 g2) (hW'.obs (i - base) ob ((hhl _).trans g3))
                have e : renOb (fun j => some (base + j)) ob = ob := by unfold renOb; rw [hb]; rfl
                rw [e] at this; exact this
              · exact (hW2.obs i ob g2).mono he fun _ _ _ => rfl
            · rcases hplc h1 with ⟨g1, g2, g3⟩ | ⟨g1, g2⟩ <;> rcases hplc h2 with ⟨k1, k2, k3⟩ | ⟨k1, k2⟩
              · rw [hin i g1 g2] at h3
                rw [hin j k1 k2] at h4
                have := hW'.inj (i - base) (j - base) oi oj b Ci Cj ((hhl _).trans g3) ((hhl _).trans k3) h3 h4
                omega
              · rw [hin i g1 g2] at h3
                rw [hout j k1] at h4
                have := (hown _ _ _ _ g3 h3).2.2
                have := (hW.own _ _ _ _ k2 h4).2.1
                omega
              · rw [hout i g1] at h3
                rw [hin j k1 k2] at h4
                have := (hown _ _ _ _ k3 h4).2.2
                have := (hW.own _ _ _ _ g2 h3).2.1
                omega
              · rw [hout i g1] at h3
                rw [hout j k1] at h4
                exact hW2.inj i j oi oj b Ci Cj g2 k2 h3 h4
            · rcases hs2 b hb with h | h
              · exact hW.mold b h
              · exact .inr (.inr (Nat.le_trans hW.size h))
            · rcases hplc h1 with ⟨g1, g2, g3⟩ | ⟨g1, g2⟩
              · rw [hin i g1 g2] at h2
                obtain ⟨k1, k2, k3⟩ := hown _ _ _ _ g3 h2
                exact ⟨k1, k2, .inr (Nat.le_trans hW.size k3)⟩
              · rw [hout i g1] at h2
                exact hW2.own i ob b C g2 h2
          · by_cases h : base ≤ i ∧ i < base + obs.length
            · exact .inr h
            · rw [hout i h] at hi; exact .inl hi
      · cases hf
    · cases hf
  · cases hf
theorem dop_sound (hf : dop P h base L o.op hs = some r) (hob : allP r.obs) (hF : ∀ t, AR w M φ (L t) (a.tmps.getD t undef)) (hW : Wd Γ φ M hD w) (hsub : ∀ id ob, h id = some ob → hD id = some ob)
    (hfr : ∀ id, base ≤ id → id < base + r.news.length → φ id = none ∧ hD id = none) {K : Act → World → Prop}
    (hK : ∀ v w' φ' M', AR w' M' φ' r.v v → Wd Γ φ' M' (plc hD base r.news) w' → Ex w M φ w' M' φ' → (∀ id, φ' id ≠ none → φ id ≠ none ∨ (base ≤ id ∧ id < base + r.news.length)) → K (a.put o.dst v) w') : o.wp P a w K NQ := by
  unfold dop at hf
  split at hf
  · rename_i r0 h1
    cases hf
    obtain ⟨v, w', φ', hrun, hr, hW', hp, hn, hb⟩ := fop_sound h1 hob trivial hF hW hsub hfr
    unfold Oper.wp
    rw [hrun]
    exact hK v w' φ' M hr hW' ⟨hb, fun _ h => h, hp⟩ hn
  · split at hf
    · rename_i c hc
      split at hf
      · rename_i r1 hf1
        cases hf
        obtain ⟨hn, -⟩ := callPure_sound (K := fun _ _ => True) hc hf1 hob hF hW hsub (fun _ _ _ _ _ _ => trivial)
        refine (callPure_sound hc hf1 hob hF hW hsub fun v w' M' hr hW' he => ?_).2
        exact hK v w' φ M' hr (by rw [hn, plc_nil]; exact hW') he fun _ h => .inl h
      · exact callOwn_sound hc hf hob hF hW hfr hK
    · cases hf
end
end Go.Proofs.YtjhhlmmmkgnhmaaDoor
