/- The abstract machine is sound, part 4: arithmetic, comparison, literals. No program in sight. -/
import Derived.Test.YtjhhlmmmkgnhmaaDoorGG
namespace Go.Proofs.YtjhhlmmmkgnhmaaDoor
set_option linter.unusedSimpArgs false
set_option linter.unusedVariables false
set_option linter.unusedSectionVars false
open Go.RowKit

section
variable {P : Program} {φ : Pl} {M : Nat → Prop} {w : World}
theorem eqLf_ok {d : Nat} {t : TypeId} {u : TypeDesc} {x y : Lf} {vx vy : Value} {e : Bool} (hu : P.underlying t = some u) (h : eqLf u x y = some e) (hx : LR w M φ x vx) (hy : LR w M φ y vy) :
    (Op.equalIn (d + 1) t vx vy).run P w = .ok e w := by
  unfold eqLf at h
  split at h
  · rename_i k0 k a k' b
    by_cases hkk : k = k'
    · subst hkk
      simp only [decide_true, cond_true] at h
      cases h
      have hx' : IR w M (.int k a) vx := hx
      have hy' : IR w M (.int k b) vy := hy
      cases hx'; cases hy'
      simp [Op.equalIn, run_underlying hu, eqI]
    · simp only [hkk, decide_false, cond_false] at h; cases h
  · rename_i a b
    cases h
    have hx' : IR w M (.bool a) vx := hx
    have hy' : IR w M (.bool b) vy := hy
    cases hx'; cases hy'
    simp [Op.equalIn, run_underlying hu, eqB]
  · rename_i a b
    cases h
    have hx' : IR w M (.str a) vx := hx
    have hy' : IR w M (.str b) vy := hy
    cases hx'; cases hy'
    simp [Op.equalIn, run_underlying hu]
  · cases h
theorem run_part_cell {t : TypeId} (hr : trow P t = some false) {vs : Array Value} {k : Nat} {v : Value} (hv : vs[k]? = some v) : (part t vs k).run P w = .ok v w := by
  obtain ⟨d, hu, hd⟩ := trow_some hr
  unfold part
  rw [Sem.run_bind, run_isAgg hu w, hd]
  simp [hv]
/-- The comparison of two structs of plain cells, field by field. -/
theorem eqLfs_ok {d : Nat} {vx vy : List Value} : ∀ (fs : List Field) (k : Nat) (us : List TypeDesc) (xs ys : List Lf) (e : Bool), flatU P k fs = some us → eqLfs us xs ys = some e → Rs (LR w M φ) xs (vx.drop k) → Rs (LR w M φ) ys (vy.drop k) →
    (forIn fs ((none, ()) : Option Bool × Unit) fun f r => (do
      if f.name ≠ "_" then do
        if (!(← Op.equalIn (d + 1) f.type (← part f.type vx.toArray f.offset) (← part f.type vy.toArray f.offset))) = true then pure (ForInStep.done (some false, ())) else pure (ForInStep.yield (none, ()))
      else pure (ForInStep.yield (none, ())) : Sem (ForInStep (Option Bool × Unit)))).run P w = .ok (if e then none else some false, ()) w
  | [], k, us, xs, ys, e, h1, h2, _, _ => by
    cases h1
    cases xs <;> cases ys <;> simp [eqLfs] at h2
    subst h2
    simp
  | f :: fs, k, us, xs, ys, e, h1, h2, hx, hy => by
    simp only [flatU] at h1
    cases hc : (f.offset == k && !(f.name == "_") && (trow P f.type == some false)) with
    | false => rw [hc] at h1; cases h1
    | true =>
      rw [hc] at h1
      simp only [cond_true] at h1
      simp only [Bool.and_eq_true, beq_iff_eq, Bool.not_eq_true', beq_eq_false_iff_ne] at hc
      obtain ⟨⟨hoff, hname⟩, hrow⟩ := hc
      split at h1
      · rename_i u us' hu hus
        cases h1
        cases xs with
        | nil => simp [eqLfs] at h2
        | cons x xs =>
          cases ys with
          | nil => simp [eqLfs] at h2
          | cons y ys =>
            simp only [eqLfs] at h2
            split at h2
            · rename_i e1 e2 he1 he2
              cases h2
              obtain ⟨v1, hv1, hr1⟩ := hx.get (i := 0) rfl
              obtain ⟨v2, hv2, hr2⟩ := hy.get (i := 0) rfl
              have hx1 : Rs (LR w M φ) xs (vx.drop (k + 1)) := by have := hx.drop 1; simpa [List.drop_drop, Nat.add_comm] using this
              have hy1 : Rs (LR w M φ) ys (vy.drop (k + 1)) := by have := hy.drop 1; simpa [List.drop_drop, Nat.add_comm] using this
              have ih := eqLfs_ok (d := d) fs (k + 1) us' xs ys e2 hus he2 hx1 hy1
              have hp1 := run_part_cell (P := P) (w := w) hrow (vs := vx.toArray) (k := f.offset) (v := v1) (by rw [hoff]; simpa using hv1)
              have hp2 := run_part_cell (P := P) (w := w) hrow (vs := vy.toArray) (k := f.offset) (v := v2) (by rw [hoff]; simpa using hv2)
              have heq := eqLf_ok (d := d) hu he1 hr1 hr2
              rw [List.forIn_cons]
              cases e1 with
              | true => simp [hname, hp1, hp2, heq] at ih ⊢; exact ih
              | false => simp [hname, hp1, hp2, heq]
            · cases h2
      · cases h1
end
section
variable {P : Program} {Γ : Gam} {φ : Pl} {M : Nat → Prop} {hD h : Nat → Option Ob} {w : World} {base : Nat} {L : Nat → AV} {a : Act} {g : Prop} {hs : List Hint} {r : Res} {o : Oper}
theorem eqGuard_int {op : BinOp} {t : TypeId} {x y : Operand} {k k' : IntKind} {p q : Int} : (eqGuard op t x y (.int k p) (.int k' q)).run P w = .ok () w := by
  unfold eqGuard; split <;> simp
theorem eqGuard_str {op : BinOp} {t : TypeId} {x y : Operand} {p q : ByteArray} : (eqGuard op t x y (.string p) (.string q)).run P w = .ok () w := by
  unfold eqGuard; split <;> simp
theorem eqGuard_bool {op : BinOp} {t : TypeId} {x y : Operand} {p q : Bool} : (eqGuard op t x y (.bool p) (.bool q)).run P w = .ok () w := by
  unfold eqGuard; split <;> simp
theorem eqGuard_agg {op : BinOp} {t : TypeId} {x y : Operand} {p q : Array Value} (h : P.eqGuardType P.depth t = false) : (eqGuard op t x y (.agg p) (.agg q)).run P w = .ok () w := by
  unfold eqGuard; split <;> simp [h]
def lfV : Lf → Value
  | .int k n => .int k n
  | .bool b => .bool b
  | .str s => .string s
  | _ => undef
theorem abinI_ok {op : BinOp} {k : IntKind} {p q : Int} {t : TypeId} {l : Lf} {ob : List Prop} (h : abinI op k p q = some (l, ob)) (ho : allP ob) : (binOp op t (.int k p) (.int k q)).run P w = .ok (lfV l) w ∧ LR w M φ l (lfV l) := by
  cases op <;> simp only [abinI] at h <;> first
    | (cases h; done)
    | (cases h; refine ⟨?_, IR.int _ _⟩; simp [binOp, Op.intArith, lfV, addK, subK, mulK]; done)
    | (cases h; refine ⟨?_, IR.int _ _⟩; have := ho.1; simp [binOp, Op.intDiv, this, lfV, quoK, remK]; done)
    | (cases h; refine ⟨?_, IR.int _ _⟩; simp [binOp, Op.intBits, lfV, andK, orK, xorK, andNotK]; done)
    | (cases h; refine ⟨?_, IR.bool _⟩; simp [binOp, Op.intCmp, lfV, eqI, neI, ltI, leI, gtI, geI]; done)
theorem abinS_ok {op : BinOp} {p q : ByteArray} {t : TypeId} {l : Lf} {ob : List Prop} (h : abinS op p q = some (l, ob)) (ho : allP ob) : (binOp op t (.string p) (.string q)).run P w = .ok (lfV l) w ∧ LR w M φ l (lfV l) := by
  cases op <;> simp only [abinS] at h <;> first
    | (cases h; done)
    | (cases h
       have h1 := ho.1
       have : ¬ (IntKind.i64.max < ((p.size + q.size : Nat) : Int)) := by
         have : IntKind.i64.max = 9223372036854775807 := by decide
         omega
       refine ⟨?_, IR.str _⟩
       simp only [binOp, Op.stringOp]
       rw [if_neg this]; rfl)
    | (cases h; refine ⟨?_, IR.bool _⟩; simp [binOp, Op.stringOp, lfV, eqS, ltS]; done)
theorem sound_binOp (hob : allP r.obs) (hg : g) (hF : ∀ t, AR w M φ (L t) (a.tmps.getD t undef)) (hW : Wd Γ φ M hD w) {op : BinOp} {t u : TypeId} {x y : Operand} (ho : o.op = .binOp op t x y u) (hf : fopBin P L g op t x y hs = some r) :
    Yd P Γ φ M hD w base r ((execOp a.eval o).run P w) := by
  unfold fopBin at hf
  have hrun : ∀ v, (eqGuard op t x y (a.eval x) (a.eval y)).run P w = .ok () w → (binOp op t (a.eval x) (a.eval y)).run P w = .ok v w → (execOp a.eval o).run P w = .ok (.value v) w := fun v h1 h2 => by
    simp [execOp, ho, h1, h2]
  split at hf
  · rename_i cx o1 cy o2 h1 h2
    cases hb : abin P op t cx cy with
    | none => rw [hb] at hf; cases hf
    | some p =>
      obtain ⟨l, o3⟩ := p
      rw [hb] at hf; cases hf
      simp only [allP_append] at hob
      have hx := getGx_ok hF h1 hob.1.1 hg
      have hy := getGx_ok hF h2 hob.1.2 hg
      unfold abin at hb
      split at hb
      · rename_i k p k' q
        have hx' : IR w M (.int k p) (a.eval x) := hx
        have hy' : IR w M (.int k' q) (a.eval y) := hy
        generalize hvx : a.eval x = vx at hx' hrun
        generalize hvy : a.eval y = vy at hy' hrun
        cases hx'; cases hy'
        split at hb
        · cases hb
          have h0 : ¬ q < 0 := by have := hob.2.1; omega
          exact Yd.val (hrun (.int k (shlK k p q)) eqGuard_int (by simp [binOp, Op.shift, h0, shlK])) rfl (IR.int _ _) hW
        · cases hb
          have h0 : ¬ q < 0 := by have := hob.2.1; omega
          exact Yd.val (hrun (.int k (shrK k p q)) eqGuard_int (by simp [binOp, Op.shift, h0, shrK])) rfl (IR.int _ _) hW
        · by_cases hk : k = k'
          · subst hk
            rw [if_pos rfl] at hb
            obtain ⟨hv, hr⟩ := abinI_ok (P := P) (w := w) (M := M) (φ := φ) (t := t) hb hob.2
            exact Yd.val (hrun _ eqGuard_int hv) rfl hr hW
          · rw [if_neg hk] at hb; cases hb
      · rename_i p q
        have hx' : IR w M (.str p) (a.eval x) := hx
        have hy' : IR w M (.str q) (a.eval y) := hy
        generalize hvx : a.eval x = vx at hx' hrun
        generalize hvy : a.eval y = vy at hy' hrun
        cases hx'; cases hy'
        obtain ⟨hv, hr⟩ := abinS_ok (P := P) (w := w) (M := M) (φ := φ) (t := t) hb hob.2
        exact Yd.val (hrun _ eqGuard_str hv) rfl hr hW
      · rename_i p q
        have hx' : IR w M (.bool p) (a.eval x) := hx
        have hy' : IR w M (.bool q) (a.eval y) := hy
        generalize hvx : a.eval x = vx at hx' hrun
        generalize hvy : a.eval y = vy at hy' hrun
        cases hx'; cases hy'
        have heq : ∀ hu : P.underlying t = some .bool, (Op.equal t (.bool p) (.bool q)).run P w = .ok (eqB p q) w := fun hu => by
          have key : ∀ d, (Op.equalIn (d + 1) t (.bool p) (.bool q)).run P w = .ok (eqB p q) w := fun d => by simp [Op.equalIn, run_underlying hu, eqB]
          exact key 9999
        split at hb
        · rename_i hu; cases hb
          exact Yd.val (hrun (.bool (eqB p q)) eqGuard_bool (by simp [binOp, heq hu])) rfl (IR.bool _) hW
        · rename_i hu; cases hb
          exact Yd.val (hrun (.bool (!eqB p q)) eqGuard_bool (by simp [binOp, heq hu])) rfl (IR.bool _) hW
        · cases hb
      · rename_i xs ys
        split at hb
        · rename_i us hus
          obtain ⟨vx, hvx, hrx⟩ := hx
          obtain ⟨vy, hvy, hry⟩ := hy
          rw [hvx, hvy] at hrun
          have hflat : ∃ fs, P.underlying t = some (.struct fs) ∧ P.stoodInHeld t = false ∧ P.eqGuardType P.depth t = false ∧ flatU P 0 fs.toList = some us := by
            unfold flatT at hus
            split at hus
            · rename_i fs hu
              cases hc : (!P.stoodInHeld t && !P.eqGuardType P.depth t) with
              | false => rw [hc] at hus; cases hus
              | true =>
                rw [hc] at hus
                simp only [Bool.and_eq_true, Bool.not_eq_true'] at hc
                exact ⟨fs, hu, hc.1, hc.2, hus⟩
            · cases hus
          obtain ⟨fs, hu, hst, heg, hfl⟩ := hflat
          have heq0 : ∀ d e, eqLfs us xs ys = some e → (Op.equalIn (d + 1 + 1) t (.agg vx.toArray) (.agg vy.toArray)).run P w = .ok e w := fun d e he => by
            have h3 := eqLfs_ok (P := P) (w := w) (M := M) (φ := φ) (d := d) fs.toList 0 us xs ys e hfl he hrx hry
            rw [Array.forIn_toList] at h3
            unfold Op.equalIn
            simp only [Sem.run_bind, run_underlying hu, Result.andThen_ok, run_program, hst]
            simp only [Bool.false_eq_true, if_false, Sem.run_bind, Sem.run_pure, Result.andThen_ok]
            refine Eq.trans (congrArg (fun z => Result.andThen z _) h3) ?_
            cases e <;> simp
          have heq : ∀ e, eqLfs us xs ys = some e → (Op.equal t (.agg vx.toArray) (.agg vy.toArray)).run P w = .ok e w := fun e he => heq0 9998 e he
          clear heq0
          split at hb
          · rename_i e he; cases hb
            exact Yd.val (hrun (.bool e) (eqGuard_agg heg) (by simp [binOp, heq e he])) rfl (IR.bool _) hW
          · rename_i e he; cases hb
            exact Yd.val (hrun (.bool (!e)) (eqGuard_agg heg) (by simp [binOp, heq e he])) rfl (IR.bool _) hW
          · cases hb
        · cases hb
      · cases hb
  · cases hf
end
end Go.Proofs.YtjhhlmmmkgnhmaaDoor
