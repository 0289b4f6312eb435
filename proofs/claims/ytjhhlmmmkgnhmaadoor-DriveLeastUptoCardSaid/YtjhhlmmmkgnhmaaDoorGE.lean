/- The abstract machine is sound, part 1: relations under what a step leaves; operands. No program in sight. -/
import Derived.Test.YtjhhlmmmkgnhmaaDoorGD
namespace Go.Proofs.YtjhhlmmmkgnhmaaDoor
set_option linter.unusedSimpArgs false
set_option linter.unusedVariables false
set_option linter.unusedSectionVars false
open Go.RowKit

def NQ : Exit → Act → World → Prop := fun _ _ _ => False
theorem wp_nq {P : Program} {o : Oper} {a : Act} {w : World} {K K' : Act → World → Prop} {Q : Exit → Act → World → Prop} (h : ∀ a w, K a w → K' a w) (hh : o.wp P a w K NQ) : o.wp P a w K' Q := by
  unfold Oper.wp at *
  generalize (execOp a.eval o).run P w = r at *
  cases r with
  | ok nx w' =>
    cases nx <;> simp only [Oper.upon] at hh ⊢ <;>
      first
        | exact h _ _ hh
        | exact Calls.mono hh (fun e w'' he => by
            cases e with
            | returned v => exact h _ _ he
            | panicked c => exact he.elim
            | outgrown => obtain ⟨_, _, hf⟩ := he; exact hf.elim)
        | exact Rows.mono hh (fun _ _ he => h _ _ he)
  | halt x w' => cases x <;> simp only [Oper.upon] at hh ⊢ <;> exact hh.elim
/-! ### Lists -/
section
variable {α β γ : Type} {R R' : α → β → Prop}
theorem Rs.len : ∀ {xs : List α} {ys : List β}, Rs R xs ys → xs.length = ys.length
  | [], [], _ => rfl
  | _ :: xs, _ :: ys, h => by simp only [List.length_cons]; rw [Rs.len h.2]
  | [], _ :: _, h => h.elim
  | _ :: _, [], h => h.elim
theorem Rs.get : ∀ {xs : List α} {ys : List β} {i : Nat} {x : α}, Rs R xs ys → xs[i]? = some x → ∃ y, ys[i]? = some y ∧ R x y
  | [], _, _, _, _, h => by simp at h
  | _ :: _, [], _, _, h, _ => h.elim
  | x :: xs, y :: ys, 0, _, h, e => by simp at e; subst e; exact ⟨y, rfl, h.1⟩
  | x :: xs, y :: ys, i + 1, _, h, e => by
    obtain ⟨z, hz, hr⟩ := Rs.get (i := i) h.2 (by simpa using e)
    exact ⟨z, by simpa using hz, hr⟩
theorem Rs.mono (hR : ∀ x y, R x y → R' x y) : ∀ {xs : List α} {ys : List β}, Rs R xs ys → Rs R' xs ys
  | [], [], _ => trivial
  | _ :: _, _ :: _, h => ⟨hR _ _ h.1, Rs.mono hR h.2⟩
  | [], _ :: _, h => h.elim
  | _ :: _, [], h => h.elim
theorem Rs.append : ∀ {xs xs' : List α} {ys ys' : List β}, Rs R xs ys → Rs R xs' ys' → Rs R (xs ++ xs') (ys ++ ys')
  | [], _, [], _, _, h => h
  | _ :: _, _, _ :: _, _, h, h' => ⟨h.1, Rs.append h.2 h'⟩
  | [], _, _ :: _, _, h, _ => h.elim
  | _ :: _, _, [], _, h, _ => h.elim
theorem Rs.take : ∀ (n : Nat) {xs : List α} {ys : List β}, Rs R xs ys → Rs R (xs.take n) (ys.take n)
  | 0, _, _, _ => by simp [Rs]
  | n + 1, [], [], _ => by simp [Rs]
  | n + 1, _ :: _, _ :: _, h => ⟨h.1, Rs.take n h.2⟩
  | _, [], _ :: _, h => h.elim
  | _, _ :: _, [], h => h.elim
theorem Rs.drop : ∀ (n : Nat) {xs : List α} {ys : List β}, Rs R xs ys → Rs R (xs.drop n) (ys.drop n)
  | 0, _, _, h => h
  | n + 1, [], [], _ => by simp [Rs]
  | n + 1, _ :: _, _ :: _, h => Rs.drop n h.2
  | _, [], _ :: _, h => h.elim
  | _, _ :: _, [], h => h.elim
theorem Rs.of_get : ∀ {xs : List α} {ys : List β}, xs.length = ys.length → (∀ (i : Nat) (x : α) (y : β), xs[i]? = some x → ys[i]? = some y → R x y) → Rs R xs ys
  | [], [], _, _ => trivial
  | x :: xs, y :: ys, hl, h => ⟨h 0 x y rfl rfl, Rs.of_get (by simpa using hl) fun i a b ha hb => h (i + 1) a b (by simpa using ha) (by simpa using hb)⟩
  | [], _ :: _, hl, _ => by simp at hl
  | _ :: _, [], hl, _ => by simp at hl
theorem Rs.map_left {f : γ → α} : ∀ {xs : List γ} {ys : List β}, Rs (fun x y => R (f x) y) xs ys → Rs R (xs.map f) ys
  | [], [], _ => trivial
  | _ :: _, _ :: _, h => ⟨h.1, Rs.map_left h.2⟩
  | [], _ :: _, h => h.elim
  | _ :: _, [], h => h.elim
theorem Rs.imp_mem : ∀ {xs : List α} {ys : List β}, (∀ x ∈ xs, ∀ y, R x y → R' x y) → Rs R xs ys → Rs R' xs ys
  | [], [], _, _ => trivial
  | x :: _, _ :: _, hR, h => ⟨hR x (by simp) _ h.1, Rs.imp_mem (fun z hz => hR z (by simp [hz])) h.2⟩
  | [], _ :: _, _, h => h.elim
  | _ :: _, [], _, h => h.elim
theorem allP_append : ∀ {a b : List Prop}, allP (a ++ b) ↔ allP a ∧ allP b
  | [], b => by simp [allP]
  | p :: a, b => by simp only [List.cons_append, allP]; rw [allP_append]; exact and_assoc.symm
end

/-! ### What a step leaves -/
structure Ex (w : World) (M : Nat → Prop) (φ : Pl) (w' : World) (M' : Nat → Prop) (φ' : Pl) : Prop where
  blk : ∀ b, M b → w'.heap[b]? = w.heap[b]?
  sub : ∀ b, M b → M' b
  pl : ∀ id p, φ id = some p → φ' id = some p
theorem Ex.refl (w : World) (M : Nat → Prop) (φ : Pl) : Ex w M φ w M φ := ⟨fun _ _ => rfl, fun _ h => h, fun _ _ h => h⟩
theorem Ex.trans {w w1 w2 : World} {M M1 M2 : Nat → Prop} {φ φ1 φ2 : Pl} (h : Ex w M φ w1 M1 φ1) (k : Ex w1 M1 φ1 w2 M2 φ2) : Ex w M φ w2 M2 φ2 :=
  ⟨fun b hb => (k.blk b (h.sub b hb)).trans (h.blk b hb), fun b hb => k.sub b (h.sub b hb), fun id p hp => k.pl id p (h.pl id p hp)⟩
section
variable {w w' : World} {M M' : Nat → Prop} {φ φ' : Pl}
theorem IR.mono (hb : ∀ b, M b → w'.heap[b]? = w.heap[b]?) (hM : ∀ b, M b → M' b) {l : Lf} {v : Value} (h : IR w M l v) : IR w' M' l v := by
  induction h with
  | any v h => exact .any v h
  | int k n => exact .int k n
  | bool b => exact .bool b
  | str s => exact .str s
  | nilp => exact .nilp
  | nils => exact .nils
  | ip cells off b o vs hm hc _ ih => exact .ip cells off b o vs (hM b hm) (fun i l hl => (World.cell?_of_block (hb b hm)).trans (hc i l hl)) ih
  | sl0 cl sz a cap h => exact .sl0 cl sz a cap h
  | sl cl sz rows b o cap vs hm hl hcl hs hc _ ih => exact .sl cl sz rows b o cap vs (hM b hm) hl hcl hs (fun i c j l h1 h2 => (World.cell?_of_block (hb b hm)).trans (hc i c j l h1 h2)) ih
theorem IR.one {l : Lf} {v : Value} (h : IR w M l v) : v.oneCell' = true := by cases h <;> first | rfl | assumption
theorem LR0.mono (he : Ex w M φ w' M' φ') {l : Lf} {v : Value} (h : LR0 w M φ l v) : LR0 w' M' φ' l v := by
  cases l <;> first
    | exact IR.mono he.blk he.sub h
    | (obtain ⟨b, C, h1, h2⟩ := h; exact ⟨b, C, he.pl _ _ h1, h2⟩)
    | (rcases h with ⟨b, C, h1, h2⟩ | ⟨h1, h2⟩
       · exact .inl ⟨b, C, he.pl _ _ h1, h2⟩
       · exact .inr ⟨he.pl _ _ h1, h2⟩)
theorem LR0.one {l : Lf} {v : Value} (h : LR0 w M φ l v) : v.oneCell' = true := by
  cases l <;> first
    | exact IR.one h
    | (obtain ⟨b, C, h1, rfl⟩ := h; rfl)
    | (rcases h with ⟨b, C, h1, rfl, _⟩ | ⟨h1, _, _, a, rfl⟩ <;> rfl)
theorem LR_eq {l : Lf} {v : Value} (hn : isFn l = false) : LR w M φ l v = LR0 w M φ l v := by
  cases l <;> first | rfl | cases hn
theorem LR.split {l : Lf} {v : Value} (h : LR w M φ l v) : (isFn l = false ∧ LR0 w M φ l v) ∨ ∃ f caps vs, l = .fn f caps ∧ v = .func f #[] (List.toArray vs) ∧ Rs (LR0 w M φ) caps vs := by
  cases hf : isFn l with
  | false => rw [LR_eq hf] at h; exact .inl ⟨rfl, h⟩
  | true =>
    cases l <;> first | cases hf | skip
    obtain ⟨vs, h1, h2⟩ := h
    exact .inr ⟨_, _, vs, rfl, h1, h2⟩
theorem LR.mono (he : Ex w M φ w' M' φ') {l : Lf} {v : Value} (h : LR w M φ l v) : LR w' M' φ' l v := by
  rcases h.split with ⟨hf, h0⟩ | ⟨f, caps, vs, rfl, rfl, h2⟩
  · rw [LR_eq hf]; exact LR0.mono he h0
  · exact ⟨vs, rfl, h2.mono fun _ _ h => LR0.mono he h⟩
theorem LR.one {l : Lf} {v : Value} (h : LR w M φ l v) : v.oneCell' = true := by
  rcases h.split with ⟨hf, h0⟩ | ⟨f, caps, vs, rfl, rfl, h2⟩
  · exact LR0.one h0
  · rfl
theorem CR.mono (he : Ex w M φ w' M' φ') {c : Cm} {v : Value} (h : CR w M φ c v) : CR w' M' φ' c v := by
  cases c with
  | one l => exact LR.mono he h
  | agg ls => obtain ⟨vs, h1, h2⟩ := h; exact ⟨vs, h1, h2.mono fun _ _ h => LR.mono he h⟩
theorem AR.mono (he : Ex w M φ w' M' φ') {c : AV} {v : Value} (h : AR w M φ c v) : AR w' M' φ' c v := by
  cases c with
  | cm c => exact CR.mono he h
  | tup cs => obtain ⟨vs, h1, h2⟩ := h; exact ⟨vs, h1, h2.mono fun _ _ h => CR.mono he h⟩
  | gd p c => exact ⟨fun hp => CR.mono he (h.1 hp), h.2⟩
  | unk => trivial
  | boo => exact h
/-- A leaf that never turns is read as such. -/
theorem LR.imm {l : Lf} {v : Value} (hi : immL l = true) (h : LR w M φ l v) : IR w M l v := by
  cases l <;> first | exact h | cases hi
theorem IR.lr {l : Lf} {v : Value} (h : IR w M l v) : LR w M φ l v := by
  cases h with
  | any v h => exact IR.any v h
  | int k n => exact IR.int k n
  | bool b => exact IR.bool b
  | str s => exact IR.str s
  | nilp => exact IR.nilp
  | nils => exact IR.nils
  | ip cells off b o vs hm hc h => exact IR.ip cells off b o vs hm hc h
  | sl0 cl sz a cap h => exact IR.sl0 cl sz a cap h
  | sl cl sz rows b o cap vs hm hl hcl hs hc h => exact IR.sl cl sz rows b o cap vs hm hl hcl hs hc h
/-- The cells of a value. -/
theorem CR.cells {c : Cm} {v : Value} (h : CR w M φ c v) : Rs (LR w M φ) c.cells v.cells.toList := by
  cases c with
  | one l =>
    have h1 := LR.one h
    have : v.cells = #[v] := by cases v <;> first | rfl | cases h1
    rw [this]; exact ⟨h, trivial⟩
  | agg ls => obtain ⟨vs, rfl, h2⟩ := h; simpa [Value.cells, Cm.cells] using h2
theorem Rs.lr_one {ls : List Lf} {vs : List Value} (h : Rs (LR w M φ) ls vs) : ∀ v ∈ vs, v.oneCell' = true := by
  intro v hv
  obtain ⟨i, hi⟩ := List.mem_iff_getElem?.1 hv
  have hl := h.len
  have hlt : i < vs.length := (List.getElem?_eq_some_iff.1 hi).1
  obtain ⟨y, hy, hr⟩ := h.get (List.getElem?_eq_getElem (show i < ls.length by omega))
  rw [hi] at hy; cases hy; exact LR.one hr
end

/-! ### Operands -/
section
variable {w : World} {M : Nat → Prop} {φ : Pl} {L : Nat → AV} {a : Act}
theorem ofConst_ok {v : Value} {l : Lf} (h : ofConst v = some l) : LR w M φ l v := by
  unfold ofConst at h
  split at h
  · cases h; exact IR.int _ _
  · cases h; exact IR.bool _
  · cases h; exact IR.str _
  · cases h; exact IR.nilp
  · cases h; exact IR.nils
  · rename_i f first caps
    cases hc : (first.size == 0 && caps.size == 0) with
    | false => rw [hc] at h; cases h
    | true =>
      rw [hc] at h; cases h
      simp only [Bool.and_eq_true, beq_iff_eq] at hc
      obtain ⟨h1, h2⟩ := hc
      obtain rfl := Array.eq_empty_of_size_eq_zero h1
      obtain rfl := Array.eq_empty_of_size_eq_zero h2
      exact ⟨[], rfl, trivial⟩
  · cases h
theorem ofConsts_ok : ∀ {vs : List Value} {ls : List Lf}, ofConsts vs = some ls → Rs (LR w M φ) ls vs
  | [], _, h => by cases h; trivial
  | v :: vs, ls, h => by
    simp only [ofConsts] at h
    split at h
    · rename_i l ls' h1 h2
      cases h
      exact ⟨ofConst_ok h1, ofConsts_ok h2⟩
    · cases h
theorem constCm_ok {v : Value} {c : Cm} (h : constCm v = some c) : CR w M φ c v := by
  unfold constCm at h
  split at h
  · rename_i cs
    cases h1 : ofConsts cs.toList with
    | none => rw [h1] at h; cases h
    | some ls => rw [h1] at h; cases h; exact ⟨cs.toList, rfl, ofConsts_ok h1⟩
  · cases h1 : ofConst v with
    | none => rw [h1] at h; cases h
    | some l => rw [h1] at h; cases h; exact ofConst_ok h1
theorem aev_ok (hF : ∀ t, AR w M φ (L t) (a.tmps.getD t undef)) (x : Operand) : AR w M φ (aev L x) (a.eval x) := by
  cases x with
  | tmp t => exact hF t
  | const v =>
    unfold aev
    dsimp only
    split
    · rename_i c h; exact constCm_ok h
    · trivial
  | func f => exact ⟨[], rfl, trivial⟩
  | global g => trivial
theorem getG_ok {g : Prop} {v : AV} {cv : Value} {c : Cm} {o : List Prop} (h : getG g v = some (c, o)) (hv : AR w M φ v cv) (ho : allP o) (hg : g) : CR w M φ c cv := by
  cases v with
  | cm c' => cases h; exact hv
  | gd p c' => cases h; exact hv.1 (ho.1 hg)
  | tup cs => cases h
  | unk => cases h
  | boo => cases h
theorem getGx_ok {g : Prop} {x : Operand} {c : Cm} {o : List Prop} (hF : ∀ t, AR w M φ (L t) (a.tmps.getD t undef)) (h : getG g (aev L x) = some (c, o)) (ho : allP o) (hg : g) : CR w M φ c (a.eval x) :=
  getG_ok h (aev_ok hF x) ho hg
theorem argsG_ok {g : Prop} (hF : ∀ t, AR w M φ (L t) (a.tmps.getD t undef)) (hg : g) : ∀ {xs : List Operand} {cs : List Cm} {o : List Prop}, argsG L g xs = some (cs, o) → allP o → Rs (CR w M φ) cs (xs.map a.eval)
  | [], _, _, h, _ => by cases h; trivial
  | x :: xs, cs, o, h, ho => by
    simp only [argsG] at h
    split at h
    · rename_i c o1 cs' o2 h1 h2
      cases h
      rw [allP_append] at ho
      exact ⟨getGx_ok hF h1 ho.1 hg, argsG_ok hF hg h2 ho.2⟩
    · cases h
theorem partsG_ok {g : Prop} (hF : ∀ t, AR w M φ (L t) (a.tmps.getD t undef)) (hg : g) : ∀ {xs : List (Nat × Operand)} {cs : List (Nat × List Lf)} {o : List Prop}, partsG L g xs = some (cs, o) → allP o →
    Rs (fun (p : Nat × List Lf) (q : Nat × Value) => p.1 = q.1 ∧ Rs (LR w M φ) p.2 q.2.cells.toList) cs (xs.map fun (i, x) => (i, a.eval x))
  | [], _, _, h, _ => by cases h; trivial
  | (i, x) :: xs, cs, o, h, ho => by
    simp only [partsG] at h
    split at h
    · rename_i c o1 cs' o2 h1 h2
      cases h
      rw [allP_append] at ho
      exact ⟨⟨rfl, (getGx_ok hF h1 ho.1 hg).cells⟩, partsG_ok hF hg h2 ho.2⟩
    · cases h
def OptR (w : World) (M : Nat → Prop) (φ : Pl) (a : Act) : Option Operand → Option Cm → Prop
  | none, none => True
  | some x, some c => CR w M φ c (a.eval x)
  | _, _ => False
theorem optG_ok {g : Prop} (hF : ∀ t, AR w M φ (L t) (a.tmps.getD t undef)) (hg : g) {x : Option Operand} {c : Option Cm} {o : List Prop} (h : optG L g x = some (c, o)) (ho : allP o) : OptR w M φ a x c := by
  cases x with
  | none => cases h; trivial
  | some x =>
    simp only [optG] at h
    cases h1 : getG g (aev L x) with
    | none => rw [h1] at h; cases h
    | some p => obtain ⟨c', o'⟩ := p; rw [h1] at h; cases h; exact getGx_ok hF h1 ho hg
end

/-! ### Own objects and the world -/
section
variable {w w' : World} {M M' : Nat → Prop} {φ φ' : Pl} {Γ : Gam} {h h' : Nat → Option Ob}
theorem OR.mono {id : Nat} {ob : Ob} (he : Ex w M φ w' M' φ') (hO : OR w M φ id ob) (hblk : ∀ b C, φ id = some (some (b, C)) → w'.heap[b]? = w.heap[b]?) : OR w' M' φ' id ob := by
  obtain ⟨h0, h1⟩ := hO
  refine ⟨h0, ?_⟩
  cases hφ : φ id with
  | none => rw [hφ] at h1; exact h1.elim
  | some p =>
    rw [he.pl id p hφ]
    rw [hφ] at h1
    cases p with
    | none => exact h1
    | some bc =>
      obtain ⟨b, C⟩ := bc
      obtain ⟨cur, g1, g2, g3, g4, g5, g6⟩ := h1
      refine ⟨cur, (hblk b C hφ).trans g1, g2, g3, g4, g5, fun i c hc => ⟨(g6 i c hc).1, fun j l hl => ?_⟩⟩
      obtain ⟨v, hv, hr⟩ := (g6 i c hc).2 j l hl
      refine ⟨v, hv, ?_⟩
      split
      · rename_i hb; rw [if_pos hb] at hr; exact LR.mono he hr
      · rename_i hb; rw [if_neg hb] at hr; exact IR.mono he.blk he.sub hr
/-- Fewer objects. -/
theorem Wd.less (hW : Wd Γ φ M h w) (hs : ∀ id ob, h' id = some ob → h id = some ob) : Wd Γ φ M h' w :=
  ⟨fun id ob e => hW.obs id ob (hs id ob e), fun i j oi oj b Ci Cj hi hj => hW.inj i j oi oj b Ci Cj (hs _ _ hi) (hs _ _ hj), hW.mlt, hW.m0, hW.mold, fun id ob b C e => hW.own id ob b C (hs id ob e), hW.keep, hW.os, hW.tape, hW.output, hW.size, hW.pin⟩
/-- A world whose old blocks are as they were. -/
theorem Wd.grow (hW : Wd Γ φ M h w) (hb : Below w.heap.size w w') : Wd Γ φ M h w' := by
  have he : Ex w M φ w' M φ := ⟨fun b hm => hb.block b (hW.mlt b hm), fun _ h => h, fun _ _ h => h⟩
  exact ⟨fun id ob e => (hW.obs id ob e).mono he fun b C hφ => hb.block b (hW.own id ob b C e hφ).2.1, hW.inj, fun b hm => Nat.lt_of_lt_of_le (hW.mlt b hm) hb.size, hW.m0, hW.mold,
    fun id ob b C e hφ => ⟨(hW.own id ob b C e hφ).1, Nat.lt_of_lt_of_le (hW.own id ob b C e hφ).2.1 hb.size, (hW.own id ob b C e hφ).2.2⟩,
    fun b hlt hn => (hb.block b (Nat.lt_of_lt_of_le hlt hW.size)).trans (hW.keep b hlt hn), hb.os.trans hW.os, hb.tape.trans hW.tape, hb.output.trans hW.output, Nat.le_trans hW.size hb.size, hW.pin⟩
theorem Wd.ex_grow (hW : Wd Γ φ M h w) (hb : Below w.heap.size w w') : Ex w M φ w' M φ := ⟨fun b hm => hb.block b (hW.mlt b hm), fun _ h => h, fun _ _ h => h⟩
def upP (φ : Pl) (id : Nat) (p : Option (Nat × Nat)) : Pl := fun i => if i = id then some p else φ i
theorem upP_self (φ : Pl) (id : Nat) (p : Option (Nat × Nat)) : upP φ id p id = some p := if_pos rfl
theorem upP_ne {φ : Pl} {id i : Nat} (p : Option (Nat × Nat)) (hne : i ≠ id) : upP φ id p i = φ i := if_neg hne
theorem upP_pl {φ : Pl} {id : Nat} (p : Option (Nat × Nat)) (hn : φ id = none) : ∀ i q, φ i = some q → upP φ id p i = some q := fun i q hq => by
  rw [upP_ne]; · exact hq
  · rintro rfl; rw [hn] at hq; cases hq
/-- A new object. -/
theorem Wd.new (hW : Wd Γ φ M h w) {id : Nat} (ob : Ob) {b C : Nat} (hφ : φ id = none) (hh : h id = none) (hb : Below w.heap.size w w') (hbs : w.heap.size ≤ b) (hbl : b < w'.heap.size)
    (hO : OR w' M (upP φ id (some (b, C))) id ob) : Wd Γ (upP φ id (some (b, C))) M (fun i => if i = id then some ob else h i) w' := by
  have hW' := hW.grow hb
  have he : Ex w' M φ w' M (upP φ id (some (b, C))) := ⟨fun _ _ => rfl, fun _ h => h, upP_pl _ hφ⟩
  have hpi : ∀ i o, h i = some o → i ≠ id := fun i o e => by rintro rfl; rw [hh] at e; cases e
  refine ⟨fun i o e => ?_, fun i j oi oj c Ci Cj hi hj pi pj => ?_, hW'.mlt, hW'.m0, hW'.mold, fun i o c C' e p => ?_, hW'.keep, hW'.os, hW'.tape, hW'.output, hW'.size, fun p hp => he.pl _ _ (hW.pin p hp)⟩
  · by_cases hi : i = id
    · subst hi; rw [if_pos rfl] at e; cases e; exact hO
    · rw [if_neg hi] at e; exact (hW'.obs i o e).mono he fun _ _ _ => rfl
  · have key : ∀ {k : Nat} {o : Ob} {c Ck : Nat}, k ≠ id → h k = some o → upP φ id (some (b, C)) k = some (some (c, Ck)) → c < w.heap.size := fun hk ho hp => by
      rw [upP_ne _ hk] at hp; exact (hW.own _ _ _ _ ho hp).2.1
    by_cases hi' : i = id <;> by_cases hj' : j = id
    · rw [hi', hj']
    · subst hi'; rw [upP_self] at pi; cases pi; rw [if_neg hj'] at hj; have := key hj' hj pj; omega
    · subst hj'; rw [upP_self] at pj; cases pj; rw [if_neg hi'] at hi; have := key hi' hi pi; omega
    · rw [if_neg hi'] at hi; rw [if_neg hj'] at hj; rw [upP_ne _ hi'] at pi; rw [upP_ne _ hj'] at pj; exact hW.inj i j oi oj c Ci Cj hi hj pi pj
  · by_cases hi : i = id
    · subst hi; rw [upP_self] at p; cases p
      exact ⟨fun hm => by have := hW.mlt _ hm; omega, hbl, .inr (Nat.le_trans hW.size hbs)⟩
    · rw [if_neg hi] at e; rw [upP_ne _ hi] at p; exact hW'.own i o c C' e p
/-- A new object that lies nowhere yet. -/
theorem Wd.newNil (hW : Wd Γ φ M h w) {id : Nat} (ob : Ob) (hφ : φ id = none) (hh : h id = none) (hr : ob.rows = []) (hbx : ob.box = false) (hs : 0 < ob.sz) :
    Wd Γ (upP φ id none) M (fun i => if i = id then some ob else h i) w := by
  have he : Ex w M φ w M (upP φ id none) := ⟨fun _ _ => rfl, fun _ h => h, upP_pl _ hφ⟩
  refine ⟨fun i o e => ?_, fun i j oi oj c Ci Cj hi hj pi pj => ?_, hW.mlt, hW.m0, hW.mold, fun i o c C' e p => ?_, hW.keep, hW.os, hW.tape, hW.output, hW.size, fun p hp => he.pl _ _ (hW.pin p hp)⟩
  · by_cases hi : i = id
    · subst hi; rw [if_pos rfl] at e; cases e; refine ⟨hs, ?_⟩; rw [upP_self]; exact ⟨hr, hbx⟩
    · rw [if_neg hi] at e; exact (hW.obs i o e).mono he fun _ _ _ => rfl
  · by_cases hi' : i = id
    · subst hi'; rw [upP_self] at pi; cases pi
    · by_cases hj' : j = id
      · subst hj'; rw [upP_self] at pj; cases pj
      · rw [if_neg hi'] at hi; rw [if_neg hj'] at hj; rw [upP_ne _ hi'] at pi; rw [upP_ne _ hj'] at pj; exact hW.inj i j oi oj c Ci Cj hi hj pi pj
  · by_cases hi : i = id
    · subst hi; rw [upP_self] at p; cases p
    · rw [if_neg hi] at e; rw [upP_ne _ hi] at p; exact hW.own i o c C' e p
/-- An object of the call's own is written to. -/
theorem Wd.turn (hW : Wd Γ φ M h w) {id : Nat} {ob ob' : Ob} {b C : Nat} (hh : h id = some ob) (hφ : φ id = some (some (b, C))) (hother : ∀ k, k ≠ b → w'.heap[k]? = w.heap[k]?) (hsz : w'.heap.size = w.heap.size)
    (hos : w'.os = w.os) (htp : w'.tape = w.tape) (hout : w'.output = w.output) (hO : OR w' M φ id ob') : Wd Γ φ M (fun i => if i = id then some ob' else h i) w' := by
  obtain ⟨hm, hlt, hown⟩ := hW.own id ob b C hh hφ
  have he : Ex w M φ w' M φ := ⟨fun c hc => hother c fun e => hm (e ▸ hc), fun _ h => h, fun _ _ h => h⟩
  have hsome : ∀ i o, (fun i => if i = id then some ob' else h i) i = some o → ∃ o', h i = some o' := fun i o e => by
    by_cases hi : i = id
    · subst hi; exact ⟨ob, hh⟩
    · simp only [if_neg hi] at e; exact ⟨o, e⟩
  refine ⟨fun i o e => ?_, fun i j oi oj c Ci Cj hi hj pi pj => ?_, fun c hc => by rw [hsz]; exact hW.mlt c hc, hW.m0, hW.mold, fun i o c C' e p => ?_, fun c hc hn => ?_, hos.trans hW.os, htp.trans hW.tape, hout.trans hW.output, by rw [hsz]; exact hW.size, hW.pin⟩
  · by_cases hi : i = id
    · subst hi; simp only [if_true] at e; cases e; exact hO
    · simp only [if_neg hi] at e
      exact (hW.obs i o e).mono he fun c C' hp => hother c fun hc => hi (hW.inj i id o ob b C' C e hh (hc ▸ hp) hφ)
  · obtain ⟨oi', hi'⟩ := hsome i oi hi
    obtain ⟨oj', hj'⟩ := hsome j oj hj
    exact hW.inj i j oi' oj' c Ci Cj hi' hj' pi pj
  · obtain ⟨o', ho'⟩ := hsome i o e
    rw [hsz]; exact hW.own i o' c C' ho' p
  · rw [hother c fun e => ?_]
    · exact hW.keep c hc hn
    · subst e
      rcases hown with h1 | h1
      · exact hn h1
      · omega
end
end Go.Proofs.YtjhhlmmmkgnhmaaDoor
