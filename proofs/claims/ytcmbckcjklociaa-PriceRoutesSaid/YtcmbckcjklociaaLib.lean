/- Lemmas over any program: worlds that extend a world ('over'), and regions that draw their order, walked by class of worlds. No program in sight. -/
import Derived.WalkKit
import Derived.WalkSpells
import Derived.WalkLawsBesides
import Derived.StillTail
import Derived.Deep.QuietTactic
import Derived.BigQuiet
import Derived.Lib.Hide
namespace Go.Proofs.Ytcmbckcjklociaa
open Go.RowKit

/-- W with what x has more: whatever x is, it extends W. -/
def over (W x : World) : World := { heap := W.heap ++ x.heap.extract W.heap.size x.heap.size, tape := W.tape, drawn := x.drawn, os := W.os, output := W.output }

theorem over_below (W x : World) : Below W.heap.size W (over W x) := by
  refine ⟨rfl, rfl, rfl, by simp [over], fun k hk => ?_⟩
  simp only [over]
  rw [Array.getElem?_append_left hk]

theorem over_of {W w : World} (h : Below W.heap.size W w) : ∃ x, w = over W x := by
  refine ⟨w, ?_⟩
  obtain ⟨heap, tape, drawn, os, output⟩ := w
  obtain ⟨h1, h2, h3, h4, h5⟩ := h
  simp only at h1 h2 h3 h4 h5
  subst h1 h2 h3
  simp only [over, World.mk.injEq, and_true]
  apply Array.ext_getElem?
  intro k
  rcases Nat.lt_or_ge k W.heap.size with hk | hk
  · rw [Array.getElem?_append_left hk]; exact h5 k hk
  · rw [Array.getElem?_append_right hk, Array.getElem?_extract]
    simp only [Nat.min_self]
    rcases Nat.lt_or_ge k heap.size with h6 | h6
    · rw [if_pos (by omega)]; congr 1; omega
    · rw [if_neg (by omega), Array.getElem?_eq_none h6]

theorem below_over {B : Nat} {a W : World} (h : Below B a W) (hB : B ≤ W.heap.size) (x : World) : Below B a (over W x) := h.trans ((over_below W x).mono hB)
theorem over_size (W x : World) : W.heap.size ≤ (over W x).heap.size := (over_below W x).size
theorem over_cell {W x : World} {b o : Nat} {s : Option Nat} (h : b < W.heap.size) : (over W x).cell? ⟨b, o, s⟩ = W.cell? ⟨b, o, s⟩ := (over_below W x).cell (p := ⟨b, o, s⟩) h
theorem over_frozen {W x : World} {b o : Nat} {s : Option Nat} (h : b < W.heap.size) : (over W x).frozen? ⟨b, o, s⟩ = W.frozen? ⟨b, o, s⟩ := (over_below W x).frozen (p := ⟨b, o, s⟩) h
theorem lt_over {W x : World} {b : Nat} (h : b < W.heap.size) : (b < (over W x).heap.size) = True := by
  have := over_size W x; simp; omega
theorem lt_over_add {W x : World} {b k : Nat} (h : b < W.heap.size) : (b < (over W x).heap.size + k) = True := by
  have := over_size W x; simp; omega
theorem ne_over {W x : World} {b : Nat} (h : b < W.heap.size) : (b = (over W x).heap.size) = False := by
  have := over_size W x; simp; omega
theorem ne_over' {W x : World} {b : Nat} (h : b < W.heap.size) : ((over W x).heap.size = b) = False := by
  have := over_size W x; simp; omega
theorem over_over {W x y : World} (hW : Below W.heap.size W x) : ∃ z, over x y = over W z := over_of (hW.trans ((over_below x y).mono hW.size))
theorem over_self (W : World) : over W W = W := by
  have h : W.heap.extract W.heap.size W.heap.size = #[] := by simp
  simp only [over, h]; simp
theorem over_drew (W : World) : ∃ x, W.drew = over W x := over_of ((Below.refl _ _).drew)

/-! Regions that draw their order. -/
section
variable {P : Program} {ops : Array Oper} {md : Region.Mode} {n : Nat} {T : Array Bool → Act → World → Prop}

def NoQ : Exit → Act → World → Prop := fun _ _ _ => False

def mOp (P : Program) (ops : Array Oper) (i : Nat) (K : Act → World → Prop) (a : Act) (w : World) : Prop :=
  match ops[i]? with
  | none => K a w
  | some o => if Region.wanted o (yielded ops a.tmps) = true then o.wp P a w K NoQ else K (a.put o.dst undef) w

theorem wp_noQ {o : Oper} {a : Act} {w : World} {K K' : Act → World → Prop} {Q : Exit → Act → World → Prop} (h : ∀ a w, K a w → K' a w) (hh : o.wp P a w K NoQ) : o.wp P a w K' Q := by
  unfold Oper.wp at *
  generalize (execOp a.eval o).run P w = r at *
  cases r with
  | ok nx w' =>
    cases nx <;> simp only [Oper.upon] at hh ⊢ <;>
      first
        | exact h _ _ hh
        | exact Calls.mono hh (fun e w'' he => by
            cases e with
            | returned v => exact h _ _ he
            | panicked c => exact he.elim
            | outgrown => obtain ⟨_, _, hf⟩ := he; exact hf.elim)
        | exact Rows.mono hh (fun _ _ he => h _ _ he)
  | halt x w' => cases x <;> simp only [Oper.upon] at hh ⊢ <;> exact hh.elim

theorem mOp_mono {i : Nat} {a : Act} {w : World} {K K' : Act → World → Prop} (h : ∀ a w, K a w → K' a w) (hh : mOp P ops i K a w) : mOp P ops i K' a w := by
  unfold mOp at *
  split
  · exact h _ _ (by simpa [*] using hh)
  · rename_i o ho
    simp only [ho] at hh
    split
    · rename_i hw; simp only [hw, if_true] at hh; exact wp_noQ h hh
    · rename_i hw; simp only [hw] at hh; exact h _ _ hh

theorem wpOp_of_mOp {i : Nat} {a : Act} {w : World} {K K' : Act → World → Prop} {Q : Exit → Act → World → Prop} (h : ∀ a w, K a w → K' a w) (hh : mOp P ops i K a w) : wpOp P ops Q i K' a w := by
  unfold mOp at hh
  unfold wpOp
  split
  · rename_i ho; simp only [ho] at hh; exact h _ _ hh
  · rename_i o ho
    simp only [ho] at hh
    split
    · rename_i hw; simp only [hw, if_true] at hh; exact .inl (wp_noQ h hh)
    · rename_i hw; simp only [hw] at hh; exact h _ _ hh

/-- Whatever order is picked, in whatever world extends the one at hand. -/
def wpM (P : Program) (md : Region.Mode) (ops : Array Oper) (n : Nat) (T : Array Bool → Act → World → Prop) : Nat → Array Bool → Act → World → Prop
  | 0, listed, a, W => T listed a W
  | f + 1, listed, a, W => Region.ready md ops listed ≠ [] ∧ ∀ i ∈ Region.ready md ops listed, i < n ∧ ∀ x,
      mOp P ops i (fun a' w' => Below (over W x).heap.size (over W x) w' ∧ wpM P md ops n T f (listed.setIfInBounds i true) a' w') a (over W x)

theorem wpM_world (hT : ∀ listed a W w', Below W.heap.size W w' → T listed a W → T listed a w') : ∀ (f : Nat) (listed : Array Bool) (a : Act) (W w' : World), Below W.heap.size W w' →
    wpM P md ops n T f listed a W → wpM P md ops n T f listed a w'
  | 0, _, _, _, _, hb, h => hT _ _ _ _ hb h
  | f + 1, listed, a, W, w', hb, h => ⟨h.1, fun i hi => ⟨(h.2 i hi).1, fun x => by
      obtain ⟨z, hz⟩ := over_over (y := x) hb
      rw [hz]; exact (h.2 i hi).2 z⟩⟩

theorem wpAny_of_M {g : Nat} {Q : Exit → Act → World → Prop} (hT : ∀ listed a W, T listed a W → ∀ x, wpAny P md ops Q g listed a (over W x)) :
    ∀ (f : Nat) (listed : Array Bool) (a : Act) (W : World), wpM P md ops n T f listed a W → ∀ x, wpAny P md ops Q (f + g) listed a (over W x)
  | 0, listed, a, W, h, x => by rw [Nat.zero_add]; exact hT _ _ _ h x
  | f + 1, listed, a, W, h, x => by
    rw [show f + 1 + g = (f + g) + 1 by omega]
    exact ⟨fun h0 => absurd h0 h.1, fun i hi => wpOp_of_mOp (fun a' w' h' => by
      have h2 := wpAny_of_M hT f _ a' w' h'.2 w'
      rw [over_self] at h2
      exact h2) ((h.2 i hi).2 x)⟩

/-- What one operation yields, the value v, and a world that extends the one it got. -/
def yUpon (P : Program) (w : World) (v : Value) : Result Next → Prop
  | .ok (.value u) w' => w' = w ∧ u = v
  | .ok .skip w' => w' = w ∧ v = undef
  | .ok (.enter f args) w' => w' = w ∧ Calls P f args w (fun e w'' => e = .returned v ∧ Below w.heap.size w w'')
  | _ => False

def oYields (P : Program) (o : Oper) (a : Act) (W : World) (v : Value) : Prop := ∀ x, yUpon P (over W x) v ((execOp a.eval o).run P (over W x))
def oQuiet (P : Program) (o : Oper) (a : Act) (W : World) (K : Act → Prop) : Prop := ∃ v, oYields P o a W v ∧ K (a.put o.dst v)

def YieldsOver (P : Program) (ops : Array Oper) (W : World) (o : Oper) (v : Value) (a : Act) : Prop :=
  (Region.wanted o (yielded ops a.tmps) = true ∧ oYields P o a W v) ∨ (Region.wanted o (yielded ops a.tmps) = false ∧ v = undef)

theorem YieldsOver.of_same {W : World} {o : Oper} {v : Value} {a a' : Act} (hy : YieldsOver P ops W o v a) (he : execOp a'.eval o = execOp a.eval o)
    (hw : Region.wanted o (yielded ops a'.tmps) = Region.wanted o (yielded ops a.tmps)) : YieldsOver P ops W o v a' := by
  unfold YieldsOver oYields at *
  rw [he, hw]
  exact hy

theorem YieldsOver.world {W w' : World} {o : Oper} {v : Value} {a : Act} (hb : Below W.heap.size W w') (hy : YieldsOver P ops W o v a) : YieldsOver P ops w' o v a := by
  rcases hy with ⟨h1, h2⟩ | h
  · refine .inl ⟨h1, fun x => ?_⟩
    obtain ⟨z, hz⟩ := over_over (y := x) hb
    rw [hz]; exact h2 z
  · exact .inr h

theorem YieldsOver.mOp {W : World} {i : Nat} {o : Oper} {v : Value} {a : Act} (hi : ops[i]? = some o) (hy : YieldsOver P ops W o v a) (x : World) {K : Act → World → Prop}
    (h : ∀ w', Below (over W x).heap.size (over W x) w' → K (a.put o.dst v) w') : mOp P ops i K a (over W x) := by
  unfold Go.Proofs.Ytcmbckcjklociaa.mOp
  simp only [hi]
  rcases hy with ⟨hw, hv⟩ | ⟨hw, rfl⟩
  · simp only [hw, if_true]
    have h3 := hv x
    unfold Oper.wp
    generalize (execOp a.eval o).run P (over W x) = r at *
    cases r with
    | ok nx w' =>
      cases nx <;> simp only [yUpon] at h3 <;> simp only [Oper.upon]
      case value u =>
        obtain ⟨e1, e2⟩ := h3
        rw [e1, e2]
        exact h _ (Below.refl _ _)
      case skip =>
        obtain ⟨e1, e2⟩ := h3
        rw [e1, ← e2]
        exact h _ (Below.refl _ _)
      case enter f args =>
        obtain ⟨e1, hc⟩ := h3
        rw [e1]
        exact hc.mono fun e w'' ⟨he, hw''⟩ => by subst he; exact h _ hw''
    | halt y w' => simp only [yUpon] at h3
  · simp only [hw, Bool.false_eq_true, if_false]; exact h _ (Below.refl _ _)

theorem mOp_put {W : World} {j : Nat} {oi oj : Oper} {v : Value} (hj : ops[j]? = some oj) (hap : oi.apart ops oj = true)
    (hsi : ∀ cs b, oi.op ≠ .select cs b) (hsj : ∀ cs b, oj.op ≠ .select cs b) {K : Act → World → Prop} {a : Act} {w : World}
    (hy : YieldsOver P ops W oi v a) (h : mOp P ops j K (a.put oi.dst v) w) :
    mOp P ops j (fun a' w' => YieldsOver P ops W oi v a' ∧ K (a'.put oi.dst v) w') a w := by
  obtain ⟨h1, h2, h3⟩ := Oper.apart_spec hap
  have keep : ∀ (a : Act), YieldsOver P ops W oi v a → ∀ u, YieldsOver P ops W oi v (a.put oj.dst u) := fun a hy u =>
    hy.of_same (execOp_put oi hsi a oj.dst u h3) (wanted_put oi a oj.dst u h3)
  have keepD : ∀ d, YieldsOver P ops W oi v { a with defers := d :: a.defers } := fun d => hy.of_same rfl rfl
  unfold mOp at *
  simp only [hj] at *
  rw [wanted_put oj a oi.dst v h1] at h
  split
  · rename_i hw
    simp only [hw, if_true] at h
    unfold Oper.wp at *
    rw [execOp_put oj hsj a oi.dst v h1] at h
    generalize (execOp a.eval oj).run P w = r at *
    cases r with
    | ok nx w' =>
      cases nx <;> simp only [Oper.upon] at h ⊢
      case value u => exact ⟨keep a hy u, by rw [← Act.put_comm a v u h2]; exact h⟩
      case skip => exact ⟨keep a hy _, by rw [← Act.put_comm a v undef h2]; exact h⟩
      case defer d =>
        refine ⟨keep _ (keepD d) _, ?_⟩
        rw [← Act.put_comm _ v undef h2, ← Act.put_defers]
        exact h
      case enter f args =>
        refine Calls.mono h fun e w'' he => ?_
        cases e with
        | returned u => exact ⟨keep a hy u, by rw [← Act.put_comm a v u h2]; exact he⟩
        | panicked c => exact he
        | outgrown => exact he
      case row row args => exact Rows.mono h fun u w'' he => ⟨keep a hy u, by rw [← Act.put_comm a v u h2]; exact he⟩
    | halt y w' =>
      cases y <;> simp only [Oper.upon] at h ⊢
      case panic u => exact h
  · rename_i hw
    simp only [hw] at h
    exact ⟨keep a hy _, by rw [← Act.put_comm a v undef h2]; exact h⟩

theorem wpM_first {i : Nat} {oi : Oper} {v : Value} (hi : ops[i]? = some oi) (hsel : ∀ (j : Nat) (o : Oper) cs b, ops[j]? = some o → o.op ≠ .select cs b)
    (hwait : ∀ listed, HeadInv md ops n listed → ∀ i, i < n → listed.getD i true = false → ∀ t, n ≤ t → t ∉ Region.ready md ops listed) (hin : i < n)
    (hT : ∀ listed a W w', Below W.heap.size W w' → T listed a W → T listed a w') (hdone : ∀ listed a W, T listed a W → ∀ j ∈ Region.ready md ops listed, n ≤ j) :
    ∀ (f : Nat) (listed : Array Bool) (a : Act) (W : World), HeadInv md ops n listed →
      (∀ j oj, ops[j]? = some oj → j ≠ i → listed.getD j true = false → (∀ e ∈ oj.after, Region.binds md e = true → e.on ≠ i) → oi.apart ops oj = true) →
      i ∈ Region.ready md ops listed → YieldsOver P ops W oi v a →
      wpM P md ops n T f (listed.setIfInBounds i true) (a.put oi.dst v) W → wpM P md ops n T (f + 1) listed a W := by
  intro f
  induction f with
  | zero =>
    intro listed a W inv _ hr hy H
    have hun := (mem_ready.1 hr).1
    refine ⟨fun h => (by rw [h] at hr; cases hr), fun j hj => ?_⟩
    have hjn : j < n := by
      rcases Nat.lt_or_ge j n with h | h
      · exact h
      · exact absurd hj (hwait listed inv i hin hun j h)
    refine ⟨hjn, fun x => ?_⟩
    by_cases hji : j = i
    · subst hji
      exact hy.mOp hi x fun w' hb => ⟨hb, hT _ _ _ _ ((over_below W x).trans (hb.mono (over_size W x))) H⟩
    · have := hdone _ _ _ H j (ready_mono hj hji)
      omega
  | succ f ih =>
    intro listed a W inv hfree hr hy H
    have hun := (mem_ready.1 hr).1
    refine ⟨fun h => (by rw [h] at hr; cases hr), fun j hj => ?_⟩
    have hjn : j < n := by
      rcases Nat.lt_or_ge j n with h | h
      · exact h
      · exact absurd hj (hwait listed inv i hin hun j h)
    refine ⟨hjn, fun x => ?_⟩
    by_cases hji : j = i
    · subst hji
      exact hy.mOp hi x fun w' hb => ⟨hb, wpM_world hT _ _ _ _ _ ((over_below W x).trans (hb.mono (over_size W x))) H⟩
    · have h1 := (H.2 j (ready_mono hj hji)).2 x
      obtain ⟨hjun, oj, hoj, hall⟩ := mem_ready.1 hj
      have hnot : ∀ e ∈ oj.after, Region.binds md e = true → e.on ≠ i := fun e he hb heq => by
        have h1 := hall e he hb
        rw [heq, getD_both hun] at h1
        cases h1
      have h2 := mOp_put hoj (hfree j oj hoj hji hjun hnot) (fun cs b => hsel i oi cs b hi) (fun cs b => hsel j oj cs b hoj) hy h1
      have hfree' : ∀ k ok, ops[k]? = some ok → k ≠ i → (listed.setIfInBounds j true).getD k true = false →
          (∀ e ∈ ok.after, Region.binds md e = true → e.on ≠ i) → oi.apart ops ok = true := fun k ok hk hki hun hno => by
        refine hfree k ok hk hki ?_ hno
        by_cases hjk : j = k
        · subst hjk; exact hjun
        · rw [getD_set_ne true hjk] at hun; exact hun
      refine mOp_mono (fun a' w' h3 => ⟨h3.2.1, ih (listed.setIfInBounds j true) a' w' (inv.set hj hjn) hfree' (ready_mono hr (Ne.symm hji)) (h3.1.world ((over_below W x).trans (h3.2.1.mono (over_size W x)))) ?_⟩) h2
      rw [Array.setIfInBounds_comm _ _ hji]
      exact h3.2.2
end

section
variable {P : Program} {l : List Oper} {n : Nat} {Q : Exit → Act → World → Prop}

/-- The end: the tail is forced, and is walked in whatever world extends the one at hand. -/
def tailT (P : Program) (l : List Oper) (n : Nat) (Q : Exit → Act → World → Prop) (listed : Array Bool) (a : Act) (W : World) : Prop :=
  Region.seqB .any l.toArray (l.length - n) n listed = true ∧ ∀ x, wpList P l.toArray Q (l.drop n) a (over W x)

def mixB (l : List Oper) (n : Nat) : Bool :=
  Region.noSelect l.toArray && (decide (n = l.length) || (decide (n < l.length) && Region.sinkB .any l.toArray n && Region.chainB .any l.toArray n))

theorem tailT_world (listed : Array Bool) (a : Act) (W w' : World) (hb : Below W.heap.size W w') (h : tailT P l n Q listed a W) : tailT P l n Q listed a w' :=
  ⟨h.1, fun x => by
    obtain ⟨z, hz⟩ := over_over (y := x) hb
    rw [hz]; exact h.2 z⟩

theorem mix_wait (hB : mixB l n = true) : ∀ listed, HeadInv .any l.toArray n listed → ∀ i, i < n → listed.getD i true = false → ∀ t, n ≤ t → t ∉ Region.ready .any l.toArray listed := by
  simp only [mixB, Bool.and_eq_true, Bool.or_eq_true, decide_eq_true_eq] at hB
  intro listed inv i hi hun t ht
  rcases hB.2 with h | ⟨⟨h1, h2⟩, h3⟩
  · intro hr
    obtain ⟨_, o, ho, _⟩ := mem_ready.1 hr
    have : t < l.length := by simpa using (Array.getElem?_eq_some_iff.1 ho).1
    omega
  · exact tail_waits h2 h3 (by simpa using h1) inv _ i rfl hi hun t ht

/-- Which operations have come up, as a table. -/
def listedOf (m : Nat) (done : List Nat) : Array Bool := ((List.range m).map fun i => done.contains i).toArray
theorem listedOf_set (m i : Nat) (done : List Nat) : (listedOf m done).setIfInBounds i true = listedOf m (i :: done) := by
  apply Array.ext_getElem?
  intro k
  simp only [listedOf, Array.getElem?_setIfInBounds, List.getElem?_toArray, List.getElem?_map, List.size_toArray, List.length_map, List.length_range]
  by_cases h : i = k
  · subst h
    rcases Nat.lt_or_ge i m with h2 | h2
    · simp [h2]
    · simp [Nat.not_lt.2 h2]
  · rw [if_neg h]
    rcases Nat.lt_or_ge k m with h2 | h2
    · simp only [h2, List.getElem?_range, Option.map_some, List.contains_cons, Option.some.injEq]
      have h3 : (k == i) = false := by simpa using fun e => h e.symm
      rw [h3, Bool.false_or]
    · simp [Nat.not_lt.2 h2]
theorem listedOf_nil (m : Nat) : listedOf m [] = Array.replicate m false := by
  apply Array.ext_getElem?
  intro k
  rcases Nat.lt_or_ge k m with h2 | h2
  · simp [listedOf, h2]
  · simp [listedOf, Nat.not_lt.2 h2]

def headB (l : List Oper) (n : Nat) (listed : Array Bool) : Bool :=
  decide (listed.size = l.length) && ((List.range l.length).all fun j => !listed.getD j false || match l.toArray[j]? with
    | some oj => oj.after.all fun e => !Region.binds .any e || listed.getD e.on false
    | none => true) && ((List.range l.length).all fun t => decide (t < n) || !listed.getD t true)
theorem headB_inv {listed : Array Bool} (h : headB l n listed = true) : HeadInv .any l.toArray n listed := by
  simp only [headB, Bool.and_eq_true, decide_eq_true_eq, List.all_eq_true, List.mem_range, Bool.or_eq_true] at h
  obtain ⟨⟨h1, h2⟩, h3⟩ := h
  refine ⟨by simpa using h1, fun j oj hj hl e he hb => ?_, fun t ht ht' => ?_⟩
  · have hjl : j < l.length := by simpa using (Array.getElem?_eq_some_iff.1 hj).1
    rcases h2 j hjl with h4 | h4
    · simp only [Bool.not_eq_true'] at h4
      rw [h4] at hl; cases hl
    · rw [hj] at h4
      simp only [Array.all_eq_true_iff_forall_mem] at h4
      have h5 := h4 e he
      simp only [Bool.or_eq_true, hb, Bool.not_true, Bool.false_eq_true, false_or] at h5
      exact h5
  · rcases h3 t (by simpa using ht') with h4 | h4
    · omega
    · simpa using h4

/-- The region's walk: 'done' have come up, f of the first n have not. -/
def MX (P : Program) (l : List Oper) (n : Nat) (Q : Exit → Act → World → Prop) (f : Nat) (done : List Nat) (a : Act) (W : World) : Prop :=
  wpM P .any l.toArray n (tailT P l n Q) f (listedOf l.length done) a W

def stepB (l : List Oper) (n i : Nat) (done : List Nat) : Bool :=
  decide (i < n) && (Region.ready .any l.toArray (listedOf l.length done)).contains i && Region.free .any l.toArray (listedOf l.length done) i && headB l n (listedOf l.length done) && mixB l n

/-- One operation that yields one value in every world that extends the one at hand is taken first. -/
theorem mix_step {f : Nat} {done : List Nat} {a : Act} {W : World} (i : Nat) {o : Oper} (hi : l.toArray[i]? = some o) (hS : stepB l n i done = true)
    (h : ∀ K : Act → Prop, (∀ a', MX P l n Q f (i :: done) a' W → K a') →
      if Region.wanted o (yielded l.toArray a.tmps) = true then oQuiet P o a W K else K (a.put o.dst undef)) : MX P l n Q (f + 1) done a W := by
  simp only [stepB, Bool.and_eq_true, decide_eq_true_eq] at hS
  obtain ⟨⟨⟨⟨hin, hr⟩, hf⟩, hi2⟩, hB⟩ := hS
  have h1 := h _ (fun _ h => h)
  have hr' : i ∈ Region.ready .any l.toArray (listedOf l.length done) := by simpa using hr
  have hsel : Region.noSelect l.toArray = true := by
    simp only [mixB, Bool.and_eq_true] at hB; exact hB.1
  have key : ∃ v, YieldsOver P l.toArray W o v a ∧ MX P l n Q f (i :: done) (a.put o.dst v) W := by
    by_cases hw : Region.wanted o (yielded l.toArray a.tmps) = true
    · rw [if_pos hw] at h1
      obtain ⟨v, h2, h3⟩ := h1
      exact ⟨v, .inl ⟨hw, h2⟩, h3⟩
    · rw [if_neg hw] at h1
      exact ⟨undef, .inr ⟨by simpa using hw, rfl⟩, h1⟩
  obtain ⟨v, hy, hK⟩ := key
  unfold MX at hK ⊢
  rw [← listedOf_set] at hK
  exact wpM_first hi (Region.noSelect_spec hsel) (mix_wait hB) hin tailT_world (fun listed a W hT j hj => seqB_ready hT.1 j hj) f _ a W (headB_inv hi2) (Region.free_spec hi hf) hr' hy hK

def oneB (l : List Oper) (n i : Nat) (done : List Nat) : Bool := decide (i < n) && decide (Region.ready .any l.toArray (listedOf l.length done) = [i])
/-- One operation that alone may come up. -/
theorem mix_one {f : Nat} {done : List Nat} {a : Act} {W : World} (i : Nat) {o : Oper} (hi : l.toArray[i]? = some o) (hS : oneB l n i done = true)
    (h : ∀ (x : World) (K : Act → World → Prop), (∀ a' w', Below (over W x).heap.size (over W x) w' → MX P l n Q f (i :: done) a' w' → K a' w') →
      if Region.wanted o (yielded l.toArray a.tmps) = true then o.wp P a (over W x) K NoQ else K (a.put o.dst undef) (over W x)) : MX P l n Q (f + 1) done a W := by
  simp only [oneB, Bool.and_eq_true, decide_eq_true_eq] at hS
  refine ⟨by rw [hS.2]; simp, fun j hj => ?_⟩
  rw [hS.2] at hj
  have : j = i := by simpa using hj
  subst this
  refine ⟨hS.1, fun x => ?_⟩
  unfold mOp
  simp only [hi]
  exact h x _ (fun a' w' hb hm => ⟨hb, by rw [listedOf_set]; exact hm⟩)

def twoB (l : List Oper) (n i j : Nat) (done : List Nat) : Bool := decide (i < n) && decide (j < n) && decide (Region.ready .any l.toArray (listedOf l.length done) = [i, j])
/-- Two operations that may come up. -/
theorem mix_two {f : Nat} {done : List Nat} {a : Act} {W : World} (i j : Nat) {o o' : Oper} (hi : l.toArray[i]? = some o) (hj : l.toArray[j]? = some o') (hS : twoB l n i j done = true)
    (h : ∀ (x : World) (K : Act → World → Prop), (∀ a' w', Below (over W x).heap.size (over W x) w' → MX P l n Q f (i :: done) a' w' → K a' w') →
      if Region.wanted o (yielded l.toArray a.tmps) = true then o.wp P a (over W x) K NoQ else K (a.put o.dst undef) (over W x))
    (h' : ∀ (x : World) (K : Act → World → Prop), (∀ a' w', Below (over W x).heap.size (over W x) w' → MX P l n Q f (j :: done) a' w' → K a' w') →
      if Region.wanted o' (yielded l.toArray a.tmps) = true then o'.wp P a (over W x) K NoQ else K (a.put o'.dst undef) (over W x)) : MX P l n Q (f + 1) done a W := by
  simp only [twoB, Bool.and_eq_true, decide_eq_true_eq] at hS
  refine ⟨by rw [hS.2]; simp, fun k hk => ?_⟩
  rw [hS.2] at hk
  have : k = i ∨ k = j := by simpa using hk
  rcases this with rfl | rfl
  · refine ⟨hS.1.1, fun x => ?_⟩
    unfold mOp
    simp only [hi]
    exact h x _ (fun a' w' hb hm => ⟨hb, by rw [listedOf_set]; exact hm⟩)
  · refine ⟨hS.1.2, fun x => ?_⟩
    unfold mOp
    simp only [hj]
    exact h' x _ (fun a' w' hb hm => ⟨hb, by rw [listedOf_set]; exact hm⟩)

theorem mix_end {done : List Nat} {a : Act} {W : World} (hB : Region.seqB .any l.toArray (l.length - n) n (listedOf l.length done) = true) (h : ∀ x, wpList P l.toArray Q (l.drop n) a (over W x)) :
    MX P l n Q 0 done a W := ⟨hB, h⟩

/-- A region that draws its order: the first n operations in any order, the others behind them, in order. -/
theorem wp_region_mix {id : Nat} {a : Act} {w : World} (n : Nat) (hm : P.follows .mixedOrders = true) (hB : mixB l n = true)
    (h : MX P l n Q n [] a w) : (Code.region id l.toArray true).wp P Q a w := by
  refine wp_region_any hm ?_
  have hn : n ≤ l.length := by
    simp only [mixB, Bool.and_eq_true, Bool.or_eq_true, decide_eq_true_eq] at hB
    rcases hB.2 with h | ⟨⟨h1, h2⟩, h3⟩ <;> omega
  obtain ⟨x, hx⟩ := over_drew w
  have h2 := wpAny_of_M (g := l.length - n) (Q := Q) (fun listed a' W hT x => by
    have := wpAny_of_seq (md := .any) (Q' := Q) (l.drop n) n listed a' (over W x) (fun j => by simp [List.getElem?_drop]) (by simpa using hT.1) (hT.2 x)
    simpa using this) _ _ _ _ h x
  rw [← hx] at h2
  rw [show n + (l.length - n) = l.length by omega, listedOf_nil] at h2
  simpa using h2
end
attribute [go_sem] oQuiet oYields yUpon over_cell over_frozen lt_over lt_over_add ne_over ne_over'
end Go.Proofs.Ytcmbckcjklociaa
