/- Runs of the abstract machine stand for runs of the machine: the rules by which a function's contract is shown. No program in sight. -/
import Derived.Test.YtjhhlmmmkgnhmaaDoorGC
namespace Go.Proofs.YtjhhlmmmkgnhmaaDoor
set_option linter.unusedSimpArgs false
set_option linter.unusedVariables false
set_option linter.unusedSectionVars false
open Go.RowKit

/-- The frame and the world meet the state. -/
def Sim (Γ : Gam) (σ : SS) (a : Act) (w : World) : Prop :=
  a.tmps.size = σ.N ∧ a.defers = [] ∧ ∃ φ M, (∀ t, AR w M φ (look σ.L t) (a.tmps.getD t undef)) ∧ Wd Γ φ M (hl σ.H) w ∧ (∀ id, σ.H.length ≤ id → φ id = none)
def codeOf (fn : Func) : Code := fn.body.getD .skip
/-- From these items on, whatever waits behind. -/
def KW (P : Program) (body : Code) (k : List It) (R : Exit → Act → World → Prop) (a : Act) (w : World) : Prop :=
  ∀ (b : Frame) (cs : List Frame), ∃ e a' w', R e a' w' ∧ Arrives P (lone (b.at a (k.map (It.item body))) cs w) b [] cs e a' w'
def RR (P : Program) (fn : Func) (Γ : Gam) (r : AV) (H1 : List (Option Ob)) : Exit → Act → World → Prop := fun e a' w' =>
  (e = .ret ∨ e = .normal) ∧ a'.defers = [] ∧ ∃ v φ' M', (results fn a'.tmps).run P w' = .ok v w' ∧ AR w' M' φ' r v ∧ Wd Γ φ' M' (hl H1) w' ∧ (∀ id, H1.length ≤ id → φ' id = none)
def Go (P : Program) (fn : Func) (pin : List Nat) (Γ : Gam) (r : AV) (H1 : List (Option Ob)) (cf : Cf) : Prop :=
  (∀ p ∈ Γ.pins, p.1 ∈ pin) → ∀ a w, Sim Γ cf.σ a w → KW P (codeOf fn) cf.k (RR P fn Γ r H1) a w
def pinOk (pin ids : List Nat) : Bool := pin.all fun i => match ids[i]? with
  | some j => i == j
  | none => false
def isRet : Code → Bool
  | .ret => true
  | _ => false
def atRet (body : Code) : List It → Bool
  | [] => true
  | .c p :: _ => isRet (cd body p)
  | _ => false
/-- A run of n steps to a return, or to the end. -/
def retC (P : Program) (fn : Func) (n : Nat) (ids : List Nat) (cf : Cf) (hs : List Hint) : Option (AV × List (Option Ob) × Prop) :=
  match runN' P (codeOf fn) n cf hs with
  | some r =>
    bif atRet (codeOf fn) r.cf.k then
      match ghost r.hs r.cf.σ with
      | some (σ, o, []) => match resCs (look σ.L) (hl σ.H) P fn.results.toList with
        | some cs => bif noDup ids then some (renAV (posOf ids 0) (resAV cs), ids.map fun i => (hl σ.H i).map (renOb (posOf ids 0)), allP (r.obs ++ o)) else none
        | none => none
      | _ => none
    else none
  | none => none
def argSlots : Nat → List Cm → List (Nat × AV)
  | _, [] => []
  | i, c :: r => (i, .cm c) :: argSlots (i + 1) r
def boxIds : Nat → List Ob → List Nat
  | _, [] => []
  | i, o :: r => cond o.box [i] [] ++ boxIds (i + 1) r
/-! Programs as functions. -/
section
variable {α β S E : Type}
def br (b : Bool) (x y : Option α) : Option α := match b with
  | true => x
  | false => y
def bnd (o : Option α) (f : α → Option β) : Option β := match o with
  | some a => f a
  | none => none
theorem br_elim {b : Bool} {x y : Option α} {r : α} (h : br b x y = some r) : (b = true ∧ x = some r) ∨ (b = false ∧ y = some r) := by
  cases b
  · exact .inr ⟨rfl, h⟩
  · exact .inl ⟨rfl, h⟩
theorem bnd_elim {o : Option α} {f : α → Option β} {r : β} (h : bnd o f = some r) : ∃ a, o = some a ∧ f a = some r := by
  cases o with
  | none => cases h
  | some a => exact ⟨a, rfl, h⟩
def chk (p : Prop) [Decidable p] (x : Option α) : Option α := if p then x else none
theorem chk_elim {p : Prop} [Decidable p] {x : Option α} {r : α} (h : chk p x = some r) : p ∧ x = some r := by
  unfold chk at h
  split at h
  · exact ⟨‹_›, h⟩
  · cases h
/-- Two ways, of which either may be gone: both must end alike. -/
def amb [DecidableEq α] (x y : Option α) : Option α := if x = y then x else none
theorem amb_elim [DecidableEq α] {x y : Option α} {r : α} (h : amb x y = some r) : x = some r ∧ y = some r := by
  unfold amb at h
  split at h
  · rename_i e; exact ⟨h, e ▸ h⟩
  · cases h
theorem neE (f : α → β) {l : List α} (h : l.isEmpty = false) : l.map f ≠ [] := by
  cases l with
  | nil => cases h
  | cons a r => simp
def iterF (B : S → Option (S ⊕ E)) : Nat → S → Option E
  | 0, _ => none
  | n + 1, s => match B s with
    | some (.inl s') => iterF B n s'
    | some (.inr e) => some e
    | none => none
theorem iterF_add (B : S → Option (S ⊕ E)) {e : E} : ∀ (n k : Nat) (s : S), iterF B n s = some e → iterF B (n + k) s = some e
  | 0, _, _, h => by cases h
  | n + 1, k, s, h => by
    rw [show n + 1 + k = (n + k) + 1 by omega]
    simp only [iterF] at h ⊢
    split at h
    · exact iterF_add B n k _ h
    · exact h
    · cases h
theorem iterF_det (B : S → Option (S ⊕ E)) {e e' : E} {n m : Nat} {s : S} (h : iterF B n s = some e) (h' : iterF B m s = some e') : e = e' := by
  have h1 := iterF_add B n m s h
  have h2 := iterF_add B m n s h'
  rw [Nat.add_comm] at h2
  rw [h1] at h2
  exact Option.some.inj h2
def loopMax : Nat := 18446744073709551616
def loopF (B : S → Option (S ⊕ E)) (s : S) : Option E := iterF B loopMax s
theorem loopF_some {B : S → Option (S ⊕ E)} {s : S} {e : E} (h : loopF B s = some e) : ∃ n, iterF B n s = some e := ⟨_, h⟩
theorem loopF_of {B : S → Option (S ⊕ E)} {s : S} {e : E} (n : Nat) (hn : n ≤ loopMax) (h : iterF B n s = some e) : loopF B s = some e := by
  have := iterF_add B n (loopMax - n) s h
  rwa [Nat.add_sub_cancel' hn] at this
theorem loop_ind {B : S → Option (S ⊕ E)} (C : S → Prop) (D : E → Prop) (hstep : ∀ s x, B s = some x → (∀ s', x = .inl s' → C s') → (∀ e, x = .inr e → D e) → C s) {s : S} {e : E} (h : loopF B s = some e) (hD : D e) : C s := by
  obtain ⟨n, hn⟩ := loopF_some h
  clear h
  induction n generalizing s with
  | zero => cases hn
  | succ n ih =>
    simp only [iterF] at hn
    split at hn
    · rename_i s' hs
      exact hstep s _ hs (fun t ht => by cases ht; exact ih hn) (fun t ht => by cases ht)
    · rename_i e' hs
      exact hstep s _ hs (fun t ht => by cases ht) (fun t ht => by cases ht; cases hn; exact hD)
    · cases hn
end
/-! What the generated texts owe. -/
section
variable {α β A B γ : Type}
def okN (n b : Nat) : Prop := n * b ≤ 140737488355328
instance (n b : Nat) : Decidable (okN n b) := inferInstanceAs (Decidable (n * b ≤ 140737488355328))
def setI (l : List α) (i : Int) (x : α) : List α := l.set i.toNat x
def cpyN (l m : List α) : Nat := min m.length l.length
def cpyL (l m : List α) : List α := m.take (cpyN l m) ++ l.drop (cpyN l m)
def slcI (l : List α) (lo hi : Int) : Option (List α) := if 0 ≤ lo ∧ lo ≤ hi ∧ hi ≤ l.length then some ((l.drop lo.toNat).take (hi.toNat - lo.toNat)) else none
def slcS (s : ByteArray) (lo hi : Int) : Option Unit := if 0 ≤ lo ∧ lo ≤ hi ∧ hi ≤ s.size then some () else none
def mkI (n m : Int) (b : Nat) (z : α) : Option (List α) := if 0 ≤ n ∧ n ≤ m ∧ b * m ≤ 140737488355328 ∧ m ≤ 9223372036854775807 then some (List.replicate n.toNat z) else none
def sel (e : A ⊕ B) (f : A → γ) (g : B → γ) : γ := match e with
  | .inl a => f a
  | .inr b => g b
theorem lenM (f : α → β) (l : List α) : (l.map f).length = l.length := List.length_map ..
theorem getM (f : α → β) {l : List α} {i : Int} {a : α} (h : getI l i = some a) : getI (l.map f) i = some (f a) := by
  unfold getI at *
  split at h
  · rename_i h0; rw [if_pos h0, List.getElem?_map, h]; rfl
  · cases h
theorem getLo {l : List α} {i : Int} {a : α} (h : getI l i = some a) : 0 ≤ i := by
  unfold getI at h
  split at h
  · assumption
  · cases h
theorem getHi (f : α → β) {l : List α} {i : Int} {a : α} (h : getI l i = some a) : i < (l.map f).length := by
  unfold getI at h
  split at h
  · have := (List.getElem?_eq_some_iff.1 h).1; rw [List.length_map]; omega
  · cases h
theorem rowM (f : α → β) {l : List α} {i : Int} {a : α} (h : getI l i = some a) : (l.map f)[0 + i.toNat]? = some (f a) := by
  have h1 := getM f h
  unfold getI at h1
  split at h1
  · rw [Nat.zero_add]; exact h1
  · cases h1
theorem setM (f : α → β) (l : List α) (i : Int) (x : α) : (l.map f).set (0 + i.toNat) (f x) = (setI l i x).map f := by
  rw [Nat.zero_add]; unfold setI; rw [List.map_set]
theorem getSet {l : List α} {i : Int} {a : α} (h : getI l i = some a) (x : α) : getI (setI l i x) i = some x := by
  unfold getI at *
  split at h
  · rename_i h0
    have := (List.getElem?_eq_some_iff.1 h).1
    rw [if_pos h0]; unfold setI
    rw [List.getElem?_set_self this]
  · cases h
theorem lenSet (f : α → β) (l : List α) (i : Int) (x : α) : (l.map f).length = ((setI l i x).map f).length := by simp [setI]
theorem lenCpy (f : α → β) (l m : List α) : (l.map f).length = ((cpyL l m).map f).length := by simp [cpyL, cpyN]; omega
theorem appM (f : α → β) (l : List α) (m : List α) : l.map f ++ m.map f = (l ++ m).map f := List.map_append.symm
theorem neM (f : α → β) (l : List α) (h : l ≠ []) : l.map f ≠ [] := by simpa using h
theorem okLe (f : α → β) {l : List α} {b : Nat} (h : okN l.length b) : (l.map f).length * b ≤ 140737488355328 := by rw [List.length_map]; exact h
theorem okLe2 (f : α → β) {l : List α} {b : Nat} (hb : 0 < b) (h : okN l.length b) : (l.map f).length ≤ 9223372036854775807 := by
  rw [List.length_map]; unfold okN at h
  have := Nat.le_mul_of_pos_right l.length hb
  omega
theorem notT {b : Bool} (h : b = false) : (!b) = true := by rw [h]; rfl
theorem notF {b : Bool} (h : b = true) : (!b) = false := by rw [h]; rfl
theorem cpy1 (f : α → β) (l m : List α) : min (m.map f).length (l.map f).length = cpyN l m := by simp [cpyN]
theorem cpy2 (f : α → β) (l m : List α) : (m.map f).take (cpyN l m) ++ (l.map f).drop (cpyN l m) = (cpyL l m).map f := by simp [cpyL, List.map_take, List.map_drop]
section
variable {l v : List α} {lo hi : Int}
theorem slc_spec (h : slcI l lo hi = some v) : (0 ≤ lo ∧ lo ≤ hi ∧ hi ≤ l.length) ∧ (l.drop lo.toNat).take (hi.toNat - lo.toNat) = v := by
  unfold slcI at h
  split at h
  · exact ⟨‹_›, Option.some.inj h⟩
  · cases h
theorem sl1 (h : slcI l lo hi = some v) : 0 ≤ lo := (slc_spec h).1.1
theorem sl2 (h : slcI l lo hi = some v) : lo ≤ hi := (slc_spec h).1.2.1
theorem sl3 (f : α → β) (h : slcI l lo hi = some v) : hi ≤ (l.map f).length := by rw [List.length_map]; exact (slc_spec h).1.2.2
theorem sl6 (f : α → β) (h : slcI l lo hi = some v) : ((l.map f).drop lo.toNat).take (hi.toNat - lo.toNat) = v.map f := by
  unfold slcI at h
  split at h
  · rw [← Option.some.inj h, List.map_take, List.map_drop]
  · cases h
theorem sl2h (f : α → β) (h : slcI l lo (lenI l) = some v) : lo ≤ (l.map f).length := by rw [List.length_map]; exact sl2 h
theorem sl6h (f : α → β) (h : slcI l lo (lenI l) = some v) : ((l.map f).drop lo.toNat).take (((l.map f).length : Int).toNat - lo.toNat) = v.map f := by
  rw [List.length_map]; exact sl6 f h
theorem slcS_spec {s : ByteArray} {u : Unit} (h : slcS s lo hi = some u) : 0 ≤ lo ∧ lo ≤ hi ∧ hi ≤ s.size := by
  unfold slcS at h
  split at h
  · assumption
  · cases h
theorem ss1 {s : ByteArray} {u : Unit} (h : slcS s lo hi = some u) : 0 ≤ lo := (slcS_spec h).1
theorem ss2 {s : ByteArray} {u : Unit} (h : slcS s lo hi = some u) : lo ≤ hi := (slcS_spec h).2.1
theorem ss3 {s : ByteArray} {u : Unit} (h : slcS s lo hi = some u) : hi ≤ s.size := (slcS_spec h).2.2
end
section
variable {n m : Int} {b : Nat} {z : α} {l : List α}
theorem mk_spec (h : mkI n m b z = some l) : (0 ≤ n ∧ n ≤ m ∧ b * m ≤ 140737488355328 ∧ m ≤ 9223372036854775807) ∧ List.replicate n.toNat z = l := by
  unfold mkI at h
  split at h
  · exact ⟨‹_›, Option.some.inj h⟩
  · cases h
theorem mk1 (h : mkI n m b z = some l) : 0 ≤ n := (mk_spec h).1.1
theorem mk2 (h : mkI n m b z = some l) : n ≤ m := (mk_spec h).1.2.1
theorem mk3 (h : mkI n m b z = some l) : m ≤ 9223372036854775807 := (mk_spec h).1.2.2.2
theorem mk4 (h : mkI n m b z = some l) : b * m ≤ 140737488355328 := (mk_spec h).1.2.2.1
theorem mk5 (f : α → β) (h : mkI n m b z = some l) : List.replicate n.toNat (f z) = l.map f := by
  unfold mkI at h; split at h
  · rw [← Option.some.inj h, List.map_replicate]
  · cases h
end
end
end Go.Proofs.YtjhhlmmmkgnhmaaDoor
