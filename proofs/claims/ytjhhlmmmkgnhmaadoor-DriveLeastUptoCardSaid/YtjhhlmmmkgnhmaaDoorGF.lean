/- The abstract machine is sound, part 2: operations that write to nothing that was there. No program in sight. -/
import Derived.Test.YtjhhlmmmkgnhmaaDoorGE
namespace Go.Proofs.YtjhhlmmmkgnhmaaDoor
set_option linter.unusedSimpArgs false
set_option linter.unusedVariables false
set_option linter.unusedSectionVars false
open Go.RowKit

def plc (h : Nat → Option Ob) (base : Nat) (news : List Ob) : Nat → Option Ob := fun id => if base ≤ id ∧ id < base + news.length then news[id - base]? else h id
theorem plc_nil (h : Nat → Option Ob) (base : Nat) : plc h base [] = h := by
  funext id; unfold plc; rw [if_neg (fun h => by have := h.2; simp at this; omega)]
theorem plc_one (h : Nat → Option Ob) (base : Nat) (ob : Ob) : plc h base [ob] = fun i => if i = base then some ob else h i := by
  funext id; unfold plc
  by_cases hi : id = base
  · subst hi; simp
  · rw [if_neg hi, if_neg (by simp only [List.length_singleton]; omega)]
/-- What an operation yields that writes to nothing that was there. -/
def Yd (P : Program) (Γ : Gam) (φ : Pl) (M : Nat → Prop) (hD : Nat → Option Ob) (w : World) (base : Nat) (r : Res) (run : Result Next) : Prop :=
  ∃ v w' φ', run = .ok (.value v) w' ∧ AR w' M φ' r.v v ∧ Wd Γ φ' M (plc hD base r.news) w' ∧ (∀ id p, φ id = some p → φ' id = some p) ∧
    (∀ id, φ' id ≠ none → φ id ≠ none ∨ (base ≤ id ∧ id < base + r.news.length)) ∧ (∀ b, M b → w'.heap[b]? = w.heap[b]?)
section
variable {P : Program} {Γ : Gam} {φ : Pl} {M : Nat → Prop} {hD h : Nat → Option Ob} {w : World} {base : Nat} {L : Nat → AV} {a : Act} {g : Prop} {hs : List Hint} {r : Res} {o : Oper}
theorem Yd.val {run : Result Next} {v : Value} (hr : run = .ok (.value v) w) (hn : r.news = []) (hv : AR w M φ r.v v) (hW : Wd Γ φ M hD w) : Yd P Γ φ M hD w base r run :=
  ⟨v, w, φ, hr, hv, by rw [hn, plc_nil]; exact hW, fun _ _ h => h, fun _ h => .inl h, fun _ _ => rfl⟩
/-- No new object, but memory grows. -/
theorem Yd.grow {run : Result Next} {v : Value} {w' : World} (hr : run = .ok (.value v) w') (hn : r.news = []) (hb : Below w.heap.size w w') (hv : AR w' M φ r.v v) (hW : Wd Γ φ M hD w) : Yd P Γ φ M hD w base r run :=
  ⟨v, w', φ, hr, hv, by rw [hn, plc_nil]; exact hW.grow hb, fun _ _ h => h, fun _ h => .inl h, fun b hm => hb.block b (hW.mlt b hm)⟩
/-- One new object. -/
theorem Yd.new {run : Result Next} {v : Value} {w' : World} {ob : Ob} {b C : Nat} (hr : run = .ok (.value v) w') (hn : r.news = [ob]) (hW : Wd Γ φ M hD w) (hfr : ∀ id, base ≤ id → id < base + r.news.length → φ id = none ∧ hD id = none)
    (hb : Below w.heap.size w w') (hbs : w.heap.size ≤ b) (hbl : b < w'.heap.size) (hO : OR w' M (upP φ base (some (b, C))) base ob) (hv : AR w' M (upP φ base (some (b, C))) r.v v) : Yd P Γ φ M hD w base r run := by
  have hf := hfr base (Nat.le_refl _) (by rw [hn]; simp)
  refine ⟨v, w', upP φ base (some (b, C)), hr, hv, ?_, upP_pl _ hf.1, fun id hid => ?_, fun c hm => hb.block c (hW.mlt c hm)⟩
  · rw [hn, plc_one]; exact hW.new ob hf.1 hf.2 hb hbs hbl hO
  · by_cases hi : id = base
    · exact .inr (by rw [hi, hn]; simp)
    · rw [upP_ne _ hi] at hid; exact .inl hid
theorem Yd.newNil {run : Result Next} {v : Value} {w' : World} {ob : Ob} (hr : run = .ok (.value v) w') (hn : r.news = [ob]) (hW : Wd Γ φ M hD w) (hfr : ∀ id, base ≤ id → id < base + r.news.length → φ id = none ∧ hD id = none)
    (hb : Below w.heap.size w w') (h1 : ob.rows = []) (h2 : ob.box = false) (h3 : 0 < ob.sz) (hv : AR w' M (upP φ base none) r.v v) : Yd P Γ φ M hD w base r run := by
  have hf := hfr base (Nat.le_refl _) (by rw [hn]; simp)
  refine ⟨v, w', upP φ base none, hr, hv, ?_, upP_pl _ hf.1, fun id hid => ?_, fun c hm => hb.block c (hW.mlt c hm)⟩
  · rw [hn, plc_one]; exact (hW.grow hb).newNil ob hf.1 hf.2 h1 h2 h3
  · by_cases hi : id = base
    · exact .inr (by rw [hi, hn]; simp)
    · rw [upP_ne _ hi] at hid; exact .inl hid
theorem below_alloc (w : World) (o : Obj) : Below w.heap.size w (w.alloc o) := (Below.refl _ _).alloc (Nat.le_refl _) o

/-! ### Types -/
theorem tsz_some {t : TypeId} {n : Nat} (h : tsz P t = some n) : ∃ i, P.info? t = some i ∧ i.size = n := by
  unfold tsz at h
  cases hi : P.info? t with
  | none => rw [hi] at h; cases h
  | some i => rw [hi] at h; cases h; exact ⟨i, rfl, rfl⟩
theorem trow_some {t : TypeId} {b : Bool} (h : trow P t = some b) : ∃ d, P.underlying t = some d ∧ d.isRow = b := by
  unfold trow at h
  cases hi : P.underlying t with
  | none => rw [hi] at h; cases h
  | some d => rw [hi] at h; cases h; exact ⟨d, rfl, rfl⟩
theorem zeroL_some {t : TypeId} {z : List Lf} (h : zeroL P t = some z) : ∃ i zv, P.info? t = some i ∧ i.zero = some zv ∧ zv.cells.size = i.size ∧ 0 < i.size ∧ Rs (LR w M φ) z zv.cells.toList ∧ z.length = i.size := by
  unfold zeroL at h
  split at h
  · rename_i i hi
    split at h
    · rename_i zv hz
      cases hc : (zv.cells.size == i.size && !(i.size == 0)) with
      | false => rw [hc] at h; cases h
      | true =>
        rw [hc] at h
        simp only [Bool.and_eq_true, beq_iff_eq, Bool.not_eq_true', beq_eq_false_iff_ne] at hc
        have hrs := ofConsts_ok (w := w) (M := M) (φ := φ) h
        exact ⟨i, zv, hi, hz, hc.1, by omega, hrs, by rw [hrs.len, ← hc.1]; simp⟩
    · cases h
  · cases h
theorem sliceElem_some {t e : TypeId} (h : sliceElem P t = some e) : P.underlying t = some (.slice e) := by
  unfold sliceElem at h
  split at h
  · rename_i e' he; cases h; exact he
  · cases h
theorem run_isAgg {t : TypeId} {d : TypeDesc} (hu : P.underlying t = some d) (w : World) : (isAgg t).run P w = .ok d.isRow w := by
  unfold isAgg
  rw [Sem.run_bind, run_underlying hu w]
  cases d <;> rfl
theorem run_sizeOf {t : TypeId} {i : TypeInfo} (hi : P.info? t = some i) (w : World) : (sizeOf t).run P w = .ok i.size w := by simp [sizeOf, typeInfo, hi]

/-! ### Loads -/
theorem gather {R : Lf → Value → Prop} {b : Nat} : ∀ (ls : List Lf) (k : Nat), (∀ (i : Nat) (l : Lf), ls[i]? = some l → ∃ v, w.cell? ⟨b, k + i, none⟩ = some v ∧ R l v) → ∃ vs, Rs R ls vs ∧ w.rangeAt b k vs
  | [], _, _ => ⟨[], trivial, fun j v h => by simp at h⟩
  | l :: ls, k, h => by
    obtain ⟨v, hv, hr⟩ := h 0 l rfl
    obtain ⟨vs, h1, h2⟩ := gather ls (k + 1) fun i l' hl => by
      obtain ⟨v, hv, hr⟩ := h (i + 1) l' (by simpa using hl)
      exact ⟨v, by rw [show k + 1 + i = k + (i + 1) by omega]; exact hv, hr⟩
    refine ⟨v :: vs, ⟨hr, h1⟩, fun j u hj => ?_⟩
    cases j with
    | zero => simp at hj; subst hj; exact hv
    | succ j => rw [show k + (j + 1) = k + 1 + j by omega]; exact h2 j u (by simpa using hj)
theorem partL_load {t : TypeId} {n : Nat} {rw_ : Bool} {b k off : Nat} {cells : List Lf} {c : Cm} (ht : tsz P t = some n) (hr : trow P t = some rw_) (hp : partL rw_ n off cells = some c)
    (hc : ∀ (i : Nat) (l : Lf), cells[i]? = some l → ∃ v, w.cell? ⟨b, k + i, none⟩ = some v ∧ LR w M φ l v) : ∃ v, (loadVar t ⟨b, k + off, none⟩).run P w = .ok v w ∧ CR w M φ c v := by
  obtain ⟨i, hi, hsz⟩ := tsz_some ht
  obtain ⟨d, hu, hd⟩ := trow_some hr
  unfold partL at hp
  cases rw_ with
  | true =>
    simp only [cond_true] at hp
    cases hl : (((cells.drop off).take n).length == n) with
    | false => rw [hl] at hp; cases hp
    | true =>
      rw [hl] at hp; cases hp
      have hl' : ((cells.drop off).take n).length = n := by simpa using hl
      obtain ⟨vs, h1, h2⟩ := gather (w := w) (R := LR w M φ) (b := b) ((cells.drop off).take n) (k + off) fun j l hj => by
        have hj2 : cells[off + j]? = some l := by
          rw [List.getElem?_take] at hj
          split at hj
          · rw [List.getElem?_drop] at hj; exact hj
          · cases hj
        obtain ⟨v, hv, hr⟩ := hc _ _ hj2
        exact ⟨v, by rw [show k + off + j = k + (off + j) by omega]; exact hv, hr⟩
      exact ⟨_, run_loadVar_mid w b (k + off) t vs d h2 hu hd (by rw [hi, Option.map_some, hsz, ← h1.len, hl']), vs, rfl, h1⟩
  | false =>
    simp only [cond_false] at hp
    cases hl : cells[off]? with
    | none => rw [hl] at hp; cases hp
    | some l =>
      rw [hl] at hp; cases hp
      obtain ⟨v, hv, hr⟩ := hc _ _ hl
      refine ⟨v, ?_, hr⟩
      unfold loadVar
      rw [Sem.run_bind, run_isAgg hu w, hd]
      simp [hv]
/-- The cells of an own object, as memory holds them. -/
theorem OR.cell {id : Nat} {ob : Ob} {b C i : Nat} {c : List Lf} (hO : OR w M φ id ob) (hφ : φ id = some (some (b, C))) (hc : ob.rows[i]? = some c) :
    ∀ (j : Nat) (l : Lf), c[j]? = some l → ∃ v, w.cell? ⟨b, i * ob.sz + j, none⟩ = some v ∧ (if ob.box then LR w M φ l v else IR w M l v) := by
  obtain ⟨_, h1⟩ := hO
  rw [hφ] at h1
  obtain ⟨cur, g1, g2, g3, g4, g5, g6⟩ := h1
  intro j l hl
  obtain ⟨v, hv, hr⟩ := (g6 i c hc).2 j l hl
  exact ⟨v, by simp only [World.cell?, g1]; simpa using hv, hr⟩
theorem OR.cell' {id : Nat} {ob : Ob} {b C i : Nat} {c : List Lf} (hO : OR w M φ id ob) (hφ : φ id = some (some (b, C))) (hc : ob.rows[i]? = some c) :
    ∀ (j : Nat) (l : Lf), c[j]? = some l → ∃ v, w.cell? ⟨b, i * ob.sz + j, none⟩ = some v ∧ LR w M φ l v := fun j l hl => by
  obtain ⟨v, hv, hr⟩ := hO.cell hφ hc j l hl
  refine ⟨v, hv, ?_⟩
  split at hr
  · exact hr
  · exact IR.lr hr

theorem sound_load {t : TypeId} {x : Operand} (ho : o.op = .load t x) (hf : fop P h base g L o.op hs = some r) (hob : allP r.obs) (hg : g) (hF : ∀ t, AR w M φ (L t) (a.tmps.getD t undef)) (hW : Wd Γ φ M hD w)
    (hsub : ∀ id ob, h id = some ob → hD id = some ob) : Yd P Γ φ M hD w base r ((execOp a.eval o).run P w) := by
  rw [ho] at hf
  simp only [fop] at hf
  have hrun : ∀ v b k, a.eval x = .pointer (some ⟨b, k, none⟩) → (loadVar t ⟨b, k, none⟩).run P w = .ok v w → (execOp a.eval o).run P w = .ok (.value v) w := fun v b k hx hl => by
    simp [execOp, ho, Instr.loadAt, Instr.sureAddr, hx, hl]
  split at hf
  · rename_i cells off o1 n rw_ h1 h2 h3
    cases hp : partL rw_ n off cells with
    | none => rw [hp] at hf; cases hf
    | some c =>
      rw [hp] at hf; cases hf
      have hx := getGx_ok hF h1 hob hg
      have hx' : IR w M (.ip cells off) (a.eval x) := hx
      generalize hv : a.eval x = xv at hx'
      cases hx' with
      | ip _ _ b k vs hm hc hr =>
        obtain ⟨v, hl, hcr⟩ := partL_load (M := M) (φ := φ) (b := b) (k := k) h2 h3 hp fun i l hl => ⟨_, hc i l hl, IR.lr (hr i l hl)⟩
        exact Yd.val (hrun v b _ hv hl) rfl hcr hW
  · rename_i id sz row off o1 n rw_ h1 h2 h3
    split at hf
    · rename_i ob hob1
      cases hsz : (ob.sz == sz) with
      | false => rw [hsz] at hf; cases hf
      | true =>
        rw [hsz] at hf
        simp only [cond_true] at hf
        have hsz' : ob.sz = sz := by simpa using hsz
        have hO := hW.obs id ob (hsub id ob hob1)
        split at hf
        · rename_i hbx hrows
          cases hr0 : (row == 0) with
          | false => rw [hr0] at hf; cases hf
          | true =>
            rw [hr0] at hf
            have hr0' : row = 0 := by simpa using hr0
            rename_i cells
            cases hp : partL rw_ n off cells with
            | none => rw [hp] at hf; cases hf
            | some c =>
              rw [hp] at hf; cases hf
              obtain ⟨b, C, hφ, hv⟩ := (getGx_ok hF h1 hob hg : LR0 w M φ (.op id sz row off) (a.eval x))
              obtain ⟨v, hl, hcr⟩ := partL_load (M := M) (φ := φ) (b := b) (k := row * sz) h2 h3 hp fun i l hl => by
                have := hO.cell' (i := 0) hφ (by rw [hrows]; rfl) i l hl
                rw [hr0', Nat.zero_mul]; rwa [Nat.zero_mul] at this
              exact Yd.val (hrun v b _ hv hl) rfl hcr hW
        · rename_i c0 hs' hbx
          cases hp : partL rw_ n off c0 with
          | none => rw [hp] at hf; cases hf
          | some c =>
            rw [hp] at hf; cases hf
            rw [allP_append] at hob
            obtain ⟨b, C, hφ, hv⟩ := (getGx_ok hF h1 hob.1 hg : LR0 w M φ (.op id sz row off) (a.eval x))
            obtain ⟨v, hl, hcr⟩ := partL_load (M := M) (φ := φ) (b := b) (k := row * sz) h2 h3 hp fun i l hl => by
              have := hO.cell' (i := row) hφ hob.2.1 i l hl
              rwa [hsz'] at this
            exact Yd.val (hrun v b _ hv hl) rfl hcr hW
        · cases hf
    · cases hf
  · cases hf
end
end Go.Proofs.YtjhhlmmmkgnhmaaDoor
