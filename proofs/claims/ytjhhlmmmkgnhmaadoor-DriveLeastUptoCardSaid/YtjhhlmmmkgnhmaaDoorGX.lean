/- From what is read as arguments to the abstract machine's leaves; from a law's contract to its walk. No program in sight. -/
import Derived.Test.YtjhhlmmmkgnhmaaDoorGV
import Derived.Test.YtjhhlmmmkgnhmaaDoorGR2
namespace Go.Proofs.YtjhhlmmmkgnhmaaDoor
set_option linter.unusedSimpArgs false
set_option linter.unusedVariables false
set_option linter.unusedSectionVars false
open Go.RowKit Go.ChangeShapes Go.WideShapes Go.Deep

/-- Leaves of what never turns, in a world's own blocks. -/
abbrev IRw (w : World) : Lf → Value → Prop := IR w (fun b => b < w.heap.size)
/-- Cells that read as the leaves of a datum that is in order. -/
def rdE {α : Type} (k : Nat) (enc : α → List Lf) (ok : α → Prop) (hk : ∀ x, (enc x).length = k) : Rd α :=
  { size := k, holds := fun w cs x => ok x ∧ Rs (IRw w) (enc x) cs,
    len := fun w cs x h => h.2.len.symm.trans (hk x),
    ext := fun w w' cs x hb h => ⟨h.1, Rs.mono (fun _ _ h => IR.mono (fun b hb' => hb.block b hb') (fun b hb' => Nat.lt_of_lt_of_le hb' hb.size) h) h.2⟩ }
/-- A reading says so. -/
def HE {α : Type} (r : Rd α) (e : α → List Lf) (ok : α → Prop) : Prop := ∀ w cs a, r.holds w cs a → ok a ∧ Rs (IRw w) (e a) cs
section
variable {α β : Type} {P : Program} {N : Nat} {t : TypeId}
theorem HE.rd {k : Nat} {enc : α → List Lf} {ok : α → Prop} {hk : ∀ x, (enc x).length = k} : HE (rdE k enc ok hk) enc ok := fun _ _ _ h => h
theorem HE.unit : HE Rd.unit (fun _ => []) (fun _ => True) := fun _ _ _ h => by cases h; exact ⟨trivial, trivial⟩
theorem HE.pair {r : Rd α} {s : Rd β} {e : α → List Lf} {e' : β → List Lf} {ok : α → Prop} {ok' : β → Prop} (h : HE r e ok) (h' : HE s e' ok') : HE (r.pair s) (fun x => e x.1 ++ e' x.2) (fun x => ok x.1 ∧ ok' x.2) := by
  rintro w cs a ⟨c, d, rfl, h1, h2⟩
  obtain ⟨g1, g2⟩ := h w c _ h1
  obtain ⟨g3, g4⟩ := h' w d _ h2
  exact ⟨⟨g1, g3⟩, Rs.append g2 g4⟩
theorem Opens.mono {r : Rd α} {s : Rd β} (h : Opens P N t r) (hs : r.size = s.size) (hi : ∀ w cs a, r.holds w cs a → ∃ b, s.holds w cs b) : Opens P N t s :=
  ⟨h.size.trans hs, fun H enc w fuel cs x hx hb => let ⟨a, ha⟩ := h.opens H enc w fuel cs x hx hb; hi w cs a ha⟩
theorem oe_int (ht : P.underlying t = some (.int .i64)) (hc : P.cellsOf t = 1) : Opens P N t (rdE 1 (fun n : Int => [.int .i64 n]) isI (fun _ => rfl)) :=
  (opens_int ht hc).mono rfl fun w cs a h => ⟨a, h.2, by rw [h.1]; exact ⟨.int _ _, trivial⟩⟩
theorem oe_intk {k : IntKind} (ht : P.underlying t = some (.int k)) (hc : P.cellsOf t = 1) : Opens P N t (rdE 1 (fun n : Int => [.int k n]) (fun n : Int => (Lit.int k n).wf = true) (fun _ => rfl)) := ⟨hc, fun H enc w fuel cs x h _ => by
  obtain ⟨n, rfl, _, hw⟩ := DataW.trod_int ht h
  exact ⟨n, hw, .int _ _, trivial⟩⟩
theorem oe_bool (ht : P.underlying t = some .bool) (hc : P.cellsOf t = 1) : Opens P N t (rdE 1 (fun b : Bool => [.bool b]) (fun _ => True) (fun _ => rfl)) :=
  (opens_bool ht hc).mono rfl fun w cs a h => ⟨a, trivial, by rw [h]; exact ⟨.bool _, trivial⟩⟩
theorem oe_str (ht : P.underlying t = some .string) (hc : P.cellsOf t = 1) : Opens P N t (rdE 1 (fun s : ByteArray => [.str s]) (fun s => s.size ≤ N) (fun _ => rfl)) :=
  (opens_str ht hc).mono rfl fun w cs a h => ⟨a, h.2, by rw [h.1]; exact ⟨.str _, trivial⟩⟩
theorem oe_slice {e : TypeId} {sz : Nat} {enc : α → List Lf} {ok : α → Prop} {hk : ∀ x, (enc x).length = sz} (ht : P.underlying t = some (.slice e)) (hc : P.cellsOf t = 1) (hr : Opens P N e (rdE sz enc ok hk)) (hpos : 0 < sz) :
    Opens P N t (rdE 1 (fun l : List α => [.sl false sz (l.map enc)]) (fun l => l.length ≤ N ∧ ∀ x ∈ l, ok x) (fun _ => rfl)) := ⟨hc, fun H enc' w fuel cs x h hb => by
  obtain ⟨xs, A, c, hcs, hlen, hS⟩ := (opens_slice ht hc hr hpos).opens H enc' w fuel cs x h hb
  have hcap : xs.length ≤ c := by
    rcases open_slice ht h with ⟨h1, _⟩ | ⟨a, len, cap, m, n, D, Pl, h1, _, hl, _⟩
    · rw [hcs] at h1
      simp only [List.cons.injEq, Value.slice.injEq, and_true] at h1
      omega
    · rw [hcs] at h1
      simp only [List.cons.injEq, Value.slice.injEq, and_true] at h1
      omega
  have hok : ∀ x ∈ xs, ok x := fun x hx => by
    obtain ⟨i, hi⟩ := List.getElem?_of_mem hx
    obtain ⟨b, off, cs', _, _, h1, _⟩ := hS i x hi
    exact h1.1
  refine ⟨xs, ⟨hlen, hok⟩, ?_⟩
  rw [hcs]
  refine ⟨?_, trivial⟩
  cases xs with
  | nil => exact .sl0 false sz A c (fun h => by cases h)
  | cons x0 xr =>
    obtain ⟨b, off, cs0, hA, hlt, _, _⟩ := hS 0 x0 rfl
    subst hA
    have key : ∀ (i : Nat) (c' : List Lf) (j : Nat) (l : Lf), ((x0 :: xr).map enc)[i]? = some c' → c'[j]? = some l → ∃ v, w.cell? ⟨b, off + i * sz + j, none⟩ = some v ∧ IRw w l v := by
      intro i c' j l hi hj
      rw [List.getElem?_map] at hi
      cases hx : (x0 :: xr)[i]? with
      | none => rw [hx] at hi; cases hi
      | some y =>
        rw [hx] at hi; cases hi
        obtain ⟨b', off', cs', hA', _, ⟨_, h1⟩, h2⟩ := hS i y hx
        cases hA'
        obtain ⟨v, hv, hr⟩ := h1.get hj
        exact ⟨v, h2 j v hv, hr⟩
    have hl2 : (x0 :: xr).length = ((x0 :: xr).map enc).length := (List.length_map ..).symm
    rw [hl2]
    refine .sl false sz _ b off c (fun i j => (w.cell? ⟨b, off + i * sz + j, none⟩).getD undef) hlt (by rw [List.length_map]; exact hcap) (fun h => by cases h) ?_ ?_ ?_
    · intro i c' hi
      rw [List.getElem?_map] at hi
      cases hx : (x0 :: xr)[i]? with
      | none => rw [hx] at hi; cases hi
      | some y => rw [hx] at hi; cases hi; exact hk y
    · intro i c' j l hi hj
      obtain ⟨v, hv, _⟩ := key i c' j l hi hj
      show _ = some ((w.cell? ⟨b, off + i * sz + j, none⟩).getD undef)
      rw [hv]; rfl
    · intro i c' j l hi hj
      obtain ⟨v, hv, hr⟩ := key i c' j l hi hj
      show IR w _ l ((w.cell? ⟨b, off + i * sz + j, none⟩).getD undef)
      rw [hv]; exact hr⟩
theorem oe_struct {fs : Array Field} {r : Rd α} {e : α → List Lf} {ok : α → Prop} {k : Nat} {enc : β → List Lf} {okT : β → Prop} {hk : ∀ x, (enc x).length = k} (ht : P.underlying t = some (.struct fs)) (hc : P.cellsOf t = r.size) (hF : FieldsR P N fs.toList 0 α r)
    (hsz : r.size = k) (hE : HE r e ok) (mk : α → β) (h1 : ∀ a, enc (mk a) = e a) (h2 : ∀ a, ok a → okT (mk a)) : Opens P N t (rdE k enc okT hk) :=
  (opens_struct ht hc hF).mono hsz fun w cs a h => ⟨mk a, h2 a (hE w cs a h).1, by rw [h1]; exact (hE w cs a h).2⟩
theorem oe_array2 {e : TypeId} {sz : Nat} {enc0 : α → List Lf} {ok0 : α → Prop} {hk0 : ∀ x, (enc0 x).length = sz} {k : Nat} {enc : β → List Lf} {okT : β → Prop} {hk : ∀ x, (enc x).length = k} (ht : P.underlying t = some (.array 2 e)) (hc : P.cellsOf t = sz + sz) (hr : Opens P N e (rdE sz enc0 ok0 hk0))
    (hsz : sz + sz = k) (mk : α → α → β) (h1 : ∀ a b, enc (mk a b) = enc0 a ++ enc0 b) (h2 : ∀ a b, ok0 a → ok0 b → okT (mk a b)) : Opens P N t (rdE k enc okT hk) :=
  (opens_array2 ht hc hr).mono hsz fun w cs a h => by
    have := HE.pair (HE.rd (hk := hk0)) (HE.rd (hk := hk0)) w cs a h
    exact ⟨mk a.1 a.2, h2 _ _ this.1.1 this.1.2, by rw [h1]; exact this.2⟩
end
section
variable {P : Program} {f : FuncId} {w : World}
theorem irs_lrs {M : Nat → Prop} {φ : Pl} {ls : List Lf} {vs : List Value} (h : Rs (IR w M) ls vs) : Rs (LR w M φ) ls vs := Rs.mono (fun _ _ h => IR.lr h) h
/-- A law that answers true: its walk. -/
theorem law_walk {args : List Cm} {vals : List Value} (h : AFn P f args [] (.cm (.one (.bool true))) []) (hv : Rs (CR w (fun b => b < w.heap.size) (fun _ => none)) args vals) :
    Calls P f vals.toArray w fun e w' => e = .returned (.bool true) ∧ Below w.heap.size w w' := by
  refine (h.2 w (fun _ => none) (fun b => b < w.heap.size) vals ?_ (fun _ _ => rfl) hv).mono ?_
  · refine ⟨fun id ob h => by simp at h, fun i j oi oj b Ci Cj h => by simp at h, fun b h => h, fun b h => h, fun b h => .inl h, fun id ob b C h => by simp at h, fun _ _ _ => rfl, rfl, rfl, rfl, Nat.le_refl _, fun p h => by simp [pinsOf] at h⟩
  · rintro e w' ⟨v, φ', M', rfl, hv, hW, _⟩
    cases hv
    exact ⟨rfl, hW.os, hW.tape, hW.output, hW.size, fun b hb => hW.keep b hb (by rintro ⟨id, C, h, _⟩; simp at h)⟩
theorem arg_one {l : Lf} {v : Value} (h : IRw w l v) : CR w (fun b => b < w.heap.size) (fun _ => none) (.one l) v := IR.lr h
theorem arg_agg {ls : List Lf} {cs : Array Value} (h : Rs (IRw w) ls cs.toList) : CR w (fun b => b < w.heap.size) (fun _ => none) (.agg ls) (.agg cs) := ⟨cs.toList, by simp, irs_lrs h⟩
end
end Go.Proofs.YtjhhlmmmkgnhmaaDoor
