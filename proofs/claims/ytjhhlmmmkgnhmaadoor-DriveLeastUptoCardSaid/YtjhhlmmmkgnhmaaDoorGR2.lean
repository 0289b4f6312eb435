/- Lemmas over any program: how cells read as plain data ('Rd'): numbers, strings, structs, slices; that what is read as an argument reads so. -/
import Derived.Test.YtjhhlmmmkgnhmaaDoorLaw

import Derived.Deep.Slices
import Derived.ChangeArms
import Derived.OpenShut
import Derived.WideShapes
namespace Go.Proofs.YtjhhlmmmkgnhmaaDoor
set_option linter.unusedSimpArgs false
set_option linter.unusedVariables false
set_option linter.unusedSectionVars false
open Go.RowKit Go.ChangeShapes Go.WideShapes Go.Deep

/-- A number of Go's type int. -/
def isI (n : Int) : Prop := -9223372036854775808 ≤ n ∧ n ≤ 9223372036854775807

/-- How cells read as a datum: 'holds w cs x'. -/
structure Rd (α : Type) where
  size : Nat
  holds : World → List Value → α → Prop
  len : ∀ (w : World) (cs : List Value) (x : α), holds w cs x → cs.length = size
  ext : ∀ (w w' : World) (cs : List Value) (x : α), Below w.heap.size w w' → holds w cs x → holds w' cs x

/-- What lies at A reads as the list xs. -/
def SlR {α : Type} (r : Rd α) (w : World) (A : Option Addr) (xs : List α) : Prop :=
  ∀ (i : Nat) (x : α), xs[i]? = some x → ∃ b off cs, A = some ⟨b, off, none⟩ ∧ b < w.heap.size ∧ r.holds w cs x ∧ ∀ (j : Nat) (u : Value), cs[j]? = some u → w.cell? ⟨b, off + i * r.size + j, none⟩ = some u

theorem SlR.ext {α : Type} {r : Rd α} {w w' : World} {A : Option Addr} {xs : List α} (h : SlR r w A xs) (hb : Below w.heap.size w w') : SlR r w' A xs := fun i x hx => by
  obtain ⟨b, off, cs, hA, hlt, h1, h2⟩ := h i x hx
  exact ⟨b, off, cs, hA, Nat.lt_of_lt_of_le hlt hb.size, r.ext _ _ _ _ hb h1, fun j u hj => (hb.cell (p := ⟨b, _, none⟩) hlt).trans (h2 j u hj)⟩
theorem SlR.nil {α : Type} {r : Rd α} {w : World} {A : Option Addr} : SlR r w A [] := fun i x hx => by simp at hx

namespace Rd
def int : Rd Int := { size := 1, holds := fun _ cs n => cs = [.int .i64 n] ∧ isI n, len := fun _ _ _ h => by rw [h.1]; rfl, ext := fun _ _ _ _ _ h => h }
def bool : Rd Bool := { size := 1, holds := fun _ cs b => cs = [.bool b], len := fun _ _ _ h => by rw [h]; rfl, ext := fun _ _ _ _ _ h => h }
def str (N : Nat) : Rd ByteArray := { size := 1, holds := fun _ cs s => cs = [.string s] ∧ s.size ≤ N, len := fun _ _ _ h => by rw [h.1]; rfl, ext := fun _ _ _ _ _ h => h }
def unit : Rd Unit := { size := 0, holds := fun _ cs _ => cs = [], len := fun _ _ _ h => by rw [h]; rfl, ext := fun _ _ _ _ _ h => h }
def pair {α β : Type} (r : Rd α) (s : Rd β) : Rd (α × β) :=
  { size := r.size + s.size, holds := fun w cs x => ∃ c d, cs = c ++ d ∧ r.holds w c x.1 ∧ s.holds w d x.2,
    len := fun w cs x h => by
      obtain ⟨c, d, rfl, h1, h2⟩ := h
      rw [List.length_append, r.len _ _ _ h1, s.len _ _ _ h2],
    ext := fun w w' cs x hb h => by
      obtain ⟨c, d, rfl, h1, h2⟩ := h
      exact ⟨c, d, rfl, r.ext _ _ _ _ hb h1, s.ext _ _ _ _ hb h2⟩ }
def map {α β : Type} (r : Rd α) (f : α → β) : Rd β :=
  { size := r.size, holds := fun w cs y => ∃ x, r.holds w cs x ∧ f x = y,
    len := fun w cs y h => by obtain ⟨x, h1, _⟩ := h; exact r.len _ _ _ h1,
    ext := fun w w' cs y hb h => by obtain ⟨x, h1, h2⟩ := h; exact ⟨x, r.ext _ _ _ _ hb h1, h2⟩ }
def slice {α : Type} (N : Nat) (r : Rd α) : Rd (List α) :=
  { size := 1, holds := fun w cs xs => ∃ A c, cs = [.slice A xs.length c] ∧ xs.length ≤ N ∧ SlR r w A xs,
    len := fun w cs xs h => by obtain ⟨A, c, rfl, _⟩ := h; rfl,
    ext := fun w w' cs xs hb h => by obtain ⟨A, c, rfl, h1, h2⟩ := h; exact ⟨A, c, rfl, h1, h2.ext hb⟩ }
end Rd

section
variable {H : Type}
theorem bulk_pos (d : DataW H) : 1 ≤ Rows.uptoBulk d := by
  cases d with
  | lit l => cases l <;> simp [Rows.uptoBulk]
  | _ => simp [Rows.uptoBulk]
theorem bulkAll_len : ∀ ds : List (DataW H), ds.length ≤ Rows.uptoBulkAll ds
  | [] => by simp
  | d :: ds => by
    have h1 := bulk_pos d
    have h2 := bulkAll_len ds
    simp only [List.length_cons, Rows.uptoBulkAll]; omega
theorem bulkAll_mem : ∀ {ds : List (DataW H)} {d : DataW H}, d ∈ ds → Rows.uptoBulk d ≤ Rows.uptoBulkAll ds
  | [], d, h => by simp at h
  | e :: ds, d, h => by
    simp only [Rows.uptoBulkAll]
    rcases List.mem_cons.1 h with rfl | h
    · omega
    · have := bulkAll_mem h; omega
/-- Nothing is asked of sizes, or the reading is of bulk at most N. -/
def Fits (N : Nat) (d : DataW H) : Prop := N = maxLen ∨ Rows.uptoBulk d ≤ N
theorem Fits.agg {N : Nat} {ds : List (DataW H)} (h : Fits N (.agg ds)) {d : DataW H} (hd : d ∈ ds) : Fits N d := by
  rcases h with h | h
  · exact .inl h
  · right; have := bulkAll_mem hd; simp only [Rows.uptoBulk] at h; omega
theorem Fits.slice {N : Nat} {ds es : List (DataW H)} (h : Fits N (.slice ds es)) {d : DataW H} (hd : d ∈ ds) : Fits N d := by
  rcases h with h | h
  · exact .inl h
  · right; have := bulkAll_mem hd; simp only [Rows.uptoBulk] at h; omega
theorem Fits.len {N : Nat} {ds es : List (DataW H)} (h : Fits N (.slice ds es)) (hl : ds.length ≤ maxLen) : ds.length ≤ N := by
  rcases h with h | h
  · rw [h]; exact hl
  · have := bulkAll_len ds; simp only [Rows.uptoBulk] at h; omega
theorem Fits.all {N : Nat} {ds : List (DataW H)} (h : N = maxLen ∨ Rows.uptoBulkAll ds ≤ N) {d : DataW H} (hd : d ∈ ds) : Fits N d := by
  rcases h with h | h
  · exact .inl h
  · right; have := bulkAll_mem hd; omega
end

/-- Whatever is read at type t reads so. -/
structure Opens (P : Program) (N : Nat) (t : TypeId) {α : Type} (r : Rd α) : Prop where
  size : P.cellsOf t = r.size
  opens : ∀ (H : Type) (enc : TypeId × Value → H) (w : World) (fuel : Nat) (cs : List Value) (x : DataW H × List MemPlace),
    DataW.trod enc P w 0 (fun _ => true) true fuel t cs = some x → Fits N x.1 → ∃ a, r.holds w cs a

section
variable {P : Program} {N : Nat} {t : TypeId}
theorem opens_int (ht : P.underlying t = some (.int .i64)) (hc : P.cellsOf t = 1) : Opens P N t Rd.int := ⟨hc, fun H enc w fuel cs x h _ => by
  obtain ⟨n, rfl, _, hw⟩ := DataW.trod_int ht h
  exact ⟨n, rfl, i64_bounds hw⟩⟩
theorem opens_bool (ht : P.underlying t = some .bool) (hc : P.cellsOf t = 1) : Opens P N t Rd.bool := ⟨hc, fun H enc w fuel cs x h _ => by
  obtain ⟨b, rfl, _⟩ := DataW.trod_bool ht h
  exact ⟨b, rfl⟩⟩
theorem opens_str (ht : P.underlying t = some .string) (hc : P.cellsOf t = 1) : Opens P N t (Rd.str N) := ⟨hc, fun H enc w fuel cs x h hb => by
  obtain ⟨s, rfl, hx, hs⟩ := DataW.trod_string ht h
  refine ⟨s, rfl, ?_⟩
  rcases hb with hb | hb
  · rw [hb]; exact hs
  · rw [hx] at hb
    simp only [Rows.uptoBulk, Array.length_toList] at hb
    have : s.size = s.data.size := rfl
    omega⟩

theorem Opens.map {α β : Type} {r : Rd α} (h : Opens P N t r) (f : α → β) : Opens P N t (r.map f) := ⟨h.size, fun H enc w fuel cs x hx hb => by
  obtain ⟨a, ha⟩ := h.opens H enc w fuel cs x hx hb
  exact ⟨f a, a, ha, rfl⟩⟩

theorem opens_slice {e : TypeId} {α : Type} {r : Rd α} (ht : P.underlying t = some (.slice e)) (hc : P.cellsOf t = 1) (hr : Opens P N e r) (hpos : 0 < r.size) : Opens P N t (r.slice N) := ⟨hc, fun H enc w fuel cs x h hb => by
  rcases open_slice ht h with ⟨rfl, _⟩ | ⟨a, len, cap, m, n, D, Pl, rfl, _, hl, hm, hmm, hxe, hall⟩
  · exact ⟨[], none, 0, rfl, Nat.zero_le _, SlR.nil⟩
  · have hlm : len ≤ m := by rw [hmm]; split <;> omega
    have hxe : x.1 = .slice ((List.range len).map D) ((List.range (m - len)).map fun j => D (len + j)) := by rw [hxe]
    rw [hxe] at hb
    have hlN : len ≤ N := by have := hb.len (by simp; omega); simpa using this
    have each : ∀ i, i < len → ∃ q : List Value × α, r.holds w q.1 q.2 ∧ q.1.length = r.size ∧ ∀ j u, q.1[j]? = some u → w.cell? (a.add (i * r.size + j)) = some u := by
      intro i hi
      obtain ⟨cs', h1, h2⟩ := hall i (by omega)
      obtain ⟨y, hy⟩ := hr.opens H enc w n cs' _ h2 (hb.slice (List.mem_map.2 ⟨i, List.mem_range.2 hi, rfl⟩))
      obtain ⟨_, hlen, hcell⟩ := World.cells?_some h1
      rw [hr.size] at hcell hlen
      refine ⟨(cs', y), hy, hlen, fun j u hj => ?_⟩
      have hj' : j < cs'.length := (List.getElem?_eq_some_iff.1 hj).1
      have := hcell j (by omega)
      rw [add_add, hj] at this
      exact this
    obtain ⟨b, off, spot⟩ := a
    by_cases hl0 : len = 0
    · subst hl0
      exact ⟨[], _, _, rfl, Nat.zero_le _, SlR.nil⟩
    · have hspot : spot = none := by
        obtain ⟨q, _, h2, h3⟩ := each 0 (by omega)
        have h0 := h3 0 _ (List.getElem?_eq_getElem (by omega : 0 < q.1.length))
        simpa [Addr.add] using World.cell?_spot h0
      subst hspot
      have key : ∀ k, k ≤ len → ∃ xs : List α, xs.length = k ∧ SlR r w (some ⟨b, off, none⟩) xs := by
        intro k
        induction k with
        | zero => exact fun _ => ⟨[], rfl, SlR.nil⟩
        | succ k ih =>
          intro hk
          obtain ⟨xs, h1, h2⟩ := ih (by omega)
          obtain ⟨⟨cs', y⟩, g1, g2, g3⟩ := each k (by omega)
          refine ⟨xs ++ [y], by simp [h1], fun i x hx => ?_⟩
          rcases Nat.lt_or_ge i k with hi | hi
          · rw [List.getElem?_append_left (by omega)] at hx
            exact h2 i x hx
          · have hik : i = k := by
              have := (List.getElem?_eq_some_iff.1 hx).1
              simp [h1] at this; omega
            subst hik
            rw [List.getElem?_append_right (by omega), h1, Nat.sub_self] at hx
            have : y = x := by simpa using hx
            subst this
            have hcell : ∀ (j : Nat) (u : Value), cs'[j]? = some u → w.cell? ⟨b, off + i * r.size + j, none⟩ = some u := fun j u hj => by
              have := g3 j u hj
              rw [add_plain] at this
              rw [← this]; congr 2; omega
            refine ⟨b, off, cs', rfl, ?_, g1, hcell⟩
            have h0 := hcell 0 _ (List.getElem?_eq_getElem (by show 0 < cs'.length; simp only at g2; omega))
            rcases Nat.lt_or_ge b w.heap.size with h | h
            · exact h
            · exfalso
              unfold World.cell? at h0
              rw [Array.getElem?_eq_none h] at h0
              simp at h0
      obtain ⟨xs, h1, h2⟩ := key len (Nat.le_refl _)
      exact ⟨xs, _, _, by rw [h1], by omega, h2⟩⟩

/-- The fields of a struct, in order. -/
inductive FieldsR (P : Program) (N : Nat) : List Field → Nat → (α : Type) → Rd α → Prop
  | nil {off : Nat} : FieldsR P N [] off Unit Rd.unit
  | cons {f : Field} {fs : List Field} {off : Nat} {α β : Type} {r : Rd α} {s : Rd β} : f.offset = off → Opens P N f.type r → FieldsR P N fs (off + r.size) β s → FieldsR P N (f :: fs) off (α × β) (Rd.pair r s)

theorem fields_open {w : World} {H : Type} {enc : TypeId × Value → H} {n : Nat} {cs : List Value} : ∀ {fs : List Field} {off : Nat} {α : Type} {r : Rd α}, FieldsR P N fs off α r →
    (∀ f ∈ fs, ∃ y, DataW.trod enc P w 0 (fun _ => true) true n f.type ((cs.drop f.offset).take (P.cellsOf f.type)) = some y ∧ Fits N y.1) → ∃ a, r.holds w ((cs.drop off).take r.size) a := by
  intro fs off α r hF
  induction hF with
  | nil => exact fun _ => ⟨(), by show List.take 0 _ = []; simp⟩
  | @cons f fs off α β r s ho hr _ ih =>
    intro hall
    obtain ⟨y, hy, hyb⟩ := hall f (by simp)
    obtain ⟨a, ha⟩ := hr.opens _ _ _ _ _ _ hy hyb
    obtain ⟨b, hb⟩ := ih (fun g hg => hall g (by simp [hg]))
    rw [ho, hr.size] at ha
    refine ⟨(a, b), _, _, ?_, ha, hb⟩
    show List.take (r.size + s.size) _ = _
    rw [List.take_add, List.drop_drop]

theorem opens_struct {fs : Array Field} {α : Type} {r : Rd α} (ht : P.underlying t = some (.struct fs)) (hc : P.cellsOf t = r.size) (hF : FieldsR P N fs.toList 0 α r) : Opens P N t r := ⟨hc, fun H enc w fuel cs x h hb => by
  obtain ⟨xs, n, _, hxe, hlen, hxl, hf⟩ := DataW.trod_struct ht h
  have hxe : x.1 = .agg (xs.map (·.1)) := by rw [hxe]
  rw [hxe] at hb
  have := fields_open (w := w) (enc := enc) (n := n) (cs := cs) hF (fun f hfm => by
    obtain ⟨i, hi⟩ := List.getElem?_of_mem hfm
    have hi' : fs[i]? = some f := by simpa using hi
    have hlt : i < xs.length := by rw [hxl]; exact (Array.getElem?_eq_some_iff.1 hi').1
    exact ⟨xs[i], by rw [hf i f hi', List.getElem?_eq_getElem hlt], hb.agg (List.mem_map.2 ⟨xs[i], List.getElem_mem hlt, rfl⟩)⟩)
  rwa [List.drop_zero, ← hc, ← hlen, List.take_length] at this⟩

/-- An array of two. -/
theorem opens_array2 {e : TypeId} {α : Type} {r : Rd α} (ht : P.underlying t = some (.array 2 e)) (hc : P.cellsOf t = r.size + r.size) (hr : Opens P N e r) : Opens P N t (r.pair r) := ⟨hc, fun H enc w fuel cs x h hb => by
  obtain ⟨xs, n, _, hxe, hlen, hxl, hf⟩ := DataW.trod_array ht h
  have hxe : x.1 = .agg (xs.map (·.1)) := by rw [hxe]
  rw [hxe] at hb
  have h0 := hf 0 (by omega)
  have h1 := hf 1 (by omega)
  rw [hr.size] at h0 h1
  have l0 : 0 < xs.length := by omega
  have l1 : 1 < xs.length := by omega
  obtain ⟨a, ha⟩ := hr.opens _ _ _ _ _ _ (h0.trans (List.getElem?_eq_getElem l0)) (hb.agg (List.mem_map.2 ⟨xs[0], List.getElem_mem l0, rfl⟩))
  obtain ⟨b, hb'⟩ := hr.opens _ _ _ _ _ _ (h1.trans (List.getElem?_eq_getElem l1)) (hb.agg (List.mem_map.2 ⟨xs[1], List.getElem_mem l1, rfl⟩))
  refine ⟨(a, b), _, _, ?_, ha, hb'⟩
  rw [Nat.zero_mul, List.drop_zero, Nat.one_mul]
  have : cs = cs.take (r.size + r.size) := by rw [List.take_of_length_le (by omega)]
  conv => lhs; rw [this]
  rw [List.take_add]⟩

end
end Go.Proofs.YtjhhlmmmkgnhmaaDoor
