/- Lemmas over any program: a load of a whole struct of many cells, at one stroke. -/
import Derived.Test.YtcmbckcjklociaaLib
import Derived.Laws.Append
import Derived.Laws.IdiomCopy
namespace Go.Proofs.Ytcmbckcjklociaa
set_option linter.unusedSimpArgs false
set_option linter.unusedVariables false
open Go.RowKit

theorem isSome_getD {x : Option Value} (h : x.isSome = true) : x = some (x.getD undef) := by
  cases x with
  | none => cases h
  | some v => rfl
/-- The cells from o on are these. -/
def cellsAt (w : World) (b : Nat) : Nat → List Value → Prop
  | _, [] => True
  | o, v :: r => w.cell? ⟨b, o, none⟩ = some v ∧ cellsAt w b (o + 1) r
theorem cellsAt_get {w : World} {b : Nat} : ∀ {l : List Value} {o : Nat}, cellsAt w b o l → ∀ (j : Nat) (v : Value), l[j]? = some v → w.cell? ⟨b, o + j, none⟩ = some v
  | [], _, _, j, v, hj => by simp at hj
  | u :: r, o, h, 0, v, hj => by
    have : u = v := by simpa using hj
    rw [← this]; exact h.1
  | u :: r, o, h, j + 1, v, hj => by
    have := cellsAt_get h.2 j v (by simpa using hj)
    rwa [show o + 1 + j = o + (j + 1) by omega] at this
theorem run_cellsAt {P : Program} (w : World) (b o : Nat) (l : List Value) (h : cellsAt w b o l) : (loadCells ⟨b, o, none⟩ l.length).run P w = .ok l.toArray w :=
  run_loadCells_list w ⟨b, o, none⟩ l fun j v hj => by
    have := cellsAt_get h j v hj
    unfold Addr.add
    split
    · rename_i h0; subst h0; exact this
    · exact this

/-- A load of n cells, folded. -/
def loadRow (a : Addr) (n : Nat) : Sem (Array Value) := loadCellsFrom a 0 n #[]
def loadRow' (a : Addr) (n : Nat) : Sem (Array Value) := loadCellsFrom a 0 n #[]

theorem loadRow_6 (a : Addr) : loadCellsFrom a 0 6 #[] = loadRow a 6 := rfl
theorem run_loadRow_6 {P : Program} {w : World} {b o : Nat} : (loadRow ⟨b, o, none⟩ 6).run P w = if (w.cell? ⟨b, o, none⟩).isSome = true ∧ (w.cell? ⟨b, o + 1, none⟩).isSome = true ∧ (w.cell? ⟨b, o + 2, none⟩).isSome = true ∧ (w.cell? ⟨b, o + 3, none⟩).isSome = true ∧ (w.cell? ⟨b, o + 4, none⟩).isSome = true ∧ (w.cell? ⟨b, o + 5, none⟩).isSome = true then .ok #[(w.cell? ⟨b, o, none⟩).getD undef, (w.cell? ⟨b, o + 1, none⟩).getD undef, (w.cell? ⟨b, o + 2, none⟩).getD undef, (w.cell? ⟨b, o + 3, none⟩).getD undef, (w.cell? ⟨b, o + 4, none⟩).getD undef, (w.cell? ⟨b, o + 5, none⟩).getD undef] w else (loadRow' ⟨b, o, none⟩ 6).run P w := by
  split
  · rename_i h
    obtain ⟨h0, h1, h2, h3, h4, h5⟩ := h
    exact run_cellsAt w b o [(w.cell? ⟨b, o, none⟩).getD undef, (w.cell? ⟨b, o + 1, none⟩).getD undef, (w.cell? ⟨b, o + 2, none⟩).getD undef, (w.cell? ⟨b, o + 3, none⟩).getD undef, (w.cell? ⟨b, o + 4, none⟩).getD undef, (w.cell? ⟨b, o + 5, none⟩).getD undef] ⟨isSome_getD h0, isSome_getD h1, isSome_getD h2, isSome_getD h3, isSome_getD h4, isSome_getD h5, trivial⟩
  · rfl

theorem loadRow_14 (a : Addr) : loadCellsFrom a 0 14 #[] = loadRow a 14 := rfl
theorem run_loadRow_14 {P : Program} {w : World} {b o : Nat} : (loadRow ⟨b, o, none⟩ 14).run P w = if (w.cell? ⟨b, o, none⟩).isSome = true ∧ (w.cell? ⟨b, o + 1, none⟩).isSome = true ∧ (w.cell? ⟨b, o + 2, none⟩).isSome = true ∧ (w.cell? ⟨b, o + 3, none⟩).isSome = true ∧ (w.cell? ⟨b, o + 4, none⟩).isSome = true ∧ (w.cell? ⟨b, o + 5, none⟩).isSome = true ∧ (w.cell? ⟨b, o + 6, none⟩).isSome = true ∧ (w.cell? ⟨b, o + 7, none⟩).isSome = true ∧ (w.cell? ⟨b, o + 8, none⟩).isSome = true ∧ (w.cell? ⟨b, o + 9, none⟩).isSome = true ∧ (w.cell? ⟨b, o + 10, none⟩).isSome = true ∧ (w.cell? ⟨b, o + 11, none⟩).isSome = true ∧ (w.cell? ⟨b, o + 12, none⟩).isSome = true ∧ (w.cell? ⟨b, o + 13, none⟩).isSome = true then .ok #[(w.cell? ⟨b, o, none⟩).getD undef, (w.cell? ⟨b, o + 1, none⟩).getD undef, (w.cell? ⟨b, o + 2, none⟩).getD undef, (w.cell? ⟨b, o + 3, none⟩).getD undef, (w.cell? ⟨b, o + 4, none⟩).getD undef, (w.cell? ⟨b, o + 5, none⟩).getD undef, (w.cell? ⟨b, o + 6, none⟩).getD undef, (w.cell? ⟨b, o + 7, none⟩).getD undef, (w.cell? ⟨b, o + 8, none⟩).getD undef, (w.cell? ⟨b, o + 9, none⟩).getD undef, (w.cell? ⟨b, o + 10, none⟩).getD undef, (w.cell? ⟨b, o + 11, none⟩).getD undef, (w.cell? ⟨b, o + 12, none⟩).getD undef, (w.cell? ⟨b, o + 13, none⟩).getD undef] w else (loadRow' ⟨b, o, none⟩ 14).run P w := by
  split
  · rename_i h
    obtain ⟨h0, h1, h2, h3, h4, h5, h6, h7, h8, h9, h10, h11, h12, h13⟩ := h
    exact run_cellsAt w b o [(w.cell? ⟨b, o, none⟩).getD undef, (w.cell? ⟨b, o + 1, none⟩).getD undef, (w.cell? ⟨b, o + 2, none⟩).getD undef, (w.cell? ⟨b, o + 3, none⟩).getD undef, (w.cell? ⟨b, o + 4, none⟩).getD undef, (w.cell? ⟨b, o + 5, none⟩).getD undef, (w.cell? ⟨b, o + 6, none⟩).getD undef, (w.cell? ⟨b, o + 7, none⟩).getD undef, (w.cell? ⟨b, o + 8, none⟩).getD undef, (w.cell? ⟨b, o + 9, none⟩).getD undef, (w.cell? ⟨b, o + 10, none⟩).getD undef, (w.cell? ⟨b, o + 11, none⟩).getD undef, (w.cell? ⟨b, o + 12, none⟩).getD undef, (w.cell? ⟨b, o + 13, none⟩).getD undef] ⟨isSome_getD h0, isSome_getD h1, isSome_getD h2, isSome_getD h3, isSome_getD h4, isSome_getD h5, isSome_getD h6, isSome_getD h7, isSome_getD h8, isSome_getD h9, isSome_getD h10, isSome_getD h11, isSome_getD h12, isSome_getD h13, trivial⟩
  · rfl

theorem loadRow_16 (a : Addr) : loadCellsFrom a 0 16 #[] = loadRow a 16 := rfl
theorem run_loadRow_16 {P : Program} {w : World} {b o : Nat} : (loadRow ⟨b, o, none⟩ 16).run P w = if (w.cell? ⟨b, o, none⟩).isSome = true ∧ (w.cell? ⟨b, o + 1, none⟩).isSome = true ∧ (w.cell? ⟨b, o + 2, none⟩).isSome = true ∧ (w.cell? ⟨b, o + 3, none⟩).isSome = true ∧ (w.cell? ⟨b, o + 4, none⟩).isSome = true ∧ (w.cell? ⟨b, o + 5, none⟩).isSome = true ∧ (w.cell? ⟨b, o + 6, none⟩).isSome = true ∧ (w.cell? ⟨b, o + 7, none⟩).isSome = true ∧ (w.cell? ⟨b, o + 8, none⟩).isSome = true ∧ (w.cell? ⟨b, o + 9, none⟩).isSome = true ∧ (w.cell? ⟨b, o + 10, none⟩).isSome = true ∧ (w.cell? ⟨b, o + 11, none⟩).isSome = true ∧ (w.cell? ⟨b, o + 12, none⟩).isSome = true ∧ (w.cell? ⟨b, o + 13, none⟩).isSome = true ∧ (w.cell? ⟨b, o + 14, none⟩).isSome = true ∧ (w.cell? ⟨b, o + 15, none⟩).isSome = true then .ok #[(w.cell? ⟨b, o, none⟩).getD undef, (w.cell? ⟨b, o + 1, none⟩).getD undef, (w.cell? ⟨b, o + 2, none⟩).getD undef, (w.cell? ⟨b, o + 3, none⟩).getD undef, (w.cell? ⟨b, o + 4, none⟩).getD undef, (w.cell? ⟨b, o + 5, none⟩).getD undef, (w.cell? ⟨b, o + 6, none⟩).getD undef, (w.cell? ⟨b, o + 7, none⟩).getD undef, (w.cell? ⟨b, o + 8, none⟩).getD undef, (w.cell? ⟨b, o + 9, none⟩).getD undef, (w.cell? ⟨b, o + 10, none⟩).getD undef, (w.cell? ⟨b, o + 11, none⟩).getD undef, (w.cell? ⟨b, o + 12, none⟩).getD undef, (w.cell? ⟨b, o + 13, none⟩).getD undef, (w.cell? ⟨b, o + 14, none⟩).getD undef, (w.cell? ⟨b, o + 15, none⟩).getD undef] w else (loadRow' ⟨b, o, none⟩ 16).run P w := by
  split
  · rename_i h
    obtain ⟨h0, h1, h2, h3, h4, h5, h6, h7, h8, h9, h10, h11, h12, h13, h14, h15⟩ := h
    exact run_cellsAt w b o [(w.cell? ⟨b, o, none⟩).getD undef, (w.cell? ⟨b, o + 1, none⟩).getD undef, (w.cell? ⟨b, o + 2, none⟩).getD undef, (w.cell? ⟨b, o + 3, none⟩).getD undef, (w.cell? ⟨b, o + 4, none⟩).getD undef, (w.cell? ⟨b, o + 5, none⟩).getD undef, (w.cell? ⟨b, o + 6, none⟩).getD undef, (w.cell? ⟨b, o + 7, none⟩).getD undef, (w.cell? ⟨b, o + 8, none⟩).getD undef, (w.cell? ⟨b, o + 9, none⟩).getD undef, (w.cell? ⟨b, o + 10, none⟩).getD undef, (w.cell? ⟨b, o + 11, none⟩).getD undef, (w.cell? ⟨b, o + 12, none⟩).getD undef, (w.cell? ⟨b, o + 13, none⟩).getD undef, (w.cell? ⟨b, o + 14, none⟩).getD undef, (w.cell? ⟨b, o + 15, none⟩).getD undef] ⟨isSome_getD h0, isSome_getD h1, isSome_getD h2, isSome_getD h3, isSome_getD h4, isSome_getD h5, isSome_getD h6, isSome_getD h7, isSome_getD h8, isSome_getD h9, isSome_getD h10, isSome_getD h11, isSome_getD h12, isSome_getD h13, isSome_getD h14, isSome_getD h15, trivial⟩
  · rfl

def storeRow (a : Addr) (vs : List Value) : Sem Unit := storeCells a vs 0
def storeRow' (a : Addr) (vs : List Value) : Sem Unit := storeCells a vs 0
theorem oneCell_int {k : IntKind} {n : Int} : (Value.int k n).oneCell' = true := rfl
theorem oneCell_bool {x : Bool} : (Value.bool x).oneCell' = true := rfl
theorem oneCell_string {x : ByteArray} : (Value.string x).oneCell' = true := rfl
theorem oneCell_slice {x : Option Addr} {n c : Nat} : (Value.slice x n c).oneCell' = true := rfl
theorem oneCell_pointer {x : Option Addr} : (Value.pointer x).oneCell' = true := rfl
theorem oneCell_map {x : Option Nat} : (Value.map x).oneCell' = true := rfl
attribute [go_sem] oneCell_int oneCell_bool oneCell_string oneCell_slice oneCell_pointer oneCell_map

/-- The cells from o on may be written, the values are cells. -/
def storesAt (w : World) (b : Nat) : Nat → List Value → Prop
  | _, [] => True
  | o, v :: r => ((w.cell? ⟨b, o, none⟩).isSome = true ∧ w.frozen? ⟨b, o, none⟩ = false ∧ v.oneCell' = true) ∧ storesAt w b (o + 1) r
theorem storesAt_get {w : World} {b : Nat} : ∀ {l : List Value} {o : Nat}, storesAt w b o l → ∀ j, j < l.length → (w.cell? ⟨b, o + j, none⟩).isSome = true ∧ w.frozen? ⟨b, o + j, none⟩ = false
  | [], _, _, j, hj => by simp at hj
  | u :: r, o, h, 0, _ => ⟨h.1.1, h.1.2.1⟩
  | u :: r, o, h, j + 1, hj => by
    have := storesAt_get h.2 j (by simpa using hj)
    rwa [show o + 1 + j = o + (j + 1) by omega] at this
theorem storesAt_one {w : World} {b : Nat} : ∀ {l : List Value} {o : Nat}, storesAt w b o l → ∀ v ∈ l, v.oneCell' = true
  | [], _, _, v, hv => by simp at hv
  | u :: r, o, h, v, hv => by
    rcases List.mem_cons.1 hv with rfl | hv
    · exact h.1.2.2
    · exact storesAt_one h.2 v hv
theorem run_storesAt {P : Program} (w : World) (b o : Nat) (l : List Value) (h : storesAt w b o l) : (storeCells ⟨b, o, none⟩ l 0).run P w = .ok () (w.setCells b o l) :=
  run_storeCells_cells (P := P) b o l 0 w (fun j hj => (storesAt_get h j hj).1) (fun j hj => (storesAt_get h j hj).2) (storesAt_one h)

theorem storeRow_6 {a : Addr} {v0 v1 v2 v3 v4 v5 : Value} : storeCells a [v0, v1, v2, v3, v4, v5] 0 = storeRow a [v0, v1, v2, v3, v4, v5] := rfl
theorem run_storeRow_6 {P : Program} {w : World} {b o : Nat} {v0 v1 v2 v3 v4 v5 : Value} : (storeRow ⟨b, o, none⟩ [v0, v1, v2, v3, v4, v5]).run P w = if (w.cell? ⟨b, o, none⟩).isSome = true ∧ w.frozen? ⟨b, o, none⟩ = false ∧ v0.oneCell' = true ∧ (w.cell? ⟨b, o + 1, none⟩).isSome = true ∧ w.frozen? ⟨b, o + 1, none⟩ = false ∧ v1.oneCell' = true ∧ (w.cell? ⟨b, o + 2, none⟩).isSome = true ∧ w.frozen? ⟨b, o + 2, none⟩ = false ∧ v2.oneCell' = true ∧ (w.cell? ⟨b, o + 3, none⟩).isSome = true ∧ w.frozen? ⟨b, o + 3, none⟩ = false ∧ v3.oneCell' = true ∧ (w.cell? ⟨b, o + 4, none⟩).isSome = true ∧ w.frozen? ⟨b, o + 4, none⟩ = false ∧ v4.oneCell' = true ∧ (w.cell? ⟨b, o + 5, none⟩).isSome = true ∧ w.frozen? ⟨b, o + 5, none⟩ = false ∧ v5.oneCell' = true then .ok () ((((((w.setCell ⟨b, o, none⟩ v0).setCell ⟨b, o + 1, none⟩ v1).setCell ⟨b, o + 2, none⟩ v2).setCell ⟨b, o + 3, none⟩ v3).setCell ⟨b, o + 4, none⟩ v4).setCell ⟨b, o + 5, none⟩ v5) else (storeRow' ⟨b, o, none⟩ [v0, v1, v2, v3, v4, v5]).run P w := by
  split
  · rename_i h
    obtain ⟨h0, f0, g0, h1, f1, g1, h2, f2, g2, h3, f3, g3, h4, f4, g4, h5, f5, g5⟩ := h
    exact run_storesAt w b o [v0, v1, v2, v3, v4, v5] ⟨⟨h0, f0, g0⟩, ⟨h1, f1, g1⟩, ⟨h2, f2, g2⟩, ⟨h3, f3, g3⟩, ⟨h4, f4, g4⟩, ⟨h5, f5, g5⟩, trivial⟩
  · rfl

theorem storeRow_14 {a : Addr} {v0 v1 v2 v3 v4 v5 v6 v7 v8 v9 v10 v11 v12 v13 : Value} : storeCells a [v0, v1, v2, v3, v4, v5, v6, v7, v8, v9, v10, v11, v12, v13] 0 = storeRow a [v0, v1, v2, v3, v4, v5, v6, v7, v8, v9, v10, v11, v12, v13] := rfl
theorem run_storeRow_14 {P : Program} {w : World} {b o : Nat} {v0 v1 v2 v3 v4 v5 v6 v7 v8 v9 v10 v11 v12 v13 : Value} : (storeRow ⟨b, o, none⟩ [v0, v1, v2, v3, v4, v5, v6, v7, v8, v9, v10, v11, v12, v13]).run P w = if (w.cell? ⟨b, o, none⟩).isSome = true ∧ w.frozen? ⟨b, o, none⟩ = false ∧ v0.oneCell' = true ∧ (w.cell? ⟨b, o + 1, none⟩).isSome = true ∧ w.frozen? ⟨b, o + 1, none⟩ = false ∧ v1.oneCell' = true ∧ (w.cell? ⟨b, o + 2, none⟩).isSome = true ∧ w.frozen? ⟨b, o + 2, none⟩ = false ∧ v2.oneCell' = true ∧ (w.cell? ⟨b, o + 3, none⟩).isSome = true ∧ w.frozen? ⟨b, o + 3, none⟩ = false ∧ v3.oneCell' = true ∧ (w.cell? ⟨b, o + 4, none⟩).isSome = true ∧ w.frozen? ⟨b, o + 4, none⟩ = false ∧ v4.oneCell' = true ∧ (w.cell? ⟨b, o + 5, none⟩).isSome = true ∧ w.frozen? ⟨b, o + 5, none⟩ = false ∧ v5.oneCell' = true ∧ (w.cell? ⟨b, o + 6, none⟩).isSome = true ∧ w.frozen? ⟨b, o + 6, none⟩ = false ∧ v6.oneCell' = true ∧ (w.cell? ⟨b, o + 7, none⟩).isSome = true ∧ w.frozen? ⟨b, o + 7, none⟩ = false ∧ v7.oneCell' = true ∧ (w.cell? ⟨b, o + 8, none⟩).isSome = true ∧ w.frozen? ⟨b, o + 8, none⟩ = false ∧ v8.oneCell' = true ∧ (w.cell? ⟨b, o + 9, none⟩).isSome = true ∧ w.frozen? ⟨b, o + 9, none⟩ = false ∧ v9.oneCell' = true ∧ (w.cell? ⟨b, o + 10, none⟩).isSome = true ∧ w.frozen? ⟨b, o + 10, none⟩ = false ∧ v10.oneCell' = true ∧ (w.cell? ⟨b, o + 11, none⟩).isSome = true ∧ w.frozen? ⟨b, o + 11, none⟩ = false ∧ v11.oneCell' = true ∧ (w.cell? ⟨b, o + 12, none⟩).isSome = true ∧ w.frozen? ⟨b, o + 12, none⟩ = false ∧ v12.oneCell' = true ∧ (w.cell? ⟨b, o + 13, none⟩).isSome = true ∧ w.frozen? ⟨b, o + 13, none⟩ = false ∧ v13.oneCell' = true then .ok () ((((((((((((((w.setCell ⟨b, o, none⟩ v0).setCell ⟨b, o + 1, none⟩ v1).setCell ⟨b, o + 2, none⟩ v2).setCell ⟨b, o + 3, none⟩ v3).setCell ⟨b, o + 4, none⟩ v4).setCell ⟨b, o + 5, none⟩ v5).setCell ⟨b, o + 6, none⟩ v6).setCell ⟨b, o + 7, none⟩ v7).setCell ⟨b, o + 8, none⟩ v8).setCell ⟨b, o + 9, none⟩ v9).setCell ⟨b, o + 10, none⟩ v10).setCell ⟨b, o + 11, none⟩ v11).setCell ⟨b, o + 12, none⟩ v12).setCell ⟨b, o + 13, none⟩ v13) else (storeRow' ⟨b, o, none⟩ [v0, v1, v2, v3, v4, v5, v6, v7, v8, v9, v10, v11, v12, v13]).run P w := by
  split
  · rename_i h
    obtain ⟨h0, f0, g0, h1, f1, g1, h2, f2, g2, h3, f3, g3, h4, f4, g4, h5, f5, g5, h6, f6, g6, h7, f7, g7, h8, f8, g8, h9, f9, g9, h10, f10, g10, h11, f11, g11, h12, f12, g12, h13, f13, g13⟩ := h
    exact run_storesAt w b o [v0, v1, v2, v3, v4, v5, v6, v7, v8, v9, v10, v11, v12, v13] ⟨⟨h0, f0, g0⟩, ⟨h1, f1, g1⟩, ⟨h2, f2, g2⟩, ⟨h3, f3, g3⟩, ⟨h4, f4, g4⟩, ⟨h5, f5, g5⟩, ⟨h6, f6, g6⟩, ⟨h7, f7, g7⟩, ⟨h8, f8, g8⟩, ⟨h9, f9, g9⟩, ⟨h10, f10, g10⟩, ⟨h11, f11, g11⟩, ⟨h12, f12, g12⟩, ⟨h13, f13, g13⟩, trivial⟩
  · rfl

theorem storeRow_16 {a : Addr} {v0 v1 v2 v3 v4 v5 v6 v7 v8 v9 v10 v11 v12 v13 v14 v15 : Value} : storeCells a [v0, v1, v2, v3, v4, v5, v6, v7, v8, v9, v10, v11, v12, v13, v14, v15] 0 = storeRow a [v0, v1, v2, v3, v4, v5, v6, v7, v8, v9, v10, v11, v12, v13, v14, v15] := rfl
theorem run_storeRow_16 {P : Program} {w : World} {b o : Nat} {v0 v1 v2 v3 v4 v5 v6 v7 v8 v9 v10 v11 v12 v13 v14 v15 : Value} : (storeRow ⟨b, o, none⟩ [v0, v1, v2, v3, v4, v5, v6, v7, v8, v9, v10, v11, v12, v13, v14, v15]).run P w = if (w.cell? ⟨b, o, none⟩).isSome = true ∧ w.frozen? ⟨b, o, none⟩ = false ∧ v0.oneCell' = true ∧ (w.cell? ⟨b, o + 1, none⟩).isSome = true ∧ w.frozen? ⟨b, o + 1, none⟩ = false ∧ v1.oneCell' = true ∧ (w.cell? ⟨b, o + 2, none⟩).isSome = true ∧ w.frozen? ⟨b, o + 2, none⟩ = false ∧ v2.oneCell' = true ∧ (w.cell? ⟨b, o + 3, none⟩).isSome = true ∧ w.frozen? ⟨b, o + 3, none⟩ = false ∧ v3.oneCell' = true ∧ (w.cell? ⟨b, o + 4, none⟩).isSome = true ∧ w.frozen? ⟨b, o + 4, none⟩ = false ∧ v4.oneCell' = true ∧ (w.cell? ⟨b, o + 5, none⟩).isSome = true ∧ w.frozen? ⟨b, o + 5, none⟩ = false ∧ v5.oneCell' = true ∧ (w.cell? ⟨b, o + 6, none⟩).isSome = true ∧ w.frozen? ⟨b, o + 6, none⟩ = false ∧ v6.oneCell' = true ∧ (w.cell? ⟨b, o + 7, none⟩).isSome = true ∧ w.frozen? ⟨b, o + 7, none⟩ = false ∧ v7.oneCell' = true ∧ (w.cell? ⟨b, o + 8, none⟩).isSome = true ∧ w.frozen? ⟨b, o + 8, none⟩ = false ∧ v8.oneCell' = true ∧ (w.cell? ⟨b, o + 9, none⟩).isSome = true ∧ w.frozen? ⟨b, o + 9, none⟩ = false ∧ v9.oneCell' = true ∧ (w.cell? ⟨b, o + 10, none⟩).isSome = true ∧ w.frozen? ⟨b, o + 10, none⟩ = false ∧ v10.oneCell' = true ∧ (w.cell? ⟨b, o + 11, none⟩).isSome = true ∧ w.frozen? ⟨b, o + 11, none⟩ = false ∧ v11.oneCell' = true ∧ (w.cell? ⟨b, o + 12, none⟩).isSome = true ∧ w.frozen? ⟨b, o + 12, none⟩ = false ∧ v12.oneCell' = true ∧ (w.cell? ⟨b, o + 13, none⟩).isSome = true ∧ w.frozen? ⟨b, o + 13, none⟩ = false ∧ v13.oneCell' = true ∧ (w.cell? ⟨b, o + 14, none⟩).isSome = true ∧ w.frozen? ⟨b, o + 14, none⟩ = false ∧ v14.oneCell' = true ∧ (w.cell? ⟨b, o + 15, none⟩).isSome = true ∧ w.frozen? ⟨b, o + 15, none⟩ = false ∧ v15.oneCell' = true then .ok () ((((((((((((((((w.setCell ⟨b, o, none⟩ v0).setCell ⟨b, o + 1, none⟩ v1).setCell ⟨b, o + 2, none⟩ v2).setCell ⟨b, o + 3, none⟩ v3).setCell ⟨b, o + 4, none⟩ v4).setCell ⟨b, o + 5, none⟩ v5).setCell ⟨b, o + 6, none⟩ v6).setCell ⟨b, o + 7, none⟩ v7).setCell ⟨b, o + 8, none⟩ v8).setCell ⟨b, o + 9, none⟩ v9).setCell ⟨b, o + 10, none⟩ v10).setCell ⟨b, o + 11, none⟩ v11).setCell ⟨b, o + 12, none⟩ v12).setCell ⟨b, o + 13, none⟩ v13).setCell ⟨b, o + 14, none⟩ v14).setCell ⟨b, o + 15, none⟩ v15) else (storeRow' ⟨b, o, none⟩ [v0, v1, v2, v3, v4, v5, v6, v7, v8, v9, v10, v11, v12, v13, v14, v15]).run P w := by
  split
  · rename_i h
    obtain ⟨h0, f0, g0, h1, f1, g1, h2, f2, g2, h3, f3, g3, h4, f4, g4, h5, f5, g5, h6, f6, g6, h7, f7, g7, h8, f8, g8, h9, f9, g9, h10, f10, g10, h11, f11, g11, h12, f12, g12, h13, f13, g13, h14, f14, g14, h15, f15, g15⟩ := h
    exact run_storesAt w b o [v0, v1, v2, v3, v4, v5, v6, v7, v8, v9, v10, v11, v12, v13, v14, v15] ⟨⟨h0, f0, g0⟩, ⟨h1, f1, g1⟩, ⟨h2, f2, g2⟩, ⟨h3, f3, g3⟩, ⟨h4, f4, g4⟩, ⟨h5, f5, g5⟩, ⟨h6, f6, g6⟩, ⟨h7, f7, g7⟩, ⟨h8, f8, g8⟩, ⟨h9, f9, g9⟩, ⟨h10, f10, g10⟩, ⟨h11, f11, g11⟩, ⟨h12, f12, g12⟩, ⟨h13, f13, g13⟩, ⟨h14, f14, g14⟩, ⟨h15, f15, g15⟩, trivial⟩
  · rfl

attribute [go_sem high] storeRow_6 storeRow_14 storeRow_16
attribute [go_sem] run_storeRow_6 run_storeRow_14 run_storeRow_16
attribute [go_sem ↓] loadRow_6 loadRow_14 loadRow_16
attribute [go_sem] run_loadRow_6 run_loadRow_14 run_loadRow_16
end Go.Proofs.Ytcmbckcjklociaa
