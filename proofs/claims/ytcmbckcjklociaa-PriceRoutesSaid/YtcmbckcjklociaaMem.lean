/- Lemmas over any program: blocks known whole, and what keeps them; a world taken for a letter. -/
import Derived.Test.YtcmbckcjklociaaLib
import Derived.Laws.OwnMore
import Derived.Deep.Draws
import Derived.Laws.Rows
namespace Go.Proofs.Ytcmbckcjklociaa
open Go.RowKit

/-- Block g of w is just the cells cs, of element type t; none is frozen. -/
def Blk (w : World) (g : Nat) (t : TypeId) (cs : List Value) : Prop := w.heap[g]? = some (.cells cs.toArray t (0, 0))

section
variable {w w' : World} {g : Nat} {t : TypeId} {cs : List Value}
theorem Blk.lt (h : Blk w g t cs) : g < w.heap.size := by
  rcases Nat.lt_or_ge g w.heap.size with hlt | hge
  · exact hlt
  · unfold Blk at h; rw [Array.getElem?_eq_none hge] at h; cases h
theorem Blk.cell (h : Blk w g t cs) : ∀ i, w.cell? ⟨g, i, none⟩ = cs[i]? := fun i => by
  have := cell_of_row w g i cs.toArray t (0, 0) h
  simpa using this
theorem Blk.frozen (h : Blk w g t cs) : ∀ i, w.frozen? ⟨g, i, none⟩ = false := fun i => by
  unfold Blk at h
  simp [World.frozen?, h]
theorem Blk.new (w : World) (t : TypeId) (cs : List Value) : Blk (w.alloc (.cells cs.toArray t)) w.heap.size t cs := heap_alloc_new w _
theorem Blk.new_at (w : World) (t : TypeId) (cs : List Value) (hg : g = w.heap.size) : Blk (w.alloc (.cells cs.toArray t)) g t cs := by subst hg; exact heap_alloc_new w _
theorem Blk.drew (h : Blk w g t cs) : Blk w.drew g t cs := h
theorem Blk.drewN (h : Blk w g t cs) (n : Nat) : Blk (w.drewN n) g t cs := h
theorem Blk.alloc (h : Blk w g t cs) (o : Obj) : Blk (w.alloc o) g t cs := (Below.heap_alloc w o g h.lt).trans h
theorem Blk.set_ {i : Nat} {u : Value} {cs' : List Value} (h : Blk w g t cs) (e : cs.set i u = cs') : Blk (w.setCell ⟨g, i, none⟩ u) g t cs' := by
  subst e
  unfold Blk at h ⊢
  simp [World.setCell, Array.getElem?_modify, h]
theorem Blk.far (h : Blk w g t cs) {p : Addr} (hp : g ≠ p.block) (u : Value) : Blk (w.setCell p u) g t cs := (Below.heap_setCell w p u g hp).trans h
theorem Blk.over (h : Blk w g t cs) (x : World) : Blk (Go.Proofs.Ytcmbckcjklociaa.over w x) g t cs := ((over_below w x).block g h.lt).trans h
theorem Blk.below (h : Blk w g t cs) (hb : Below w.heap.size w w') : Blk w' g t cs := (hb.block g h.lt).trans h
theorem Blk.grown {row : Option Nat} (h : Blk w g t cs) (hb : w.grownBy w' row) (hg : some g ≠ row) : Blk w' g t cs := (hb.block g h.lt hg).trans h
end

/-! What is below w0's size is as it was. -/
section
variable {w0 w : World}
theorem B_alloc (h : Below w0.heap.size w0 w) (o : Obj) : Below w0.heap.size w0 (w.alloc o) := h.alloc h.size o
theorem B_over (h : Below w0.heap.size w0 w) (x : World) : Below w0.heap.size w0 (over w x) := below_over h h.size x
theorem B_below {w' : World} (h : Below w0.heap.size w0 w) (hb : Below w.heap.size w w') : Below w0.heap.size w0 w' := h.trans (hb.mono h.size)
theorem B_drewN (h : Below w0.heap.size w0 w) (n : Nat) : Below w0.heap.size w0 (w.drewN n) := ⟨h.os, h.tape, h.output, h.size, h.block⟩
theorem B_set {g i : Nat} (h : Below w0.heap.size w0 w) (hg : w0.heap.size ≤ g) (u : Value) : Below w0.heap.size w0 (w.setCell ⟨g, i, none⟩ u) := h.setCell hg u
end

/-- The world is taken for a letter of which F is known. -/
theorem abs_wp {P : Program} {c : Code} {Q : Exit → Act → World → Prop} {a : Act} {w : World} (F : World → Prop) (hF : F w) (h : ∀ W, F W → c.wp P Q a W) : c.wp P Q a w := h w hF
theorem abs_list {P : Program} {ops : Array Oper} {l : List Oper} {Q : Exit → Act → World → Prop} {a : Act} {w : World} (F : World → Prop) (hF : F w) (h : ∀ W, F W → wpList P ops Q l a W) : wpList P ops Q l a w := h w hF
theorem abs_mx {P : Program} {l : List Oper} {n : Nat} {Q : Exit → Act → World → Prop} {f : Nat} {done : List Nat} {a : Act} {w : World} (F : World → Prop) (hF : F w) (h : ∀ W, F W → MX P l n Q f done a W) : MX P l n Q f done a w := h w hF
/-- A new block in a world that extends W: its number and its cells are known, no more. -/
theorem mx_new {P : Program} {l : List Oper} {n : Nat} {Q : Exit → Act → World → Prop} {f : Nat} {done : List Nat} {a : Nat → Act} {W x : World} {t : TypeId} {cs : List Value}
    (h : ∀ (g : Nat) (W' : World), W.heap.size ≤ g → Blk W' g t cs → Below W.heap.size W W' → MX P l n Q f done (a g) W') : MX P l n Q f done (a (over W x).heap.size) ((over W x).alloc (.cells cs.toArray t)) :=
  h _ _ (over_size W x) (Blk.new _ _ _) (B_alloc (over_below W x) _)
end Go.Proofs.Ytcmbckcjklociaa
