/- Lemmas over any program: what is known of memory in the middle of a call, as one statement ('St'): the blocks of the call's own, whole; readings of what callees made; what was there before is as it was. -/
import Derived.Test.YtcmbckcjklociaaMem
import Derived.Deep.MidRow
import Derived.LoopN
namespace Go.Proofs.Ytcmbckcjklociaa
open Go.RowKit

/-- A reading: a statement on a world that hangs on the blocks F alone. -/
structure Rsrc where
  F : Nat → Prop
  R : World → Prop
  loc : ∀ w w' : World, (∀ k, F k → w'.heap[k]? = w.heap[k]?) → R w → R w'

abbrev Sg := List (Nat × TypeId × List Value)

structure St (w0 w : World) (σ : Sg) (ρ : List Rsrc) : Prop where
  below : Below w0.heap.size w0 w
  blks : ∀ x ∈ σ, Blk w x.1 x.2.1 x.2.2 ∧ w0.heap.size ≤ x.1
  nodup : (σ.map (·.1)).Nodup
  reads : ∀ r ∈ ρ, r.R w ∧ ∀ k, r.F k → w0.heap.size ≤ k ∧ k < w.heap.size ∧ k ∉ σ.map (·.1)
  apart : ρ.Pairwise fun r s => ∀ k, r.F k → ¬ s.F k

section
variable {w0 w w' : World} {σ : Sg} {ρ : List Rsrc}

theorem St.start (w : World) : St w w [] [] := ⟨Below.refl _ _, by simp, by simp, by simp, by simp⟩

theorem St.ext (H : St w0 w σ ρ) (hb : Below w.heap.size w w') : St w0 w' σ ρ :=
  ⟨B_below H.below hb, fun x hx => ⟨(H.blks x hx).1.below hb, (H.blks x hx).2⟩, H.nodup,
   fun r hr => ⟨r.loc w w' (fun k hk => hb.block k ((H.reads r hr).2 k hk).2.1) (H.reads r hr).1, fun k hk => ⟨((H.reads r hr).2 k hk).1, Nat.lt_of_lt_of_le ((H.reads r hr).2 k hk).2.1 hb.size, ((H.reads r hr).2 k hk).2.2⟩⟩, H.apart⟩

theorem St.below' (H : St w0 w σ ρ) : Below w0.heap.size w0 w := H.below
theorem St.drew (H : St w0 w σ ρ) : St w0 w.drew σ ρ := H.ext (Below.refl _ _).drew
theorem St.allocAny (H : St w0 w σ ρ) (o : Obj) : St w0 (w.alloc o) σ ρ := H.ext ((Below.refl _ _).alloc (Nat.le_refl _) o)
theorem St.over (H : St w0 w σ ρ) (x : World) : St w0 (Go.Proofs.Ytcmbckcjklociaa.over w x) σ ρ := H.ext (over_below w x)

theorem St.mem_lt (H : St w0 w σ ρ) {k : Nat} (hk : k ∈ σ.map (·.1)) : k < w.heap.size := by
  obtain ⟨x, hx, rfl⟩ := List.mem_map.1 hk
  exact (H.blks x hx).1.lt

theorem St.alloc (H : St w0 w σ ρ) (t : TypeId) (cs : List Value) : St w0 (w.alloc (.cells cs.toArray t)) ((w.heap.size, t, cs) :: σ) ρ := by
  have hb : Below w.heap.size w (w.alloc (.cells cs.toArray t)) := (Below.refl _ _).alloc (Nat.le_refl _) _
  have H' := H.ext hb
  refine ⟨H'.below, ?_, ?_, fun r hr => ⟨(H'.reads r hr).1, fun k hk => ⟨((H'.reads r hr).2 k hk).1, ((H'.reads r hr).2 k hk).2.1, ?_⟩⟩, H.apart⟩
  · intro x hx
    rcases List.mem_cons.1 hx with rfl | hx
    · exact ⟨Blk.new _ _ _, H.below.size⟩
    · exact H'.blks x hx
  · simp only [List.map_cons, List.nodup_cons]
    exact ⟨fun h => Nat.lt_irrefl _ (H.mem_lt h), H.nodup⟩
  · simp only [List.map_cons, List.mem_cons, not_or]
    have := ((H.reads r hr).2 k hk).2.1
    exact ⟨by omega, ((H.reads r hr).2 k hk).2.2⟩

theorem map_fst_set {σ : Sg} {k g : Nat} {t : TypeId} {cs cs' : List Value} (h : σ[k]? = some (g, t, cs)) : (σ.set k (g, t, cs')).map (·.1) = σ.map (·.1) := by
  rw [List.map_set]
  apply List.ext_getElem?
  intro j
  rw [List.getElem?_set]
  split
  · rename_i hj; subst hj
    split
    · simp [h]
    · rename_i hl
      simp at hl
      simp [List.getElem?_eq_none hl] at h
  · rfl

theorem St.set (H : St w0 w σ ρ) (k : Nat) {g i : Nat} {t : TypeId} {cs : List Value} (h : σ[k]? = some (g, t, cs)) (u : Value) : St w0 (w.setCell ⟨g, i, none⟩ u) (σ.set k (g, t, cs.set i u)) ρ := by
  have hm : (g, t, cs) ∈ σ := List.mem_of_getElem? h
  have hB := H.blks _ hm
  have hother : ∀ j, j ≠ g → (w.setCell ⟨g, i, none⟩ u).heap[j]? = w.heap[j]? := fun j hj => Below.heap_setCell w ⟨g, i, none⟩ u j hj
  have hsz : (w.setCell ⟨g, i, none⟩ u).heap.size = w.heap.size := by simp
  have hkl : k < σ.length := (List.getElem?_eq_some_iff.1 h).1
  refine ⟨B_set H.below hB.2 u, ?_, ?_, ?_, H.apart⟩
  · intro x hx
    obtain ⟨j, hj⟩ := List.mem_iff_getElem?.1 hx
    rw [List.getElem?_set] at hj
    split at hj
    · rename_i hkj
      have := Option.some.inj hj
      subst this
      exact ⟨hB.1.set_ rfl, hB.2⟩
    · rename_i hkj
      have hx' := H.blks x (List.mem_of_getElem? hj)
      have hne : x.1 ≠ g := by
        intro he
        have h1 : (σ.map (·.1))[j]? = some g := by simp [hj, he]
        have h2 : (σ.map (·.1))[k]? = some g := by simp [h]
        have hjl : j < (σ.map (·.1)).length := (List.getElem?_eq_some_iff.1 h1).1
        have := (List.getElem?_inj hjl H.nodup).1 (h1.trans h2.symm)
        omega
      exact ⟨hx'.1.far hne u, hx'.2⟩
  · rw [map_fst_set h]; exact H.nodup
  · intro r hr
    have h1 := H.reads r hr
    have hgm : g ∈ σ.map (·.1) := List.mem_map.2 ⟨_, hm, rfl⟩
    refine ⟨r.loc w _ (fun k hk => hother k fun e => (h1.2 k hk).2.2 (by rw [e]; exact hgm)) h1.1, fun k hk => ⟨(h1.2 k hk).1, by rw [hsz]; exact (h1.2 k hk).2.1, by rw [map_fst_set h]; exact (h1.2 k hk).2.2⟩⟩

theorem St.set' (H : St w0 w σ ρ) (k : Nat) {g i : Nat} {t : TypeId} {cs : List Value} {σ' : Sg} (h : σ[k]? = some (g, t, cs)) (u : Value) (e : σ.set k (g, t, cs.set i u) = σ') : St w0 (w.setCell ⟨g, i, none⟩ u) σ' ρ := e ▸ H.set k h u
theorem St.alloc' (H : St w0 w σ ρ) (t : TypeId) (cs : List Value) {σ' : Sg} (e : (w.heap.size, t, cs) :: σ = σ') : St w0 (w.alloc (.cells cs.toArray t)) σ' ρ := e ▸ H.alloc t cs

theorem get0 {α : Type} {x : α} {l : List α} : (x :: l)[0]? = some x := rfl
theorem get1 {α : Type} {x y : α} {l : List α} : (y :: x :: l)[1]? = some x := rfl
theorem get2 {α : Type} {x y z : α} {l : List α} : (z :: y :: x :: l)[2]? = some x := rfl
theorem get3 {α : Type} {x y z u : α} {l : List α} : (u :: z :: y :: x :: l)[3]? = some x := rfl
theorem get4 {α : Type} {x y z u v : α} {l : List α} : (v :: u :: z :: y :: x :: l)[4]? = some x := rfl
theorem get5 {α : Type} {x y z u v s : α} {l : List α} : (s :: v :: u :: z :: y :: x :: l)[5]? = some x := rfl
theorem get6 {α : Type} {x y z u v s r : α} {l : List α} : (r :: s :: v :: u :: z :: y :: x :: l)[6]? = some x := rfl
theorem get7 {α : Type} {x y z u v s r q : α} {l : List α} : (q :: r :: s :: v :: u :: z :: y :: x :: l)[7]? = some x := rfl
/-- What the walk's simp wants to know: of each block its cells; that two blocks differ. -/
def neAll (g : Nat) : Sg → Prop
  | [] => True
  | y :: r => ((g = y.1) = False ∧ (y.1 = g) = False) ∧ neAll g r
def cellsOf (w : World) : Sg → Prop
  | [] => True
  | x :: r => ((∀ i, w.cell? ⟨x.1, i, none⟩ = x.2.2[i]?) ∧ (∀ i, w.frozen? ⟨x.1, i, none⟩ = false) ∧ x.1 < w.heap.size ∧ (x.1 = w.heap.size) = False) ∧ neAll x.1 r ∧ cellsOf w r

theorem neAll_of {g : Nat} (h : g ∉ σ.map (·.1)) : neAll g σ := by
  induction σ with
  | nil => trivial
  | cons y r ih =>
    simp only [List.map_cons, List.mem_cons, not_or] at h
    exact ⟨⟨by simpa using h.1, by simpa using fun e => h.1 (by rw [e])⟩, ih h.2⟩
theorem St.cells_aux (hb : ∀ x ∈ σ, Blk w x.1 x.2.1 x.2.2) (hn : (σ.map (·.1)).Nodup) : cellsOf w σ := by
  induction σ with
  | nil => trivial
  | cons x r ih =>
    simp only [List.map_cons, List.nodup_cons] at hn
    have h := hb x (by simp)
    exact ⟨⟨h.cell, h.frozen, h.lt, by simpa using Nat.ne_of_lt h.lt⟩, neAll_of hn.1, ih (fun y hy => hb y (by simp [hy])) hn.2⟩
theorem St.cells (H : St w0 w σ ρ) : cellsOf w σ := St.cells_aux (fun x hx => (H.blks x hx).1) H.nodup

/-- Some of the blocks, by their places. -/
theorem St.pick (l : List Nat) (hl : l.Nodup) (H : St w0 w σ ρ) {σ' : Sg} (e : (l.filterMap fun i => σ[i]?) = σ') : St w0 w σ' ρ := by
  subst e
  have hsub : ∀ x ∈ l.filterMap (fun i => σ[i]?), x ∈ σ := fun x hx => by
    obtain ⟨i, _, hi⟩ := List.mem_filterMap.1 hx
    exact List.mem_of_getElem? hi
  refine ⟨H.below, fun x hx => H.blks x (hsub x hx), ?_, fun r hr => ⟨(H.reads r hr).1, fun k hk => ⟨((H.reads r hr).2 k hk).1, ((H.reads r hr).2 k hk).2.1, fun hm => ((H.reads r hr).2 k hk).2.2 ?_⟩⟩, H.apart⟩
  · clear hsub
    induction l with
    | nil => simp
    | cons i l ih =>
      rw [List.nodup_cons] at hl
      cases hi : σ[i]? with
      | none => simpa [List.filterMap_cons, hi] using ih hl.2
      | some x =>
        simp only [List.filterMap_cons, hi, List.map_cons, List.nodup_cons]
        refine ⟨fun hm => ?_, ih hl.2⟩
        obtain ⟨y, hy, hxy⟩ := List.mem_map.1 hm
        obtain ⟨j, hj, hjy⟩ := List.mem_filterMap.1 hy
        have h1 : (σ.map (·.1))[i]? = some x.1 := by simp [hi]
        have h2 : (σ.map (·.1))[j]? = some x.1 := by simp [hjy, hxy]
        have hil : i < (σ.map (·.1)).length := (List.getElem?_eq_some_iff.1 h1).1
        have := (List.getElem?_inj hil H.nodup).1 (h1.trans h2.symm)
        exact hl.1 (this ▸ hj)
  · obtain ⟨x, hx, he⟩ := List.mem_map.1 hm
    exact List.mem_map.2 ⟨x, hsub x hx, he⟩

/-- What was there before the call. -/
theorem St.args (H : St w0 w σ ρ) : (∀ b o s, b < w0.heap.size → w.cell? ⟨b, o, s⟩ = w0.cell? ⟨b, o, s⟩) ∧ (∀ b, b < w0.heap.size → b < w.heap.size) ∧ (∀ b, b < w0.heap.size → (b = w.heap.size) = False) :=
  ⟨fun b o s h => H.below.cell (p := ⟨b, o, s⟩) h, fun b h => Nat.lt_of_lt_of_le h H.below.size, fun b h => by have := H.below.size; simp; omega⟩
end

section
variable {w0 w : World} {σ : Sg} {ρ : List Rsrc} {P : Program} {Q : Exit → Act → World → Prop} {a : Act}
theorem st_wp {c : Code} (H : St w0 w σ ρ) (h : ∀ W, St w0 W σ ρ → c.wp P Q a W) : c.wp P Q a w := h w H
theorem st_list {ops : Array Oper} {l : List Oper} (H : St w0 w σ ρ) (h : ∀ W, St w0 W σ ρ → wpList P ops Q l a W) : wpList P ops Q l a w := h w H
theorem st_rounds {c : Code} {n : Nat} (H : St w0 w σ ρ) (h : ∀ W, St w0 W σ ρ → Code.rounds P c Q n a W) : Code.rounds P c Q n a w := h w H
theorem st_calls {f : FuncId} {args : Array Value} {R : Ending → World → Prop} (H : St w0 w σ ρ) (h : ∀ W, St w0 W σ ρ → Calls P f args W R) : Calls P f args w R := h w H
theorem st_mx {l : List Oper} {n f : Nat} {done : List Nat} (H : St w0 w σ ρ) (h : ∀ W, St w0 W σ ρ → MX P l n Q f done a W) : MX P l n Q f done a w := h w H

theorem mix_end' {l : List Oper} {n : Nat} {done : List Nat} (hB : Region.seqB .any l.toArray (l.length - n) n (listedOf l.length done) = true)
    (h : ∀ W', Below w.heap.size w W' → wpList P l.toArray Q (l.drop n) a W') : MX P l n Q 0 done a w := mix_end hB fun x => h _ (over_below w x)

theorem mix_one' {l : List Oper} {n f : Nat} {done : List Nat} (i : Nat) {o : Oper} (hi : l.toArray[i]? = some o) (hS : oneB l n i done = true)
    (h : ∀ (W' : World) (K : Act → World → Prop), Below w.heap.size w W' → (∀ a' w', Below W'.heap.size W' w' → MX P l n Q f (i :: done) a' w' → K a' w') →
      if Region.wanted o (yielded l.toArray a.tmps) = true then o.wp P a W' K NoQ else K (a.put o.dst undef) W') : MX P l n Q (f + 1) done a w :=
  mix_one i hi hS fun x K hK => h _ K (over_below w x) hK
theorem mix_two' {l : List Oper} {n f : Nat} {done : List Nat} (i j : Nat) {o o' : Oper} (hi : l.toArray[i]? = some o) (hj : l.toArray[j]? = some o') (hS : twoB l n i j done = true)
    (h : ∀ (W' : World) (K : Act → World → Prop), Below w.heap.size w W' → (∀ a' w', Below W'.heap.size W' w' → MX P l n Q f (i :: done) a' w' → K a' w') →
      if Region.wanted o (yielded l.toArray a.tmps) = true then o.wp P a W' K NoQ else K (a.put o.dst undef) W')
    (h' : ∀ (W' : World) (K : Act → World → Prop), Below w.heap.size w W' → (∀ a' w', Below W'.heap.size W' w' → MX P l n Q f (j :: done) a' w' → K a' w') →
      if Region.wanted o' (yielded l.toArray a.tmps) = true then o'.wp P a W' K NoQ else K (a.put o'.dst undef) W') : MX P l n Q (f + 1) done a w :=
  mix_two i j hi hj hS (fun x K hK => h _ K (over_below w x) hK) (fun x K hK => h' _ K (over_below w x) hK)
end
end Go.Proofs.Ytcmbckcjklociaa
