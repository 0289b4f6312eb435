/- Lemmas over any program: slices that the call itself grows, and slices that are only read, beside 'St'. -/
import Derived.Test.YtcmbckcjklociaaSt
import Derived.Maps.AppendAt
import Derived.OwnWalk
namespace Go.Proofs.Ytcmbckcjklociaa
open Go.RowKit

/-- A row that is owned, as a reading. -/
def rowR (base : Nat) (e : TypeId) (size : Nat) (v : Value) (n : Nat) (xs : List Value) : Rsrc where
  F := fun k => v.ownBlock = some k
  R := fun w => w.ownsRow base e size v n xs
  loc := fun w w' h hr => by
    refine ⟨hr.1, ?_⟩
    rcases hr.2 with h0 | ⟨g, cap, cur, hv, hb, hg, h1, h2, h3, h4⟩
    · exact .inl h0
    · exact .inr ⟨g, cap, cur, hv, hb, (h g (by rw [hv]; rfl)).trans hg, h1, h2, h3, h4⟩

section
variable {w0 w w' : World} {σ : Sg} {ρ : List Rsrc}

theorem ownsRow_nil (w : World) (base : Nat) (e : TypeId) (size : Nat) : w.ownsRow base e size (.slice none 0 0) 0 [] := ⟨by simp, .inl ⟨rfl, rfl⟩⟩

theorem ownsRow_block {base : Nat} {e : TypeId} {size n : Nat} {v : Value} {xs : List Value} (h : w.ownsRow base e size v n xs) {k : Nat} (hk : v.ownBlock = some k) : base ≤ k ∧ k < w.heap.size := by
  rcases h.2 with ⟨hv, _⟩ | ⟨g, cap, cur, hv, hb, hg, _⟩
  · rw [hv] at hk; cases hk
  · rw [hv] at hk
    have : g = k := by simpa [Value.ownBlock] using hk
    subst this
    exact ⟨hb, (Array.getElem?_eq_some_iff.1 hg).1⟩

/-- A row of a callee's making (its base is the caller's heap at the call), or the nil row, is taken in. -/
theorem St.addRow (H : St w0 w σ ρ) {w1 : World} (hb : Below w.heap.size w w1) {e : TypeId} {size n : Nat} {v : Value} {xs : List Value} (h : w1.ownsRow w.heap.size e size v n xs) :
    St w0 w1 σ (rowR w.heap.size e size v n xs :: ρ) := by
  have H1 := H.ext hb
  refine ⟨H1.below, H1.blks, H1.nodup, ?_, ?_⟩
  · intro r hr
    rcases List.mem_cons.1 hr with rfl | hr
    · refine ⟨h, fun k hk => ?_⟩
      have h2 := ownsRow_block h hk
      have h3 := H.below.size
      refine ⟨by omega, h2.2, fun hm => ?_⟩
      have := H.mem_lt hm
      omega
    · exact H1.reads r hr
  · refine List.pairwise_cons.2 ⟨fun r hr k hk hk2 => ?_, H.apart⟩
    have h2 := ownsRow_block h hk
    have h3 := ((H.reads r hr).2 k hk2).2.1
    omega

theorem St.addNil (H : St w0 w σ ρ) (e : TypeId) (size : Nat) : St w0 w σ (rowR w.heap.size e size (.slice none 0 0) 0 [] :: ρ) := H.addRow (Below.refl _ _) (ownsRow_nil _ _ _ _)

theorem St.row {base n size : Nat} {e : TypeId} {v : Value} {xs : List Value} (H : St w0 w σ (rowR base e size v n xs :: ρ)) : w.ownsRow base e size v n xs := (H.reads _ (List.mem_cons_self)).1

/-- The row at the head of the list has grown. -/
theorem St.grow {base n n' size : Nat} {e : TypeId} {v v' : Value} {xs xs' : List Value} (H : St w0 w σ (rowR base e size v n xs :: ρ)) (hg : w.grownBy w' v.ownBlock) (ho : w'.ownsRow base e size v' n' xs')
    (hat : v'.ownBlock = v.ownBlock ∨ v'.ownBlock = some w.heap.size) : St w0 w' σ (rowR base e size v' n' xs' :: ρ) := by
  have hr := H.reads _ (List.mem_cons_self)
  have hrow : ∀ k, v.ownBlock = some k → w0.heap.size ≤ k ∧ k < w.heap.size ∧ k ∉ σ.map (·.1) := hr.2
  have hkeep : ∀ k, k < w.heap.size → v.ownBlock ≠ some k → w'.heap[k]? = w.heap[k]? := fun k hk hne => hg.block k hk (fun e => hne e.symm)
  refine ⟨⟨hg.os.trans H.below.os, hg.tape.trans H.below.tape, hg.output.trans H.below.output, Nat.le_trans H.below.size hg.size, fun k hk => ?_⟩, ?_, H.nodup, ?_, ?_⟩
  · rw [hkeep k (Nat.lt_of_lt_of_le hk H.below.size) (fun e => by have := (hrow k e).1; omega)]
    exact H.below.block k hk
  · intro x hx
    have hb := H.blks x hx
    refine ⟨?_, hb.2⟩
    have hm : x.1 ∈ σ.map (·.1) := List.mem_map.2 ⟨x, hx, rfl⟩
    exact (hkeep x.1 hb.1.lt (fun e => (hrow x.1 e).2.2 hm)).trans hb.1
  · intro r hr'
    rcases List.mem_cons.1 hr' with rfl | hr'
    · refine ⟨ho, fun k hk => ?_⟩
      have h2 := ownsRow_block ho hk
      rcases hat with e | e
      · have h3 := hrow k (e ▸ hk)
        exact ⟨h3.1, h2.2, h3.2.2⟩
      · have hk' : k = w.heap.size := by
          have : some w.heap.size = some k := e.symm.trans hk
          injection this with this
          exact this.symm
        subst hk'
        exact ⟨H.below.size, h2.2, fun hm => Nat.lt_irrefl _ (H.mem_lt hm)⟩
    · have h1 := H.reads r (List.mem_cons_of_mem _ hr')
      have hap := (List.pairwise_cons.1 H.apart).1 r hr'
      refine ⟨r.loc w w' (fun k hk => hkeep k (h1.2 k hk).2.1 (fun e => hap k e hk)) h1.1, fun k hk => ⟨(h1.2 k hk).1, Nat.lt_of_lt_of_le (h1.2 k hk).2.1 hg.size, (h1.2 k hk).2.2⟩⟩
  · refine List.pairwise_cons.2 ⟨fun r hr' k hk hk2 => ?_, (List.pairwise_cons.1 H.apart).2⟩
    have h1 := (H.reads r (List.mem_cons_of_mem _ hr')).2 k hk2
    rcases hat with e | e
    · exact (List.pairwise_cons.1 H.apart).1 r hr' k (show v.ownBlock = some k from e ▸ hk) hk2
    · have hk' : some w.heap.size = some k := e.symm.trans hk
      injection hk' with hk'
      omega

/-- The readings in another order, or fewer. -/
theorem St.swap {r s : Rsrc} (H : St w0 w σ (r :: s :: ρ)) : St w0 w σ (s :: r :: ρ) := by
  refine ⟨H.below, H.blks, H.nodup, fun x hx => H.reads x (by simp only [List.mem_cons] at hx ⊢; rcases hx with h | h | h <;> simp [h]), ?_⟩
  have h1 := List.pairwise_cons.1 H.apart
  have h2 := List.pairwise_cons.1 h1.2
  refine List.pairwise_cons.2 ⟨fun x hx k hk hk2 => ?_, List.pairwise_cons.2 ⟨fun x hx => h1.1 x (List.mem_cons_of_mem _ hx), h2.2⟩⟩
  rcases List.mem_cons.1 hx with rfl | hx
  · exact h1.1 s List.mem_cons_self k hk2 hk
  · exact h2.1 x hx k hk hk2
theorem St.dropR {r : Rsrc} (H : St w0 w σ (r :: ρ)) : St w0 w σ ρ :=
  ⟨H.below, H.blks, H.nodup, fun x hx => H.reads x (List.mem_cons_of_mem _ hx), (List.pairwise_cons.1 H.apart).2⟩

theorem news_of_alloc (w : World) (t : TypeId) (cs : List Value) : ∀ j u, cs[j]? = some u → (w.alloc (.cells cs.toArray t)).cell? ((⟨w.heap.size, 0, none⟩ : Addr).add j) = some u := by
  intro j u hj
  have h1 : ((⟨w.heap.size, 0, none⟩ : Addr).add j) = ⟨w.heap.size, j, none⟩ := by
    unfold Addr.add; split <;> simp_all
  rw [h1, World.cell?_alloc_new]
  simpa using hj
theorem St.dropB {x : Nat × TypeId × List Value} (H : St w0 w (x :: σ) ρ) : St w0 w σ ρ :=
  ⟨H.below, fun y hy => H.blks y (List.mem_cons_of_mem _ hy), by have := H.nodup; rw [List.map_cons, List.nodup_cons] at this; exact this.2,
   fun r hr => ⟨(H.reads r hr).1, fun k hk => ⟨((H.reads r hr).2 k hk).1, ((H.reads r hr).2 k hk).2.1, fun hm => ((H.reads r hr).2 k hk).2.2 (by rw [List.map_cons]; exact List.mem_cons_of_mem _ hm)⟩⟩, H.apart⟩

/-- append of what lies at an address, onto the row at the head of the list. -/
theorem wpList_append_St {P : Program} {ops : Array Oper} {rest : List Oper} {o : Oper} {a : Act} {Q : Exit → Act → World → Prop} (hgd : o.guard = none) (s x : Operand) (t : TypeId)
    (ho : o.op = .call { callee := .builtin .append, args := #[s, x], argTypes := #[t, t] })
    {base n size : Nat} {e : TypeId} {v : Value} {xs : List Value} (H : St w0 w σ (rowR base e size v n xs :: ρ))
    (i : TypeInfo) (z : Value) (bytes : Nat) (ht : P.underlying t = some (.slice e)) (hi : P.info? e = some i) (hz : i.zero = some z)
    (hsize : i.size = size) (hby : i.bytes = bytes) (hzs : z.cells.size = size) (hsz : 0 < size) (hs : a.eval s = v)
    (ad : Addr) (m c : Nat) (news : List Value) (hx : a.eval x = .slice (some ad) m c) (hl : news.length = m * size) (hnews : ∀ j u, news[j]? = some u → w.cell? (ad.add j) = some u) (h1 : ∀ u ∈ news, u.oneCell' = true)
    (h63 : n + m ≤ maxLen) (hbytes : (n + m) * bytes ≤ 140737488355328) (hbase : base ≤ w.heap.size)
    (h : ∀ v' w', St w0 w' σ (rowR base e size v' (n + m) (xs ++ news) :: ρ) → wpList P ops Q rest (a.put o.dst v') w') : wpList P ops Q (o :: rest) a w :=
  wpList_append_own_at w hgd s x t ho base e i z size bytes ht hi hz hsize hby hzs hsz v n xs hs H.row ad m c news hx hl hnews h1 h63 hbytes hbase fun v' w' hown hgrow _ hat => h v' w' (H.grow hgrow hown hat)

/-- append(row, T{..}): the new elements lie in the block that was made last. -/
theorem wpList_appendNew_St {P : Program} {ops : Array Oper} {rest : List Oper} {o : Oper} {a : Act} {Q : Exit → Act → World → Prop} (hgd : o.guard = none) (s x : Operand) (t : TypeId)
    (ho : o.op = .call { callee := .builtin .append, args := #[s, x], argTypes := #[t, t] })
    {base n size : Nat} {e : TypeId} {v : Value} {xs : List Value} (H : St w0 w σ (rowR base e size v n xs :: ρ))
    (i : TypeInfo) (z : Value) (bytes : Nat) (ht : P.underlying t = some (.slice e)) (hi : P.info? e = some i) (hz : i.zero = some z)
    (hsize : i.size = size) (hby : i.bytes = bytes) (hzs : z.cells.size = size) (hsz : 0 < size) (hs : a.eval s = v)
    (m c : Nat) (news : List Value) (e' : TypeId) (hx : a.eval x = .slice (some ⟨w.heap.size, 0, none⟩) m c) (hl : news.length = m * size) (h1 : ∀ u ∈ news, u.oneCell' = true)
    (h63 : n + m ≤ maxLen) (hbytes : (n + m) * bytes ≤ 140737488355328) (hbase : base ≤ w.heap.size)
    (h : ∀ v' w', St w0 w' σ (rowR base e size v' (n + m) (xs ++ news) :: ρ) → wpList P ops Q rest (a.put o.dst v') w') : wpList P ops Q (o :: rest) a (w.alloc (.cells news.toArray e')) :=
  wpList_append_St hgd s x t ho (H.alloc e' news) i z bytes ht hi hz hsize hby hzs hsz hs _ m c news hx hl (news_of_alloc _ _ _) h1 h63 hbytes (by simp; omega) fun v' w' H' => h v' w' H'.dropB
end
end Go.Proofs.Ytcmbckcjklociaa
