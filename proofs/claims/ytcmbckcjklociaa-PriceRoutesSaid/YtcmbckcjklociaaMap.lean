/- Lemmas over any program: maps that the call itself makes, beside 'St': a map from int to int that counts. -/
import Derived.Test.YtcmbckcjklociaaRow
import Derived.Test.YtcmbckcjklociaaRd
import Derived.Maps.OwnOps
import Derived.Maps.Views
namespace Go.Proofs.Ytcmbckcjklociaa
set_option linter.unusedSimpArgs false
set_option linter.unusedVariables false
open Go.RowKit Go.Maps

/-- The map at block b reads as the function f (0 where nothing stands). -/
def cntOK (D : DataW Unit) (f : Int → Int) : Prop := IsMap D ∧ ∀ x : Int, D.atKey (.int .i64 x) (.lit (.int .i64 0)) = .lit (.int .i64 (f x))
def cntR (P : Program) (k e : TypeId) (b n : Nat) (f : Int → Int) : Rsrc where
  F := fun j => j = b
  R := fun w => ∃ D : DataW Unit, w.ownsMap P k (plainElem P e) b n D ∧ cntOK D f
  loc := fun w w' h hr => by
    obtain ⟨D, ⟨es, clock, hb, hrest⟩, hD⟩ := hr
    exact ⟨D, ⟨es, clock, (h b rfl).trans hb, hrest⟩, hD⟩
def upd (f : Int → Int) (x v : Int) : Int → Int := fun y => if y = x then v else f y

section
variable {P : Program} {w0 w w' : World} {σ : Sg} {ρ : List Rsrc} {k e t : TypeId} {b n : Nat} {f : Int → Int}
theorem cntOK_nil : cntOK (.map []) (fun _ => 0) := ⟨isMap_empty, fun _ => rfl⟩
theorem cntOK_put {D : DataW Unit} (h : cntOK D f) (x v : Int) : cntOK (D.put (.int .i64 x) (.lit (.int .i64 v))) (upd f x v) := ⟨h.1.put _ _, fun y => by
  unfold upd
  by_cases hy : y = x
  · subst hy; rw [if_pos rfl]; exact atKey_put_same h.1 (show WideAt.IsKeyLit (.int .i64 y) from trivial) _ _
  · rw [if_neg hy, ← h.2 y]; exact atKey_put_other (fun e => hy (by injection e)) _ _⟩

theorem St.addCnt (H : St w0 w σ ρ) : St w0 (w.alloc (.map #[] 0)) σ (cntR P k e w.heap.size 0 (fun _ => 0) :: ρ) := by
  have H1 := H.allocAny (.map #[] 0)
  refine ⟨H1.below, H1.blks, H1.nodup, fun r hr => ?_, List.pairwise_cons.2 ⟨fun r hr j hj hj2 => ?_, H1.apart⟩⟩
  · rcases List.mem_cons.1 hr with rfl | hr
    · refine ⟨⟨_, World.ownsMap_made _ _ _ _, cntOK_nil⟩, fun j hj => ?_⟩
      have hj : j = w.heap.size := hj
      subst hj
      refine ⟨H.below.size, by simp, fun hm => Nat.lt_irrefl _ (H.mem_lt hm)⟩
    · exact H1.reads r hr
  · have hj : j = w.heap.size := hj
    subst hj
    exact Nat.lt_irrefl _ ((H.reads r hr).2 _ hj2).2.1

theorem St.setCnt {n' : Nat} {f' : Int → Int} (H : St w0 w σ (cntR P k e b n f :: ρ)) (hg : w.grownBy w' (some b)) (ho : ∃ D : DataW Unit, w'.ownsMap P k (plainElem P e) b n' D ∧ cntOK D f') : St w0 w' σ (cntR P k e b n' f' :: ρ) := by
  have hr := H.reads _ List.mem_cons_self
  have hb := hr.2 b rfl
  have hkeep : ∀ j, j < w.heap.size → j ≠ b → w'.heap[j]? = w.heap[j]? := fun j hj hne => hg.block j hj (fun e => hne (by injection e))
  refine ⟨⟨hg.os.trans H.below.os, hg.tape.trans H.below.tape, hg.output.trans H.below.output, Nat.le_trans H.below.size hg.size, fun j hj => ?_⟩, ?_, H.nodup, ?_, ?_⟩
  · rw [hkeep j (Nat.lt_of_lt_of_le hj H.below.size) (by omega)]
    exact H.below.block j hj
  · intro x hx
    have hx' := H.blks x hx
    refine ⟨?_, hx'.2⟩
    have hm : x.1 ∈ σ.map (·.1) := List.mem_map.2 ⟨x, hx, rfl⟩
    exact (hkeep x.1 hx'.1.lt (fun e => hb.2.2 (e ▸ hm))).trans hx'.1
  · intro r hr'
    rcases List.mem_cons.1 hr' with rfl | hr'
    · refine ⟨ho, fun j hj => ?_⟩
      have hj : j = b := hj
      subst hj
      exact ⟨hb.1, Nat.lt_of_lt_of_le hb.2.1 hg.size, hb.2.2⟩
    · have h1 := H.reads r (List.mem_cons_of_mem _ hr')
      have hap := (List.pairwise_cons.1 H.apart).1 r hr'
      exact ⟨r.loc w w' (fun j hj => hkeep j (h1.2 j hj).2.1 (fun e => hap j e hj)) h1.1, fun j hj => ⟨(h1.2 j hj).1, Nat.lt_of_lt_of_le (h1.2 j hj).2.1 hg.size, (h1.2 j hj).2.2⟩⟩
  · exact List.pairwise_cons.2 ⟨fun r hr' j hj hj2 => (List.pairwise_cons.1 H.apart).1 r hr' j hj hj2, (List.pairwise_cons.1 H.apart).2⟩

theorem wf_of {v : Int} (h : isI v) : (Lit.int .i64 v).wf = true := by
  have e1 : IntKind.i64.min = -9223372036854775808 := by decide
  have e2 : IntKind.i64.max = 9223372036854775807 := by decide
  simp only [Lit.wf, Bool.and_eq_true, decide_eq_true_eq, e1, e2]
  exact h

/-- m[x], an equation for the walk. -/
theorem St.getCnt (H : St w0 w σ (cntR P k e b n f :: ρ)) (hk : P.underlying k = some (.int .i64)) (he : P.underlying e = some (.int .i64)) (ht : P.underlying t = some (.map k e)) (hz : (zeroValue e).run P w = .ok (.int .i64 0) w) {x : Int} (hx : isI x) :
    (Instr.lookup t (.map (some b)) (.int .i64 x) false).run P w = .ok (.int .i64 (f x)) w := by
  obtain ⟨D, hown, hD⟩ := (H.reads _ List.mem_cons_self).1
  obtain ⟨c, hrun, hat, _⟩ := hown.lookup_int (int_keyed hk) ht he hz (keyOf_int_mk hk (wf_of hx))
  rw [hD.2 x] at hat
  have : c = f x := by injection hat with h; injection h with _ h; exact h.symm
  rw [← this]; exact hrun

/-- m[x] = v, an equation for the walk. -/
theorem St.putCnt (H : St w0 w σ (cntR P k e b n f :: ρ)) (hk : P.underlying k = some (.int .i64)) (he : P.underlying e = some (.int .i64)) (ht : P.underlying t = some (.map k e)) (hn : n < maxLen) {x v : Int} (hx : isI x) (hv : isI v) :
    ∃ w', (Instr.mapUpdate t (.map (some b)) (.int .i64 x) (.int .i64 v)).run P w = .ok () w' ∧ St w0 w' σ (cntR P k e b (n + 1) (upd f x v) :: ρ) := by
  obtain ⟨D, hown, hD⟩ := (H.reads _ List.mem_cons_self).1
  obtain ⟨w', hrun, hown', hgrow⟩ := hown.update (int_keyed hk) ht hn (keyOf_int_mk hk (wf_of hx)) (plainElem_int he (wf_of hv))
  exact ⟨w', hrun, H.setCnt hgrow ⟨_, hown', cntOK_put hD x v⟩⟩
end
end Go.Proofs.Ytcmbckcjklociaa
