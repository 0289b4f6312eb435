/- Lemmas over any program: a region that draws its order, some of whose operations store into blocks that the region itself makes: what is below B stays. -/
import Derived.Test.YtdpgdbkacmmmjaaDoorSt
namespace Go.Proofs.YtdpgdbkacmmmjaaDoor
open Go.RowKit

section
variable {P : Program} {ops : Array Oper} {md : Region.Mode} {n B : Nat} {T : Array Bool → Act → World → Prop}

/-- Whatever order is picked, in whatever world extends the one at hand; each step keeps what is below B. -/
def wpMB (P : Program) (B : Nat) (md : Region.Mode) (ops : Array Oper) (n : Nat) (T : Array Bool → Act → World → Prop) : Nat → Array Bool → Act → World → Prop
  | 0, listed, a, W => T listed a W
  | f + 1, listed, a, W => Region.ready md ops listed ≠ [] ∧ ∀ i ∈ Region.ready md ops listed, i < n ∧ ∀ x,
      mOp P ops i (fun a' w' => Below B (over W x) w' ∧ wpMB P B md ops n T f (listed.setIfInBounds i true) a' w') a (over W x)

theorem wpMB_world (hT : ∀ listed a W w', Below W.heap.size W w' → T listed a W → T listed a w') : ∀ (f : Nat) (listed : Array Bool) (a : Act) (W w' : World), Below W.heap.size W w' →
    wpMB P B md ops n T f listed a W → wpMB P B md ops n T f listed a w'
  | 0, _, _, _, _, hb, h => hT _ _ _ _ hb h
  | f + 1, listed, a, W, w', hb, h => ⟨h.1, fun i hi => ⟨(h.2 i hi).1, fun x => by
      obtain ⟨z, hz⟩ := over_over (y := x) hb
      rw [hz]; exact (h.2 i hi).2 z⟩⟩

theorem wpAny_of_MB {g : Nat} {Q : Exit → Act → World → Prop} (hT : ∀ listed a W, T listed a W → ∀ x, wpAny P md ops Q g listed a (over W x)) :
    ∀ (f : Nat) (listed : Array Bool) (a : Act) (W : World), wpMB P B md ops n T f listed a W → ∀ x, wpAny P md ops Q (f + g) listed a (over W x)
  | 0, listed, a, W, h, x => by rw [Nat.zero_add]; exact hT _ _ _ h x
  | f + 1, listed, a, W, h, x => by
    rw [show f + 1 + g = (f + g) + 1 by omega]
    exact ⟨fun h0 => absurd h0 h.1, fun i hi => wpOp_of_mOp (fun a' w' h' => by
      have h2 := wpAny_of_MB hT f _ a' w' h'.2 w'
      rw [over_self] at h2
      exact h2) ((h.2 i hi).2 x)⟩

theorem wpMB_first {W0 : World} {i : Nat} {oi : Oper} {v : Value} (hi : ops[i]? = some oi) (hsel : ∀ (j : Nat) (o : Oper) cs b, ops[j]? = some o → o.op ≠ .select cs b)
    (hwait : ∀ listed, HeadInv md ops n listed → ∀ i, i < n → listed.getD i true = false → ∀ t, n ≤ t → t ∉ Region.ready md ops listed) (hin : i < n)
    (hT : ∀ listed a W w', Below W.heap.size W w' → T listed a W → T listed a w') (hdone : ∀ listed a W, T listed a W → ∀ j ∈ Region.ready md ops listed, n ≤ j) :
    ∀ (f : Nat) (listed : Array Bool) (a : Act) (W : World), HeadInv md ops n listed →
      (∀ j oj, ops[j]? = some oj → j ≠ i → listed.getD j true = false → (∀ e ∈ oj.after, Region.binds md e = true → e.on ≠ i) → oi.apart ops oj = true) →
      i ∈ Region.ready md ops listed → Below W0.heap.size W0 W → YieldsOver P ops W0 oi v a →
      wpMB P W0.heap.size md ops n T f (listed.setIfInBounds i true) (a.put oi.dst v) W → wpMB P W0.heap.size md ops n T (f + 1) listed a W := by
  intro f
  induction f with
  | zero =>
    intro listed a W inv _ hr hbW hy H
    have hun := (mem_ready.1 hr).1
    refine ⟨fun h => (by rw [h] at hr; cases hr), fun j hj => ?_⟩
    have hjn : j < n := by
      rcases Nat.lt_or_ge j n with h | h
      · exact h
      · exact absurd hj (hwait listed inv i hin hun j h)
    refine ⟨hjn, fun x => ?_⟩
    by_cases hji : j = i
    · subst hji
      exact (hy.world hbW).mOp hi x fun w' hb => ⟨hb.mono (Nat.le_trans hbW.size (over_size W x)), hT _ _ _ _ ((over_below W x).trans (hb.mono (over_size W x))) H⟩
    · have := hdone _ _ _ H j (ready_mono hj hji)
      omega
  | succ f ih =>
    intro listed a W inv hfree hr hbW hy H
    have hun := (mem_ready.1 hr).1
    refine ⟨fun h => (by rw [h] at hr; cases hr), fun j hj => ?_⟩
    have hjn : j < n := by
      rcases Nat.lt_or_ge j n with h | h
      · exact h
      · exact absurd hj (hwait listed inv i hin hun j h)
    refine ⟨hjn, fun x => ?_⟩
    by_cases hji : j = i
    · subst hji
      exact (hy.world hbW).mOp hi x fun w' hb => ⟨hb.mono (Nat.le_trans hbW.size (over_size W x)), wpMB_world hT _ _ _ _ _ ((over_below W x).trans (hb.mono (over_size W x))) H⟩
    · have h1 := (H.2 j (ready_mono hj hji)).2 x
      obtain ⟨hjun, oj, hoj, hall⟩ := mem_ready.1 hj
      have hnot : ∀ e ∈ oj.after, Region.binds md e = true → e.on ≠ i := fun e he hb heq => by
        have h1 := hall e he hb
        rw [heq, getD_both hun] at h1
        cases h1
      have h2 := mOp_put hoj (hfree j oj hoj hji hjun hnot) (fun cs b => hsel i oi cs b hi) (fun cs b => hsel j oj cs b hoj) hy h1
      have hfree' : ∀ k ok, ops[k]? = some ok → k ≠ i → (listed.setIfInBounds j true).getD k true = false →
          (∀ e ∈ ok.after, Region.binds md e = true → e.on ≠ i) → oi.apart ops ok = true := fun k ok hk hki hun hno => by
        refine hfree k ok hk hki ?_ hno
        by_cases hjk : j = k
        · subst hjk; exact hjun
        · rw [getD_set_ne true hjk] at hun; exact hun
      refine mOp_mono (fun a' w' h3 => ⟨h3.2.1, ih (listed.setIfInBounds j true) a' w' (inv.set hj hjn) hfree' (ready_mono hr (Ne.symm hji)) ((below_over hbW hbW.size x).trans h3.2.1) h3.1 ?_⟩) h2
      rw [Array.setIfInBounds_comm _ _ hji]
      exact h3.2.2
end

section
variable {P : Program} {l : List Oper} {n B : Nat} {Q : Exit → Act → World → Prop}

def MXB (P : Program) (l : List Oper) (n B : Nat) (Q : Exit → Act → World → Prop) (f : Nat) (done : List Nat) (a : Act) (W : World) : Prop :=
  wpMB P B .any l.toArray n (tailT P l n Q) f (listedOf l.length done) a W

theorem mixb_step {f : Nat} {done : List Nat} {a : Act} {W : World} (i : Nat) {o : Oper} (hi : l.toArray[i]? = some o) (hS : stepB l n i done = true) (hW : B = W.heap.size)
    (h : ∀ K : Act → Prop, (∀ a', MXB P l n B Q f (i :: done) a' W → K a') →
      if Region.wanted o (yielded l.toArray a.tmps) = true then oQuiet P o a W K else K (a.put o.dst undef)) : MXB P l n B Q (f + 1) done a W := by
  subst hW
  simp only [stepB, Bool.and_eq_true, decide_eq_true_eq] at hS
  obtain ⟨⟨⟨⟨hin, hr⟩, hf⟩, hi2⟩, hB⟩ := hS
  have h1 := h _ (fun _ h => h)
  have hr' : i ∈ Region.ready .any l.toArray (listedOf l.length done) := by simpa using hr
  have hsel : Region.noSelect l.toArray = true := by
    simp only [mixB, Bool.and_eq_true] at hB; exact hB.1
  have key : ∃ v, YieldsOver P l.toArray W o v a ∧ MXB P l n W.heap.size Q f (i :: done) (a.put o.dst v) W := by
    by_cases hw : Region.wanted o (yielded l.toArray a.tmps) = true
    · rw [if_pos hw] at h1
      obtain ⟨v, h2, h3⟩ := h1
      exact ⟨v, .inl ⟨hw, h2⟩, h3⟩
    · rw [if_neg hw] at h1
      exact ⟨undef, .inr ⟨by simpa using hw, rfl⟩, h1⟩
  obtain ⟨v, hy, hK⟩ := key
  unfold MXB at hK ⊢
  rw [← listedOf_set] at hK
  exact wpMB_first hi (Region.noSelect_spec hsel) (mix_wait hB) hin tailT_world (fun listed a W hT j hj => seqB_ready hT.1 j hj) f _ a W (headB_inv hi2) (Region.free_spec hi hf) hr' (Below.refl _ _) hy hK

/-- One operation that alone may come up. -/
theorem mixb_one {f : Nat} {done : List Nat} {a : Act} {W : World} (i : Nat) {o : Oper} (hi : l.toArray[i]? = some o) (hS : oneB l n i done = true)
    (h : ∀ (W' : World) (K : Act → World → Prop), Below W.heap.size W W' → (∀ a' w', Below B W' w' → MXB P l n B Q f (i :: done) a' w' → K a' w') →
      if Region.wanted o (yielded l.toArray a.tmps) = true then o.wp P a W' K NoQ else K (a.put o.dst undef) W') : MXB P l n B Q (f + 1) done a W := by
  simp only [oneB, Bool.and_eq_true, decide_eq_true_eq] at hS
  refine ⟨by rw [hS.2]; simp, fun j hj => ?_⟩
  rw [hS.2] at hj
  have : j = i := by simpa using hj
  subst this
  refine ⟨hS.1, fun x => ?_⟩
  unfold mOp
  simp only [hi]
  exact h _ _ (over_below W x) (fun a' w' hb hm => ⟨hb, by rw [listedOf_set]; exact hm⟩)
/-- Two operations that may come up. -/
theorem mixb_two {f : Nat} {done : List Nat} {a : Act} {W : World} (i j : Nat) {o o' : Oper} (hi : l.toArray[i]? = some o) (hj : l.toArray[j]? = some o') (hS : twoB l n i j done = true)
    (h : ∀ (W' : World) (K : Act → World → Prop), Below W.heap.size W W' → (∀ a' w', Below B W' w' → MXB P l n B Q f (i :: done) a' w' → K a' w') →
      if Region.wanted o (yielded l.toArray a.tmps) = true then o.wp P a W' K NoQ else K (a.put o.dst undef) W')
    (h' : ∀ (W' : World) (K : Act → World → Prop), Below W.heap.size W W' → (∀ a' w', Below B W' w' → MXB P l n B Q f (j :: done) a' w' → K a' w') →
      if Region.wanted o' (yielded l.toArray a.tmps) = true then o'.wp P a W' K NoQ else K (a.put o'.dst undef) W') : MXB P l n B Q (f + 1) done a W := by
  simp only [twoB, Bool.and_eq_true, decide_eq_true_eq] at hS
  refine ⟨by rw [hS.2]; simp, fun k hk => ?_⟩
  rw [hS.2] at hk
  have : k = i ∨ k = j := by simpa using hk
  rcases this with rfl | rfl
  · refine ⟨hS.1.1, fun x => ?_⟩
    unfold mOp
    simp only [hi]
    exact h _ _ (over_below W x) (fun a' w' hb hm => ⟨hb, by rw [listedOf_set]; exact hm⟩)
  · refine ⟨hS.1.2, fun x => ?_⟩
    unfold mOp
    simp only [hj]
    exact h' _ _ (over_below W x) (fun a' w' hb hm => ⟨hb, by rw [listedOf_set]; exact hm⟩)
theorem mixb_end {done : List Nat} {a : Act} {w : World} (hB : Region.seqB .any l.toArray (l.length - n) n (listedOf l.length done) = true)
    (h : ∀ W', Below w.heap.size w W' → wpList P l.toArray Q (l.drop n) a W') : MXB P l n B Q 0 done a w := ⟨hB, fun x => h _ (over_below w x)⟩

theorem wp_region_mixb {id : Nat} {a : Act} {w : World} (n : Nat) (hm : P.follows .mixedOrders = true) (hB : mixB l n = true)
    (h : MXB P l n w.heap.size Q n [] a w) : (Code.region id l.toArray true).wp P Q a w := by
  refine wp_region_any hm ?_
  have hn : n ≤ l.length := by
    simp only [mixB, Bool.and_eq_true, Bool.or_eq_true, decide_eq_true_eq] at hB
    rcases hB.2 with h | ⟨⟨h1, h2⟩, h3⟩ <;> omega
  obtain ⟨x, hx⟩ := over_drew w
  have h2 := wpAny_of_MB (g := l.length - n) (Q := Q) (fun listed a' W hT x => by
    have := wpAny_of_seq (md := .any) (Q' := Q) (l.drop n) n listed a' (over W x) (fun j => by simp [List.getElem?_drop]) (by simpa using hT.1) (hT.2 x)
    simpa using this) _ _ _ _ h x
  rw [← hx] at h2
  rw [show n + (l.length - n) = l.length by omega, listedOf_nil] at h2
  simpa using h2
theorem st_mxb' {w0 w : World} {σ : Sg} {ρ : List Rsrc} {a : Act} {f : Nat} {done : List Nat} (H : St w0 w σ ρ) (hB : B ≤ w.heap.size) (h : ∀ W, St w0 W σ ρ → B ≤ W.heap.size → MXB P l n B Q f done a W) : MXB P l n B Q f done a w := h w H hB
theorem st_mxb {w0 w : World} {σ : Sg} {ρ : List Rsrc} {a : Act} {f : Nat} {done : List Nat} (H : St w0 w σ ρ) (h : ∀ W, St w0 W σ ρ → MXB P l n B Q f done a W) : MXB P l n B Q f done a w := h w H
end
end Go.Proofs.YtdpgdbkacmmmjaaDoor
