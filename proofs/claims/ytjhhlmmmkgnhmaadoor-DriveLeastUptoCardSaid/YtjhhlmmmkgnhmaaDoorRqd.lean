/- Plain: the reference's check of a network: it ends, and says what is right. -/
import Derived.Test.YtjhhlmmmkgnhmaaDoorRqc
namespace Go.Proofs.YtjhhlmmmkgnhmaaDoor
set_option linter.unusedSimpArgs false
set_option linter.unusedVariables false
set_option linter.unusedSectionVars false

/-! ### Lists that grow -/
/-- What is asked of an element. -/
class Sm (α : Type) where
  sm : α → Prop
instance : Sm T_api_Fault := ⟨fun f => f.at_.size ≤ 64⟩
instance : Sm Int := ⟨fun _ => True⟩
section
variable {α β : Type} [Sm α]
def Ext (l0 : List α) (c : Nat) (P : Prop) (r : List α) : Prop := ∃ new, r = l0 ++ new ∧ new.length ≤ c ∧ (new = [] → P) ∧ ∀ x ∈ new, Sm.sm x
theorem Ext.nil {l0 : List α} {c : Nat} {P : Prop} (h : P) : Ext l0 c P l0 := ⟨[], by simp, by simp, fun _ => h, by simp⟩
theorem Ext.one {l0 : List α} {c : Nat} {P : Prop} {x : α} (hc : 1 ≤ c) (hx : Sm.sm x) : Ext l0 c P (l0 ++ [x]) := ⟨[x], rfl, hc, fun h => by (cases h), fun y hy => by rw [List.mem_singleton.1 hy]; exact hx⟩
theorem Ext.trans {a b r : List α} {c d e : Nat} {P Q R : Prop} (h : Ext a c P b) (h' : Ext b d Q r) (he : c + d ≤ e) (hr : P → Q → R) : Ext a e R r := by
  obtain ⟨n, rfl, h1, h2, h5⟩ := h
  obtain ⟨m, rfl, h3, h4, h6⟩ := h'
  refine ⟨n ++ m, by simp, by simp; omega, fun h => ?_, fun x hx => by rcases List.mem_append.1 hx with h | h; exact h5 x h; exact h6 x h⟩
  rw [List.append_eq_nil_iff] at h
  exact hr (h2 h.1) (h4 h.2)
theorem Ext.len {a r : List α} {c : Nat} {P : Prop} (h : Ext a c P r) : r.length ≤ a.length + c := by obtain ⟨n, rfl, h1, _⟩ := h; simp; omega
theorem Ext.of_nil {r : List α} {c : Nat} {P : Prop} (h : Ext [] c P r) (hr : r = []) : P := by
  obtain ⟨n, rfl, _, h2, _⟩ := h
  exact h2 (by simpa using hr)
theorem Ext.sms {r : List α} {c : Nat} {P : Prop} (h : Ext [] c P r) : ∀ x ∈ r, Sm.sm x := by
  obtain ⟨n, rfl, _, _, h2⟩ := h
  simpa using h2
theorem Ext.mono {a r : List α} {c d : Nat} {P Q : Prop} (h : Ext a c P r) (hc : c ≤ d) (hp : P → Q) : Ext a d Q r := by
  obtain ⟨n, rfl, h1, h2, h3⟩ := h
  exact ⟨n, rfl, by omega, fun hn => hp (h2 hn), h3⟩
/-- What a round of a loop that lists owes. -/
def RndE (out : List α) (i : Int) (c : Nat) (P : Prop) (x : (List α × Int) ⊕ β) : Prop := ∃ r, x = .inl (r, i) ∧ Ext out c P r
theorem rnd_nil {out : List α} {i j : Int} {c : Nat} {P : Prop} (hi : j = i) (h : P) : post (some (Sum.inl (out, j) : (List α × Int) ⊕ β)) (RndE out i c P) := ⟨_, rfl, out, by rw [hi], .nil h⟩
theorem rnd_one {out : List α} {x : α} {i j : Int} {c : Nat} {P : Prop} (hi : j = i) (hc : 1 ≤ c) (hx : Sm.sm x) : post (some (Sum.inl (out ++ [x], j) : (List α × Int) ⊕ β)) (RndE out i c P) := ⟨_, rfl, _, by rw [hi], .one hc hx⟩
theorem post_listE {B : List α × Int → Option ((List α × Int) ⊕ (List α))} (n c : Nat) (P : Nat → Prop) (l0 : List α) (hn : n < 18446744073709551615)
    (step : ∀ (i : Nat) (out : List α), i < n → out.length ≤ l0.length + c * i → post (B (out, (i : Int))) (RndE out ((i : Int) + 1) c (P i)))
    (fin : ∀ out, B (out, (n : Int)) = some (.inr out)) : post (loopF B (l0, 0)) (Ext l0 (c * n) (∀ i, i < n → P i)) := by
  refine post_loop (fun s => ∃ i : Nat, s.2 = (i : Int) ∧ i ≤ n ∧ Ext l0 (c * i) (∀ k, k < i → P k) s.1) (fun s => n - s.2.toNat)
    ⟨0, rfl, Nat.zero_le _, .nil (by simp)⟩ (by simp; omega) ?_
  rintro ⟨out, j⟩ ⟨i, hj, hi, hl⟩
  simp only at hj hl
  subst hj
  by_cases h : i < n
  · refine (step i out h hl.len).mono ?_
    rintro x ⟨r, rfl, h1⟩
    refine ⟨fun s' hs => ?_, fun _ h => by cases h⟩
    cases hs
    refine ⟨⟨i + 1, by simp, by omega, hl.trans h1 (by rw [Nat.mul_add]; omega) fun h2 h3 k hk => ?_⟩, by simp; omega⟩
    rcases Nat.lt_or_ge k i with h | h
    · exact h2 k h
    · obtain rfl : k = i := by omega
      exact h3
  · obtain rfl : i = n := by omega
    rw [fin]
    exact post_inr hl
end
theorem sm_at {e : Int} {s : ByteArray} (h : s.size ≤ 64) : Sm.sm (T_api_Fault.mk e s) := h
theorem cat_size (a b : ByteArray) : (catS a b).size = a.size + b.size := by unfold catS; exact ByteArray.size_append
/-- Is there one before? -/
theorem post_twice {B : Bool × Int → Option ((Bool × Int) ⊕ Bool)} (n : Nat) (P : Nat → Prop) (hn : n < 18446744073709551615)
    (step : ∀ (k : Nat) (b : Bool), k < n → post (B (b, (k : Int))) fun x => ∃ b', x = .inl (b', (k : Int) + 1) ∧ (b' = true ↔ b = true ∨ P k))
    (fin : ∀ b, B (b, (n : Int)) = some (.inr b)) : post (loopF B (false, 0)) fun r => (r = true ↔ ∃ k, k < n ∧ P k) := by
  refine post_loop (fun s => ∃ i : Nat, s.2 = (i : Int) ∧ i ≤ n ∧ (s.1 = true ↔ ∃ k, k < i ∧ P k)) (fun s => n - s.2.toNat) ⟨0, rfl, Nat.zero_le _, by simp⟩ (by simp; omega) ?_
  rintro ⟨b, j⟩ ⟨i, hj, hi, hl⟩
  simp only at hj hl
  subst hj
  by_cases h : i < n
  · refine (step i b h).mono ?_
    rintro x ⟨b', rfl, h1⟩
    refine ⟨fun s' hs => ?_, fun _ h => by cases h⟩
    cases hs
    refine ⟨⟨i + 1, by simp, by omega, ?_⟩, by simp; omega⟩
    simp only
    rw [h1, hl]
    constructor
    · rintro (⟨k, h2, h3⟩ | h2)
      · exact ⟨k, by omega, h3⟩
      · exact ⟨i, by omega, h2⟩
    · rintro ⟨k, h2, h3⟩
      rcases Nat.lt_or_ge k i with h | h
      · exact .inl ⟨k, h, h3⟩
      · obtain rfl : k = i := by omega
        exact .inr h3
  · obtain rfl : i = n := by omega
    rw [fin]
    exact post_inr hl
theorem inc {i n : Nat} (h : i < n) (hn : n ≤ 1048576) : addK .i64 (i : Int) 1 = (i : Int) + 1 := addI (by omega) (by omega)
theorem dec {i : Nat} (h : 0 < i) (hn : i ≤ 1048576) : subK .i64 (i : Int) 1 = ((i - 1 : Nat) : Int) := by rw [subI (by omega) (by omega)]; omega

/-! ### Names -/
theorem getS_at {s : ByteArray} {i : Int} (h0 : 0 ≤ i) (h1 : i < s.size) : ∃ b, getS s i = some b := by
  unfold getS
  rw [if_pos h0]
  exact ⟨_, getElem?_pos s i.toNat (by omega)⟩
theorem name_post (s : ByteArray) (hs : s.size ≤ 1048576) : post (lorryref01_Name s) fun _ => True := by
  unfold lorryref01_Name
  refine post_br (fun _ => post_some.2 trivial) (fun hb => ?_)
  simp only [orF, ltI_f, gtI_f, sizeS] at hb
  obtain ⟨b, hb0⟩ := getS_at (s := s) (i := 0) (by omega) (by omega)
  rw [hb0, bnd_some]
  refine post_bnd (R := fun _ => True) ⟨_, rfl, trivial⟩ fun r _ => post_br (fun _ => post_some.2 trivial) fun _ => ?_
  refine post_bnd (R := fun _ => True) ?_ fun e _ => ?_
  · refine post_loop (fun i => ∃ k : Nat, i = (k : Int) ∧ k ≤ s.size) (fun i => s.size - i.toNat) ⟨0, rfl, Nat.zero_le _⟩ (by simp; omega) ?_
    rintro _ ⟨k, rfl, hk⟩
    show post (lorryref01_Name_L1 s b (k : Int)) _
    unfold lorryref01_Name_L1
    refine post_br (fun hb => ?_) (fun _ => post_inr trivial)
    simp only [ltI_t, sizeS] at hb
    obtain ⟨c, hc⟩ := getS_at (s := s) (i := k) (by omega) (by omega)
    rw [hc, bnd_some, inc (n := s.size) (by omega) hs]
    have leaf : post (some (Sum.inl ((k : Int) + 1) : Int ⊕ (Unit ⊕ Bool))) fun x => (∀ s', x = .inl s' → (∃ k : Nat, s' = (k : Int) ∧ k ≤ s.size) ∧ s.size - s'.toNat < s.size - (k : Int).toNat) ∧ ∀ e, x = .inr e → True :=
      post_inl ⟨⟨k + 1, by simp, by omega⟩, by simp; omega⟩
    refine post_bnd (R := fun _ => True) ⟨_, rfl, trivial⟩ fun r1 _ => post_br (fun _ => leaf) fun _ => ?_
    exact post_bnd (R := fun _ => True) ⟨_, rfl, trivial⟩ fun r2 _ => post_br (fun _ => leaf) fun _ => post_inr trivial
  · cases e with
    | inl u => exact post_some.2 trivial
    | inr r => exact post_some.2 trivial

/-! ### A network -/
structure ArcI (a : T_api_Arc) : Prop where
  travel : a.travel.length ≤ 1048576
  slow : a.slow.length ≤ 1048576
  pts : ∀ p ∈ a.travel, ptI p
  pts2 : ∀ p ∈ a.slow, ptI p
structure NetI (n : T_api_Network) : Prop where
  places : n.places.length ≤ 1048576
  arcs : n.arcs.length ≤ 1048576
  names : ∀ s ∈ n.places, s.size ≤ 1048576
  arcI : ∀ a ∈ n.arcs, ArcI a
/-- A delay's points. -/
def okS (l : List Pt) (i : Nat) : Prop := ∀ p, l[i]? = some p → 0 ≤ p.t ∧ p.t ≤ 4096 ∧ 0 ≤ p.a ∧ p.a ≤ 4096 ∧ (0 < i → ∀ q, l[i - 1]? = some q → q.t < p.t)
structure ArcOK (np : Nat) (a : T_api_Arc) : Prop where
  from0 : 0 ≤ a.from_
  from1 : a.from_ < np
  to0 : 0 ≤ a.to_
  to1 : a.to_ < np
  prof0 : 0 ≤ a.profile
  prof1 : a.profile ≤ 7
  miles0 : 0 ≤ a.miles
  miles1 : a.miles ≤ 10000
  ne : a.from_ ≠ a.to_
  travel : Right a.travel
  slow : a.slow.length ≤ 16
  slowAll : ∀ i, i < a.slow.length → okS a.slow i
def SameWay (a b : T_api_Arc) : Prop := a.from_ = b.from_ ∧ a.to_ = b.to_ ∧ a.profile = b.profile
structure NetOK (n : T_api_Network) : Prop where
  places : n.places.length ≤ 24
  arcs : n.arcs.length ≤ 1024
  all : ∀ a ∈ n.arcs, ArcOK n.places.length a
  once : ∀ (i k : Nat) (a b : T_api_Arc), k < i → n.arcs[i]? = some a → n.arcs[k]? = some b → ¬ SameWay a b

theorem checkPlaces_post {n : T_api_Network} (hn : NetI n) : post (lorryref09_checkPlaces_own n) (Ext [] (1 + n.places.length) (n.places.length ≤ 24)) := by
  have hpl := hn.places
  have main : ∀ l0 : List T_api_Fault, l0.length ≤ 1 → post (lorryref09_checkPlaces_own_J1 n l0) (Ext l0 n.places.length True) := by
    intro l0 hin
    refine post_bnd (R := Ext l0 n.places.length True) ?_ fun a h => post_some.2 h
    refine (post_listE n.places.length 1 (fun _ => True) l0 (by omega) (fun i out hi ho => ?_) (fun out => ?_)).mono fun r h => h.mono (by omega) fun _ => trivial
    · show post (lorryref09_checkPlaces_own_L1 n l0 out (i : Int)) _
      unfold lorryref09_checkPlaces_own_L1
      rw [br_pos (by simp [lenI]; exact hi), inc hi hpl]
      refine post_bnd (decimal_post (i : Int) (nat_isI (by omega))) fun r hr => post_chk (by show 6 + r.size ≤ _; omega) ?_
      have e1 : n.places[i]? = some n.places[i] := List.getElem?_eq_getElem hi
      rw [getI_nat e1, bnd_some]
      have hok : ∀ f : T_api_Fault, okN (out ++ [f]).length 24 := fun f => okN_of (by simp; omega)
      have hsm : ∀ {e : Int}, Sm.sm (T_api_Fault.mk e (catS s_place__15f2 r)) := sm_at (by rw [cat_size]; show 6 + r.size ≤ 64; omega)
      refine post_bnd (name_post _ (hn.names _ (List.getElem_mem hi))) fun r1 _ => post_br (fun _ => ?_) (fun _ => post_chk (hok _) (rnd_one rfl (by omega) hsm))
      refine post_bnd (R := fun _ => True) ((post_twice i (fun k => ∃ x, n.places[k]? = some x ∧ eqS x n.places[i] = true) (by omega) (fun k b hk => ?_) (fun b => ?_)).mono fun _ _ => trivial) fun tw _ => post_br (fun _ => post_chk (hok _) (rnd_one rfl (by omega) hsm)) (fun _ => rnd_nil rfl trivial)
      · show post (lorryref09_checkPlaces_own_L2 n l0 out (i : Int) r b (k : Int)) _
        unfold lorryref09_checkPlaces_own_L2
        rw [br_pos (by simp; omega), inc (n := i) hk (by omega)]
        have e2 : n.places[k]? = some (n.places[k]'(by omega)) := List.getElem?_eq_getElem _
        refine post_br (fun h => post_some.2 ⟨true, rfl, by simp [h]⟩) (fun h => ?_)
        rw [getI_nat e2, bnd_some, getI_nat e1, bnd_some, post_some]
        exact ⟨_, rfl, by simp [h, e2]⟩
      · show lorryref09_checkPlaces_own_L2 n l0 out (i : Int) r b (i : Int) = _
        unfold lorryref09_checkPlaces_own_L2
        rw [br_neg (by simp)]
    · show lorryref09_checkPlaces_own_L1 n l0 out (n.places.length : Int) = _
      unfold lorryref09_checkPlaces_own_L1
      rw [br_neg (by simp [lenI])]
  unfold lorryref09_checkPlaces_own
  refine post_br (fun h => post_chk (okN_of (by simp)) ((main _ (by simp)).mono fun r h' => ?_)) (fun h => (main _ (by simp)).mono fun r h' => h'.mono (by omega) fun _ => ?_)
  · exact (Ext.one (l0 := []) (P := n.places.length ≤ 24) (Nat.le_refl 1) (sm_at (s := s_places_ab7d) (show 6 ≤ 64 by omega))).trans h' (Nat.le_refl _) fun h _ => h
  · simp only [gtI_f, lenI] at h; omega
theorem tick_eq (t : Int) : lorryref09_tick t = some (decide (0 ≤ t ∧ t ≤ 4096)) := by
  unfold lorryref09_tick
  congr 1
  rw [Bool.eq_iff_iff, andT, geI_t, leI_t, decide_eq_true_iff]
theorem slow_post {r : ByteArray} (hr : r.size ≤ 21) {x0 : T_api_Arc} {l l0 : List T_api_Fault} (hI : ArcI x0) (hin : l0.length ≤ 4194304) : post (lorryref09_checkArc_J4 r x0 l l0) (Ext l0 x0.slow.length (∀ i, i < x0.slow.length → okS x0.slow i)) := by
  have hsl := hI.slow
  have hsm : ∀ {e : Int}, Sm.sm (T_api_Fault.mk e (catS s_arc__976e r)) := sm_at (by rw [cat_size]; show 4 + r.size ≤ 64; omega)
  refine post_bnd (R := Ext l0 x0.slow.length (∀ i, i < x0.slow.length → okS x0.slow i)) ?_ fun a h => post_some.2 h
  refine (post_listE x0.slow.length 1 (okS x0.slow) l0 (by omega) (fun i out hi ho => ?_) (fun out => ?_)).mono fun r h => h.mono (by omega) id
  · show post (lorryref09_checkArc_L3 r x0 l out (i : Int)) _
    unfold lorryref09_checkArc_L3
    have hok : ∀ f : T_api_Fault, okN (out ++ [f]).length 24 := fun f => okN_of (by simp; omega)
    have e1 : x0.slow[i]? = some x0.slow[i] := List.getElem?_eq_getElem hi
    rw [br_pos (by simp [lenI]; exact hi), inc hi hsl, getI_nat e1, bnd_some, tick_eq, bnd_some, tick_eq]
    generalize x0.slow[i] = p at e1
    have no : post (chk (okN (out ++ [T_api_Fault.mk 2 (catS s_arc__976e r)]).length 24) (some (Sum.inl (out ++ [T_api_Fault.mk 2 (catS s_arc__976e r)], (i : Int) + 1) : (List T_api_Fault × Int) ⊕ (List T_api_Fault)))) (RndE out ((i : Int) + 1) 1 (okS x0.slow i)) := post_chk (hok _) (rnd_one rfl (by omega) hsm)
    refine post_br (fun h1 => ?_) (fun _ => no)
    rw [bnd_some]
    refine post_br (fun h2 => post_br (fun h3 => ?_) (fun h3 => rnd_nil rfl ?_)) (fun _ => no)
    · simp only [gtI_t] at h3
      have e2 : x0.slow[i - 1]? = some (x0.slow[i - 1]'(by omega)) := List.getElem?_eq_getElem _
      rw [dec (by omega) (by omega), getI_nat e2, bnd_some]
      refine post_br (fun _ => no) (fun h4 => rnd_nil rfl ?_)
      simp only [leI_f, decide_eq_true_iff] at h1 h2 h4
      intro x hx; rw [e1] at hx; cases hx
      exact ⟨h1.1, h1.2, h2.1, h2.2, fun _ q hq => by rw [e2] at hq; cases hq; exact h4⟩
    · simp only [gtI_f, decide_eq_true_iff] at h1 h2 h3
      intro x hx; rw [e1] at hx; cases hx
      exact ⟨h1.1, h1.2, h2.1, h2.2, fun h => by omega⟩
  · show lorryref09_checkArc_L3 r x0 l out (x0.slow.length : Int) = _
    unfold lorryref09_checkArc_L3
    rw [br_neg (by simp [lenI])]
theorem checkArc_post {n : T_api_Network} (hn : NetI n) {i : Nat} {a : T_api_Arc} (ha : n.arcs[i]? = some a) :
    post (lorryref09_checkArc n (i : Int)) (Ext [] 3145735 (ArcOK n.places.length a ∧ ∀ (k : Nat) (b : T_api_Arc), k < i → n.arcs[k]? = some b → ¬ SameWay a b)) := by
  have hi : i < n.arcs.length := (List.getElem?_eq_some_iff.1 ha).1
  have hal := hn.arcs
  have hI := hn.arcI a (List.mem_of_getElem? ha)
  have hsl := hI.slow
  have htl := hI.travel
  unfold lorryref09_checkArc
  refine post_bnd (decimal_post (i : Int) (nat_isI (by omega))) fun r hr => post_chk (by show 4 + r.size ≤ _; omega) ?_
  rw [getI_nat ha, bnd_some]
  have hsm : ∀ {e : Int}, Sm.sm (T_api_Fault.mk e (catS s_arc__976e r)) := sm_at (by rw [cat_size]; show 4 + r.size ≤ 64; omega)
  have gen : ∀ (l l0 : List T_api_Fault), l0.length ≤ 3 → post (lorryref09_checkArc_J3 r a l l0) (Ext l0 3145732 (Right a.travel ∧ a.slow.length ≤ 16 ∧ ∀ i, i < a.slow.length → okS a.slow i)) := by
    intro l l0 hin
    unfold lorryref09_checkArc_J3
    refine post_bnd (ref07_Check_post htl hI.pts) fun r1 hr1 => ?_
    refine post_bnd (R := Ext l0 2097153 (Right a.travel)) ?_ fun l4 h4 => ?_
    · refine (post_listE r1.length 1 (fun _ => False) l0 (by omega) (fun k out hk ho => ?_) (fun out => ?_)).mono fun x hx => ?_
      · show post (lorryref09_checkArc_L2 r a l r1 out (k : Int)) _
        unfold lorryref09_checkArc_L2
        have e1 : r1[k]? = some r1[k] := List.getElem?_eq_getElem hk
        have hadd : addK .i64 (k : Int) 1 = (k : Int) + 1 := addI (by omega) (by omega)
        rw [br_pos (by simp [lenI]; exact hk), hadd, getI_nat e1, bnd_some]
        exact post_chk (okN_of (by simp; omega)) (rnd_one rfl (by omega) hsm)
      · show lorryref09_checkArc_L2 r a l r1 out (r1.length : Int) = _
        unfold lorryref09_checkArc_L2
        rw [br_neg (by simp [lenI])]
      · refine hx.mono (by omega) fun h => hr1.2.1 ?_
        cases r1 with
        | nil => rfl
        | cons y ys => exact (h 0 (by simp)).elim
    · have h4l := h4.len
      refine post_br (fun h => post_chk (okN_of (by simp; omega)) ?_) (fun h => ?_)
      · refine ((slow_post hr hI (by simp; omega)).mono fun _ h => h.mono hsl id : post (lorryref09_checkArc_J4 r a l _) (Ext _ 1048576 _)).mono fun x hx => ?_
        refine h4.trans ((Ext.one (P := False) (Nat.le_refl 1) hsm).trans hx (e := 1048577) (by omega) (fun h _ => h)) (by omega) fun h1 h2 => h2.elim
      · refine ((slow_post hr hI (by omega)).mono fun _ h => h.mono hsl id : post (lorryref09_checkArc_J4 r a l _) (Ext _ 1048576 _)).mono fun x hx => ?_
        simp only [gtI_f, lenI] at h
        exact h4.trans hx (by omega) fun h1 h2 => ⟨h1, by omega, h2⟩
  have gen2 : ∀ (l l0 : List T_api_Fault), l0.length ≤ 2 → post (lorryref09_checkArc_J2 n (i : Int) r a l l0) (Ext l0 3145733 ((∀ (k : Nat) (b : T_api_Arc), k < i → n.arcs[k]? = some b → ¬ SameWay a b) ∧ Right a.travel ∧ a.slow.length ≤ 16 ∧ ∀ i, i < a.slow.length → okS a.slow i)) := by
    intro l l0 hin
    unfold lorryref09_checkArc_J2
    refine post_bnd (post_twice i (fun k => ∃ b, n.arcs[k]? = some b ∧ SameWay a b) (by omega) (fun k b hk => ?_) (fun b => ?_)) fun tw htw => post_br (fun h => post_chk (okN_of (by simp; omega)) ?_) (fun h => ?_)
    · show post (lorryref09_checkArc_L1 n (i : Int) r a l l0 b (k : Int)) _
      unfold lorryref09_checkArc_L1
      have e1 : n.arcs[k]? = some (n.arcs[k]'(by omega)) := List.getElem?_eq_getElem _
      rw [br_pos (by simp; omega), inc (n := i) hk (by omega), getI_nat e1, bnd_some, post_some]
      refine ⟨_, rfl, ?_⟩
      simp only [orT, andT, eqI_t, e1, Option.some.injEq, exists_eq_left', SameWay, and_assoc]
    · show lorryref09_checkArc_L1 n (i : Int) r a l l0 b (i : Int) = _
      unfold lorryref09_checkArc_L1
      rw [br_neg (by simp)]
    · exact (gen l _ (by simp; omega)).mono fun x hx => (Ext.one (P := False) (Nat.le_refl 1) hsm).trans hx (by omega) fun h _ => h.elim
    · refine (gen l _ (by omega)).mono fun x hx => hx.mono (by omega) fun h' => ⟨fun k b hk hb hs => ?_, h'⟩
      rw [htw.2 ⟨k, hk, b, hb, hs⟩] at h; cases h
  have fin : ∀ (l : List T_api_Fault), l.length ≤ 1 → post (lorryref09_checkArc_J1 n (i : Int) r a l) (Ext l 3145734 (0 ≤ a.profile ∧ a.profile ≤ 7 ∧ 0 ≤ a.miles ∧ a.miles ≤ 10000 ∧ a.from_ ≠ a.to_ ∧ (∀ (k : Nat) (b : T_api_Arc), k < i → n.arcs[k]? = some b → ¬ SameWay a b) ∧ Right a.travel ∧ a.slow.length ≤ 16 ∧ ∀ i, i < a.slow.length → okS a.slow i)) := by
    intro l hl
    unfold lorryref09_checkArc_J1
    refine post_br (fun h => post_chk (okN_of (by simp; omega)) ?_) (fun h => ?_)
    · exact (gen2 l _ (by simp; omega)).mono fun x hx => (Ext.one (P := False) (Nat.le_refl 1) hsm).trans hx (by omega) fun h _ => h.elim
    · simp only [orF, ltI_f, gtI_f, eqI_f] at h
      exact (gen2 l _ (by omega)).mono fun x hx => hx.mono (by omega) fun h' => ⟨h.1.1.1.1, h.1.1.1.2, h.1.1.2, h.1.2, h.2, h'⟩
  refine post_br (fun h => post_chk (okN_of (by simp)) ?_) (fun h => ?_)
  · exact (fin _ (by simp)).mono fun x hx => (Ext.one (l0 := []) (P := False) (Nat.le_refl 1) hsm).trans hx (by omega) fun h _ => h.elim
  · simp only [orF, ltI_f, geI_f, lenI] at h
    exact (fin _ (by simp)).mono fun x hx => hx.mono (by omega) fun ⟨h1, h2, h3, h4, h5, h6, h7, h8, h9⟩ => ⟨⟨h.1.1.1, h.1.1.2, h.1.2, h.2, h1, h2, h3, h4, h5, h7, h8, h9⟩, h6⟩
theorem ref09_Check_post {n : T_api_Network} (hn : NetI n) : post (lorryref09_Check n) (Ext [] (1048578 + 3145735 * n.arcs.length) (NetOK n)) := by
  have hal := hn.arcs
  have hpl := hn.places
  unfold lorryref09_Check
  refine post_bnd (checkPlaces_post hn) fun r hr => ?_
  have hrl := hr.len
  have main : ∀ l0 : List T_api_Fault, l0.length ≤ 1048578 → post (lorryref09_Check_J1 n l0) (Ext l0 (3145735 * n.arcs.length) (∀ i, i < n.arcs.length → ∀ a, n.arcs[i]? = some a → ArcOK n.places.length a ∧ ∀ (k : Nat) (b : T_api_Arc), k < i → n.arcs[k]? = some b → ¬ SameWay a b)) := by
    intro l0 hin
    refine post_bndE ?_
    refine (post_listE n.arcs.length 3145735 _ l0 (by omega) (fun i out hi ho => ?_) (fun out => ?_)).mono fun r h => post_some.2 h
    · show post (lorryref09_Check_L1 n l0 out (i : Int)) _
      unfold lorryref09_Check_L1
      have e1 : n.arcs[i]? = some n.arcs[i] := List.getElem?_eq_getElem hi
      rw [br_pos (by simp [lenI]; exact hi), inc hi hal]
      refine post_bnd (checkArc_post hn e1) fun r1 hr1 => ?_
      obtain ⟨new, h1, h2, h3, h4⟩ := hr1
      rw [List.nil_append] at h1
      subst h1
      refine post_chk (okN_of (by simp; omega)) (post_some.2 ⟨_, rfl, _, rfl, h2, fun h a ha => ?_, h4⟩)
      rw [e1] at ha; cases ha
      exact h3 h
    · show lorryref09_Check_L1 n l0 out (n.arcs.length : Int) = _
      unfold lorryref09_Check_L1
      rw [br_neg (by simp [lenI])]
  refine post_br (fun h => post_chk (okN_of (by simp at hrl ⊢; omega)) ((main _ (by simp at hrl ⊢; omega)).mono fun x hx => ?_)) (fun h => (main _ (by simp at hrl; omega)).mono fun x hx => ?_)
  · exact hr.trans ((Ext.one (P := False) (Nat.le_refl 1) (sm_at (s := s_arcs_f8d5) (show 4 ≤ 64 by omega))).trans hx (Nat.le_refl _) (R := False) fun h _ => h) (by omega) fun _ h => h.elim
  · simp only [gtI_f, lenI] at h
    refine hr.trans hx (by omega) fun h1 h2 => ⟨h1, by omega, fun a ha => ?_, fun i k a b hk ha hb => (h2 i (List.getElem?_eq_some_iff.1 ha).1 a ha).2 k b hk hb⟩
    obtain ⟨i, hi⟩ := List.getElem?_of_mem ha
    exact (h2 i (List.getElem?_eq_some_iff.1 hi).1 a hi).1
end Go.Proofs.YtjhhlmmmkgnhmaaDoor
