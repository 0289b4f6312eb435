/- Plain: arcs are found, arrivals over arcs, equal arcs. -/
import Derived.Test.YtjhhlmmmkgnhmaaDoorRqd
namespace Go.Proofs.YtjhhlmmmkgnhmaaDoor
set_option linter.unusedSimpArgs false
set_option linter.unusedVariables false
set_option linter.unusedSectionVars false

/-- The delays that have begun. -/
def slowSum (l : List Pt) (t : Int) : Int := l.foldr (fun p s => (if p.t ≤ t then p.a else 0) + s) 0
theorem slowSum_append (l m : List Pt) (t : Int) : slowSum (l ++ m) t = slowSum l t + slowSum m t := by
  induction l with
  | nil => simp [slowSum]
  | cons p l ih => simp only [slowSum, List.cons_append, List.foldr_cons] at ih ⊢; omega
theorem slowSum_succ {l : List Pt} {t : Int} {i : Nat} {p : Pt} (h : l[i]? = some p) : slowSum (l.take (i + 1)) t = slowSum (l.take i) t + (if p.t ≤ t then p.a else 0) := by
  rw [List.take_add_one, h, slowSum_append]; simp [slowSum]
theorem okS_at {l : List Pt} (h : ∀ i, i < l.length → okS l i) {i : Nat} {p : Pt} (hp : l[i]? = some p) : 0 ≤ p.t ∧ p.t ≤ 4096 ∧ 0 ≤ p.a ∧ p.a ≤ 4096 := by
  have := h i (List.getElem?_eq_some_iff.1 hp).1 p hp
  exact ⟨this.1, this.2.1, this.2.2.1, this.2.2.2.1⟩
theorem slowSum_bd {l : List Pt} (h : ∀ i, i < l.length → okS l i) (t : Int) : ∀ i : Nat, i ≤ l.length → 0 ≤ slowSum (l.take i) t ∧ slowSum (l.take i) t ≤ 4096 * i
  | 0, _ => by simp [slowSum]
  | i + 1, hi => by
    have e1 : l[i]? = some (l[i]'(by omega)) := List.getElem?_eq_getElem _
    have ih := slowSum_bd h t i (by omega)
    have := okS_at h e1
    rw [slowSum_succ e1]
    split <;> omega
/-- The arrival over an arc. -/
def arrA (a : T_api_Arc) (t : Int) : Int := arrL a.travel t + slowSum a.slow t
theorem Right.ne {l : List Pt} (h : Right l) : l ≠ [] := fun e => by have := h.pos; rw [e] at this; simp at this
theorem slowSum_full {l : List Pt} (h : ∀ i, i < l.length → okS l i) (hl : l.length ≤ 16) (t : Int) : 0 ≤ slowSum l t ∧ slowSum l t ≤ 65536 := by
  have := slowSum_bd h t l.length (Nat.le_refl _)
  rw [List.take_length] at this; omega
theorem arrA_ge {np : Nat} {a : T_api_Arc} (h : ArcOK np a) (t : Int) : t ≤ arrA a t := by
  have := arrL_ge h.travel.srt h.travel.ne t
  have := slowSum_full h.slowAll h.slow t
  unfold arrA; omega
theorem arrA_le {np : Nat} {a : T_api_Arc} (h : ArcOK np a) {t : Int} (ht : 0 ≤ t) : arrA a t ≤ t + 73728 := by
  have := arrL_le h.travel.srt ht
  have := slowSum_full h.slowAll h.slow t
  unfold arrA; omega
theorem slowSum_mono {l : List Pt} (h : ∀ i, i < l.length → okS l i) {t t' : Int} (ht : t ≤ t') : slowSum l t ≤ slowSum l t' := by
  have : ∀ i : Nat, i ≤ l.length → slowSum (l.take i) t ≤ slowSum (l.take i) t' := by
    intro i
    induction i with
    | zero => intro _; simp [slowSum]
    | succ i ih =>
      intro hi
      have e1 : l[i]? = some (l[i]'(by omega)) := List.getElem?_eq_getElem _
      have := okS_at h e1
      rw [slowSum_succ e1, slowSum_succ e1]
      have := ih (by omega)
      split <;> split <;> omega
  have := this l.length (Nat.le_refl _)
  rwa [List.take_length] at this
theorem arrA_mono {np : Nat} {a : T_api_Arc} (h : ArcOK np a) {t t' : Int} (ht : t ≤ t') : arrA a t ≤ arrA a t' := by
  have := arrL_mono h.travel.srt ht
  have := slowSum_mono h.slowAll ht
  unfold arrA; omega
theorem slow_loop {l : List Pt} {t r : Int} (h : ∀ i, i < l.length → okS l i) (hl : l.length ≤ 16) (hr : 0 ≤ r) (hr' : r ≤ 2147483648) {B : Int × Int → Option ((Int × Int) ⊕ Int)}
    (hB : ∀ out i, B (out, i) = br (ltI i (lenI l)) (bnd (getI l i) fun x0 => br (leI x0.t t) (some (.inl ((addK .i64 out x0.a), (addK .i64 i 1)))) (some (.inl (out, (addK .i64 i 1))))) (some (.inr out))) :
    loopF B (r, 0) = some (r + slowSum l t) := by
  have e : loopF B ((fun i : Nat => (r + slowSum (l.take i) t, (i : Int))) 0) = some (r + slowSum l t) := by
    refine loop_for l.length (fun i : Nat => (r + slowSum (l.take i) t, (i : Int))) (by omega) (fun i hi => ?_) ?_
    · have e1 : l[i]? = some l[i] := List.getElem?_eq_getElem hi
      have hb := slowSum_bd h t i (by omega)
      have hp := okS_at h e1
      show B (_, _) = some (.inl (_, _))
      rw [hB, br_pos (by simp [lenI]; exact hi), getI_nat e1, bnd_some, slowSum_succ e1, show addK .i64 (i : Int) 1 = ((i + 1 : Nat) : Int) by rw [addI (by omega) (by omega)]; omega]
      by_cases hc : l[i].t ≤ t
      · rw [br_pos (by simpa using hc), if_pos hc, addI (by omega) (by omega), Int.add_assoc]
      · rw [br_neg (by simp; omega), if_neg hc, Int.add_zero]
    · show B (_, _) = _
      rw [hB, br_neg (by simp [lenI]), List.take_length]
  simpa [slowSum] using e
theorem arrival_eq {np : Nat} {a : T_api_Arc} (h : ArcOK np a) {t : Int} (ht : inT t) : network_arrival a t = some (arrA a t) := by
  have h1 := arrL_ge h.travel.srt h.travel.ne t
  have h2 := arrL_le h.travel.srt ht.1
  unfold inT at ht
  unfold network_arrival
  rw [travel_Arrive_right h.travel ht, bnd_some, slow_loop h.slowAll h.slow (by omega) (by omega) (fun out i => rfl), bnd_some]
  rfl
theorem ref09_Arrive_eq {np : Nat} {a : T_api_Arc} (h : ArcOK np a) {t : Int} (ht : inT t) : lorryref09_Arrive a t = some (arrA a t) := by
  have h1 := arrL_ge h.travel.srt h.travel.ne t
  have h2 := arrL_le h.travel.srt ht.1
  unfold inT at ht
  unfold lorryref09_Arrive
  rw [ref07_Arrive_right h.travel ht, bnd_some, slow_loop h.slowAll h.slow (by omega) (by omega) (fun out i => rfl), bnd_some]
  rfl

/-! ### Found -/
theorem find_loop {α E : Type} {l : List α} (p : α → Bool) (Y : α → E) (N : E) (hl : l.length ≤ 1048576) {B : Int → Option (Int ⊕ E)}
    (hB : ∀ i, B i = br (ltI i (lenI l)) (bnd (getI l i) fun x => br (p x) (some (.inr (Y x))) (some (.inl (addK .i64 i 1)))) (some (.inr N))) :
    loopF B 0 = some (match l.find? p with | some x => Y x | none => N) := by
  apply post.eq
  refine post_loop (fun i => ∃ k : Nat, i = (k : Int) ∧ k ≤ l.length ∧ (l.drop k).find? p = l.find? p) (fun i => l.length - i.toNat) ⟨0, rfl, Nat.zero_le _, rfl⟩ (by simp; omega) ?_
  rintro _ ⟨k, rfl, hk, hf⟩
  rw [hB]
  refine post_br (fun hb => ?_) (fun hb => post_inr ?_)
  · simp only [ltI_t, lenI] at hb
    have hk' : k < l.length := by omega
    have e1 : l[k]? = some l[k] := List.getElem?_eq_getElem hk'
    rw [List.drop_eq_getElem_cons hk', List.find?_cons] at hf
    rw [getI_nat e1, bnd_some, inc hk' hl]
    refine post_br (fun hc => post_inr ?_) (fun hc => post_inl ⟨⟨k + 1, by simp, by omega, ?_⟩, by simp; omega⟩)
    · rw [hc] at hf; simp only at hf; rw [← hf]
    · rw [hc] at hf; simpa using hf
  · simp only [ltI_f, lenI] at hb
    rw [List.drop_eq_nil_of_le (by omega)] at hf
    rw [← hf]; rfl
def isArc (profile from_ to_ : Int) (a : T_api_Arc) : Bool := decide (a.from_ = from_ ∧ a.to_ = to_ ∧ a.profile = profile)
def findA (n : T_api_Network) (profile from_ to_ : Int) : T_api_Arc × Bool := match n.arcs.find? (isArc profile from_ to_) with
  | some a => (a, true)
  | none => (T_api_Arc.mk 0 0 0 0 [] [], false)
theorem find_eq {n : T_api_Network} (h : n.arcs.length ≤ 1048576) (profile from_ to_ : Int) : network_Find n profile from_ to_ = some (findA n profile from_ to_) := by
  unfold network_Find findA
  have := find_loop (isArc profile from_ to_) (fun a => (Sum.inr (a, true) : Unit ⊕ (T_api_Arc × Bool))) (.inl ()) h (B := fun s => network_Find_L1 n profile from_ to_ s) (fun i => by
    unfold network_Find_L1
    congr 2
    funext x
    unfold network_wayOf
    rw [bnd_some]
    congr 1
    unfold isArc
    rw [Bool.eq_iff_iff]
    simp [and_assoc])
  rw [bnd_eq this]
  cases n.arcs.find? (isArc profile from_ to_) <;> rfl
theorem ref09_Find_eq {n : T_api_Network} (h : n.arcs.length ≤ 1048576) (profile from_ to_ : Int) : lorryref09_Find n profile from_ to_ = some (findA n profile from_ to_) := by
  unfold lorryref09_Find findA
  have := find_loop (isArc profile from_ to_) (fun a => (Sum.inr (a, true) : Unit ⊕ (T_api_Arc × Bool))) (.inl ()) h (B := fun s => lorryref09_Find_L1 n profile from_ to_ s) (fun i => by
    unfold lorryref09_Find_L1
    congr 2
    funext x
    congr 1
    unfold isArc
    rw [Bool.eq_iff_iff]
    simp [and_assoc])
  rw [bnd_eq this]
  cases n.arcs.find? (isArc profile from_ to_) <;> rfl
theorem findA_mem {n : T_api_Network} {profile from_ to_ : Int} (h : (findA n profile from_ to_).2 = true) : (findA n profile from_ to_).1 ∈ n.arcs ∧ isArc profile from_ to_ (findA n profile from_ to_).1 = true := by
  unfold findA at h ⊢
  cases hf : n.arcs.find? (isArc profile from_ to_) with
  | none => rw [hf] at h; cases h
  | some a => exact ⟨List.mem_of_find?_eq_some hf, List.find?_some hf⟩
def isPlace (n : T_api_Network) (i : Int) : Bool := decide (0 ≤ i ∧ i < n.places.length)
theorem place_eq (n : T_api_Network) (i : Int) : network_place n i = some (isPlace n i) := by
  unfold network_place isPlace lenI
  congr 1
  rw [Bool.eq_iff_iff]; simp
theorem ref09_Place_eq (n : T_api_Network) (i : Int) : lorryref09_Place n i = some (isPlace n i) := by
  unfold lorryref09_Place isPlace lenI
  congr 1
  rw [Bool.eq_iff_iff]; simp
/-- From a place to another one. -/
def goN (n : T_api_Network) (profile from_ to_ t : Int) : Int × Int × Int :=
  if isPlace n from_ = true ∧ isPlace n to_ = true then
    if from_ = to_ then (t, 0, 0) else
    if (findA n profile from_ to_).2 = true then (arrA (findA n profile from_ to_).1 t, (findA n profile from_ to_).1.miles, 0) else (0, 0, 12)
  else (0, 0, 11)
theorem go_eq {n : T_api_Network} (h : NetOK n) (profile from_ to_ : Int) {t : Int} (ht : inT t) : network_Go n profile from_ to_ t = some (goN n profile from_ to_ t) := by
  unfold network_Go goN
  rw [place_eq, bnd_some, place_eq, bnd_some, find_eq (by have := h.arcs; omega), bnd_some]
  simp only [br_if, eqI_t]
  by_cases h1 : isPlace n from_ = true
  · by_cases h2 : isPlace n to_ = true
    · rw [if_pos h1, if_pos h2, if_pos (And.intro h1 h2)]
      by_cases h3 : from_ = to_
      · rw [if_pos h3, if_pos h3]
      · rw [if_neg h3, if_neg h3]
        by_cases h4 : (findA n profile from_ to_).2 = true
        · rw [if_pos h4, if_pos h4, arrival_eq (h.all _ (findA_mem h4).1) ht, bnd_some]
        · rw [if_neg h4, if_neg h4]
    · rw [if_pos h1, if_neg h2, if_neg (fun h : isPlace n from_ = true ∧ isPlace n to_ = true => h2 h.2)]
  · rw [if_neg h1, if_neg (fun h : isPlace n from_ = true ∧ isPlace n to_ = true => h1 h.1)]
theorem ref09_Go_eq {n : T_api_Network} (h : NetOK n) (profile from_ to_ : Int) {t : Int} (ht : inT t) : lorryref09_Go n profile from_ to_ t = some (goN n profile from_ to_ t) := by
  unfold lorryref09_Go goN
  rw [ref09_Place_eq, bnd_some, ref09_Place_eq, bnd_some, ref09_Find_eq (by have := h.arcs; omega), bnd_some]
  simp only [br_if, eqI_t]
  by_cases h1 : isPlace n from_ = true
  · by_cases h2 : isPlace n to_ = true
    · rw [if_pos h1, if_pos h2, if_pos (And.intro h1 h2)]
      by_cases h3 : from_ = to_
      · rw [if_pos h3, if_pos h3]
      · rw [if_neg h3, if_neg h3]
        by_cases h4 : (findA n profile from_ to_).2 = true
        · rw [if_pos h4, if_pos h4, ref09_Arrive_eq (h.all _ (findA_mem h4).1) ht, bnd_some]
        · rw [if_neg h4, if_neg h4]
    · rw [if_pos h1, if_neg h2, if_neg (fun h : isPlace n from_ = true ∧ isPlace n to_ = true => h2 h.2)]
  · rw [if_neg h1, if_neg (fun h : isPlace n from_ = true ∧ isPlace n to_ = true => h1 h.1)]

/-! ### Equal -/
theorem all_loop {α E : Type} {l : List α} (p : α → Bool) (Y : E) (N : E) (hl : l.length ≤ 1048576) {B : Int → Option (Int ⊕ E)} (hp : ∀ x ∈ l, p x = true)
    (hB : ∀ (i : Nat) (x : α), l[i]? = some x → B i = br (p x) (some (.inl (addK .i64 i 1))) (some (.inr N))) (hE : B l.length = some (.inr Y)) : loopF B 0 = some Y := by
  refine loop_for (B := B) l.length (fun i => (i : Int)) (by omega) (fun i hi => ?_) hE
  have e1 : l[i]? = some l[i] := List.getElem?_eq_getElem hi
  rw [hB i _ e1, hp _ (List.getElem_mem hi), br_true, inc hi hl]
  rfl
end Go.Proofs.YtjhhlmmmkgnhmaaDoor
