/- Part MP of the proof: texts Wqa Wqb Wqc Wqd Wqe Wqi Wqj Wqk Wql. -/
import Derived.Test.YtoogjnlmicgfiaaGreatDoorMT
import Derived.KernelRfl
namespace Go.Proofs.YtoogjnlmicgfiaaGreatDoor
set_option linter.unusedSimpArgs false
set_option linter.unusedVariables false
set_option linter.unusedSectionVars false

abbrev Pt := Qah
def okA (p : Pt) : Prop := 0 ≤ p.t ∧ p.t ≤ 4096 ∧ p.t ≤ p.a ∧ p.a ≤ p.t + 4096
/-- Point i of a list is right. -/
def okP (l : List Pt) (i : Nat) : Prop := ∀ p, l[i]? = some p → okA p ∧ (0 < i → ∀ q, l[i - 1]? = some q → q.t < p.t ∧ q.a ≤ p.a)
structure Right (l : List Pt) : Prop where
  pos : 1 ≤ l.length
  most : l.length ≤ 16
  all : ∀ i, i < l.length → okP l i
end Go.Proofs.YtoogjnlmicgfiaaGreatDoor
namespace Go.Proofs.YtoogjnlmicgfiaaGreatDoor
set_option linter.unusedSimpArgs false
set_option linter.unusedVariables false
set_option linter.unusedSectionVars false

/-- Between two points. -/
def seg (p q : Pt) (t : Int) : Int := p.a + ((t - p.t) * (q.a - p.a) + (q.t - p.t) - 1) / (q.t - p.t)
def arrL : List Pt → Int → Int
  | [], _ => 0
  | [p], t => t + p.a - p.t
  | p :: q :: r, t => if t < q.t then (if t < p.t then t + p.a - p.t else seg p q t) else arrL (q :: r) t
def Srt : List Pt → Prop
  | [] => True
  | [p] => okA p
  | p :: q :: r => okA p ∧ p.t < q.t ∧ p.a ≤ q.a ∧ Srt (q :: r)
theorem Qo9 : ∀ {l : List Pt}, (∀ i, i < l.length → okP l i) → Srt l
  | [], _ => trivial
  | [p], h => (h 0 (by simp) p rfl).1
  | p :: q :: r, h => by
    have h0 := h 0 (by simp) p rfl
    have h1 := (h 1 (by simp) q rfl).2 (by omega) p rfl
    refine ⟨h0.1, h1.1, h1.2, Qo9 fun i hi x hx => ?_⟩
    have h2 := h (i + 1) (by simpa using hi) x hx
    refine ⟨h2.1, fun h3 y hy => h2.2 (by omega) y ?_⟩
    obtain ⟨j, rfl⟩ : ∃ j, i = j + 1 := ⟨i - 1, by omega⟩
    exact hy
theorem Right.srt {l : List Pt} (h : Right l) : Srt l := Qo9 h.all
theorem Srt.okA_at : ∀ {l : List Pt}, Srt l → ∀ {i : Nat} {p : Pt}, l[i]? = some p → okA p
  | [], _, _, _, h => by simp at h
  | [p], h, 0, x, hx => by cases hx; exact h
  | [p], h, i + 1, x, hx => by simp at hx
  | p :: q :: r, h, 0, x, hx => by cases hx; exact h.1
  | p :: q :: r, h, i + 1, x, hx => Srt.okA_at (l := q :: r) h.2.2.2 hx
theorem Srt.pair : ∀ {l : List Pt}, Srt l → ∀ {i : Nat} {p q : Pt}, l[i]? = some p → l[i + 1]? = some q → p.t < q.t ∧ p.a ≤ q.a
  | [], _, _, _, _, h, _ => by simp at h
  | [p], h, i, x, y, _, hy => by simp at hy
  | p :: q :: r, h, 0, x, y, hx, hy => by cases hx; cases hy; exact ⟨h.2.1, h.2.2.1⟩
  | p :: q :: r, h, i + 1, x, y, hx, hy => Srt.pair (l := q :: r) h.2.2.2 hx hy
theorem Srt.lt {l : List Pt} (h : Srt l) {i : Nat} : ∀ {j : Nat}, i < j → ∀ {p q : Pt}, l[i]? = some p → l[j]? = some q → p.t < q.t
  | j + 1, hij, p, q, hp, hq => by
    rcases Nat.lt_or_ge i j with h' | h'
    · have hj : l[j]? = some (l[j]'(by have := (List.getElem?_eq_some_iff.1 hq).1; omega)) := List.getElem?_eq_getElem _
      have := h.lt h' hp hj
      have := (h.pair hj hq).1
      omega
    · obtain rfl : i = j := by omega
      exact (h.pair hp hq).1
theorem QnD {p q : Pt} (h : p.t < q.t) : seg p q q.t = q.a := by
  unfold seg
  rw [show (q.t - p.t) * (q.a - p.a) + (q.t - p.t) - 1 = (q.t - p.t - 1) + (q.t - p.t) * (q.a - p.a) by omega, Int.add_mul_ediv_left _ _ (by omega), Int.ediv_eq_zero_of_lt (by omega) (by omega)]; omega
theorem Qoy {p q : Pt} (h1 : p.t < q.t) (h2 : p.a ≤ q.a) {t t' : Int} (h : t ≤ t') : seg p q t ≤ seg p q t' := by
  unfold seg
  have := Int.mul_le_mul_of_nonneg_right (show t - p.t ≤ t' - p.t by omega) (show 0 ≤ q.a - p.a by omega)
  have := Int.ediv_le_ediv (show 0 < q.t - p.t by omega) (show (t - p.t) * (q.a - p.a) + (q.t - p.t) - 1 ≤ (t' - p.t) * (q.a - p.a) + (q.t - p.t) - 1 by omega)
  omega
theorem Qpn {p q : Pt} (hp : p.t ≤ p.a) (hq : q.t ≤ q.a) (h1 : p.t < q.t) {t : Int} (h : p.t ≤ t) (h' : t ≤ q.t) : t ≤ seg p q t := by
  unfold seg
  have key : (t - p.a) * (q.t - p.t) ≤ (t - p.t) * (q.a - p.a) := by
    have e1 : 0 ≤ (t - p.t) * (q.a - q.t) := Int.mul_nonneg (by omega) (by omega)
    have e2 : 0 ≤ (q.t - t) * (p.a - p.t) := Int.mul_nonneg (by omega) (by omega)
    have e3 : (t - p.t) * (q.a - p.a) - (t - p.a) * (q.t - p.t) = (t - p.t) * (q.a - q.t) + (q.t - t) * (p.a - p.t) := by
      simp only [Int.sub_mul, Int.mul_sub, Int.mul_comm]
      omega
    omega
  have := (Int.le_ediv_iff_mul_le (show 0 < q.t - p.t by omega)).2 (show (t - p.a) * (q.t - p.t) ≤ (t - p.t) * (q.a - p.a) + (q.t - p.t) - 1 by omega)
  omega
theorem QnK : ∀ {l : List Pt}, Srt l → l ≠ [] → ∀ (t : Int), t ≤ arrL l t
  | [], _, h, _ => absurd rfl h
  | [p], h, _, t => by simp only [arrL]; have := h.2.2.1; omega
  | p :: q :: r, h, _, t => by
    have hq : okA q := h.2.2.2.okA_at (i := 0) rfl
    have h1 := h.1.2.2.1
    simp only [arrL]
    by_cases h3 : t < q.t
    · rw [if_pos h3]
      by_cases h4 : t < p.t
      · rw [if_pos h4]; omega
      · rw [if_neg h4]; exact Qpn h1 hq.2.2.1 h.2.1 (by omega) (by omega)
    · rw [if_neg h3]; exact QnK h.2.2.2 (by simp) t
theorem QnL : ∀ {l : List Pt}, Srt l → ∀ {t : Int}, 0 ≤ t → arrL l t ≤ t + 8192
  | [], _, t, h => by simp only [arrL]; omega
  | [p], h, t, _ => by simp only [arrL]; have := h.2.2.2; omega
  | p :: q :: r, h, t, h0 => by
    have hq : okA q := h.2.2.2.okA_at (i := 0) rfl
    have h1 := h.1.2.2.2
    simp only [arrL]
    by_cases h3 : t < q.t
    · rw [if_pos h3]
      by_cases h4 : t < p.t
      · rw [if_pos h4]; omega
      · rw [if_neg h4]
        have := Qoy h.2.1 h.2.2.1 (show t ≤ q.t by omega)
        rw [QnD h.2.1] at this
        have := hq.2.2.2; have := hq.2.1; omega
    · rw [if_neg h3]; exact QnL h.2.2.2 h0
end Go.Proofs.YtoogjnlmicgfiaaGreatDoor
namespace Go.Proofs.YtoogjnlmicgfiaaGreatDoor
set_option linter.unusedSimpArgs false
set_option linter.unusedVariables false
set_option linter.unusedSectionVars false

def inT (t : Int) : Prop := 0 ≤ t ∧ t ≤ 1073741824
theorem Right.at {l : List Pt} (h : Right l) {i : Nat} {p : Pt} (hp : l[i]? = some p) : okA p := h.srt.okA_at hp
end Go.Proofs.YtoogjnlmicgfiaaGreatDoor
namespace Go.Proofs.YtoogjnlmicgfiaaGreatDoor
set_option linter.unusedSimpArgs false
set_option linter.unusedVariables false
set_option linter.unusedSectionVars false

/-- What is asked of an element. -/
class Sm (α : Type) where
  sm : α → Prop
instance : Sm Qak := ⟨fun f => f.at_.size ≤ 64⟩
instance : Sm Int := ⟨fun _ => True⟩
section
variable {α β : Type} [Sm α]
def Ext (l0 : List α) (c : Nat) (P : Prop) (r : List α) : Prop := ∃ new, r = l0 ++ new ∧ new.length ≤ c ∧ (new = [] → P) ∧ ∀ x ∈ new, Sm.sm x
theorem Ext.nil {l0 : List α} {c : Nat} {P : Prop} (h : P) : Ext l0 c P l0 := ⟨[], by simp, by simp, fun _ => h, by simp⟩
theorem Ext.one {l0 : List α} {c : Nat} {P : Prop} {x : α} (hc : 1 ≤ c) (hx : Sm.sm x) : Ext l0 c P (l0 ++ [x]) := ⟨[x], rfl, hc, fun h => by (cases h), fun y hy => by rw [List.mem_singleton.1 hy]; exact hx⟩
theorem Ext.trans {a b r : List α} {c d e : Nat} {P Q R : Prop} (h : Ext a c P b) (h' : Ext b d Q r) (he : c + d ≤ e) (hr : P → Q → R) : Ext a e R r := by
  obtain ⟨n, rfl, h1, h2, h5⟩ := h
  obtain ⟨m, rfl, h3, h4, h6⟩ := h'
  refine ⟨n ++ m, by simp, by simp; omega, fun h => ?_, fun x hx => by rcases List.mem_append.1 hx with h | h; exact h5 x h; exact h6 x h⟩
  rw [List.append_eq_nil_iff] at h
  exact hr (h2 h.1) (h4 h.2)
theorem Ext.len {a r : List α} {c : Nat} {P : Prop} (h : Ext a c P r) : r.length ≤ a.length + c := by obtain ⟨n, rfl, h1, _⟩ := h; simp; omega
theorem Ext.mono {a r : List α} {c d : Nat} {P Q : Prop} (h : Ext a c P r) (hc : c ≤ d) (hp : P → Q) : Ext a d Q r := by
  obtain ⟨n, rfl, h1, h2, h3⟩ := h
  exact ⟨n, rfl, by omega, fun hn => hp (h2 hn), h3⟩
end
theorem inc {i n : Nat} (h : i < n) (hn : n ≤ 1048576) : addK .i64 (i : Int) 1 = (i : Int) + 1 := addI (by omega) (by omega)
/-- A delay's points. -/
def okS (l : List Pt) (i : Nat) : Prop := ∀ p, l[i]? = some p → 0 ≤ p.t ∧ p.t ≤ 4096 ∧ 0 ≤ p.a ∧ p.a ≤ 4096 ∧ (0 < i → ∀ q, l[i - 1]? = some q → q.t < p.t)
structure ArcOK (np : Nat) (a : Qaw) : Prop where
  from0 : 0 ≤ a.from_
  from1 : a.from_ < np
  to0 : 0 ≤ a.to_
  to1 : a.to_ < np
  prof0 : 0 ≤ a.profile
  prof1 : a.profile ≤ 7
  miles0 : 0 ≤ a.miles
  miles1 : a.miles ≤ 10000
  ne : a.from_ ≠ a.to_
  travel : Right a.travel
  slow : a.slow.length ≤ 16
  slowAll : ∀ i, i < a.slow.length → okS a.slow i
def QoH (a b : Qaw) : Prop := a.from_ = b.from_ ∧ a.to_ = b.to_ ∧ a.profile = b.profile
structure NetOK (n : Qar) : Prop where
  places : n.places.length ≤ 24
  arcs : n.arcs.length ≤ 1024
  all : ∀ a ∈ n.arcs, ArcOK n.places.length a
  once : ∀ (i k : Nat) (a b : Qaw), k < i → n.arcs[i]? = some a → n.arcs[k]? = some b → ¬ QoH a b

end Go.Proofs.YtoogjnlmicgfiaaGreatDoor
namespace Go.Proofs.YtoogjnlmicgfiaaGreatDoor
set_option linter.unusedSimpArgs false
set_option linter.unusedVariables false
set_option linter.unusedSectionVars false

/-- The delays that have begun. -/
def QfQ (l : List Pt) (t : Int) : Int := l.foldr (fun p s => (if p.t ≤ t then p.a else 0) + s) 0
theorem Qky (l m : List Pt) (t : Int) : QfQ (l ++ m) t = QfQ l t + QfQ m t := by
  induction l with
  | nil => simp [QfQ]
  | cons p l ih => simp only [QfQ, List.cons_append, List.foldr_cons] at ih ⊢; omega
theorem Qll {l : List Pt} {t : Int} {i : Nat} {p : Pt} (h : l[i]? = some p) : QfQ (l.take (i + 1)) t = QfQ (l.take i) t + (if p.t ≤ t then p.a else 0) := by
  rw [List.take_add_one, h, Qky]; simp [QfQ]
theorem Qpl {l : List Pt} (h : ∀ i, i < l.length → okS l i) {i : Nat} {p : Pt} (hp : l[i]? = some p) : 0 ≤ p.t ∧ p.t ≤ 4096 ∧ 0 ≤ p.a ∧ p.a ≤ 4096 := by
  have := h i (List.getElem?_eq_some_iff.1 hp).1 p hp
  exact ⟨this.1, this.2.1, this.2.2.1, this.2.2.2.1⟩
theorem QkT {l : List Pt} (h : ∀ i, i < l.length → okS l i) (t : Int) : ∀ i : Nat, i ≤ l.length → 0 ≤ QfQ (l.take i) t ∧ QfQ (l.take i) t ≤ 4096 * i
  | 0, _ => by simp [QfQ]
  | i + 1, hi => by
    have e1 : l[i]? = some (l[i]'(by omega)) := List.getElem?_eq_getElem _
    have ih := QkT h t i (by omega)
    have := Qpl h e1
    rw [Qll e1]
    split <;> omega
/-- The arrival over an arc. -/
def arrA (a : Qaw) (t : Int) : Int := arrL a.travel t + QfQ a.slow t
theorem Right.ne {l : List Pt} (h : Right l) : l ≠ [] := fun e => by have := h.pos; rw [e] at this; simp at this
theorem QjQ {l : List Pt} (h : ∀ i, i < l.length → okS l i) (hl : l.length ≤ 16) (t : Int) : 0 ≤ QfQ l t ∧ QfQ l t ≤ 65536 := by
  have := QkT h t l.length (Nat.le_refl _)
  rw [List.take_length] at this; omega
theorem QoL {np : Nat} {a : Qaw} (h : ArcOK np a) (t : Int) : t ≤ arrA a t := by
  have := QnK h.travel.srt h.travel.ne t
  have := QjQ h.slowAll h.slow t
  unfold arrA; omega
theorem QoM {np : Nat} {a : Qaw} (h : ArcOK np a) {t : Int} (ht : 0 ≤ t) : arrA a t ≤ t + 73728 := by
  have := QnL h.travel.srt ht
  have := QjQ h.slowAll h.slow t
  unfold arrA; omega
def isArc (profile from_ to_ : Int) (a : Qaw) : Bool := decide (a.from_ = from_ ∧ a.to_ = to_ ∧ a.profile = profile)
def findA (n : Qar) (profile from_ to_ : Int) : Qaw × Bool := match n.arcs.find? (isArc profile from_ to_) with
  | some a => (a, true)
  | none => (Qaw.mk 0 0 0 0 [] [], false)
theorem Qnk {n : Qar} {profile from_ to_ : Int} (h : (findA n profile from_ to_).2 = true) : (findA n profile from_ to_).1 ∈ n.arcs ∧ isArc profile from_ to_ (findA n profile from_ to_).1 = true := by
  unfold findA at h ⊢
  cases hf : n.arcs.find? (isArc profile from_ to_) with
  | none => rw [hf] at h; cases h
  | some a => exact ⟨List.mem_of_find?_eq_some hf, List.find?_some hf⟩
def QnQ (n : Qar) (i : Int) : Bool := decide (0 ≤ i ∧ i < n.places.length)
/-- From a place to another one. -/
def goN (n : Qar) (profile from_ to_ t : Int) : Int × Int × Int :=
  if QnQ n from_ = true ∧ QnQ n to_ = true then
    if from_ = to_ then (t, 0, 0) else
    if (findA n profile from_ to_).2 = true then (arrA (findA n profile from_ to_).1 t, (findA n profile from_ to_).1.miles, 0) else (0, 0, 12)
  else (0, 0, 11)
end Go.Proofs.YtoogjnlmicgfiaaGreatDoor
namespace Go.Proofs.YtoogjnlmicgfiaaGreatDoor
set_option linter.unusedSimpArgs false
set_option linter.unusedVariables false
set_option linter.unusedSectionVars false

def zStop : Qam := Qam.mk 0 0 0 0
def zType : Qan := Qan.mk ByteArray.empty 0 0 0 [] 0 0 0 0 0 0 0 0 0
def QnJ : Qag := Qag.mk false 0 [] 0 0
def zLab : Qac := Qac.mk 0 0 QnJ
def atS (v : Qaa) (o : Qap) : Qam := if v.drop = true then o.drop else o.pick
/-- The stop of a visit. -/
def stopV (x : Qad) (v : Qaa) : Option Qam :=
  match (if 0 ≤ v.order then x.orders[v.order.toNat]? else none) with
  | none => none
  | some o => if 0 ≤ (atS v o).place then some (atS v o) else none
def preR (x : Qad) (r : Qab) : Bool := decide (0 ≤ r.type_ ∧ r.type_ < x.types.length ∧ 0 ≤ r.start ∧ r.start ≤ 4096 ∧ r.visits.length ≤ 20)
/-- Is a route possible? -/
def possS (x : Qad) (r : Qab) : Bool := preR x r && r.visits.all fun v => (stopV x v).isSome
def Qpa (x : Qad) (r : Qab) : List Qam := r.visits.map fun v => (stopV x v).getD zStop
def typS (x : Qad) (r : Qab) : Qan := x.types.getD r.type_.toNat zType
end Go.Proofs.YtoogjnlmicgfiaaGreatDoor
namespace Go.Proofs.YtoogjnlmicgfiaaGreatDoor
set_option linter.unusedSimpArgs false
set_option linter.unusedVariables false
set_option linter.unusedSectionVars false

theorem QoZ {n : Qar} (h : NetOK n) {profile a b t : Int} (ht : inT t) (h0 : (goN n profile a b t).2.2 = 0) : t ≤ (goN n profile a b t).1 ∧ (goN n profile a b t).1 ≤ t + 73728 ∧ 0 ≤ (goN n profile a b t).2.1 ∧ (goN n profile a b t).2.1 ≤ 10000 := by
  unfold goN at h0 ⊢
  split at h0
  · rename_i h1
    rw [if_pos h1]
    split at h0
    · rename_i h2
      rw [if_pos h2]; exact ⟨Int.le_refl _, by simp only; omega, by simp, by simp⟩
    · rename_i h2
      rw [if_neg h2]
      split at h0
      · rename_i h3
        rw [if_pos h3]
        have ha := h.all _ (Qnk h3).1
        exact ⟨QoL ha t, QoM ha ht.1, ha.miles0, ha.miles1⟩
      · simp at h0
  · simp at h0
/-- A stop that is there. -/
structure SOK (s : Qam) : Prop where
  open0 : 0 ≤ s.open_
  open1 : s.open_ ≤ s.close
  close : s.close ≤ 4096
  serv0 : 0 ≤ s.service
  serv1 : s.service ≤ 4096
def endS (t : Qan) : Qam := Qam.mk t.to_ 0 t.close 0
section
variable (n : Qar) (t : Qan) (stops : List Qam)
def fromP : Nat → Int
  | 0 => t.from_
  | k + 1 => (stops.getD k zStop).place
def stopK (k : Nat) : Qam := stops.getD k (endS t)
def patch (ts : List Qai) (i : Nat) (dep : Int) (rest : Bool) : List Qai := match ts[i]? with
  | some m => ts.set i (Qai.mk m.arrive m.begin dep rest)
  | none => ts
def depS (l : Qac) (rest : Bool) : Int := l.ready + (if rest = true then t.rest_ else 0)
def sinS (l : Qac) (rest : Bool) : Int := if rest = true then 0 else l.since
def QnH (l : Qac) (k : Nat) (dep : Int) (rest : Bool) : List Qai := if k = 0 then l.sheet.times else patch l.sheet.times (k - 1) dep rest
def shS (l : Qac) (k : Nat) (rest : Bool) (dep : Int) (g : Int × Int × Int) : Qag :=
  Qag.mk (if k = 0 then rest else l.sheet.rest_) (if k = 0 then dep else l.sheet.depart)
    (if k < stops.length then QnH l k dep rest ++ [Qai.mk g.1 (max g.1 (stopK t stops k).open_) 0 false] else QnH l k dep rest)
    (if k < stops.length then l.sheet.end_ else g.1) (l.sheet.miles + g.2.1)
/-- The next label, or why there is none. -/
def nxtD (l : Qac) (k : Nat) (rest : Bool) (dep sn : Int) : Qac × Int :=
  if (goN n t.profile (fromP t stops k) (stopK t stops k).place dep).2.2 ≠ 0 then (zLab, 12)
  else if (stopK t stops k).close < (goN n t.profile (fromP t stops k) (stopK t stops k).place dep).1 then (zLab, if k < stops.length then 14 else 15)
  else if t.drive < sn + (goN n t.profile (fromP t stops k) (stopK t stops k).place dep).1 - dep then (zLab, 16)
  else (Qac.mk (max (goN n t.profile (fromP t stops k) (stopK t stops k).place dep).1 (stopK t stops k).open_ + (stopK t stops k).service) (sn + (goN n t.profile (fromP t stops k) (stopK t stops k).place dep).1 - dep)
    (shS t stops l k rest dep (goN n t.profile (fromP t stops k) (stopK t stops k).place dep)), 0)
def nxt (l : Qac) (k : Nat) (rest : Bool) : Qac × Int := nxtD n t stops l k rest (depS t l rest) (sinS l rest)
end
/-- What is known of a label after k departures. -/
structure LabI (k : Nat) (l : Qac) : Prop where
  ready0 : 0 ≤ l.ready
  ready1 : l.ready ≤ 8192
  since0 : 0 ≤ l.since
  since1 : l.since ≤ 4096
  miles0 : 0 ≤ l.sheet.miles
  miles1 : l.sheet.miles ≤ 10000 * k
  times : l.sheet.times.length = k
/-- A route on its way. -/
structure Qk4 (n : Qar) (t : Qan) (stops : List Qam) : Prop where
  net : NetOK n
  opn : 0 ≤ t.open_ ∧ t.open_ ≤ t.close
  close : t.close ≤ 4096
  drive : 1 ≤ t.drive ∧ t.drive ≤ 4096
  rest : 0 ≤ t.rest_ ∧ t.rest_ ≤ 4096
  few : stops.length ≤ 20
  stops : ∀ s ∈ stops, SOK s
section
variable {n : Qar} {t : Qan} {stops : List Qam} {l : Qac} {k : Nat} {rest : Bool} {dep sn : Int}
theorem Qk4.stopK (h : Qk4 n t stops) (k : Nat) : SOK (stopK t stops k) := by
  unfold Go.Proofs.YtoogjnlmicgfiaaGreatDoor.stopK
  rw [List.getD_eq_getElem?_getD]
  cases hs : stops[k]? with
  | some s => exact h.stops s (List.mem_of_getElem? hs)
  | none => exact ⟨Int.le_refl _, by have := h.opn; show 0 ≤ t.close; omega, h.close, Int.le_refl _, by show (0 : Int) ≤ 4096; omega⟩
theorem QnA {ts : List Qai} {i : Nat} : (patch ts i dep rest).length = ts.length := by unfold patch; split <;> simp
theorem Qna : (QnH l k dep rest).length = l.sheet.times.length := by unfold QnH; split; rfl; exact QnA
theorem Qo4 (h : Qk4 n t stops) (hl : LabI k l) (h0 : (nxt n t stops l k rest).2 = 0) :
    (goN n t.profile (fromP t stops k) (stopK t stops k).place (depS t l rest)).2.2 = 0 ∧ (goN n t.profile (fromP t stops k) (stopK t stops k).place (depS t l rest)).1 ≤ (stopK t stops k).close ∧
    sinS l rest + (goN n t.profile (fromP t stops k) (stopK t stops k).place (depS t l rest)).1 - depS t l rest ≤ t.drive ∧
    (nxt n t stops l k rest).1 = Qac.mk (max (goN n t.profile (fromP t stops k) (stopK t stops k).place (depS t l rest)).1 (stopK t stops k).open_ + (stopK t stops k).service) (sinS l rest + (goN n t.profile (fromP t stops k) (stopK t stops k).place (depS t l rest)).1 - depS t l rest)
      (shS t stops l k rest (depS t l rest) (goN n t.profile (fromP t stops k) (stopK t stops k).place (depS t l rest))) := by
  unfold nxt nxtD at h0 ⊢
  split at h0
  · simp at h0
  · rename_i h1
    split at h0
    · simp only at h0; split at h0 <;> simp at h0
    · rename_i h2
      split at h0
      · simp at h0
      · rename_i h3
        rw [if_neg h1, if_neg h2, if_neg h3]
        exact ⟨by simpa using h1, by omega, by omega, rfl⟩
theorem QoT (h : Qk4 n t stops) (hl : LabI k l) : inT (depS t l rest) := by
  have h1 := hl.ready0; have h2 := hl.ready1; have h3 := h.rest
  unfold depS inT
  split <;> omega
theorem Qo3 (h : Qk4 n t stops) (hl : LabI k l) (hk : k < stops.length) (h0 : (nxt n t stops l k rest).2 = 0) : LabI (k + 1) (nxt n t stops l k rest).1 := by
  obtain ⟨g0, g1, g2, g3⟩ := Qo4 h hl h0
  have hin := QoT (rest := rest) h hl
  have hb := QoZ h.net hin g0
  have hS := h.stopK k
  have := hS.open0; have := hS.open1; have := hS.close; have := hS.serv0; have := hS.serv1
  have hd := h.drive
  have hm0 := hl.miles0; have hm1 := hl.miles1
  have hsn : 0 ≤ sinS l rest := by unfold sinS; split; omega; exact hl.since0
  unfold inT at hin
  rw [g3]
  refine ⟨by simp only; omega, by simp only; omega, by simp only; omega, by simp only; omega, ?_, ?_, ?_⟩
  · show 0 ≤ l.sheet.miles + _; omega
  · show l.sheet.miles + _ ≤ _; rw [Int.natCast_add, Int.mul_add]; omega
  · show (if k < stops.length then _ else _ : List Qai).length = _
    rw [if_pos hk, List.length_append, Qna, hl.times]; rfl
end
end Go.Proofs.YtoogjnlmicgfiaaGreatDoor
