/- Part MT of the proof: texts Wt Wd Wo. -/
import Derived.Test.YtoogjnlmicgfiaaGreatDoorMA
import Derived.Test.YtoogjnlmicgfiaaGreatDoorMC
namespace Go.Proofs.YtoogjnlmicgfiaaGreatDoor
set_option linter.unusedVariables false
set_option linter.unusedSectionVars false
set_option linter.unusedSimpArgs false
def e_i64 (n : Int) : List Lf := [.int .i64 n]
def e_fn (n : Nat) : List Lf := [.fn (.func n) []]
def QaI (b : Bool) : List Lf := [.bool b]
def e_str (s : ByteArray) : List Lf := [.str s]
structure Qak where
  err : Int
  at_ : ByteArray
instance : DecidableEq Qak := fun a b => decidable_of_iff (a.err = b.err ∧ a.at_ = b.at_) (by cases a; cases b; simp)
structure Qah where
  t : Int
  a : Int
instance : DecidableEq Qah := fun a b => decidable_of_iff (a.t = b.t ∧ a.a = b.a) (by cases a; cases b; simp)
structure Qaw where
  from_ : Int
  to_ : Int
  profile : Int
  miles : Int
  travel : List Qah
  slow : List Qah
instance : DecidableEq Qaw := fun a b => decidable_of_iff (a.from_ = b.from_ ∧ a.to_ = b.to_ ∧ a.profile = b.profile ∧ a.miles = b.miles ∧ a.travel = b.travel ∧ a.slow = b.slow) (by cases a; cases b; simp)
structure Qar where
  places : List ByteArray
  arcs : List Qaw
instance : DecidableEq Qar := fun a b => decidable_of_iff (a.places = b.places ∧ a.arcs = b.arcs) (by cases a; cases b; simp)
structure Qan where
  name : ByteArray
  count : Int
  from_ : Int
  to_ : Int
  cap : List Int
  skills : Int
  profile : Int
  open_ : Int
  close : Int
  drive : Int
  rest_ : Int
  fixed : Int
  perMile : Int
  perTick : Int
instance : DecidableEq Qan := fun a b => decidable_of_iff (a.name = b.name ∧ a.count = b.count ∧ a.from_ = b.from_ ∧ a.to_ = b.to_ ∧ a.cap = b.cap ∧ a.skills = b.skills ∧ a.profile = b.profile ∧ a.open_ = b.open_ ∧ a.close = b.close ∧ a.drive = b.drive ∧ a.rest_ = b.rest_ ∧ a.fixed = b.fixed ∧ a.perMile = b.perMile ∧ a.perTick = b.perTick) (by cases a; cases b; simp)
structure Qam where
  place : Int
  open_ : Int
  close : Int
  service : Int
instance : DecidableEq Qam := fun a b => decidable_of_iff (a.place = b.place ∧ a.open_ = b.open_ ∧ a.close = b.close ∧ a.service = b.service) (by cases a; cases b; simp)
structure Qap where
  name : ByteArray
  load : List Int
  pick : Qam
  drop : Qam
  skills : Int
  penalty : Int
  split : Int
  last_ : Int
  now : Int
  off : Bool
instance : DecidableEq Qap := fun a b => decidable_of_iff (a.name = b.name ∧ a.load = b.load ∧ a.pick = b.pick ∧ a.drop = b.drop ∧ a.skills = b.skills ∧ a.penalty = b.penalty ∧ a.split = b.split ∧ a.last_ = b.last_ ∧ a.now = b.now ∧ a.off = b.off) (by cases a; cases b; simp)
structure QcQ where
  x0 : Int
  x1 : Int
instance : DecidableEq QcQ := fun a b => decidable_of_iff (a.x0 = b.x0 ∧ a.x1 = b.x1) (by cases a; cases b; simp)
structure Qad where
  net : Qar
  types : List Qan
  orders : List Qap
  apart : List QcQ
  before : List QcQ
instance : DecidableEq Qad := fun a b => decidable_of_iff (a.net = b.net ∧ a.types = b.types ∧ a.orders = b.orders ∧ a.apart = b.apart ∧ a.before = b.before) (by cases a; cases b; simp)
structure Qaa where
  order : Int
  drop : Bool
instance : DecidableEq Qaa := fun a b => decidable_of_iff (a.order = b.order ∧ a.drop = b.drop) (by cases a; cases b; simp)
structure Qab where
  type_ : Int
  start : Int
  rests : List Bool
  visits : List Qaa
instance : DecidableEq Qab := fun a b => decidable_of_iff (a.type_ = b.type_ ∧ a.start = b.start ∧ a.rests = b.rests ∧ a.visits = b.visits) (by cases a; cases b; simp)
structure Qal where
  x : Qad
  t : Qan
  r : Qab
  stops : List Qam
instance : DecidableEq Qal := fun a b => decidable_of_iff (a.x = b.x ∧ a.t = b.t ∧ a.r = b.r ∧ a.stops = b.stops) (by cases a; cases b; simp)
structure Qai where
  arrive : Int
  begin : Int
  depart : Int
  rest_ : Bool
instance : DecidableEq Qai := fun a b => decidable_of_iff (a.arrive = b.arrive ∧ a.begin = b.begin ∧ a.depart = b.depart ∧ a.rest_ = b.rest_) (by cases a; cases b; simp)
structure Qag where
  rest_ : Bool
  depart : Int
  times : List Qai
  end_ : Int
  miles : Int
instance : DecidableEq Qag := fun a b => decidable_of_iff (a.rest_ = b.rest_ ∧ a.depart = b.depart ∧ a.times = b.times ∧ a.end_ = b.end_ ∧ a.miles = b.miles) (by cases a; cases b; simp)
structure Qac where
  ready : Int
  since : Int
  sheet : Qag
instance : DecidableEq Qac := fun a b => decidable_of_iff (a.ready = b.ready ∧ a.since = b.since ∧ a.sheet = b.sheet) (by cases a; cases b; simp)
structure Qdt where
  from_ : Int
  to_ : Int
  profile : Int
instance : DecidableEq Qdt := fun a b => decidable_of_iff (a.from_ = b.from_ ∧ a.to_ = b.to_ ∧ a.profile = b.profile) (by cases a; cases b; simp)
structure Ql8 where
  x0 : Int
  x1 : Int
  x2 : Int
  x3 : Int
  x4 : Int
  x5 : Int
  x6 : Int
  x7 : Int
  x8 : Int
  x9 : Int
  x10 : Int
  x11 : Int
  x12 : Int
  x13 : Int
  x14 : Int
  x15 : Int
  x16 : Int
  x17 : Int
  x18 : Int
  x19 : Int
  x20 : Int
  x21 : Int
  x22 : Int
  x23 : Int
instance : DecidableEq Ql8 := fun a b => decidable_of_iff (a.x0 = b.x0 ∧ a.x1 = b.x1 ∧ a.x2 = b.x2 ∧ a.x3 = b.x3 ∧ a.x4 = b.x4 ∧ a.x5 = b.x5 ∧ a.x6 = b.x6 ∧ a.x7 = b.x7 ∧ a.x8 = b.x8 ∧ a.x9 = b.x9 ∧ a.x10 = b.x10 ∧ a.x11 = b.x11 ∧ a.x12 = b.x12 ∧ a.x13 = b.x13 ∧ a.x14 = b.x14 ∧ a.x15 = b.x15 ∧ a.x16 = b.x16 ∧ a.x17 = b.x17 ∧ a.x18 = b.x18 ∧ a.x19 = b.x19 ∧ a.x20 = b.x20 ∧ a.x21 = b.x21 ∧ a.x22 = b.x22 ∧ a.x23 = b.x23) (by cases a; cases b; simp)
structure Qa2 where
  cost : Int
  moved : Int
  other : Int
  work : Int
instance : DecidableEq Qa2 := fun a b => decidable_of_iff (a.cost = b.cost ∧ a.moved = b.moved ∧ a.other = b.other ∧ a.work = b.work) (by cases a; cases b; simp)
structure Qax where
  routes : List Qab
  unserved : List Int
instance : DecidableEq Qax := fun a b => decidable_of_iff (a.routes = b.routes ∧ a.unserved = b.unserved) (by cases a; cases b; simp)
structure QdM where
  place : Int
  time : Int
  driven : Int
  miles : Int
instance : DecidableEq QdM := fun a b => decidable_of_iff (a.place = b.place ∧ a.time = b.time ∧ a.driven = b.driven ∧ a.miles = b.miles) (by cases a; cases b; simp)
structure Qn3 where
  x0 : Int
  x1 : Int
  x2 : Int
  x3 : Int
instance : DecidableEq Qn3 := fun a b => decidable_of_iff (a.x0 = b.x0 ∧ a.x1 = b.x1 ∧ a.x2 = b.x2 ∧ a.x3 = b.x3) (by cases a; cases b; simp)
def Qak.enc (x : Qak) : List Lf := [lI x.err, .str x.at_]
def Qah.enc (x : Qah) : List Lf := [lI x.t, lI x.a]
def Qaw.enc (x : Qaw) : List Lf := [lI x.from_, lI x.to_, lI x.profile, lI x.miles, lL 2 x.travel Qah.enc, lL 2 x.slow Qah.enc]
def Qar.enc (x : Qar) : List Lf := [lL 1 x.places e_str, lL 6 x.arcs Qaw.enc]
def Qan.enc (x : Qan) : List Lf := [.str x.name, lI x.count, lI x.from_, lI x.to_, lL 1 x.cap e_i64, lI x.skills, lI x.profile, lI x.open_, lI x.close, lI x.drive, lI x.rest_, lI x.fixed, lI x.perMile, lI x.perTick]
def Qam.enc (x : Qam) : List Lf := [lI x.place, lI x.open_, lI x.close, lI x.service]
def Qap.enc (x : Qap) : List Lf := [.str x.name, lL 1 x.load e_i64, lI x.pick.place, lI x.pick.open_, lI x.pick.close, lI x.pick.service, lI x.drop.place, lI x.drop.open_, lI x.drop.close, lI x.drop.service, lI x.skills, lI x.penalty, lI x.split, lI x.last_, lI x.now, .bool x.off]
def QcQ.enc (x : QcQ) : List Lf := [lI x.x0, lI x.x1]
def Qad.enc (x : Qad) : List Lf := [lL 1 x.net.places e_str, lL 6 x.net.arcs Qaw.enc, lL 14 x.types Qan.enc, lL 16 x.orders Qap.enc, lL 2 x.apart QcQ.enc, lL 2 x.before QcQ.enc]
def Qaa.enc (x : Qaa) : List Lf := [lI x.order, .bool x.drop]
def Qab.enc (x : Qab) : List Lf := [lI x.type_, lI x.start, lL 1 x.rests QaI, lL 2 x.visits Qaa.enc]
def Qal.enc (x : Qal) : List Lf := [lL 1 x.x.net.places e_str, lL 6 x.x.net.arcs Qaw.enc, lL 14 x.x.types Qan.enc, lL 16 x.x.orders Qap.enc, lL 2 x.x.apart QcQ.enc, lL 2 x.x.before QcQ.enc, .str x.t.name, lI x.t.count, lI x.t.from_, lI x.t.to_, lL 1 x.t.cap e_i64, lI x.t.skills, lI x.t.profile, lI x.t.open_, lI x.t.close, lI x.t.drive, lI x.t.rest_, lI x.t.fixed, lI x.t.perMile, lI x.t.perTick, lI x.r.type_, lI x.r.start, lL 1 x.r.rests QaI, lL 2 x.r.visits Qaa.enc, lL 4 x.stops Qam.enc]
def Qai.enc (x : Qai) : List Lf := [lI x.arrive, lI x.begin, lI x.depart, .bool x.rest_]
def Qag.enc (x : Qag) : List Lf := [.bool x.rest_, lI x.depart, lL 4 x.times Qai.enc, lI x.end_, lI x.miles]
def Qac.enc (x : Qac) : List Lf := [lI x.ready, lI x.since, .bool x.sheet.rest_, lI x.sheet.depart, lL 4 x.sheet.times Qai.enc, lI x.sheet.end_, lI x.sheet.miles]
def Qdt.enc (x : Qdt) : List Lf := [lI x.from_, lI x.to_, lI x.profile]
def Ql8.enc (x : Ql8) : List Lf := [.int .u8 x.x0, .int .u8 x.x1, .int .u8 x.x2, .int .u8 x.x3, .int .u8 x.x4, .int .u8 x.x5, .int .u8 x.x6, .int .u8 x.x7, .int .u8 x.x8, .int .u8 x.x9, .int .u8 x.x10, .int .u8 x.x11, .int .u8 x.x12, .int .u8 x.x13, .int .u8 x.x14, .int .u8 x.x15, .int .u8 x.x16, .int .u8 x.x17, .int .u8 x.x18, .int .u8 x.x19, .int .u8 x.x20, .int .u8 x.x21, .int .u8 x.x22, .int .u8 x.x23]
def Qa2.enc (x : Qa2) : List Lf := [lI x.cost, lI x.moved, lI x.other, lI x.work]
def Qax.enc (x : Qax) : List Lf := [lL 4 x.routes Qab.enc, lL 1 x.unserved e_i64]
def QdM.enc (x : QdM) : List Lf := [lI x.place, lI x.time, lI x.driven, lI x.miles]
def Qn3.enc (x : Qn3) : List Lf := [lI x.x0, lI x.x1, lI x.x2, lI x.x3]
def QcU (l : List Int) : List Lf := [.sl false 1 (l.map e_i64)]
def QfI : ByteArray := ⟨#[48, 49, 50, 51, 52, 53, 54, 55, 56, 57, 97, 98, 99, 100, 101, 102, 103, 104, 105, 106, 107, 108, 109, 110, 111, 112, 113, 114, 115, 116, 117, 118, 119, 120, 121, 122]⟩
def QfH : ByteArray := ⟨#[48, 48, 48, 49, 48, 50, 48, 51, 48, 52, 48, 53, 48, 54, 48, 55, 48, 56, 48, 57, 49, 48, 49, 49, 49, 50, 49, 51, 49, 52, 49, 53, 49, 54, 49, 55, 49, 56, 49, 57, 50, 48, 50, 49, 50, 50, 50, 51, 50, 52, 50, 53, 50, 54, 50, 55, 50, 56, 50, 57, 51, 48, 51, 49, 51, 50, 51, 51, 51, 52, 51, 53, 51, 54, 51, 55, 51, 56, 51, 57, 52, 48, 52, 49, 52, 50, 52, 51, 52, 52, 52, 53, 52, 54, 52, 55, 52, 56, 52, 57, 53, 48, 53, 49, 53, 50, 53, 51, 53, 52, 53, 53, 53, 54, 53, 55, 53, 56, 53, 57, 54, 48, 54, 49, 54, 50, 54, 51, 54, 52, 54, 53, 54, 54, 54, 55, 54, 56, 54, 57, 55, 48, 55, 49, 55, 50, 55, 51, 55, 52, 55, 53, 55, 54, 55, 55, 55, 56, 55, 57, 56, 48, 56, 49, 56, 50, 56, 51, 56, 52, 56, 53, 56, 54, 56, 55, 56, 56, 56, 57, 57, 48, 57, 49, 57, 50, 57, 51, 57, 52, 57, 53, 57, 54, 57, 55, 57, 56, 57, 57]⟩
def QfJ : ByteArray := ⟨#[0, 1, 2, 2, 3, 3, 3, 3, 4, 4, 4, 4, 4, 4, 4, 4, 5, 5, 5, 5, 5, 5, 5, 5, 5, 5, 5, 5, 5, 5, 5, 5, 6, 6, 6, 6, 6, 6, 6, 6, 6, 6, 6, 6, 6, 6, 6, 6, 6, 6, 6, 6, 6, 6, 6, 6, 6, 6, 6, 6, 6, 6, 6, 6, 7, 7, 7, 7, 7, 7, 7, 7, 7, 7, 7, 7, 7, 7, 7, 7, 7, 7, 7, 7, 7, 7, 7, 7, 7, 7, 7, 7, 7, 7, 7, 7, 7, 7, 7, 7, 7, 7, 7, 7, 7, 7, 7, 7, 7, 7, 7, 7, 7, 7, 7, 7, 7, 7, 7, 7, 7, 7, 7, 7, 7, 7, 7, 7, 8, 8, 8, 8, 8, 8, 8, 8, 8, 8, 8, 8, 8, 8, 8, 8, 8, 8, 8, 8, 8, 8, 8, 8, 8, 8, 8, 8, 8, 8, 8, 8, 8, 8, 8, 8, 8, 8, 8, 8, 8, 8, 8, 8, 8, 8, 8, 8, 8, 8, 8, 8, 8, 8, 8, 8, 8, 8, 8, 8, 8, 8, 8, 8, 8, 8, 8, 8, 8, 8, 8, 8, 8, 8, 8, 8, 8, 8, 8, 8, 8, 8, 8, 8, 8, 8, 8, 8, 8, 8, 8, 8, 8, 8, 8, 8, 8, 8, 8, 8, 8, 8, 8, 8, 8, 8, 8, 8, 8, 8, 8, 8, 8, 8, 8, 8, 8, 8, 8, 8, 8, 8, 8, 8, 8, 8, 8, 8]⟩
def QmY : ByteArray := ⟨#[65]⟩
def QmZ : ByteArray := ⟨#[66]⟩
def Qm1 : ByteArray := ⟨#[118]⟩
def Qm0 : ByteArray := ⟨#[111]⟩
end Go.Proofs.YtoogjnlmicgfiaaGreatDoor
namespace Go.Proofs.YtoogjnlmicgfiaaGreatDoor
set_option linter.unusedVariables false
set_option linter.unusedSectionVars false
set_option linter.unusedSimpArgs false
noncomputable def Qhr (now : Int) : Option Bool := some ((geI now 0) && (leI now 4096))
noncomputable def Qa6 (s0 : List Qaa) (v : Qaa) (v1 : Int) : Option ((Int) ⊕ ((Unit) ⊕ (Int))) := br (ltI v1 (lenI s0)) (bnd (getI s0 v1) fun x0 => br (eqI v.order x0.order && (eqB v.drop x0.drop && true)) (some (.inr (.inr v1))) (some (.inl (addK .i64 v1 1)))) (some (.inr (.inl ())))
noncomputable def Qbf (s0 : List Qaa) (v : Qaa) : Option Int := bnd (loopF (fun s => Qa6 s0 v s) 0) (fun e => sel e (fun (_ : Unit) => some (-1)) (fun r => some r))
noncomputable def QeX (l : List Qaa) (v : Qaa) : Option Int := bnd (Qbf l v) fun r => some r
noncomputable def Qdp (l : List Qaa) (v : Int) : Option ((Int) ⊕ ((Unit) ⊕ (Bool))) := br (ltI v (lenI l)) (bnd (getI l v) fun x0 => bnd (slcI l 0 v) fun l1 => bnd (QeX l1 x0) fun r => br (geI r 0) (some (.inr (.inr true))) (some (.inl (addK .i64 v 1)))) (some (.inr (.inl ())))
noncomputable def Qgr (l : List Qaa) : Option Bool := bnd (loopF (fun s => Qdp l s) 0) (fun e => sel e (fun (_ : Unit) => some false) (fun r1 => some r1))
noncomputable def Qht (l : List Qap) (at_ : Int) : Option Bool := some ((geI at_ 0) && (ltI at_ (lenI l)))
noncomputable def Qd0 (l : List Qap) (at_ : Int) (l1 : List Qaa) : Option (List Qaa) := bnd (getI l at_) fun x1 => br (geI x1.drop.place 0) (chk (okN (l1 ++ [(Qaa.mk at_ true)]).length 16) (some (l1 ++ [(Qaa.mk at_ true)]))) (some l1)
noncomputable def Qh2 (l : List Qap) (at_ : Int) : Option (List Qaa) := bnd (Qht l at_) fun r => br r (bnd (getI l at_) fun x0 => br (geI x0.pick.place 0) (chk (okN [(Qaa.mk at_ false)].length 16) (Qd0 l at_ [(Qaa.mk at_ false)])) (Qd0 l at_ [])) (some [])
noncomputable def QbC (s0 : List Qaa) (v : Qaa) : Option Bool := bnd (Qbf s0 v) fun r => some (geI r 0)
noncomputable def Qde (x0 : Qad) (l : List Qaa) (v : Int) (r : List Qaa) (last_ : Int) (v1 : Int) : Option ((Int × Int) ⊕ ((Unit) ⊕ (Bool))) := br (ltI v1 (lenI r)) (bnd (getI r v1) fun x2 => bnd (QeX l x2) fun r2 => br (leI r2 last_) (some (.inr (.inr false))) (some (.inl (r2, (addK .i64 v1 1))))) (some (.inr (.inl ())))
noncomputable def Qdd (x0 : Qad) (l : List Qaa) (v : Int) : Option ((Int) ⊕ ((Unit) ⊕ (Bool))) := br (ltI v (lenI l)) (bnd (getI l v) fun x1 => bnd (Qh2 x0.orders x1.order) fun r => bnd (QbC r x1) fun r1 => br r1 (bnd (loopF (fun s => Qde x0 l v r s.1 s.2) ((-1), 0)) (fun e => sel e (fun (_ : Unit) => some (.inl (addK .i64 v 1))) (fun r3 => some (.inr (.inr r3))))) (some (.inr (.inr false)))) (some (.inr (.inl ())))
noncomputable def QfY (x0 : Qad) (l : List Qaa) : Option Bool := bnd (loopF (fun s => Qdd x0 l s) 0) (fun e => sel e (fun (_ : Unit) => some true) (fun r4 => some r4))
noncomputable def Qgq (v : Qaa) (c : Int) : Option Bool := some (eqI v.order c)
noncomputable def QaK (s0 : List Qaa) (c : Int) (v : Int) : Option ((Int) ⊕ ((Unit) ⊕ (Int))) := br (ltI v (lenI s0)) (bnd (getI s0 v) fun x0 => bnd (Qgq x0 c) fun r => br r (some (.inr (.inr v))) (some (.inl (addK .i64 v 1)))) (some (.inr (.inl ())))
noncomputable def Qa9 (s0 : List Qaa) (c : Int) : Option Int := bnd (loopF (fun s => QaK s0 c s) 0) (fun e => sel e (fun (_ : Unit) => some (-1)) (fun r1 => some r1))
noncomputable def Qa0 (s0 : List Qaa) (c : Int) : Option Bool := bnd (Qa9 s0 c) fun r => some (geI r 0)
noncomputable def QdR (l : List Qaa) (o : Int) : Option Bool := bnd (Qa0 l o) fun r => some r
noncomputable def Qep (v : Qaa) (c : Int) : Option Bool := some (eqI v.order c)
noncomputable def QaE (s0 : List Qaa) (c : Int) (v : Int) : Option ((Int) ⊕ ((Unit) ⊕ (Int))) := br (ltI v (lenI s0)) (bnd (getI s0 v) fun x0 => bnd (Qep x0 c) fun r => br r (some (.inr (.inr v))) (some (.inl (addK .i64 v 1)))) (some (.inr (.inl ())))
noncomputable def Qa1 (s0 : List Qaa) (c : Int) : Option Int := bnd (loopF (fun s => QaE s0 c s) 0) (fun e => sel e (fun (_ : Unit) => some (-1)) (fun r1 => some r1))
noncomputable def QfX (l : List Qaa) (a : Int) (b : Int) : Option Bool := bnd (Qa1 l b) fun r => br (ltI r 0) (some true) (bnd (QdR l a) fun r1 => br r1 (bnd (slcI l r (lenI l)) fun l1 => bnd (QdR l1 a) fun r2 => some (!r2)) (some false))
noncomputable def Qfh (v : Qaa) (c : Qad) : Option Bool := some ((ltI v.order 0) || (geI v.order (lenI c.orders)))
noncomputable def QaF (s0 : List Qaa) (c : Qad) (v : Int) : Option ((Int) ⊕ ((Unit) ⊕ (Int))) := br (ltI v (lenI s0)) (bnd (getI s0 v) fun x0 => bnd (Qfh x0 c) fun r => br r (some (.inr (.inr v))) (some (.inl (addK .i64 v 1)))) (some (.inr (.inl ())))
noncomputable def Qa3 (s0 : List Qaa) (c : Qad) : Option Int := bnd (loopF (fun s => QaF s0 c s) 0) (fun e => sel e (fun (_ : Unit) => some (-1)) (fun r1 => some r1))
noncomputable def QaT (s0 : List Qaa) (c : Qad) : Option Bool := bnd (Qa3 s0 c) fun r => some (geI r 0)
noncomputable def Qfi (v : Qaa) (c : Qad) : Option Bool := bnd (getI c.orders v.order) fun x0 => some x0.off
noncomputable def QaG (s0 : List Qaa) (c : Qad) (v : Int) : Option ((Int) ⊕ ((Unit) ⊕ (Int))) := br (ltI v (lenI s0)) (bnd (getI s0 v) fun x0 => bnd (Qfi x0 c) fun r => br r (some (.inr (.inr v))) (some (.inl (addK .i64 v 1)))) (some (.inr (.inl ())))
noncomputable def Qa4 (s0 : List Qaa) (c : Qad) : Option Int := bnd (loopF (fun s => QaG s0 c s) 0) (fun e => sel e (fun (_ : Unit) => some (-1)) (fun r1 => some r1))
noncomputable def QaU (s0 : List Qaa) (c : Qad) : Option Bool := bnd (Qa4 s0 c) fun r => some (geI r 0)
noncomputable def Qdm (x0 : Qad) (r : Qab) (v : Int) : Option ((Int) ⊕ ((Unit) ⊕ (Int))) := br (ltI v (lenI x0.apart)) (bnd (getI x0.apart v) fun x1 => bnd (QdR r.visits x1.x0) fun r5 => br r5 (bnd (QdR r.visits x1.x1) fun r6 => br r6 (some (.inr (.inr 20))) (some (.inl (addK .i64 v 1)))) (some (.inl (addK .i64 v 1)))) (some (.inr (.inl ())))
noncomputable def QcK (x0 : Qad) (r : Qab) (v1 : Int) : Option ((Int) ⊕ ((Unit) ⊕ (Int))) := br (ltI v1 (lenI x0.before)) (bnd (getI x0.before v1) fun x2 => bnd (QfX r.visits x2.x0 x2.x1) fun r7 => br r7 (some (.inl (addK .i64 v1 1))) (some (.inr (.inr 21)))) (some (.inr (.inl ())))
noncomputable def QeW (x0 : Qad) (r : Qab) : Option Int := br (eqI (lenI r.visits) 0) (some 2) (bnd (QaT r.visits x0) fun r1 => br r1 (some 2) (bnd (QaU r.visits x0) fun r2 => br r2 (some 9) (bnd (Qgr r.visits) fun r3 => br r3 (some 6) (bnd (QfY x0 r.visits) fun r4 => br r4 (bnd (loopF (fun s => Qdm x0 r s) 0) (fun e => sel e (fun (_ : Unit) => bnd (loopF (fun s => QcK x0 r s) 0) (fun e => sel e (fun (_ : Unit) => some 0) (fun r8 => some r8))) (fun r9 => some r9))) (some 19)))))
noncomputable def Qjw (t : Qan) (skills : Int) : Option Bool := some (((geI t.skills 0) && (geI skills 0)) && (eqI (Qmc .i64 skills t.skills) 0))
noncomputable def QfF (x0 : Qad) (r : Qab) (v : Int) : Option ((Int) ⊕ ((Unit) ⊕ (Int))) := br (ltI v (lenI r.visits)) (bnd (getI r.visits v) fun x1 => bnd (getI x0.types r.type_) fun x2 => bnd (getI x0.orders x1.order) fun x3 => bnd (Qjw x2 x3.skills) fun r1 => br r1 (some (.inl (addK .i64 v 1))) (some (.inr (.inr 18)))) (some (.inr (.inl ())))
noncomputable def QjK (x0 : Qad) (r : Qab) : Option Int := bnd (loopF (fun s => QfF x0 r s) 0) (fun e => sel e (fun (_ : Unit) => some 0) (fun r2 => some r2))
noncomputable def Qdc (r : Qab) (set_ : Int) (v : Int) : Option ((Int × Int) ⊕ ((Int) ⊕ (Int × Int))) := br (ltI v (lenI r.visits)) (bnd (getI r.visits v) fun x0 => br ((ltI x0.order 0) || (gtI x0.order 62)) (some (.inr (.inr (0, 2)))) (chk ((0 : Int) ≤ x0.order) (some (.inl ((orK .i64 set_ (shlK .i64 1 x0.order)), (addK .i64 v 1)))))) (some (.inr (.inl set_)))
noncomputable def QfW (r : Qab) : Option (Int × Int) := bnd (loopF (fun s => Qdc r s.1 s.2) (0, 0)) (fun e => sel e (fun set_1 => some (set_1, 0)) (fun r1 => some r1))
noncomputable def QjD (a : Int) (b : Int) : Option Int := some (addK .i64 a b)
noncomputable def QcA (a : List Int) (b : List Int) (l : List Int) (l1 : List Int) (v : Int) : Option ((List Int × Int) ⊕ (List Int)) := br (ltI v (lenI a)) (bnd (getI a v) fun x0 => bnd (getI b v) fun x1 => bnd (QjD x0 x1) fun r => bnd (getI l1 v) fun x2 => some (.inl ((setI l1 v r), (addK .i64 v 1)))) (some (.inr l1))
noncomputable def QdP (a : List Int) (b : List Int) : Option (List Int × Int) := br (neI (lenI a) (lenI b)) (some ([], 2)) (bnd (mkI (lenI a) (lenI a) 8 0) fun l => bnd (loopF (fun s => QcA a b l s.1 s.2) (l, 0)) (fun l2 => some (l2, 0)))
noncomputable def Qji (a : List Int) (b : List Int) : Option (List Int × Int) := bnd (QdP a b) fun r => some (r.1, r.2)
noncomputable def Qlj (set_ : Int) (i : Int) : Option Bool := br ((geI i 0) && (leI i 62)) (chk ((0 : Int) ≤ i) (some (eqI (andK .i64 (shrK .i64 set_ i) 1) 1))) (some false)
noncomputable def Qd1 (set_ : Int) (l : List Int) (v : Int) : Option ((List Int × Int) ⊕ (List Int)) := br (ltI v 63) (bnd (Qlj set_ v) fun r => br r (chk (okN (l ++ [v]).length 8) (some (.inl ((l ++ [v]), (addK .i64 v 1))))) (some (.inl (l, (addK .i64 v 1))))) (some (.inr l))
noncomputable def Qh7 (set_ : Int) : Option (List Int) := bnd (loopF (fun s => Qd1 set_ s.1 s.2) ([], 0)) (fun l1 => some l1)
noncomputable def QeP (x0 : Qad) (l : List Int) (r : List Int) (sum : List Int) (v : Int) : Option ((List Int × Int) ⊕ (List Int)) := br (ltI v (lenI r)) (bnd (getI r v) fun x1 => bnd (getI x0.orders x1) fun x2 => br (ltI x2.pick.place 0) (bnd (Qji sum x2.load) fun r1 => some (.inl (r1.1, (addK .i64 v 1)))) (some (.inl (sum, (addK .i64 v 1))))) (some (.inr sum))
noncomputable def Qix (x0 : Qad) (set_ : Int) (dims : Int) : Option (List Int) := bnd (mkI dims dims 8 0) fun l => bnd (Qh7 set_) fun r => bnd (loopF (fun s => QeP x0 l r s.1 s.2) (l, 0)) (fun sum1 => some sum1)
noncomputable def Qjx (l : List Qan) : Option Int := br (eqI (lenI l) 0) (some 0) (bnd (getI l 0) fun x0 => some (lenI x0.cap))
noncomputable def QiH (a : Int) (b : Int) : Option Int := some (subK .i64 a b)
noncomputable def Qcv (a : List Int) (b : List Int) (l : List Int) (l1 : List Int) (v : Int) : Option ((List Int × Int) ⊕ (List Int)) := br (ltI v (lenI a)) (bnd (getI a v) fun x0 => bnd (getI b v) fun x1 => bnd (QiH x0 x1) fun r => bnd (getI l1 v) fun x2 => some (.inl ((setI l1 v r), (addK .i64 v 1)))) (some (.inr l1))
noncomputable def Qdy (a : List Int) (b : List Int) : Option (List Int × Int) := br (neI (lenI a) (lenI b)) (some ([], 2)) (bnd (mkI (lenI a) (lenI a) 8 0) fun l => bnd (loopF (fun s => Qcv a b l s.1 s.2) (l, 0)) (fun l2 => some (l2, 0)))
noncomputable def Qkn (a : List Int) (b : List Int) : Option (List Int × Int) := bnd (Qdy a b) fun r => some (r.1, r.2)
noncomputable def QeO (x0 : Qad) (r : Qab) (l : List (List Int)) (now : List Int) (v : Int) : Option ((List (List Int) × List Int × Int) ⊕ ((List (List Int)) ⊕ (List (List Int) × Int))) := br (ltI v (lenI r.visits)) (bnd (getI r.visits v) fun x1 => br x1.drop (bnd (getI x0.orders x1.order) fun x2 => bnd (Qkn now x2.load) fun r5 => br (neI r5.2 0) (some (.inr (.inr ([], r5.2)))) (chk (okN (l ++ [r5.1]).length 24) (some (.inl ((l ++ [r5.1]), r5.1, (addK .i64 v 1)))))) (bnd (getI x0.orders x1.order) fun x3 => bnd (Qji now x3.load) fun r6 => br (neI r6.2 0) (some (.inr (.inr ([], r6.2)))) (chk (okN (l ++ [r6.1]).length 24) (some (.inl ((l ++ [r6.1]), r6.1, (addK .i64 v 1))))))) (some (.inr (.inl l)))
noncomputable def Qiw (x0 : Qad) (r : Qab) : Option (List (List Int) × Int) := bnd (QeW x0 r) fun r1 => br (neI r1 0) (some ([], r1)) (bnd (QfW r) fun r2 => br (neI r2.2 0) (some ([], r2.2)) (bnd (Qjx x0.types) fun r3 => bnd (Qix x0 r2.1 r3) fun r4 => bnd (loopF (fun s => QeO x0 r s.1 s.2.1 s.2.2) ([r4], r4, 0)) (fun e => sel e (fun l1 => some (l1, 0)) (fun r7 => some r7))))
noncomputable def Qfy (a : List Int) (capacity : List Int) (v : Int) : Option ((Int) ⊕ ((Unit) ⊕ (Bool))) := br (ltI v (lenI a)) (bnd (getI a v) fun x0 => bnd (getI capacity v) fun x1 => br (gtI x0 x1) (some (.inr (.inr false))) (some (.inl (addK .i64 v 1)))) (some (.inr (.inl ())))
noncomputable def Qjz (a : List Int) (capacity : List Int) : Option Bool := br (neI (lenI a) (lenI capacity)) (some false) (bnd (loopF (fun s => Qfy a capacity s) 0) (fun e => sel e (fun (_ : Unit) => some true) (fun r => some r)))
noncomputable def QhT (a : List Int) (c : Qad) (c1 : Qab) : Option Bool := bnd (getI c.types c1.type_) fun x0 => bnd (Qjz a x0.cap) fun r => some (!r)
noncomputable def QaS (s0 : List (List Int)) (c : Qad) (c1 : Qab) (v : Int) : Option ((Int) ⊕ ((Unit) ⊕ (Int))) := br (ltI v (lenI s0)) (bnd (getI s0 v) fun x0 => bnd (QhT x0 c c1) fun r => br r (some (.inr (.inr v))) (some (.inl (addK .i64 v 1)))) (some (.inr (.inl ())))
noncomputable def QbD (s0 : List (List Int)) (c : Qad) (c1 : Qab) : Option Int := bnd (loopF (fun s => QaS s0 c c1 s) 0) (fun e => sel e (fun (_ : Unit) => some (-1)) (fun r1 => some r1))
noncomputable def Qbm (s0 : List (List Int)) (c : Qad) (c1 : Qab) : Option Bool := bnd (QbD s0 c c1) fun r => some (geI r 0)
noncomputable def Qjm (x0 : Qad) (r : Qab) : Option Int := br ((ltI r.type_ 0) || (geI r.type_ (lenI x0.types))) (some 2) (bnd (Qiw x0 r) fun r1 => br (neI r1.2 0) (some r1.2) (bnd (Qbm r1.1 x0 r) fun r2 => br r2 (some 17) (some 0)))
noncomputable def QfC (x1 : Qam) : Option (Qam × Int) := br (ltI x1.place 0) (some ((Qam.mk 0 0 0 0), 19)) (some (x1, 0))
noncomputable def Qil (l : List Qap) (v : Qaa) : Option (Qam × Int) := bnd (Qht l v.order) fun r => br r (bnd (getI l v.order) fun x0 => br v.drop (QfC x0.drop) (QfC x0.pick)) (some ((Qam.mk 0 0 0 0), 2))
noncomputable def Qfv (x0 : Qad) (r : Qab) (x1 : Qan) (l : List Qam) (v : Int) : Option ((List Qam × Int) ⊕ ((List Qam) ⊕ (Qal × Bool))) := br (ltI v (lenI r.visits)) (bnd (getI r.visits v) fun x2 => bnd (Qil x0.orders x2) fun r1 => br ((neI r1.2 0) || (ltI r1.1.place 0)) (some (.inr (.inr ((Qal.mk (Qad.mk (Qar.mk [] []) [] [] [] []) (Qan.mk ByteArray.empty 0 0 0 [] 0 0 0 0 0 0 0 0 0) (Qab.mk 0 0 [] []) []), false)))) (chk (okN (l ++ [r1.1]).length 32) (some (.inl ((l ++ [r1.1]), (addK .i64 v 1)))))) (some (.inr (.inl l)))
noncomputable def Qjq (x0 : Qad) (r : Qab) : Option (Qal × Bool) := br (((((ltI r.type_ 0) || (geI r.type_ (lenI x0.types))) || (ltI r.start 0)) || (gtI r.start 4096)) || (gtI (lenI r.visits) 20)) (some ((Qal.mk (Qad.mk (Qar.mk [] []) [] [] [] []) (Qan.mk ByteArray.empty 0 0 0 [] 0 0 0 0 0 0 0 0 0) (Qab.mk 0 0 [] []) []), false)) (bnd (getI x0.types r.type_) fun x1 => bnd (loopF (fun s => Qfv x0 r x1 s.1 s.2) ([], 0)) (fun e => sel e (fun l1 => some ((Qal.mk x0 x1 r l1), true)) (fun r2 => some r2)))
noncomputable def Qdw (p : Qal) : Option Qac := some (Qac.mk (maxI p.t.open_ p.r.start) 0 (Qag.mk false 0 [] 0 0))
noncomputable def QfB (n : Qar) (i : Int) : Option Bool := some ((geI i 0) && (ltI i (lenI n.places)))
noncomputable def Qhb (a : Qaw) : Option Qdt := some (Qdt.mk a.from_ a.to_ a.profile)
noncomputable def QdZ (n : Qar) (profile : Int) (from_ : Int) (to_ : Int) (v : Int) : Option ((Int) ⊕ ((Unit) ⊕ (Qaw × Bool))) := br (ltI v (lenI n.arcs)) (bnd (getI n.arcs v) fun x0 => bnd (Qhb x0) fun r => br (eqI r.from_ from_ && (eqI r.to_ to_ && (eqI r.profile profile && true))) (some (.inr (.inr (x0, true)))) (some (.inl (addK .i64 v 1)))) (some (.inr (.inl ())))
noncomputable def Qh1 (n : Qar) (profile : Int) (from_ : Int) (to_ : Int) : Option (Qaw × Bool) := bnd (loopF (fun s => QdZ n profile from_ to_ s) 0) (fun e => sel e (fun (_ : Unit) => some ((Qaw.mk 0 0 0 0 [] []), false)) (fun r1 => some r1))
noncomputable def QfR (n : Int) (least : Int) (most : Int) : Option Bool := some ((geI n least) && (leI n most))
noncomputable def Qhl (i : Int) : Option ByteArray := br (ltI i 10) (bnd (slcS QfI i (addK .i64 i 1)) fun s0 => some (QfI.extract (i : Int).toNat ((addK .i64 i 1) : Int).toNat)) (bnd (slcS QfH (mulK .i64 i 2) (addK .i64 (mulK .i64 i 2) 2)) fun s1 => some (QfH.extract ((mulK .i64 i 2) : Int).toNat ((addK .i64 (mulK .i64 i 2) 2) : Int).toNat))
noncomputable def Qjc (x0 : Int) : Option Int := some (shrK .i64 (mulK .i64 x0 78913) 18)
noncomputable def QiX (x2 : Int) (n1 : Int) : Option Int := br (geI x2 256) (bnd (getS QfJ (cvK .u8 (shrK .u64 x2 8))) fun b => some (addK .i64 (addK .i64 n1 8) (cvK .i64 (byteI b)))) (bnd (getS QfJ (cvK .u8 x2)) fun b1 => some (addK .i64 n1 (cvK .i64 (byteI b1))))
noncomputable def QiW (x1 : Int) (n : Int) : Option Int := br (geI x1 65536) (QiX (shrK .u64 x1 16) (addK .i64 n 16)) (QiX x1 n)
noncomputable def Qme (x0 : Int) : Option Int := br (geI x0 4294967296) (QiW (shrK .u64 x0 32) 32) (QiW x0 0)
noncomputable def Qjd (d : Int) : Option Int := bnd (Qme d) fun r => bnd (Qjc r) fun r1 => none
noncomputable def QcG (i : Int) (u : Int) : Option ByteArray := bnd (Qjd u) fun r1 => none
noncomputable def Qer (i : Int) (base : Int) : Option ByteArray := br (eqI base 10) (br ((leI 0 i) && (ltI i 100)) (bnd (Qhl i) fun r => some r) (br (ltI i 0) (QcG i (subK .u64 0 (cvK .u64 i))) (QcG i (cvK .u64 i)))) (none)
noncomputable def Qia (i : Int) : Option ByteArray := bnd (Qer i 10) fun r => some r
noncomputable def Qgs (i : Int) : Option ByteArray := bnd (Qia i) fun r => some r
noncomputable def Qd3 (l : List Qah) (v : Int) (x0 : Qah) (r : ByteArray) (l3 : List Qak) : Option ((List Qak × Int) ⊕ (List Qak)) := br (gtI v 0) (bnd (getI l (subK .i64 v 1)) fun x1 => br (leI x0.t x1.t) (chk (okN (l3 ++ [(Qak.mk 13 r)]).length 24) (some (.inl ((l3 ++ [(Qak.mk 13 r)]), (addK .i64 v 1))))) (br (ltI x0.a x1.a) (chk (okN (l3 ++ [(Qak.mk 13 r)]).length 24) (some (.inl ((l3 ++ [(Qak.mk 13 r)]), (addK .i64 v 1))))) (some (.inl (l3, (addK .i64 v 1)))))) (some (.inl (l3, (addK .i64 v 1))))
noncomputable def Qd4 (l : List Qah) (l2 : List Qak) (v : Int) : Option ((List Qak × Int) ⊕ (List Qak)) := br (ltI v (lenI l)) (bnd (getI l v) fun x0 => bnd (Qgs v) fun r => bnd (QfR x0.t 0 4096) fun r1 => br (((!r1) || (ltI x0.a x0.t)) || (gtI x0.a (addK .i64 x0.t 4096))) (chk (okN (l2 ++ [(Qak.mk 2 r)]).length 24) (Qd3 l v x0 r (l2 ++ [(Qak.mk 2 r)]))) (Qd3 l v x0 r l2)) (some (.inr l2))
noncomputable def Qd2 (l : List Qah) (l1 : List Qak) : Option (List Qak) := bnd (loopF (fun s => Qd4 l s.1 s.2) (l1, 0)) (fun l4 => some l4)
noncomputable def Qib (l : List Qah) : Option (List Qak) := br ((eqI (lenI l) 0) || (gtI (lenI l) 16)) (chk (okN [(Qak.mk 4 ByteArray.empty)].length 24) (Qd2 l [(Qak.mk 4 ByteArray.empty)])) (Qd2 l [])
noncomputable def Qic (l : List Qah) : Option Bool := bnd (Qib l) fun r => some (eqI (lenI r) 0)
noncomputable def Qdj (p : Qah) (t : Int) : Option Int := some (subK .i64 p.t t)
noncomputable def Qau (x0 : List Qah) (target : Int) (i : Int) (j : Int) : Option ((Int × Int) ⊕ (Int)) := br (ltI i j) (bnd (getI x0 (cvK .i64 (shrK .u64 (cvK .u64 (addK .i64 i j)) 1))) fun x1 => bnd (Qdj x1 target) fun r => br (ltI r 0) (some (.inl ((addK .i64 (cvK .i64 (shrK .u64 (cvK .u64 (addK .i64 i j)) 1)) 1), j))) (some (.inl (i, (cvK .i64 (shrK .u64 (cvK .u64 (addK .i64 i j)) 1)))))) (some (.inr i))
noncomputable def QaJ (x0 : List Qah) (target : Int) : Option (Int × Bool) := bnd (loopF (fun s => Qau x0 target s.1 s.2) (0, (lenI x0))) (fun i1 => br (ltI i1 (lenI x0)) (bnd (getI x0 i1) fun x2 => bnd (Qdj x2 target) fun r1 => some (i1, (eqI r1 0))) (some (i1, false)))
noncomputable def Qhn (l : List Qah) (t : Int) : Option Int := bnd (QaJ l t) fun r => br r.2 (bnd (getI l r.1) fun x0 => some x0.a) (br (eqI r.1 0) (bnd (getI l 0) fun x1 => some (subK .i64 (addK .i64 t x1.a) x1.t)) (br (eqI r.1 (lenI l)) (bnd (getI l (subK .i64 r.1 1)) fun x2 => some (subK .i64 (addK .i64 t x2.a) x2.t)) (bnd (getI l (subK .i64 r.1 1)) fun x3 => bnd (getI l r.1) fun x4 => chk (((subK .i64 x4.t x3.t) : Int) ≠ 0) (some (addK .i64 x3.a (quoK .i64 (subK .i64 (addK .i64 (mulK .i64 (subK .i64 t x3.t) (subK .i64 x4.a x3.a)) (subK .i64 x4.t x3.t)) 1) (subK .i64 x4.t x3.t)))))))
noncomputable def Qhm (l : List Qah) (t : Int) : Option Int := bnd (QfR t 0 1073741824) fun r => br r (bnd (Qic l) fun r1 => br r1 (bnd (Qhn l t) fun r2 => some r2) (some 0)) (some 0)
noncomputable def Qda (a : Qaw) (t : Int) (out : Int) (v : Int) : Option ((Int × Int) ⊕ (Int)) := br (ltI v (lenI a.slow)) (bnd (getI a.slow v) fun x0 => br (leI x0.t t) (some (.inl ((addK .i64 out x0.a), (addK .i64 v 1)))) (some (.inl (out, (addK .i64 v 1))))) (some (.inr out))
noncomputable def QfV (a : Qaw) (t : Int) : Option Int := bnd (Qhm a.travel t) fun r => bnd (loopF (fun s => Qda a t s.1 s.2) (r, 0)) (fun out1 => some out1)
noncomputable def QjE (n : Qar) (profile : Int) (from_ : Int) (to_ : Int) (t : Int) : Option (Int × Int × Int) := bnd (QfB n from_) fun r => br r (bnd (QfB n to_) fun r1 => br r1 (br (eqI from_ to_) (some (t, 0, 0)) (bnd (Qh1 n profile from_ to_) fun r2 => br r2.2 (bnd (QfV r2.1 t) fun r3 => some (r3, r2.1.miles, 0)) (some (0, 0, 12)))) (some (0, 0, 11))) (some (0, 0, 11))
noncomputable def Qe8 (p : Qal) (visits : Int) : Option Int := br (eqI visits 0) (some p.t.from_) (bnd (getI p.stops (subK .i64 visits 1)) fun x0 => some x0.place)
noncomputable def Qie (s0 : Qam) (arrive : Int) : Option (Int × Int) := br (gtI (maxI arrive s0.open_) s0.close) (some (0, 14)) (some ((maxI arrive s0.open_), 0))
noncomputable def QbG (s0 : List Qai) : Option (List Qai) := br (List.isEmpty s0) (amb (some []) (chk (okN s0.length 32) (some s0))) (chk (okN s0.length 32) (some s0))
noncomputable def Qc8 (p : Qal) (l : Qac) (depart : Int) (since : Int) (rest_1 : Bool) (depart1 : Int) (r2 : Int × Int × Int) (l2 : List Qai) (ready : Int) (end_ : Int) : Option (Qac × Int) := br (gtI (subK .i64 (addK .i64 since r2.1) depart) p.t.drive) (some ((Qac.mk 0 0 (Qag.mk false 0 [] 0 0)), 16)) (some ((Qac.mk ready (subK .i64 (addK .i64 since r2.1) depart) (Qag.mk rest_1 depart1 l2 end_ (addK .i64 l.sheet.miles r2.2.1))), 0))
noncomputable def Qc7 (p : Qal) (l : Qac) (done : Int) (depart : Int) (since : Int) (l1 : List Qai) (rest_1 : Bool) (depart1 : Int) (to_ : Int) : Option (Qac × Int) := bnd (Qe8 p done) fun r1 => bnd (QjE p.x.net p.t.profile r1 to_ depart) fun r2 => br (neI r2.2.2 0) (some ((Qac.mk 0 0 (Qag.mk false 0 [] 0 0)), 12)) (br (eqI done (lenI p.stops)) (br (gtI r2.1 p.t.close) (some ((Qac.mk 0 0 (Qag.mk false 0 [] 0 0)), 15)) (Qc8 p l depart since rest_1 depart1 r2 l1 r2.1 r2.1)) (bnd (getI p.stops done) fun x2 => bnd (Qie x2 r2.1) fun r3 => br (neI r3.2 0) (some ((Qac.mk 0 0 (Qag.mk false 0 [] 0 0)), 14)) (chk (okN (l1 ++ [(Qai.mk r2.1 r3.1 0 false)]).length 32) (Qc8 p l depart since rest_1 depart1 r2 (l1 ++ [(Qai.mk r2.1 r3.1 0 false)]) (addK .i64 r3.1 x2.service) l.sheet.end_))))
noncomputable def Qc6 (p : Qal) (l : Qac) (done : Int) (depart : Int) (since : Int) (l1 : List Qai) (rest_1 : Bool) (depart1 : Int) : Option (Qac × Int) := br (eqI done (lenI p.stops)) (Qc7 p l done depart since l1 rest_1 depart1 p.t.to_) (bnd (getI p.stops done) fun x1 => Qc7 p l done depart since l1 rest_1 depart1 x1.place)
noncomputable def Qc5 (p : Qal) (l : Qac) (done : Int) (rest_ : Bool) (depart : Int) (since : Int) : Option (Qac × Int) := bnd (QbG l.sheet.times) fun r => br (eqI done 0) (Qc6 p l done depart since r rest_ depart) (bnd (getI r (subK .i64 done 1)) fun x0 => Qc6 p l done depart since (setI (setI r (subK .i64 done 1) (Qai.mk x0.arrive x0.begin x0.depart rest_)) (subK .i64 done 1) (Qai.mk x0.arrive x0.begin depart rest_)) l.sheet.rest_ l.sheet.depart)
noncomputable def QdY (p : Qal) (l : Qac) (done : Int) (rest_ : Bool) : Option (Qac × Int) := br rest_ (Qc5 p l done rest_ (addK .i64 l.ready p.t.rest_) 0) (Qc5 p l done rest_ l.ready l.since)
noncomputable def Qel (l : Qac) (m : Qac) : Option Bool := some ((eqI l.ready m.ready) && (leI l.since m.since))
noncomputable def Qem (m : Qac) (c : Qac) : Option Bool := bnd (Qel m c) fun r => some r
noncomputable def QaB (s0 : List Qac) (c : Qac) (v : Int) : Option ((Int) ⊕ ((Unit) ⊕ (Int))) := br (ltI v (lenI s0)) (bnd (getI s0 v) fun x0 => bnd (Qem x0 c) fun r => br r (some (.inr (.inr v))) (some (.inl (addK .i64 v 1)))) (some (.inr (.inl ())))
noncomputable def QaV (s0 : List Qac) (c : Qac) : Option Int := bnd (loopF (fun s => QaB s0 c s) 0) (fun e => sel e (fun (_ : Unit) => some (-1)) (fun r1 => some r1))
noncomputable def QaP (s0 : List Qac) (c : Qac) : Option Bool := bnd (QaV s0 c) fun r => some (geI r 0)
noncomputable def Qc4 (p : Qal) (l : List Qac) (done : Int) (choices : List Bool) (v : Int) (x0 : Qac) (l3 : List Qac) (v1 : Int) : Option ((List Qac × Int) ⊕ (List Qac)) := br (ltI v1 (lenI choices)) (bnd (getI choices v1) fun x1 => bnd (QdY p x0 done x1) fun r => br (eqI r.2 0) (bnd (QaP l3 r.1) fun r1 => br r1 (some (.inl (l3, (addK .i64 v1 1)))) (chk (okN (l3 ++ [r.1]).length 72) (some (.inl ((l3 ++ [r.1]), (addK .i64 v1 1)))))) (some (.inl (l3, (addK .i64 v1 1))))) (some (.inr l3))
noncomputable def Qc3 (p : Qal) (l : List Qac) (done : Int) (choices : List Bool) (l2 : List Qac) (v : Int) : Option ((List Qac × Int) ⊕ (List Qac)) := br (ltI v (lenI l)) (bnd (getI l v) fun x0 => bnd (loopF (fun s => Qc4 p l done choices v x0 s.1 s.2) (l2, 0)) (fun l4 => some (.inl (l4, (addK .i64 v 1))))) (some (.inr l2))
noncomputable def Qc2 (p : Qal) (l : List Qac) (done : Int) (choices : List Bool) : Option (List Qac) := bnd (loopF (fun s => Qc3 p l done choices s.1 s.2) ([], 0)) (fun l5 => some l5)
noncomputable def QfT (p : Qal) (l : List Qac) (done : Int) : Option (List Qac) := br (ltI done (lenI p.r.rests)) (bnd (slcI p.r.rests done (addK .i64 done 1)) fun l1 => Qc2 p l done l1) (Qc2 p l done [false, true])
noncomputable def Qdl (p : Qal) (rests : List Bool) (r : Qac) (rest_ : Int) (x0 : Qac) (v : Int) : Option ((Int × Qac × Int) ⊕ ((Qac) ⊕ (Qag × Int))) := br (ltI v (lenI rests)) (bnd (getI rests v) fun x1 => bnd (QdY (Qal.mk p.x (Qan.mk p.t.name p.t.count p.t.from_ p.t.to_ p.t.cap p.t.skills p.t.profile p.t.open_ p.t.close p.t.drive rest_ p.t.fixed p.t.perMile p.t.perTick) p.r p.stops) x0 v x1) fun r1 => br (neI r1.2 0) (some (.inr (.inr ((Qag.mk false 0 [] 0 0), r1.2)))) (some (.inl (rest_, r1.1, (addK .i64 v 1))))) (some (.inr (.inl x0)))
noncomputable def QeT (p : Qal) (rests : List Bool) : Option (Qag × Int) := bnd (Qdw p) fun r => bnd (loopF (fun s => Qdl p rests r s.1 s.2.1 s.2.2) (p.t.rest_, r, 0)) (fun e => sel e (fun x2 => some (x2.sheet, 0)) (fun r2 => some r2))
noncomputable def Qfu (r : Qab) (r1 : Qal × Bool) (l : List Qac) (v : Int) : Option ((List Qac × Int) ⊕ (List Qac)) := br (ltI v (addK .i64 (lenI r.visits) 1)) (bnd (QfT r1.1 l v) fun r3 => some (.inl (r3, (addK .i64 v 1)))) (some (.inr l))
noncomputable def Qd8 (l3 : List Qac) (x2 : Qac) (v1 : Int) : Option ((Qac × Int) ⊕ (Qac)) := br (ltI v1 (lenI l3)) (bnd (getI l3 v1) fun x3 => br (ltI x3.sheet.end_ x2.sheet.end_) (some (.inl (x3, (addK .i64 v1 1)))) (some (.inl (x2, (addK .i64 v1 1))))) (some (.inr x2))
noncomputable def Qjn (x0 : Qad) (r : Qab) : Option (Qag × Int) := bnd (Qjq x0 r) fun r1 => br ((!r1.2) || (gtI (lenI r.rests) (addK .i64 (lenI r.visits) 1))) (some ((Qag.mk false 0 [] 0 0), 2)) (bnd (Qdw r1.1) fun r2 => bnd (loopF (fun s => Qfu r r1 s.1 s.2) ([r2], 0)) (fun l1 => br (eqI (lenI l1) 0) (bnd (mkI (addK .i64 (lenI r.visits) 1) (addK .i64 (lenI r.visits) 1) 1 false) fun l2 => bnd (QeT r1.1 (cpyL l2 r.rests)) fun r4 => some (r4.1, r4.2)) (bnd (getI l1 0) fun x1 => bnd (slcI l1 1 (lenI l1)) fun l3 => bnd (loopF (fun s => Qd8 l3 s.1 s.2) (x1, 0)) (fun x4 => some (x4.sheet, 0)))))
noncomputable def QfE (kind : Int) (own : Int) : Option Bool := some ((neI kind (-1)) && (neI kind own))
noncomputable def QeU (x0 : Qad) (r : Qab) (s0 : Qag) (x1 : Qan) (l : List (Int × Int)) (other : Int) (v : Int) (x2 : Qaa) (x3 : Qap) (moved1 : Int) : Option ((List (Int × Int) × Int × Int × Int) ⊕ (Int × Int)) := bnd (QfE x3.last_ r.type_) fun r2 => br r2 (some (.inl ((mPut eqI l x2.order (addK .i64 (mGet eqI l x2.order 0) 1)), moved1, (addK .i64 other 1), (addK .i64 v 1)))) (some (.inl ((mPut eqI l x2.order (addK .i64 (mGet eqI l x2.order 0) 1)), moved1, other, (addK .i64 v 1))))
noncomputable def QeV (x0 : Qad) (r : Qab) (s0 : Qag) (x1 : Qan) (l : List (Int × Int)) (moved : Int) (other : Int) (v : Int) : Option ((List (Int × Int) × Int × Int × Int) ⊕ (Int × Int)) := br (ltI v (lenI r.visits)) (bnd (getI r.visits v) fun x2 => br ((ltI x2.order 0) || (geI x2.order (lenI x0.orders))) (some (.inl ((mPut eqI l x2.order (addK .i64 (mGet eqI l x2.order 0) 1)), moved, other, (addK .i64 v 1)))) (br (gtI (mGet eqI (mPut eqI l x2.order (addK .i64 (mGet eqI l x2.order 0) 1)) x2.order 0) 1) (some (.inl ((mPut eqI l x2.order (addK .i64 (mGet eqI l x2.order 0) 1)), moved, other, (addK .i64 v 1)))) (bnd (getI x0.orders x2.order) fun x3 => bnd (QfE x3.now r.type_) fun r1 => br r1 (QeU x0 r s0 x1 l other v x2 x3 (addK .i64 moved 1)) (QeU x0 r s0 x1 l other v x2 x3 moved)))) (some (.inr (moved, other)))
noncomputable def QiO (x0 : Qad) (r : Qab) (s0 : Qag) : Option Qa2 := br ((ltI r.type_ 0) || (geI r.type_ (lenI x0.types))) (some (Qa2.mk 0 0 0 0)) (bnd (getI x0.types r.type_) fun x1 => bnd (loopF (fun s => QeV x0 r s0 x1 s.1 s.2.1 s.2.2.1 s.2.2.2) ([], 0, 0, 0)) (fun e0 => (fun moved2 other1 => some (Qa2.mk (addK .i64 (addK .i64 x1.fixed (mulK .i64 x1.perMile s0.miles)) (mulK .i64 x1.perTick (subK .i64 s0.end_ x1.open_))) moved2 other1 (mulK .i64 (quoK .i64 (subK .i64 s0.end_ x1.open_) 64) (quoK .i64 (subK .i64 s0.end_ x1.open_) 64)))) e0.1 e0.2))
noncomputable def Qgp (x0 : Qad) (r : Qab) : Option (Qag × Qa2 × Int) := br ((ltI r.type_ 0) || (geI r.type_ (lenI x0.types))) (some ((Qag.mk false 0 [] 0 0), (Qa2.mk 0 0 0 0), 2)) (bnd (QeW x0 r) fun r1 => br (neI r1 0) (some ((Qag.mk false 0 [] 0 0), (Qa2.mk 0 0 0 0), r1)) (bnd (QjK x0 r) fun r2 => br (neI r2 0) (some ((Qag.mk false 0 [] 0 0), (Qa2.mk 0 0 0 0), r2)) (bnd (Qjm x0 r) fun r3 => br (neI r3 0) (some ((Qag.mk false 0 [] 0 0), (Qa2.mk 0 0 0 0), r3)) (bnd (Qjn x0 r) fun r4 => br (neI r4.2 0) (some ((Qag.mk false 0 [] 0 0), (Qa2.mk 0 0 0 0), r4.2)) (bnd (QiO x0 r r4.1) fun r5 => some (r4.1, r5, 0))))))
noncomputable def Qc0 (x0 : Qad) (r : Qab) (now : Int) (r1 : Qag × Qa2 × Int) (ready : Int) (k : Int) (v : Int) : Option ((Int × Int × Int) ⊕ ((Int × Int) ⊕ (Int × Bool × Qag × Int))) := br (ltI v (lenI r.visits)) (bnd (getI r.visits v) fun x2 => br (geI ready now) (some (.inr (.inr (k, false, r1.1, 0)))) (bnd (Qil x0.orders x2) fun r2 => bnd (getI r1.1.times v) fun x3 => some (.inl ((addK .i64 x3.begin r2.1.service), (addK .i64 k 1), (addK .i64 v 1))))) (some (.inr (.inl (ready, k))))
noncomputable def QdX (x0 : Qad) (r : Qab) (now : Int) : Option (Int × Bool × Qag × Int) := bnd (Qgp x0 r) fun r1 => br (neI r1.2.2 0) (some (0, false, (Qag.mk false 0 [] 0 0), r1.2.2)) (bnd (getI x0.types r.type_) fun x1 => bnd (loopF (fun s => Qc0 x0 r now r1 s.1 s.2.1 s.2.2) ((maxI x1.open_ r.start), 0, 0)) (fun e => sel e (fun e0 => (fun ready1 k1 => some (k1, ((gtI k1 0) && (ltI ready1 now)), r1.1, 0)) e0.1 e0.2) (fun r3 => some r3)))
noncomputable def Qe0 (x0 : Qad) (r : Qab) (now : Int) : Option (Int × Int) := bnd (Qhr now) fun r1 => br r1 (bnd (QdX x0 r now) fun r2 => some (r2.1, r2.2.2.2)) (some (0, 2))
noncomputable def QbK (s0 : List Qaa) : Option (List Qaa) := br (List.isEmpty s0) (amb (some []) (chk (okN s0.length 16) (some s0))) (chk (okN s0.length 16) (some s0))
noncomputable def QdV (r : Qab) (k : Int) (finished : Bool) (s0 : Qag) (l : List Qaa) (r1 : List Qaa) (l1 : List Bool) (v : Int) : Option ((List Bool × Int) ⊕ (List Bool)) := br (ltI v (lenI s0.times)) (bnd (getI s0.times v) fun x0 => chk (okN (l1 ++ [x0.rest_]).length 1) (some (.inl ((l1 ++ [x0.rest_]), (addK .i64 v 1))))) (some (.inr l1))
noncomputable def QhU (r : Qab) (k : Int) (finished : Bool) (s0 : Qag) : Option Qab := bnd (slcI r.visits 0 k) fun l => bnd (QbK l) fun r1 => bnd (loopF (fun s => QdV r k finished s0 l r1 s.1 s.2) ([s0.rest_], 0)) (fun l2 => br finished (bnd (slcI l2 0 (addK .i64 k 1)) fun l3 => some (Qab.mk r.type_ r.start l3 r1)) (bnd (slcI l2 0 k) fun l4 => some (Qab.mk r.type_ r.start l4 r1)))
noncomputable def QcZ (x0 : Qad) (p : Qax) (now : Int) (l : List Qab) (v : Int) : Option ((List Qab × Int) ⊕ ((List Qab) ⊕ (List Qab × Int))) := br (ltI v (lenI p.routes)) (bnd (getI p.routes v) fun x1 => bnd (QdX x0 x1 now) fun r1 => br (neI r1.2.2.2 0) (some (.inr (.inr ([], r1.2.2.2)))) (br (gtI r1.1 0) (bnd (QhU x1 r1.1 r1.2.1 r1.2.2.1) fun r2 => chk (okN (l ++ [r2]).length 64) (some (.inl ((l ++ [r2]), (addK .i64 v 1))))) (some (.inl (l, (addK .i64 v 1)))))) (some (.inr (.inl l)))
noncomputable def QdU (x0 : Qad) (p : Qax) (now : Int) : Option (List Qab × Int) := bnd (Qhr now) fun r => br r (bnd (loopF (fun s => QcZ x0 p now s.1 s.2) ([], 0)) (fun e => sel e (fun l1 => some (l1, 0)) (fun r3 => some r3))) (some ([], 2))
noncomputable def Qas (s1 : List Qaa) (s2 : List Qaa) (v : Int) : Option ((Int) ⊕ ((Unit) ⊕ (Bool))) := br (ltI v (lenI s1)) (bnd (getI s1 v) fun x0 => bnd (getI s2 v) fun x1 => br (eqI x0.order x1.order && (eqB x0.drop x1.drop && true)) (some (.inl (addK .i64 v 1))) (some (.inr (.inr false)))) (some (.inr (.inl ())))
noncomputable def QaR (s1 : List Qaa) (s2 : List Qaa) : Option Bool := br (neI (lenI s1) (lenI s2)) (some false) (bnd (loopF (fun s => Qas s1 s2 s) 0) (fun e => sel e (fun (_ : Unit) => some true) (fun r => some r)))
noncomputable def QbN (l : List Qaa) (first_ : List Qaa) : Option Bool := br (geI (lenI l) (lenI first_)) (bnd (slcI l 0 (lenI first_)) fun l1 => bnd (QaR l1 first_) fun r => some r) (some false)
noncomputable def QaC (s1 : List Bool) (s2 : List Bool) (v : Int) : Option ((Int) ⊕ ((Unit) ⊕ (Bool))) := br (ltI v (lenI s1)) (bnd (getI s1 v) fun x0 => bnd (getI s2 v) fun x1 => br (eqB x0 x1) (some (.inl (addK .i64 v 1))) (some (.inr (.inr false)))) (some (.inr (.inl ())))
noncomputable def QbJ (s1 : List Bool) (s2 : List Bool) : Option Bool := br (neI (lenI s1) (lenI s2)) (some false) (bnd (loopF (fun s => QaC s1 s2 s) 0) (fun e => sel e (fun (_ : Unit) => some true) (fun r => some r)))
noncomputable def Qct (l : List Bool) (first_ : List Bool) : Option Bool := br (geI (lenI l) (lenI first_)) (bnd (slcI l 0 (lenI first_)) fun l1 => bnd (QbJ l1 first_) fun r => some r) (some false)
noncomputable def Qd5 (r : Qab) (b : Qab) : Option Bool := br ((neI r.type_ b.type_) || (neI r.start b.start)) (some false) (bnd (QbN r.visits b.visits) fun r1 => br r1 (bnd (Qct r.rests b.rests) fun r2 => br r2 (some ((!(gtI (lenI b.rests) (lenI b.visits))) || ((eqI (lenI r.visits) (lenI b.visits)) && (eqI (lenI r.rests) (lenI b.rests))))) (some false)) (some false))
noncomputable def QdW (w : Qaa) (c : Qaa) : Option Bool := some (eqI c.order w.order)
noncomputable def Qaj (s0 : List Qaa) (c : Qaa) (v : Int) : Option ((Int) ⊕ ((Unit) ⊕ (Int))) := br (ltI v (lenI s0)) (bnd (getI s0 v) fun x0 => bnd (QdW x0 c) fun r => br r (some (.inr (.inr v))) (some (.inl (addK .i64 v 1)))) (some (.inr (.inl ())))
noncomputable def Qay (s0 : List Qaa) (c : Qaa) : Option Int := bnd (loopF (fun s => Qaj s0 c s) 0) (fun e => sel e (fun (_ : Unit) => some (-1)) (fun r1 => some r1))
noncomputable def QaD (s0 : List Qaa) (c : Qaa) : Option Bool := bnd (Qay s0 c) fun r => some (geI r 0)
noncomputable def Qd6 (v : Qaa) (c : Qab) : Option Bool := bnd (QaD c.visits v) fun r => some r
noncomputable def Qao (s0 : List Qaa) (c : Qab) (v : Int) : Option ((Int) ⊕ ((Unit) ⊕ (Int))) := br (ltI v (lenI s0)) (bnd (getI s0 v) fun x0 => bnd (Qd6 x0 c) fun r => br r (some (.inr (.inr v))) (some (.inl (addK .i64 v 1)))) (some (.inr (.inl ())))
noncomputable def Qaz (s0 : List Qaa) (c : Qab) : Option Int := bnd (loopF (fun s => Qao s0 c s) 0) (fun e => sel e (fun (_ : Unit) => some (-1)) (fun r1 => some r1))
noncomputable def QaH (s0 : List Qaa) (c : Qab) : Option Bool := bnd (Qaz s0 c) fun r => some (geI r 0)
noncomputable def Qf4 (a : Qab) (b : Qab) : Option Bool := bnd (QaH a.visits b) fun r => some r
noncomputable def QbZ (p : Qax) (l : List Qab) (v : Int) (x0 : Qab) (n : Int) (v1 : Int) : Option ((Int × Int) ⊕ ((Int) ⊕ (Int))) := br (ltI v1 (lenI p.routes)) (bnd (getI p.routes v1) fun x1 => bnd (Qd5 x1 x0) fun r => br r (some (.inl ((addK .i64 n 1), (addK .i64 v1 1)))) (bnd (Qf4 x1 x0) fun r1 => br r1 (some (.inr (.inr 31))) (some (.inl (n, (addK .i64 v1 1)))))) (some (.inr (.inl n)))
noncomputable def QbY (p : Qax) (l : List Qab) (v : Int) : Option ((Int) ⊕ ((Unit) ⊕ (Int))) := br (ltI v (lenI l)) (bnd (getI l v) fun x0 => bnd (loopF (fun s => QbZ p l v x0 s.1 s.2) (0, 0)) (fun e => sel e (fun n1 => br (neI n1 1) (some (.inr (.inr 31))) (some (.inl (addK .i64 v 1)))) (fun r2 => some (.inr (.inr r2))))) (some (.inr (.inl ())))
noncomputable def Qdq (p : Qax) (l : List Qab) : Option Int := bnd (loopF (fun s => QbY p l s) 0) (fun e => sel e (fun (_ : Unit) => some 0) (fun r3 => some r3))
noncomputable def Qcy (l : List Qab) (v : Int) (x0 : Qab) (set_1 : Int) (v1 : Int) : Option ((Int × Int) ⊕ (Int)) := br (ltI v1 (lenI x0.visits)) (bnd (getI x0.visits v1) fun x1 => br ((geI x1.order 0) && (leI x1.order 62)) (chk ((0 : Int) ≤ x1.order) (some (.inl ((orK .i64 set_1 (shlK .i64 1 x1.order)), (addK .i64 v1 1))))) (some (.inl (set_1, (addK .i64 v1 1))))) (some (.inr set_1))
noncomputable def QcM (l : List Qab) (set_ : Int) (v : Int) : Option ((Int × Int) ⊕ (Int)) := br (ltI v (lenI l)) (bnd (getI l v) fun x0 => bnd (loopF (fun s => Qcy l v x0 s.1 s.2) (set_, 0)) (fun set_2 => some (.inl (set_2, (addK .i64 v 1))))) (some (.inr set_))
noncomputable def QdN (l : List Qab) : Option Int := bnd (loopF (fun s => QcM l s.1 s.2) (0, 0)) (fun set_3 => some set_3)
noncomputable def Qen : Option (Qad × Qab) := some ((Qad.mk (Qar.mk [QmY, QmZ] [(Qaw.mk 0 1 0 0 [(Qah.mk 0 10)] []), (Qaw.mk 1 0 0 0 [(Qah.mk 0 10)] [])]) [(Qan.mk Qm1 1 0 0 [1] 0 0 5 100 100 0 0 0 0)] [(Qap.mk Qm0 [1] (Qam.mk (-1) 0 0 0) (Qam.mk 1 30 40 2) 0 (-1) 1 (-1) (-1) false)] [] []), (Qab.mk 0 0 [] [(Qaa.mk 0 true)]))
noncomputable def Qb4 : Option Bool := bnd (Qen) fun r => bnd (Qe0 r.1 r.2 5) fun r1 => bnd (Qe0 r.1 r.2 6) fun r2 => bnd (QdU r.1 (Qax.mk [r.2] []) 32) fun r3 => bnd (QdU r.1 (Qax.mk [r.2] []) 33) fun r4 => bnd (Qe0 r.1 r.2 (-1)) fun r5 => br (((((((((neI r1.2 0) || (neI r2.2 0)) || (neI r3.2 0)) || (neI r4.2 0)) || (neI r5.2 2)) || (neI r1.1 0)) || (neI r2.1 1)) || (neI (lenI r3.1) 1)) || (neI (lenI r4.1) 1)) (some false) (bnd (getI r3.1 0) fun x0 => br (eqI (lenI x0.rests) 1) (bnd (getI r4.1 0) fun x1 => br (eqI (lenI x1.rests) 2) (bnd (Qdq (Qax.mk [r.2] []) r3.1) fun r6 => br (eqI r6 31) (bnd (Qdq (Qax.mk r4.1 []) r3.1) fun r7 => br (eqI r7 0) (bnd (QdN r3.1) fun r8 => some (eqI r8 1)) (some false)) (some false)) (some false)) (some false))
noncomputable def Qbh (l : List Qab) (v : Int) : Option ((Int) ⊕ ((Unit) ⊕ (Bool))) := br (ltI v (lenI l)) (bnd (getI l v) fun x0 => br ((gtI (lenI x0.visits) 20) || (gtI (lenI x0.rests) 20)) (some (.inr (.inr false))) (some (.inl (addK .i64 v 1)))) (some (.inr (.inl ())))
noncomputable def QcC (l : List Qab) : Option Bool := br (gtI (lenI l) 10) (some false) (bnd (loopF (fun s => Qbh l s) 0) (fun e => sel e (fun (_ : Unit) => some true) (fun r => some r)))
noncomputable def Qba (r : Qab) (begin : Qab) (i : Int) : Option ((Int) ⊕ ((Unit) ⊕ (Bool))) := br (ltI i (lenI begin.visits)) (bnd (getI r.visits i) fun x0 => bnd (getI begin.visits i) fun x1 => br (eqI x0.order x1.order && (eqB x0.drop x1.drop && true)) (some (.inl (addK .i64 i 1))) (some (.inr (.inr false)))) (some (.inr (.inl ())))
noncomputable def QaZ (r : Qab) (begin : Qab) (i1 : Int) : Option ((Int) ⊕ ((Unit) ⊕ (Bool))) := br (ltI i1 (lenI begin.rests)) (bnd (getI r.rests i1) fun x2 => bnd (getI begin.rests i1) fun x3 => br (eqB x2 x3) (some (.inl (addK .i64 i1 1))) (some (.inr (.inr false)))) (some (.inr (.inl ())))
noncomputable def QcI (r : Qab) (begin : Qab) : Option Bool := br ((((neI r.type_ begin.type_) || (neI r.start begin.start)) || (ltI (lenI r.visits) (lenI begin.visits))) || (ltI (lenI r.rests) (lenI begin.rests))) (some false) (bnd (loopF (fun s => Qba r begin s) 0) (fun e => sel e (fun (_ : Unit) => bnd (loopF (fun s => QaZ r begin s) 0) (fun e => sel e (fun (_ : Unit) => some ((leI (lenI begin.rests) (lenI begin.visits)) || ((eqI (lenI r.visits) (lenI begin.visits)) && (eqI (lenI r.rests) (lenI begin.rests))))) (fun r1 => some r1))) (fun r2 => some r2)))
noncomputable def Qbc (r : Qab) (of : Qab) (i : Int) (k : Int) : Option ((Int) ⊕ ((Unit) ⊕ (Bool))) := br (ltI k (lenI of.visits)) (bnd (getI r.visits i) fun x0 => bnd (getI of.visits k) fun x1 => br (eqI x0.order x1.order) (some (.inr (.inr true))) (some (.inl (addK .i64 k 1)))) (some (.inr (.inl ())))
noncomputable def Qbb (r : Qab) (of : Qab) (i : Int) : Option ((Int) ⊕ ((Unit) ⊕ (Bool))) := br (ltI i (lenI r.visits)) (bnd (loopF (fun s => Qbc r of i s) 0) (fun e => sel e (fun (_ : Unit) => some (.inl (addK .i64 i 1))) (fun r1 => some (.inr (.inr r1))))) (some (.inr (.inl ())))
noncomputable def QcJ (r : Qab) (of : Qab) : Option Bool := bnd (loopF (fun s => Qbb r of s) 0) (fun e => sel e (fun (_ : Unit) => some false) (fun r2 => some r2))
noncomputable def Qa8 (p : Qax) (l : List Qab) (i : Int) (n : Int) (other : Bool) (k : Int) : Option ((Int × Bool × Int) ⊕ (Int × Bool)) := br (ltI k (lenI p.routes)) (bnd (getI p.routes k) fun x0 => bnd (getI l i) fun x1 => bnd (QcI x0 x1) fun r => br r (some (.inl ((addK .i64 n 1), other, (addK .i64 k 1)))) (br other (some (.inl (n, true, (addK .i64 k 1)))) (bnd (QcJ x0 x1) fun r1 => some (.inl (n, r1, (addK .i64 k 1)))))) (some (.inr (n, other)))
noncomputable def Qbj (p : Qax) (l : List Qab) (i : Int) : Option ((Int) ⊕ ((Unit) ⊕ (Int))) := br (ltI i (lenI l)) (bnd (loopF (fun s => Qa8 p l i s.1 s.2.1 s.2.2) (0, false, 0)) (fun e0 => (fun n1 other1 => br ((neI n1 1) || other1) (some (.inr (.inr 31))) (some (.inl (addK .i64 i 1)))) e0.1 e0.2)) (some (.inr (.inl ())))
noncomputable def QcX (p : Qax) (l : List Qab) : Option Int := bnd (loopF (fun s => Qbj p l s) 0) (fun e => sel e (fun (_ : Unit) => some 0) (fun r2 => some r2))
noncomputable def Qbv (i : Int) (set_1 : Int) (k : Int) : Option ((Int × Int) ⊕ (Int)) := br (ltI k i) (some (.inl ((quoK .i64 set_1 2), (addK .i64 k 1)))) (some (.inr set_1))
noncomputable def QdC (set_ : Int) (i : Int) : Option Bool := bnd (loopF (fun s => Qbv i s.1 s.2) (set_, 0)) (fun set_2 => some (eqI (remK set_2 2) 1))
noncomputable def Qa7 (l : List Qab) (i : Int) (set_1 : Int) (k : Int) (x1 : Qaa) (bit : Int) (j : Int) : Option ((Int × Int) ⊕ (Int)) := br (ltI j x1.order) (some (.inl ((mulK .i64 2 bit), (addK .i64 j 1)))) (some (.inr bit))
noncomputable def QbO (l : List Qab) (i : Int) (set_1 : Int) (k : Int) : Option ((Int × Int) ⊕ (Int)) := bnd (getI l i) fun x0 => br (ltI k (lenI x0.visits)) (bnd (getI x0.visits k) fun x1 => br ((ltI x1.order 0) || (gtI x1.order 62)) (some (.inl (set_1, (addK .i64 k 1)))) (bnd (QdC set_1 x1.order) fun r => br r (some (.inl (set_1, (addK .i64 k 1)))) (bnd (loopF (fun s => Qa7 l i set_1 k x1 s.1 s.2) (1, 0)) (fun bit1 => some (.inl ((addK .i64 set_1 bit1), (addK .i64 k 1))))))) (some (.inr set_1))
noncomputable def Qb5 (l : List Qab) (set_ : Int) (i : Int) : Option ((Int × Int) ⊕ (Int)) := br (ltI i (lenI l)) (bnd (loopF (fun s => QbO l i s.1 s.2) (set_, 0)) (fun set_2 => some (.inl (set_2, (addK .i64 i 1))))) (some (.inr set_))
noncomputable def QcW (l : List Qab) : Option Int := bnd (loopF (fun s => Qb5 l s.1 s.2) (0, 0)) (fun set_3 => some set_3)
noncomputable def Qcw (p : Qax) (l : List Qab) : Option Bool := bnd (QcC p.routes) fun r => br r (bnd (QcC l) fun r1 => br r1 (bnd (Qdq p l) fun r2 => bnd (QcX p l) fun r3 => br (eqI r2 r3) (bnd (QdN l) fun r4 => bnd (QcW l) fun r5 => br (eqI r4 r5) (bnd (Qb4) fun r6 => some r6) (some false)) (some false)) (bnd (Qb4) fun r7 => some r7)) (bnd (Qb4) fun r8 => some r8)
end Go.Proofs.YtoogjnlmicgfiaaGreatDoor
namespace Go.Proofs.YtoogjnlmicgfiaaGreatDoor
set_option linter.unusedVariables false
set_option linter.unusedSectionVars false
set_option linter.unusedSimpArgs false
open Go.RowKit
variable {N : Nat}
theorem oq_3 : Opens Tryz.prog N 3 (rdE 1 e_i64 isI (fun _ => rfl)) := Qpk Tryz.underlying3 (by kernel_rfl)
def Qah.ok (N : Nat) (x : Qah) : Prop := isI x.t ∧ isI x.a ∧ True
def Qaw.ok (N : Nat) (x : Qaw) : Prop := isI x.from_ ∧ isI x.to_ ∧ isI x.profile ∧ isI x.miles ∧ (fun l : List (Qah) => l.length ≤ N ∧ ∀ x ∈ l, (Qah.ok N) x) x.travel ∧ (fun l : List (Qah) => l.length ≤ N ∧ ∀ x ∈ l, (Qah.ok N) x) x.slow ∧ True
def Qar.ok (N : Nat) (x : Qar) : Prop := (fun l : List (ByteArray) => l.length ≤ N ∧ ∀ x ∈ l, (fun s : ByteArray => s.size ≤ N) x) x.places ∧ (fun l : List (Qaw) => l.length ≤ N ∧ ∀ x ∈ l, (Qaw.ok N) x) x.arcs ∧ True
theorem oq_43 : Opens Tryz.prog N 43 (rdE 1 (fun l : List Int => [.sl false 1 (l.map e_i64)]) (fun l : List (Int) => l.length ≤ N ∧ ∀ x ∈ l, isI x) (fun _ => rfl)) := Qkq Tryz.underlying43 (by kernel_rfl) oq_3 (by decide)
def Qan.ok (N : Nat) (x : Qan) : Prop := (fun s : ByteArray => s.size ≤ N) x.name ∧ isI x.count ∧ isI x.from_ ∧ isI x.to_ ∧ (fun l : List (Int) => l.length ≤ N ∧ ∀ x ∈ l, isI x) x.cap ∧ isI x.skills ∧ isI x.profile ∧ isI x.open_ ∧ isI x.close ∧ isI x.drive ∧ isI x.rest_ ∧ isI x.fixed ∧ isI x.perMile ∧ isI x.perTick ∧ True
def Qam.ok (N : Nat) (x : Qam) : Prop := isI x.place ∧ isI x.open_ ∧ isI x.close ∧ isI x.service ∧ True
theorem oq_4 : Opens Tryz.prog N 4 (rdE 1 QaI (fun _ : Bool => True) (fun _ => rfl)) := Qo5 Tryz.underlying4 (by kernel_rfl)
def Qap.ok (N : Nat) (x : Qap) : Prop := (fun s : ByteArray => s.size ≤ N) x.name ∧ (fun l : List (Int) => l.length ≤ N ∧ ∀ x ∈ l, isI x) x.load ∧ (Qam.ok N) x.pick ∧ (Qam.ok N) x.drop ∧ isI x.skills ∧ isI x.penalty ∧ isI x.split ∧ isI x.last_ ∧ isI x.now ∧ (fun _ : Bool => True) x.off ∧ True
def QcQ.ok (N : Nat) (x : QcQ) : Prop := isI x.x0 ∧ isI x.x1
def Qad.ok (N : Nat) (x : Qad) : Prop := (Qar.ok N) x.net ∧ (fun l : List (Qan) => l.length ≤ N ∧ ∀ x ∈ l, (Qan.ok N) x) x.types ∧ (fun l : List (Qap) => l.length ≤ N ∧ ∀ x ∈ l, (Qap.ok N) x) x.orders ∧ (fun l : List (QcQ) => l.length ≤ N ∧ ∀ x ∈ l, (QcQ.ok N) x) x.apart ∧ (fun l : List (QcQ) => l.length ≤ N ∧ ∀ x ∈ l, (QcQ.ok N) x) x.before ∧ True
theorem oq_31 : Opens Tryz.prog N 31 (rdE 1 (fun l : List Bool => [.sl false 1 (l.map QaI)]) (fun l : List (Bool) => l.length ≤ N ∧ ∀ x ∈ l, (fun _ : Bool => True) x) (fun _ => rfl)) := Qkq Tryz.underlying31 (by kernel_rfl) oq_4 (by decide)
def Qaa.ok (N : Nat) (x : Qaa) : Prop := isI x.order ∧ (fun _ : Bool => True) x.drop ∧ True
theorem oq_79 : Opens Tryz.prog N 79 (rdE 2 Qaa.enc (Qaa.ok N) (fun _ => rfl)) := Qkr Tryz.underlying79 (by kernel_rfl) (.cons rfl oq_3 (.cons rfl oq_4 .nil)) rfl (HE.pair HE.rd (HE.pair HE.rd HE.unit)) (fun a => ⟨a.1, a.2.1⟩) (fun _ => rfl) (fun _ h => h)
theorem oq_32 : Opens Tryz.prog N 32 (rdE 1 (fun l : List Qaa => [.sl false 2 (l.map Qaa.enc)]) (fun l : List (Qaa) => l.length ≤ N ∧ ∀ x ∈ l, (Qaa.ok N) x) (fun _ => rfl)) := Qkq Tryz.underlying32 (by kernel_rfl) oq_79 (by decide)
def Qab.ok (N : Nat) (x : Qab) : Prop := isI x.type_ ∧ isI x.start ∧ (fun l : List (Bool) => l.length ≤ N ∧ ∀ x ∈ l, (fun _ : Bool => True) x) x.rests ∧ (fun l : List (Qaa) => l.length ≤ N ∧ ∀ x ∈ l, (Qaa.ok N) x) x.visits ∧ True
theorem oq_34 : Opens Tryz.prog N 34 (rdE 4 Qab.enc (Qab.ok N) (fun _ => rfl)) := Qkr Tryz.underlying34 (by kernel_rfl) (.cons rfl oq_3 (.cons rfl oq_3 (.cons rfl oq_31 (.cons rfl oq_32 .nil)))) rfl (HE.pair HE.rd (HE.pair HE.rd (HE.pair HE.rd (HE.pair HE.rd HE.unit)))) (fun a => ⟨a.1, a.2.1, a.2.2.1, a.2.2.2.1⟩) (fun _ => rfl) (fun _ h => h)
theorem oq_42 : Opens Tryz.prog N 42 (rdE 1 (fun l : List Qab => [.sl false 4 (l.map Qab.enc)]) (fun l : List (Qab) => l.length ≤ N ∧ ∀ x ∈ l, (Qab.ok N) x) (fun _ => rfl)) := Qkq Tryz.underlying42 (by kernel_rfl) oq_34 (by decide)
def Qax.ok (N : Nat) (x : Qax) : Prop := (fun l : List (Qab) => l.length ≤ N ∧ ∀ x ∈ l, (Qab.ok N) x) x.routes ∧ (fun l : List (Int) => l.length ≤ N ∧ ∀ x ∈ l, isI x) x.unserved ∧ True
theorem oq_45 : Opens Tryz.prog N 45 (rdE 2 Qax.enc (Qax.ok N) (fun _ => rfl)) := Qkr Tryz.underlying45 (by kernel_rfl) (.cons rfl oq_42 (.cons rfl oq_43 .nil)) rfl (HE.pair HE.rd (HE.pair HE.rd HE.unit)) (fun a => ⟨a.1, a.2.1⟩) (fun _ => rfl) (fun _ h => h)
end Go.Proofs.YtoogjnlmicgfiaaGreatDoor
