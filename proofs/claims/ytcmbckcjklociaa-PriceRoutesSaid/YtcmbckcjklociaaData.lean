/- Plain data of the program's types, and how cells read as them. No program in sight. -/
import Derived.Test.YtcmbckcjklociaaRd
namespace Go.Proofs.Ytcmbckcjklociaa
set_option linter.unusedSimpArgs false
set_option linter.unusedVariables false
open Go.RowKit Go.Deep

structure ArcD where
  src : Int
  dst : Int
  prof : Int
  miles : Int
  travel : List (Int × Int)
  slow : List (Int × Int)
structure NetD where
  places : List ByteArray
  arcs : List ArcD
structure TypD where
  name : ByteArray
  count : Int
  src : Int
  dst : Int
  cap : List Int
  skills : Int
  prof : Int
  opn : Int
  cls : Int
  drive : Int
  rest : Int
  fixed : Int
  perMile : Int
  perTick : Int
structure StopD where
  place : Int
  opn : Int
  cls : Int
  service : Int
structure OrdD where
  name : ByteArray
  load : List Int
  pick : StopD
  drop : StopD
  skills : Int
  penalty : Int
  split : Int
  last : Int
  now : Int
  off : Bool
structure InstD where
  net : NetD
  types : List TypD
  orders : List OrdD
  apart : List (Int × Int)
  before : List (Int × Int)
structure VisD where
  order : Int
  drop : Bool
structure RouteD where
  typ : Int
  start : Int
  rests : List Bool
  visits : List VisD
structure TimeD where
  arrive : Int
  begin_ : Int
  depart : Int
  rest : Bool
structure SheetD where
  rest : Bool
  depart : Int
  times : List TimeD
  fin : Int
  miles : Int

open Rd
def rdPt : Rd (Int × Int) := (int.pair (int.pair unit)).map fun x => (x.1, x.2.1)
def rdArcT (N : Nat) := int.pair (int.pair (int.pair (int.pair ((rdPt.slice N).pair ((rdPt.slice N).pair unit)))))
def rdArc (N : Nat) : Rd ArcD := (rdArcT N).map fun x => ⟨x.1, x.2.1, x.2.2.1, x.2.2.2.1, x.2.2.2.2.1, x.2.2.2.2.2.1⟩
def rdNet (N : Nat) : Rd NetD := (((str N).slice N).pair (((rdArc N).slice N).pair unit)).map fun x => ⟨x.1, x.2.1⟩
def rdTypT (N : Nat) := (str N).pair (int.pair (int.pair (int.pair ((int.slice N).pair (int.pair (int.pair (int.pair (int.pair (int.pair (int.pair (int.pair (int.pair (int.pair unit)))))))))))))
def rdTyp (N : Nat) : Rd TypD := (rdTypT N).map fun x => ⟨x.1, x.2.1, x.2.2.1, x.2.2.2.1, x.2.2.2.2.1, x.2.2.2.2.2.1, x.2.2.2.2.2.2.1, x.2.2.2.2.2.2.2.1, x.2.2.2.2.2.2.2.2.1, x.2.2.2.2.2.2.2.2.2.1, x.2.2.2.2.2.2.2.2.2.2.1, x.2.2.2.2.2.2.2.2.2.2.2.1, x.2.2.2.2.2.2.2.2.2.2.2.2.1, x.2.2.2.2.2.2.2.2.2.2.2.2.2.1⟩
def rdStop : Rd StopD := (int.pair (int.pair (int.pair (int.pair unit)))).map fun x => ⟨x.1, x.2.1, x.2.2.1, x.2.2.2.1⟩
def rdOrdT (N : Nat) := (str N).pair ((int.slice N).pair (rdStop.pair (rdStop.pair (int.pair (int.pair (int.pair (int.pair (int.pair (bool.pair unit)))))))))
def rdOrd (N : Nat) : Rd OrdD := (rdOrdT N).map fun x => ⟨x.1, x.2.1, x.2.2.1, x.2.2.2.1, x.2.2.2.2.1, x.2.2.2.2.2.1, x.2.2.2.2.2.2.1, x.2.2.2.2.2.2.2.1, x.2.2.2.2.2.2.2.2.1, x.2.2.2.2.2.2.2.2.2.1⟩
def rdInst (N : Nat) : Rd InstD := ((rdNet N).pair (((rdTyp N).slice N).pair (((rdOrd N).slice N).pair (((int.pair int).slice N).pair (((int.pair int).slice N).pair unit))))).map fun x => ⟨x.1, x.2.1, x.2.2.1, x.2.2.2.1, x.2.2.2.2.1⟩
def rdVis : Rd VisD := (int.pair (bool.pair unit)).map fun x => ⟨x.1, x.2.1⟩
def rdRoute (N : Nat) : Rd RouteD := (int.pair (int.pair ((bool.slice N).pair ((rdVis.slice N).pair unit)))).map fun x => ⟨x.1, x.2.1, x.2.2.1, x.2.2.2.1⟩
def rdTime : Rd TimeD := (int.pair (int.pair (int.pair (bool.pair unit)))).map fun x => ⟨x.1, x.2.1, x.2.2.1, x.2.2.2.1⟩
def rdSheet (N : Nat) : Rd SheetD := (bool.pair (int.pair ((rdTime.slice N).pair (int.pair (int.pair unit))))).map fun x => ⟨x.1, x.2.1, x.2.2.1, x.2.2.2.1, x.2.2.2.2.1⟩

theorem rdPt_size : rdPt.size = 2 := rfl
theorem rdArc_size {N : Nat} : (rdArc N).size = 6 := rfl
theorem rdTyp_size {N : Nat} : (rdTyp N).size = 14 := rfl
theorem rdOrd_size {N : Nat} : (rdOrd N).size = 16 := rfl
theorem rdVis_size : rdVis.size = 2 := rfl
theorem rdTime_size : rdTime.size = 4 := rfl
theorem rdInt_size : Rd.int.size = 1 := rfl
theorem rdStr_size {N : Nat} : (Rd.str N).size = 1 := rfl
theorem rdBool_size : Rd.bool.size = 1 := rfl
theorem rdTwo_size : (Rd.int.pair Rd.int).size = 2 := rfl

section
variable {N : Nat} {w : World} {cs : List Value}
theorem pt_cells {p : Int × Int} (h : rdPt.holds w cs p) : cs = [.int .i64 p.1, .int .i64 p.2] ∧ isI p.1 ∧ isI p.2 := by
  obtain ⟨⟨a, b, c⟩, ⟨_, _, rfl, ⟨rfl, h1⟩, _, _, rfl, ⟨rfl, h2⟩, rfl⟩, rfl⟩ := h
  exact ⟨rfl, h1, h2⟩
theorem arc_cells {a : ArcD} (h : (rdArc N).holds w cs a) : ∃ A1 c1 A2 c2, cs = [.int .i64 a.src, .int .i64 a.dst, .int .i64 a.prof, .int .i64 a.miles, .slice A1 a.travel.length c1, .slice A2 a.slow.length c2] ∧
    (isI a.src ∧ isI a.dst ∧ isI a.prof ∧ isI a.miles) ∧ (a.travel.length ≤ N ∧ a.slow.length ≤ N) ∧ SlR rdPt w A1 a.travel ∧ SlR rdPt w A2 a.slow := by
  obtain ⟨⟨_, _, _, _, _, _, _⟩, ⟨_, _, rfl, ⟨rfl, h1⟩, _, _, rfl, ⟨rfl, h2⟩, _, _, rfl, ⟨rfl, h3⟩, _, _, rfl, ⟨rfl, h4⟩, _, _, rfl, ⟨A1, c1, rfl, h5, h6⟩, _, _, rfl, ⟨A2, c2, rfl, h7, h8⟩, rfl⟩, rfl⟩ := h
  exact ⟨A1, c1, A2, c2, rfl, ⟨h1, h2, h3, h4⟩, ⟨h5, h7⟩, h6, h8⟩
theorem net_cells {n : NetD} (h : (rdNet N).holds w cs n) : ∃ A1 c1 A2 c2, cs = [.slice A1 n.places.length c1, .slice A2 n.arcs.length c2] ∧ (n.places.length ≤ N ∧ n.arcs.length ≤ N) ∧ SlR (str N) w A1 n.places ∧ SlR (rdArc N) w A2 n.arcs := by
  obtain ⟨⟨_, _, _⟩, ⟨_, _, rfl, ⟨A1, c1, rfl, h5, h6⟩, _, _, rfl, ⟨A2, c2, rfl, h7, h8⟩, rfl⟩, rfl⟩ := h
  exact ⟨A1, c1, A2, c2, rfl, ⟨h5, h7⟩, h6, h8⟩
theorem typ_cells {t : TypD} (h : (rdTyp N).holds w cs t) : ∃ A1 c1, cs = [.string t.name, .int .i64 t.count, .int .i64 t.src, .int .i64 t.dst, .slice A1 t.cap.length c1, .int .i64 t.skills, .int .i64 t.prof, .int .i64 t.opn, .int .i64 t.cls, .int .i64 t.drive, .int .i64 t.rest, .int .i64 t.fixed, .int .i64 t.perMile, .int .i64 t.perTick] ∧
    (isI t.count ∧ isI t.src ∧ isI t.dst ∧ isI t.skills ∧ isI t.prof ∧ isI t.opn ∧ isI t.cls ∧ isI t.drive ∧ isI t.rest ∧ isI t.fixed ∧ isI t.perMile ∧ isI t.perTick) ∧ (t.name.size ≤ N ∧ t.cap.length ≤ N) ∧ SlR int w A1 t.cap := by
  obtain ⟨⟨_, _, _, _, _, _, _, _, _, _, _, _, _, _, _⟩, ⟨_, _, rfl, ⟨rfl, h0⟩, _, _, rfl, ⟨rfl, h1⟩, _, _, rfl, ⟨rfl, h2⟩, _, _, rfl, ⟨rfl, h3⟩, _, _, rfl, ⟨A1, c1, rfl, h4, h5⟩, _, _, rfl, ⟨rfl, h6⟩, _, _, rfl, ⟨rfl, h7⟩, _, _, rfl, ⟨rfl, h8⟩, _, _, rfl, ⟨rfl, h9⟩, _, _, rfl, ⟨rfl, h10⟩, _, _, rfl, ⟨rfl, h11⟩, _, _, rfl, ⟨rfl, h12⟩, _, _, rfl, ⟨rfl, h13⟩, _, _, rfl, ⟨rfl, h14⟩, rfl⟩, rfl⟩ := h
  exact ⟨A1, c1, rfl, ⟨h1, h2, h3, h6, h7, h8, h9, h10, h11, h12, h13, h14⟩, ⟨h0, h4⟩, h5⟩
theorem stop_cells {s : StopD} (h : rdStop.holds w cs s) : cs = [.int .i64 s.place, .int .i64 s.opn, .int .i64 s.cls, .int .i64 s.service] ∧ (isI s.place ∧ isI s.opn ∧ isI s.cls ∧ isI s.service) := by
  obtain ⟨⟨_, _, _, _, _⟩, ⟨_, _, rfl, ⟨rfl, h1⟩, _, _, rfl, ⟨rfl, h2⟩, _, _, rfl, ⟨rfl, h3⟩, _, _, rfl, ⟨rfl, h4⟩, rfl⟩, rfl⟩ := h
  exact ⟨rfl, h1, h2, h3, h4⟩
theorem ord_cells {o : OrdD} (h : (rdOrd N).holds w cs o) : ∃ A1 c1, cs = [.string o.name, .slice A1 o.load.length c1, .int .i64 o.pick.place, .int .i64 o.pick.opn, .int .i64 o.pick.cls, .int .i64 o.pick.service, .int .i64 o.drop.place, .int .i64 o.drop.opn, .int .i64 o.drop.cls, .int .i64 o.drop.service,
      .int .i64 o.skills, .int .i64 o.penalty, .int .i64 o.split, .int .i64 o.last, .int .i64 o.now, .bool o.off] ∧
    (isI o.pick.place ∧ isI o.pick.opn ∧ isI o.pick.cls ∧ isI o.pick.service ∧ isI o.drop.place ∧ isI o.drop.opn ∧ isI o.drop.cls ∧ isI o.drop.service ∧ isI o.skills ∧ isI o.penalty ∧ isI o.split ∧ isI o.last ∧ isI o.now) ∧ (o.name.size ≤ N ∧ o.load.length ≤ N) ∧ SlR int w A1 o.load := by
  obtain ⟨⟨_, _, _, _, _, _, _, _, _, _, _⟩, ⟨_, _, rfl, ⟨rfl, h0⟩, _, _, rfl, ⟨A1, c1, rfl, h4, h5⟩, _, _, rfl, h1, _, _, rfl, h2, _, _, rfl, ⟨rfl, h6⟩, _, _, rfl, ⟨rfl, h7⟩, _, _, rfl, ⟨rfl, h8⟩, _, _, rfl, ⟨rfl, h9⟩, _, _, rfl, ⟨rfl, h10⟩, _, _, rfl, h11, rfl⟩, rfl⟩ := h
  obtain ⟨rfl, p1, p2, p3, p4⟩ := stop_cells h1
  obtain ⟨rfl, d1, d2, d3, d4⟩ := stop_cells h2
  cases h11
  exact ⟨A1, c1, rfl, ⟨p1, p2, p3, p4, d1, d2, d3, d4, h6, h7, h8, h9, h10⟩, ⟨h0, h4⟩, h5⟩
theorem inst_cells {x : InstD} (h : (rdInst N).holds w cs x) : ∃ A1 c1 A2 c2 A3 c3 A4 c4 A5 c5 A6 c6, cs = [.slice A1 x.net.places.length c1, .slice A2 x.net.arcs.length c2, .slice A3 x.types.length c3, .slice A4 x.orders.length c4, .slice A5 x.apart.length c5, .slice A6 x.before.length c6] ∧
    (x.net.places.length ≤ N ∧ x.net.arcs.length ≤ N ∧ x.types.length ≤ N ∧ x.orders.length ≤ N ∧ x.apart.length ≤ N ∧ x.before.length ≤ N) ∧
    SlR (str N) w A1 x.net.places ∧ SlR (rdArc N) w A2 x.net.arcs ∧ SlR (rdTyp N) w A3 x.types ∧ SlR (rdOrd N) w A4 x.orders ∧ SlR (int.pair int) w A5 x.apart ∧ SlR (int.pair int) w A6 x.before := by
  obtain ⟨⟨_, _, _, _, _, _⟩, ⟨_, _, rfl, h1, _, _, rfl, ⟨A3, c3, rfl, l3, h3⟩, _, _, rfl, ⟨A4, c4, rfl, l4, h4⟩, _, _, rfl, ⟨A5, c5, rfl, l5, h5⟩, _, _, rfl, ⟨A6, c6, rfl, l6, h6⟩, rfl⟩, rfl⟩ := h
  obtain ⟨A1, c1, A2, c2, rfl, ⟨l1, l2⟩, h1, h2⟩ := net_cells h1
  exact ⟨A1, c1, A2, c2, A3, c3, A4, c4, A5, c5, A6, c6, rfl, ⟨l1, l2, l3, l4, l5, l6⟩, h1, h2, h3, h4, h5, h6⟩
theorem vis_cells {v : VisD} (h : rdVis.holds w cs v) : cs = [.int .i64 v.order, .bool v.drop] ∧ isI v.order := by
  obtain ⟨⟨_, _, _⟩, ⟨_, _, rfl, ⟨rfl, h1⟩, _, _, rfl, h2, rfl⟩, rfl⟩ := h
  cases h2
  exact ⟨rfl, h1⟩
theorem route_cells {r : RouteD} (h : (rdRoute N).holds w cs r) : ∃ A1 c1 A2 c2, cs = [.int .i64 r.typ, .int .i64 r.start, .slice A1 r.rests.length c1, .slice A2 r.visits.length c2] ∧ (isI r.typ ∧ isI r.start) ∧ (r.rests.length ≤ N ∧ r.visits.length ≤ N) ∧ SlR bool w A1 r.rests ∧ SlR rdVis w A2 r.visits := by
  obtain ⟨⟨_, _, _, _, _⟩, ⟨_, _, rfl, ⟨rfl, h1⟩, _, _, rfl, ⟨rfl, h2⟩, _, _, rfl, ⟨A1, c1, rfl, h3, h4⟩, _, _, rfl, ⟨A2, c2, rfl, h5, h6⟩, rfl⟩, rfl⟩ := h
  exact ⟨A1, c1, A2, c2, rfl, ⟨h1, h2⟩, ⟨h3, h5⟩, h4, h6⟩
theorem time_cells {t : TimeD} (h : rdTime.holds w cs t) : cs = [.int .i64 t.arrive, .int .i64 t.begin_, .int .i64 t.depart, .bool t.rest] ∧ (isI t.arrive ∧ isI t.begin_ ∧ isI t.depart) := by
  obtain ⟨⟨_, _, _, _, _⟩, ⟨_, _, rfl, ⟨rfl, h1⟩, _, _, rfl, ⟨rfl, h2⟩, _, _, rfl, ⟨rfl, h3⟩, _, _, rfl, h4, rfl⟩, rfl⟩ := h
  cases h4
  exact ⟨rfl, h1, h2, h3⟩
theorem sheet_cells {s : SheetD} (h : (rdSheet N).holds w cs s) : ∃ A1 c1, cs = [.bool s.rest, .int .i64 s.depart, .slice A1 s.times.length c1, .int .i64 s.fin, .int .i64 s.miles] ∧ (isI s.depart ∧ isI s.fin ∧ isI s.miles) ∧ s.times.length ≤ N ∧ SlR rdTime w A1 s.times := by
  obtain ⟨⟨_, _, _, _, _, _⟩, ⟨_, _, rfl, h0, _, _, rfl, ⟨rfl, h1⟩, _, _, rfl, ⟨A1, c1, rfl, h3, h4⟩, _, _, rfl, ⟨rfl, h5⟩, _, _, rfl, ⟨rfl, h6⟩, rfl⟩, rfl⟩ := h
  cases h0
  exact ⟨A1, c1, rfl, ⟨h1, h5, h6⟩, h3, h4⟩
end
end Go.Proofs.Ytcmbckcjklociaa
