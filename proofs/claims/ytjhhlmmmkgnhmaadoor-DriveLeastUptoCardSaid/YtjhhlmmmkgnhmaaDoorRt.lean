/- Made by gen.py: types of the program as plain data. -/
import Derived.Test.YtjhhlmmmkgnhmaaDoorGP
namespace Go.Proofs.YtjhhlmmmkgnhmaaDoor
set_option linter.unusedVariables false
set_option linter.unusedSectionVars false
set_option linter.unusedSimpArgs false
def e_i8 (n : Int) : List Lf := [.int .i8 n]
def e_i16 (n : Int) : List Lf := [.int .i16 n]
def e_i32 (n : Int) : List Lf := [.int .i32 n]
def e_i64 (n : Int) : List Lf := [.int .i64 n]
def e_u8 (n : Int) : List Lf := [.int .u8 n]
def e_u16 (n : Int) : List Lf := [.int .u16 n]
def e_u32 (n : Int) : List Lf := [.int .u32 n]
def e_u64 (n : Int) : List Lf := [.int .u64 n]
def e_bool (b : Bool) : List Lf := [.bool b]
def e_str (s : ByteArray) : List Lf := [.str s]
structure T_api_Point where
  t : Int
  a : Int
instance : DecidableEq T_api_Point := fun a b => decidable_of_iff (a.t = b.t ∧ a.a = b.a) (by cases a; cases b; simp)
structure T_api_Arc where
  from_ : Int
  to_ : Int
  profile : Int
  miles : Int
  travel : List T_api_Point
  slow : List T_api_Point
instance : DecidableEq T_api_Arc := fun a b => decidable_of_iff (a.from_ = b.from_ ∧ a.to_ = b.to_ ∧ a.profile = b.profile ∧ a.miles = b.miles ∧ a.travel = b.travel ∧ a.slow = b.slow) (by cases a; cases b; simp)
structure T_api_Network where
  places : List ByteArray
  arcs : List T_api_Arc
instance : DecidableEq T_api_Network := fun a b => decidable_of_iff (a.places = b.places ∧ a.arcs = b.arcs) (by cases a; cases b; simp)
structure T_api_Fault where
  err : Int
  at_ : ByteArray
instance : DecidableEq T_api_Fault := fun a b => decidable_of_iff (a.err = b.err ∧ a.at_ = b.at_) (by cases a; cases b; simp)
structure T_api_Type where
  name : ByteArray
  count : Int
  from_ : Int
  to_ : Int
  cap : List Int
  skills : Int
  profile : Int
  open_ : Int
  close : Int
  drive : Int
  rest_ : Int
  fixed : Int
  perMile : Int
  perTick : Int
instance : DecidableEq T_api_Type := fun a b => decidable_of_iff (a.name = b.name ∧ a.count = b.count ∧ a.from_ = b.from_ ∧ a.to_ = b.to_ ∧ a.cap = b.cap ∧ a.skills = b.skills ∧ a.profile = b.profile ∧ a.open_ = b.open_ ∧ a.close = b.close ∧ a.drive = b.drive ∧ a.rest_ = b.rest_ ∧ a.fixed = b.fixed ∧ a.perMile = b.perMile ∧ a.perTick = b.perTick) (by cases a; cases b; simp)
structure T_api_Stop where
  place : Int
  open_ : Int
  close : Int
  service : Int
instance : DecidableEq T_api_Stop := fun a b => decidable_of_iff (a.place = b.place ∧ a.open_ = b.open_ ∧ a.close = b.close ∧ a.service = b.service) (by cases a; cases b; simp)
structure T_api_Order where
  name : ByteArray
  load : List Int
  pick : T_api_Stop
  drop : T_api_Stop
  skills : Int
  penalty : Int
  split : Int
  last_ : Int
  now : Int
  off : Bool
instance : DecidableEq T_api_Order := fun a b => decidable_of_iff (a.name = b.name ∧ a.load = b.load ∧ a.pick = b.pick ∧ a.drop = b.drop ∧ a.skills = b.skills ∧ a.penalty = b.penalty ∧ a.split = b.split ∧ a.last_ = b.last_ ∧ a.now = b.now ∧ a.off = b.off) (by cases a; cases b; simp)
structure A2_Int where
  x0 : Int
  x1 : Int
instance : DecidableEq A2_Int := fun a b => decidable_of_iff (a.x0 = b.x0 ∧ a.x1 = b.x1) (by cases a; cases b; simp)
structure T_api_Instance where
  net : T_api_Network
  types : List T_api_Type
  orders : List T_api_Order
  apart : List A2_Int
  before : List A2_Int
instance : DecidableEq T_api_Instance := fun a b => decidable_of_iff (a.net = b.net ∧ a.types = b.types ∧ a.orders = b.orders ∧ a.apart = b.apart ∧ a.before = b.before) (by cases a; cases b; simp)
structure T_api_Visit where
  order : Int
  drop : Bool
instance : DecidableEq T_api_Visit := fun a b => decidable_of_iff (a.order = b.order ∧ a.drop = b.drop) (by cases a; cases b; simp)
structure T_api_Route where
  type_ : Int
  start : Int
  rests : List Bool
  visits : List T_api_Visit
instance : DecidableEq T_api_Route := fun a b => decidable_of_iff (a.type_ = b.type_ ∧ a.start = b.start ∧ a.rests = b.rests ∧ a.visits = b.visits) (by cases a; cases b; simp)
structure T_drive_trip where
  x : T_api_Instance
  t : T_api_Type
  r : T_api_Route
  stops : List T_api_Stop
instance : DecidableEq T_drive_trip := fun a b => decidable_of_iff (a.x = b.x ∧ a.t = b.t ∧ a.r = b.r ∧ a.stops = b.stops) (by cases a; cases b; simp)
structure T_api_Time where
  arrive : Int
  begin : Int
  depart : Int
  rest_ : Bool
instance : DecidableEq T_api_Time := fun a b => decidable_of_iff (a.arrive = b.arrive ∧ a.begin = b.begin ∧ a.depart = b.depart ∧ a.rest_ = b.rest_) (by cases a; cases b; simp)
structure T_api_Sheet where
  rest_ : Bool
  depart : Int
  times : List T_api_Time
  end_ : Int
  miles : Int
instance : DecidableEq T_api_Sheet := fun a b => decidable_of_iff (a.rest_ = b.rest_ ∧ a.depart = b.depart ∧ a.times = b.times ∧ a.end_ = b.end_ ∧ a.miles = b.miles) (by cases a; cases b; simp)
structure T_drive_label where
  ready : Int
  since : Int
  sheet : T_api_Sheet
instance : DecidableEq T_drive_label := fun a b => decidable_of_iff (a.ready = b.ready ∧ a.since = b.since ∧ a.sheet = b.sheet) (by cases a; cases b; simp)
structure T_network_way where
  from_ : Int
  to_ : Int
  profile : Int
instance : DecidableEq T_network_way := fun a b => decidable_of_iff (a.from_ = b.from_ ∧ a.to_ = b.to_ ∧ a.profile = b.profile) (by cases a; cases b; simp)
structure T_lorryref18_state where
  place : Int
  time : Int
  driven : Int
  miles : Int
instance : DecidableEq T_lorryref18_state := fun a b => decidable_of_iff (a.place = b.place ∧ a.time = b.time ∧ a.driven = b.driven ∧ a.miles = b.miles) (by cases a; cases b; simp)
def T_api_Point.enc (x : T_api_Point) : List Lf := [.int .i64 x.t, .int .i64 x.a]
def T_api_Arc.enc (x : T_api_Arc) : List Lf := [.int .i64 x.from_, .int .i64 x.to_, .int .i64 x.profile, .int .i64 x.miles, .sl false 2 (x.travel.map T_api_Point.enc), .sl false 2 (x.slow.map T_api_Point.enc)]
def T_api_Network.enc (x : T_api_Network) : List Lf := [.sl false 1 (x.places.map e_str), .sl false 6 (x.arcs.map T_api_Arc.enc)]
def T_api_Fault.enc (x : T_api_Fault) : List Lf := [.int .i64 x.err, .str x.at_]
def T_api_Type.enc (x : T_api_Type) : List Lf := [.str x.name, .int .i64 x.count, .int .i64 x.from_, .int .i64 x.to_, .sl false 1 (x.cap.map e_i64), .int .i64 x.skills, .int .i64 x.profile, .int .i64 x.open_, .int .i64 x.close, .int .i64 x.drive, .int .i64 x.rest_, .int .i64 x.fixed, .int .i64 x.perMile, .int .i64 x.perTick]
def T_api_Stop.enc (x : T_api_Stop) : List Lf := [.int .i64 x.place, .int .i64 x.open_, .int .i64 x.close, .int .i64 x.service]
def T_api_Order.enc (x : T_api_Order) : List Lf := [.str x.name, .sl false 1 (x.load.map e_i64), .int .i64 x.pick.place, .int .i64 x.pick.open_, .int .i64 x.pick.close, .int .i64 x.pick.service, .int .i64 x.drop.place, .int .i64 x.drop.open_, .int .i64 x.drop.close, .int .i64 x.drop.service, .int .i64 x.skills, .int .i64 x.penalty, .int .i64 x.split, .int .i64 x.last_, .int .i64 x.now, .bool x.off]
def A2_Int.enc (x : A2_Int) : List Lf := [.int .i64 x.x0, .int .i64 x.x1]
def T_api_Instance.enc (x : T_api_Instance) : List Lf := [.sl false 1 (x.net.places.map e_str), .sl false 6 (x.net.arcs.map T_api_Arc.enc), .sl false 14 (x.types.map T_api_Type.enc), .sl false 16 (x.orders.map T_api_Order.enc), .sl false 2 (x.apart.map A2_Int.enc), .sl false 2 (x.before.map A2_Int.enc)]
def T_api_Visit.enc (x : T_api_Visit) : List Lf := [.int .i64 x.order, .bool x.drop]
def T_api_Route.enc (x : T_api_Route) : List Lf := [.int .i64 x.type_, .int .i64 x.start, .sl false 1 (x.rests.map e_bool), .sl false 2 (x.visits.map T_api_Visit.enc)]
def T_drive_trip.enc (x : T_drive_trip) : List Lf := [.sl false 1 (x.x.net.places.map e_str), .sl false 6 (x.x.net.arcs.map T_api_Arc.enc), .sl false 14 (x.x.types.map T_api_Type.enc), .sl false 16 (x.x.orders.map T_api_Order.enc), .sl false 2 (x.x.apart.map A2_Int.enc), .sl false 2 (x.x.before.map A2_Int.enc), .str x.t.name, .int .i64 x.t.count, .int .i64 x.t.from_, .int .i64 x.t.to_, .sl false 1 (x.t.cap.map e_i64), .int .i64 x.t.skills, .int .i64 x.t.profile, .int .i64 x.t.open_, .int .i64 x.t.close, .int .i64 x.t.drive, .int .i64 x.t.rest_, .int .i64 x.t.fixed, .int .i64 x.t.perMile, .int .i64 x.t.perTick, .int .i64 x.r.type_, .int .i64 x.r.start, .sl false 1 (x.r.rests.map e_bool), .sl false 2 (x.r.visits.map T_api_Visit.enc), .sl false 4 (x.stops.map T_api_Stop.enc)]
def T_api_Time.enc (x : T_api_Time) : List Lf := [.int .i64 x.arrive, .int .i64 x.begin, .int .i64 x.depart, .bool x.rest_]
def T_api_Sheet.enc (x : T_api_Sheet) : List Lf := [.bool x.rest_, .int .i64 x.depart, .sl false 4 (x.times.map T_api_Time.enc), .int .i64 x.end_, .int .i64 x.miles]
def T_drive_label.enc (x : T_drive_label) : List Lf := [.int .i64 x.ready, .int .i64 x.since, .bool x.sheet.rest_, .int .i64 x.sheet.depart, .sl false 4 (x.sheet.times.map T_api_Time.enc), .int .i64 x.sheet.end_, .int .i64 x.sheet.miles]
def T_network_way.enc (x : T_network_way) : List Lf := [.int .i64 x.from_, .int .i64 x.to_, .int .i64 x.profile]
def T_lorryref18_state.enc (x : T_lorryref18_state) : List Lf := [.int .i64 x.place, .int .i64 x.time, .int .i64 x.driven, .int .i64 x.miles]
def s___336d : ByteArray := ⟨#[45]⟩
def s_places_ab7d : ByteArray := ⟨#[112, 108, 97, 99, 101, 115]⟩
def s_place__15f2 : ByteArray := ⟨#[112, 108, 97, 99, 101, 32]⟩
def s_arc__976e : ByteArray := ⟨#[97, 114, 99, 32]⟩
def s_arcs_f8d5 : ByteArray := ⟨#[97, 114, 99, 115]⟩
def s___7215 : ByteArray := ⟨#[32]⟩
def s_apart_bce1 : ByteArray := ⟨#[97, 112, 97, 114, 116]⟩
def s_before_2f44 : ByteArray := ⟨#[98, 101, 102, 111, 114, 101]⟩
def s_net_40fa : ByteArray := ⟨#[110, 101, 116]⟩
def s_types_d14a : ByteArray := ⟨#[116, 121, 112, 101, 115]⟩
def s_orders_12c5 : ByteArray := ⟨#[111, 114, 100, 101, 114, 115]⟩
def s_rules_a4f8 : ByteArray := ⟨#[114, 117, 108, 101, 115]⟩
def s_0123456789ab_e9b1 : ByteArray := ⟨#[48, 49, 50, 51, 52, 53, 54, 55, 56, 57, 97, 98, 99, 100, 101, 102, 103, 104, 105, 106, 107, 108, 109, 110, 111, 112, 113, 114, 115, 116, 117, 118, 119, 120, 121, 122]⟩
def s_000102030405_db3e : ByteArray := ⟨#[48, 48, 48, 49, 48, 50, 48, 51, 48, 52, 48, 53, 48, 54, 48, 55, 48, 56, 48, 57, 49, 48, 49, 49, 49, 50, 49, 51, 49, 52, 49, 53, 49, 54, 49, 55, 49, 56, 49, 57, 50, 48, 50, 49, 50, 50, 50, 51, 50, 52, 50, 53, 50, 54, 50, 55, 50, 56, 50, 57, 51, 48, 51, 49, 51, 50, 51, 51, 51, 52, 51, 53, 51, 54, 51, 55, 51, 56, 51, 57, 52, 48, 52, 49, 52, 50, 52, 51, 52, 52, 52, 53, 52, 54, 52, 55, 52, 56, 52, 57, 53, 48, 53, 49, 53, 50, 53, 51, 53, 52, 53, 53, 53, 54, 53, 55, 53, 56, 53, 57, 54, 48, 54, 49, 54, 50, 54, 51, 54, 52, 54, 53, 54, 54, 54, 55, 54, 56, 54, 57, 55, 48, 55, 49, 55, 50, 55, 51, 55, 52, 55, 53, 55, 54, 55, 55, 55, 56, 55, 57, 56, 48, 56, 49, 56, 50, 56, 51, 56, 52, 56, 53, 56, 54, 56, 55, 56, 56, 56, 57, 57, 48, 57, 49, 57, 50, 57, 51, 57, 52, 57, 53, 57, 54, 57, 55, 57, 56, 57, 57]⟩
def s______________633d : ByteArray := ⟨#[0, 1, 2, 2, 3, 3, 3, 3, 4, 4, 4, 4, 4, 4, 4, 4, 5, 5, 5, 5, 5, 5, 5, 5, 5, 5, 5, 5, 5, 5, 5, 5, 6, 6, 6, 6, 6, 6, 6, 6, 6, 6, 6, 6, 6, 6, 6, 6, 6, 6, 6, 6, 6, 6, 6, 6, 6, 6, 6, 6, 6, 6, 6, 6, 7, 7, 7, 7, 7, 7, 7, 7, 7, 7, 7, 7, 7, 7, 7, 7, 7, 7, 7, 7, 7, 7, 7, 7, 7, 7, 7, 7, 7, 7, 7, 7, 7, 7, 7, 7, 7, 7, 7, 7, 7, 7, 7, 7, 7, 7, 7, 7, 7, 7, 7, 7, 7, 7, 7, 7, 7, 7, 7, 7, 7, 7, 7, 7, 8, 8, 8, 8, 8, 8, 8, 8, 8, 8, 8, 8, 8, 8, 8, 8, 8, 8, 8, 8, 8, 8, 8, 8, 8, 8, 8, 8, 8, 8, 8, 8, 8, 8, 8, 8, 8, 8, 8, 8, 8, 8, 8, 8, 8, 8, 8, 8, 8, 8, 8, 8, 8, 8, 8, 8, 8, 8, 8, 8, 8, 8, 8, 8, 8, 8, 8, 8, 8, 8, 8, 8, 8, 8, 8, 8, 8, 8, 8, 8, 8, 8, 8, 8, 8, 8, 8, 8, 8, 8, 8, 8, 8, 8, 8, 8, 8, 8, 8, 8, 8, 8, 8, 8, 8, 8, 8, 8, 8, 8, 8, 8, 8, 8, 8, 8, 8, 8, 8, 8, 8, 8, 8, 8, 8, 8, 8, 8]⟩
def s_A_7fc5 : ByteArray := ⟨#[65]⟩
def s_B_9d5e : ByteArray := ⟨#[66]⟩
def s_v_9e36 : ByteArray := ⟨#[118]⟩
def s_o_d956 : ByteArray := ⟨#[111]⟩
end Go.Proofs.YtjhhlmmmkgnhmaaDoor
