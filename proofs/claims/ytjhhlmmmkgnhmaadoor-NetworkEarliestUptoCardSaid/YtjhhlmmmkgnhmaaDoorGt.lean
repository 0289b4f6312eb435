/- Made by gen.py: types of the program as plain data. -/
import Derived.Test.YtjhhlmmmkgnhmaaDoorGP
namespace Go.Proofs.YtjhhlmmmkgnhmaaDoor
set_option linter.unusedVariables false
set_option linter.unusedSectionVars false
set_option linter.unusedSimpArgs false
def e_i8 (n : Int) : List Lf := [.int .i8 n]
def e_i16 (n : Int) : List Lf := [.int .i16 n]
def e_i32 (n : Int) : List Lf := [.int .i32 n]
def e_i64 (n : Int) : List Lf := [.int .i64 n]
def e_u8 (n : Int) : List Lf := [.int .u8 n]
def e_u16 (n : Int) : List Lf := [.int .u16 n]
def e_u32 (n : Int) : List Lf := [.int .u32 n]
def e_u64 (n : Int) : List Lf := [.int .u64 n]
def e_bool (b : Bool) : List Lf := [.bool b]
def e_str (s : ByteArray) : List Lf := [.str s]
structure T_api_Point where
  t : Int
  a : Int
instance : DecidableEq T_api_Point := fun a b => decidable_of_iff (a.t = b.t ∧ a.a = b.a) (by cases a; cases b; simp)
structure T_api_Arc where
  from_ : Int
  to_ : Int
  profile : Int
  miles : Int
  travel : List T_api_Point
  slow : List T_api_Point
instance : DecidableEq T_api_Arc := fun a b => decidable_of_iff (a.from_ = b.from_ ∧ a.to_ = b.to_ ∧ a.profile = b.profile ∧ a.miles = b.miles ∧ a.travel = b.travel ∧ a.slow = b.slow) (by cases a; cases b; simp)
structure T_api_Network where
  places : List ByteArray
  arcs : List T_api_Arc
instance : DecidableEq T_api_Network := fun a b => decidable_of_iff (a.places = b.places ∧ a.arcs = b.arcs) (by cases a; cases b; simp)
structure T_api_Fault where
  err : Int
  at_ : ByteArray
instance : DecidableEq T_api_Fault := fun a b => decidable_of_iff (a.err = b.err ∧ a.at_ = b.at_) (by cases a; cases b; simp)
structure T_network_way where
  from_ : Int
  to_ : Int
  profile : Int
instance : DecidableEq T_network_way := fun a b => decidable_of_iff (a.from_ = b.from_ ∧ a.to_ = b.to_ ∧ a.profile = b.profile) (by cases a; cases b; simp)
def T_api_Point.enc (x : T_api_Point) : List Lf := [.int .i64 x.t, .int .i64 x.a]
def T_api_Arc.enc (x : T_api_Arc) : List Lf := [.int .i64 x.from_, .int .i64 x.to_, .int .i64 x.profile, .int .i64 x.miles, .sl false 2 (x.travel.map T_api_Point.enc), .sl false 2 (x.slow.map T_api_Point.enc)]
def T_api_Network.enc (x : T_api_Network) : List Lf := [.sl false 1 (x.places.map e_str), .sl false 6 (x.arcs.map T_api_Arc.enc)]
def T_api_Fault.enc (x : T_api_Fault) : List Lf := [.int .i64 x.err, .str x.at_]
def T_network_way.enc (x : T_network_way) : List Lf := [.int .i64 x.from_, .int .i64 x.to_, .int .i64 x.profile]
def s___0 : ByteArray := ⟨#[45]⟩
def s_places_1 : ByteArray := ⟨#[112, 108, 97, 99, 101, 115]⟩
def s_place__2 : ByteArray := ⟨#[112, 108, 97, 99, 101, 32]⟩
def s_arc__3 : ByteArray := ⟨#[97, 114, 99, 32]⟩
def s_arcs_4 : ByteArray := ⟨#[97, 114, 99, 115]⟩
def s_0123456789abcdefghij_5 : ByteArray := ⟨#[48, 49, 50, 51, 52, 53, 54, 55, 56, 57, 97, 98, 99, 100, 101, 102, 103, 104, 105, 106, 107, 108, 109, 110, 111, 112, 113, 114, 115, 116, 117, 118, 119, 120, 121, 122]⟩
def s_00010203040506070809_6 : ByteArray := ⟨#[48, 48, 48, 49, 48, 50, 48, 51, 48, 52, 48, 53, 48, 54, 48, 55, 48, 56, 48, 57, 49, 48, 49, 49, 49, 50, 49, 51, 49, 52, 49, 53, 49, 54, 49, 55, 49, 56, 49, 57, 50, 48, 50, 49, 50, 50, 50, 51, 50, 52, 50, 53, 50, 54, 50, 55, 50, 56, 50, 57, 51, 48, 51, 49, 51, 50, 51, 51, 51, 52, 51, 53, 51, 54, 51, 55, 51, 56, 51, 57, 52, 48, 52, 49, 52, 50, 52, 51, 52, 52, 52, 53, 52, 54, 52, 55, 52, 56, 52, 57, 53, 48, 53, 49, 53, 50, 53, 51, 53, 52, 53, 53, 53, 54, 53, 55, 53, 56, 53, 57, 54, 48, 54, 49, 54, 50, 54, 51, 54, 52, 54, 53, 54, 54, 54, 55, 54, 56, 54, 57, 55, 48, 55, 49, 55, 50, 55, 51, 55, 52, 55, 53, 55, 54, 55, 55, 55, 56, 55, 57, 56, 48, 56, 49, 56, 50, 56, 51, 56, 52, 56, 53, 56, 54, 56, 55, 56, 56, 56, 57, 57, 48, 57, 49, 57, 50, 57, 51, 57, 52, 57, 53, 57, 54, 57, 55, 57, 56, 57, 57]⟩
def s______________________7 : ByteArray := ⟨#[0, 1, 2, 2, 3, 3, 3, 3, 4, 4, 4, 4, 4, 4, 4, 4, 5, 5, 5, 5, 5, 5, 5, 5, 5, 5, 5, 5, 5, 5, 5, 5, 6, 6, 6, 6, 6, 6, 6, 6, 6, 6, 6, 6, 6, 6, 6, 6, 6, 6, 6, 6, 6, 6, 6, 6, 6, 6, 6, 6, 6, 6, 6, 6, 7, 7, 7, 7, 7, 7, 7, 7, 7, 7, 7, 7, 7, 7, 7, 7, 7, 7, 7, 7, 7, 7, 7, 7, 7, 7, 7, 7, 7, 7, 7, 7, 7, 7, 7, 7, 7, 7, 7, 7, 7, 7, 7, 7, 7, 7, 7, 7, 7, 7, 7, 7, 7, 7, 7, 7, 7, 7, 7, 7, 7, 7, 7, 7, 8, 8, 8, 8, 8, 8, 8, 8, 8, 8, 8, 8, 8, 8, 8, 8, 8, 8, 8, 8, 8, 8, 8, 8, 8, 8, 8, 8, 8, 8, 8, 8, 8, 8, 8, 8, 8, 8, 8, 8, 8, 8, 8, 8, 8, 8, 8, 8, 8, 8, 8, 8, 8, 8, 8, 8, 8, 8, 8, 8, 8, 8, 8, 8, 8, 8, 8, 8, 8, 8, 8, 8, 8, 8, 8, 8, 8, 8, 8, 8, 8, 8, 8, 8, 8, 8, 8, 8, 8, 8, 8, 8, 8, 8, 8, 8, 8, 8, 8, 8, 8, 8, 8, 8, 8, 8, 8, 8, 8, 8, 8, 8, 8, 8, 8, 8, 8, 8, 8, 8, 8, 8, 8, 8, 8, 8, 8, 8]⟩
def s_A_8 : ByteArray := ⟨#[65]⟩
def s_B_9 : ByteArray := ⟨#[66]⟩
def s_C_10 : ByteArray := ⟨#[67]⟩
end Go.Proofs.YtjhhlmmmkgnhmaaDoor
