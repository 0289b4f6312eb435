/- What is read at the types of an instance, a route, a schedule, reads as plain data. -/
import Derived.Test.YtcmbckcjklociaaData
import Derived.KernelRfl
namespace Go.Proofs.Ytcmbckcjklociaa
set_option linter.unusedSimpArgs false
set_option linter.unusedVariables false
open Go.RowKit
variable {N : Nat}

theorem o_int : Opens Try.prog N 3 Rd.int := opens_int Try.underlying3 (by kernel_rfl)
theorem o_bool : Opens Try.prog N 4 Rd.bool := opens_bool Try.underlying4 (by kernel_rfl)
theorem o_str : Opens Try.prog N 9 (Rd.str N) := opens_str Try.underlying9 (by kernel_rfl)
theorem o_ints : Opens Try.prog N 55 (Rd.int.slice N) := opens_slice Try.underlying55 (by kernel_rfl) o_int (by show 0 < _; exact Nat.succ_pos _)
theorem o_bools : Opens Try.prog N 31 (Rd.bool.slice N) := opens_slice Try.underlying31 (by kernel_rfl) o_bool (by show 0 < _; exact Nat.succ_pos _)
theorem o_strs : Opens Try.prog N 22 ((Rd.str N).slice N) := opens_slice Try.underlying22 (by kernel_rfl) o_str (by show 0 < _; exact Nat.succ_pos _)
theorem o_pt : Opens Try.prog N 95 rdPt := (opens_struct Try.underlying95 (by kernel_rfl) (.cons rfl o_int (.cons rfl o_int .nil))).map _
theorem o_pts : Opens Try.prog N 87 (rdPt.slice N) := opens_slice Try.underlying87 (by kernel_rfl) o_pt (by show 0 < _; exact Nat.succ_pos _)
theorem o_arc : Opens Try.prog N 89 (rdArc N) := (opens_struct Try.underlying89 (by kernel_rfl) (.cons rfl o_int (.cons rfl o_int (.cons rfl o_int (.cons rfl o_int (.cons rfl o_pts (.cons rfl o_pts .nil))))))).map _
theorem o_arcs : Opens Try.prog N 23 ((rdArc N).slice N) := opens_slice Try.underlying23 (by kernel_rfl) o_arc (by show 0 < _; exact Nat.succ_pos _)
theorem o_net : Opens Try.prog N 25 (rdNet N) := (opens_struct Try.underlying25 (by kernel_rfl) (.cons rfl o_strs (.cons rfl o_arcs .nil))).map _
theorem o_typ : Opens Try.prog N 57 (rdTyp N) := (opens_struct Try.underlying57 (by kernel_rfl) (.cons rfl o_str (.cons rfl o_int (.cons rfl o_int (.cons rfl o_int (.cons rfl o_ints (.cons rfl o_int (.cons rfl o_int (.cons rfl o_int (.cons rfl o_int (.cons rfl o_int (.cons rfl o_int (.cons rfl o_int (.cons rfl o_int (.cons rfl o_int .nil))))))))))))))).map _
theorem o_typs : Opens Try.prog N 26 ((rdTyp N).slice N) := opens_slice Try.underlying26 (by kernel_rfl) o_typ (by show 0 < _; exact Nat.succ_pos _)
theorem o_stop : Opens Try.prog N 62 rdStop := (opens_struct Try.underlying62 (by kernel_rfl) (.cons rfl o_int (.cons rfl o_int (.cons rfl o_int (.cons rfl o_int .nil))))).map _
theorem o_ord : Opens Try.prog N 64 (rdOrd N) := (opens_struct Try.underlying64 (by kernel_rfl) (.cons rfl o_str (.cons rfl o_ints (.cons rfl o_stop (.cons rfl o_stop (.cons rfl o_int (.cons rfl o_int (.cons rfl o_int (.cons rfl o_int (.cons rfl o_int (.cons rfl o_bool .nil))))))))))).map _
theorem o_ords : Opens Try.prog N 27 ((rdOrd N).slice N) := opens_slice Try.underlying27 (by kernel_rfl) o_ord (by show 0 < _; exact Nat.succ_pos _)
theorem o_two : Opens Try.prog N 90 (Rd.int.pair Rd.int) := opens_array2 Try.underlying90 (by kernel_rfl) o_int
theorem o_twos : Opens Try.prog N 28 ((Rd.int.pair Rd.int).slice N) := opens_slice Try.underlying28 (by kernel_rfl) o_two (by show 0 < _; exact Nat.succ_pos _)
theorem o_inst : Opens Try.prog N 30 (rdInst N) := (opens_struct Try.underlying30 (by kernel_rfl) (.cons rfl o_net (.cons rfl o_typs (.cons rfl o_ords (.cons rfl o_twos (.cons rfl o_twos .nil)))))).map _
theorem o_vis : Opens Try.prog N 60 rdVis := (opens_struct Try.underlying60 (by kernel_rfl) (.cons rfl o_int (.cons rfl o_bool .nil))).map _
theorem o_viss : Opens Try.prog N 32 (rdVis.slice N) := opens_slice Try.underlying32 (by kernel_rfl) o_vis (by show 0 < _; exact Nat.succ_pos _)
theorem o_route : Opens Try.prog N 34 (rdRoute N) := (opens_struct Try.underlying34 (by kernel_rfl) (.cons rfl o_int (.cons rfl o_int (.cons rfl o_bools (.cons rfl o_viss .nil))))).map _
theorem o_time : Opens Try.prog N 92 rdTime := (opens_struct Try.underlying92 (by kernel_rfl) (.cons rfl o_int (.cons rfl o_int (.cons rfl o_int (.cons rfl o_bool .nil))))).map _
theorem o_times : Opens Try.prog N 35 (rdTime.slice N) := opens_slice Try.underlying35 (by kernel_rfl) o_time (by show 0 < _; exact Nat.succ_pos _)
theorem o_sheet : Opens Try.prog N 37 (rdSheet N) := (opens_struct Try.underlying37 (by kernel_rfl) (.cons rfl o_bool (.cons rfl o_int (.cons rfl o_times (.cons rfl o_int (.cons rfl o_int .nil)))))).map _
end Go.Proofs.Ytcmbckcjklociaa
