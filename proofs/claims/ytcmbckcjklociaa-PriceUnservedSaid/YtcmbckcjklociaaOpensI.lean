/- What is read at the types of an instance, a route, a schedule, reads as plain data. -/
import Derived.Test.YtcmbckcjklociaaData
import Derived.KernelRfl
namespace Go.Proofs.Ytcmbckcjklociaa
open Go.RowKit

theorem o_int : Opens Try.prog 3 Rd.int := opens_int Try.underlying3 (by kernel_rfl)
theorem o_bool : Opens Try.prog 4 Rd.bool := opens_bool Try.underlying4 (by kernel_rfl)
theorem o_str : Opens Try.prog 9 Rd.str := opens_str Try.underlying9 (by kernel_rfl)
theorem o_ints : Opens Try.prog 55 Rd.int.slice := opens_slice Try.underlying55 (by kernel_rfl) o_int (by decide)
theorem o_bools : Opens Try.prog 31 Rd.bool.slice := opens_slice Try.underlying31 (by kernel_rfl) o_bool (by decide)
theorem o_strs : Opens Try.prog 22 Rd.str.slice := opens_slice Try.underlying22 (by kernel_rfl) o_str (by decide)
theorem o_pt : Opens Try.prog 95 rdPt := (opens_struct Try.underlying95 (by kernel_rfl) (.cons rfl o_int (.cons rfl o_int .nil))).map _
theorem o_pts : Opens Try.prog 87 rdPt.slice := opens_slice Try.underlying87 (by kernel_rfl) o_pt (by decide)
theorem o_arc : Opens Try.prog 89 rdArc := (opens_struct Try.underlying89 (by kernel_rfl) (.cons rfl o_int (.cons rfl o_int (.cons rfl o_int (.cons rfl o_int (.cons rfl o_pts (.cons rfl o_pts .nil))))))).map _
theorem o_arcs : Opens Try.prog 23 rdArc.slice := opens_slice Try.underlying23 (by kernel_rfl) o_arc (by decide)
theorem o_net : Opens Try.prog 25 rdNet := (opens_struct Try.underlying25 (by kernel_rfl) (.cons rfl o_strs (.cons rfl o_arcs .nil))).map _
theorem o_typ : Opens Try.prog 57 rdTyp := (opens_struct Try.underlying57 (by kernel_rfl) (.cons rfl o_str (.cons rfl o_int (.cons rfl o_int (.cons rfl o_int (.cons rfl o_ints (.cons rfl o_int (.cons rfl o_int (.cons rfl o_int (.cons rfl o_int (.cons rfl o_int (.cons rfl o_int (.cons rfl o_int (.cons rfl o_int (.cons rfl o_int .nil))))))))))))))).map _
theorem o_typs : Opens Try.prog 26 rdTyp.slice := opens_slice Try.underlying26 (by kernel_rfl) o_typ (by decide)
theorem o_stop : Opens Try.prog 62 rdStop := (opens_struct Try.underlying62 (by kernel_rfl) (.cons rfl o_int (.cons rfl o_int (.cons rfl o_int (.cons rfl o_int .nil))))).map _
theorem o_ord : Opens Try.prog 64 rdOrd := (opens_struct Try.underlying64 (by kernel_rfl) (.cons rfl o_str (.cons rfl o_ints (.cons rfl o_stop (.cons rfl o_stop (.cons rfl o_int (.cons rfl o_int (.cons rfl o_int (.cons rfl o_int (.cons rfl o_int (.cons rfl o_bool .nil))))))))))).map _
theorem o_ords : Opens Try.prog 27 rdOrd.slice := opens_slice Try.underlying27 (by kernel_rfl) o_ord (by decide)
theorem o_two : Opens Try.prog 90 (Rd.int.pair Rd.int) := opens_array2 Try.underlying90 (by kernel_rfl) o_int
theorem o_twos : Opens Try.prog 28 (Rd.int.pair Rd.int).slice := opens_slice Try.underlying28 (by kernel_rfl) o_two (by decide)
theorem o_inst : Opens Try.prog 30 rdInst := (opens_struct Try.underlying30 (by kernel_rfl) (.cons rfl o_net (.cons rfl o_typs (.cons rfl o_ords (.cons rfl o_twos (.cons rfl o_twos .nil)))))).map _
theorem o_vis : Opens Try.prog 60 rdVis := (opens_struct Try.underlying60 (by kernel_rfl) (.cons rfl o_int (.cons rfl o_bool .nil))).map _
theorem o_viss : Opens Try.prog 32 rdVis.slice := opens_slice Try.underlying32 (by kernel_rfl) o_vis (by decide)
theorem o_route : Opens Try.prog 34 rdRoute := (opens_struct Try.underlying34 (by kernel_rfl) (.cons rfl o_int (.cons rfl o_int (.cons rfl o_bools (.cons rfl o_viss .nil))))).map _
theorem o_time : Opens Try.prog 92 rdTime := (opens_struct Try.underlying92 (by kernel_rfl) (.cons rfl o_int (.cons rfl o_int (.cons rfl o_int (.cons rfl o_bool .nil))))).map _
theorem o_times : Opens Try.prog 35 rdTime.slice := opens_slice Try.underlying35 (by kernel_rfl) o_time (by decide)
theorem o_sheet : Opens Try.prog 37 rdSheet := (opens_struct Try.underlying37 (by kernel_rfl) (.cons rfl o_bool (.cons rfl o_int (.cons rfl o_times (.cons rfl o_int (.cons rfl o_int .nil)))))).map _
end Go.Proofs.Ytcmbckcjklociaa
