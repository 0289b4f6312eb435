/- DriveLeast: No schedule for rests that follow the route ends earlier than the best one, which Valid accepts, for any instance that is accepted, any route (of at most 9 visits) and any rests, where what is read is of bulk at most 1048576. The tied card. -/
import Derived.Test.YtjhhlmmmkgnhmaaDoorRqyl
import Derived.Test.YtjhhlmmmkgnhmaaDoorR2
import Derived.Test.YtjhhlmmmkgnhmaaDoorRo
import Derived.Test.YtjhhlmmmkgnhmaaDoorRqzd
import Derived.Test.YtjhhlmmmkgnhmaaDoorCards
import Derived.Test.YtjhhlmmmkgnhmaaDoorTie
import Derived.ProofKit
import Derived.LaidMore
import Derived.Stop.Joined
import Derived.Lib.SmallJoins
import Derived.Deep.DeepHandedRow
namespace Go.Proofs.YtjhhlmmmkgnhmaaDoor
set_option linter.unusedSimpArgs false
set_option linter.unusedVariables false
set_option linter.unusedSectionVars false
open Go.ChangeShapes Go.WideShapes Go.ChangeAt Go.RowKit Go.Joins

theorem driveLeast_met (os : Os) (args : Array Value) : laidMetH Tryd.prog Rows.driveLeastUptoRow.laid ((World.doorLaid Tryd.prog 400 os).forCall (fun _ _ => 0) ⟨#[], args, []⟩).memory :=
  laidMetH_of_parts3 (fuel := 8) (laidMet_of_run' 8 (by kernel_rfl) (by kernel_rfl)) (by kernel_rfl) (by kernel_rfl)
theorem driveLeast_reads (os : Os) {H : Type} (enc : TypeId × Value → H) : ∃ places, DataW.whole enc Tryd.prog ((World.doorLaid Tryd.prog 400 os).forCall (fun _ _ => 0) ⟨#[], #[.agg #[.slice none 0 0, .slice none 0 0, .slice none 0 0, .slice none 0 0, .slice none 0 0, .slice none 0 0], .agg #[.int .i64 0, .int .i64 0, .slice none 0 0, .slice none 0 0], .slice none 0 0], []⟩).memory Tryd.f11.params.toList (Rows.OpenSpec.upto Rows.driveLeastSpec).vars false (#[.agg #[.slice none 0 0, .slice none 0 0, .slice none 0 0, .slice none 0 0, .slice none 0 0, .slice none 0 0], .agg #[.int .i64 0, .int .i64 0, .slice none 0 0, .slice none 0 0], .slice none 0 0] : Array Value).toList 8 = some ([.agg [.agg [.nil, .nil], .nil, .nil, .nil, .nil], .agg [.lit (.int .i64 0), .lit (.int .i64 0), .nil, .nil], .nil], [], places) :=
  ⟨[], by kernel_rfl⟩

set_option maxRecDepth 100000 in
set_option maxHeartbeats 1000000 in
theorem driveLeast_lifted (os : Os) (started : os.Started) (H : Type) (enc : TypeId × Value → H) (F : Stop.Interp) :
    ReturnsInHanded {} Tryd.checked os 11 .any ((Rows.OpenSpec.upto Rows.driveLeastSpec).preRow enc Tryd.prog Tryd.f11 Rows.driveLeastUptoRow.domain false Rows.driveLeastUptoRow.laid) (((Rows.OpenSpec.upto Rows.driveLeastSpec).at F).post enc Tryd.prog Tryd.f11 false true false false) := by
  obtain ⟨places, hx⟩ := driveLeast_reads os enc
  refine returnsInHanded_of_row (C := Tryd.checked) (s := (Rows.OpenSpec.upto Rows.driveLeastSpec)) Tryd.own started (by kernel_rfl) Tryd.func11
    (witness_row_at (enc := enc) (C := Tryd.checked) false (World.doorLaid Tryd.prog 400 os) #[.agg #[.slice none 0 0, .slice none 0 0, .slice none 0 0, .slice none 0 0, .slice none 0 0, .slice none 0 0], .agg #[.int .i64 0, .int .i64 0, .slice none 0 0, .slice none 0 0], .slice none 0 0] rfl (by kernel_rfl) (by kernel_rfl) (by kernel_rfl)
      (OpenSpec.preRow_of_cond 8 hx (by kernel_rfl) (fun k hk => by cases hk; kernel_rfl) (by kernel_rfl) (driveLeast_met os _))) ?_
  intro W base args ds gs before hval0 hW _ hcond _ hL _ _
  have hval : ∀ (j : Nat) t v, Tryd.f11.params[j]? = some t → args[j]? = some v → Value.okWide Tryd.prog W .any base t v := hval0
  have hW' := hW
  obtain ⟨p, q, hA0, hV, rfl, hfz, hnd⟩ := hW
  have hA : DataW.TrodAll enc Tryd.prog W 0 (fun _ => true) true Tryd.f11.params.toList args.toList ds p := hA0
  rw [Tryd.params11] at hA hval
  clear hA0
  obtain ⟨v0, vs0, d0, ds0, p0, q0, hargs, rfl, rfl, h0, r0⟩ := trodAll_cons hA
  obtain ⟨v1, vs1, d1, ds1, p1, q1, rfl, rfl, rfl, h1, r1⟩ := trodAll_cons r0
  obtain ⟨v2, vs2, d2, ds2, p2, q2, rfl, rfl, rfl, h2, r2⟩ := trodAll_cons r1
  obtain ⟨rfl, rfl, rfl⟩ := trodAll_nil r2
  obtain rfl : args = #[v0, v1, v2] := by cases args; simp_all
  obtain ⟨rfl, rfl⟩ := trodVars_none hV
  have hbulk : Rows.uptoBulkAll [d0, d1, d2] ≤ 1048576 := of_decide_eq_true (hcond _ rfl)
  obtain ⟨cs0, rfl, _⟩ := okWide_struct Tryd.underlying56 (hval 0 56 v0 rfl rfl)
  obtain ⟨_, h0⟩ := h0
  obtain ⟨x0, k0, c0⟩ := oq_56.opens _ _ _ _ _ _ h0 (Fits.all (.inr hbulk) (by simp))
  obtain ⟨cs1, rfl, _⟩ := okWide_struct Tryd.underlying60 (hval 1 60 v1 rfl rfl)
  obtain ⟨_, h1⟩ := h1
  obtain ⟨x1, k1, c1⟩ := oq_60.opens _ _ _ _ _ _ h1 (Fits.all (.inr hbulk) (by simp))
  obtain ⟨_, _, _, rfl⟩ := okWide_slice Tryd.underlying57 (hval 2 57 v2 rfl rfl)
  obtain ⟨_, h2⟩ := h2
  obtain ⟨x2, k2, c2⟩ := oq_57.opens _ _ _ _ _ _ h2 (Fits.all (.inr hbulk) (by simp))
  refine (law_walk (lorrylaw18_DriveLeast_ok x0 x1 x2 true (DriveLeast_plain x0 (instI_of k0) x1 (routeI_of k1) x2 k2.1)) (vals := [.agg cs0, .agg cs1, _]) ⟨arg_agg c0, arg_agg c1, arg_one c2.1, trivial⟩).mono fun e W' ⟨he, hb⟩ => ?_
  exact ⟨_, he, law_post Tryd.laidOut (by kernel_rfl) rfl rfl rfl Tryd.underlying4 hW' hb⟩

theorem driveLeast_said : Rows.DriveLeastUptoSaid :=
  OpenClaim.holds_of_cond 11 Tryd.f11 rfl rfl rfl rfl rfl rfl rfl ⟨rfl, rfl, rfl, rfl, rfl⟩ rfl rfl rfl rfl rfl (by kernel_rfl) Tryd.func11 (by kernel_rfl)
    (of_decide_eq_true (by kernel_rfl)) (by unfold Func.isWrapper; first | (rw [if_pos (by decide +kernel)]; kernel_rfl) | (rw [if_neg (by decide +kernel)]; exact ⟨rfl, rfl⟩))
    (fun os started H enc _ F => by rw [OpenClaim.pre_eq_preRow]; exact driveLeast_lifted os started H enc F)
theorem driveLeast_plainly (f : FuncId) (fn : Func) (hf : Tryd.pinned.checked.prog.funcNamed "lorry/lorrylaw18.DriveLeast" = some f) (hfn : Tryd.pinned.checked.prog.funcs[f]? = some fn) :
    false = Tryd.pinned.checked.prog.looks [] ∧ ∀ (j : Nat) t, fn.params[j]? = some t → Tryd.pinned.checked.prog.wantsStandIn t = false := by
  obtain rfl : f = 11 := Option.some.inj ((show Tryd.prog.funcNamed "lorry/lorrylaw18.DriveLeast" = some 11 by kernel_rfl).symm.trans hf) |>.symm
  obtain rfl : fn = Tryd.f11 := (Option.some.inj (Tryd.func11.symm.trans hfn)).symm
  refine ⟨by kernel_rfl, fun j t ht => ?_⟩
  rw [Tryd.params11] at ht
  have hm : t ∈ [56, 60, 57] := by simpa using Array.mem_of_getElem? ht
  have hall : ([56, 60, 57].all fun u => !Tryd.prog.wantsStandIn u) = true := by kernel_rfl
  exact (show Tryd.prog.wantsStandIn t = false by simpa using List.all_eq_true.1 hall t hm)
theorem driveLeast_holds : Rows.DriveLeastUptoCardSaid :=
  Claim7.holds_tied_plain_at .later [] _ _ _ _ driveLeast_said (fun _ h => by cases h) (by kernel_rfl) (fun _ h => by cases h) driveLeastUpto_row_tie rfl ⟨rfl, rfl⟩ (by kernel_rfl) rfl driveLeast_plainly (by kernel_rfl)
#print axioms driveLeast_holds
end Go.Proofs.YtjhhlmmmkgnhmaaDoor
