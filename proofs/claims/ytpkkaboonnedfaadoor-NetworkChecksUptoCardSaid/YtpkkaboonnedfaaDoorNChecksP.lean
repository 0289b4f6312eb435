/- NetworkChecks: network.Check returns the specified faults, for any network of at most 30 places and 1100 arcs, where what is read is of bulk at most 1048576. The tied card. -/
import Derived.Test.YtpkkaboonnedfaaDoorMX
import Derived.Test.YtpkkaboonnedfaaDoorMU
import Derived.Test.YtpkkaboonnedfaaDoorMT
import Derived.Test.YtpkkaboonnedfaaDoorMP
import Derived.Test.YtpkkaboonnedfaaDoorMV
import Derived.Test.YtpkkaboonnedfaaDoorCards
import Derived.Test.YtpkkaboonnedfaaDoorTie
import Derived.ProofKit
import Derived.LaidMore
import Derived.Stop.Joined
import Derived.Lib.SmallJoins
import Derived.Deep.DeepHandedRow
namespace Go.Proofs.YtpkkaboonnedfaaDoor
set_option linter.unusedSimpArgs false
set_option linter.unusedVariables false
set_option linter.unusedSectionVars false
open Go.ChangeShapes Go.WideShapes Go.ChangeAt Go.RowKit Go.Joins

theorem networkChecks_met (os : Os) (args : Array Value) : laidMetH Tryd.prog Rows.networkChecksUptoRow.laid ((World.doorLaid Tryd.prog 400 os).forCall (fun _ _ => 0) ⟨#[], args, []⟩).memory :=
  laidMetH_of_parts3 (fuel := 8) (laidMet_of_run' 8 (by kernel_rfl) (by kernel_rfl)) (by kernel_rfl) (by kernel_rfl)
theorem networkChecks_reads (os : Os) {H : Type} (enc : TypeId × Value → H) : ∃ places, DataW.whole enc Tryd.prog ((World.doorLaid Tryd.prog 400 os).forCall (fun _ _ => 0) ⟨#[], #[.agg #[.slice none 0 0, .slice none 0 0]], []⟩).memory Tryd.f3.params.toList (Rows.OpenSpec.upto Rows.networkChecksSpec).vars false (#[.agg #[.slice none 0 0, .slice none 0 0]] : Array Value).toList 8 = some ([.agg [.nil, .nil]], [], places) :=
  ⟨[], by kernel_rfl⟩

set_option maxRecDepth 100000 in
set_option maxHeartbeats 1000000 in
theorem networkChecks_lifted (os : Os) (started : os.Started) (H : Type) (enc : TypeId × Value → H) (F : Stop.Interp) :
    ReturnsInHanded {} Tryd.checked os 3 .any ((Rows.OpenSpec.upto Rows.networkChecksSpec).preRow enc Tryd.prog Tryd.f3 Rows.networkChecksUptoRow.domain false Rows.networkChecksUptoRow.laid) (((Rows.OpenSpec.upto Rows.networkChecksSpec).at F).post enc Tryd.prog Tryd.f3 false true false false) := by
  obtain ⟨places, hx⟩ := networkChecks_reads os enc
  refine returnsInHanded_of_row (C := Tryd.checked) (s := (Rows.OpenSpec.upto Rows.networkChecksSpec)) Tryd.own started (by kernel_rfl) Tryd.func3
    (witness_row_at (enc := enc) (C := Tryd.checked) false (World.doorLaid Tryd.prog 400 os) #[.agg #[.slice none 0 0, .slice none 0 0]] rfl (by kernel_rfl) (by kernel_rfl) (by kernel_rfl)
      (OpenSpec.preRow_of_cond 8 hx (by kernel_rfl) (fun k hk => by cases hk; kernel_rfl) (by kernel_rfl) (networkChecks_met os _))) ?_
  intro W base args ds gs before hval0 hW _ hcond _ hL _ _
  have hval : ∀ (j : Nat) t v, Tryd.f3.params[j]? = some t → args[j]? = some v → Value.okWide Tryd.prog W .any base t v := hval0
  have hW' := hW
  obtain ⟨p, q, hA0, hV, rfl, hfz, hnd⟩ := hW
  have hA : DataW.TrodAll enc Tryd.prog W 0 (fun _ => true) true Tryd.f3.params.toList args.toList ds p := hA0
  rw [Tryd.params3] at hA hval
  clear hA0
  obtain ⟨v0, vs0, d0, ds0, p0, q0, hargs, rfl, rfl, h0, r0⟩ := trodAll_cons hA
  obtain ⟨rfl, rfl, rfl⟩ := trodAll_nil r0
  obtain rfl : args = #[v0] := by cases args; simp_all
  obtain ⟨rfl, rfl⟩ := trodVars_none hV
  have hbulk : Rows.uptoBulkAll [d0] ≤ 1048576 := of_decide_eq_true (hcond _ rfl)
  obtain ⟨cs0, rfl, _⟩ := okWide_struct Tryd.underlying25 (hval 0 25 v0 rfl rfl)
  obtain ⟨_, h0⟩ := h0
  obtain ⟨x0, k0, c0⟩ := (oq_25).opens _ _ _ _ _ _ h0 (Fits.all (.inr hbulk) (by simp))
  refine (QkK (QkZ hL) (QcZ (rv := true) (QeP x0 (Qlm k0))) (vals := [.agg cs0]) ⟨Qk9 c0, trivial⟩).mono fun e W' ⟨he, hb⟩ => ?_
  exact ⟨_, he, QkJ Tryd.laidOut (by kernel_rfl) rfl rfl rfl Tryd.underlying4 hW' hb⟩

theorem networkChecks_said : Rows.NetworkChecksUptoSaid :=
  OpenClaim.holds_of_cond 3 Tryd.f3 rfl rfl rfl rfl rfl rfl rfl ⟨rfl, rfl, rfl, rfl, rfl⟩ rfl rfl rfl rfl rfl (by kernel_rfl) Tryd.func3 (by kernel_rfl)
    (of_decide_eq_true (by kernel_rfl)) (by unfold Func.isWrapper; first | (rw [if_pos (by decide +kernel)]; kernel_rfl) | (rw [if_neg (by decide +kernel)]; exact ⟨rfl, rfl⟩))
    (fun os started H enc _ F => by rw [OpenClaim.pre_eq_preRow]; exact networkChecks_lifted os started H enc F)
theorem networkChecks_plainly (f : FuncId) (fn : Func) (hf : Tryd.pinned.checked.prog.funcNamed "lorry/lorrylaw09.NetworkChecks" = some f) (hfn : Tryd.pinned.checked.prog.funcs[f]? = some fn) :
    false = Tryd.pinned.checked.prog.looks [] ∧ ∀ (j : Nat) t, fn.params[j]? = some t → Tryd.pinned.checked.prog.wantsStandIn t = false := by
  obtain rfl : f = 3 := Option.some.inj ((show Tryd.prog.funcNamed "lorry/lorrylaw09.NetworkChecks" = some 3 by kernel_rfl).symm.trans hf) |>.symm
  obtain rfl : fn = Tryd.f3 := (Option.some.inj (Tryd.func3.symm.trans hfn)).symm
  refine ⟨by kernel_rfl, fun j t ht => ?_⟩
  rw [Tryd.params3] at ht
  have hm : t ∈ [25] := by simpa using Array.mem_of_getElem? ht
  have hall : ([25].all fun u => !Tryd.prog.wantsStandIn u) = true := by kernel_rfl
  exact (show Tryd.prog.wantsStandIn t = false by simpa using List.all_eq_true.1 hall t hm)
theorem networkChecks_holds : Rows.NetworkChecksUptoCardSaid :=
  Claim7.holds_tied_plain_at .later [] _ _ _ _ networkChecks_said (fun _ h => by cases h) (by kernel_rfl) (fun _ h => by cases h) networkChecksUpto_row_tie rfl ⟨rfl, rfl⟩ (by kernel_rfl) rfl networkChecks_plainly (by kernel_rfl)
#print axioms networkChecks_holds
end Go.Proofs.YtpkkaboonnedfaaDoor
