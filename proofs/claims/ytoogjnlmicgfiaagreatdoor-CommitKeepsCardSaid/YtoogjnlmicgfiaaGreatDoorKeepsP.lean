/- CommitKeeps: What Keeps and Begun answer is what the specification says, for plans and beginnings of at most 10 routes of at most 20 visits and rests each. The tied card, in full. -/
import Derived.Test.YtoogjnlmicgfiaaGreatDoorMR
import Derived.Test.YtoogjnlmicgfiaaGreatDoorMW
import Derived.Test.YtoogjnlmicgfiaaGreatDoorMT
import Derived.Test.YtoogjnlmicgfiaaGreatDoorCards
import Derived.Test.YtoogjnlmicgfiaaGreatDoorTie
import Derived.ProofKit
import Derived.LaidMore
import Derived.Stop.Joined
import Derived.Lib.SmallJoins
import Derived.Deep.DeepHandedRow
namespace Go.Proofs.YtoogjnlmicgfiaaGreatDoor
set_option linter.unusedSimpArgs false
set_option linter.unusedVariables false
set_option linter.unusedSectionVars false
open Go.ChangeShapes Go.WideShapes Go.ChangeAt Go.RowKit Go.Joins

theorem commitKeeps_met (os : Os) (args : Array Value) : laidMetH Tryz.prog Rows.commitKeepsRow.laid ((World.doorLaid Tryz.prog 400 os).forCall (fun _ _ => 0) ⟨#[], args, []⟩).memory :=
  laidMetH_of_parts3 (fuel := 8) (laidMet_of_run' 8 (by kernel_rfl) (by kernel_rfl)) (by kernel_rfl) (by kernel_rfl)
theorem commitKeeps_reads (os : Os) {H : Type} (enc : TypeId × Value → H) : ∃ places, DataW.whole enc Tryz.prog ((World.doorLaid Tryz.prog 400 os).forCall (fun _ _ => 0) ⟨#[], #[.agg #[.slice none 0 0, .slice none 0 0], .slice none 0 0], []⟩).memory Tryz.f5.params.toList (OpenSpec.ofChange Rows.commitKeepsSpec).vars false (#[.agg #[.slice none 0 0, .slice none 0 0], .slice none 0 0] : Array Value).toList 8 = some ([.agg [.nil, .nil], .nil], [], places) :=
  ⟨[], by kernel_rfl⟩

set_option maxRecDepth 100000 in
set_option maxHeartbeats 1000000 in
theorem commitKeeps_lifted (os : Os) (started : os.Started) (H : Type) (enc : TypeId × Value → H) (F : Stop.Interp) :
    ReturnsInHanded {} Tryz.checked os 5 .any ((OpenSpec.ofChange Rows.commitKeepsSpec).preRow enc Tryz.prog Tryz.f5 Rows.commitKeepsRow.domain false Rows.commitKeepsRow.laid) (((OpenSpec.ofChange Rows.commitKeepsSpec).at F).post enc Tryz.prog Tryz.f5 false true false false) := by
  obtain ⟨places, hx⟩ := commitKeeps_reads os enc
  refine returnsInHanded_of_row (C := Tryz.checked) (s := (OpenSpec.ofChange Rows.commitKeepsSpec)) Tryz.own started (by kernel_rfl) Tryz.func5
    (witness_row_at (enc := enc) (C := Tryz.checked) false (World.doorLaid Tryz.prog 400 os) #[.agg #[.slice none 0 0, .slice none 0 0], .slice none 0 0] rfl (by kernel_rfl) (by kernel_rfl) (by kernel_rfl)
      (OpenSpec.preRow_of_cond 8 hx (by kernel_rfl) (fun k hk => by cases hk) (by kernel_rfl) (commitKeeps_met os _))) ?_
  intro W base args ds gs before hval0 hW _ hcond _ hL _ _
  have hval : ∀ (j : Nat) t v, Tryz.f5.params[j]? = some t → args[j]? = some v → Value.okWide Tryz.prog W .any base t v := hval0
  have hW' := hW
  obtain ⟨p, q, hA0, hV, rfl, hfz, hnd⟩ := hW
  have hA : DataW.TrodAll enc Tryz.prog W 0 (fun _ => true) true Tryz.f5.params.toList args.toList ds p := hA0
  rw [Tryz.params5] at hA hval
  clear hA0
  obtain ⟨v0, vs0, d0, ds0, p0, q0, hargs, rfl, rfl, h0, r0⟩ := trodAll_cons hA
  obtain ⟨v1, vs1, d1, ds1, p1, q1, rfl, rfl, rfl, h1, r1⟩ := trodAll_cons r0
  obtain ⟨rfl, rfl, rfl⟩ := trodAll_nil r1
  obtain rfl : args = #[v0, v1] := by cases args; simp_all
  obtain ⟨rfl, rfl⟩ := trodVars_none hV
  obtain ⟨cs0, rfl, _⟩ := okWide_struct Tryz.underlying45 (hval 0 45 v0 rfl rfl)
  obtain ⟨_, h0⟩ := h0
  obtain ⟨x0, k0, c0⟩ := oq_45.opens _ _ _ _ _ _ h0 (.inl rfl)
  obtain ⟨_, _, _, rfl⟩ := okWide_slice Tryz.underlying42 (hval 1 42 v1 rfl rfl)
  obtain ⟨_, h1⟩ := h1
  obtain ⟨x1, k1, c1⟩ := oq_42.opens _ _ _ _ _ _ h1 (.inl rfl)
  refine (Qon (Qf9 (rv := true) (Qi6 x0 x1)) (vals := [.agg cs0, _]) ⟨QoJ c0, QoK c1.1, trivial⟩).mono fun e W' ⟨he, hb⟩ => ?_
  exact ⟨_, he, Qom Tryz.laidOut (by kernel_rfl) rfl rfl rfl Tryz.underlying4 hW' hb⟩

theorem commitKeeps_said : Rows.CommitKeepsSaid :=
  OpenClaim.holds_of_cond 5 Tryz.f5 rfl rfl rfl rfl rfl rfl rfl ⟨rfl, rfl, rfl, rfl, rfl⟩ rfl rfl rfl rfl rfl (by kernel_rfl) Tryz.func5 (by kernel_rfl)
    (of_decide_eq_true (by kernel_rfl)) (by unfold Func.isWrapper; first | (rw [if_pos (by decide +kernel)]; kernel_rfl) | (rw [if_neg (by decide +kernel)]; exact ⟨rfl, rfl⟩))
    (fun os started H enc _ F => by rw [OpenClaim.pre_eq_preRow]; exact commitKeeps_lifted os started H enc F)
theorem commitKeeps_plainly (f : FuncId) (fn : Func) (hf : Tryz.pinned.checked.prog.funcNamed "lorry/lorrylaw44.CommitKeeps" = some f) (hfn : Tryz.pinned.checked.prog.funcs[f]? = some fn) :
    false = Tryz.pinned.checked.prog.looks [] ∧ ∀ (j : Nat) t, fn.params[j]? = some t → Tryz.pinned.checked.prog.wantsStandIn t = false := by
  obtain rfl : f = 5 := Option.some.inj ((show Tryz.prog.funcNamed "lorry/lorrylaw44.CommitKeeps" = some 5 by kernel_rfl).symm.trans hf) |>.symm
  obtain rfl : fn = Tryz.f5 := (Option.some.inj (Tryz.func5.symm.trans hfn)).symm
  refine ⟨by kernel_rfl, fun j t ht => ?_⟩
  rw [Tryz.params5] at ht
  have hm : t ∈ [45, 42] := by simpa using Array.mem_of_getElem? ht
  have hall : ([45, 42].all fun u => !Tryz.prog.wantsStandIn u) = true := by kernel_rfl
  exact (show Tryz.prog.wantsStandIn t = false by simpa using List.all_eq_true.1 hall t hm)
theorem commitKeeps_holds : Rows.CommitKeepsCardSaid :=
  Claim7.holds_tied_plain_at .later [] _ _ _ _ commitKeeps_said (fun _ h => by cases h) (by kernel_rfl) (fun _ h => by cases h) commitKeeps_row_tie rfl ⟨rfl, rfl⟩ (by kernel_rfl) rfl commitKeeps_plainly (by kernel_rfl)
#print axioms commitKeeps_holds
end Go.Proofs.YtoogjnlmicgfiaaGreatDoor
