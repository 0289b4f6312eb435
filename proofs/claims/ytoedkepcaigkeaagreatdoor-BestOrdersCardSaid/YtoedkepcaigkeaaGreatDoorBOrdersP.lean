/- BestOrders: Which columns are better, and which are the same, for columns of at most 10 visits and rests each. The tied card, in full. -/
import Derived.Test.YtoedkepcaigkeaaGreatDoorMX
import Derived.Test.YtoedkepcaigkeaaGreatDoorMW
import Derived.Test.YtoedkepcaigkeaaGreatDoorMT
import Derived.Test.YtoedkepcaigkeaaGreatDoorMR
import Derived.Test.YtoedkepcaigkeaaGreatDoorCards
import Derived.Test.YtoedkepcaigkeaaGreatDoorTie
import Derived.ProofKit
import Derived.LaidMore
import Derived.Stop.Joined
import Derived.Lib.SmallJoins
import Derived.Deep.DeepHandedRow
namespace Go.Proofs.YtoedkepcaigkeaaGreatDoor
set_option linter.unusedSimpArgs false
set_option linter.unusedVariables false
set_option linter.unusedSectionVars false
open Go.ChangeShapes Go.WideShapes Go.ChangeAt Go.RowKit Go.Joins

theorem bestOrders_met (os : Os) (args : Array Value) : laidMetH Tryz.prog Rows.bestOrdersRow.laid ((World.doorLaid Tryz.prog 400 os).forCall (fun _ _ => 0) ⟨#[], args, []⟩).memory :=
  laidMetH_of_parts3 (fuel := 8) (laidMet_of_run' 8 (by kernel_rfl) (by kernel_rfl)) (by kernel_rfl) (by kernel_rfl)
theorem bestOrders_reads (os : Os) {H : Type} (enc : TypeId × Value → H) : ∃ places, DataW.whole enc Tryz.prog ((World.doorLaid Tryz.prog 400 os).forCall (fun _ _ => 0) ⟨#[], #[.agg #[.int .i64 0, .int .i64 0, .int .i64 0, .int .i64 0, .int .i64 0, .slice none 0 0, .slice none 0 0], .agg #[.int .i64 0, .int .i64 0, .int .i64 0, .int .i64 0, .int .i64 0, .slice none 0 0, .slice none 0 0]], []⟩).memory Tryz.f10.params.toList (OpenSpec.ofChange Rows.bestOrdersSpec).vars false (#[.agg #[.int .i64 0, .int .i64 0, .int .i64 0, .int .i64 0, .int .i64 0, .slice none 0 0, .slice none 0 0], .agg #[.int .i64 0, .int .i64 0, .int .i64 0, .int .i64 0, .int .i64 0, .slice none 0 0, .slice none 0 0]] : Array Value).toList 8 = some ([.agg [.lit (.int .i64 0), .lit (.int .i64 0), .lit (.int .i64 0), .agg [.lit (.int .i64 0), .lit (.int .i64 0), .nil, .nil]], .agg [.lit (.int .i64 0), .lit (.int .i64 0), .lit (.int .i64 0), .agg [.lit (.int .i64 0), .lit (.int .i64 0), .nil, .nil]]], [], places) :=
  ⟨[], by kernel_rfl⟩

set_option maxRecDepth 100000 in
set_option maxHeartbeats 1000000 in
theorem bestOrders_lifted (os : Os) (started : os.Started) (H : Type) (enc : TypeId × Value → H) (F : Stop.Interp) :
    ReturnsInHanded {} Tryz.checked os 10 .any ((OpenSpec.ofChange Rows.bestOrdersSpec).preRow enc Tryz.prog Tryz.f10 Rows.bestOrdersRow.domain false Rows.bestOrdersRow.laid) (((OpenSpec.ofChange Rows.bestOrdersSpec).at F).post enc Tryz.prog Tryz.f10 false true false false) := by
  obtain ⟨places, hx⟩ := bestOrders_reads os enc
  refine returnsInHanded_of_row (C := Tryz.checked) (s := (OpenSpec.ofChange Rows.bestOrdersSpec)) Tryz.own started (by kernel_rfl) Tryz.func10
    (witness_row_at (enc := enc) (C := Tryz.checked) false (World.doorLaid Tryz.prog 400 os) #[.agg #[.int .i64 0, .int .i64 0, .int .i64 0, .int .i64 0, .int .i64 0, .slice none 0 0, .slice none 0 0], .agg #[.int .i64 0, .int .i64 0, .int .i64 0, .int .i64 0, .int .i64 0, .slice none 0 0, .slice none 0 0]] rfl (by kernel_rfl) (by kernel_rfl) (by kernel_rfl)
      (OpenSpec.preRow_of_cond 8 hx (by kernel_rfl) (fun k hk => by cases hk) (by kernel_rfl) (bestOrders_met os _))) ?_
  intro W base args ds gs before hval0 hW _ hcond _ hL _ _
  have hval : ∀ (j : Nat) t v, Tryz.f10.params[j]? = some t → args[j]? = some v → Value.okWide Tryz.prog W .any base t v := hval0
  have hW' := hW
  obtain ⟨p, q, hA0, hV, rfl, hfz, hnd⟩ := hW
  have hA : DataW.TrodAll enc Tryz.prog W 0 (fun _ => true) true Tryz.f10.params.toList args.toList ds p := hA0
  rw [Tryz.params10] at hA hval
  clear hA0
  obtain ⟨v0, vs0, d0, ds0, p0, q0, hargs, rfl, rfl, h0, r0⟩ := trodAll_cons hA
  obtain ⟨v1, vs1, d1, ds1, p1, q1, rfl, rfl, rfl, h1, r1⟩ := trodAll_cons r0
  obtain ⟨rfl, rfl, rfl⟩ := trodAll_nil r1
  obtain rfl : args = #[v0, v1] := by cases args; simp_all
  obtain ⟨rfl, rfl⟩ := trodVars_none hV
  obtain ⟨cs0, rfl, _⟩ := okWide_struct Tryz.underlying45 (hval 0 45 v0 rfl rfl)
  obtain ⟨_, h0⟩ := h0
  obtain ⟨x0, k0, c0⟩ := oq_45.opens _ _ _ _ _ _ h0 (.inl rfl)
  obtain ⟨cs1, rfl, _⟩ := okWide_struct Tryz.underlying45 (hval 1 45 v1 rfl rfl)
  obtain ⟨_, h1⟩ := h1
  obtain ⟨x1, k1, c1⟩ := oq_45.opens _ _ _ _ _ _ h1 (.inl rfl)
  refine (Qww (QpF (rv := true) (QuL x0 x1)) (vals := [.agg cs0, .agg cs1]) ⟨Qw0 c0, Qw0 c1, trivial⟩).mono fun e W' ⟨he, hb⟩ => ?_
  exact ⟨_, he, Qwv Tryz.laidOut (by kernel_rfl) rfl rfl rfl Tryz.underlying4 hW' hb⟩

theorem bestOrders_said : Rows.BestOrdersSaid :=
  OpenClaim.holds_of_cond 10 Tryz.f10 rfl rfl rfl rfl rfl rfl rfl ⟨rfl, rfl, rfl, rfl, rfl⟩ rfl rfl rfl rfl rfl (by kernel_rfl) Tryz.func10 (by kernel_rfl)
    (of_decide_eq_true (by kernel_rfl)) (by unfold Func.isWrapper; first | (rw [if_pos (by decide +kernel)]; kernel_rfl) | (rw [if_neg (by decide +kernel)]; exact ⟨rfl, rfl⟩))
    (fun os started H enc _ F => by rw [OpenClaim.pre_eq_preRow]; exact bestOrders_lifted os started H enc F)
theorem bestOrders_plainly (f : FuncId) (fn : Func) (hf : Tryz.pinned.checked.prog.funcNamed "lorry/lorrylaw22.BestOrders" = some f) (hfn : Tryz.pinned.checked.prog.funcs[f]? = some fn) :
    false = Tryz.pinned.checked.prog.looks [] ∧ ∀ (j : Nat) t, fn.params[j]? = some t → Tryz.pinned.checked.prog.wantsStandIn t = false := by
  obtain rfl : f = 10 := Option.some.inj ((show Tryz.prog.funcNamed "lorry/lorrylaw22.BestOrders" = some 10 by kernel_rfl).symm.trans hf) |>.symm
  obtain rfl : fn = Tryz.f10 := (Option.some.inj (Tryz.func10.symm.trans hfn)).symm
  refine ⟨by kernel_rfl, fun j t ht => ?_⟩
  rw [Tryz.params10] at ht
  have hm : t ∈ [45, 45] := by simpa using Array.mem_of_getElem? ht
  have hall : ([45, 45].all fun u => !Tryz.prog.wantsStandIn u) = true := by kernel_rfl
  exact (show Tryz.prog.wantsStandIn t = false by simpa using List.all_eq_true.1 hall t hm)
theorem bestOrders_holds : Rows.BestOrdersCardSaid :=
  Claim7.holds_tied_plain_at .later [] _ _ _ _ bestOrders_said (fun _ h => by cases h) (by kernel_rfl) (fun _ h => by cases h) bestOrders_row_tie rfl ⟨rfl, rfl⟩ (by kernel_rfl) rfl bestOrders_plainly (by kernel_rfl)
#print axioms bestOrders_holds
end Go.Proofs.YtoedkepcaigkeaaGreatDoor
