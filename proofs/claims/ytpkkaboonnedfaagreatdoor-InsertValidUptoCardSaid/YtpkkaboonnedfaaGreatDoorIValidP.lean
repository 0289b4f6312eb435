/- InsertValid: Inserting an order that is not served into a right plan gives a right plan in which it is served, and the plan of Greedy is right, for any instance that is accepted with at most 4 orders, where what is read is of bulk at most 1048576. The tied card. -/
import Derived.Test.YtpkkaboonnedfaaGreatDoorMX
import Derived.Test.YtpkkaboonnedfaaGreatDoorMW
import Derived.Test.YtpkkaboonnedfaaGreatDoorMT
import Derived.Test.YtpkkaboonnedfaaGreatDoorMR
import Derived.Test.YtpkkaboonnedfaaGreatDoorCards
import Derived.Test.YtpkkaboonnedfaaGreatDoorTie
import Derived.ProofKit
import Derived.LaidMore
import Derived.Stop.Joined
import Derived.Lib.SmallJoins
import Derived.Deep.DeepHandedRow
namespace Go.Proofs.YtpkkaboonnedfaaGreatDoor
set_option linter.unusedSimpArgs false
set_option linter.unusedVariables false
set_option linter.unusedSectionVars false
open Go.ChangeShapes Go.WideShapes Go.ChangeAt Go.RowKit Go.Joins

theorem insertValid_met (os : Os) (args : Array Value) : laidMetH Tryz.prog Rows.insertValidUptoRow.laid ((World.doorLaid Tryz.prog 400 os).forCall (fun _ _ => 0) ⟨#[], args, []⟩).memory :=
  laidMetH_of_parts3 (fuel := 8) (laidMet_of_run' 8 (by kernel_rfl) (by kernel_rfl)) (by kernel_rfl) (by kernel_rfl)
theorem insertValid_reads (os : Os) {H : Type} (enc : TypeId × Value → H) : ∃ places, DataW.whole enc Tryz.prog ((World.doorLaid Tryz.prog 400 os).forCall (fun _ _ => 0) ⟨#[], #[.agg #[.slice none 0 0, .slice none 0 0, .slice none 0 0, .slice none 0 0, .slice none 0 0, .slice none 0 0], .agg #[.slice none 0 0, .slice none 0 0], .int .i64 0, .slice none 0 0], []⟩).memory Tryz.f7.params.toList (Rows.OpenSpec.upto Rows.insertValidSpec).vars false (#[.agg #[.slice none 0 0, .slice none 0 0, .slice none 0 0, .slice none 0 0, .slice none 0 0, .slice none 0 0], .agg #[.slice none 0 0, .slice none 0 0], .int .i64 0, .slice none 0 0] : Array Value).toList 8 = some ([.agg [.agg [.nil, .nil], .nil, .nil, .nil, .nil], .agg [.nil, .nil], .lit (.int .i64 0), .nil], [], places) :=
  ⟨[], by kernel_rfl⟩

set_option maxRecDepth 100000 in
set_option maxHeartbeats 1000000 in
theorem insertValid_lifted (os : Os) (started : os.Started) (H : Type) (enc : TypeId × Value → H) (F : Stop.Interp) :
    ReturnsInHanded {} Tryz.checked os 7 .any ((Rows.OpenSpec.upto Rows.insertValidSpec).preRow enc Tryz.prog Tryz.f7 Rows.insertValidUptoRow.domain false Rows.insertValidUptoRow.laid) (((Rows.OpenSpec.upto Rows.insertValidSpec).at F).post enc Tryz.prog Tryz.f7 false true false false) := by
  obtain ⟨places, hx⟩ := insertValid_reads os enc
  refine returnsInHanded_of_row (C := Tryz.checked) (s := (Rows.OpenSpec.upto Rows.insertValidSpec)) Tryz.own started (by kernel_rfl) Tryz.func7
    (witness_row_at (enc := enc) (C := Tryz.checked) false (World.doorLaid Tryz.prog 400 os) #[.agg #[.slice none 0 0, .slice none 0 0, .slice none 0 0, .slice none 0 0, .slice none 0 0, .slice none 0 0], .agg #[.slice none 0 0, .slice none 0 0], .int .i64 0, .slice none 0 0] rfl (by kernel_rfl) (by kernel_rfl) (by kernel_rfl)
      (OpenSpec.preRow_of_cond 8 hx (by kernel_rfl) (fun k hk => by cases hk; kernel_rfl) (by kernel_rfl) (insertValid_met os _))) ?_
  intro W base args ds gs before hval0 hW _ hcond _ hL _ _
  have hval : ∀ (j : Nat) t v, Tryz.f7.params[j]? = some t → args[j]? = some v → Value.okWide Tryz.prog W .any base t v := hval0
  have hW' := hW
  obtain ⟨p, q, hA0, hV, rfl, hfz, hnd⟩ := hW
  have hA : DataW.TrodAll enc Tryz.prog W 0 (fun _ => true) true Tryz.f7.params.toList args.toList ds p := hA0
  rw [Tryz.params7] at hA hval
  clear hA0
  obtain ⟨v0, vs0, d0, ds0, p0, q0, hargs, rfl, rfl, h0, r0⟩ := trodAll_cons hA
  obtain ⟨v1, vs1, d1, ds1, p1, q1, rfl, rfl, rfl, h1, r1⟩ := trodAll_cons r0
  obtain ⟨v2, vs2, d2, ds2, p2, q2, rfl, rfl, rfl, h2, r2⟩ := trodAll_cons r1
  obtain ⟨v3, vs3, d3, ds3, p3, q3, rfl, rfl, rfl, h3, r3⟩ := trodAll_cons r2
  obtain ⟨rfl, rfl, rfl⟩ := trodAll_nil r3
  obtain rfl : args = #[v0, v1, v2, v3] := by cases args; simp_all
  obtain ⟨rfl, rfl⟩ := trodVars_none hV
  have hbulk : Rows.uptoBulkAll [d0, d1, d2, d3] ≤ 1048576 := of_decide_eq_true (hcond _ rfl)
  obtain ⟨cs0, rfl, _⟩ := okWide_struct Tryz.underlying30 (hval 0 30 v0 rfl rfl)
  obtain ⟨_, h0⟩ := h0
  obtain ⟨x0, k0, c0⟩ := (oq_30).opens _ _ _ _ _ _ h0 (Fits.all (.inr hbulk) (by simp))
  obtain ⟨cs1, rfl, _⟩ := okWide_struct Tryz.underlying44 (hval 1 44 v1 rfl rfl)
  obtain ⟨_, h1⟩ := h1
  obtain ⟨x1, k1, c1⟩ := (oq_44).opens _ _ _ _ _ _ h1 (Fits.all (.inr hbulk) (by simp))
  obtain ⟨x2, rfl, rfl, rfl, k2⟩ := open_int Tryz.underlying3 (hval 2 3 v2 rfl rfl) h2
  replace k2 := Qtx k2
  obtain ⟨_, _, _, rfl⟩ := okWide_slice Tryz.underlying42 (hval 3 42 v3 rfl rfl)
  obtain ⟨_, h3⟩ := h3
  obtain ⟨x3, k3, c3⟩ := (oq_42).opens _ _ _ _ _ _ h3 (Fits.all (.inr hbulk) (by simp))
  refine (QAo (Qml (rv := true) (QqO x0 (QAi k0) x1 (QAE k1) x2 x3 k3.1)) (vals := [.agg cs0, .agg cs1, .int .i64 x2, _]) ⟨Qzh c0, Qzh c1, Qzi (.int _ _), Qzi c3.1, trivial⟩).mono fun e W' ⟨he, hb⟩ => ?_
  exact ⟨_, he, QAn Tryz.laidOut (by kernel_rfl) rfl rfl rfl Tryz.underlying4 hW' hb⟩

theorem insertValid_said : Rows.InsertValidUptoSaid :=
  OpenClaim.holds_of_cond 7 Tryz.f7 rfl rfl rfl rfl rfl rfl rfl ⟨rfl, rfl, rfl, rfl, rfl⟩ rfl rfl rfl rfl rfl (by kernel_rfl) Tryz.func7 (by kernel_rfl)
    (of_decide_eq_true (by kernel_rfl)) (by unfold Func.isWrapper; first | (rw [if_pos (by decide +kernel)]; kernel_rfl) | (rw [if_neg (by decide +kernel)]; exact ⟨rfl, rfl⟩))
    (fun os started H enc _ F => by rw [OpenClaim.pre_eq_preRow]; exact insertValid_lifted os started H enc F)
theorem insertValid_plainly (f : FuncId) (fn : Func) (hf : Tryz.pinned.checked.prog.funcNamed "lorry/lorrylaw41.InsertValid" = some f) (hfn : Tryz.pinned.checked.prog.funcs[f]? = some fn) :
    false = Tryz.pinned.checked.prog.looks [] ∧ ∀ (j : Nat) t, fn.params[j]? = some t → Tryz.pinned.checked.prog.wantsStandIn t = false := by
  obtain rfl : f = 7 := Option.some.inj ((show Tryz.prog.funcNamed "lorry/lorrylaw41.InsertValid" = some 7 by kernel_rfl).symm.trans hf) |>.symm
  obtain rfl : fn = Tryz.f7 := (Option.some.inj (Tryz.func7.symm.trans hfn)).symm
  refine ⟨by kernel_rfl, fun j t ht => ?_⟩
  rw [Tryz.params7] at ht
  have hm : t ∈ [30, 44, 3, 42] := by simpa using Array.mem_of_getElem? ht
  have hall : ([30, 44, 3, 42].all fun u => !Tryz.prog.wantsStandIn u) = true := by kernel_rfl
  exact (show Tryz.prog.wantsStandIn t = false by simpa using List.all_eq_true.1 hall t hm)
theorem insertValid_holds : Rows.InsertValidUptoCardSaid :=
  Claim7.holds_tied_plain_at .later [] _ _ _ _ insertValid_said (fun _ h => by cases h) (by kernel_rfl) (fun _ h => by cases h) insertValidUpto_row_tie rfl ⟨rfl, rfl⟩ (by kernel_rfl) rfl insertValid_plainly (by kernel_rfl)
#print axioms insertValid_holds
end Go.Proofs.YtpkkaboonnedfaaGreatDoor
