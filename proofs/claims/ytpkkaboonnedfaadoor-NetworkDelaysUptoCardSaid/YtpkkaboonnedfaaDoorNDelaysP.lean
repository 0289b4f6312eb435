/- NetworkDelays: A delayed arc takes exactly so many ticks more for departures from a tick on, and as many as before for earlier ones, and all other arcs are unchanged, for any right network of at most 60 arcs, where what is read is of bulk at most 1048576. The tied card. -/
import Derived.Test.YtpkkaboonnedfaaDoorMX
import Derived.Test.YtpkkaboonnedfaaDoorMU
import Derived.Test.YtpkkaboonnedfaaDoorMT
import Derived.Test.YtpkkaboonnedfaaDoorMP
import Derived.Test.YtpkkaboonnedfaaDoorCards
import Derived.Test.YtpkkaboonnedfaaDoorTie
import Derived.ProofKit
import Derived.LaidMore
import Derived.Stop.Joined
import Derived.Lib.SmallJoins
import Derived.Deep.DeepHandedRow
namespace Go.Proofs.YtpkkaboonnedfaaDoor
set_option linter.unusedSimpArgs false
set_option linter.unusedVariables false
set_option linter.unusedSectionVars false
open Go.ChangeShapes Go.WideShapes Go.ChangeAt Go.RowKit Go.Joins

theorem networkDelays_met (os : Os) (args : Array Value) : laidMetH Tryd.prog Rows.networkDelaysUptoRow.laid ((World.doorLaid Tryd.prog 400 os).forCall (fun _ _ => 0) ⟨#[], args, []⟩).memory :=
  laidMetH_of_parts3 (fuel := 8) (laidMet_of_run' 8 (by kernel_rfl) (by kernel_rfl)) (by kernel_rfl) (by kernel_rfl)
theorem networkDelays_reads (os : Os) {H : Type} (enc : TypeId × Value → H) : ∃ places, DataW.whole enc Tryd.prog ((World.doorLaid Tryd.prog 400 os).forCall (fun _ _ => 0) ⟨#[], #[.agg #[.slice none 0 0, .slice none 0 0], .int .i64 0, .int .i64 0, .int .i64 0, .int .i64 0, .int .u16 0], []⟩).memory Tryd.f4.params.toList (Rows.OpenSpec.upto Rows.networkDelaysSpec).vars false (#[.agg #[.slice none 0 0, .slice none 0 0], .int .i64 0, .int .i64 0, .int .i64 0, .int .i64 0, .int .u16 0] : Array Value).toList 8 = some ([.agg [.nil, .nil], .lit (.int .i64 0), .lit (.int .i64 0), .lit (.int .i64 0), .lit (.int .i64 0), .lit (.int .u16 0)], [], places) :=
  ⟨[], by kernel_rfl⟩

set_option maxRecDepth 100000 in
set_option maxHeartbeats 1000000 in
theorem networkDelays_lifted (os : Os) (started : os.Started) (H : Type) (enc : TypeId × Value → H) (F : Stop.Interp) :
    ReturnsInHanded {} Tryd.checked os 4 .any ((Rows.OpenSpec.upto Rows.networkDelaysSpec).preRow enc Tryd.prog Tryd.f4 Rows.networkDelaysUptoRow.domain false Rows.networkDelaysUptoRow.laid) (((Rows.OpenSpec.upto Rows.networkDelaysSpec).at F).post enc Tryd.prog Tryd.f4 false true false false) := by
  obtain ⟨places, hx⟩ := networkDelays_reads os enc
  refine returnsInHanded_of_row (C := Tryd.checked) (s := (Rows.OpenSpec.upto Rows.networkDelaysSpec)) Tryd.own started (by kernel_rfl) Tryd.func4
    (witness_row_at (enc := enc) (C := Tryd.checked) false (World.doorLaid Tryd.prog 400 os) #[.agg #[.slice none 0 0, .slice none 0 0], .int .i64 0, .int .i64 0, .int .i64 0, .int .i64 0, .int .u16 0] rfl (by kernel_rfl) (by kernel_rfl) (by kernel_rfl)
      (OpenSpec.preRow_of_cond 8 hx (by kernel_rfl) (fun k hk => by cases hk; kernel_rfl) (by kernel_rfl) (networkDelays_met os _))) ?_
  intro W base args ds gs before hval0 hW _ hcond _ hL _ _
  have hval : ∀ (j : Nat) t v, Tryd.f4.params[j]? = some t → args[j]? = some v → Value.okWide Tryd.prog W .any base t v := hval0
  have hW' := hW
  obtain ⟨p, q, hA0, hV, rfl, hfz, hnd⟩ := hW
  have hA : DataW.TrodAll enc Tryd.prog W 0 (fun _ => true) true Tryd.f4.params.toList args.toList ds p := hA0
  rw [Tryd.params4] at hA hval
  clear hA0
  obtain ⟨v0, vs0, d0, ds0, p0, q0, hargs, rfl, rfl, h0, r0⟩ := trodAll_cons hA
  obtain ⟨v1, vs1, d1, ds1, p1, q1, rfl, rfl, rfl, h1, r1⟩ := trodAll_cons r0
  obtain ⟨v2, vs2, d2, ds2, p2, q2, rfl, rfl, rfl, h2, r2⟩ := trodAll_cons r1
  obtain ⟨v3, vs3, d3, ds3, p3, q3, rfl, rfl, rfl, h3, r3⟩ := trodAll_cons r2
  obtain ⟨v4, vs4, d4, ds4, p4, q4, rfl, rfl, rfl, h4, r4⟩ := trodAll_cons r3
  obtain ⟨v5, vs5, d5, ds5, p5, q5, rfl, rfl, rfl, h5, r5⟩ := trodAll_cons r4
  obtain ⟨rfl, rfl, rfl⟩ := trodAll_nil r5
  obtain rfl : args = #[v0, v1, v2, v3, v4, v5] := by cases args; simp_all
  obtain ⟨rfl, rfl⟩ := trodVars_none hV
  have hbulk : Rows.uptoBulkAll [d0, d1, d2, d3, d4, d5] ≤ 1048576 := of_decide_eq_true (hcond _ rfl)
  obtain ⟨cs0, rfl, _⟩ := okWide_struct Tryd.underlying25 (hval 0 25 v0 rfl rfl)
  obtain ⟨_, h0⟩ := h0
  obtain ⟨x0, k0, c0⟩ := (oq_25).opens _ _ _ _ _ _ h0 (Fits.all (.inr hbulk) (by simp))
  obtain ⟨x1, rfl, rfl, rfl, k1⟩ := open_int Tryd.underlying3 (hval 1 3 v1 rfl rfl) h1
  replace k1 := QeF k1
  obtain ⟨x2, rfl, rfl, rfl, k2⟩ := open_int Tryd.underlying3 (hval 2 3 v2 rfl rfl) h2
  replace k2 := QeF k2
  obtain ⟨x3, rfl, rfl, rfl, k3⟩ := open_int Tryd.underlying3 (hval 3 3 v3 rfl rfl) h3
  replace k3 := QeF k3
  obtain ⟨x4, rfl, rfl, rfl, k4⟩ := open_int Tryd.underlying3 (hval 4 3 v4 rfl rfl) h4
  replace k4 := QeF k4
  obtain ⟨x5, rfl, rfl, rfl, k5⟩ := open_int Tryd.underlying33 (hval 5 33 v5 rfl rfl) h5
  refine (Qld (QdN (rv := true) (Qfq x0 (QlL k0) x1 x2 x3 x4 x5 (Ql0 k5))) (vals := [.agg cs0, .int .i64 x1, .int .i64 x2, .int .i64 x3, .int .i64 x4, .int .u16 x5]) ⟨Qlx c0, Qht (.int _ _), Qht (.int _ _), Qht (.int _ _), Qht (.int _ _), Qht (.int _ _), trivial⟩).mono fun e W' ⟨he, hb⟩ => ?_
  exact ⟨_, he, Qlc Tryd.laidOut (by kernel_rfl) rfl rfl rfl Tryd.underlying4 hW' hb⟩

theorem networkDelays_said : Rows.NetworkDelaysUptoSaid :=
  OpenClaim.holds_of_cond 4 Tryd.f4 rfl rfl rfl rfl rfl rfl rfl ⟨rfl, rfl, rfl, rfl, rfl⟩ rfl rfl rfl rfl rfl (by kernel_rfl) Tryd.func4 (by kernel_rfl)
    (of_decide_eq_true (by kernel_rfl)) (by unfold Func.isWrapper; first | (rw [if_pos (by decide +kernel)]; kernel_rfl) | (rw [if_neg (by decide +kernel)]; exact ⟨rfl, rfl⟩))
    (fun os started H enc _ F => by rw [OpenClaim.pre_eq_preRow]; exact networkDelays_lifted os started H enc F)
theorem networkDelays_plainly (f : FuncId) (fn : Func) (hf : Tryd.pinned.checked.prog.funcNamed "lorry/lorrylaw09.NetworkDelays" = some f) (hfn : Tryd.pinned.checked.prog.funcs[f]? = some fn) :
    false = Tryd.pinned.checked.prog.looks [] ∧ ∀ (j : Nat) t, fn.params[j]? = some t → Tryd.pinned.checked.prog.wantsStandIn t = false := by
  obtain rfl : f = 4 := Option.some.inj ((show Tryd.prog.funcNamed "lorry/lorrylaw09.NetworkDelays" = some 4 by kernel_rfl).symm.trans hf) |>.symm
  obtain rfl : fn = Tryd.f4 := (Option.some.inj (Tryd.func4.symm.trans hfn)).symm
  refine ⟨by kernel_rfl, fun j t ht => ?_⟩
  rw [Tryd.params4] at ht
  have hm : t ∈ [25, 3, 3, 3, 3, 33] := by simpa using Array.mem_of_getElem? ht
  have hall : ([25, 3, 3, 3, 3, 33].all fun u => !Tryd.prog.wantsStandIn u) = true := by kernel_rfl
  exact (show Tryd.prog.wantsStandIn t = false by simpa using List.all_eq_true.1 hall t hm)
theorem networkDelays_holds : Rows.NetworkDelaysUptoCardSaid :=
  Claim7.holds_tied_plain_at .later [] _ _ _ _ networkDelays_said (fun _ h => by cases h) (by kernel_rfl) (fun _ h => by cases h) networkDelaysUpto_row_tie rfl ⟨rfl, rfl⟩ (by kernel_rfl) rfl networkDelays_plainly (by kernel_rfl)
#print axioms networkDelays_holds
end Go.Proofs.YtpkkaboonnedfaaDoor
