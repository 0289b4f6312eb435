/- UW: reduce.QcL and reduce.QdX done kE change no more, Qa3 lie in Qv OF Qfy, for any instance, where WD is read is of QdY at xz 1048576. The tied Qd0. -/
import Derived.Test.YtbilkblifgaflaaGreatDoorMN
import Derived.Test.YtbilkblifgaflaaGreatDoorMW
import Derived.Test.YtbilkblifgaflaaGreatDoorMT
import Derived.Test.YtbilkblifgaflaaGreatDoorMR
import Derived.Test.YtbilkblifgaflaaGreatDoorCards
import Derived.Test.YtbilkblifgaflaaGreatDoorTie
import Derived.ProofKit
import Derived.LaidMore
import Derived.Stop.Joined
import Derived.Lib.SmallJoins
import Derived.Deep.DeepHandedRow
namespace Go.Proofs.YtbilkblifgaflaaGreatDoor
set_option linter.unusedSimpArgs false
set_option linter.unusedVariables false
set_option linter.unusedSectionVars false
open Go.ChangeShapes Go.WideShapes Go.ChangeAt Go.RowKit Go.Joins

theorem reduceNarrows_met(os:Os)(args:Array Value):laidMetH Tryz.prog Rows.reduceNarrowsUptoRow.laid ((World.doorLaid Tryz.prog 400 os).forCall (fun _ _ => 0) ⟨#[],args,[]⟩).memory:=
  laidMetH_of_parts3 (fuel:= 8) (laidMet_of_run' 8 (by kernel_rfl) (by kernel_rfl)) (by kernel_rfl) (by kernel_rfl)
theorem reduceNarrows_reads(os:Os){H:Type}(enc:TypeId × Value→H): ∃av,DataW.whole enc Tryz.prog ((World.doorLaid Tryz.prog 400 os).forCall (fun _ _ => 0) ⟨#[], #[.agg #[.slice none 0 0, .slice none 0 0, .slice none 0 0, .slice none 0 0, .slice none 0 0, .slice none 0 0]],[]⟩).memory Tryz.f7.params.toList (Rows.OpenSpec.upto Rows.reduceNarrowsSpec).vars false (#[.agg #[.slice none 0 0, .slice none 0 0, .slice none 0 0, .slice none 0 0, .slice none 0 0, .slice none 0 0]]:Array Value).toList 8 = some ([.agg [.agg [.nil, .nil], .nil, .nil, .nil, .nil]],[],av):=
  ⟨[],by kernel_rfl⟩

set_option maxRecDepth 100000 in
set_option maxHeartbeats 1000000 in
theorem reduceNarrows_lifted(os:Os)(started:os.Started)(H:Type)(enc:TypeId × Value→H)(F:Stop.Interp):
    ReturnsInHanded {} Tryz.checked os 7 .any ((Rows.OpenSpec.upto Rows.reduceNarrowsSpec).preRow enc Tryz.prog Tryz.f7 Rows.reduceNarrowsUptoRow.domain false Rows.reduceNarrowsUptoRow.laid) (((Rows.OpenSpec.upto Rows.reduceNarrowsSpec).at F).post enc Tryz.prog Tryz.f7 false true false false):= by
  obtain⟨av,hx⟩:= reduceNarrows_reads os enc;refine returnsInHanded_of_row (C:= Tryz.checked) (s:=(Rows.OpenSpec.upto Rows.reduceNarrowsSpec)) Tryz.own started (by kernel_rfl) Tryz.func7
    (witness_row_at (enc:= enc) (C:= Tryz.checked) false (World.doorLaid Tryz.prog 400 os) #[.agg #[.slice none 0 0, .slice none 0 0, .slice none 0 0, .slice none 0 0, .slice none 0 0, .slice none 0 0]] rfl (by kernel_rfl) (by kernel_rfl) (by kernel_rfl)
      (OpenSpec.preRow_of_cond 8 hx (by kernel_rfl) (fun k hk => by cases hk;kernel_rfl) (by kernel_rfl) (reduceNarrows_met os _))) ?_
  intro W base args ds gs before ZY hW _ Zo _ hL _ _;have VW: ∀(j:Nat) t v,Tryz.f7.params[j]? = some t→args[j]? = some v→Value.okWide Tryz.prog W .any base t v:= ZY;have mw:= hW;obtain⟨p,q,hA0,hV,rfl,hfz,XY⟩:= hW;have hA:DataW.TrodAll enc Tryz.prog W 0 (fun _ => true) true Tryz.f7.params.toList args.toList ds p:= hA0
  rw[Tryz.params7]at hA VW;clear hA0;obtain⟨v0,vs0,d0,ds0,p0,q0,AM,rfl,rfl,h0,r0⟩:= trodAll_cons hA;obtain⟨rfl,rfl,rfl⟩:= trodAll_nil r0;obtain rfl:args = #[v0]:= by cases args;simp_all
  obtain⟨rfl,rfl⟩:= trodVars_none hV;have Zk:Rows.uptoBulkAll [d0]≤1048576:= of_decide_eq_true (Zo _ rfl);obtain⟨cs0,rfl,_⟩:= okWide_struct Tryz.underlying30 (VW 0 30 v0 rfl rfl);obtain⟨_,h0⟩:= h0;obtain⟨x0,k0,c0⟩:=(Qad).opens _ _ _ _ _ _ h0 (Fits.all (.inr Zk) (by simp))
  refine(Uk (by intro _ _ h;cases h) (vR (rv:= true) rfl (DC (Ue k0))) (oq:= [.agg cs0]) ⟨Vj c0,trivial⟩).mono fun e W' ⟨he,hb⟩ => ?_
  exact⟨_,he,Uj Tryz.laidOut (by kernel_rfl) rfl rfl rfl Tryz.underlying4 mw hb⟩

theorem reduceNarrows_said:Rows.ReduceNarrowsUptoSaid:=
  OpenClaim.holds_of_cond 7 Tryz.f7 rfl rfl rfl rfl rfl rfl rfl ⟨rfl,rfl,rfl,rfl,rfl⟩ rfl rfl rfl rfl rfl (by kernel_rfl) Tryz.func7 (by kernel_rfl)
    (of_decide_eq_true (by kernel_rfl)) (by unfold Func.isWrapper;first |(rw[if_pos (by decide +kernel)];kernel_rfl) |(rw[if_neg (by decide +kernel)];exact⟨rfl,rfl⟩))
    (fun os started H enc _ F => by rw[OpenClaim.pre_eq_preRow];exact reduceNarrows_lifted os started H enc F)
theorem reduceNarrows_plainly(f:FuncId)(fn:Func)(hf:Tryz.pinned.checked.prog.funcNamed "lorry/lorrylaw56.ReduceNarrows" = some f)(XR:Tryz.pinned.checked.prog.funcs[f]? = some fn):
    false = Tryz.pinned.checked.prog.looks []∧∀(j:Nat) t,fn.params[j]? = some t→Tryz.pinned.checked.prog.wantsStandIn t = false:= by
  obtain rfl:f = 7:= Option.some.inj ((show Tryz.prog.funcNamed "lorry/lorrylaw56.ReduceNarrows" = some 7 by kernel_rfl).symm.trans hf) |>.symm
  obtain rfl:fn = Tryz.f7:=(Option.some.inj (Tryz.func7.symm.trans XR)).symm;refine⟨by kernel_rfl,fun j t ht => ?_⟩
  rw[Tryz.params7]at ht;have hm:t∈[30]:= by simpa using Array.mem_of_getElem? ht
  have uw:([30].all fun u => !Tryz.prog.wantsStandIn u) = true:= by kernel_rfl
  exact(show Tryz.prog.wantsStandIn t = false by simpa using List.all_eq_true.1 uw t hm)
theorem reduceNarrows_holds:Rows.ReduceNarrowsUptoCardSaid:=
  Claim7.holds_tied_plain_at .later [] _ _ _ _ reduceNarrows_said (fun _ h => by cases h) (by kernel_rfl) (fun _ h => by cases h) reduceNarrowsUpto_row_tie rfl ⟨rfl,rfl⟩ (by kernel_rfl) rfl reduceNarrows_plainly (by kernel_rfl)
#print axioms reduceNarrows_holds
end Go.Proofs.YtbilkblifgaflaaGreatDoor
