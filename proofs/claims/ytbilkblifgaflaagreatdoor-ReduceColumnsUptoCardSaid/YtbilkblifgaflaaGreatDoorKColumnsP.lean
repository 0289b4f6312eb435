/- QhB: reduce.Reduce leaves all QoA, for any instance, where Qhu is read is of Qsn at C5 1048576. The tied Qsq. -/
import Derived.Test.YtbilkblifgaflaaGreatDoorMY
import Derived.Test.YtbilkblifgaflaaGreatDoorMW
import Derived.Test.YtbilkblifgaflaaGreatDoorMT
import Derived.Test.YtbilkblifgaflaaGreatDoorMR
import Derived.Test.YtbilkblifgaflaaGreatDoorCards
import Derived.Test.YtbilkblifgaflaaGreatDoorTie
import Derived.ProofKit
import Derived.LaidMore
import Derived.Stop.Joined
import Derived.Lib.SmallJoins
import Derived.Deep.DeepHandedRow
namespace Go.Proofs.YtbilkblifgaflaaGreatDoor
set_option linter.unusedSimpArgs false
set_option linter.unusedVariables false
set_option linter.unusedSectionVars false
open Go.ChangeShapes Go.WideShapes Go.ChangeAt Go.RowKit Go.Joins

theorem reduceColumns_met(os:Os)(args:Array Value):laidMetH Tryz.prog Rows.reduceColumnsUptoRow.laid ((World.doorLaid Tryz.prog 400 os).forCall (fun _ _ => 0) ⟨#[],args,[]⟩).memory:=
  laidMetH_of_parts3 (fuel:= 8) (laidMet_of_run' 8 (by kernel_rfl) (by kernel_rfl)) (by kernel_rfl) (by kernel_rfl)
theorem reduceColumns_reads(os:Os){H:Type}(enc:TypeId × Value→H): ∃aD,DataW.whole enc Tryz.prog ((World.doorLaid Tryz.prog 400 os).forCall (fun _ _ => 0) ⟨#[], #[.agg #[.slice none 0 0, .slice none 0 0, .slice none 0 0, .slice none 0 0, .slice none 0 0, .slice none 0 0]],[]⟩).memory Tryz.f6.params.toList (Rows.OpenSpec.upto Rows.reduceColumnsSpec).vars false (#[.agg #[.slice none 0 0, .slice none 0 0, .slice none 0 0, .slice none 0 0, .slice none 0 0, .slice none 0 0]]:Array Value).toList 8 = some ([.agg [.agg [.nil, .nil], .nil, .nil, .nil, .nil]],[],aD):=
  ⟨[],by kernel_rfl⟩

set_option maxRecDepth 100000 in
set_option maxHeartbeats 1000000 in
theorem reduceColumns_lifted(os:Os)(started:os.Started)(H:Type)(enc:TypeId × Value→H)(F:Stop.Interp):
    ReturnsInHanded {} Tryz.checked os 6 .any ((Rows.OpenSpec.upto Rows.reduceColumnsSpec).preRow enc Tryz.prog Tryz.f6 Rows.reduceColumnsUptoRow.domain false Rows.reduceColumnsUptoRow.laid) (((Rows.OpenSpec.upto Rows.reduceColumnsSpec).at F).post enc Tryz.prog Tryz.f6 false true false false):= by
  obtain⟨aD,hx⟩:= reduceColumns_reads os enc;refine returnsInHanded_of_row (C:= Tryz.checked) (s:=(Rows.OpenSpec.upto Rows.reduceColumnsSpec)) Tryz.own started (by kernel_rfl) Tryz.func6
    (witness_row_at (enc:= enc) (C:= Tryz.checked) false (World.doorLaid Tryz.prog 400 os) #[.agg #[.slice none 0 0, .slice none 0 0, .slice none 0 0, .slice none 0 0, .slice none 0 0, .slice none 0 0]] rfl (by kernel_rfl) (by kernel_rfl) (by kernel_rfl)
      (OpenSpec.preRow_of_cond 8 hx (by kernel_rfl) (fun k hk => by cases hk;kernel_rfl) (by kernel_rfl) (reduceColumns_met os _))) ?_
  intro W base args ds gs before QnW hW _ Ji _ hL _ _;have QaQ: ∀(j:Nat) t v,Tryz.f6.params[j]? = some t→args[j]? = some v→Value.okWide Tryz.prog W .any base t v:= QnW;have sN:= hW;obtain⟨p,q,hA0,hV,rfl,hfz,hnd⟩:= hW;have hA:DataW.TrodAll enc Tryz.prog W 0 (fun _ => true) true Tryz.f6.params.toList args.toList ds p:= hA0
  rw[Tryz.params6]at hA QaQ;clear hA0;obtain⟨v0,vs0,d0,ds0,p0,q0,Hl,rfl,rfl,h0,r0⟩:= trodAll_cons hA;obtain⟨rfl,rfl,rfl⟩:= trodAll_nil r0;obtain rfl:args = #[v0]:= by cases args;simp_all
  obtain⟨rfl,rfl⟩:= trodVars_none hV;have Qne:Rows.uptoBulkAll [d0]≤1048576:= of_decide_eq_true (Ji _ rfl);obtain⟨cs0,rfl,_⟩:= okWide_struct Tryz.underlying30 (QaQ 0 30 v0 rfl rfl);obtain⟨_,h0⟩:= h0;obtain⟨x0,k0,c0⟩:=(Qoe).opens _ _ _ _ _ _ h0 (Fits.all (.inr Qne) (by simp))
  refine(QgD (Bi (rv:= true) (La (Qgv k0))) (uc:= [.agg cs0]) ⟨Qh2 c0,trivial⟩).mono fun e W' ⟨he,hb⟩ => ?_
  exact⟨_,he,QgC Tryz.laidOut (by kernel_rfl) rfl rfl rfl Tryz.underlying4 sN hb⟩

theorem reduceColumns_said:Rows.ReduceColumnsUptoSaid:=
  OpenClaim.holds_of_cond 6 Tryz.f6 rfl rfl rfl rfl rfl rfl rfl ⟨rfl,rfl,rfl,rfl,rfl⟩ rfl rfl rfl rfl rfl (by kernel_rfl) Tryz.func6 (by kernel_rfl)
    (of_decide_eq_true (by kernel_rfl)) (by unfold Func.isWrapper;first |(rw[if_pos (by decide +kernel)];kernel_rfl) |(rw[if_neg (by decide +kernel)];exact⟨rfl,rfl⟩))
    (fun os started H enc _ F => by rw[OpenClaim.pre_eq_preRow];exact reduceColumns_lifted os started H enc F)
theorem reduceColumns_plainly(f:FuncId)(fn:Func)(hf:Tryz.pinned.checked.prog.funcNamed "lorry/lorrylaw56.ReduceColumns" = some f)(hfn:Tryz.pinned.checked.prog.funcs[f]? = some fn):
    false = Tryz.pinned.checked.prog.looks []∧∀(j:Nat) t,fn.params[j]? = some t→Tryz.pinned.checked.prog.wantsStandIn t = false:= by
  obtain rfl:f = 6:= Option.some.inj ((show Tryz.prog.funcNamed "lorry/lorrylaw56.ReduceColumns" = some 6 by kernel_rfl).symm.trans hf) |>.symm
  obtain rfl:fn = Tryz.f6:=(Option.some.inj (Tryz.func6.symm.trans hfn)).symm;refine⟨by kernel_rfl,fun j t ht => ?_⟩
  rw[Tryz.params6]at ht;have hm:t∈[30]:= by simpa using Array.mem_of_getElem? ht
  have vb:([30].all fun u => !Tryz.prog.wantsStandIn u) = true:= by kernel_rfl
  exact(show Tryz.prog.wantsStandIn t = false by simpa using List.all_eq_true.1 vb t hm)
theorem reduceColumns_holds:Rows.ReduceColumnsUptoCardSaid:=
  Claim7.holds_tied_plain_at .later [] _ _ _ _ reduceColumns_said (fun _ h => by cases h) (by kernel_rfl) (fun _ h => by cases h) reduceColumnsUpto_row_tie rfl ⟨rfl,rfl⟩ (by kernel_rfl) rfl reduceColumns_plainly (by kernel_rfl)
#print axioms reduceColumns_holds
end Go.Proofs.YtbilkblifgaflaaGreatDoor
