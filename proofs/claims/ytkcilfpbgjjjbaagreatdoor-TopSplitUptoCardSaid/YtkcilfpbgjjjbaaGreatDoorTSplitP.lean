/- Qi5: Qu whole walk over split ah comes out right, for any instance, where QfH is read is of Qox at zY 1048576. The tied Qoz. -/
import Derived.Test.YtkcilfpbgjjjbaaGreatDoorMY
import Derived.Test.YtkcilfpbgjjjbaaGreatDoorMW
import Derived.Test.YtkcilfpbgjjjbaaGreatDoorMT
import Derived.Test.YtkcilfpbgjjjbaaGreatDoorMR
import Derived.Test.YtkcilfpbgjjjbaaGreatDoorMS
import Derived.Test.YtkcilfpbgjjjbaaGreatDoorCards
import Derived.Test.YtkcilfpbgjjjbaaGreatDoorTie
import Derived.ProofKit
import Derived.LaidMore
import Derived.Stop.Joined
import Derived.Lib.SmallJoins
import Derived.Deep.DeepHandedRow
namespace Go.Proofs.YtkcilfpbgjjjbaaGreatDoor
set_option linter.unusedSimpArgs false
set_option linter.unusedVariables false
set_option linter.unusedSectionVars false
open Go.ChangeShapes Go.WideShapes Go.ChangeAt Go.RowKit Go.Joins

theorem topSplit_met(os:Os)(args:Array Value):laidMetH Tryz.prog Rows.topSplitUptoRow.laid ((World.doorLaid Tryz.prog 400 os).forCall (fun _ _ => 0) ⟨#[],args,[]⟩).memory:=
  laidMetH_of_parts3 (fuel:= 8) (laidMet_of_run' 8 (by kernel_rfl) (by kernel_rfl)) (by kernel_rfl) (by kernel_rfl)
theorem topSplit_reads(os:Os){H:Type}(enc:TypeId × Value→H): ∃aV,DataW.whole enc Tryz.prog ((World.doorLaid Tryz.prog 400 os).forCall (fun _ _ => 0) ⟨#[], #[.agg #[.slice none 0 0, .slice none 0 0, .slice none 0 0, .slice none 0 0, .slice none 0 0, .slice none 0 0]],[]⟩).memory Tryz.f4.params.toList (Rows.OpenSpec.upto Rows.topSplitSpec).vars false (#[.agg #[.slice none 0 0, .slice none 0 0, .slice none 0 0, .slice none 0 0, .slice none 0 0, .slice none 0 0]]:Array Value).toList 8 = some ([.agg [.agg [.nil, .nil], .nil, .nil, .nil, .nil]],[],aV):=
  ⟨[],by kernel_rfl⟩

set_option maxRecDepth 100000 in
set_option maxHeartbeats 1000000 in
theorem topSplit_lifted(os:Os)(started:os.Started)(H:Type)(enc:TypeId × Value→H)(F:Stop.Interp):
    ReturnsInHanded {} Tryz.checked os 4 .any ((Rows.OpenSpec.upto Rows.topSplitSpec).preRow enc Tryz.prog Tryz.f4 Rows.topSplitUptoRow.domain false Rows.topSplitUptoRow.laid) (((Rows.OpenSpec.upto Rows.topSplitSpec).at F).post enc Tryz.prog Tryz.f4 false true false false):= by
  obtain⟨aV,hx⟩:= topSplit_reads os enc;refine returnsInHanded_of_row (C:= Tryz.checked) (s:=(Rows.OpenSpec.upto Rows.topSplitSpec)) Tryz.own started (by kernel_rfl) Tryz.func4
    (witness_row_at (enc:= enc) (C:= Tryz.checked) false (World.doorLaid Tryz.prog 400 os) #[.agg #[.slice none 0 0, .slice none 0 0, .slice none 0 0, .slice none 0 0, .slice none 0 0, .slice none 0 0]] rfl (by kernel_rfl) (by kernel_rfl) (by kernel_rfl)
      (OpenSpec.preRow_of_cond 8 hx (by kernel_rfl) (fun k hk => by cases hk;kernel_rfl) (by kernel_rfl) (topSplit_met os _))) ?_
  intro W base args ds gs before Qj5 hW _ FA _ hL _ _;have QhQ: ∀(j:Nat) t v,Tryz.f4.params[j]? = some t→args[j]? = some v→Value.okWide Tryz.prog W .any base t v:= Qj5;have qq:= hW;obtain⟨p,q,hA0,hV,rfl,hfz,hnd⟩:= hW;have hA:DataW.TrodAll enc Tryz.prog W 0 (fun _ => true) true Tryz.f4.params.toList args.toList ds p:= hA0
  rw[Tryz.params4]at hA QhQ;clear hA0;obtain⟨v0,vs0,d0,ds0,p0,q0,yR,rfl,rfl,h0,r0⟩:= trodAll_cons hA;obtain⟨rfl,rfl,rfl⟩:= trodAll_nil r0;obtain rfl:args = #[v0]:= by cases args;simp_all
  obtain⟨rfl,rfl⟩:= trodVars_none hV;have Qjm:Rows.uptoBulkAll [d0]≤1048576:= of_decide_eq_true (FA _ rfl);obtain⟨cs0,rfl,_⟩:= okWide_struct Tryz.underlying30 (QhQ 0 30 v0 rfl rfl);obtain⟨_,h0⟩:= h0;obtain⟨x0,k0,c0⟩:=(Qko).opens _ _ _ _ _ _ h0 (Fits.all (.inr Qjm) (by simp))
  refine(QcO (Qdt hL) (FR (rv:= true) (OY x0 (QcI k0))) (gX:= [.agg cs0]) ⟨Qec c0,trivial⟩).mono fun e W' ⟨he,hb⟩ => ?_
  exact⟨_,he,QcN Tryz.laidOut (by kernel_rfl) rfl rfl rfl Tryz.underlying4 qq hb⟩

set_option maxRecDepth 100000
theorem topSplit_f0:(fun(P:Program) (f:FuncId) (fn:Func) (s:ChangeSpec) (c:OpenClaim) =>(c.wf (OpenSpec.ofChange s):Bool)) Tryz.pinned.checked.prog 4 Tryz.f4 (Rows.OpenSpec.upto Rows.topSplitSpec).bare Rows.topSplitUptoRow = true:= by kernel_rfl
theorem topSplit_f1:(fun(P:Program) (f:FuncId) (fn:Func) (s:ChangeSpec) (c:OpenClaim) =>(laidOutB P:Bool)) Tryz.pinned.checked.prog 4 Tryz.f4 (Rows.OpenSpec.upto Rows.topSplitSpec).bare Rows.topSplitUptoRow = true:= by kernel_rfl
theorem topSplit_f2:(fun(P:Program) (f:FuncId) (fn:Func) (s:ChangeSpec) (c:OpenClaim) =>(mapsRowed P:Bool)) Tryz.pinned.checked.prog 4 Tryz.f4 (Rows.OpenSpec.upto Rows.topSplitSpec).bare Rows.topSplitUptoRow = true:= by kernel_rfl
theorem topSplit_f3:(fun(P:Program) (f:FuncId) (fn:Func) (s:ChangeSpec) (c:OpenClaim) =>(fn.params.all (P.readableRec ·):Bool)) Tryz.pinned.checked.prog 4 Tryz.f4 (Rows.OpenSpec.upto Rows.topSplitSpec).bare Rows.topSplitUptoRow = true:= by kernel_rfl
theorem topSplit_f4:(fun(P:Program) (f:FuncId) (fn:Func) (s:ChangeSpec) (c:OpenClaim) =>(namedTie P c.named s.vars:Bool)) Tryz.pinned.checked.prog 4 Tryz.f4 (Rows.OpenSpec.upto Rows.topSplitSpec).bare Rows.topSplitUptoRow = true:= by kernel_rfl
theorem topSplit_f5:(fun(P:Program) (f:FuncId) (fn:Func) (s:ChangeSpec) (c:OpenClaim) =>((c.stops == []):Bool)) Tryz.pinned.checked.prog 4 Tryz.f4 (Rows.OpenSpec.upto Rows.topSplitSpec).bare Rows.topSplitUptoRow = true:= by kernel_rfl
theorem topSplit_f6:(fun(P:Program) (f:FuncId) (fn:Func) (s:ChangeSpec) (c:OpenClaim) =>((P.stops == []):Bool)) Tryz.pinned.checked.prog 4 Tryz.f4 (Rows.OpenSpec.upto Rows.topSplitSpec).bare Rows.topSplitUptoRow = true:= by kernel_rfl
theorem topSplit_f7:(fun(P:Program) (f:FuncId) (fn:Func) (s:ChangeSpec) (c:OpenClaim) =>((c.knobs == []):Bool)) Tryz.pinned.checked.prog 4 Tryz.f4 (Rows.OpenSpec.upto Rows.topSplitSpec).bare Rows.topSplitUptoRow = true:= by kernel_rfl
theorem topSplit_f8:(fun(P:Program) (f:FuncId) (fn:Func) (s:ChangeSpec) (c:OpenClaim) =>((P.stopKnobs == []):Bool)) Tryz.pinned.checked.prog 4 Tryz.f4 (Rows.OpenSpec.upto Rows.topSplitSpec).bare Rows.topSplitUptoRow = true:= by kernel_rfl
theorem topSplit_f9:(fun(P:Program) (f:FuncId) (fn:Func) (s:ChangeSpec) (c:OpenClaim) =>((c.inPlace == P.inPlace f):Bool)) Tryz.pinned.checked.prog 4 Tryz.f4 (Rows.OpenSpec.upto Rows.topSplitSpec).bare Rows.topSplitUptoRow = true:= by kernel_rfl
theorem topSplit_f10:(fun(P:Program) (f:FuncId) (fn:Func) (s:ChangeSpec) (c:OpenClaim) =>((c.unfollowed == P.unfollowed f):Bool)) Tryz.pinned.checked.prog 4 Tryz.f4 (Rows.OpenSpec.upto Rows.topSplitSpec).bare Rows.topSplitUptoRow = true:= by kernel_rfl
theorem topSplit_f11:(fun(P:Program) (f:FuncId) (fn:Func) (s:ChangeSpec) (c:OpenClaim) =>((c.recurses == P.recurses f):Bool)) Tryz.pinned.checked.prog 4 Tryz.f4 (Rows.OpenSpec.upto Rows.topSplitSpec).bare Rows.topSplitUptoRow = true:= by kernel_rfl
theorem topSplit_f12:(fun(P:Program) (f:FuncId) (fn:Func) (s:ChangeSpec) (c:OpenClaim) =>((c.named == P.varsNamed f):Bool)) Tryz.pinned.checked.prog 4 Tryz.f4 (Rows.OpenSpec.upto Rows.topSplitSpec).bare Rows.topSplitUptoRow = true:= by kernel_rfl
theorem topSplit_f13:(fun(P:Program) (f:FuncId) (fn:Func) (s:ChangeSpec) (c:OpenClaim) =>((c.maps ==(fn.params.toList ++ s.plain.varTypes P).any (P.mapsRec ·)):Bool)) Tryz.pinned.checked.prog 4 Tryz.f4 (Rows.OpenSpec.upto Rows.topSplitSpec).bare Rows.topSplitUptoRow = true:= by kernel_rfl
theorem topSplit_f14:(fun(P:Program) (f:FuncId) (fn:Func) (s:ChangeSpec) (c:OpenClaim) =>((c.ifaces ==(fn.params.toList ++ s.plain.varTypes P).any (P.ifacesRec ·)):Bool)) Tryz.pinned.checked.prog 4 Tryz.f4 (Rows.OpenSpec.upto Rows.topSplitSpec).bare Rows.topSplitUptoRow = true:= by kernel_rfl
theorem topSplit_f15:(fun(P:Program) (f:FuncId) (fn:Func) (s:ChangeSpec) (c:OpenClaim) =>((c.mapsOut == P.mapsAmong fn.resultTypes.toList):Bool)) Tryz.pinned.checked.prog 4 Tryz.f4 (Rows.OpenSpec.upto Rows.topSplitSpec).bare Rows.topSplitUptoRow = true:= by kernel_rfl
theorem topSplit_f16:(fun(P:Program) (f:FuncId) (fn:Func) (s:ChangeSpec) (c:OpenClaim) =>((c.loops ==(fn.params.toList ++ s.plain.varTypes P).any (P.loopsFrom ·)):Bool)) Tryz.pinned.checked.prog 4 Tryz.f4 (Rows.OpenSpec.upto Rows.topSplitSpec).bare Rows.topSplitUptoRow = true:= by kernel_rfl
theorem topSplit_f17:(fun(P:Program) (f:FuncId) (fn:Func) (s:ChangeSpec) (c:OpenClaim) =>((c.wideKeys ==(fn.params.toList ++ s.plain.varTypes P ++ fn.resultTypes.toList).any (P.wideKeysFrom ·)):Bool)) Tryz.pinned.checked.prog 4 Tryz.f4 (Rows.OpenSpec.upto Rows.topSplitSpec).bare Rows.topSplitUptoRow = true:= by kernel_rfl
theorem topSplit_f18:(fun(P:Program) (f:FuncId) (fn:Func) (s:ChangeSpec) (c:OpenClaim) =>(s.vars.all (P.varReadable ·):Bool)) Tryz.pinned.checked.prog 4 Tryz.f4 (Rows.OpenSpec.upto Rows.topSplitSpec).bare Rows.topSplitUptoRow = true:= by kernel_rfl
theorem topSplit_f19:(fun(P:Program) (f:FuncId) (fn:Func) (s:ChangeSpec) (c:OpenClaim) =>(fn.resultTypes.all (fun t => P.readableRec t && decide (t < P.types.size)):Bool)) Tryz.pinned.checked.prog 4 Tryz.f4 (Rows.OpenSpec.upto Rows.topSplitSpec).bare Rows.topSplitUptoRow = true:= by kernel_rfl
theorem topSplit_f20:(fun(P:Program) (f:FuncId) (fn:Func) (s:ChangeSpec) (c:OpenClaim) =>((c.ifacesOut == fn.resultTypes.toList.any (P.ifacesRec ·)):Bool)) Tryz.pinned.checked.prog 4 Tryz.f4 (Rows.OpenSpec.upto Rows.topSplitSpec).bare Rows.topSplitUptoRow = true:= by kernel_rfl
theorem topSplit_f21:(fun(P:Program) (f:FuncId) (fn:Func) (s:ChangeSpec) (c:OpenClaim) =>((c.loopsOut == fn.resultTypes.toList.any (P.loopsFrom ·)):Bool)) Tryz.pinned.checked.prog 4 Tryz.f4 (Rows.OpenSpec.upto Rows.topSplitSpec).bare Rows.topSplitUptoRow = true:= by kernel_rfl
theorem topSplit_f22:(fun(P:Program) (f:FuncId) (fn:Func) (s:ChangeSpec) (c:OpenClaim) =>((c.plainKeys == P.plainKeys):Bool)) Tryz.pinned.checked.prog 4 Tryz.f4 (Rows.OpenSpec.upto Rows.topSplitSpec).bare Rows.topSplitUptoRow = true:= by kernel_rfl
theorem topSplit_f23:(fun(P:Program) (f:FuncId) (fn:Func) (s:ChangeSpec) (c:OpenClaim) =>(c.shortTexts.isNone:Bool)) Tryz.pinned.checked.prog 4 Tryz.f4 (Rows.OpenSpec.upto Rows.topSplitSpec).bare Rows.topSplitUptoRow = true:= by kernel_rfl
theorem topSplit_f24:(fun(P:Program) (f:FuncId) (fn:Func) (s:ChangeSpec) (c:OpenClaim) =>(P.stopsHeard:Bool)) Tryz.pinned.checked.prog 4 Tryz.f4 (Rows.OpenSpec.upto Rows.topSplitSpec).bare Rows.topSplitUptoRow = true:= by kernel_rfl
theorem topSplit_f25:(fun(P:Program) (f:FuncId) (fn:Func) (s:ChangeSpec) (c:OpenClaim) =>(P.mayEnter:Bool)) Tryz.pinned.checked.prog 4 Tryz.f4 (Rows.OpenSpec.upto Rows.topSplitSpec).bare Rows.topSplitUptoRow = true:= by kernel_rfl
theorem topSplit_f26:(fun(P:Program) (f:FuncId) (fn:Func) (s:ChangeSpec) (c:OpenClaim) =>((c.lifted == P.liftsFinal):Bool)) Tryz.pinned.checked.prog 4 Tryz.f4 (Rows.OpenSpec.upto Rows.topSplitSpec).bare Rows.topSplitUptoRow = true:= by kernel_rfl
theorem topSplit_f27:(fun(P:Program) (f:FuncId) (fn:Func) (s:ChangeSpec) (c:OpenClaim) =>((P.make == some c.make):Bool)) Tryz.pinned.checked.prog 4 Tryz.f4 (Rows.OpenSpec.upto Rows.topSplitSpec).bare Rows.topSplitUptoRow = true:= by kernel_rfl
theorem topSplit_f28:(fun(P:Program) (f:FuncId) (fn:Func) (s:ChangeSpec) (c:OpenClaim) =>((c.kinds ==(if c.domain.isEmpty then []else fn.params.toList.map fun t => match P.underlying t with |some (.int k) => some k |_ => none)):Bool)) Tryz.pinned.checked.prog 4 Tryz.f4 (Rows.OpenSpec.upto Rows.topSplitSpec).bare Rows.topSplitUptoRow = true:= by kernel_rfl
theorem topSplit_f29:(fun(P:Program) (f:FuncId) (fn:Func) (s:ChangeSpec) (c:OpenClaim) =>((c.pinned == c.pinnedBy):Bool)) Tryz.pinned.checked.prog 4 Tryz.f4 (Rows.OpenSpec.upto Rows.topSplitSpec).bare Rows.topSplitUptoRow = true:= by kernel_rfl
theorem topSplit_f30:(fun(P:Program) (f:FuncId) (fn:Func) (s:ChangeSpec) (c:OpenClaim) =>((c.veiled ==(fn.params.toList ++ s.plain.varTypes P ++ fn.resultTypes.toList).any (P.veiledRec ·)):Bool)) Tryz.pinned.checked.prog 4 Tryz.f4 (Rows.OpenSpec.upto Rows.topSplitSpec).bare Rows.topSplitUptoRow = true:= by kernel_rfl
theorem topSplit_f31:(fun(P:Program) (f:FuncId) (fn:Func) (s:ChangeSpec) (c:OpenClaim) =>(c.veiledFits P fn.params.toList (fn.params.toList ++ s.plain.varTypes P ++ fn.resultTypes.toList):Bool)) Tryz.pinned.checked.prog 4 Tryz.f4 (Rows.OpenSpec.upto Rows.topSplitSpec).bare Rows.topSplitUptoRow = true:= by kernel_rfl
theorem topSplit_closed:joinedFacts Tryz.pinned.checked.prog 4 Tryz.f4 (Rows.OpenSpec.upto Rows.topSplitSpec).bare Rows.topSplitUptoRow = true:= by
  unfold joinedFacts;simp only[Bool.and_eq_true];exact⟨⟨⟨⟨⟨⟨⟨⟨⟨⟨⟨⟨⟨⟨⟨⟨⟨⟨⟨⟨⟨⟨⟨⟨⟨⟨⟨⟨⟨⟨⟨topSplit_f0,topSplit_f1⟩,topSplit_f2⟩,topSplit_f3⟩,topSplit_f4⟩,topSplit_f5⟩,topSplit_f6⟩,topSplit_f7⟩,topSplit_f8⟩,topSplit_f9⟩,topSplit_f10⟩,topSplit_f11⟩,topSplit_f12⟩,topSplit_f13⟩,topSplit_f14⟩,topSplit_f15⟩,topSplit_f16⟩,topSplit_f17⟩,topSplit_f18⟩,topSplit_f19⟩,topSplit_f20⟩,topSplit_f21⟩,topSplit_f22⟩,topSplit_f23⟩,topSplit_f24⟩,topSplit_f25⟩,topSplit_f26⟩,topSplit_f27⟩,topSplit_f28⟩,topSplit_f29⟩,topSplit_f30⟩,topSplit_f31⟩
theorem topSplit_said:Rows.TopSplitUptoSaid:=
  OpenClaim.holds_of_cond 4 Tryz.f4 rfl rfl rfl rfl rfl rfl rfl ⟨rfl,rfl,rfl,rfl,rfl⟩ rfl rfl rfl rfl rfl (by kernel_rfl) Tryz.func4 topSplit_closed
    (of_decide_eq_true (by kernel_rfl)) (by unfold Func.isWrapper;first |(rw[if_pos (by decide +kernel)];kernel_rfl) |(rw[if_neg (by decide +kernel)];exact⟨rfl,rfl⟩))
    (fun os started H enc _ F => by rw[OpenClaim.pre_eq_preRow];exact topSplit_lifted os started H enc F)
theorem topSplit_plainly(f:FuncId)(fn:Func)(hf:Tryz.pinned.checked.prog.funcNamed "lorry/lorrytop.TopSplit" = some f)(hfn:Tryz.pinned.checked.prog.funcs[f]? = some fn):
    false = Tryz.pinned.checked.prog.looks []∧∀(j:Nat) t,fn.params[j]? = some t→Tryz.pinned.checked.prog.wantsStandIn t = false:= by
  obtain rfl:f = 4:= Option.some.inj ((show Tryz.prog.funcNamed "lorry/lorrytop.TopSplit" = some 4 by kernel_rfl).symm.trans hf) |>.symm
  obtain rfl:fn = Tryz.f4:=(Option.some.inj (Tryz.func4.symm.trans hfn)).symm;refine⟨by kernel_rfl,fun j t ht => ?_⟩
  rw[Tryz.params4]at ht;have hm:t∈[30]:= by simpa using Array.mem_of_getElem? ht
  have sI:([30].all fun u => !Tryz.prog.wantsStandIn u) = true:= by kernel_rfl
  exact(show Tryz.prog.wantsStandIn t = false by simpa using List.all_eq_true.1 sI t hm)
theorem topSplit_holds:Rows.TopSplitUptoCardSaid:=
  Claim7.holds_tied_plain_at .later [] _ _ _ _ topSplit_said (fun _ h => by cases h) (by kernel_rfl) (fun _ h => by cases h) topSplitUpto_row_tie rfl ⟨rfl,rfl⟩ (by kernel_rfl) rfl topSplit_plainly (by kernel_rfl)
#print axioms topSplit_holds
end Go.Proofs.YtkcilfpbgjjjbaaGreatDoor
