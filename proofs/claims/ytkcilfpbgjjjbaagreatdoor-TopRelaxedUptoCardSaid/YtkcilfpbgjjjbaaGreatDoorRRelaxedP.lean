/- TopRelaxed: no column is cheaper than the bound of relaxed routes, for any instance, kind, size and duals, where what is read is of bulk at most 1048576. The tied card. -/
import Derived.Test.YtkcilfpbgjjjbaaGreatDoorMZ
import Derived.Test.YtkcilfpbgjjjbaaGreatDoorMW
import Derived.Test.YtkcilfpbgjjjbaaGreatDoorMT
import Derived.Test.YtkcilfpbgjjjbaaGreatDoorMR
import Derived.Test.YtkcilfpbgjjjbaaGreatDoorMS
import Derived.Test.YtkcilfpbgjjjbaaGreatDoorCards
import Derived.Test.YtkcilfpbgjjjbaaGreatDoorTie
import Derived.ProofKit
import Derived.LaidMore
import Derived.Stop.Joined
import Derived.Lib.SmallJoins
import Derived.Deep.DeepHandedRow
namespace Go.Proofs.YtkcilfpbgjjjbaaGreatDoor
set_option linter.unusedSimpArgs false
set_option linter.unusedVariables false
set_option linter.unusedSectionVars false
open Go.ChangeShapes Go.WideShapes Go.ChangeAt Go.RowKit Go.Joins

theorem topRelaxed_met(os:Os)(args:Array Value):laidMetH Tryz.prog Rows.topRelaxedUptoRow.laid ((World.doorLaid Tryz.prog 400 os).forCall (λ_ _ => 0) ⟨#[],args,[]⟩).memory:=
  laidMetH_of_parts3 (fuel:= 8) (laidMet_of_run' 8 (by kernel_rfl) (by kernel_rfl)) (by kernel_rfl) (by kernel_rfl)
theorem topRelaxed_reads(os:Os){H:Type}(enc:TypeId × Value->H): ∃bm,DataW.whole enc Tryz.prog ((World.doorLaid Tryz.prog 400 os).forCall (λ_ _ => 0) ⟨#[], #[.agg #[.slice none 0 0, .slice none 0 0, .slice none 0 0, .slice none 0 0, .slice none 0 0, .slice none 0 0], .int .i64 0, .int .i64 0, .slice none 0 0],[]⟩).memory Tryz.f3.params.toList (Rows.OpenSpec.upto Rows.topRelaxedSpec).vars false (#[.agg #[.slice none 0 0, .slice none 0 0, .slice none 0 0, .slice none 0 0, .slice none 0 0, .slice none 0 0], .int .i64 0, .int .i64 0, .slice none 0 0]:Array Value).toList 8 = some ([.agg [.agg [.nil, .nil], .nil, .nil, .nil, .nil], .lit (.int .i64 0), .lit (.int .i64 0), .nil],[],bm):=
  ⟨[],by kernel_rfl⟩

set_option maxRecDepth 100000 in
set_option maxHeartbeats 1000000 in
theorem topRelaxed_lifted(os:Os)(started:os.Started)(H:Type)(enc:TypeId × Value→H)(F:Stop.Interp):
    ReturnsInHanded {} Tryz.checked os 3 .any ((Rows.OpenSpec.upto Rows.topRelaxedSpec).preRow enc Tryz.prog Tryz.f3 Rows.topRelaxedUptoRow.domain false Rows.topRelaxedUptoRow.laid) (((Rows.OpenSpec.upto Rows.topRelaxedSpec).at F).post enc Tryz.prog Tryz.f3 false true false false):= by
  obtain⟨bm,hx⟩:= topRelaxed_reads os enc;refine returnsInHanded_of_row (C:= Tryz.checked) (s:=(Rows.OpenSpec.upto Rows.topRelaxedSpec)) Tryz.own started (by kernel_rfl) Tryz.func3
    (witness_row_at (enc:= enc) (C:= Tryz.checked) false (World.doorLaid Tryz.prog 400 os) #[.agg #[.slice none 0 0, .slice none 0 0, .slice none 0 0, .slice none 0 0, .slice none 0 0, .slice none 0 0], .int .i64 0, .int .i64 0, .slice none 0 0] rfl (by kernel_rfl) (by kernel_rfl) (by kernel_rfl)
      (OpenSpec.preRow_of_cond 8 hx (by kernel_rfl) (λk hk => by cases hk;kernel_rfl) (by kernel_rfl) (topRelaxed_met os _))) ?_
  intro W base args ds gs before Qqa hW _ IE _ hL _ _;have Zk: ∀(j:Nat) t v,Tryz.f3.params[j]? = some t->args[j]? = some v->Value.okWide Tryz.prog W .any base t v:= Qqa;have sB:= hW;obtain⟨p,q,hA0,hV,rfl,hfz,hnd⟩:= hW;have hA:DataW.TrodAll enc Tryz.prog W 0 (λ_ => true) true Tryz.f3.params.toList args.toList ds p:= hA0
  rw[Tryz.params3]at hA Zk;clear hA0;obtain⟨v0,vs0,d0,ds0,p0,q0,A8,rfl,rfl,h0,r0⟩:= trodAll_cons hA;obtain⟨v1,vs1,d1,ds1,p1,q1,rfl,rfl,rfl,h1,r1⟩:= trodAll_cons r0;obtain⟨v2,vs2,d2,ds2,p2,q2,rfl,rfl,rfl,h2,r2⟩:= trodAll_cons r1;obtain⟨v3,vs3,d3,ds3,p3,q3,rfl,rfl,rfl,h3,r3⟩:= trodAll_cons r2;obtain⟨rfl,rfl,rfl⟩:= trodAll_nil r3;obtain rfl:args = #[v0,v1,v2,v3]:= by cases args;simp_all
  obtain⟨rfl,rfl⟩:= trodVars_none hV;have Qlt:Rows.uptoBulkAll [d0,d1,d2,d3]<=1048576:= of_decide_eq_true (IE _ rfl);obtain⟨cs0,rfl,_⟩:= okWide_struct Tryz.underlying30 (Zk 0 30 v0 rfl rfl);obtain⟨_,h0⟩:= h0;obtain⟨x0,k0,c0⟩:=(Qqy).opens _ _ _ _ _ _ h0 (Fits.all (.inr Qlt) (by simp))
  obtain⟨x1,rfl,rfl,rfl,k1⟩:= open_int Tryz.underlying3 (Zk 1 3 v1 rfl rfl) h1;replace k1:= LM k1;obtain⟨x2,rfl,rfl,rfl,k2⟩:= open_int Tryz.underlying3 (Zk 2 3 v2 rfl rfl) h2;replace k2:= LM k2;obtain⟨_,_,_,rfl⟩:= okWide_slice Tryz.underlying31 (Zk 3 31 v3 rfl rfl);obtain⟨_,h3⟩:= h3;obtain⟨x3,k3,c3⟩:=(Qqz).opens _ _ _ _ _ _ h3 (Fits.all (.inr Qlt) (by simp))
  refine(Qib (Qi5 hL) (Gc (rv:= true) (OI x0 (Qh3 k0) x1 x2 k1 x3 k3.2)) (iM:= [.agg cs0, .int .i64 x1, .int .i64 x2,_]) ⟨QjO c0,Wl (.int _ _),Wl (.int _ _),Wl c3.1,trivial⟩).mono λe W' ⟨he,hb⟩ => ?_
  exact⟨_,he,Qia Tryz.laidOut (by kernel_rfl) rfl rfl rfl Tryz.underlying4 sB hb⟩

set_option maxRecDepth 100000
theorem topRelaxed_f0:(λ(P:Program) (f:FuncId) (fn:Func) (s:ChangeSpec) (c:OpenClaim) =>(c.wf (OpenSpec.ofChange s):Bool)) Tryz.pinned.checked.prog 3 Tryz.f3 (Rows.OpenSpec.upto Rows.topRelaxedSpec).bare Rows.topRelaxedUptoRow = true:= by kernel_rfl
theorem topRelaxed_f1:(λ(P:Program) (f:FuncId) (fn:Func) (s:ChangeSpec) (c:OpenClaim) =>(laidOutB P:Bool)) Tryz.pinned.checked.prog 3 Tryz.f3 (Rows.OpenSpec.upto Rows.topRelaxedSpec).bare Rows.topRelaxedUptoRow = true:= by kernel_rfl
theorem topRelaxed_f2:(λ(P:Program) (f:FuncId) (fn:Func) (s:ChangeSpec) (c:OpenClaim) =>(mapsRowed P:Bool)) Tryz.pinned.checked.prog 3 Tryz.f3 (Rows.OpenSpec.upto Rows.topRelaxedSpec).bare Rows.topRelaxedUptoRow = true:= by kernel_rfl
theorem topRelaxed_f3:(λ(P:Program) (f:FuncId) (fn:Func) (s:ChangeSpec) (c:OpenClaim) =>(fn.params.all (P.readableRec ·):Bool)) Tryz.pinned.checked.prog 3 Tryz.f3 (Rows.OpenSpec.upto Rows.topRelaxedSpec).bare Rows.topRelaxedUptoRow = true:= by kernel_rfl
theorem topRelaxed_f4:(λ(P:Program) (f:FuncId) (fn:Func) (s:ChangeSpec) (c:OpenClaim) =>(namedTie P c.named s.vars:Bool)) Tryz.pinned.checked.prog 3 Tryz.f3 (Rows.OpenSpec.upto Rows.topRelaxedSpec).bare Rows.topRelaxedUptoRow = true:= by kernel_rfl
theorem topRelaxed_f5:(λ(P:Program) (f:FuncId) (fn:Func) (s:ChangeSpec) (c:OpenClaim) =>((c.stops == []):Bool)) Tryz.pinned.checked.prog 3 Tryz.f3 (Rows.OpenSpec.upto Rows.topRelaxedSpec).bare Rows.topRelaxedUptoRow = true:= by kernel_rfl
theorem topRelaxed_f6:(λ(P:Program) (f:FuncId) (fn:Func) (s:ChangeSpec) (c:OpenClaim) =>((P.stops == []):Bool)) Tryz.pinned.checked.prog 3 Tryz.f3 (Rows.OpenSpec.upto Rows.topRelaxedSpec).bare Rows.topRelaxedUptoRow = true:= by kernel_rfl
theorem topRelaxed_f7:(λ(P:Program) (f:FuncId) (fn:Func) (s:ChangeSpec) (c:OpenClaim) =>((c.knobs == []):Bool)) Tryz.pinned.checked.prog 3 Tryz.f3 (Rows.OpenSpec.upto Rows.topRelaxedSpec).bare Rows.topRelaxedUptoRow = true:= by kernel_rfl
theorem topRelaxed_f8:(λ(P:Program) (f:FuncId) (fn:Func) (s:ChangeSpec) (c:OpenClaim) =>((P.stopKnobs == []):Bool)) Tryz.pinned.checked.prog 3 Tryz.f3 (Rows.OpenSpec.upto Rows.topRelaxedSpec).bare Rows.topRelaxedUptoRow = true:= by kernel_rfl
theorem topRelaxed_f9:(λ(P:Program) (f:FuncId) (fn:Func) (s:ChangeSpec) (c:OpenClaim) =>((c.inPlace == P.inPlace f):Bool)) Tryz.pinned.checked.prog 3 Tryz.f3 (Rows.OpenSpec.upto Rows.topRelaxedSpec).bare Rows.topRelaxedUptoRow = true:= by kernel_rfl
theorem topRelaxed_f10:(λ(P:Program) (f:FuncId) (fn:Func) (s:ChangeSpec) (c:OpenClaim) =>((c.unfollowed == P.unfollowed f):Bool)) Tryz.pinned.checked.prog 3 Tryz.f3 (Rows.OpenSpec.upto Rows.topRelaxedSpec).bare Rows.topRelaxedUptoRow = true:= by kernel_rfl
theorem topRelaxed_f11:(λ(P:Program) (f:FuncId) (fn:Func) (s:ChangeSpec) (c:OpenClaim) =>((c.recurses == P.recurses f):Bool)) Tryz.pinned.checked.prog 3 Tryz.f3 (Rows.OpenSpec.upto Rows.topRelaxedSpec).bare Rows.topRelaxedUptoRow = true:= by kernel_rfl
theorem topRelaxed_f12:(λ(P:Program) (f:FuncId) (fn:Func) (s:ChangeSpec) (c:OpenClaim) =>((c.named == P.varsNamed f):Bool)) Tryz.pinned.checked.prog 3 Tryz.f3 (Rows.OpenSpec.upto Rows.topRelaxedSpec).bare Rows.topRelaxedUptoRow = true:= by kernel_rfl
theorem topRelaxed_f13:(λ(P:Program) (f:FuncId) (fn:Func) (s:ChangeSpec) (c:OpenClaim) =>((c.maps ==(fn.params.toList ++ s.plain.varTypes P).any (P.mapsRec ·)):Bool)) Tryz.pinned.checked.prog 3 Tryz.f3 (Rows.OpenSpec.upto Rows.topRelaxedSpec).bare Rows.topRelaxedUptoRow = true:= by kernel_rfl
theorem topRelaxed_f14:(λ(P:Program) (f:FuncId) (fn:Func) (s:ChangeSpec) (c:OpenClaim) =>((c.ifaces ==(fn.params.toList ++ s.plain.varTypes P).any (P.ifacesRec ·)):Bool)) Tryz.pinned.checked.prog 3 Tryz.f3 (Rows.OpenSpec.upto Rows.topRelaxedSpec).bare Rows.topRelaxedUptoRow = true:= by kernel_rfl
theorem topRelaxed_f15:(λ(P:Program) (f:FuncId) (fn:Func) (s:ChangeSpec) (c:OpenClaim) =>((c.mapsOut == P.mapsAmong fn.resultTypes.toList):Bool)) Tryz.pinned.checked.prog 3 Tryz.f3 (Rows.OpenSpec.upto Rows.topRelaxedSpec).bare Rows.topRelaxedUptoRow = true:= by kernel_rfl
theorem topRelaxed_f16:(λ(P:Program) (f:FuncId) (fn:Func) (s:ChangeSpec) (c:OpenClaim) =>((c.loops ==(fn.params.toList ++ s.plain.varTypes P).any (P.loopsFrom ·)):Bool)) Tryz.pinned.checked.prog 3 Tryz.f3 (Rows.OpenSpec.upto Rows.topRelaxedSpec).bare Rows.topRelaxedUptoRow = true:= by kernel_rfl
theorem topRelaxed_f17:(λ(P:Program) (f:FuncId) (fn:Func) (s:ChangeSpec) (c:OpenClaim) =>((c.wideKeys ==(fn.params.toList ++ s.plain.varTypes P ++ fn.resultTypes.toList).any (P.wideKeysFrom ·)):Bool)) Tryz.pinned.checked.prog 3 Tryz.f3 (Rows.OpenSpec.upto Rows.topRelaxedSpec).bare Rows.topRelaxedUptoRow = true:= by kernel_rfl
theorem topRelaxed_f18:(λ(P:Program) (f:FuncId) (fn:Func) (s:ChangeSpec) (c:OpenClaim) =>(s.vars.all (P.varReadable ·):Bool)) Tryz.pinned.checked.prog 3 Tryz.f3 (Rows.OpenSpec.upto Rows.topRelaxedSpec).bare Rows.topRelaxedUptoRow = true:= by kernel_rfl
theorem topRelaxed_f19:(λ(P:Program) (f:FuncId) (fn:Func) (s:ChangeSpec) (c:OpenClaim) =>(fn.resultTypes.all (λt => P.readableRec t && decide (t < P.types.size)):Bool)) Tryz.pinned.checked.prog 3 Tryz.f3 (Rows.OpenSpec.upto Rows.topRelaxedSpec).bare Rows.topRelaxedUptoRow = true:= by kernel_rfl
theorem topRelaxed_f20:(λ(P:Program) (f:FuncId) (fn:Func) (s:ChangeSpec) (c:OpenClaim) =>((c.ifacesOut == fn.resultTypes.toList.any (P.ifacesRec ·)):Bool)) Tryz.pinned.checked.prog 3 Tryz.f3 (Rows.OpenSpec.upto Rows.topRelaxedSpec).bare Rows.topRelaxedUptoRow = true:= by kernel_rfl
theorem topRelaxed_f21:(λ(P:Program) (f:FuncId) (fn:Func) (s:ChangeSpec) (c:OpenClaim) =>((c.loopsOut == fn.resultTypes.toList.any (P.loopsFrom ·)):Bool)) Tryz.pinned.checked.prog 3 Tryz.f3 (Rows.OpenSpec.upto Rows.topRelaxedSpec).bare Rows.topRelaxedUptoRow = true:= by kernel_rfl
theorem topRelaxed_f22:(λ(P:Program) (f:FuncId) (fn:Func) (s:ChangeSpec) (c:OpenClaim) =>((c.plainKeys == P.plainKeys):Bool)) Tryz.pinned.checked.prog 3 Tryz.f3 (Rows.OpenSpec.upto Rows.topRelaxedSpec).bare Rows.topRelaxedUptoRow = true:= by kernel_rfl
theorem topRelaxed_f23:(λ(P:Program) (f:FuncId) (fn:Func) (s:ChangeSpec) (c:OpenClaim) =>(c.shortTexts.isNone:Bool)) Tryz.pinned.checked.prog 3 Tryz.f3 (Rows.OpenSpec.upto Rows.topRelaxedSpec).bare Rows.topRelaxedUptoRow = true:= by kernel_rfl
theorem topRelaxed_f24:(λ(P:Program) (f:FuncId) (fn:Func) (s:ChangeSpec) (c:OpenClaim) =>(P.stopsHeard:Bool)) Tryz.pinned.checked.prog 3 Tryz.f3 (Rows.OpenSpec.upto Rows.topRelaxedSpec).bare Rows.topRelaxedUptoRow = true:= by kernel_rfl
theorem topRelaxed_f25:(λ(P:Program) (f:FuncId) (fn:Func) (s:ChangeSpec) (c:OpenClaim) =>(P.mayEnter:Bool)) Tryz.pinned.checked.prog 3 Tryz.f3 (Rows.OpenSpec.upto Rows.topRelaxedSpec).bare Rows.topRelaxedUptoRow = true:= by kernel_rfl
theorem topRelaxed_f26:(λ(P:Program) (f:FuncId) (fn:Func) (s:ChangeSpec) (c:OpenClaim) =>((c.lifted == P.liftsFinal):Bool)) Tryz.pinned.checked.prog 3 Tryz.f3 (Rows.OpenSpec.upto Rows.topRelaxedSpec).bare Rows.topRelaxedUptoRow = true:= by kernel_rfl
theorem topRelaxed_f27:(λ(P:Program) (f:FuncId) (fn:Func) (s:ChangeSpec) (c:OpenClaim) =>((P.make == some c.make):Bool)) Tryz.pinned.checked.prog 3 Tryz.f3 (Rows.OpenSpec.upto Rows.topRelaxedSpec).bare Rows.topRelaxedUptoRow = true:= by kernel_rfl
theorem topRelaxed_f28:(λ(P:Program) (f:FuncId) (fn:Func) (s:ChangeSpec) (c:OpenClaim) =>((c.kinds ==(if c.domain.isEmpty then []else fn.params.toList.map λt => match P.underlying t with |some (.int k) => some k |_ => none)):Bool)) Tryz.pinned.checked.prog 3 Tryz.f3 (Rows.OpenSpec.upto Rows.topRelaxedSpec).bare Rows.topRelaxedUptoRow = true:= by kernel_rfl
theorem topRelaxed_f29:(λ(P:Program) (f:FuncId) (fn:Func) (s:ChangeSpec) (c:OpenClaim) =>((c.pinned == c.pinnedBy):Bool)) Tryz.pinned.checked.prog 3 Tryz.f3 (Rows.OpenSpec.upto Rows.topRelaxedSpec).bare Rows.topRelaxedUptoRow = true:= by kernel_rfl
theorem topRelaxed_f30:(λ(P:Program) (f:FuncId) (fn:Func) (s:ChangeSpec) (c:OpenClaim) =>((c.veiled ==(fn.params.toList ++ s.plain.varTypes P ++ fn.resultTypes.toList).any (P.veiledRec ·)):Bool)) Tryz.pinned.checked.prog 3 Tryz.f3 (Rows.OpenSpec.upto Rows.topRelaxedSpec).bare Rows.topRelaxedUptoRow = true:= by kernel_rfl
theorem topRelaxed_f31:(λ(P:Program) (f:FuncId) (fn:Func) (s:ChangeSpec) (c:OpenClaim) =>(c.veiledFits P fn.params.toList (fn.params.toList ++ s.plain.varTypes P ++ fn.resultTypes.toList):Bool)) Tryz.pinned.checked.prog 3 Tryz.f3 (Rows.OpenSpec.upto Rows.topRelaxedSpec).bare Rows.topRelaxedUptoRow = true:= by kernel_rfl
theorem topRelaxed_closed:joinedFacts Tryz.pinned.checked.prog 3 Tryz.f3 (Rows.OpenSpec.upto Rows.topRelaxedSpec).bare Rows.topRelaxedUptoRow = true:= by
  unfold joinedFacts;simp only[Bool.and_eq_true];exact⟨⟨⟨⟨⟨⟨⟨⟨⟨⟨⟨⟨⟨⟨⟨⟨⟨⟨⟨⟨⟨⟨⟨⟨⟨⟨⟨⟨⟨⟨⟨topRelaxed_f0,topRelaxed_f1⟩,topRelaxed_f2⟩,topRelaxed_f3⟩,topRelaxed_f4⟩,topRelaxed_f5⟩,topRelaxed_f6⟩,topRelaxed_f7⟩,topRelaxed_f8⟩,topRelaxed_f9⟩,topRelaxed_f10⟩,topRelaxed_f11⟩,topRelaxed_f12⟩,topRelaxed_f13⟩,topRelaxed_f14⟩,topRelaxed_f15⟩,topRelaxed_f16⟩,topRelaxed_f17⟩,topRelaxed_f18⟩,topRelaxed_f19⟩,topRelaxed_f20⟩,topRelaxed_f21⟩,topRelaxed_f22⟩,topRelaxed_f23⟩,topRelaxed_f24⟩,topRelaxed_f25⟩,topRelaxed_f26⟩,topRelaxed_f27⟩,topRelaxed_f28⟩,topRelaxed_f29⟩,topRelaxed_f30⟩,topRelaxed_f31⟩
theorem topRelaxed_said:Rows.TopRelaxedUptoSaid:=
  OpenClaim.holds_of_cond 3 Tryz.f3 rfl rfl rfl rfl rfl rfl rfl ⟨rfl,rfl,rfl,rfl,rfl⟩ rfl rfl rfl rfl rfl (by kernel_rfl) Tryz.func3 topRelaxed_closed
    (of_decide_eq_true (by kernel_rfl)) (by unfold Func.isWrapper;first |(rw[if_pos (by decide +kernel)];kernel_rfl) |(rw[if_neg (by decide +kernel)];exact⟨rfl,rfl⟩))
    (λos started H enc _ F => by rw[OpenClaim.pre_eq_preRow];exact topRelaxed_lifted os started H enc F)
theorem topRelaxed_plainly(f:FuncId)(fn:Func)(hf:Tryz.pinned.checked.prog.funcNamed "lorry/lorrytop.TopRelaxed" = some f)(hfn:Tryz.pinned.checked.prog.funcs[f]? = some fn):
    false = Tryz.pinned.checked.prog.looks []/\∀(j:Nat) t,fn.params[j]? = some t->Tryz.pinned.checked.prog.wantsStandIn t = false:= by
  obtain rfl:f = 3:= Option.some.inj ((show Tryz.prog.funcNamed "lorry/lorrytop.TopRelaxed" = some 3 by kernel_rfl).symm.trans hf) |>.symm
  obtain rfl:fn = Tryz.f3:=(Option.some.inj (Tryz.func3.symm.trans hfn)).symm;refine⟨by kernel_rfl,λj t ht => ?_⟩
  rw[Tryz.params3]at ht;have hm:t∈[30,3,3,31]:= by simpa using Array.mem_of_getElem? ht
  have o6:([30,3,3,31].all λu => !Tryz.prog.wantsStandIn u) = true:= by kernel_rfl
  exact(show Tryz.prog.wantsStandIn t = false by simpa using List.all_eq_true.1 o6 t hm)
theorem topRelaxed_holds:Rows.TopRelaxedUptoCardSaid:=
  Claim7.holds_tied_plain_at .later [] _ _ _ _ topRelaxed_said (λ_ h => by cases h) (by kernel_rfl) (λ_ h => by cases h) topRelaxedUpto_row_tie rfl ⟨rfl,rfl⟩ (by kernel_rfl) rfl topRelaxed_plainly (by kernel_rfl)
#print axioms topRelaxed_holds
end Go.Proofs.YtkcilfpbgjjjbaaGreatDoor
