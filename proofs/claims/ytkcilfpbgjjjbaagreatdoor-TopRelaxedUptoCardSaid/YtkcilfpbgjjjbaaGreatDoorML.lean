/- Part ML. -/
import Derived.Test.YtkcilfpbgjjjbaaGreatDoorMI
import Derived.Test.YtkcilfpbgjjjbaaGreatDoorRows
import Derived.ProofKit
import Derived.Carry
import Derived.Below
set_option linter.unusedSimpArgs false
set_option linter.unusedVariables false
set_option linter.unusedSectionVars false
namespace Go.Proofs.YtkcilfpbgjjjbaaGreatDoor
section
open Go.ChangeShapes Go.WideShapes Go.ChangeAt Go.RowKit
theorem Tryz.own:ownKnob Tryz.prog.godebug=none:=by kernel_rfl
theorem Tryz.laidOut:laidOutB Tryz.prog=true:=by kernel_rfl
theorem LM{n:Int}(h:(Lit.int .i64 n).wf=true):-9223372036854775808<=n/\n<=9223372036854775807:=by
 simp only[Lit.wf,ma,QhY]at h;have e1:IntKind.i64.min=-9223372036854775808:=by decide
 have e2:IntKind.i64.max=9223372036854775807:=by decide
 rw[e1,e2]at h;exact h
section
variable {H : Type} {enc : TypeId × Value -> H} {P : Program}
theorem Lu(hl:laidOutB P=true){W W':World}(hb:Below W.heap.size W W'):∀(ts:List TypeId) (vs:List Value) (ds:List (DataW H)) (ps:List MemPlace),
  (∀t∈ts,P.readableRec t=true/\t<P.types.size)->DataW.TrodAll enc P W 0 (λ_=>true) true ts vs ds ps->(∀x∈ps,x.block<W.heap.size)->
  DataW.TrodAll enc P W' 0 (λb=>decide (b<W.heap.size)) true ts vs ds ps
 | [],[],[],_,_,h,_=>h
 |t ::ts,v ::vs,d ::ds,ps,hr,h,iq=>by
  obtain⟨p,q,h1,h2,rfl⟩:=h;have ht:=hr t (by simp)
  exact⟨p,q,Below.trod hl ht.1 ht.2 h1 hb (λx hx=>iq x (by simp [hx])),Lu hl hb ts vs ds q (λt' ht'=>hr t' (by simp [ht'])) h2 (λx hx=>iq x (by simp [hx])),rfl⟩
theorem Qia{f:Func}{s:ChangeSpec}{W W':World}{args:Array Value}{ds:List (DataW H)}{before:List MemPlace}{tb:TypeId}
  (hl:laidOutB P=true) (hr:(f.params.toList.all λt=>P.readableRec t&&decide (t<P.types.size))=true) (hs:s.vars=[])
  (hfn:s.fn H ds={results:=[.lit (.bool true)],args:=ds}) (hrt:f.resultTypes=#[tb]) (htb:P.underlying tb=some .bool)
  (hW:DataW.Whole enc P f.params.toList s.vars false W args.toList ds [] before) (hb:Below W.heap.size W W'):
  s.post enc P f false true false false W args (.bool true) W':=by
 have sB:=hW;have iq:∀p∈before,p.block<W.heap.size:=λp hp=>hW.lt p hp
 obtain⟨p,q,hA,hV,rfl,hz,hn⟩:=hW;have hq:q=[]:=by rw[hs]at hV;exact hV
 subst hq;have TW:∀t∈f.params.toList,P.readableRec t=true/\t<P.types.size:=λt ht=>by
  have:=Qc8.1 hr t ht;simpa using this
 refine⟨ds,[],p++[],[],p,[],sB,?_,?_,?_,World.keptBut_mono (λx hx=>⟨hx,Or.inr (Or.inl (by simpa using hx))⟩) (hb.frame _),λh=>by cases h⟩
 ·rw[Qf1,hfn,hrt];exact trodAll_mk1 (shut_bool htb true)
 ·rw[Qf1,hfn];exact Lu hl hb _ _ _ _ TW hA (λx hx=>iq x (by simp [hx]))
 ·rw[hs,Qf1,hfn];exact rfl
end
end
end Go.Proofs.YtkcilfpbgjjjbaaGreatDoor
