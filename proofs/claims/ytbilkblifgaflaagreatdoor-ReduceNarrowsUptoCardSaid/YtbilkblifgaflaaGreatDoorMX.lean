/- Part MX. -/
import Derived.Test.YtbilkblifgaflaaGreatDoorMR
set_option linter.unusedSimpArgs false
set_option linter.unusedVariables false
set_option linter.unusedSectionVars false
namespace Go.Proofs.YtbilkblifgaflaaGreatDoor
abbrev Ky:=Int×List af
theorem Ox{α E:Type}{l:List α}(hl:l.length≤1048576)(p:α→Bool)(N:List α→E){B:List α×Int→Option ((List α×Int)⊕E)}(s0:List α)
  (y3:∀(s:List α) (i:Nat) (a:α),l[i]?=some a→s.length≤s0.length+i→B (s,(i:Int))=some (.inl (if p a=true then s++[a]else s,(i:Int)+1)))
  (wD:∀s,B (s,(l.length:Int))=some (.inr (N s))):aF B (s0,0)=some (N (s0++l.filter p)):=by
 rw[Qa (B:=B) hl (fun s a=>.inl (if p a=true then s++[a]else s)) N (fun i s=>s.length≤s0.length+i) (fun s i a h hi=>⟨y3 s i a h hi,fun s' h'=>by
  cases h';split
  ·simp;omega
  ·omega⟩) (fun s _=>wD s) (Nat.le_refl _)]
 congr 1;have key:∀(l s:List α),Gd (fun s a=>(.inl (if p a=true then s++[a]else s):List α⊕E)) N s l=N (s++l.filter p):=by
  intro l;induction l with
  |nil=>intro s;simp [Gd]
  |cons a r ih =>
   intro s;rw[R3 rfl,ih,List.filter_cons];split <;> simp
 exact key l s0
end Go.Proofs.YtbilkblifgaflaaGreatDoor
