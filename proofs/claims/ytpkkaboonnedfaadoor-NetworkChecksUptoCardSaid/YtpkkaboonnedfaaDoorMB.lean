/- Part MB of the proof: texts GE GF GG GI GJ GK GL GY GM. -/
import Derived.Test.YtpkkaboonnedfaaDoorMA
import Derived.IntWalk
import Derived.MapKept
import Derived.WideKeyRuns
namespace Go.Proofs.YtpkkaboonnedfaaDoor
set_option linter.unusedSimpArgs false
set_option linter.unusedVariables false
set_option linter.unusedSectionVars false
open Go.RowKit

def NQ:Exit→Act→World→Prop:=fun _ _ _=>False
theorem wp_nq {P:Program} {o:Oper} {a:Act} {w:World} {K K':Act→World→Prop} {Q:Exit→Act→World→Prop} (h:∀ a w,K a w→K' a w) (hh:o.wp P a w K NQ):o.wp P a w K' Q:=by
 unfold Oper.wp at *
 generalize (execOp a.eval o).run P w=r at *
 cases r with
 | ok nx w' =>
  cases nx <;> simp only [Oper.upon] at hh ⊢ <;>
   first
    | exact h _ _ hh
    | exact Calls.mono hh (fun e w'' he=>by
      cases e with
      | returned v=>exact h _ _ he
      | panicked c=>exact he.elim
      | outgrown=>obtain ⟨_,_,hf⟩:=he; exact hf.elim)
    | exact Rows.mono hh (fun _ _ he=>h _ _ he)
 | halt x w'=>cases x <;> simp only [Oper.upon] at hh ⊢ <;> exact hh.elim
section
variable {α β γ : Type} {R R' : α → β → Prop}
theorem Rs.len:∀ {xs:List α} {ys:List β},Rs R xs ys→xs.length=ys.length
 | [],[],_=>rfl
 | _ :: xs,_ :: ys,h=>by simp only [List.length_cons]; rw [Rs.len h.2]
 | [],_ :: _,h=>h.elim
 | _ :: _,[],h=>h.elim
theorem Rs.get:∀ {xs:List α} {ys:List β} {i:Nat} {x:α},Rs R xs ys→xs[i]?=some x→∃ y,ys[i]?=some y∧R x y
 | [],_,_,_,_,h=>by simp at h
 | _ :: _,[],_,_,h,_=>h.elim
 | x :: xs,y :: ys,0,_,h,e=>by simp at e; subst e; exact ⟨y,rfl,h.1⟩
 | x :: xs,y :: ys,i+1,_,h,e=>by
  obtain ⟨z,hz,hr⟩:=Rs.get (i:=i) h.2 (by simpa using e)
  exact ⟨z,by simpa using hz,hr⟩
theorem Rs.mono (hR:∀ x y,R x y→R' x y):∀ {xs:List α} {ys:List β},Rs R xs ys→Rs R' xs ys
 | [],[],_=>trivial
 | _ :: _,_ :: _,h=>⟨hR _ _ h.1,Rs.mono hR h.2⟩
 | [],_ :: _,h=>h.elim
 | _ :: _,[],h=>h.elim
theorem Rs.append:∀ {xs xs':List α} {ys ys':List β},Rs R xs ys→Rs R xs' ys'→Rs R (xs++xs') (ys++ys')
 | [],_,[],_,_,h=>h
 | _ :: _,_,_ :: _,_,h,h'=>⟨h.1,Rs.append h.2 h'⟩
 | [],_,_ :: _,_,h,_=>h.elim
 | _ :: _,_,[],_,h,_=>h.elim
theorem Rs.take:∀ (n:Nat) {xs:List α} {ys:List β},Rs R xs ys→Rs R (xs.take n) (ys.take n)
 | 0,_,_,_=>by simp [Rs]
 | n+1,[],[],_=>by simp [Rs]
 | n+1,_ :: _,_ :: _,h=>⟨h.1,Rs.take n h.2⟩
 | _,[],_ :: _,h=>h.elim
 | _,_ :: _,[],h=>h.elim
theorem Rs.drop:∀ (n:Nat) {xs:List α} {ys:List β},Rs R xs ys→Rs R (xs.drop n) (ys.drop n)
 | 0,_,_,h=>h
 | n+1,[],[],_=>by simp [Rs]
 | n+1,_ :: _,_ :: _,h=>Rs.drop n h.2
 | _,[],_ :: _,h=>h.elim
 | _,_ :: _,[],h=>h.elim
theorem Rs.map_left {f:γ→α}:∀ {xs:List γ} {ys:List β},Rs (fun x y=>R (f x) y) xs ys→Rs R (xs.map f) ys
 | [],[],_=>trivial
 | _ :: _,_ :: _,h=>⟨h.1,Rs.map_left h.2⟩
 | [],_ :: _,h=>h.elim
 | _ :: _,[],h=>h.elim
theorem Rs.imp_mem:∀ {xs:List α} {ys:List β},(∀ x∈xs,∀ y,R x y→R' x y)→Rs R xs ys→Rs R' xs ys
 | [],[],_,_=>trivial
 | x :: _,_ :: _,hR,h=>⟨hR x (by simp) _ h.1,Rs.imp_mem (fun z hz=>hR z (by simp [hz])) h.2⟩
 | [],_ :: _,_,h=>h.elim
 | _ :: _,[],_,h=>h.elim
theorem Qag:∀ {a b:List Prop},allP (a++b)↔allP a∧allP b
 | [],b=>by simp [allP]
 | p :: a,b=>by simp only [List.cons_append,allP]; rw [Qag]; exact and_assoc.symm
end

structure Ex (w:World) (M:Nat→Prop) (φ:Pl) (w':World) (M':Nat→Prop) (φ':Pl):Prop where
 blk:∀ b,M b→w'.heap[b]?=w.heap[b]?
 sub:∀ b,M b→M' b
 pl:∀ id p,φ id=some p→φ' id=some p
theorem Ex.refl (w:World) (M:Nat→Prop) (φ:Pl):Ex w M φ w M φ:=⟨fun _ _=>rfl,fun _ h=>h,fun _ _ h=>h⟩
theorem Ex.trans {w w1 w2:World} {M M1 M2:Nat→Prop} {φ φ1 φ2:Pl} (h:Ex w M φ w1 M1 φ1) (k:Ex w1 M1 φ1 w2 M2 φ2):Ex w M φ w2 M2 φ2 :=
 ⟨fun b hb=>(k.blk b (h.sub b hb)).trans (h.blk b hb),fun b hb=>k.sub b (h.sub b hb),fun id p hp=>k.pl id p (h.pl id p hp)⟩
section
variable {w w' : World} {M M' : Nat → Prop} {φ φ' : Pl}
theorem IR.mono (hb:∀ b,M b→w'.heap[b]?=w.heap[b]?) (hM:∀ b,M b→M' b) {l:Lf} {v:Value} (h:IR w M l v):IR w' M' l v:=by
 induction h with
 | any v h=>exact .any v h
 | int k n=>exact .int k n
 | bool b=>exact .bool b
 | str s=>exact .str s
 | nilp=>exact .nilp
 | nils=>exact .nils
 | fn f=>exact .fn f
 | ip cells off b o vs hm hc _ ih=>exact .ip cells off b o vs (hM b hm) (fun i l hl=>(World.cell?_of_block (hb b hm)).trans (hc i l hl)) ih
 | sl0 cl sz a cap h=>exact .sl0 cl sz a cap h
 | sl cl sz rows b o cap vs hm hl hcl hs hc _ ih=>exact .sl cl sz rows b o cap vs (hM b hm) hl hcl hs (fun i c j l h1 h2=>(World.cell?_of_block (hb b hm)).trans (hc i c j l h1 h2)) ih
theorem IR.one {l:Lf} {v:Value} (h:IR w M l v):v.oneCell'=true:=by cases h <;> first|rfl|assumption
theorem LR0.mono (he : Ex w M φ w' M' φ') {l : Lf} {v : Value} (h : LR0 w M φ l v) : LR0 w' M' φ' l v := by
  cases l <;> first
    | exact IR.mono he.blk he.sub h
    | (obtain ⟨b, h1, h2⟩ := h; exact ⟨b, he.pl _ _ h1, h2⟩)
    | (obtain ⟨b, C, h1, h2⟩ := h; exact ⟨b, C, he.pl _ _ h1, h2⟩)
    | (rcases h with ⟨b, C, h1, h2⟩ | ⟨h1, h2⟩
       · exact .inl ⟨b, C, he.pl _ _ h1, h2⟩
       · exact .inr ⟨he.pl _ _ h1, h2⟩)
theorem LR0.one {l:Lf} {v:Value} (h:LR0 w M φ l v):v.oneCell'=true:=by
 cases l <;> first
  | exact IR.one h
  | (obtain ⟨b,h1,rfl⟩:=h; rfl)
  | (obtain ⟨b,C,h1,rfl⟩:=h; rfl)
  | (rcases h with ⟨b,C,h1,rfl,_⟩|⟨h1,_,_,a,rfl⟩ <;> rfl)
theorem LR_eq {l:Lf} {v:Value} (hn:isFn l=false):LR w M φ l v=LR0 w M φ l v:=by
 cases l <;> first|rfl|cases hn
theorem LR.split {l:Lf} {v:Value} (h:LR w M φ l v):(isFn l=false∧LR0 w M φ l v)∨∃ f caps vs,l=.fn f caps∧v=.func f #[] (List.toArray vs)∧Rs (LR0 w M φ) caps vs:=by
 cases hf:isFn l with
 | false=>rw [LR_eq hf] at h; exact .inl ⟨rfl,h⟩
 | true =>
  cases l <;> first|cases hf|skip
  obtain ⟨vs,h1,h2⟩:=h
  exact .inr ⟨_,_,vs,rfl,h1,h2⟩
theorem LR.mono (he:Ex w M φ w' M' φ') {l:Lf} {v:Value} (h:LR w M φ l v):LR w' M' φ' l v:=by
 rcases h.split with ⟨hf,h0⟩|⟨f,caps,vs,rfl,rfl,h2⟩
 ·rw [LR_eq hf]; exact LR0.mono he h0
 ·exact ⟨vs,rfl,h2.mono fun _ _ h=>LR0.mono he h⟩
theorem LR.one {l:Lf} {v:Value} (h:LR w M φ l v):v.oneCell'=true:=by
 rcases h.split with ⟨hf,h0⟩|⟨f,caps,vs,rfl,rfl,h2⟩
 ·exact LR0.one h0
 ·rfl
theorem CR.mono (he:Ex w M φ w' M' φ') {c:Cm} {v:Value} (h:CR w M φ c v):CR w' M' φ' c v:=by
 cases c with
 | one l=>exact LR.mono he h
 | agg ls=>obtain ⟨vs,h1,h2⟩:=h; exact ⟨vs,h1,h2.mono fun _ _ h=>LR.mono he h⟩
theorem AR.mono (he:Ex w M φ w' M' φ') {c:AV} {v:Value} (h:AR w M φ c v):AR w' M' φ' c v:=by
 cases c with
 | cm c=>exact CR.mono he h
 | tup cs=>obtain ⟨vs,h1,h2⟩:=h; exact ⟨vs,h1,h2.mono fun _ _ h=>CR.mono he h⟩
 | gd p c=>exact ⟨fun hp=>CR.mono he (h.1 hp),h.2⟩
 | unk=>trivial
 | boo=>exact h
theorem LR.imm {l:Lf} {v:Value} (hi:immL l=true) (h:LR w M φ l v):IR w M l v:=by
 cases l <;> first|exact h|cases hi|skip
 rename_i f caps
 cases caps with
 | cons x r=>cases hi
 | nil =>
  obtain ⟨vs,rfl,h2⟩:=h
  cases vs with
  | nil=>exact IR.fn f
  | cons y s=>exact h2.elim
theorem IR.lr {l:Lf} {v:Value} (h:IR w M l v):LR w M φ l v:=by
 cases h with
 | any v h=>exact IR.any v h
 | int k n=>exact IR.int k n
 | bool b=>exact IR.bool b
 | str s=>exact IR.str s
 | nilp=>exact IR.nilp
 | nils=>exact IR.nils
 | fn f=>exact ⟨[],rfl,trivial⟩
 | ip cells off b o vs hm hc h=>exact IR.ip cells off b o vs hm hc h
 | sl0 cl sz a cap h=>exact IR.sl0 cl sz a cap h
 | sl cl sz rows b o cap vs hm hl hcl hs hc h=>exact IR.sl cl sz rows b o cap vs hm hl hcl hs hc h
theorem LR0.lr {l:Lf} {v:Value} (h:LR0 w M φ l v):LR w M φ l v:=by
 cases hf:isFn l with
 | false=>rw [LR_eq hf]; exact h
 | true=>cases l <;> first|exact IR.lr h|cases hf
theorem CR.cells {c:Cm} {v:Value} (h:CR w M φ c v):Rs (LR w M φ) c.cells v.cells.toList:=by
 cases c with
 | one l =>
  have h1:=LR.one h
  have:v.cells=#[v]:=by cases v <;> first|rfl|cases h1
  rw [this]; exact ⟨h,trivial⟩
 | agg ls=>obtain ⟨vs,rfl,h2⟩:=h; simpa [Value.cells,Cm.cells] using h2
theorem Rs.lr_one {ls:List Lf} {vs:List Value} (h:Rs (LR w M φ) ls vs):∀ v∈vs,v.oneCell'=true:=by
 intro v hv
 obtain ⟨i,hi⟩:=List.mem_iff_getElem?.1 hv
 have hl:=h.len
 have hlt:i<vs.length:=(List.getElem?_eq_some_iff.1 hi).1
 obtain ⟨y,hy,hr⟩:=h.get (List.getElem?_eq_getElem (show i<ls.length by omega))
 rw [hi] at hy; cases hy; exact LR.one hr
end

section
variable {w : World} {M : Nat → Prop} {φ : Pl} {L : Nat → AV} {a : Act}
theorem Qf1 {v:Value} {l:Lf} (h:Qgs v=some l):LR w M φ l v:=by
 unfold Qgs at h
 split at h
 ·cases h; exact IR.int _ _
 ·cases h; exact IR.bool _
 ·cases h; exact IR.str _
 ·cases h; exact IR.nilp
 ·cases h; exact IR.nils
 ·cases h; exact IR.any _ rfl
 ·rename_i f first caps
  cases hc:(first.size == 0&&caps.size == 0) with
  | false=>rw [hc] at h; cases h
  | true =>
   rw [hc] at h; cases h
   simp only [Bool.and_eq_true,beq_iff_eq] at hc
   obtain ⟨h1,h2⟩:=hc
   obtain rfl:=Array.eq_empty_of_size_eq_zero h1
   obtain rfl:=Array.eq_empty_of_size_eq_zero h2
   exact ⟨[],rfl,trivial⟩
 ·cases h
theorem Qfk:∀ {vs:List Value} {ls:List Lf},Qfj vs=some ls→Rs (LR w M φ) ls vs
 | [],_,h=>by cases h; trivial
 | v :: vs,ls,h=>by
  simp only [Qfj] at h
  split at h
  ·rename_i l ls' h1 h2
   cases h
   exact ⟨Qf1 h1,Qfk h2⟩
  ·cases h
theorem QiD {v:Value} {c:Cm} (h:QiC v=some c):CR w M φ c v:=by
 unfold QiC at h
 split at h
 ·rename_i cs
  cases h1:Qfj cs.toList with
  | none=>rw [h1] at h; cases h
  | some ls=>rw [h1] at h; cases h; exact ⟨cs.toList,rfl,Qfk h1⟩
 ·cases h1:Qgs v with
  | none=>rw [h1] at h; cases h
  | some l=>rw [h1] at h; cases h; exact Qf1 h1
theorem Qha (hF:∀ t,AR w M φ (L t) (a.tmps.getD t undef)) (x:Operand):AR w M φ (aev L x) (a.eval x):=by
 cases x with
 | tmp t=>exact hF t
 | const v =>
  unfold aev
  dsimp only
  split
  ·rename_i c h; exact QiD h
  ·trivial
 | func f=>exact ⟨[],rfl,trivial⟩
 | global g=>trivial
theorem Qlg {g:Prop} {v:AV} {cv:Value} {c:Cm} {o:List Prop} (h:getG g v=some (c,o)) (hv:AR w M φ v cv) (ho:allP o) (hg:g):CR w M φ c cv:=by
 cases v with
 | cm c'=>cases h; exact hv
 | gd p c'=>cases h; exact hv.1 (ho.1 hg)
 | tup cs=>cases h
 | unk=>cases h
 | boo=>cases h
theorem Qat {g:Prop} {x:Operand} {c:Cm} {o:List Prop} (hF:∀ t,AR w M φ (L t) (a.tmps.getD t undef)) (h:getG g (aev L x)=some (c,o)) (ho:allP o) (hg:g):CR w M φ c (a.eval x) :=
 Qlg h (Qha hF x) ho hg
theorem Qdu {g:Prop} (hF:∀ t,AR w M φ (L t) (a.tmps.getD t undef)) (hg:g):∀ {xs:List Operand} {cs:List Cm} {o:List Prop},argsG L g xs=some (cs,o)→allP o→Rs (CR w M φ) cs (xs.map a.eval)
 | [],_,_,h,_=>by cases h; trivial
 | x :: xs,cs,o,h,ho=>by
  simp only [argsG] at h
  split at h
  ·rename_i c o1 cs' o2 h1 h2
   cases h
   rw [Qag] at ho
   exact ⟨Qat hF h1 ho.1 hg,Qdu hF hg h2 ho.2⟩
  ·cases h
theorem QfJ {g:Prop} (hF:∀ t,AR w M φ (L t) (a.tmps.getD t undef)) (hg:g):∀ {xs:List (Nat×Operand)} {cs:List (Nat×List Lf)} {o:List Prop},Qi8 L g xs=some (cs,o)→allP o →
  Rs (fun (p:Nat×List Lf) (q:Nat×Value)=>p.1=q.1∧Rs (LR w M φ) p.2 q.2.cells.toList) cs (xs.map fun (i,x)=>(i,a.eval x))
 | [],_,_,h,_=>by cases h; trivial
 | (i,x) :: xs,cs,o,h,ho=>by
  simp only [Qi8] at h
  split at h
  ·rename_i c o1 cs' o2 h1 h2
   cases h
   rw [Qag] at ho
   exact ⟨⟨rfl,(Qat hF h1 ho.1 hg).cells⟩,QfJ hF hg h2 ho.2⟩
  ·cases h
def OptR (w:World) (M:Nat→Prop) (φ:Pl) (a:Act):Option Operand→Option Cm→Prop
 | none,none=>True
 | some x,some c=>CR w M φ c (a.eval x)
 | _,_=>False
theorem Qi5 {g:Prop} (hF:∀ t,AR w M φ (L t) (a.tmps.getD t undef)) (hg:g) {x:Option Operand} {c:Option Cm} {o:List Prop} (h:optG L g x=some (c,o)) (ho:allP o):OptR w M φ a x c:=by
 cases x with
 | none=>cases h; trivial
 | some x =>
  simp only [optG] at h
  cases h1:getG g (aev L x) with
  | none=>rw [h1] at h; cases h
  | some p=>obtain ⟨c',o'⟩:=p; rw [h1] at h; cases h; exact Qat hF h1 ho hg
end

section
variable {w w' : World} {M M' : Nat → Prop} {φ φ' : Pl} {Γ : Gam} {h h' : Nat → Option Ob}
theorem OC.mono {id:Nat} {ob:Ob} (he:Ex w M φ w' M' φ') (hO:OC w M φ id ob) (hblk:∀ b C,φ id=some (some (b,C))→w'.heap[b]?=w.heap[b]?):OC w' M' φ' id ob:=by
 obtain ⟨h0,h1⟩:=hO
 refine ⟨h0,?_⟩
 cases hφ:φ id with
 | none=>rw [hφ] at h1; exact h1.elim
 | some p =>
  rw [he.pl id p hφ]
  rw [hφ] at h1
  cases p with
  | none=>exact h1
  | some bc =>
   obtain ⟨b,C⟩:=bc
   obtain ⟨cur,g1,g2,g3,g4,g5,g6⟩:=h1
   refine ⟨cur,(hblk b C hφ).trans g1,g2,g3,g4,g5,fun i c hc=>⟨(g6 i c hc).1,fun j l hl=>?_⟩⟩
   obtain ⟨v,hv,hr⟩:=(g6 i c hc).2 j l hl
   refine ⟨v,hv,?_⟩
   split
   ·rename_i hb; rw [if_pos hb] at hr; exact LR.mono he hr
   ·rename_i hb; rw [if_neg hb] at hr; exact IR.mono he.blk he.sub hr
theorem EntR.mono (hb:∀ b,M b→w'.heap[b]?=w.heap[b]?) (hM:∀ b,M b→M' b) {row:List Lf} {e:MapEntry} (h:EntR w M row e):EntR w' M' row e:=by
 obtain ⟨v,ks,h1,h2,h3⟩:=h
 refine ⟨v,ks,h1,h2.mono hb hM,?_⟩
 rcases h3 with ⟨k,h4,h5⟩|⟨h4,vs,h5,h6⟩
 ·exact .inl ⟨k,h4,h5.mono hb hM⟩
 ·exact .inr ⟨h4,vs,h5,h6.mono fun _ _ h=>h.mono hb hM⟩
theorem OR.mono {id:Nat} {ob:Ob} (he:Ex w M φ w' M' φ') (hO:OR w M φ id ob) (hblk:∀ b C,φ id=some (some (b,C))→w'.heap[b]?=w.heap[b]?):OR w' M' φ' id ob:=by
 rcases hO with hO|⟨hb,rs,b,es,clk,h1,h2,h3,h4⟩
 ·exact .inl (hO.mono he hblk)
 ·exact .inr ⟨hb,rs,b,es,clk,h1,he.pl _ _ h2,(hblk b 1 h2).trans h3,h4.mono fun _ _ h=>EntR.mono he.blk he.sub h⟩
theorem OR.oc {id:Nat} {ob:Ob} (hO:OR w M φ id ob) (h:ob.box=false∨∃ c,ob.rows=[c]):OC w M φ id ob:=by
 rcases hO with hO|⟨hb,rs,b,es,clk,h1,-⟩
 ·exact hO
 ·rcases h with h|⟨c,h⟩
  ·rw [hb] at h; cases h
  ·rw [h1] at h; cases h
theorem OR.placed {id:Nat} {ob:Ob} (hO:OR w M φ id ob) (h:φ id=none):False:=by
 rcases hO with ⟨-,hO⟩|⟨-,rs,b,es,clk,-,h2,-⟩
 ·rw [h] at hO; exact hO
 ·rw [h] at h2; cases h2
theorem OR.boxed {id:Nat} {ob:Ob} (hO:OR w M φ id ob) (hb:ob.box=true):∃ b,φ id=some (some (b,1)):=by
 rcases hO with ⟨-,hO⟩|⟨-,rs,b,es,clk,-,h2,-⟩
 ·cases hφ:φ id with
  | none=>rw [hφ] at hO; exact hO.elim
  | some p =>
   rw [hφ] at hO
   cases p with
   | none=>rw [hO.2] at hb; cases hb
   | some bc =>
    obtain ⟨b,C⟩:=bc
    obtain ⟨cur,q1,q2,q3,q4,q5,q6⟩:=hO
    rw [q5 hb]; exact ⟨b,rfl⟩
 ·exact ⟨b,h2⟩
theorem OC.noMap {id:Nat} {ob:Ob} (hO:OC w M φ id ob) (hb:ob.box=true):isMap ob=false:=by
 have hO1:OR w M φ id ob:=.inl hO
 obtain ⟨b,hφ⟩:=hO1.boxed hb
 obtain ⟨_,hO⟩:=hO
 rw [hφ] at hO
 obtain ⟨cur,g1,g2,g3,g4,g5,g6⟩:=hO
 unfold isMap Qgr
 split
 ·rename_i r hr
  rw [hr] at g3; simp at g3
 ·rfl
theorem OR.ren {id id':Nat} {ob:Ob} (hO:OR w M φ id ob) (e:φ id'=φ id):OR w M φ id' ob:=by
 rcases hO with ⟨h0,hO⟩|⟨hb,rs,b,es,clk,h1,h2,h3⟩
 ·exact .inl ⟨h0,by rw [e]; exact hO⟩
 ·exact .inr ⟨hb,rs,b,es,clk,h1,e.trans h2,h3⟩
theorem Wd.less (hW:Wd Γ φ M h w) (hs:∀ id ob,h' id=some ob→h id=some ob):Wd Γ φ M h' w :=
 ⟨fun id ob e=>hW.obs id ob (hs id ob e),fun i j oi oj b Ci Cj hi hj=>hW.inj i j oi oj b Ci Cj (hs _ _ hi) (hs _ _ hj),hW.mlt,hW.m0,hW.mold,fun id ob b C e=>hW.own id ob b C (hs id ob e),hW.keep,hW.os,hW.tape,hW.output,hW.size,hW.pin,hW.tbw⟩
theorem Wd.tab (hW:Wd Γ φ M h w) (b:Nat) (cs:Array Value) (ht:tab0=some (b,cs)):M b∧b<w.heap.size∧∃ t s,w.heap[b]?=some (.cells cs t s):=by
 obtain ⟨h1,h2,h3,t,s,h4⟩:=hW.tbw b cs ht
 have hm:=hW.m0 b h1
 exact ⟨hm,hW.mlt b hm,t,s,(hW.keep b h3 h2).trans h4⟩
theorem Wd.grow (hW:Wd Γ φ M h w) (hb:Below w.heap.size w w'):Wd Γ φ M h w':=by
 have he:Ex w M φ w' M φ:=⟨fun b hm=>hb.block b (hW.mlt b hm),fun _ h=>h,fun _ _ h=>h⟩
 exact ⟨fun id ob e=>(hW.obs id ob e).mono he fun b C hφ=>hb.block b (hW.own id ob b C e hφ).2.1,hW.inj,fun b hm=>Nat.lt_of_lt_of_le (hW.mlt b hm) hb.size,hW.m0,hW.mold,
  fun id ob b C e hφ=>⟨(hW.own id ob b C e hφ).1,Nat.lt_of_lt_of_le (hW.own id ob b C e hφ).2.1 hb.size,(hW.own id ob b C e hφ).2.2⟩,
  fun b hlt hn=>(hb.block b (Nat.lt_of_lt_of_le hlt hW.size)).trans (hW.keep b hlt hn),hb.os.trans hW.os,hb.tape.trans hW.tape,hb.output.trans hW.output,Nat.le_trans hW.size hb.size,hW.pin,hW.tbw⟩
theorem Wd.ex_grow (hW:Wd Γ φ M h w) (hb:Below w.heap.size w w'):Ex w M φ w' M φ:=⟨fun b hm=>hb.block b (hW.mlt b hm),fun _ h=>h,fun _ _ h=>h⟩
def upP (φ:Pl) (id:Nat) (p:Option (Nat×Nat)):Pl:=fun i=>if i=id then some p else φ i
theorem QaS (φ:Pl) (id:Nat) (p:Option (Nat×Nat)):upP φ id p id=some p:=if_pos rfl
theorem QdE {φ:Pl} {id i:Nat} (p:Option (Nat×Nat)) (hne:i≠id):upP φ id p i=φ i:=if_neg hne
theorem Qew {φ:Pl} {id:Nat} (p:Option (Nat×Nat)) (hn:φ id=none):∀ i q,φ i=some q→upP φ id p i=some q:=fun i q hq=>by
 rw [QdE]; · exact hq
 ·rintro rfl; rw [hn] at hq; cases hq
theorem Wd.new (hW:Wd Γ φ M h w) {id:Nat} (ob:Ob) {b C:Nat} (hφ:φ id=none) (hh:h id=none) (hb:Below w.heap.size w w') (hbs:w.heap.size≤b) (hbl:b<w'.heap.size)
  (hO:OR w' M (upP φ id (some (b,C))) id ob):Wd Γ (upP φ id (some (b,C))) M (fun i=>if i=id then some ob else h i) w':=by
 have hW':=hW.grow hb
 have he:Ex w' M φ w' M (upP φ id (some (b,C))):=⟨fun _ _=>rfl,fun _ h=>h,Qew _ hφ⟩
 have hpi:∀ i o,h i=some o→i≠id:=fun i o e=>by rintro rfl; rw [hh] at e; cases e
 refine ⟨fun i o e=>?_,fun i j oi oj c Ci Cj hi hj pi pj=>?_,hW'.mlt,hW'.m0,hW'.mold,fun i o c C' e p=>?_,hW'.keep,hW'.os,hW'.tape,hW'.output,hW'.size,fun p hp=>he.pl _ _ (hW.pin p hp),hW.tbw⟩
 ·by_cases hi:i=id
  ·subst hi; rw [if_pos rfl] at e; cases e; exact hO
  ·rw [if_neg hi] at e; exact (hW'.obs i o e).mono he fun _ _ _=>rfl
 ·have key:∀ {k:Nat} {o:Ob} {c Ck:Nat},k≠id→h k=some o→upP φ id (some (b,C)) k=some (some (c,Ck))→c<w.heap.size:=fun hk ho hp=>by
   rw [QdE _ hk] at hp; exact (hW.own _ _ _ _ ho hp).2.1
  by_cases hi':i=id <;> by_cases hj':j=id
  ·rw [hi',hj']
  ·subst hi'; rw [QaS] at pi; cases pi; rw [if_neg hj'] at hj; have:=key hj' hj pj; omega
  ·subst hj'; rw [QaS] at pj; cases pj; rw [if_neg hi'] at hi; have:=key hi' hi pi; omega
  ·rw [if_neg hi'] at hi; rw [if_neg hj'] at hj; rw [QdE _ hi'] at pi; rw [QdE _ hj'] at pj; exact hW.inj i j oi oj c Ci Cj hi hj pi pj
 ·by_cases hi:i=id
  ·subst hi; rw [QaS] at p; cases p
   exact ⟨fun hm=>by have:=hW.mlt _ hm; omega,hbl,.inr (Nat.le_trans hW.size hbs)⟩
  ·rw [if_neg hi] at e; rw [QdE _ hi] at p; exact hW'.own i o c C' e p
theorem Wd.newNil (hW:Wd Γ φ M h w) {id:Nat} (ob:Ob) (hφ:φ id=none) (hh:h id=none) (hr:ob.rows=[]) (hbx:ob.box=false) (hs:0<ob.sz) :
  Wd Γ (upP φ id none) M (fun i=>if i=id then some ob else h i) w:=by
 have he:Ex w M φ w M (upP φ id none):=⟨fun _ _=>rfl,fun _ h=>h,Qew _ hφ⟩
 refine ⟨fun i o e=>?_,fun i j oi oj c Ci Cj hi hj pi pj=>?_,hW.mlt,hW.m0,hW.mold,fun i o c C' e p=>?_,hW.keep,hW.os,hW.tape,hW.output,hW.size,fun p hp=>he.pl _ _ (hW.pin p hp),hW.tbw⟩
 ·by_cases hi:i=id
  ·subst hi; rw [if_pos rfl] at e; cases e; refine .inl ⟨hs,?_⟩; rw [QaS]; exact ⟨hr,hbx⟩
  ·rw [if_neg hi] at e; exact (hW.obs i o e).mono he fun _ _ _=>rfl
 ·by_cases hi':i=id
  ·subst hi'; rw [QaS] at pi; cases pi
  ·by_cases hj':j=id
   ·subst hj'; rw [QaS] at pj; cases pj
   ·rw [if_neg hi'] at hi; rw [if_neg hj'] at hj; rw [QdE _ hi'] at pi; rw [QdE _ hj'] at pj; exact hW.inj i j oi oj c Ci Cj hi hj pi pj
 ·by_cases hi:i=id
  ·subst hi; rw [QaS] at p; cases p
  ·rw [if_neg hi] at e; rw [QdE _ hi] at p; exact hW.own i o c C' e p
theorem Wd.turn (hW:Wd Γ φ M h w) {id:Nat} {ob ob':Ob} {b C:Nat} (hh:h id=some ob) (hφ:φ id=some (some (b,C))) (hother:∀ k,k≠b→w'.heap[k]?=w.heap[k]?) (hsz:w'.heap.size=w.heap.size)
  (hos:w'.os=w.os) (htp:w'.tape=w.tape) (hout:w'.output=w.output) (hO:OR w' M φ id ob'):Wd Γ φ M (fun i=>if i=id then some ob' else h i) w':=by
 obtain ⟨hm,hlt,hown⟩:=hW.own id ob b C hh hφ
 have he:Ex w M φ w' M φ:=⟨fun c hc=>hother c fun e=>hm (e ▸ hc),fun _ h=>h,fun _ _ h=>h⟩
 have hsome:∀ i o,(fun i=>if i=id then some ob' else h i) i=some o→∃ o',h i=some o':=fun i o e=>by
  by_cases hi:i=id
  ·subst hi; exact ⟨ob,hh⟩
  ·simp only [if_neg hi] at e; exact ⟨o,e⟩
 refine ⟨fun i o e=>?_,fun i j oi oj c Ci Cj hi hj pi pj=>?_,fun c hc=>by rw [hsz]; exact hW.mlt c hc,hW.m0,hW.mold,fun i o c C' e p=>?_,fun c hc hn=>?_,hos.trans hW.os,htp.trans hW.tape,hout.trans hW.output,by rw [hsz]; exact hW.size,hW.pin,hW.tbw⟩
 ·by_cases hi:i=id
  ·subst hi; simp only [if_true] at e; cases e; exact hO
  ·simp only [if_neg hi] at e
   exact (hW.obs i o e).mono he fun c C' hp=>hother c fun hc=>hi (hW.inj i id o ob b C' C e hh (hc ▸ hp) hφ)
 ·obtain ⟨oi',hi'⟩:=hsome i oi hi
  obtain ⟨oj',hj'⟩:=hsome j oj hj
  exact hW.inj i j oi' oj' c Ci Cj hi' hj' pi pj
 ·obtain ⟨o',ho'⟩:=hsome i o e
  rw [hsz]; exact hW.own i o' c C' ho' p
 ·rw [hother c fun e=>?_]
  ·exact hW.keep c hc hn
  ·subst e
   rcases hown with h1|h1
   ·exact hn h1
   ·omega
end
end Go.Proofs.YtpkkaboonnedfaaDoor
namespace Go.Proofs.YtpkkaboonnedfaaDoor
set_option linter.unusedSimpArgs false
set_option linter.unusedVariables false
set_option linter.unusedSectionVars false
open Go.RowKit

def plc (h:Nat→Option Ob) (base:Nat) (news:List Ob):Nat→Option Ob:=fun id=>if base≤id∧id<base+news.length then news[id-base]? else h id
theorem Qd5 (h:Nat→Option Ob) (base:Nat):plc h base []=h:=by
 funext id; unfold plc; rw [if_neg (fun h=>by have:=h.2; simp at this; omega)]
theorem Qje (h:Nat→Option Ob) (base:Nat) (ob:Ob):plc h base [ob]=fun i=>if i=base then some ob else h i:=by
 funext id; unfold plc
 by_cases hi:id=base
 ·subst hi; simp
 ·rw [if_neg hi,if_neg (by simp only [List.length_singleton]; omega)]
def Yd (P:Program) (Γ:Gam) (φ:Pl) (M:Nat→Prop) (hD:Nat→Option Ob) (w:World) (base:Nat) (r:Res) (run:Result Next):Prop :=
 ∃ v w' φ',run=.ok (.value v) w'∧AR w' M φ' r.v v∧Wd Γ φ' M (plc hD base r.news) w'∧(∀ id p,φ id=some p→φ' id=some p) ∧
  (∀ id,φ' id≠none→φ id≠none∨(base≤id∧id<base+r.news.length))∧(∀ b,M b→w'.heap[b]?=w.heap[b]?)
section
variable {P : Program} {Γ : Gam} {φ : Pl} {M : Nat → Prop} {hD h : Nat → Option Ob} {w : World} {base : Nat} {L : Nat → AV} {a : Act} {g : Prop} {hs : List Hint} {r : Res} {o : Oper}
theorem Yd.val {run:Result Next} {v:Value} (hr:run=.ok (.value v) w) (hn:r.news=[]) (hv:AR w M φ r.v v) (hW:Wd Γ φ M hD w):Yd P Γ φ M hD w base r run :=
 ⟨v,w,φ,hr,hv,by rw [hn,Qd5]; exact hW,fun _ _ h=>h,fun _ h=>.inl h,fun _ _=>rfl⟩
theorem Yd.grow {run:Result Next} {v:Value} {w':World} (hr:run=.ok (.value v) w') (hn:r.news=[]) (hb:Below w.heap.size w w') (hv:AR w' M φ r.v v) (hW:Wd Γ φ M hD w):Yd P Γ φ M hD w base r run :=
 ⟨v,w',φ,hr,hv,by rw [hn,Qd5]; exact hW.grow hb,fun _ _ h=>h,fun _ h=>.inl h,fun b hm=>hb.block b (hW.mlt b hm)⟩
theorem Yd.new {run:Result Next} {v:Value} {w':World} {ob:Ob} {b C:Nat} (hr:run=.ok (.value v) w') (hn:r.news=[ob]) (hW:Wd Γ φ M hD w) (hfr:∀ id,base≤id→id<base+r.news.length→φ id=none∧hD id=none)
  (hb:Below w.heap.size w w') (hbs:w.heap.size≤b) (hbl:b<w'.heap.size) (hO:OR w' M (upP φ base (some (b,C))) base ob) (hv:AR w' M (upP φ base (some (b,C))) r.v v):Yd P Γ φ M hD w base r run:=by
 have hf:=hfr base (Nat.le_refl _) (by rw [hn]; simp)
 refine ⟨v,w',upP φ base (some (b,C)),hr,hv,?_,Qew _ hf.1,fun id hid=>?_,fun c hm=>hb.block c (hW.mlt c hm)⟩
 ·rw [hn,Qje]; exact hW.new ob hf.1 hf.2 hb hbs hbl hO
 ·by_cases hi:id=base
  ·exact .inr (by rw [hi,hn]; simp)
  ·rw [QdE _ hi] at hid; exact .inl hid
theorem Yd.newNil {run:Result Next} {v:Value} {w':World} {ob:Ob} (hr:run=.ok (.value v) w') (hn:r.news=[ob]) (hW:Wd Γ φ M hD w) (hfr:∀ id,base≤id→id<base+r.news.length→φ id=none∧hD id=none)
  (hb:Below w.heap.size w w') (h1:ob.rows=[]) (h2:ob.box=false) (h3:0<ob.sz) (hv:AR w' M (upP φ base none) r.v v):Yd P Γ φ M hD w base r run:=by
 have hf:=hfr base (Nat.le_refl _) (by rw [hn]; simp)
 refine ⟨v,w',upP φ base none,hr,hv,?_,Qew _ hf.1,fun id hid=>?_,fun c hm=>hb.block c (hW.mlt c hm)⟩
 ·rw [hn,Qje]; exact (hW.grow hb).newNil ob hf.1 hf.2 h1 h2 h3
 ·by_cases hi:id=base
  ·exact .inr (by rw [hi,hn]; simp)
  ·rw [QdE _ hi] at hid; exact .inl hid
theorem QcQ (w:World) (o:Obj):Below w.heap.size w (w.alloc o):=(Below.refl _ _).alloc (Nat.le_refl _) o

theorem Qce {t:TypeId} {n:Nat} (h:tsz P t=some n):∃ i,P.info? t=some i∧i.size=n:=by
 unfold tsz at h
 cases hi:P.info? t with
 | none=>rw [hi] at h; cases h
 | some i=>rw [hi] at h; cases h; exact ⟨i,rfl,rfl⟩
theorem QgL {t:TypeId} {b:Bool} (h:trow P t=some b):∃ d,P.underlying t=some d∧d.isRow=b:=by
 unfold trow at h
 cases hi:P.underlying t with
 | none=>rw [hi] at h; cases h
 | some d=>rw [hi] at h; cases h; exact ⟨d,rfl,rfl⟩
theorem QcY {t:TypeId} {z:List Lf} (h:zeroL P t=some z):∃ i zv,P.info? t=some i∧i.zero=some zv∧zv.cells.size=i.size∧0<i.size∧Rs (LR w M φ) z zv.cells.toList∧z.length=i.size:=by
 unfold zeroL at h
 split at h
 ·rename_i i hi
  split at h
  ·rename_i zv hz
   cases hc:(zv.cells.size == i.size&&!(i.size == 0)) with
   | false=>rw [hc] at h; cases h
   | true =>
    rw [hc] at h
    simp only [Bool.and_eq_true,beq_iff_eq,Bool.not_eq_true',beq_eq_false_iff_ne] at hc
    have hrs:=Qfk (w:=w) (M:=M) (φ:=φ) h
    exact ⟨i,zv,hi,hz,hc.1,by omega,hrs,by rw [hrs.len,← hc.1]; simp⟩
  ·cases h
 ·cases h
theorem Qbc {t e:TypeId} (h:Qcd P t=some e):P.underlying t=some (.slice e):=by
 unfold Qcd at h
 split at h
 ·rename_i e' he; cases h; exact he
 ·cases h
theorem QfK {t:TypeId} {d:TypeDesc} (hu:P.underlying t=some d) (w:World):(isAgg t).run P w=.ok d.isRow w:=by
 unfold isAgg
 rw [Sem.run_bind,run_underlying hu w]
 cases d <;> rfl
theorem Qbu {t:TypeId} {i:TypeInfo} (hi:P.info? t=some i) (w:World):(sizeOf t).run P w=.ok i.size w:=by simp [sizeOf,typeInfo,hi]

theorem QkE {R:Lf→Value→Prop} {b:Nat}:∀ (ls:List Lf) (k:Nat),(∀ (i:Nat) (l:Lf),ls[i]?=some l→∃ v,w.cell? ⟨b,k+i,none⟩=some v∧R l v)→∃ vs,Rs R ls vs∧w.rangeAt b k vs
 | [],_,_=>⟨[],trivial,fun j v h=>by simp at h⟩
 | l :: ls,k,h=>by
  obtain ⟨v,hv,hr⟩:=h 0 l rfl
  obtain ⟨vs,h1,h2⟩:=QkE ls (k+1) fun i l' hl=>by
   obtain ⟨v,hv,hr⟩:=h (i+1) l' (by simpa using hl)
   exact ⟨v,by rw [show k+1+i=k+(i+1) by omega]; exact hv,hr⟩
  refine ⟨v :: vs,⟨hr,h1⟩,fun j u hj=>?_⟩
  cases j with
  | zero=>simp at hj; subst hj; exact hv
  | succ j=>rw [show k+(j+1)=k+1+j by omega]; exact h2 j u (by simpa using hj)
theorem Qe2 {t:TypeId} {n:Nat} {rw_:Bool} {b k off:Nat} {cells:List Lf} {c:Cm} (ht:tsz P t=some n) (hr:trow P t=some rw_) (hp:partL rw_ n off cells=some c)
  (hc:∀ (i:Nat) (l:Lf),cells[i]?=some l→∃ v,w.cell? ⟨b,k+i,none⟩=some v∧LR w M φ l v):∃ v,(loadVar t ⟨b,k+off,none⟩).run P w=.ok v w∧CR w M φ c v:=by
 obtain ⟨i,hi,hsz⟩:=Qce ht
 obtain ⟨d,hu,hd⟩:=QgL hr
 unfold partL at hp
 cases rw_ with
 | true =>
  simp only [cond_true] at hp
  cases hl:(((cells.drop off).take n).length == n) with
  | false=>rw [hl] at hp; cases hp
  | true =>
   rw [hl] at hp; cases hp
   have hl':((cells.drop off).take n).length=n:=by simpa using hl
   obtain ⟨vs,h1,h2⟩:=QkE (w:=w) (R:=LR w M φ) (b:=b) ((cells.drop off).take n) (k+off) fun j l hj=>by
    have hj2:cells[off+j]?=some l:=by
     rw [List.getElem?_take] at hj
     split at hj
     ·rw [List.getElem?_drop] at hj; exact hj
     ·cases hj
    obtain ⟨v,hv,hr⟩:=hc _ _ hj2
    exact ⟨v,by rw [show k+off+j=k+(off+j) by omega]; exact hv,hr⟩
   exact ⟨_,run_loadVar_mid w b (k+off) t vs d h2 hu hd (by rw [hi,Option.map_some,hsz,← h1.len,hl']),vs,rfl,h1⟩
 | false =>
  simp only [cond_false] at hp
  cases hl:cells[off]? with
  | none=>rw [hl] at hp; cases hp
  | some l =>
   rw [hl] at hp; cases hp
   obtain ⟨v,hv,hr⟩:=hc _ _ hl
   refine ⟨v,?_,hr⟩
   unfold loadVar
   rw [Sem.run_bind,QfK hu w,hd]
   simp [hv]
theorem OR.cell {id:Nat} {ob:Ob} {b C i:Nat} {c:List Lf} (hO:OR w M φ id ob) (hoc:ob.box=false∨∃ c,ob.rows=[c]) (hφ:φ id=some (some (b,C))) (hc:ob.rows[i]?=some c) :
  ∀ (j:Nat) (l:Lf),c[j]?=some l→∃ v,w.cell? ⟨b,i*ob.sz+j,none⟩=some v∧(if ob.box then LR w M φ l v else IR w M l v):=by
 obtain ⟨_,h1⟩:=hO.oc hoc
 rw [hφ] at h1
 obtain ⟨cur,g1,g2,g3,g4,g5,g6⟩:=h1
 intro j l hl
 obtain ⟨v,hv,hr⟩:=(g6 i c hc).2 j l hl
 exact ⟨v,by simp only [World.cell?,g1]; simpa using hv,hr⟩
theorem OR.cell' {id:Nat} {ob:Ob} {b C i:Nat} {c:List Lf} (hO:OR w M φ id ob) (hoc:ob.box=false∨∃ c,ob.rows=[c]) (hφ:φ id=some (some (b,C))) (hc:ob.rows[i]?=some c) :
  ∀ (j:Nat) (l:Lf),c[j]?=some l→∃ v,w.cell? ⟨b,i*ob.sz+j,none⟩=some v∧LR w M φ l v:=fun j l hl=>by
 obtain ⟨v,hv,hr⟩:=hO.cell hoc hφ hc j l hl
 refine ⟨v,hv,?_⟩
 split at hr
 ·exact hr
 ·exact IR.lr hr

theorem Qju {t:TypeId} {x:Operand} (ho:o.op=.load t x) (hf:fop P h base g L o.op hs=some r) (hob:allP r.obs) (hg:g) (hF:∀ t,AR w M φ (L t) (a.tmps.getD t undef)) (hW:Wd Γ φ M hD w)
  (hsub:∀ id ob,h id=some ob→hD id=some ob):Yd P Γ φ M hD w base r ((execOp a.eval o).run P w):=by
 rw [ho] at hf
 simp only [fop] at hf
 have hrun:∀ v b k,a.eval x=.pointer (some ⟨b,k,none⟩)→(loadVar t ⟨b,k,none⟩).run P w=.ok v w→(execOp a.eval o).run P w=.ok (.value v) w:=fun v b k hx hl=>by
  simp [execOp,ho,Instr.loadAt,Instr.sureAddr,hx,hl]
 split at hf
 ·rename_i cells off o1 n rw_ h1 h2 h3
  cases hp:partL rw_ n off cells with
  | none=>rw [hp] at hf; cases hf
  | some c =>
   rw [hp] at hf; cases hf
   have hx:=Qat hF h1 hob hg
   have hx':IR w M (.ip cells off) (a.eval x):=hx
   generalize hv:a.eval x=xv at hx'
   cases hx' with
   | ip _ _ b k vs hm hc hr =>
    obtain ⟨v,hl,hcr⟩:=Qe2 (M:=M) (φ:=φ) (b:=b) (k:=k) h2 h3 hp fun i l hl=>⟨_,hc i l hl,IR.lr (hr i l hl)⟩
    exact Yd.val (hrun v b _ hv hl) rfl hcr hW
 ·rename_i id sz row off o1 n rw_ h1 h2 h3
  split at hf
  ·rename_i ob hob1
   cases hsz:(ob.sz == sz) with
   | false=>rw [hsz] at hf; cases hf
   | true =>
    rw [hsz] at hf
    simp only [cond_true] at hf
    have hsz':ob.sz=sz:=by simpa using hsz
    have hO:=hW.obs id ob (hsub id ob hob1)
    split at hf
    ·rename_i hbx hrows
     cases hr0:(row == 0) with
     | false=>rw [hr0] at hf; cases hf
     | true =>
      rw [hr0] at hf
      have hr0':row=0:=by simpa using hr0
      rename_i cells
      cases hp:partL rw_ n off cells with
      | none=>rw [hp] at hf; cases hf
      | some c =>
       rw [hp] at hf; cases hf
       obtain ⟨b,C,hφ,hv⟩:=(Qat hF h1 hob hg:LR0 w M φ (.op id sz row off) (a.eval x))
       obtain ⟨v,hl,hcr⟩:=Qe2 (M:=M) (φ:=φ) (b:=b) (k:=row*sz) h2 h3 hp fun i l hl=>by
        have:=hO.cell' (i:=0) (.inr ⟨_,hrows⟩) hφ (by rw [hrows]; rfl) i l hl
        rw [hr0',Nat.zero_mul]; rwa [Nat.zero_mul] at this
       exact Yd.val (hrun v b _ hv hl) rfl hcr hW
    ·rename_i c0 hs' hbx
     cases hp:partL rw_ n off c0 with
     | none=>rw [hp] at hf; cases hf
     | some c =>
      rw [hp] at hf; cases hf
      rw [Qag] at hob
      obtain ⟨b,C,hφ,hv⟩:=(Qat hF h1 hob.1 hg:LR0 w M φ (.op id sz row off) (a.eval x))
      obtain ⟨v,hl,hcr⟩:=Qe2 (M:=M) (φ:=φ) (b:=b) (k:=row*sz) h2 h3 hp fun i l hl=>by
       have:=hO.cell' (i:=row) (.inl hbx) hφ hob.2.1 i l hl
       rwa [hsz'] at this
      exact Yd.val (hrun v b _ hv hl) rfl hcr hW
    ·cases hf
  ·cases hf
 ·cases hf
end
end Go.Proofs.YtpkkaboonnedfaaDoor
namespace Go.Proofs.YtpkkaboonnedfaaDoor
set_option linter.unusedSimpArgs false
set_option linter.unusedVariables false
set_option linter.unusedSectionVars false
open Go.RowKit
section
variable {P : Program} {Γ : Gam} {φ : Pl} {M : Nat → Prop} {hD h : Nat → Option Ob} {w : World} {base : Nat} {L : Nat → AV} {a : Act} {g : Prop} {hs : List Hint} {r : Res} {o : Oper}
variable (hob : allP r.obs) (hg : g) (hF : ∀ t, AR w M φ (L t) (a.tmps.getD t undef)) (hW : Wd Γ φ M hD w)
include hob hg hF hW

theorem Qg5 {x:Operand} (ho:o.op=.move x∨o.op=.assign x) (hf:fop P h base g L (.move x) hs=some r):Yd P Γ φ M hD w base r ((execOp a.eval o).run P w):=by
 have hrun:(execOp a.eval o).run P w=.ok (.value (a.eval x)) w:=by rcases ho with ho|ho <;> simp [execOp,ho]
 have hx:=Qha hF x
 simp only [fop] at hf
 split at hf
 ·rename_i c h1; cases hf; rw [h1] at hx; exact Yd.val hrun rfl hx hW
 ·rename_i c h1; cases hf; rw [h1] at hx; exact Yd.val hrun rfl hx hW
 ·rename_i p c h1; cases hf; rw [h1] at hx; exact Yd.val hrun rfl (hx.1 (hob.1 hg)) hW
 ·cases hf
 ·rename_i h1; cases hf; rw [h1] at hx; exact Yd.val hrun rfl hx hW
theorem Qjv {c x y:Operand} (ho:o.op=.pick c x y) (hf:fop P h base g L o.op hs=some r):Yd P Γ φ M hD w base r ((execOp a.eval o).run P w):=by
 rw [ho] at hf
 simp only [fop] at hf
 have hrun:∀ b,a.eval c=.bool b→(execOp a.eval o).run P w=.ok (.value (if b then a.eval x else a.eval y)) w:=fun b hb=>by
  simp [execOp,ho,hb,asBool]
 split at hf
 ·rename_i bc o1 hs' h1
  split at hf
  ·rename_i bx oa by_ ob_ h2 h3
   cases hf
   simp only [Qag] at hob
   have hc:IR w M (.bool bc) (a.eval c):=Qat hF h1 hob.1.1 hg
   generalize hv:a.eval c=cv at hc
   cases hc
   refine Yd.val (hrun _ hv) rfl ?_ hW
   cases bc with
   | true=>exact (Qat hF h2 hob.1.2 ⟨hg,rfl⟩:CR w M φ (.one (.bool bx)) (a.eval x))
   | false=>exact (Qat hF h3 hob.2 ⟨hg,rfl⟩:CR w M φ (.one (.bool by_)) (a.eval y))
  ·cases hf
 ·rename_i bc o1 t hs' h1
  cases h2:getG g (aev L (cond t x y)) with
  | none=>rw [h2] at hf; cases hf
  | some p =>
   obtain ⟨cx,o2⟩:=p
   rw [h2] at hf; cases hf
   simp only [Qag,allP] at hob
   have hc:IR w M (.bool bc) (a.eval c):=Qat hF h1 hob.1.1 hg
   generalize hv:a.eval c=cv at hc
   cases hc
   refine Yd.val (hrun _ hv) rfl ?_ hW
   have h3:CR w M φ cx (a.eval (cond t x y)):=Qat hF h2 hob.2 hg
   obtain rfl:=hob.1.2.1
   cases bc <;> exact h3
 ·cases hf
theorem Qk6 {w':World} {e:TypeId} {ls:List Lf} {vs:Array Value} {id b:Nat} {φ':Pl} (hφ:φ' id=some (some (b,1))) (hb:w'.heap[b]?=some (.cells vs e)) (hr:Rs (LR w' M φ') ls vs.toList) (h0:0<ls.length):OR w' M φ' id (boxOb e ls):=by
 refine .inl ⟨h0,?_⟩
 rw [hφ]
 refine ⟨vs,hb,by rw [← Array.length_toList,← hr.len]; simp [boxOb],by simp [boxOb],by decide,fun _=>rfl,fun i c hc=>?_⟩
 cases i with
 | zero =>
  simp [boxOb] at hc; subst hc
  refine ⟨rfl,fun j l hl=>?_⟩
  obtain ⟨v,hv,hlr⟩:=hr.get hl
  exact ⟨v,by rw [Nat.zero_mul,Nat.zero_add]; simpa using hv,hlr⟩
 | succ i=>simp [boxOb] at hc
theorem Qe6 {e:TypeId} {ls:List Lf} {v:Value} (hn:r.news=[boxOb e ls]) (hv:r.v=one (.op base ls.length 0 0)) (h0:0<ls.length) (hr:Rs (LR w M φ) ls v.cells.toList)
  (hrun:(execOp a.eval o).run P w=.ok (.value (.pointer (some ⟨w.heap.size,0,none⟩))) (w.alloc (.cells v.cells e))) (hfr:∀ id,base≤id→id<base+r.news.length→φ id=none∧hD id=none) :
  Yd P Γ φ M hD w base r ((execOp a.eval o).run P w):=by
 have hf:=hfr base (Nat.le_refl _) (by rw [hn]; simp)
 have hb:=QcQ w (.cells v.cells e)
 have he:Ex w M φ (w.alloc (.cells v.cells e)) M (upP φ base (some (w.heap.size,1))):=⟨fun b hm=>hb.block b (hW.mlt b hm),fun _ h=>h,Qew _ hf.1⟩
 refine Yd.new (b:=w.heap.size) (C:=1) hrun hn hW hfr hb (Nat.le_refl _) (by simp) ?_ ?_
 ·exact Qk6 hob hg hF hW (QaS _ _ _) (heap_alloc_new w _) (hr.mono fun _ _ h=>LR.mono he h) h0
 ·rw [hv]; exact ⟨w.heap.size,1,QaS _ _ _,by simp⟩
theorem Qih {e:TypeId} (ho:o.op=.alloc e) (hf:fop P h base g L o.op hs=some r) (hfr:∀ id,base≤id→id<base+r.news.length→φ id=none∧hD id=none):Yd P Γ φ M hD w base r ((execOp a.eval o).run P w):=by
 rw [ho] at hf
 simp only [fop] at hf
 cases hz:zeroL P e with
 | none=>rw [hz] at hf; cases hf
 | some z =>
  rw [hz] at hf; cases hf
  obtain ⟨i,zv,hi,hzv,hzs,h0,hrs,hl⟩:=QcY (w:=w) (M:=M) (φ:=φ) hz
  refine Qe6 hob hg hF hW (v:=zv) rfl rfl (by omega) hrs ?_ hfr
  simp [execOp,ho,Instr.alloc,zeroValue,typeInfo,hi,hzv,newVar,newRow]
theorem Qj2 {e:TypeId} {x:Operand} (ho:o.op=.box e x) (hf:fop P h base g L o.op hs=some r) (hfr:∀ id,base≤id→id<base+r.news.length→φ id=none∧hD id=none):Yd P Γ φ M hD w base r ((execOp a.eval o).run P w):=by
 rw [ho] at hf
 simp only [fop] at hf
 split at hf
 ·rename_i c o1 h1
  cases hc:c.cells.isEmpty with
  | true=>rw [hc] at hf; cases hf
  | false =>
   rw [hc] at hf; cases hf
   have hx:=(Qat hF h1 hob hg).cells
   refine Qe6 hob hg hF hW (v:=a.eval x) rfl rfl (by rw [List.length_pos_iff]; simpa using hc) hx ?_ hfr
   simp [execOp,ho,Instr.box,newVar,newRow]
 ·cases hf
theorem QgJ {x:Operand} (ho:o.op=.nilCheck x) (hf:fop P h base g L o.op hs=some r):Yd P Γ φ M hD w base r ((execOp a.eval o).run P w):=by
 rw [ho] at hf
 simp only [fop] at hf
 split at hf
 ·rename_i c off o1 h1; cases hf
  have hx:IR w M (.ip c off) (a.eval x):=Qat hF h1 hob hg
  generalize hv:a.eval x=xv at hx
  have hx':=hx
  cases hx with
  | ip _ _ b k vs hm hc hr=>exact Yd.val (by simp [execOp,ho,hv]) rfl hx' hW
 ·rename_i id sz row off o1 h1; cases hf
  have hx:LR0 w M φ (.op id sz row off) (a.eval x):=Qat hF h1 hob hg
  obtain ⟨b,C,hφ,hv⟩:=hx
  exact Yd.val (by simp [execOp,ho,hv]) rfl ⟨b,C,hφ,rfl⟩ hW
 ·cases hf
theorem Qjw {u:UnOp} {t:TypeId} {x:Operand} (ho:o.op=.unOp u t x) (hf:fop P h base g L o.op hs=some r):Yd P Γ φ M hD w base r ((execOp a.eval o).run P w):=by
 rw [ho] at hf
 simp only [fop] at hf
 split at hf
 ·rename_i k n o1 h1; cases hf
  have hx:IR w M (.int k n) (a.eval x):=Qat hF h1 hob hg
  generalize hv:a.eval x=xv at hx
  cases hx
  exact Yd.val (v:=.int k (subK k 0 n)) (by simp [execOp,ho,hv,Op.unary,Op.intArith,subK]) rfl (IR.int _ _) hW
 ·rename_i b o1 h1; cases hf
  have hx:IR w M (.bool b) (a.eval x):=Qat hF h1 hob hg
  generalize hv:a.eval x=xv at hx
  cases hx
  exact Yd.val (v:=.bool (!b)) (by simp [execOp,ho,hv,Op.unary]) rfl (IR.bool _) hW
 ·cases hf
theorem QeC {t:TypeId} {f fo n:Nat} {b:Bool} (h:Qhz P t f=some (fo,n,b)):∃ fs fd,P.underlying t=some (.struct fs)∧fs[f]?=some fd∧fd.offset=fo∧tsz P fd.type=some n∧trow P fd.type=some b∧n≠0:=by
 unfold Qhz at h
 split at h
 ·rename_i fs hu
  split at h
  ·rename_i fd hfd
   split at h
   ·rename_i n' b' h1 h2
    cases hn:(n' == 0) with
    | true=>rw [hn] at h; cases h
    | false=>rw [hn] at h; cases h; exact ⟨fs,fd,hu,hfd,rfl,h1,h2,by simpa using hn⟩
   ·cases h
  ·cases h
 ·cases h
theorem Qgg {t:TypeId} {x:Operand} {f:Nat} (ho:o.op=.fieldAddr t x f) (hf:fop P h base g L o.op hs=some r):Yd P Γ φ M hD w base r ((execOp a.eval o).run P w):=by
 rw [ho] at hf
 simp only [fop] at hf
 split at hf
 ·rename_i fo n rw_ cells off o1 h1 h2; cases hf
  obtain ⟨fs,fd,hu,hfd,rfl,hn,hr,hn0⟩:=QeC hob hg hF hW h1
  obtain ⟨i,hi,hsz⟩:=Qce hn
  have hx:IR w M (.ip cells off) (a.eval x):=Qat hF h2 hob hg
  generalize hv:a.eval x=xv at hx
  cases hx with
  | ip _ _ b k vs hm hc hrr =>
   refine Yd.val (v:=.pointer (some ⟨b,k+(off+fd.offset),none⟩)) ?_ rfl (IR.ip cells _ b k vs hm hc hrr) hW
   simp [execOp,ho,hv,Instr.fieldAt,run_underlying hu,hfd,Instr.sureAddr,fieldPlace,Qbu hi,hsz,hn0,Addr.add_mid,Nat.add_assoc]
 ·rename_i fo n rw_ id sz row off o1 h1 h2; cases hf
  obtain ⟨fs,fd,hu,hfd,rfl,hn,hr,hn0⟩:=QeC hob hg hF hW h1
  obtain ⟨i,hi,hsz⟩:=Qce hn
  have hx:LR0 w M φ (.op id sz row off) (a.eval x):=Qat hF h2 hob hg
  obtain ⟨b,C,hφ,hv⟩:=hx
  refine Yd.val (v:=.pointer (some ⟨b,row*sz+(off+fd.offset),none⟩)) ?_ rfl ⟨b,C,hφ,rfl⟩ hW
  simp [execOp,ho,hv,Instr.fieldAt,run_underlying hu,hfd,Instr.sureAddr,fieldPlace,Qbu hi,hsz,hn0,Addr.add_mid,Nat.add_assoc]
 ·cases hf
theorem Qkh {t:TypeId} {n off:Nat} {rw_:Bool} {ls:List Lf} {vs:List Value} {c:Cm} (ht:tsz P t=some n) (hr:trow P t=some rw_) (hp:partL rw_ n off ls=some c) (hrs:Rs (LR w M φ) ls vs) :
  ∃ v,(part t vs.toArray off).run P w=.ok v w∧CR w M φ c v:=by
 obtain ⟨i,hi,hsz⟩:=Qce ht
 obtain ⟨d,hu,hd⟩:=QgL hr
 unfold partL at hp
 cases rw_ with
 | true =>
  simp only [cond_true] at hp
  cases hl:(((ls.drop off).take n).length == n) with
  | false=>rw [hl] at hp; cases hp
  | true =>
   rw [hl] at hp; cases hp
   refine ⟨.agg (vs.toArray.extract off (off+n)),?_,((vs.drop off).take n),?_,((hrs.drop off).take n)⟩
   ·unfold part
    rw [Sem.run_bind,QfK hu w,hd]
    simp [Qbu hi,hsz]
   ·congr 1
    apply Array.ext'
    simp [List.extract_eq_take_drop]
 | false =>
  simp only [cond_false] at hp
  cases hl:ls[off]? with
  | none=>rw [hl] at hp; cases hp
  | some l =>
   rw [hl] at hp; cases hp
   obtain ⟨v,hv,hlr⟩:=hrs.get hl
   refine ⟨v,?_,hlr⟩
   unfold part
   rw [Sem.run_bind,QfK hu w,hd]
   simp [hv]
theorem Qik {t:TypeId} {x:Operand} {f:Nat} (ho:o.op=.field t x f) (hf:fop P h base g L o.op hs=some r):Yd P Γ φ M hD w base r ((execOp a.eval o).run P w):=by
 rw [ho] at hf
 simp only [fop] at hf
 split at hf
 ·rename_i fo n rw_ cells o1 h1 h2
  cases hp:partL rw_ n fo cells with
  | none=>rw [hp] at hf; cases hf
  | some c =>
   rw [hp] at hf; cases hf
   obtain ⟨fs,fd,hu,hfd,rfl,hn,hr,hn0⟩:=QeC hob hg hF hW h1
   obtain ⟨vs,hv,hrs⟩:CR w M φ (.agg cells) (a.eval x):=Qat hF h2 hob hg
   obtain ⟨v,hrun,hc⟩:=Qkh hob hg hF hW hn hr hp hrs
   refine Yd.val (v:=v) ?_ rfl hc hW
   simp [execOp,ho,hv,Instr.field,run_underlying hu,hfd,asAgg,hrun]
 ·cases hf
theorem Qg4 {x:Operand} {i:Nat} (ho:o.op=.extract x i) (hf:fop P h base g L o.op hs=some r):Yd P Γ φ M hD w base r ((execOp a.eval o).run P w):=by
 rw [ho] at hf
 simp only [fop] at hf
 have hx:=Qha hF x
 split at hf
 ·rename_i cs h1
  rw [h1] at hx
  obtain ⟨vs,hv,hrs⟩:=hx
  cases hc:cs[i]? with
  | none=>rw [hc] at hf; cases hf
  | some c =>
   rw [hc] at hf; cases hf
   obtain ⟨v,hv2,hr⟩:=hrs.get hc
   refine Yd.val (v:=v) ?_ rfl hr hW
   simp [execOp,ho,hv,Instr.extract,hv2]
 ·cases hf
theorem QjI {α:Type} {l:List α} {i:Int} {x:α} (h:getI l i=some x):0≤i∧l[i.toNat]?=some x:=by
 unfold getI at h
 split at h
 ·exact ⟨‹_›,h⟩
 ·cases h
theorem Qgh {t:TypeId} {x ix:Operand} (ho:o.op=.indexAddr t x ix) (hf:fop P h base g L o.op hs=some r):Yd P Γ φ M hD w base r ((execOp a.eval o).run P w):=by
 rw [ho] at hf
 simp only [fop] at hf
 split at hf
 ·rename_i e cl sz rows o1 k n o2 hu h1 h2
  split at hf
  ·rename_i c hs'
   cases hsz:(tsz P e == some sz) with
   | false=>rw [hsz] at hf; cases hf
   | true =>
    rw [hsz] at hf; cases hf
    simp only [Qag,allP] at hob
    have hx:IR w M (.sl cl sz rows) (a.eval x):=Qat hF h1 hob.1.1 hg
    have hi:IR w M (.int k n) (a.eval ix):=Qat hF h2 hob.1.2 hg
    generalize hv:a.eval x=xv at hx
    generalize hv2:a.eval ix=iv at hi
    cases hi
    obtain ⟨hn0,hrow⟩:=QjI (r:=⟨.unk,[],[],[]⟩) trivial hg hF hW hob.2.1
    obtain ⟨i,hii,hsi⟩:=Qce (by simpa using hsz:tsz P e=some sz)
    have hlt:=(List.getElem?_eq_some_iff.1 hrow).1
    cases hx with
    | sl0=>simp at hrow
    | sl _ _ _ b k0 cap vs hm hl hcl hls hc hr =>
     refine Yd.val (v:=.pointer (some ⟨b,k0+n.toNat*sz+0,none⟩)) ?_ rfl (IR.ip c 0 b (k0+n.toNat*sz) (vs n.toNat) hm (fun j l hj=>hc _ _ j l hrow hj) (fun j l hj=>hr _ _ j l hrow hj)) hW
     have hn1:n<rows.length:=by omega
     simp [execOp,ho,hv,hv2,Instr.indexAt,asIntOf,run_underlying hu,hn0,hn1,Qbu hii,hsi,Addr.add_mid]
  ·cases hf
 ·rename_i e id sz off len o1 k n o2 hu h1 h2
  cases hsz:(tsz P e == some sz) with
  | false=>rw [hsz] at hf; cases hf
  | true =>
   rw [hsz] at hf; cases hf
   simp only [Qag,allP] at hob
   have hx:LR0 w M φ (.os id sz off len) (a.eval x):=Qat hF h1 hob.1.1 hg
   have hi:IR w M (.int k n) (a.eval ix):=Qat hF h2 hob.1.2 hg
   generalize hv2:a.eval ix=iv at hi
   cases hi
   obtain ⟨hn0,hn1,_⟩:=hob.2
   obtain ⟨i,hii,hsi⟩:=Qce (by simpa using hsz:tsz P e=some sz)
   rcases hx with ⟨b,C,hφ,hv,hle⟩|⟨_,_,h0,_⟩
   ·refine Yd.val (v:=.pointer (some ⟨b,(off+n.toNat)*sz+0,none⟩)) ?_ rfl ⟨b,C,hφ,rfl⟩ hW
    simp [execOp,ho,hv,hv2,Instr.indexAt,asIntOf,run_underlying hu,hn0,hn1,Qbu hii,hsi,Addr.add_mid,Nat.add_mul]
   ·omega
 ·rename_i len e cells off o1 k n o2 hu h1 h2
  split at hf
  ·rename_i sz hsz
   cases hl0:(!(len == 0)) with
   | false=>rw [hl0] at hf; cases hf
   | true =>
    rw [hl0] at hf; cases hf
    simp only [Qag,allP] at hob
    have hx:IR w M (.ip cells off) (a.eval x):=Qat hF h1 hob.1.1 hg
    have hi:IR w M (.int k n) (a.eval ix):=Qat hF h2 hob.1.2 hg
    generalize hv:a.eval x=xv at hx
    generalize hv2:a.eval ix=iv at hi
    cases hi
    obtain ⟨hn0,hn1,_⟩:=hob.2
    obtain ⟨i,hii,hsi⟩:=Qce hsz
    cases hx with
    | ip _ _ b k0 vs hm hc hrr =>
     refine Yd.val (v:=.pointer (some ⟨b,k0+(off+n.toNat*sz),none⟩)) ?_ rfl (IR.ip cells _ b k0 vs hm hc hrr) hW
     simp [execOp,ho,hv,hv2,Instr.indexAt,asIntOf,run_underlying hu,hn0,hn1,Qbu hii,hsi,Addr.add_mid,Instr.sureAddr,Nat.add_assoc]
  ·cases hf
 ·rename_i len e id sz row off o1 k n o2 hu h1 h2
  split at hf
  ·rename_i esz hsz
   cases hl0:(!(len == 0)) with
   | false=>rw [hl0] at hf; cases hf
   | true =>
    rw [hl0] at hf; cases hf
    simp only [Qag,allP] at hob
    have hx:LR0 w M φ (.op id sz row off) (a.eval x):=Qat hF h1 hob.1.1 hg
    have hi:IR w M (.int k n) (a.eval ix):=Qat hF h2 hob.1.2 hg
    generalize hv2:a.eval ix=iv at hi
    cases hi
    obtain ⟨hn0,hn1,_⟩:=hob.2
    obtain ⟨i,hii,hsi⟩:=Qce hsz
    obtain ⟨b,C,hφ,hv⟩:=hx
    refine Yd.val (v:=.pointer (some ⟨b,row*sz+(off+n.toNat*esz),none⟩)) ?_ rfl ⟨b,C,hφ,rfl⟩ hW
    simp [execOp,ho,hv,hv2,Instr.indexAt,asIntOf,run_underlying hu,hn0,hn1,Qbu hii,hsi,Addr.add_mid,Instr.sureAddr,Nat.add_assoc]
  ·cases hf
 ·cases hf
theorem Qil {t:TypeId} {x ix:Operand} (ho:o.op=.index t x ix) (hf:fop P h base g L o.op hs=some r):Yd P Γ φ M hD w base r ((execOp a.eval o).run P w):=by
 rw [ho] at hf
 simp only [fop] at hf
 split at hf
 ·rename_i s o1 k n o2 hu h1 h2
  split at hf
  ·rename_i b hs'
   cases hf
   simp only [Qag,allP] at hob
   have hx:IR w M (.str s) (a.eval x):=Qat hF h1 hob.1.1 hg
   have hi:IR w M (.int k n) (a.eval ix):=Qat hF h2 hob.1.2 hg
   generalize hv:a.eval x=xv at hx
   generalize hv2:a.eval ix=iv at hi
   cases hi; cases hx
   have hb:=hob.2.1
   unfold getS at hb
   split at hb
   ·rename_i h0
    refine Yd.val (v:=.int .u8 (byteI b)) ?_ rfl (IR.int _ _) hW
    simp [execOp,ho,hv,hv2,Instr.index,asIntOf,run_underlying hu,h0,hb,byteI]
   ·cases hb
  ·cases hf
 ·rename_i len e cells o1 k n o2 hu h1 h2
  split at hf
  ·rename_i sz rw_ hsz hrw
   cases hp:partL rw_ sz (n.toNat*sz) cells with
   | none=>rw [hp] at hf; cases hf
   | some c =>
    rw [hp] at hf; cases hf
    simp only [Qag,allP] at hob
    obtain ⟨vs,hv,hrs⟩:CR w M φ (.agg cells) (a.eval x):=Qat hF h1 hob.1.1 hg
    have hi:IR w M (.int k n) (a.eval ix):=Qat hF h2 hob.1.2 hg
    generalize hv2:a.eval ix=iv at hi
    cases hi
    obtain ⟨hn0,hn1,_⟩:=hob.2
    obtain ⟨i,hii,hsi⟩:=Qce hsz
    obtain ⟨v,hrun,hc⟩:=Qkh (r:=⟨.unk,[],[],[]⟩) trivial hg hF hW hsz hrw hp hrs
    refine Yd.val (v:=v) ?_ rfl hc hW
    simp [execOp,ho,hv,hv2,Instr.index,asIntOf,run_underlying hu,hn0,hn1,Qbu hii,hsi,hrun]
  ·cases hf
 ·cases hf
omit hob hg hF hW in
theorem QiA:∀ {cs:List Cm} {ls:List Lf} {vs:List Value},capsL cs=some ls→Rs (CR w M φ) cs vs→Rs (LR0 w M φ) ls vs
 | [],_,[],h,_=>by cases h; trivial
 | .one l :: cs,ls,v :: vs,h,hr=>by
  simp only [capsL] at h
  split at h
  ·rename_i ls' h1
   cases hf:isFn l with
   | true=>rw [hf] at h; cases h
   | false =>
    rw [hf] at h; cases h
    exact ⟨by have:=hr.1; rwa [CR,LR_eq hf] at this,QiA h1 hr.2⟩
  ·cases h
 | .agg _ :: _,_,_,h,_=>by cases h
 | [],_,_ :: _,_,h=>h.elim
 | _ :: _,_,[],_,h=>h.elim
theorem QgI {f:Fn} {first caps:Array Operand} (ho:o.op=.makeFunc f first caps) (hf:fop P h base g L o.op hs=some r):Yd P Γ φ M hD w base r ((execOp a.eval o).run P w):=by
 rw [ho] at hf
 simp only [fop] at hf
 split at hf
 ·rename_i cs o1 h1
  cases hfi:first.toList.isEmpty with
  | false=>rw [hfi] at hf; cases hf
  | true =>
   rw [hfi] at hf
   simp only [cond_true] at hf
   split at hf
   ·rename_i ls h2
    cases hf
    have hrs:=Qdu hF hg h1 hob
    have hc:=QiA h2 hrs
    have hfi':first=#[]:=by
     apply Array.ext'
     simpa using hfi
    subst hfi'
    refine Yd.val (v:=.func f #[] (caps.toList.map a.eval).toArray) ?_ rfl ⟨_,rfl,hc⟩ hW
    have he:caps.map a.eval=(caps.toList.map a.eval).toArray:=by apply Array.ext'; simp
    simp [execOp,ho,Instr.makeFunc,he]
   ·cases hf
 ·cases hf
end
end Go.Proofs.YtpkkaboonnedfaaDoor
namespace Go.Proofs.YtpkkaboonnedfaaDoor
set_option linter.unusedSimpArgs false
set_option linter.unusedVariables false
set_option linter.unusedSectionVars false
open Go.RowKit

section
variable {P : Program} {φ : Pl} {M : Nat → Prop} {w : World}
theorem Qj8 {d:Nat} {t:TypeId} {u:TypeDesc} {x y:Lf} {vx vy:Value} {e:Bool} (hu:P.underlying t=some u) (h:eqLf u x y=some e) (hx:LR w M φ x vx) (hy:LR w M φ y vy) :
  (Op.equalIn (d+1) t vx vy).run P w=.ok e w:=by
 unfold eqLf at h
 split at h
 ·rename_i k0 k a k' b
  by_cases hkk:k=k'
  ·subst hkk
   simp only [decide_true,cond_true] at h
   cases h
   have hx':IR w M (.int k a) vx:=hx
   have hy':IR w M (.int k b) vy:=hy
   cases hx'; cases hy'
   simp [Op.equalIn,run_underlying hu,eqI]
  ·simp only [hkk,decide_false,cond_false] at h; cases h
 ·rename_i a b
  cases h
  have hx':IR w M (.bool a) vx:=hx
  have hy':IR w M (.bool b) vy:=hy
  cases hx'; cases hy'
  simp [Op.equalIn,run_underlying hu,eqB]
 ·rename_i a b
  cases h
  have hx':IR w M (.str a) vx:=hx
  have hy':IR w M (.str b) vy:=hy
  cases hx'; cases hy'
  simp [Op.equalIn,run_underlying hu]
 ·cases h
theorem QcD {t:TypeId} (hr:trow P t=some false) {vs:Array Value} {k:Nat} {v:Value} (hv:vs[k]?=some v):(part t vs k).run P w=.ok v w:=by
 obtain ⟨d,hu,hd⟩:=QgL hr
 unfold part
 rw [Sem.run_bind,QfK hu w,hd]
 simp [hv]
theorem Qhd {d:Nat} {vx vy:List Value}:∀ (fs:List Field) (k:Nat) (us:List TypeDesc) (xs ys:List Lf) (e:Bool),flatU P k fs=some us→eqLfs us xs ys=some e→Rs (LR w M φ) xs (vx.drop k)→Rs (LR w M φ) ys (vy.drop k) →
  (forIn fs ((none,()):Option Bool×Unit) fun f r=>(do
   if f.name≠"_" then do
    if (!(← Op.equalIn (d+1) f.type (← part f.type vx.toArray f.offset) (← part f.type vy.toArray f.offset)))=true then pure (ForInStep.done (some false,())) else pure (ForInStep.yield (none,()))
   else pure (ForInStep.yield (none,())):Sem (ForInStep (Option Bool×Unit)))).run P w=.ok (if e then none else some false,()) w
 | [],k,us,xs,ys,e,h1,h2,_,_=>by
  cases h1
  cases xs <;> cases ys <;> simp [eqLfs] at h2
  subst h2
  simp
 | f :: fs,k,us,xs,ys,e,h1,h2,hx,hy=>by
  simp only [flatU] at h1
  cases hc:(f.offset == k&&!(f.name == "_")&&(trow P f.type == some false)) with
  | false=>rw [hc] at h1; cases h1
  | true =>
   rw [hc] at h1
   simp only [cond_true] at h1
   simp only [Bool.and_eq_true,beq_iff_eq,Bool.not_eq_true',beq_eq_false_iff_ne] at hc
   obtain ⟨⟨hoff,hname⟩,hrow⟩:=hc
   split at h1
   ·rename_i u us' hu hus
    cases h1
    cases xs with
    | nil=>simp [eqLfs] at h2
    | cons x xs =>
     cases ys with
     | nil=>simp [eqLfs] at h2
     | cons y ys =>
      simp only [eqLfs] at h2
      split at h2
      ·rename_i e1 e2 he1 he2
       cases h2
       obtain ⟨v1,hv1,hr1⟩:=hx.get (i:=0) rfl
       obtain ⟨v2,hv2,hr2⟩:=hy.get (i:=0) rfl
       have hx1:Rs (LR w M φ) xs (vx.drop (k+1)):=by have:=hx.drop 1; simpa [List.drop_drop,Nat.add_comm] using this
       have hy1:Rs (LR w M φ) ys (vy.drop (k+1)):=by have:=hy.drop 1; simpa [List.drop_drop,Nat.add_comm] using this
       have ih:=Qhd (d:=d) fs (k+1) us' xs ys e2 hus he2 hx1 hy1
       have hp1:=QcD (P:=P) (w:=w) hrow (vs:=vx.toArray) (k:=f.offset) (v:=v1) (by rw [hoff]; simpa using hv1)
       have hp2:=QcD (P:=P) (w:=w) hrow (vs:=vy.toArray) (k:=f.offset) (v:=v2) (by rw [hoff]; simpa using hv2)
       have heq:=Qj8 (d:=d) hu he1 hr1 hr2
       rw [List.forIn_cons]
       cases e1 with
       | true=>simp [hname,hp1,hp2,heq] at ih ⊢; exact ih
       | false=>simp [hname,hp1,hp2,heq]
      ·cases h2
   ·cases h1
theorem Qjy {t:TypeId} {n:Nat} (h:tsz P t=some n):(sizeOf t).run P w=.ok n w:=by
 unfold tsz at h
 cases hi:P.info? t with
 | none=>rw [hi] at h; cases h
 | some i=>rw [hi] at h; cases h; simp [sizeOf,typeInfo,hi]
theorem Qh9 {d:Nat} {t e0:TypeId} {n:Nat} {u:TypeDesc} {xs ys:List Lf} {vx vy:List Value} {e:Bool} (hu:P.underlying t=some (.array n e0)) (hue:P.underlying e0=some u) (hrow:trow P e0=some false) (hsz:tsz P e0=some 1)
  (he:eqLfs (List.replicate n u) xs ys=some e) (hrx:Rs (LR w M φ) xs vx) (hry:Rs (LR w M φ) ys vy):(Op.equalIn (d+1+1) t (.agg vx.toArray) (.agg vy.toArray)).run P w=.ok e w:=by
 unfold Op.equalIn
 simp only [Sem.run_bind,run_underlying hu,Result.andThen_ok,Qjy hsz]
 simp only [Std.Legacy.Range.forIn_eq_forIn_range',Std.Legacy.Range.size,Nat.sub_zero,Nat.add_one_sub_one,Nat.div_one]
 have key:∀ (m k:Nat) (xs ys:List Lf) (e:Bool),eqLfs (List.replicate m u) xs ys=some e→Rs (LR w M φ) xs (vx.drop k)→Rs (LR w M φ) ys (vy.drop k) →
   (forIn (List.range' k m) ((none,()):Option Bool×Unit) fun i r=>(do
    if (!(← Op.equalIn (d+1) e0 (← part e0 vx.toArray (i*1)) (← part e0 vy.toArray (i*1))))=true then pure (ForInStep.done (some false,())) else pure (ForInStep.yield (none,())):Sem (ForInStep (Option Bool×Unit)))).run P w=.ok (if e then none else some false,()) w:=by
  intro m
  induction m with
  | zero =>
   intro k xs ys e h2 _ _
   cases xs <;> cases ys <;> simp [eqLfs] at h2
   subst h2
   simp
  | succ m ih =>
   intro k xs ys e h2 hx hy
   rw [List.replicate_succ] at h2
   cases xs with
   | nil=>simp [eqLfs] at h2
   | cons x xs =>
    cases ys with
    | nil=>simp [eqLfs] at h2
    | cons y ys =>
     simp only [eqLfs] at h2
     split at h2
     ·rename_i e1 e2 he1 he2
      cases h2
      obtain ⟨v1,hv1,hr1⟩:=hx.get (i:=0) rfl
      obtain ⟨v2,hv2,hr2⟩:=hy.get (i:=0) rfl
      have hx1:Rs (LR w M φ) xs (vx.drop (k+1)):=by have:=hx.drop 1; simpa [List.drop_drop,Nat.add_comm] using this
      have hy1:Rs (LR w M φ) ys (vy.drop (k+1)):=by have:=hy.drop 1; simpa [List.drop_drop,Nat.add_comm] using this
      have ih:=ih (k+1) xs ys e2 he2 hx1 hy1
      have hp1:=QcD (P:=P) (w:=w) hrow (vs:=vx.toArray) (k:=k) (v:=v1) (by simpa using hv1)
      have hp2:=QcD (P:=P) (w:=w) hrow (vs:=vy.toArray) (k:=k) (v:=v2) (by simpa using hv2)
      have heq:=Qj8 (d:=d) hue he1 hr1 hr2
      rw [List.range'_succ,List.forIn_cons]
      cases e1 with
      | true=>simp [hp1,hp2,heq] at ih ⊢; exact ih
      | false=>simp [hp1,hp2,heq]
     ·cases h2
 have h3:=key n 0 xs ys e he hrx hry
 refine Eq.trans (congrArg (fun z=>Result.andThen z _) h3) ?_
 cases e <;> simp
end
section
variable {P : Program} {Γ : Gam} {φ : Pl} {M : Nat → Prop} {hD h : Nat → Option Ob} {w : World} {base : Nat} {L : Nat → AV} {a : Act} {g : Prop} {hs : List Hint} {r : Res} {o : Oper}
theorem Qfb {op:BinOp} {t:TypeId} {x y:Operand} {k k':IntKind} {p q:Int}:(eqGuard op t x y (.int k p) (.int k' q)).run P w=.ok () w:=by
 unfold eqGuard; split <;> simp
theorem Qh7 {op:BinOp} {t:TypeId} {x y:Operand} {p q:ByteArray}:(eqGuard op t x y (.string p) (.string q)).run P w=.ok () w:=by
 unfold eqGuard; split <;> simp
theorem QfP {op:BinOp} {t:TypeId} {x y:Operand} {p q:Bool}:(eqGuard op t x y (.bool p) (.bool q)).run P w=.ok () w:=by
 unfold eqGuard; split <;> simp
theorem Qef {op:BinOp} {t:TypeId} {x y:Operand} {p q:Array Value} (h:P.eqGuardType P.depth t=false):(eqGuard op t x y (.agg p) (.agg q)).run P w=.ok () w:=by
 unfold eqGuard; split <;> simp [h]
def lfV:Lf→Value
 | .int k n=>.int k n
 | .bool b=>.bool b
 | .str s=>.string s
 | _=>undef
theorem Qks {op:BinOp} {k:IntKind} {p q:Int} {t:TypeId} {l:Lf} {ob:List Prop} (h:abinI op k p q=some (l,ob)) (ho:allP ob):(binOp op t (.int k p) (.int k q)).run P w=.ok (lfV l) w∧LR w M φ l (lfV l):=by
 cases op <;> simp only [abinI] at h <;> first
  | (cases h; done)
  | (cases h; refine ⟨?_,IR.int _ _⟩; simp [binOp,Op.intArith,lfV,addK,subK,mulK]; done)
  | (cases h; refine ⟨?_,IR.int _ _⟩; have:=ho.1; simp [binOp,Op.intDiv,this,lfV,quoK,remK]; done)
  | (cases h; refine ⟨?_,IR.int _ _⟩; simp [binOp,Op.intBits,lfV,andK,orK,xorK,Qj6]; done)
  | (cases h; refine ⟨?_,IR.bool _⟩; simp [binOp,Op.intCmp,lfV,eqI,neI,ltI,leI,gtI,geI]; done)
theorem Qkt {op : BinOp} {p q : ByteArray} {t : TypeId} {l : Lf} {ob : List Prop} (h : abinS op p q = some (l, ob)) (ho : allP ob) : (binOp op t (.string p) (.string q)).run P w = .ok (lfV l) w ∧ LR w M φ l (lfV l) := by
  cases op <;> simp only [abinS] at h <;> first
    | (cases h; done)
    | (cases h
       have h1 := ho.1
       have : ¬ (IntKind.i64.max < ((p.size + q.size : Nat) : Int)) := by
         have : IntKind.i64.max = 9223372036854775807 := by decide
         omega
       refine ⟨?_, IR.str _⟩
       simp only [binOp, Op.stringOp]
       rw [if_neg this]; rfl)
    | (cases h; refine ⟨?_, IR.bool _⟩; simp [binOp, Op.stringOp, lfV, eqS, ltS]; done)
theorem Qii (hob:allP r.obs) (hg:g) (hF:∀ t,AR w M φ (L t) (a.tmps.getD t undef)) (hW:Wd Γ φ M hD w) {op:BinOp} {t u:TypeId} {x y:Operand} (ho:o.op=.binOp op t x y u) (hf:QkB P L g op t x y hs=some r) :
  Yd P Γ φ M hD w base r ((execOp a.eval o).run P w):=by
 unfold QkB at hf
 have hrun:∀ v,(eqGuard op t x y (a.eval x) (a.eval y)).run P w=.ok () w→(binOp op t (a.eval x) (a.eval y)).run P w=.ok v w→(execOp a.eval o).run P w=.ok (.value v) w:=fun v h1 h2=>by
  simp [execOp,ho,h1,h2]
 split at hf
 ·rename_i cx o1 cy o2 h1 h2
  cases hb:abin P op t cx cy with
  | none=>rw [hb] at hf; cases hf
  | some p =>
   obtain ⟨l,o3⟩:=p
   rw [hb] at hf; cases hf
   simp only [Qag] at hob
   have hx:=Qat hF h1 hob.1.1 hg
   have hy:=Qat hF h2 hob.1.2 hg
   unfold abin at hb
   split at hb
   ·rename_i k p k' q
    have hx':IR w M (.int k p) (a.eval x):=hx
    have hy':IR w M (.int k' q) (a.eval y):=hy
    generalize hvx:a.eval x=vx at hx' hrun
    generalize hvy:a.eval y=vy at hy' hrun
    cases hx'; cases hy'
    split at hb
    ·cases hb
     have h0:¬ q<0:=by have:=hob.2.1; omega
     exact Yd.val (hrun (.int k (shlK k p q)) Qfb (by simp [binOp,Op.shift,h0,shlK])) rfl (IR.int _ _) hW
    ·cases hb
     have h0:¬ q<0:=by have:=hob.2.1; omega
     exact Yd.val (hrun (.int k (shrK k p q)) Qfb (by simp [binOp,Op.shift,h0,shrK])) rfl (IR.int _ _) hW
    ·by_cases hk:k=k'
     ·subst hk
      rw [if_pos rfl] at hb
      obtain ⟨hv,hr⟩:=Qks (P:=P) (w:=w) (M:=M) (φ:=φ) (t:=t) hb hob.2
      exact Yd.val (hrun _ Qfb hv) rfl hr hW
     ·rw [if_neg hk] at hb; cases hb
   ·rename_i p q
    have hx':IR w M (.str p) (a.eval x):=hx
    have hy':IR w M (.str q) (a.eval y):=hy
    generalize hvx:a.eval x=vx at hx' hrun
    generalize hvy:a.eval y=vy at hy' hrun
    cases hx'; cases hy'
    obtain ⟨hv,hr⟩:=Qkt (P:=P) (w:=w) (M:=M) (φ:=φ) (t:=t) hb hob.2
    exact Yd.val (hrun _ Qh7 hv) rfl hr hW
   ·rename_i p q
    have hx':IR w M (.bool p) (a.eval x):=hx
    have hy':IR w M (.bool q) (a.eval y):=hy
    generalize hvx:a.eval x=vx at hx' hrun
    generalize hvy:a.eval y=vy at hy' hrun
    cases hx'; cases hy'
    have heq:∀ hu:P.underlying t=some .bool,(Op.equal t (.bool p) (.bool q)).run P w=.ok (eqB p q) w:=fun hu=>by
     have key:∀ d,(Op.equalIn (d+1) t (.bool p) (.bool q)).run P w=.ok (eqB p q) w:=fun d=>by simp [Op.equalIn,run_underlying hu,eqB]
     exact key 9999
    split at hb
    ·rename_i hu; cases hb
     exact Yd.val (hrun (.bool (eqB p q)) QfP (by simp [binOp,heq hu])) rfl (IR.bool _) hW
    ·rename_i hu; cases hb
     exact Yd.val (hrun (.bool (!eqB p q)) QfP (by simp [binOp,heq hu])) rfl (IR.bool _) hW
    ·cases hb
   ·rename_i xs ys
    split at hb
    ·rename_i us hus
     obtain ⟨vx,hvx,hrx⟩:=hx
     obtain ⟨vy,hvy,hry⟩:=hy
     rw [hvx,hvy] at hrun
     have hflat:∃ fs,P.underlying t=some (.struct fs)∧P.stoodInHeld t=false∧P.eqGuardType P.depth t=false∧flatU P 0 fs.toList=some us:=by
      unfold flatT at hus
      split at hus
      ·rename_i fs hu
       cases hc:(!P.stoodInHeld t&&!P.eqGuardType P.depth t) with
       | false=>rw [hc] at hus; cases hus
       | true =>
        rw [hc] at hus
        simp only [Bool.and_eq_true,Bool.not_eq_true'] at hc
        exact ⟨fs,hu,hc.1,hc.2,hus⟩
      ·cases hus
     obtain ⟨fs,hu,hst,heg,hfl⟩:=hflat
     have heq0:∀ d e,eqLfs us xs ys=some e→(Op.equalIn (d+1+1) t (.agg vx.toArray) (.agg vy.toArray)).run P w=.ok e w:=fun d e he=>by
      have h3:=Qhd (P:=P) (w:=w) (M:=M) (φ:=φ) (d:=d) fs.toList 0 us xs ys e hfl he hrx hry
      rw [Array.forIn_toList] at h3
      unfold Op.equalIn
      simp only [Sem.run_bind,run_underlying hu,Result.andThen_ok,run_program,hst]
      simp only [Bool.false_eq_true,if_false,Sem.run_bind,Sem.run_pure,Result.andThen_ok]
      refine Eq.trans (congrArg (fun z=>Result.andThen z _) h3) ?_
      cases e <;> simp
     have heq:∀ e,eqLfs us xs ys=some e→(Op.equal t (.agg vx.toArray) (.agg vy.toArray)).run P w=.ok e w:=fun e he=>heq0 9998 e he
     clear heq0
     split at hb
     ·rename_i e he; cases hb
      exact Yd.val (hrun (.bool e) (Qef heg) (by simp [binOp,heq e he])) rfl (IR.bool _) hW
     ·rename_i e he; cases hb
      exact Yd.val (hrun (.bool (!e)) (Qef heg) (by simp [binOp,heq e he])) rfl (IR.bool _) hW
     ·cases hb
    ·split at hb
     ·rename_i us hus
      obtain ⟨vx,hvx,hrx⟩:=hx
      obtain ⟨vy,hvy,hry⟩:=hy
      rw [hvx,hvy] at hrun
      have hflat:∃ n e u,P.underlying t=some (.array n e)∧P.eqGuardType P.depth t=false∧trow P e=some false∧tsz P e=some 1∧P.underlying e=some u∧us=List.replicate n u:=by
       unfold flatA at hus
       split at hus
       ·rename_i n e hu
        cases hc:(!P.eqGuardType P.depth t&&(trow P e == some false)&&(tsz P e == some 1)) with
        | false=>rw [hc] at hus; cases hus
        | true =>
         rw [hc] at hus
         simp only [Bool.and_eq_true,Bool.not_eq_true',beq_iff_eq] at hc
         cases hue:P.underlying e with
         | none=>rw [hue] at hus; cases hus
         | some u=>rw [hue] at hus; cases hus; exact ⟨n,e,u,hu,hc.1.1,hc.1.2,hc.2,hue,rfl⟩
       ·cases hus
      obtain ⟨n,e0,u,hu,heg,hrow,hsz,hue,rfl⟩:=hflat
      have heq:∀ e,eqLfs (List.replicate n u) xs ys=some e→(Op.equal t (.agg vx.toArray) (.agg vy.toArray)).run P w=.ok e w:=fun e he=>Qh9 (d:=9998) hu hue hrow hsz he hrx hry
      split at hb
      ·rename_i e he; cases hb
       exact Yd.val (hrun (.bool e) (Qef heg) (by simp [binOp,heq e he])) rfl (IR.bool _) hW
      ·rename_i e he; cases hb
       exact Yd.val (hrun (.bool (!e)) (Qef heg) (by simp [binOp,heq e he])) rfl (IR.bool _) hW
      ·cases hb
     ·cases hb
   ·cases hb
 ·cases hf
end
end Go.Proofs.YtpkkaboonnedfaaDoor
namespace Go.Proofs.YtpkkaboonnedfaaDoor
set_option linter.unusedSimpArgs false
set_option linter.unusedVariables false
set_option linter.unusedSectionVars false
open Go.RowKit

section
variable {α β : Type} {R : α → β → Prop}
theorem Qeh {sz:Nat}:∀ {rows:List (List α)} {i j:Nat} {c:List α} {l:α},(∀ c∈rows,c.length=sz)→rows[i]?=some c→c[j]?=some l→rows.flatten[i*sz+j]?=some l
 | [],_,_,_,_,_,h,_=>by simp at h
 | r :: rows,0,j,c,l,hs,h,hj=>by
  simp at h; subst h
  rw [Nat.zero_mul,Nat.zero_add,List.flatten_cons,List.getElem?_append_left (List.getElem?_eq_some_iff.1 hj).1]; exact hj
 | r :: rows,i+1,j,c,l,hs,h,hj=>by
  have hr:=hs r (by simp)
  rw [List.flatten_cons,List.getElem?_append_right (by rw [hr,Nat.add_mul]; omega),hr,show (i+1)*sz+j-sz=i*sz+j by rw [Nat.add_mul]; omega]
  exact Qeh (fun c hc=>hs c (by simp [hc])) (by simpa using h) hj
theorem Qcg {sz:Nat}:∀ {rows:List (List α)},(∀ c∈rows,c.length=sz)→rows.flatten.length=rows.length*sz
 | [],_=>by simp
 | r :: rows,hs=>by
  rw [List.flatten_cons,List.length_append,hs r (by simp),Qcg fun c hc=>hs c (by simp [hc]),List.length_cons,Nat.add_mul]; omega
theorem Qfu {rows:List (List α)} {sz:Nat} (h:∀ (i:Nat) (c:List α),rows[i]?=some c→c.length=sz):∀ c∈rows,c.length=sz:=fun c hc=>by
 obtain ⟨i,hi⟩:=List.mem_iff_getElem?.1 hc; exact h i c hi
theorem Qhw {sz:Nat}:∀ {n:Nat} {l:List Lf} {i:Nat} {c:List Lf},(chunk sz n l)[i]?=some c→i<n∧c=(l.drop (i*sz)).take sz
 | 0,_,_,_,h=>by simp [chunk] at h
 | n+1,l,0,c,h=>by simp [chunk] at h; exact ⟨by omega,by simp [h]⟩
 | n+1,l,i+1,c,h=>by
  simp only [chunk,List.getElem?_cons_succ] at h
  obtain ⟨h1,h2⟩:=Qhw h
  exact ⟨by omega,by rw [h2,List.drop_drop,Nat.add_mul,Nat.one_mul,Nat.add_comm]⟩
theorem Qhx {sz:Nat}:∀ {n:Nat} {l:List Lf},(chunk sz n l).length=n
 | 0,_=>rfl
 | n+1,l=>by simp [chunk,Qhx (n:=n)]
end
section
variable {P : Program} {w : World} {M : Nat → Prop} {φ : Pl}
theorem QiI (off:Nat):∀ (vs:List Value) (k:Nat) (cs:Array Value),off+k+vs.length≤cs.size →
  ((vs.zipIdx k).foldl (fun (cs:Array Value) (x:Value×Nat)=>cs.setIfInBounds (off+x.2) x.1) cs).toList=cs.toList.take (off+k)++vs++cs.toList.drop (off+k+vs.length)
 | [],k,cs,_=>by simp
 | v :: vs,k,cs,h=>by
  simp only [List.zipIdx_cons,List.foldl_cons,List.length_cons] at h ⊢
  rw [QiI off vs (k+1) _ (by simp; omega)]
  have hlt:off+k<cs.toList.length:=by simpa using (by omega:off+k<cs.size)
  simp only [Array.toList_setIfInBounds]
  have e1:(cs.toList.set (off+k) v).take (off+(k+1))=cs.toList.take (off+k)++[v]:=by
   rw [show off+(k+1)=(off+k)+1 by omega,List.take_add_one,List.take_set_of_le (Nat.le_refl _),List.getElem?_set_self hlt]; rfl
  have e2:(cs.toList.set (off+k) v).drop (off+(k+1)+vs.length)=cs.toList.drop (off+k+(vs.length+1)):=by
   rw [List.drop_set_of_lt (by omega)]; congr 1; omega
  rw [e1,e2]; simp
theorem QiH {pl:Nat→Option (Nat×Nat)}:∀ {cs:List (Nat×List Lf)} {vp:List (Nat×Value)} {z out:List Lf} {zc:Array Value},fillL pl z cs=some out→Rs (LR w M φ) z zc.toList →
  Rs (fun (p:Nat×List Lf) (q:Nat×Value)=>p.1=q.1∧Rs (LR w M φ) p.2 q.2.cells.toList) cs vp→∃ oc,Instr.fill pl zc vp=some oc∧Rs (LR w M φ) out oc.toList
 | [],[],z,out,zc,h,hz,_=>by cases h; exact ⟨zc,rfl,hz⟩
 | (i,ls) :: cs,(j,v) :: vp,z,out,zc,h,hz,hr=>by
  obtain ⟨⟨rfl,hv⟩,hr'⟩:=hr
  simp only at hv
  simp only [fillL] at h
  split at h
  ·cases h
  ·rename_i off size hp
   cases hc:(ls.length == size&&Nat.ble (off+size) z.length) with
   | false=>rw [hc] at h; cases h
   | true =>
    rw [hc] at h
    simp only [cond_true] at h
    simp only [Bool.and_eq_true,beq_iff_eq,Nat.ble_eq] at hc
    have hvl:v.cells.size=size:=by rw [← Array.length_toList,← hv.len]; exact hc.1
    have hzl:z.length=zc.size:=by rw [hz.len]; simp
    have hf:=QiI off v.cells.toList 0 zc (by rw [Nat.add_zero,Array.length_toList]; omega)
    have hnew:Rs (LR w M φ) (z.take off++ls++z.drop (off+size)) (zc.toList.take off++v.cells.toList++zc.toList.drop (off+size)):=((hz.take off).append hv).append (hz.drop _)
    have hzip:v.cells.zipIdx.foldl (fun (cs:Array Value) (x:Value×Nat)=>cs.setIfInBounds (off+x.2) x.1) zc=(zc.toList.take off++v.cells.toList++zc.toList.drop (off+size)).toArray:=by
     apply Array.ext'
     rw [← Array.foldl_toList,Array.toList_zipIdx]
     rw [Nat.add_zero,Array.length_toList,hvl] at hf
     simpa using hf
    obtain ⟨oc,h1,h2⟩:=QiH (zc:=(zc.toList.take off++v.cells.toList++zc.toList.drop (off+size)).toArray) h (by simpa using hnew) hr'
    refine ⟨oc,?_,h2⟩
    simp only [Instr.fill,hp]
    rw [if_neg (by simp; omega)]
    rw [← h1,← hzip]
 | [],_ :: _,_,_,_,_,_,h=>h.elim
 | _ :: _,[],_,_,_,_,_,h=>h.elim
theorem Rs.flat {ls:List Lf} {vs:List Value} (h:Rs (LR w M φ) ls vs):∀ n,Rs (LR w M φ) (List.replicate n ls).flatten (List.replicate n vs).flatten
 | 0=>by simp [Rs]
 | n+1=>by simp only [List.replicate_succ,List.flatten_cons]; exact h.append (Rs.flat h n)
theorem Qf4 (zc:Array Value) (n:Nat):((Array.range (n*zc.size)).map fun i=>zc[i % zc.size]!).toList=(List.replicate n zc.toList).flatten:=by
 rw [Array.toList_map,Array.toList_range]
 induction n with
 | zero=>simp
 | succ n ih =>
  rw [List.replicate_succ',List.flatten_append,← ih,Nat.add_mul,Nat.one_mul,List.range_add,List.map_append]
  congr 1
  simp only [List.map_map,List.flatten_cons,List.flatten_nil,List.append_nil]
  apply List.ext_getElem?
  intro k
  rw [List.getElem?_map]
  rcases Nat.lt_or_ge k zc.size with hk|hk
  ·rw [List.getElem?_range hk]
   have:(n*zc.size+k) % zc.size=k:=by rw [Nat.mul_comm,Nat.mul_add_mod,Nat.mod_eq_of_lt hk]
   simp [this,hk]
  ·rw [List.getElem?_eq_none (by simpa using hk)]; simp [hk]
theorem QjC {w':World} {id b C:Nat} {φ':Pl} {e:TypeId} {sz:Nat} {rows:List (List Lf)} {vs:Array Value} (hφ:φ' id=some (some (b,C))) (hb:w'.heap[b]?=some (.cells vs e)) (h0:0<sz) (hs:vs.size=C*sz) (hl:rows.length≤C) (hC:C≤maxLen)
  (hr:∀ (i:Nat) (c:List Lf),rows[i]?=some c→c.length=sz∧∀ (j:Nat) (l:Lf),c[j]?=some l→∃ v,vs[i*sz+j]?=some v∧IR w' M l v):OR w' M φ' id ⟨false,sz,e,rows⟩:=by
 refine .inl ⟨h0,?_⟩
 rw [hφ]
 exact ⟨vs,hb,hs,hl,hC,fun h=>(by cases h),fun i c hc=>⟨(hr i c hc).1,fun j l hj=>by simpa using (hr i c hc).2 j l hj⟩⟩
end
section
variable {P : Program} {Γ : Gam} {φ : Pl} {M : Nat → Prop} {hD h : Nat → Option Ob} {w : World} {base : Nat} {L : Nat → AV} {a : Act} {g : Prop} {hs : List Hint} {r : Res} {o : Oper}
theorem Qgb (parts:Array (Nat×Operand)):(parts.map fun (i,x)=>(i,a.eval x)).toList=parts.toList.map fun (i,x)=>(i,a.eval x):=by simp
theorem Qij (hob:allP r.obs) (hg:g) (hF:∀ t,AR w M φ (L t) (a.tmps.getD t undef)) (hW:Wd Γ φ M hD w) {t:TypeId} {parts:Array (Nat×Operand)} (ho:o.op=.build t parts) (hf:fop P h base g L o.op hs=some r) :
  Yd P Γ φ M hD w base r ((execOp a.eval o).run P w):=by
 rw [ho] at hf
 simp only [fop] at hf
 split at hf
 ·rename_i z pl cs o1 hz hpl hcs
  cases hfl:fillL pl z cs with
  | none=>rw [hfl] at hf; cases hf
  | some out =>
   rw [hfl] at hf; cases hf
   obtain ⟨i,zv,hi,hzv,hzs,h0,hrs,hl⟩:=QcY (w:=w) (M:=M) (φ:=φ) hz
   have hp:=QfJ hF hg hcs hob
   obtain ⟨oc,h1,h2⟩:=QiH hfl hrs hp
   refine Yd.val (v:=.agg oc) ?_ rfl ⟨oc.toList,by simp,h2⟩ hW
   have hb:P.built t (parts.toList.map fun (i,x)=>(i,a.eval x))=some oc:=by
    unfold Program.built
    unfold Qjc at hpl
    split at hpl
    ·rename_i n e hu
     cases hie:P.info? e with
     | none=>rw [hie] at hpl; cases hpl
     | some ie=>rw [hie] at hpl; cases hpl; simp only [hi,hu,hzv,hie]; exact h1
    ·rename_i fs hu
     cases hps:fs.toList.mapM (fun f=>(P.info? f.type).map fun i=>(f.offset,i.size)) with
     | none=>rw [hps] at hpl; cases hpl
     | some ps =>
      rw [hps] at hpl; cases hpl
      simp only [hi,hu,hzv,hps]
      have:(fun x:Nat=>ps.toArray[x]?)=fun x:Nat=>ps[x]?:=by funext x; simp
      rw [this]; exact h1
    ·cases hpl
   have hr:=run_build (P:=P) w t (parts.map fun (i,x)=>(i,a.eval x)) oc (by rw [Qgb]; exact hb)
   simp [execOp,ho,hr]
 ·cases hf
theorem Qga (hob:allP r.obs) (hg:g) (hF:∀ t,AR w M φ (L t) (a.tmps.getD t undef)) (hW:Wd Γ φ M hD w) {t:TypeId} {n:Nat} {parts:Array (Nat×Operand)} (ho:o.op=.buildSlice t n parts) (hf:fop P h base g L o.op hs=some r)
  (hfr:∀ id,base≤id→id<base+r.news.length→φ id=none∧hD id=none):Yd P Γ φ M hD w base r ((execOp a.eval o).run P w):=by
 rw [ho] at hf
 simp only [fop] at hf
 split at hf
 ·rename_i e he
  have hu:=Qbc he
  split at hf
  ·rename_i ie z cs o1 hie hz hcs
   obtain ⟨i,zv,hi,hzv,hzs,h0,hrs,hl⟩:=QcY (w:=w) (M:=M) (φ:=φ) hz
   obtain rfl:ie=i:=by rw [hie] at hi; exact Option.some.inj hi
   cases hn0:(n == 0&&cs.isEmpty) with
   | true =>
    rw [hn0] at hf; cases hf
    simp only [Bool.and_eq_true,beq_iff_eq,List.isEmpty_iff] at hn0
    obtain ⟨rfl,rfl⟩:=hn0
    have hp:=QfJ hF hg hcs hob
    have hpe:parts=#[]:=by
     have:=hp.len
     apply Array.eq_empty_of_size_eq_zero
     simpa using this.symm
    subst hpe
    refine Yd.grow (v:=.slice (some ⟨w.heap.size,0,none⟩) 0 0) (w':=w.alloc (.cells #[] e)) ?_ rfl (QcQ w _) (IR.sl0 true ie.size _ 0 fun _=>rfl) hW
    have hem:∀ f:Nat→Value,(Array.range 0).map f=#[]:=fun f=>Array.eq_empty_of_size_eq_zero (by simp)
    simp [execOp,ho,Instr.buildSlice,run_underlying hu,Qbu hie,Instr.fill,newRow,hem]
   | false =>
    rw [hn0] at hf
    simp only [cond_false] at hf
    cases hc:(Nat.ble (n*ie.size) 4096&&!(n == 0)) with
    | false=>rw [hc] at hf; cases hf
    | true =>
     rw [hc] at hf
     simp only [cond_true] at hf
     simp only [Bool.and_eq_true,Nat.ble_eq,Bool.not_eq_true',beq_eq_false_iff_ne] at hc
     split at hf
     ·rename_i cells hfl
      have common:allP o1→∃ oc:Array Value,Rs (LR w M φ) cells oc.toList∧oc.size=n*ie.size∧(Instr.buildSlice t n (parts.map fun (i,x)=>(i,a.eval x))).run P w=.ok (.slice (some ⟨w.heap.size,0,none⟩) n n) (w.alloc (.cells oc e)):=by
       intro ho1
       have hp:=QfJ hF hg hcs ho1
       have hz2:Rs (LR w M φ) (List.replicate n z).flatten ((Array.range (n*zv.cells.size)).map fun i=>zv.cells[i % zv.cells.size]!).toList:=by rw [Qf4]; exact hrs.flat n
       obtain ⟨oc,h1,h2⟩:=QiH hfl hz2 hp
       have hol:oc.size=n*ie.size:=by
        have:=h2.len
        rw [← Array.length_toList,← this]
        have hfl2:∀ {cs:List (Nat×List Lf)} {z out:List Lf},fillL (fun i=>some (i*ie.size,ie.size)) z cs=some out→out.length=z.length:=by
         intro cs
         induction cs with
         | nil=>intro z out h; cases h; rfl
         | cons c cs ih =>
          obtain ⟨i,v⟩:=c
          intro z out h
          simp only [fillL] at h
          cases hq:(v.length == ie.size&&Nat.ble (i*ie.size+ie.size) z.length) with
          | false=>rw [hq] at h; cases h
          | true =>
           rw [hq] at h
           simp only [Bool.and_eq_true,beq_iff_eq,Nat.ble_eq] at hq
           have:=ih h
           rw [this]; simp; omega
        rw [hfl2 hfl,Qcg (sz:=ie.size) (fun c hc=>by rw [List.eq_of_mem_replicate hc]; exact hl)]; simp
       have hrun:(Instr.buildSlice t n (parts.map fun (i,x)=>(i,a.eval x))).run P w=.ok (.slice (some ⟨w.heap.size,0,none⟩) n n) (w.alloc (.cells oc e)):=by
        refine run_buildSlice w t e n _ oc ie zv hu hie hzv (by omega) (by have:n*ie.size≠0:=Nat.mul_ne_zero hc.2 (by omega); exact this) ?_
        rw [Qgb,← hzs]
        rw [← hzs] at h1
        exact h1
       exact ⟨oc,h2,hol,hrun⟩
      cases himm:cells.all immL with
      | false =>
       rw [himm] at hf
       simp only [cond_false] at hf
       split at hf
       ·cases hf
        obtain ⟨oc,h2,hol,hrun⟩:=common hob
        rw [Nat.one_mul] at hol
        have hb:=QcQ w (.cells oc e)
        have hf0:=hfr base (Nat.le_refl _) (by simp)
        have he2:Ex w M φ (w.alloc (.cells oc e)) M (upP φ base (some (w.heap.size,1))):=⟨fun b hm=>hb.block b (hW.mlt b hm),fun _ h=>h,Qew _ hf0.1⟩
        have hcl:cells.length=ie.size:=by rw [h2.len]; simpa using hol
        refine Yd.new (b:=w.heap.size) (C:=1) (v:=.slice (some ⟨w.heap.size,0,none⟩) 1 1) (by simp [execOp,ho,hrun]) rfl hW hfr hb (Nat.le_refl _) (by simp) ?_ ?_
        ·exact Qk6 hob hg hF hW (QaS _ _ _) (heap_alloc_new w _) (h2.mono fun _ _ h=>LR.mono he2 h) (by omega)
        ·exact .inl ⟨w.heap.size,1,QaS _ _ _,by simp,by omega⟩
       ·cases hf
      | true =>
       rw [himm] at hf; cases hf
       obtain ⟨oc,h2,hol,hrun⟩:=common hob
       have hb:=QcQ w (.cells oc e)
       have hf0:=hfr base (Nat.le_refl _) (by simp)
       have he2:Ex w M φ (w.alloc (.cells oc e)) M (upP φ base (some (w.heap.size,n))):=⟨fun b hm=>hb.block b (hW.mlt b hm),fun _ h=>h,Qew _ hf0.1⟩
       refine Yd.new (b:=w.heap.size) (C:=n) (v:=.slice (some ⟨w.heap.size,0,none⟩) n n) (by simp [execOp,ho,hrun]) rfl hW hfr hb (Nat.le_refl _) (by simp) ?_ ?_
       ·refine QjC (QaS _ _ _) (heap_alloc_new w _) h0 hol (by rw [Qhx]; exact Nat.le_refl _) (by have:n≤n*ie.size:=Nat.le_mul_of_pos_right _ h0; simp only [maxLen]; omega) fun i c hc2=>?_
        obtain ⟨hin,rfl⟩:=Qhw hc2
        have hcl:cells.length=n*ie.size:=by rw [h2.len]; simpa using hol
        have hle:(i+1)*ie.size≤n*ie.size:=Nat.mul_le_mul_right _ hin
        rw [Nat.add_mul,Nat.one_mul] at hle
        refine ⟨by simp; omega,fun j l hj=>?_⟩
        have hj2:cells[i*ie.size+j]?=some l:=by
         rw [List.getElem?_take] at hj
         split at hj
         ·rw [List.getElem?_drop] at hj; exact hj
         ·cases hj
        obtain ⟨v,hv,hlr⟩:=h2.get hj2
        refine ⟨v,by simpa using hv,?_⟩
        exact (LR.imm (List.all_eq_true.1 himm l (List.mem_of_getElem? hj2)) hlr).mono he2.blk he2.sub
       ·exact .inl ⟨w.heap.size,n,QaS _ _ _,by simp,by omega⟩
     ·cases hf
  ·cases hf
 ·cases hf
end
end Go.Proofs.YtpkkaboonnedfaaDoor
namespace Go.Proofs.YtpkkaboonnedfaaDoor
set_option linter.unusedSimpArgs false
set_option linter.unusedVariables false
set_option linter.unusedSectionVars false
open Go.RowKit
section
variable {P : Program} {Γ : Gam} {φ : Pl} {M : Nat → Prop} {hD h : Nat → Option Ob} {w : World} {base : Nat} {L : Nat → AV} {a : Act} {g : Prop} {hs : List Hint} {r : Res} {o : Oper}
theorem Qcp {R:Lf→Value→Prop} {b sz:Nat}:∀ (rows:List (List Lf)) (k:Nat),(∀ (i:Nat) (c:List Lf),rows[i]?=some c→c.length=sz) →
  (∀ (i:Nat) (c:List Lf) (j:Nat) (l:Lf),rows[i]?=some c→c[j]?=some l→∃ v,w.cell? ⟨b,k+i*sz+j,none⟩=some v∧R l v)→∃ vs,Rs R rows.flatten vs∧w.rangeAt b k vs
 | [],k,_,_=>⟨[],trivial,fun j v h=>by simp at h⟩
 | r :: rows,k,hs,h=>by
  obtain ⟨v1,h1,h2⟩:=QkE (w:=w) (R:=R) (b:=b) r k fun j l hj=>by simpa using h 0 r j l rfl hj
  obtain ⟨v2,h3,h4⟩:=Qcp rows (k+sz) (fun i c hc=>hs (i+1) c (by simpa using hc)) fun i c j l hc hj=>by
   obtain ⟨v,hv,hr⟩:=h (i+1) c j l (by simpa using hc) hj
   exact ⟨v,by rw [show k+sz+i*sz+j=k+(i+1)*sz+j by rw [Nat.add_mul]; omega]; exact hv,hr⟩
  have hl:v1.length=sz:=by rw [← h1.len]; exact hs 0 r rfl
  refine ⟨v1++v2,h1.append h3,fun j u hj=>?_⟩
  rcases Nat.lt_or_ge j v1.length with hlt|hge
  ·rw [List.getElem?_append_left hlt] at hj; exact h2 j u hj
  ·rw [List.getElem?_append_right hge] at hj
   have:=h4 _ _ hj
   rw [show k+j=k+sz+(j-v1.length) by omega]; exact this
theorem QjB : ∀ {z z' : List Lf} {vs : List Value}, wkOk z z' = true → Rs (LR w M φ) z vs → Rs (IR w M) z' vs
  | [], [], [], _, _ => trivial
  | x :: xs, y :: ys, v :: vs, h, hr => by
    simp only [wkOk, Bool.and_eq_true] at h
    refine ⟨?_, QjB h.2 hr.2⟩
    have h1 := h.1
    have hx := hr.1
    cases x <;> cases y <;> first
      | (cases h1; done)
      | skip
    · simp only [Bool.and_eq_true, decide_eq_true_eq, beq_iff_eq] at h1; obtain ⟨rfl, rfl⟩ := h1; exact hx
    · simp only [beq_iff_eq] at h1; subst h1; exact hx
    · simp only [Bool.and_eq_true, beq_iff_eq] at h1
      rename_i s1 s2
      have e1 : s1 = s2 := by
        obtain ⟨h1, h2⟩ := h1
        cases s1 with | mk d1 => cases s2 with | mk d2 =>
        have h3 : d1.size = 0 := h1
        have h4 : d2.size = 0 := h2
        rw [Array.eq_empty_of_size_eq_zero h3, Array.eq_empty_of_size_eq_zero h4]
      subst e1; exact hx
    · rename_i cl sz rows
      cases cl <;> cases rows <;> first
        | (cases h1; done)
        | (have hx' : IR w M .nils v := hx
           cases hx'
           exact IR.sl0 false sz none 0 fun h => by cases h)
  | [], _ :: _, _, h, _ => by cases h
  | _ :: _, [], _, h, _ => by cases h
  | [], [], _ :: _, _, h => h.elim
  | _ :: _, _, [], _, h => h.elim
theorem Qgi (hob:allP r.obs) (hg:g) (hF:∀ t,AR w M φ (L t) (a.tmps.getD t undef)) (hW:Wd Γ φ M hD w) {t:TypeId} {x y:Operand} (ho:o.op=.makeSlice t x y) (hf:fop P h base g L o.op hs=some r)
  (hfr:∀ id,base≤id→id<base+r.news.length→φ id=none∧hD id=none):Yd P Γ φ M hD w base r ((execOp a.eval o).run P w):=by
 rw [ho] at hf
 simp only [fop] at hf
 split at hf
 ·rename_i e k n o1 k' m o2 z' R hs' he h1 h2
  split at hf
  ·rename_i ie z hie hz
   cases hwk:wkOk z z' with
   | false=>rw [hwk] at hf; cases hf
   | true =>
    rw [hwk] at hf; cases hf
    simp only [Qag,allP] at hob
    obtain ⟨i,zv,hi,hzv,hzs,h0,hrs,hl⟩:=QcY (w:=w) (M:=M) (φ:=φ) hz
    obtain rfl:ie=i:=by rw [hie] at hi; exact Option.some.inj hi
    have hx:IR w M (.int k n) (a.eval x):=Qat hF h1 hob.1.1 hg
    have hy:IR w M (.int k' m) (a.eval y):=Qat hF h2 hob.1.2 hg
    generalize hvx:a.eval x=vx at hx
    generalize hvy:a.eval y=vy at hy
    cases hx; cases hy
    obtain ⟨hn0,hnm,hm63,hmb,hR,-⟩:=hob.2
    have hu:=Qbc he
    have hw1:IntKind.i64.wrap n=n:=IntWalk.i64_in n (by omega)
    have hw2:IntKind.i64.wrap m=m:=IntWalk.i64_in m (by omega)
    have hrz:=QjB hwk hrs
    have hzl:z'.length=ie.size:=by rw [hrz.len]; simpa using hzs
    let cur:Array Value:=(Array.range (m.toNat*ie.size)).map fun i=>zv.cells[i % zv.cells.size]!
    have hcur:cur.toList=(List.replicate m.toNat zv.cells.toList).flatten:=by show ((Array.range (m.toNat*ie.size)).map _).toList=_; rw [← hzs]; exact Qf4 _ _
    have hcs:cur.size=m.toNat*ie.size:=by show ((Array.range (m.toNat*ie.size)).map _).size=_; simp
    have hrun:(execOp a.eval o).run P w=.ok (.value (.slice (some ⟨w.heap.size,0,none⟩) n.toNat m.toNat)) (w.alloc (.cells cur e)):=by
     have hb1:¬ (281474976710656<(ie.bytes:Int)*m):=by omega
     have c1:¬ (m<0):=by omega
     have c2:¬ (n<0):=by omega
     have c3:¬ (m<n):=by omega
     by_cases hz0:m.toNat*ie.size=0
     ·have hem:∀ f:Nat→Value,(Array.range (m.toNat*ie.size)).map f=#[]:=fun f=>Array.eq_empty_of_size_eq_zero (by simp [hz0])
      have hcur0:cur=#[]:=hem _
      have hem0:∀ f:Nat→Value,(Array.range 0).map f=#[]:=fun f=>Array.eq_empty_of_size_eq_zero (by simp)
      simp [execOp,ho,hvx,hvy,Instr.makeSlice,run_underlying hu,asInt,asIntOf,typeInfo,hie,hw1,hw2,hb1,c1,c2,c3,Qbu hie,newRow,hcur0,hem0,hz0]
     ·simp [execOp,ho,hvx,hvy,Instr.makeSlice,run_underlying hu,asInt,asIntOf,typeInfo,hie,hw1,hw2,hb1,c1,c2,c3,Qbu hie,zeroValue,hzv,newRow,hz0]
      rfl
    have hf0:=hfr base (Nat.le_refl _) (by simp)
    have hb:=QcQ w (.cells cur e)
    have he2:Ex w M φ (w.alloc (.cells cur e)) M (upP φ base (some (w.heap.size,m.toNat))):=⟨fun b hm=>hb.block b (hW.mlt b hm),fun _ h=>h,Qew _ hf0.1⟩
    have hRl:R.length=n.toNat:=by rw [← hR]; simp
    refine Yd.new (b:=w.heap.size) (C:=m.toNat) hrun rfl hW hfr hb (Nat.le_refl _) (by simp) ?_ ?_
    ·refine QjC (QaS _ _ _) (heap_alloc_new w _) h0 hcs (by omega) (by simp only [maxLen]; omega) fun i c hc=>?_
     rw [← hR] at hc
     have hlt:=(List.getElem?_eq_some_iff.1 hc).1
     simp only [List.length_replicate] at hlt
     have hcz:c=z':=by
      rw [List.getElem?_replicate,if_pos hlt] at hc
      exact (Option.some.inj hc).symm
     subst hcz
     refine ⟨hzl,fun j l hj=>?_⟩
     obtain ⟨v,hv,hlr⟩:=hrz.get hj
     refine ⟨v,?_,hlr.mono he2.blk he2.sub⟩
     rw [← Array.getElem?_toList,hcur]
     exact Qeh (sz:=ie.size) (rows:=List.replicate m.toNat zv.cells.toList) (fun c hc=>by rw [List.eq_of_mem_replicate hc]; simpa using hzs) (by rw [List.getElem?_replicate,if_pos (by omega)]) hv
    ·exact .inl ⟨w.heap.size,m.toNat,QaS _ _ _,by rw [hRl]; simp,by omega⟩
  ·cases hf
 ·cases hf
theorem QeQ {x:Option Operand} {c:Option Cm} {q:Option Int} (hc:OptR w M φ a x c) (hb:bndC c=some q):(x=none∧q=none)∨∃ y k n,x=some y∧q=some n∧a.eval y=.int k n:=by
 cases x with
 | none =>
  cases c with
  | none=>cases hb; exact .inl ⟨rfl,rfl⟩
  | some c=>exact hc.elim
 | some x =>
  cases c with
  | none=>exact hc.elim
  | some c =>
   unfold bndC at hb
   split at hb
   ·rename_i h; cases h
   ·rename_i k n h
    cases h; cases hb
    have hx:IR w M (.int k n) (a.eval x):=hc
    generalize hv:a.eval x=xv at hx
    cases hx
    exact .inr ⟨x,k,n,rfl,rfl,hv⟩
   ·cases hb
theorem Qdq {isS:Bool} {len cap:Nat} {lo hi mx:Option Value} {ql qh qm:Option Int} (hl:(lo=none∧ql=none)∨∃ k n,lo=some (.int k n)∧ql=some n) (hh:(hi=none∧qh=none)∨∃ k n,hi=some (.int k n)∧qh=some n)
  (hm:(mx=none∧qm=none)∨∃ k n,mx=some (.int k n)∧qm=some n) (hmh:qm.isSome→qh.isSome) (h1:0≤ql.getD 0) (h2:ql.getD 0≤qh.getD len) (h3:qh.getD len≤qm.getD cap) (h4:qm.getD cap≤cap) (h5:(len:Int)≤cap) :
  (Instr.sliceBounds isS len cap lo hi mx).run P w=.ok ((ql.getD 0).toNat,(qh.getD len).toNat,(qm.getD cap).toNat) w:=by
 have hb:∀ (k:IntKind) (n:Int) (y:Nat) (code:BoundsCode),0≤n→n≤(y:Int)→(Instr.sliceBound (.int k n) y code).run P w=.ok n.toNat w:=fun k n y code e1 e2=>by
  simp [Instr.sliceBound,asIntOf,e1,e2]
 unfold Instr.sliceBounds
 rcases hm with ⟨rfl,rfl⟩|⟨km,m,rfl,rfl⟩
 ·rcases hh with ⟨rfl,rfl⟩|⟨kh,n,rfl,rfl⟩
  ·rcases hl with ⟨rfl,rfl⟩|⟨kl,l,rfl,rfl⟩
   ·simp
   ·simp only [Option.getD_some,Option.getD_none] at h1 h2 h3 h4 ⊢
    simp [hb kl l len _ h1 h2]
  ·rcases hl with ⟨rfl,rfl⟩|⟨kl,l,rfl,rfl⟩
   ·simp only [Option.getD_some,Option.getD_none] at h1 h2 h3 h4 ⊢
    simp [hb kh n cap _ h2 h3]
   ·simp only [Option.getD_some,Option.getD_none] at h1 h2 h3 h4 ⊢
    simp [hb kh n cap _ (by omega) h3,hb kl l n.toNat _ h1 (by omega)]
 ·rcases hh with ⟨rfl,rfl⟩|⟨kh,n,rfl,rfl⟩
  ·have:=hmh rfl; cases this
  ·rcases hl with ⟨rfl,rfl⟩|⟨kl,l,rfl,rfl⟩
   ·simp only [Option.getD_some,Option.getD_none] at h1 h2 h3 h4 ⊢
    simp [hb km m cap _ (by omega) h4,hb kh n m.toNat _ h2 (by omega)]
   ·simp only [Option.getD_some,Option.getD_none] at h1 h2 h3 h4 ⊢
    simp [hb km m cap _ (by omega) h4,hb kh n m.toNat _ (by omega) (by omega),hb kl l n.toNat _ h1 (by omega)]
theorem Qig {t:TypeId} {s:ByteArray} {lo hi:Option Value} {l hh m:Nat} (hu:P.underlying t=some .string) (hb:(Instr.sliceBounds false s.size s.size lo hi none).run P w=.ok (l,hh,m) w):(Instr.sliceAt t (.string s) lo hi none).run P w=.ok (.string (s.extract l hh)) w:=by
 simp [Instr.sliceAt,run_underlying hu,Instr.slice,hb]
theorem Qd7 {t e:TypeId} {A:Option Addr} {len cap:Nat} {lo hi mx:Option Value} {l hh m:Nat} {i:TypeInfo} (hu:P.underlying t=some (.slice e)) (hi2:P.info? e=some i) (hb:(Instr.sliceBounds true len cap lo hi mx).run P w=.ok (l,hh,m) w) :
  (Instr.sliceAt t (.slice A len cap) lo hi mx).run P w=.ok (.slice (if m=l then A else A.map (·.add (l*i.size))) (hh-l) (m-l)) w:=by
 simp [Instr.sliceAt,run_underlying hu,Instr.slice,hb,Qbu hi2]
theorem Qim (hob:allP r.obs) (hg:g) (hF:∀ t,AR w M φ (L t) (a.tmps.getD t undef)) (hW:Wd Γ φ M hD w) {t:TypeId} {x:Operand} {lo hi mx:Option Operand} (ho:o.op=.slice t x lo hi mx) (hf:fop P h base g L o.op hs=some r) :
  Yd P Γ φ M hD w base r ((execOp a.eval o).run P w):=by
 rw [ho] at hf
 simp only [fop] at hf
 have hrun:∀ v,(Instr.sliceAt t (a.eval x) (lo.map a.eval) (hi.map a.eval) (mx.map a.eval)).run P w=.ok v w→(execOp a.eval o).run P w=.ok (.value v) w:=fun v hv=>by simp [execOp,ho,hv]
 split at hf
 ·rename_i c o0 lo' o1 hi' o2 mx' o3 h0 h1 h2 h3
  cases hfs:Qhg P h t c lo' hi' mx' hs with
  | none=>rw [hfs] at hf; cases hf
  | some r0 =>
   rw [hfs] at hf; cases hf
   simp only [Qag] at hob
   obtain ⟨⟨⟨⟨p0,p1⟩,p2⟩,p3⟩,p4⟩:=hob
   have hx:=Qat hF h0 p0 hg
   have e1:=Qi5 hF hg h1 p1
   have e2:=Qi5 hF hg h2 p2
   have e3:=Qi5 hF hg h3 p3
   have conv:∀ {x:Option Operand} {q:Option Int},((x=none∧q=none)∨∃ y k n,x=some y∧q=some n∧a.eval y=.int k n)→((x.map a.eval=none∧q=none)∨∃ k n,x.map a.eval=some (.int k n)∧q=some n):=fun hh=>by
    rcases hh with ⟨rfl,rfl⟩|⟨y,k,n,rfl,rfl,e⟩
    ·exact .inl ⟨rfl,rfl⟩
    ·exact .inr ⟨k,n,by simp [e],rfl⟩
   unfold Qhg at hfs
   split at hfs
   ·rename_i s ql qh hb1 hb2 hb3
    split at hfs
    ·rename_i hu
     cases hfs
     obtain ⟨q1,q2,q3,-⟩:=p4
     have hx':IR w M (.str s) (a.eval x):=hx
     generalize hv:a.eval x=xv at hx' hrun
     cases hx'
     have c1:=conv (QeQ e1 hb1)
     have c2:=conv (QeQ e2 hb2)
     have c3:=conv (QeQ e3 hb3)
     have hmx:mx.map a.eval=none:=by rcases c3 with ⟨h,_⟩|⟨k,n,_,h⟩; exact h; cases h
     simp only [hmx] at hrun
     refine Yd.val (hrun _ (Qig hu (Qdq (qm:=none) c1 c2 (.inl ⟨rfl,rfl⟩) (fun h=>by cases h) q1 q2 q3 (Int.le_refl _) (Int.le_refl _)))) rfl (IR.str _) hW
    ·cases hfs
   ·rename_i ql qh hb1 hb2 hb3
    split at hfs
    ·rename_i e he
     cases hts:tsz P e with
     | none=>rw [hts] at hfs; cases hfs
     | some sz =>
      rw [hts] at hfs; cases hfs
      obtain ⟨q1,q2,q3,-⟩:=p4
      obtain ⟨i,hi,_⟩:=Qce hts
      have hu:=Qbc he
      have hx':IR w M .nils (a.eval x):=hx
      generalize hv:a.eval x=xv at hx' hrun
      cases hx'
      have c1:=conv (QeQ e1 hb1)
      have c2:=conv (QeQ e2 hb2)
      have c3:=conv (QeQ e3 hb3)
      have hmx:mx.map a.eval=none:=by rcases c3 with ⟨h,_⟩|⟨k,n,_,h⟩; exact h; cases h
      simp only [hmx] at hrun
      have hlo:(ql.getD 0).toNat=0:=by omega
      have hhi:(qh.getD 0).toNat=0:=by omega
      have hsl:=Qd7 (A:=none) hu hi (Qdq (P:=P) (w:=w) (isS:=true) (len:=0) (cap:=0) (qm:=none) c1 c2 (.inl ⟨rfl,rfl⟩) (fun h=>by cases h) q1 (by simpa using q2) (by simpa using q3) (by simp) (by simp))
      refine Yd.val (hrun _ hsl) rfl ?_ hW
      simp only [Option.map_none,ite_self]
      have z1:(qh.getD ((0:Nat):Int)).toNat-(ql.getD 0).toNat=0:=by simp only [Int.natCast_zero]; omega
      have z2:((none:Option Int).getD ((0:Nat):Int)).toNat-(ql.getD 0).toNat=0:=by simp
      rw [z1,z2]
      exact IR.nils
    ·cases hfs
   ·rename_i cl sz rows ql qh qm hb1 hb2 hb3
    split at hfs
    ·rename_i e R hs' he
     cases hsz:(tsz P e == some sz||rows.isEmpty&&(tsz P e).isSome) with
     | false=>rw [hsz] at hfs; cases hfs
     | true =>
      rw [hsz] at hfs; cases hfs
      simp only [Qag,allP] at p4
      obtain ⟨pm,q1,q2,q3,q4,q5,hR,-⟩:=p4
      have hu:=Qbc he
      have c1:=conv (QeQ e1 hb1)
      have c2:=conv (QeQ e2 hb2)
      have c3:=conv (QeQ e3 hb3)
      have hmh:qm.isSome→qh.isSome:=fun hs=>by
       cases qm with
       | none=>cases hs
       | some m=>cases qh with
        | none=>exact pm.1.elim
        | some n=>rfl
      have hmeq:∀ m,qm=some m→qh=some m:=fun m hm=>by
       subst hm
       cases qh with
       | none=>exact pm.1.elim
       | some n=>have:m=n:=pm.1; rw [this]
      -- the value and its cells
      have hinfo:∃ i,P.info? e=some i∧(rows≠[]→i.size=sz):=by
       simp only [Bool.or_eq_true,beq_iff_eq] at hsz
       rcases hsz with hsz|hsz
       ·obtain ⟨i,hi,hs⟩:=Qce hsz; exact ⟨i,hi,fun _=>hs⟩
       ·simp only [Bool.and_eq_true,List.isEmpty_iff,Option.isSome_iff_exists] at hsz
        obtain ⟨he0,n,hn⟩:=hsz
        obtain ⟨i,hi,_⟩:=Qce hn
        exact ⟨i,hi,fun h=>absurd he0 h⟩
      obtain ⟨i,hi,his⟩:=hinfo
      have hx':IR w M (.sl cl sz rows) (a.eval x):=hx
      have hlen:R.length=(qh.getD rows.length).toNat-(ql.getD 0).toNat:=by
       rw [← hR]; simp; omega
      generalize hv:a.eval x=xv at hx' hrun
      cases hx' with
      | sl0 _ _ A cap hcl0 =>
       simp only [List.length_nil,Int.natCast_zero] at q1 q2 q3 q4 q5 hlen hR
       have hR0:R=[]:=by rw [← hR]; simp
       subst hR0
       have hcap:∀ m,qm=some m→m=0:=fun m hm=>by rw [hm] at q4 q5; simp only [Option.getD_some] at q4 q5; rw [hmeq m hm] at q2 q3; simp only [Option.getD_some] at q2 q3; omega
       have hh0:qh.getD 0=0:=by omega
       refine Yd.val (hrun _ (Qd7 hu hi (Qdq c1 c2 c3 hmh q1 (by simpa using q2) (by
        cases qm with
        | none=>simp only [Option.getD_none]; simp only [Int.natCast_zero]; omega
        | some m=>have:=hcap m rfl; subst this; simp only [Option.getD_some]; simp only [Int.natCast_zero]; omega) (by
        cases qm with
        | none=>simp
        | some m=>have:=hcap m rfl; subst this; simp) (by simp)))) rfl ?_ hW
       have hlo:(ql.getD 0).toNat=0:=by omega
       have hhi:(qh.getD ((0:Nat):Int)).toNat=0:=by simp only [Int.natCast_zero]; omega
       rw [hlo,hhi]
       refine IR.sl0 _ sz _ _ fun hcl=>?_
       cases qm with
       | some m=>have:=hcap m rfl; subst this; rfl
       | none =>
        simp only [Option.isSome_none,Bool.false_or,Bool.and_eq_true] at hcl
        rw [hcl0 hcl.1]; rfl
      | sl _ _ _ b k cap vs hm hlc hcl hls hcc hrr =>
       have hhl:(qh.getD rows.length)≤rows.length:=q3
       refine Yd.val (hrun _ (Qd7 hu hi (Qdq c1 c2 c3 hmh q1 q2 (by
        cases qm with
        | none=>simp only [Option.getD_none]; omega
        | some m=>rw [hmeq m rfl]; simp) (by
        cases qm with
        | none=>simp
        | some m=>simp only [Option.getD_some] at q5 ⊢; omega) (by omega)))) rfl ?_ hW
       by_cases hR0:R=[]
       ·subst hR0
        simp only [List.length_nil] at hlen
        have:(qh.getD rows.length).toNat-(ql.getD 0).toNat=0:=hlen.symm
        rw [this]
        refine IR.sl0 _ sz _ _ fun hclR=>?_
        cases qm with
        | some m=>rw [hmeq m rfl] at this q2; simp only [Option.getD_some] at this q2 ⊢; omega
        | none =>
         simp only [Option.isSome_none,Bool.false_or,Bool.and_eq_true,Option.isNone_iff_eq_none] at hclR
         rw [hclR.2] at this
         have h9:=hcl hclR.1
         simp only [Option.getD_none] at this ⊢
         omega
       ·have hRpos:0<R.length:=List.length_pos_iff.2 hR0
        have hne:¬ ((qm.getD cap).toNat=(ql.getD 0).toNat):=by
         cases qm with
         | none=>simp only [Option.getD_none]; omega
         | some m=>rw [hmeq m rfl] at hlen; simp only [Option.getD_some] at hlen ⊢; omega
        have hrne:rows≠[]:=fun e=>by subst e; rw [← hR] at hRpos; simp at hRpos
        rw [if_neg hne,his hrne,Option.map_some,Addr.add_mid,← hlen]
        have hget:∀ (i:Nat) (c:List Lf),R[i]?=some c→rows[(ql.getD 0).toNat+i]?=some c:=fun i c hc=>by
         rw [← hR,List.getElem?_take] at hc
         split at hc
         ·rw [List.getElem?_drop] at hc; exact hc
         ·cases hc
        refine IR.sl _ sz R b _ _ (fun i j=>vs ((ql.getD 0).toNat+i) j) hm ?_ ?_ (fun i c hc=>hls _ c (hget i c hc)) (fun i c j l hc hj=>?_) (fun i c j l hc hj=>hrr _ c j l (hget i c hc) hj)
        ·cases qm with
         | none=>simp only [Option.getD_none]; omega
         | some m=>rw [hmeq m rfl] at hlen; simp only [Option.getD_some] at hlen ⊢; omega
        ·intro hclR
         cases qm with
         | some m=>rw [hmeq m rfl] at hlen; simp only [Option.getD_some] at hlen ⊢; omega
         | none =>
          simp only [Option.isSome_none,Bool.false_or,Bool.and_eq_true,Option.isNone_iff_eq_none] at hclR
          have h9:=hcl hclR.1
          rw [hclR.2] at hlen
          simp only [Option.getD_none] at hlen ⊢
          omega
        ·have:=hcc _ c j l (hget i c hc) hj
         rw [show k+(ql.getD 0).toNat*sz+i*sz+j=k+((ql.getD 0).toNat+i)*sz+j by rw [Nat.add_mul]; omega]
         exact this
    ·cases hfs
   ·cases hfs
 ·cases hf
end
end Go.Proofs.YtpkkaboonnedfaaDoor
namespace Go.Proofs.YtpkkaboonnedfaaDoor
set_option linter.unusedSimpArgs false
set_option linter.unusedVariables false
set_option linter.unusedSectionVars false
open Go.RowKit
section
variable {P : Program} {Γ : Gam} {φ : Pl} {M : Nat → Prop} {hD h : Nat → Option Ob} {w : World} {base : Nat} {L : Nat → AV} {a : Act} {g : Prop} {hs : List Hint} {r : Res} {o : Oper}
theorem QgG {l:Lf} {v:Value} {sz size:Nat} {rows:List (List Lf)} {ob:List Prop} {tx e':TypeId} (hW:Wd Γ φ M hD w) (hsub:∀ id ob,h id=some ob→hD id=some ob) (hk:P.underlying tx=some (.slice e')) (hr:Qc0 h l=some (sz,rows,ob)) (ho:allP ob)
  (hs:sz=size∨rows=[]) (hv:LR w M φ l v) (hIR:∀ id sz' off len b C,l=.os id sz' off len→φ id=some (some (b,C))→∀ c∈rows,∀ x∈c,∀ u,IR w M x u→IR w M x u) :
  ∃ news,Src P size tx v rows.length news w∧Rs (IR w M) rows.flatten news∧(∀ (i:Nat) (c:List Lf),rows[i]?=some c→c.length=size):=by
 have hnil:∀ {c:Nat} {A:Option Addr},∃ news,Src P size tx (.slice A 0 c) 0 news w∧Rs (IR w M) ([]:List Lf) news:=fun {c A}=>by
  cases A with
  | none=>exact ⟨[],Src.ofNil w hk c,trivial⟩
  | some A=>exact ⟨[],Src.ofSlice w hk A 0 c [] (by simp) (fun j u h=>by simp at h) (fun u h=>by simp at h),trivial⟩
 cases l with
 | nils =>
  simp only [Qc0] at hr; cases hr
  have hv':IR w M .nils v:=hv
  cases hv'
  obtain ⟨news,h1,h2⟩:=hnil (c:=0) (A:=none)
  exact ⟨news,h1,h2,fun i c h=>by simp at h⟩
 | sl cl s rs =>
  simp only [Qc0] at hr; cases hr
  have hv':IR w M (.sl cl sz rows) v:=hv
  cases hv' with
  | sl0 _ _ A cap _=>obtain ⟨news,h1,h2⟩:=hnil (c:=cap) (A:=A); exact ⟨news,h1,h2,fun i c h=>by simp at h⟩
  | sl _ _ _ b k cap vs hm hlc hcl hls hcc hrr =>
   by_cases hne:rows=[]
   ·subst hne; obtain ⟨news,h1,h2⟩:=hnil (c:=cap) (A:=some ⟨b,k,none⟩); exact ⟨news,h1,h2,fun i c h=>by simp at h⟩
   ·obtain rfl:sz=size:=hs.resolve_right hne
    obtain ⟨news,h1,h2⟩:=Qcp (R:=IR w M) (b:=b) (sz:=sz) rows k hls fun i c j l h1 h2=>⟨_,hcc i c j l h1 h2,hrr i c j l h1 h2⟩
    refine ⟨news,Src.ofSlice w hk ⟨b,k,none⟩ rows.length cap news ?_ (fun j u hj=>by rw [Addr.add_mid]; exact h2 j u hj) ?_,h1,hls⟩
    ·rw [← h1.len,Qcg (Qfu hls)]
    ·exact Rs.lr_one (φ:=φ) (h1.mono fun _ _ h=>IR.lr h)
 | os id s off len =>
  simp only [Qc0] at hr
  split at hr
  ·rename_i o1 ho1
   cases hc:(off == 0&&!o1.box&&o1.sz == s) with
   | false=>rw [hc] at hr; cases hr
   | true =>
    rw [hc] at hr; cases hr
    simp only [Bool.and_eq_true,beq_iff_eq,Bool.not_eq_true'] at hc
    obtain ⟨⟨rfl,hbx⟩,hsz⟩:=hc
    have hO:=hW.obs id o1 (hsub id o1 ho1)
    have hlen:=ho.1
    have hv':LR0 w M φ (.os id sz 0 len) v:=hv
    rcases hv' with ⟨b,C,hφ,rfl,hle⟩|⟨hφ,_,rfl,A,rfl⟩
    ·have hcells:=fun i c (hc:o1.rows[i]?=some c)=>hO.cell (.inl hbx) hφ hc
     have hrl:∀ (i:Nat) (c:List Lf),o1.rows[i]?=some c→c.length=sz:=fun i c hc=>by
      obtain ⟨_,h1⟩:=hO.oc (.inl hbx)
      rw [hφ] at h1
      obtain ⟨cur,_,_,_,_,_,g6⟩:=h1
      rw [(g6 i c hc).1,hsz]
     by_cases hne:o1.rows=[]
     ·have hl0:len=0:=by rw [← hlen,hne]; rfl
      rw [hne,hl0]
      obtain ⟨news,h1,h2⟩:=hnil (c:=C-0) (A:=some ⟨b,0*sz,none⟩)
      exact ⟨news,h1,h2,fun i c h=>by simp at h⟩
     ·obtain rfl:sz=size:=hs.resolve_right hne
      obtain ⟨news,h1,h2⟩:=Qcp (R:=IR w M) (b:=b) (sz:=sz) o1.rows 0 hrl fun i c j l hc hj=>by
       obtain ⟨v,hv,hr⟩:=hcells i c hc j l hj
       rw [hbx] at hr
       exact ⟨v,by rw [Nat.zero_add,← hsz]; exact hv,by simpa using hr⟩
      refine ⟨news,?_,h1,hrl⟩
      rw [hlen,Nat.zero_mul]
      refine Src.ofSlice w hk ⟨b,0,none⟩ len (C-0) news ?_ (fun j u hj=>by rw [Addr.add_mid]; exact h2 j u hj) ?_
      ·rw [← h1.len,Qcg (Qfu hrl),hlen]
      ·exact Rs.lr_one (φ:=φ) (h1.mono fun _ _ h=>IR.lr h)
    ·have hr0:o1.rows=[]:=List.eq_nil_of_length_eq_zero hlen
     rw [hr0]
     obtain ⟨news,h1,h2⟩:=hnil (c:=0) (A:=A)
     exact ⟨news,h1,h2,fun i c h=>by simp at h⟩
  ·cases hr
 | _=>simp only [Qc0] at hr; cases hr
theorem Qj0 {l:Lf} {v:Value} {sz size:Nat} {rows:List (List Lf)} {ob:List Prop} (hW:Wd Γ φ M hD w) (hr:Qc0 hD l=some (sz,rows,ob)) (ho:allP ob) (hs:sz=size∨rows=[]) (hv:LR w M φ l v) :
  ∃ news,Rs (IR w M) rows.flatten news∧(∀ (i:Nat) (c:List Lf),rows[i]?=some c→c.length=size)∧∃ A cap,v=.slice A rows.length cap∧(rows≠[]→∃ ad,A=some ad∧∀ j u,news[j]?=some u→w.cell? (ad.add j)=some u):=by
 have hnil:∀ {c:Nat} {A:Option Addr},∃ news,Rs (IR w M) ([]:List (List Lf)).flatten news∧(∀ (i:Nat) (c:List Lf),([]:List (List Lf))[i]?=some c→c.length=size)∧∃ A' cap,Value.slice A 0 c=.slice A' ([]:List (List Lf)).length cap∧(([]:List (List Lf))≠[]→∃ ad,A'=some ad∧∀ j u,news[j]?=some u→w.cell? (ad.add j)=some u):=fun {c A} =>
  ⟨[],trivial,fun i c h=>by simp at h,A,c,rfl,fun h=>absurd rfl h⟩
 cases l with
 | nils =>
  simp only [Qc0] at hr; cases hr
  have hv':IR w M .nils v:=hv
  cases hv'
  exact hnil
 | sl cl s rs =>
  simp only [Qc0] at hr; cases hr
  have hv':IR w M (.sl cl sz rows) v:=hv
  cases hv' with
  | sl0 _ _ A cap _=>exact hnil
  | sl _ _ _ b k cap vs hm hlc hcl hls hcc hrr =>
   by_cases hne:rows=[]
   ·subst hne; exact hnil
   ·obtain rfl:sz=size:=hs.resolve_right hne
    obtain ⟨news,h1,h2⟩:=Qcp (R:=IR w M) (b:=b) (sz:=sz) rows k hls fun i c j l h1 h2=>⟨_,hcc i c j l h1 h2,hrr i c j l h1 h2⟩
    exact ⟨news,h1,hls,_,cap,rfl,fun _=>⟨⟨b,k,none⟩,rfl,fun j u hj=>by rw [Addr.add_mid]; exact h2 j u hj⟩⟩
 | os id s off len =>
  simp only [Qc0] at hr
  split at hr
  ·rename_i o1 ho1
   cases hc:(off == 0&&!o1.box&&o1.sz == s) with
   | false=>rw [hc] at hr; cases hr
   | true =>
    rw [hc] at hr; cases hr
    simp only [Bool.and_eq_true,beq_iff_eq,Bool.not_eq_true'] at hc
    obtain ⟨⟨rfl,hbx⟩,hsz⟩:=hc
    have hO:=hW.obs id o1 ho1
    have hlen:=ho.1
    have hv':LR0 w M φ (.os id sz 0 len) v:=hv
    rcases hv' with ⟨b,C,hφ,rfl,hle⟩|⟨hφ,_,rfl,A,rfl⟩
    ·have hcells:=fun i c (hc:o1.rows[i]?=some c)=>hO.cell (.inl hbx) hφ hc
     have hrl:∀ (i:Nat) (c:List Lf),o1.rows[i]?=some c→c.length=sz:=fun i c hc=>by
      obtain ⟨_,h1⟩:=hO.oc (.inl hbx)
      rw [hφ] at h1
      obtain ⟨cur,_,_,_,_,_,g6⟩:=h1
      rw [(g6 i c hc).1,hsz]
     by_cases hne:o1.rows=[]
     ·have hl0:len=0:=by rw [← hlen,hne]; rfl
      rw [hne,hl0]
      exact hnil
     ·obtain rfl:sz=size:=hs.resolve_right hne
      obtain ⟨news,h1,h2⟩:=Qcp (R:=IR w M) (b:=b) (sz:=sz) o1.rows 0 hrl fun i c j l hc hj=>by
       obtain ⟨v,hv,hr⟩:=hcells i c hc j l hj
       rw [hbx] at hr
       exact ⟨v,by rw [Nat.zero_add,← hsz]; exact hv,by simpa using hr⟩
      refine ⟨news,h1,hrl,_,C-0,by rw [hlen],fun _=>⟨⟨b,0*sz,none⟩,rfl,fun j u hj=>?_⟩⟩
      rw [Nat.zero_mul,Addr.add_mid]; exact h2 j u hj
    ·have hr0:o1.rows=[]:=List.eq_nil_of_length_eq_zero hlen
     rw [hr0]
     exact hnil
  ·cases hr
 | _=>simp only [Qc0] at hr; cases hr
theorem Qg0 {l:Lf} {v:Value} {sz:Nat} {rows:List (List Lf)} {ob:List Prop} (hr:Qc0 h l=some (sz,rows,ob)) (hv:LR w M φ l v):∃ A n c,v=.slice A n c:=by
 cases l with
 | nils=>cases (hv:IR w M .nils v); exact ⟨_,_,_,rfl⟩
 | sl cl s rs=>cases (hv:IR w M (.sl cl s rs) v) <;> exact ⟨_,_,_,rfl⟩
 | os id s off len =>
  rcases (hv:LR0 w M φ (.os id s off len) v) with ⟨b,C,h1,h2,h3⟩|⟨h1,h2,h3,x,h4⟩
  ·exact ⟨_,_,_,h2⟩
  ·exact ⟨_,_,_,h4⟩
 | _=>simp only [Qc0] at hr; cases hr
theorem Qjt {l:Lf} {v:Value} {sz:Nat} {rows:List (List Lf)} {ob:List Prop} (hr:Qc0 h l=some (sz,rows,ob)) (ho:allP ob) (hne:rows≠[]) (hv:LR w M φ l v):∃ A n c,v=.slice (some A) n c:=by
 cases l with
 | nils=>simp only [Qc0] at hr; cases hr; exact absurd rfl hne
 | sl cl s rs =>
  simp only [Qc0] at hr; cases hr
  cases (hv:IR w M (.sl cl sz rows) v) with
  | sl0=>exact absurd rfl hne
  | sl=>exact ⟨_,_,_,rfl⟩
 | os id s off len =>
  simp only [Qc0] at hr
  split at hr
  ·rename_i o1 ho1
   cases hc:(off == 0&&!o1.box&&o1.sz == s) with
   | false=>rw [hc] at hr; cases hr
   | true =>
    rw [hc] at hr; cases hr
    rcases (hv:LR0 w M φ (.os id sz off len) v) with ⟨b,C,h1,h2,h3⟩|⟨h1,h2,h3,x,h4⟩
    ·exact ⟨_,_,_,h2⟩
    ·have:=ho.1
     rw [h3] at this
     exact absurd (List.eq_nil_of_length_eq_zero this) hne
  ·cases hr
 | _=>simp only [Qc0] at hr; cases hr
theorem Qj3 (hob:allP r.obs) (hg:g) (hF:∀ t,AR w M φ (L t) (a.tmps.getD t undef)) (hW:Wd Γ φ M hD w) {op:BinOp} {t u:TypeId} {x y:Operand} (ho:o.op=.binOp op t x y u) (hf:QkC P h L g op t x y hs=some r) :
  Yd P Γ φ M hD w base r ((execOp a.eval o).run P w):=by
 unfold QkC at hf
 split at hf
 ·rename_i l o1 o2 e h1 h2 ht
  have hrun:∀ A n c,a.eval x=.slice A n c→a.eval y=.slice none 0 0→(execOp a.eval o).run P w=.ok (.value (.bool A.isNone)) w:=fun A n c hx hy=>by
   have hq:(Op.equal t (.slice A n c) (.slice none 0 0)).run P w=.ok A.isNone w:=by
    obtain ⟨d,hd⟩:∃ d,Op.maxDepth=d+1:=⟨Op.maxDepth-1,rfl⟩
    unfold Op.equal
    rw [hd]
    cases A <;> simp [Op.equalIn,run_underlying ht]
   simp [execOp,ho,hx,hy,eqGuard,binOp,hq]
  split at hf
  ·rename_i p hs' hr
   cases hf
   rw [Qag] at hob
   have hx:LR w M φ l (a.eval x):=Qat hF h1 hob.1 hg
   have hy:IR w M .nils (a.eval y):=Qat hF h2 hob.2 hg
   obtain ⟨sz,rows,ob⟩:=p
   obtain ⟨A,n,c,hv⟩:=Qg0 hr hx
   have hyv:a.eval y=.slice none 0 0:=by generalize a.eval y=q at hy; cases hy; rfl
   exact Yd.val (hrun A n c hv hyv) rfl ⟨_,rfl⟩ hW
  ·rename_i sz rows o3 hs' hr
   cases hf
   simp only [Qag] at hob
   obtain ⟨⟨⟨p1,p2⟩,p3⟩,hne,-⟩:=hob
   have hx:LR w M φ l (a.eval x):=Qat hF h1 p1 hg
   have hy:IR w M .nils (a.eval y):=Qat hF h2 p2 hg
   obtain ⟨A,n,c,hv⟩:=Qjt hr p3 hne hx
   have hyv:a.eval y=.slice none 0 0:=by generalize a.eval y=q at hy; cases hy; rfl
   exact Yd.val (hrun (some A) n c hv hyv) rfl (IR.bool _) hW
  ·cases hf
 ·cases hf
theorem QfS:∀ (ns:List Int) (s:ByteArray),ns.foldl (fun r n=>r.push (UInt8.ofNat n.toNat)) s=⟨s.data++(ns.map fun n=>UInt8.ofNat n.toNat).toArray⟩
 | [],s=>by simp
 | n :: ns,s=>by
  rw [List.foldl_cons,QfS ns]
  simp [ByteArray.push]
theorem QhC:∀ {J:List Int} {news:List Value},Rs (IR w M) (J.map fun n=>[Lf.int .u8 n]).flatten news→news=J.map (Value.int .u8)
 | [],[],_=>rfl
 | [],_ :: _,h=>h.elim
 | n :: J,[],h=>h.elim
 | n :: J,v :: vs,h=>by
  cases h.1
  rw [QhC h.2]; rfl
theorem Qg3 {s d:TypeId} {x:Operand} (hob:allP r.obs) (hg:g) (hF:∀ t,AR w M φ (L t) (a.tmps.getD t undef)) (hW:Wd Γ φ M hD w) (hsub:∀ id ob,h id=some ob→hD id=some ob) (ho:o.op=.convert s d x) (hf:fop P h base g L o.op hs=some r):Yd P Γ φ M hD w base r ((execOp a.eval o).run P w):=by
 rw [ho] at hf
 simp only [fop] at hf
 split at hf
 ·rename_i d1 k k' n o1 h1 h2 h3; cases hf
  have hx:IR w M (.int k' n) (a.eval x):=Qat hF h3 hob hg
  generalize hv:a.eval x=xv at hx
  cases hx
  refine Yd.val (v:=.int k (cvK k n)) ?_ rfl (IR.int _ _) hW
  simp [execOp,ho,hv,convert,run_underlying h1,run_underlying h2,Conv.intToInt,cvK]
 ·rename_i d1 k' n o1 h1 h2 h3; cases hf
  have hx:IR w M (.int k' n) (a.eval x):=Qat hF h3 hob hg
  generalize hv:a.eval x=xv at hx
  cases hx
  refine Yd.val (v:=.string (runeS n)) ?_ rfl (IR.str _) hW
  simp [execOp,ho,hv,convert,run_underlying h1,run_underlying h2,Conv.intToString,runeS]
 ·rename_i d1 s1 o1 h1 h2 h3; cases hf
  have hx:IR w M (.str s1) (a.eval x):=Qat hF h3 hob hg
  generalize hv:a.eval x=xv at hx
  cases hx
  refine Yd.val (v:=.string s1) ?_ rfl (IR.str _) hW
  simp [execOp,ho,hv,convert,run_underlying h1,run_underlying h2]
 ·rename_i e l o1 J hs' n1 n2 h1 h2 h3
  split at hf
  ·rename_i sz rows o2 h4 h5
   cases hc:(sz == 1||rows.isEmpty) with
   | false=>rw [hc] at hf; cases hf
   | true =>
    rw [hc] at hf; cases hf
    simp only [Qag] at hob
    obtain ⟨⟨ho1,ho2⟩,hrows,-⟩:=hob
    have hx:LR w M φ l (a.eval x):=Qat hF h3 ho1 hg
    have hs1:sz=1∨rows=[]:=by
     rw [Bool.or_eq_true] at hc
     exact hc.imp (fun h=>by simpa using h) (fun h=>by simpa using h)
    obtain ⟨news,hsrc,hnr,-⟩:=QgG (size:=1) hW hsub h1 h5 ho2 hs1 hx (fun _ _ _ _ _ _ _ _ _ _ _ _ _ h=>h)
    obtain ⟨A,n,c,hv⟩:=Qg0 h5 hx
    rw [hv] at hsrc
    rw [hrows] at hnr
    have hnews:=QhC hnr
    subst hnews
    refine Yd.val (v:=.string (Qge J)) ?_ rfl (IR.str _) hW
    have hfc:=hsrc.cells
    have hlen:n=rows.length:=by
     have:=hsrc.len w
     simpa [Builtin.lenOf] using this
    have key:(Conv.bytesToString (.slice A n c)).run P w=.ok (.string (Qge J)) w:=by
     cases A with
     | none =>
      have:J=[]:=by
       have h6:(Builtin.firstCells 1 rows.length (.slice none n c)).run P w=.ok #[] w:=rfl
       rw [h6] at hfc
       have h7:=(Result.ok.inj hfc).1
       cases J with
       | nil=>rfl
       | cons a b=>simp at h7
      subst this
      rfl
     | some A =>
      have h6:(loadCells A n).run P w=.ok (J.map (Value.int .u8)).toArray w:=by
       rw [hlen]
       have h7:Builtin.firstCells 1 rows.length (.slice (some A) n c)=loadCells A (rows.length*1):=rfl
       rw [h7,Nat.mul_one] at hfc
       exact hfc
      rw [run_bytesToString w A n c J h6,QfS]
      simp [Qge,ByteArray.empty,ByteArray.emptyWithCapacity]
      rfl
    simp only [execOp,ho,hv,Sem.run_bind,run_convert_bytes_string w s d e A n c h1 h4 h2,key]
    simp [Sem.run_pure]
  ·cases hf
 ·cases hf
theorem Qez {t tx ty e:TypeId} {i:TypeInfo} {A:Option Addr} {n c:Nat} {x:Value} {news:List Value} (ht:P.underlying t=some (.slice e)) (hi:P.info? e=some i) (hs:Src P i.size tx x 0 news w) (hle:n≤c) :
  (Builtin.append_ #[t,tx] ty #[.slice A n c,x]).run P w=.ok (.slice A n c) w:=by
 have hn:news=[]:=List.eq_nil_of_length_eq_zero (by simpa using hs.newsLen)
 subst hn
 have h1:=hs.cells
 rcases hs.kind with ⟨e',hk⟩|hk <;> cases A <;> simp [Builtin.append_,run_underlying ht,run_underlying hk,sizeOf,typeInfo,hi,hs.len,hle,h1,storeCells]
theorem Qkr {w':World} {id b C:Nat} {φ':Pl} {e:TypeId} {sz:Nat} {rows:List (List Lf)} {vs rest:List Value} (hφ:φ' id=some (some (b,C))) (hb:w'.heap[b]?=some (.cells (vs++rest).toArray e)) (h0:0<sz) (hs:(vs++rest).length=C*sz) (hl:rows.length≤C) (hC:C≤maxLen)
  (hls:∀ (i:Nat) (c:List Lf),rows[i]?=some c→c.length=sz) (hr:Rs (IR w' M) rows.flatten vs):OR w' M φ' id ⟨false,sz,e,rows⟩ :=
 QjC hφ hb h0 (by simpa using hs) hl hC fun i c hc=>⟨hls i c hc,fun j l hj=>by
  obtain ⟨v,hv,hlr⟩:=hr.get (Qeh (Qfu hls) hc hj)
  refine ⟨v,?_,hlr⟩
  rw [List.getElem?_toArray,List.getElem?_append_left (List.getElem?_eq_some_iff.1 hv).1]
  exact hv⟩
theorem Qed (z:Array Value) (n:Nat):(Builtin.zeroCells z n).toList.length=n*z.size:=by
 rw [Array.length_toList,size_zeroCells]
theorem Qgy {t tx ty e:TypeId} {i:TypeInfo} {z x:Value} {A:Option Addr} {n c k:Nat} {olds news:List Value} {rows:List (List Lf)} {id:Nat} (hW:Wd Γ φ M hD w) (ht:P.underlying t=some (.slice e)) (hi:P.info? e=some i) (hz:i.zero=some z) (hzs:z.cells.size=i.size) (h0:0<i.size)
  (hold:(Builtin.firstCells i.size n (.slice A n c)).run P w.drew=.ok olds.toArray w.drew) (hs:Src P i.size tx x k news w) (hlt:c<n+k) (h63:n+k≤9223372036854775807) (hby:(n+k)*i.bytes≤140737488355328)
  (holen:olds.length=n*i.size) (hrl:rows.length=n+k) (hls:∀ (j:Nat) (c:List Lf),rows[j]?=some c→c.length=i.size) (hR:Rs (IR w M) rows.flatten (olds++news)) (hφ:φ id=none) :
  ∃ C w',(Builtin.append_ #[t,tx] ty #[.slice A n c,x]).run P w=.ok (.slice (some ⟨w.heap.size,0,none⟩) (n+k) C) w'∧Below w.heap.size w w'∧w.heap.size<w'.heap.size∧n+k≤C∧OR w' M (upP φ id (some (w.heap.size,C))) id ⟨false,i.size,e,rows⟩:=by
 have hrun:=run_append_grow_src (P:=P) w t tx ty e i z ht hi hz A n c olds hold x k news hs hlt (by omega) (growslice_fits hlt hby)
 have hge:=grownCap_ge w (n+k) c e
 have hle:=grownCap_le_maxLen w (n+k) c e (by simp only [maxLen]; omega)
 have hb:Below w.heap.size w (w.drew.alloc (.cells ((olds++news).toArray++Builtin.zeroCells z.cells (grownCap w (n+k) c e-(n+k))) e)):=((Below.refl _ _).drew).alloc (Nat.le_refl _) _
 have he:Ex w M φ (w.drew.alloc (.cells ((olds++news).toArray++Builtin.zeroCells z.cells (grownCap w (n+k) c e-(n+k))) e)) M φ:=hW.ex_grow hb
 refine ⟨grownCap w (n+k) c e,_,hrun,hb,by simp,hge,?_⟩
 have heq:((olds++news).toArray++Builtin.zeroCells z.cells (grownCap w (n+k) c e-(n+k)))=((olds++news)++(Builtin.zeroCells z.cells (grownCap w (n+k) c e-(n+k))).toList).toArray:=by apply Array.ext'; simp
 refine Qkr (vs:=olds++news) (rest:=(Builtin.zeroCells z.cells (grownCap w (n+k) c e-(n+k))).toList) (QaS _ _ _) ?_ h0 ?_ (by omega) hle hls (hR.mono fun _ _ h=>h.mono he.blk he.sub)
 ·rw [← heq]; exact heap_alloc_new w.drew _
 ·rw [List.length_append,List.length_append,holen,hs.newsLen,Qed,hzs,← Nat.add_mul,← Nat.add_mul]
  congr 1; omega
theorem Qf9 (hg:g) (hW:Wd Γ φ M hD w) (hsub:∀ id ob,h id=some ob→hD id=some ob) {d x:Lf} {vd vx:Value} {t ty:TypeId} {r:Res} {tys:List TypeId} {run:Result Next} (hf:QkA P h base d x t (tys.headD 0) hs=some r) (hob:allP r.obs)
  (hd:LR w M φ d vd) (hx:LR w M φ x vx) (hrun:∀ v w',(Builtin.append_ #[t,tys.headD 0] ty #[vd,vx]).run P w=.ok v w'→run=.ok (.value v) w') (hfr:∀ id,base≤id→id<base+r.news.length→φ id=none∧hD id=none) :
  Yd P Γ φ M hD w base r run:=by
 simp only [QkA] at hf
 split at hf
 ·rename_i e he
  have ht:=Qbc he
  split at hf
  ·rename_i i sz new o1 z hi hro hz
   cases hc:(t == tys.headD 0&&(sz == i.size||new.isEmpty)) with
   | false=>rw [hc] at hf; cases hf
   | true =>
    rw [hc] at hf
    simp only [cond_true] at hf
    simp only [Bool.and_eq_true,Bool.or_eq_true,beq_iff_eq,List.isEmpty_iff] at hc
    obtain ⟨htt,hsz⟩:=hc
    rw [← htt] at hrun
    obtain ⟨i2,zv,hi2,hzv,hzs,h0,hrs,hl⟩:=QcY (w:=w) (M:=M) (φ:=φ) hz
    obtain rfl:i=i2:=by rw [hi] at hi2; exact Option.some.inj hi2
    have core:∀ {A:Option Addr} {n c:Nat} {olds:List Value} {rows R:List (List Lf)},vd=.slice A n c→(c=n)→(rows=[]→n=0)→allP o1→rows++new=R→(new≠[]∨rows=[])→R.length*i.bytes≤140737488355328→R.length≤9223372036854775807 →
      rows.length=n→(Builtin.firstCells i.size n (.slice A n c)).run P w.drew=.ok olds.toArray w.drew→olds.length=n*i.size→(∀ (j:Nat) (c:List Lf),rows[j]?=some c→c.length=i.size)→Rs (IR w M) rows.flatten olds →
      r.v=one (.os base i.size 0 R.length)→r.news=[⟨false,i.size,e,R⟩]→Yd P Γ φ M hD w base r run:=by
     intro A n c olds rows R hvd hcn hrn hp1 hR hne hby h63 hrl hold holen hls hRs hrv hrn2
     subst hvd hcn
     obtain ⟨news,hsrc,hnr,hnl⟩:=QgG (size:=i.size) hW hsub ht hro hp1 hsz hx (fun _ _ _ _ _ _ _ _ _ _ _ _ _ h=>h)
     have hRl:R.length=c+new.length:=by rw [← hR,List.length_append,hrl]
     by_cases hn0:new.length=0
     ·have hnew:new=[]:=List.eq_nil_of_length_eq_zero hn0
      have hr0:rows=[]:=hne.resolve_left (fun h=>h hnew)
      have hc0:=hrn hr0
      subst hc0
      rw [hn0] at hsrc
      have hR0:R=[]:=by rw [← hR,hr0,hnew]; rfl
      have hf0:=hfr base (Nat.le_refl _) (by rw [hrn2]; simp)
      refine Yd.newNil (hrun _ _ (Qez ht hi hsrc (Nat.le_refl _))) hrn2 hW hfr (Below.refl _ _) hR0 rfl h0 ?_
      rw [hrv,hR0]
      exact .inr ⟨QaS _ _ _,rfl,rfl,A,rfl⟩
     ·have hf0:=hfr base (Nat.le_refl _) (by rw [hrn2]; simp)
      obtain ⟨C,w',hrun',hb,hlt,hle,hO⟩:=Qgy (id:=base) (rows:=R) (ty:=ty) hW ht hi hzv hzs h0 hold hsrc (by omega) (by omega) (by rw [← hRl]; exact hby) holen hRl (fun j c hj=>by
       rw [← hR] at hj
       rcases Nat.lt_or_ge j rows.length with h|h
       ·rw [List.getElem?_append_left h] at hj; exact hls j c hj
       ·rw [List.getElem?_append_right h] at hj; exact hnl _ c hj) (by rw [← hR,List.flatten_append]; exact hRs.append hnr) hf0.1
      refine Yd.new (hrun _ _ hrun') hrn2 hW hfr hb (Nat.le_refl _) hlt hO ?_
      rw [hrv]
      exact .inl ⟨w.heap.size,C,QaS _ _ _,by rw [hRl]; simp,by omega⟩
    split at hf
    ·rename_i R hs'
     cases hf
     simp only [Qag,allP] at hob
     obtain ⟨p1,hR,hby,h63,-⟩:=hob
     have hd':IR w M .nils vd:=hd
     cases hd'
     exact core (rows:=[]) (olds:=[]) rfl rfl (fun _=>rfl) p1 hR (.inr rfl) hby h63 rfl (run_firstCells_none w.drew _ _ _ _) (by simp) (fun j c h=>by simp at h) trivial rfl rfl
    ·rename_i sz' rows R hs'
     cases hc2:(sz' == i.size||rows.isEmpty) with
     | false=>rw [hc2] at hf; cases hf
     | true =>
      rw [hc2] at hf; cases hf
      simp only [Bool.or_eq_true,beq_iff_eq,List.isEmpty_iff] at hc2
      simp only [Qag,allP] at hob
      obtain ⟨⟨p1,pR⟩,hby,h63,-⟩:=hob
      have hd':IR w M (.sl true sz' rows) vd:=hd
      have hRR:rows++new=R∧(new≠[]∨rows=[]):=⟨pR.1,(Classical.em (new=[])).symm.imp id pR.2.1⟩
      cases hd' with
      | sl0 _ _ A cap hcl =>
       obtain rfl:=hcl rfl
       refine core (rows:=[]) (olds:=[]) rfl rfl (fun _=>rfl) p1 hRR.1 (.inr rfl) hby h63 rfl ?_ (by simp) (fun j c h=>by simp at h) trivial rfl rfl
       cases A <;> simp [Builtin.firstCells,loadCells,loadCellsFrom]
      | sl _ _ _ b k cap vs hm hlc hcl hls hcc hrr =>
       have hcap:=hcl rfl
       obtain ⟨olds,g1,g2⟩:=Qcp (R:=IR w M) (b:=b) (sz:=sz') rows k hls fun i c j l h1 h2=>⟨_,hcc i c j l h1 h2,hrr i c j l h1 h2⟩
       have hol:olds.length=rows.length*i.size:=by
        rw [← g1.len,Qcg (Qfu hls)]
        rcases hc2 with h|h
        ·rw [h]
        ·rw [h]; simp
       refine core (rows:=rows) (olds:=olds) rfl hcap (fun h=>by rw [h]; rfl) p1 hRR.1 hRR.2 hby h63 rfl ?_ hol (fun j c hj=>?_) g1 rfl rfl
       ·exact run_firstCells_some w.drew i.size rows.length ⟨b,k,none⟩ _ cap olds hol (fun j v hj=>by rw [Addr.add_mid]; exact g2 j v hj)
       ·rw [hls j c hj]
        rcases hc2 with h|h
        ·exact h
        ·rw [h] at hj; simp at hj
    ·cases hf
  ·cases hf
 ·cases hf
theorem Qf7 (w:World) {t tx ty e:TypeId} {kx:IntKind} {i:TypeInfo} {z:Value} {n:Int} (ht:P.underlying t=some (.slice e)) (hx:P.underlying tx=some (.int kx)) (hi:P.info? e=some i) (hz:i.zero=some z) (hzs:z.cells.size=i.size) (h0:0<i.size) (hn:0≤n) (h63:n≤9223372036854775807) (hby:(i.bytes:Int)*n≤140737488355328) :
  (Builtin.append_ #[t,tx] ty #[.slice none 0 0,.int .i64 n]).run P w=if n.toNat=0 then .ok (.slice none 0 0) w else
   .ok (.slice (some ⟨w.heap.size,0,none⟩) n.toNat (grownCap w n.toNat 0 e)) (w.drew.alloc (.cells (Builtin.zeroCells z.cells n.toNat++Builtin.zeroCells z.cells (grownCap w n.toNat 0 e-n.toNat)) e)):=by
 have hw:IntKind.i64.wrap n=n:=IntWalk.i64_in n (by omega)
 have c1:¬ (n<0):=by omega
 have hb1:¬ (281474976710656<n*(i.bytes:Int)):=by rw [Int.mul_comm]; omega
 by_cases hz0:n.toNat=0
 ·have e0:n=0:=by omega
  subst e0
  rw [if_pos (by decide)]
  have h1:IntKind.i64.wrap 0=0:=hw
  simp [Builtin.append_,run_underlying ht,run_underlying hx,sizeOf,typeInfo,hi,asInt,asIntOf,h1]
 ·rw [if_neg hz0]
  have hlt:0<n.toNat:=Nat.pos_of_ne_zero hz0
  have hsz:¬ (i.size=0):=by omega
  have h63':¬ (9223372036854775807<n):=by omega
  have hbn:n.toNat*i.bytes≤140737488355328:=by
   have:((n.toNat*i.bytes:Nat):Int)≤140737488355328:=by
    rw [Int.natCast_mul,Int.toNat_of_nonneg hn,Int.mul_comm]; exact hby
   omega
  have hfit:Builtin.nextslicecap n.toNat 0*i.bytes≤281474976710656:=growslice_fits hlt hbn
  have h48':¬ (281474976710656<Builtin.nextslicecap n.toNat 0*i.bytes):=by omega
  have hm:max n 0=n:=by omega
  have hle:¬ n≤0:=by omega
  have hmul:¬ (n.toNat*i.size=0):=Nat.ne_of_gt (Nat.mul_pos hlt h0)
  simp [hle,hmul,Builtin.append_,run_underlying ht,run_underlying hx,sizeOf,typeInfo,zeroValue,hi,hz,asInt,asIntOf,hw,c1,hb1,hz0,hsz,h63',h48',hm,hlt,Question.forced,newRow,grownCap,Builtin.firstCells]
theorem Qfo (hg:g) (hW:Wd Γ φ M hD w) {vd vx:Value} {k:IntKind} {n:Int} {t tx ty:TypeId} {r:Res} {run:Result Next} (hf:Qde P h base .append [.one .nils,.one (.int k n)] [t,tx] hs=some r) (hob:allP r.obs)
  (hd:LR w M φ .nils vd) (hx:LR w M φ (.int k n) vx) (hrun:∀ v w',(Builtin.append_ #[t,tx] ty #[vd,vx]).run P w=.ok v w'→run=.ok (.value v) w') (hfr:∀ id,base≤id→id<base+r.news.length→φ id=none∧hD id=none) :
  Yd P Γ φ M hD w base r run:=by
 simp only [Qde] at hf
 split at hf
 ·rename_i e kx z' R hs' he hux
  split at hf
  ·rename_i ie z hie hz
   cases hwk:(wkOk z z'&&decide (k=.i64)) with
   | false=>rw [hwk] at hf; cases hf
   | true =>
    rw [hwk] at hf; cases hf
    simp only [Bool.and_eq_true,decide_eq_true_iff] at hwk
    obtain ⟨hwk,rfl⟩:=hwk
    simp only [allP] at hob
    obtain ⟨hn0,h63,hby,hR,-⟩:=hob
    obtain ⟨i,zv,hi,hzv,hzs,h0,hrs,hl⟩:=QcY (w:=w) (M:=M) (φ:=φ) hz
    obtain rfl:ie=i:=by rw [hie] at hi; exact Option.some.inj hi
    have hu:=Qbc he
    have hd':IR w M .nils vd:=hd
    have hx':IR w M (.int .i64 n) vx:=hx
    cases hd'; cases hx'
    have hap:=Qf7 (P:=P) w (ty:=ty) hu hux hie hzv hzs h0 hn0 h63 hby
    have hRl:R.length=n.toNat:=by rw [← hR]; simp
    have hf0:=hfr base (Nat.le_refl _) (by simp)
    by_cases hz0:n.toNat=0
    ·rw [if_pos hz0] at hap
     have hR0:R=[]:=List.eq_nil_of_length_eq_zero (by omega)
     refine Yd.newNil (hrun _ _ hap) rfl hW hfr (Below.refl _ _) hR0 rfl h0 ?_
     subst hR0
     exact .inr ⟨QaS _ _ _,rfl,rfl,none,rfl⟩
    ·rw [if_neg hz0] at hap
     have hrz:=QjB hwk hrs
     have hzl:z'.length=ie.size:=by rw [hrz.len]; simpa using hzs
     have hge:=grownCap_ge w n.toNat 0 e
     have hle:=grownCap_le_maxLen w n.toNat 0 e (by simp only [maxLen]; omega)
     generalize hC:grownCap w n.toNat 0 e=C at *
     have hb:Below w.heap.size w (w.drew.alloc (.cells (Builtin.zeroCells zv.cells n.toNat++Builtin.zeroCells zv.cells (C-n.toNat)) e)):=((Below.refl _ _).drew).alloc (Nat.le_refl _) _
     have he2:Ex w M φ (w.drew.alloc (.cells (Builtin.zeroCells zv.cells n.toNat++Builtin.zeroCells zv.cells (C-n.toNat)) e)) M (upP φ base (some (w.heap.size,C))):=⟨fun b hm=>hb.block b (hW.mlt b hm),fun _ h=>h,Qew _ hf0.1⟩
     have hzc:(Builtin.zeroCells zv.cells n.toNat).toList=(List.replicate n.toNat zv.cells.toList).flatten:=Qf4 _ _
     refine Yd.new (b:=w.heap.size) (C:=C) (hrun _ _ hap) rfl hW hfr hb (Nat.le_refl _) (by simp) ?_ ?_
     ·refine QjC (QaS _ _ _) (heap_alloc_new w.drew _) h0 ?_ (by omega) hle fun i c hc=>?_
      ·rw [Array.size_append,← Array.length_toList,← Array.length_toList,Qed,Qed,hzs,← Nat.add_mul]
       congr 1; omega
      ·rw [← hR] at hc
       have hlt:=(List.getElem?_eq_some_iff.1 hc).1
       simp only [List.length_replicate] at hlt
       have hcz:c=z':=by
        rw [List.getElem?_replicate,if_pos hlt] at hc
        exact (Option.some.inj hc).symm
       subst hcz
       refine ⟨hzl,fun j l hj=>?_⟩
       obtain ⟨v,hv,hlr⟩:=hrz.get hj
       refine ⟨v,?_,hlr.mono he2.blk he2.sub⟩
       have hfl:=Qeh (sz:=ie.size) (rows:=List.replicate n.toNat zv.cells.toList) (i:=i) (j:=j) (fun c hc=>by rw [List.eq_of_mem_replicate hc]; simpa using hzs) (by rw [List.getElem?_replicate,if_pos (by omega)]) hv
       rw [← hzc] at hfl
       rw [← Array.getElem?_toList,Array.toList_append,List.getElem?_append_left (List.getElem?_eq_some_iff.1 hfl).1]
       exact hfl
     ·exact .inl ⟨w.heap.size,C,QaS _ _ _,by rw [hRl]; simp,by omega⟩
  ·cases hf
 ·cases hf
end
end Go.Proofs.YtpkkaboonnedfaaDoor
namespace Go.Proofs.YtpkkaboonnedfaaDoor
set_option linter.unusedSimpArgs false
set_option linter.unusedVariables false
set_option linter.unusedSectionVars false
open Go.RowKit Go.MapKept
section
variable {P : Program} {Γ : Gam} {φ : Pl} {M : Nat → Prop} {hD h : Nat → Option Ob} {w : World} {base : Nat} {L : Nat → AV} {a : Act} {g : Prop} {hs : List Hint} {r : Res} {o : Oper}
theorem QjN {kt:TypeId} {k:Lf} {kv:Value} (h:QgV P kt k=true) (hk:LR w M φ k kv):∃ d,P.underlying kt=some d∧IsKey d kv:=by
 cases k with
 | int q n =>
  simp only [QgV] at h
  split at h
  ·rename_i q' hu
   cases (hk:IR w M (.int q n) kv)
   exact ⟨_,hu,by simpa [IsKey] using h⟩
  ·cases h
 | str s =>
  simp only [QgV] at h
  split at h
  ·rename_i hu
   cases (hk:IR w M (.str s) kv)
   exact ⟨_,hu,trivial⟩
  ·cases h
 | _=>simp only [QgV] at h; cases h
theorem QiS {kt:TypeId} {k:Lf} {kv:Value} (h:QgV P kt k=true) (hk:LR w M φ k kv):IR w M k kv:=by
 cases k with
 | int q n=>exact hk
 | str s=>exact hk
 | _=>simp only [QgV] at h; cases h
theorem QjM {k k':Lf} {kv kv':Value} {b:Bool} {d:TypeDesc} (h:kEq k k'=some b) (hk:IR w M k kv) (hk':IR w M k' kv') (hd:IsKey d kv):Instr.sameNow d kv kv'=some b∧(b=true→kv'=kv):=by
 unfold kEq at h
 split at h
 ·rename_i q x q' y
  cases hk
  cases hk'
  by_cases hq:q=q'
  ·subst hq
   rw [if_pos rfl] at h; cases h
   cases d <;> simp [IsKey] at hd
   subst hd
   refine ⟨by simp [Instr.sameNow],fun e=>?_⟩
   have:x=y:=by simpa using e
   rw [this]
  ·rw [if_neg hq] at h; cases h
 ·rename_i x y
  cases hk
  cases hk'
  cases h
  cases d <;> simp [IsKey] at hd
  refine ⟨by simp [Instr.sameNow],fun e=>?_⟩
  have:x=y:=(bytes_beq x y).1 e
  rw [this]
 ·cases h
theorem Qgz {k:Lf} {ks':List Lf} {b:Bool} {kv:Value} (h:kEqs [k] ks'=some b) (hk:KyR w M ks' kv):∃ k' c,ks'=[k']∧kEq k k'=some c∧b=c∧IR w M k' kv:=by
 cases ks' with
 | nil=>simp [kEqs] at h
 | cons k' r =>
  cases r with
  | nil =>
   simp only [kEqs] at h
   split at h
   ·rename_i a c h1 h2
    cases h2; cases h
    rcases hk with ⟨q,hq,hr⟩|⟨h2,_⟩
    ·cases hq; exact ⟨k',a,rfl,h1,by simp,hr⟩
    ·simp at h2
   ·cases h
  | cons x r =>
   simp only [kEqs] at h
   split at h
   ·rename_i a c h1 h2; cases h2
   ·cases h
theorem Qgp:∀ {us:List TypeDesc} {ks:List Lf} {vs:List Value},QaL us ks=true→Rs (LR w M φ) ks vs→Rs (IR w M) ks vs
 | _,[],[],_,_=>trivial
 | u :: us,k :: ks,v :: vs,hf,h=>by
  have key:IR w M k v∧QaL us ks=true:=by
   cases u with
   | int q =>
    cases k with
    | int q1 x =>
     simp only [QaL,Bool.and_eq_true] at hf
     exact ⟨h.1,hf.2⟩
    | _=>simp [QaL] at hf
   | string =>
    cases k with
    | str x =>
     simp only [QaL] at hf
     exact ⟨h.1,hf⟩
    | _=>simp [QaL] at hf
   | _=>simp [QaL] at hf
  exact ⟨key.1,Qgp key.2 h.2⟩
 | [],_ :: _,_,hf,_=>by simp [QaL] at hf
 | _,[],_ :: _,_,h=>h.elim
 | _,_ :: _,[],_,h=>h.elim
theorem Qi3 {k z v:Lf} {kv:Value} {d:TypeDesc} (hk:IR w M k kv) (hd:IsKey d kv):∀ {rs:List (List Lf)} {es:List MapEntry} {i:Nat},Rs (EntR w M) rs es→mpGet rs [k] z=some v →
  ∃ r,Instr.findNow d kv es i=some r∧((r=none∧v=z)∨∃ j u,r=some (j,u)∧IR w M v u)
 | [],[],i,_,h=>by
  simp only [mpGet] at h; cases h
  exact ⟨none,rfl,.inl ⟨rfl,rfl⟩⟩
 | _ :: rs,e :: es,i,hr,h=>by
  obtain ⟨⟨v',ks',rfl,h1,h2⟩,h3⟩:=hr
  simp only [mpGet] at h
  split at h
  ·rename_i hq
   cases h
   obtain ⟨k',b,rfl,hb,rfl,hk'⟩:=Qgz hq h2
   exact ⟨some (i,e.val),by simp [Instr.findNow,(QjM hb hk hk' hd).1],.inr ⟨i,e.val,rfl,h1⟩⟩
  ·rename_i hq
   obtain ⟨k',b,rfl,hb,rfl,hk'⟩:=Qgz hq h2
   have hs:=(QjM hb hk hk' hd).1
   have e1:Instr.findNow d kv (e :: es) i=Instr.findNow d kv es (i+1):=by simp [Instr.findNow,hs]
   rw [e1]
   exact Qi3 hk hd h3 h
  ·cases h
 | [],_ :: _,_,hr,_=>hr.elim
 | _ :: _,[],_,hr,_=>hr.elim
theorem Qi4 {k v:Lf} {kv vv:Value} {d:TypeDesc} (hk:IR w M k kv) (hv:IR w M v vv) (hd:IsKey d kv):∀ {rs R:List (List Lf)} {es:List MapEntry} {i:Nat},Rs (EntR w M) rs es→mpPut rs [k] v=some R →
  (Instr.findNow d kv es i=some none∧∀ b,Rs (EntR w M) R (es++[⟨kv,vv,b⟩])) ∨
  ∃ j u e,Instr.findNow d kv es i=some (some (i+j,u))∧es[j]?=some e∧e.key=kv∧Rs (EntR w M) R (es.set j { e with key:=kv,val:=vv })
 | [],R,[],i,_,h=>by
  simp only [mpPut] at h; cases h
  exact .inl ⟨rfl,fun b=>⟨⟨v,[k],rfl,hv,.inl ⟨k,rfl,hk⟩⟩,trivial⟩⟩
 | _ :: rs,R,e :: es,i,hr,h=>by
  obtain ⟨⟨v',ks',rfl,h1,h2⟩,h3⟩:=hr
  simp only [mpPut] at h
  split at h
  ·rename_i hq
   cases h
   obtain ⟨k',b,rfl,hb,rfl,hk'⟩:=Qgz hq h2
   obtain ⟨g1,g2⟩:=QjM hb hk hk' hd
   exact .inr ⟨0,e.val,e,by simp [Instr.findNow,g1],rfl,g2 rfl,⟨v,[k],rfl,hv,.inl ⟨k,rfl,hk⟩⟩,h3⟩
  ·rename_i hq
   obtain ⟨k',b,rfl,hb,rfl,hk'⟩:=Qgz hq h2
   have hs:=(QjM hb hk hk' hd).1
   have e1:Instr.findNow d kv (e :: es) i=Instr.findNow d kv es (i+1):=by simp [Instr.findNow,hs]
   rw [e1]
   cases hp:mpPut rs [k] v with
   | none=>rw [hp] at h; cases h
   | some R' =>
    rw [hp] at h; cases h
    rcases Qi4 hk hv hd (i:=i+1) h3 hp with ⟨q1,q2⟩|⟨j,u,e',q1,q2,q3,q4⟩
    ·exact .inl ⟨q1,fun b=>⟨⟨v',[k'],rfl,h1,.inl ⟨k',rfl,hk'⟩⟩,q2 b⟩⟩
    ·exact .inr ⟨j+1,u,e',by rw [q1,show i+1+j=i+(j+1) by omega],by simpa using q2,q3,⟨v',[k'],rfl,h1,.inl ⟨k',rfl,hk'⟩⟩,q4⟩
  ·cases h
 | [],_,_ :: _,_,hr,_=>hr.elim
 | _ :: _,_,[],_,hr,_=>hr.elim
theorem QfX:∀ {us:List TypeDesc} {ks ks':List Lf} {b:Bool},QaL us ks=true→kEqs ks ks'=some b→eqLfs us ks ks'=some b
 | [],[],[],b,_,h=>h
 | u :: us,k :: ks,k' :: ks',b,hf,h=>by
  simp only [kEqs] at h
  split at h
  ·rename_i a c h1 h2
   cases h
   have key:eqLf u k k'=some a∧QaL us ks=true:=by
    cases u with
    | int q =>
     cases k with
     | int q1 x =>
      simp only [QaL,Bool.and_eq_true,decide_eq_true_eq] at hf
      cases k' with
      | int q2 y =>
       simp only [kEq] at h1
       by_cases hq:q1=q2
       ·rw [if_pos hq] at h1; cases h1
        exact ⟨by simp [eqLf,hq,eqI],hf.2⟩
       ·rw [if_neg hq] at h1; cases h1
      | _=>simp [kEq] at h1
     | _=>simp [QaL] at hf
    | string =>
     cases k with
     | str x =>
      simp only [QaL] at hf
      cases k' with
      | str y=>simp only [kEq] at h1; cases h1; exact ⟨rfl,hf⟩
      | _=>simp [kEq] at h1
     | _=>simp [QaL] at hf
    | _=>simp [QaL] at hf
   simp only [eqLfs,key.1,QfX key.2 h2]
  ·cases h
 | [],_ :: _,_,_,hf,_=>by simp [QaL] at hf
 | _ :: _,[],_,_,hf,_=>by simp [QaL] at hf
 | [],[],_ :: _,_,_,h=>by simp [kEqs] at h
 | _ :: _,_ :: _,[],_,_,h=>by simp [kEqs] at h
theorem Qhi:∀ {ks ks':List Lf} {b:Bool},kEqs ks ks'=some b→ks.length=ks'.length
 | [],[],_,_=>rfl
 | k :: ks,k' :: ks',b,h=>by
  simp only [kEqs] at h
  split at h
  ·rename_i h1 h2; simp [Qhi h2]
  ·cases h
 | [],_ :: _,_,h=>by simp [kEqs] at h
 | _ :: _,[],_,h=>by simp [kEqs] at h
theorem QhE:∀ {us:List TypeDesc} {ks ks':List Lf} {vs vs':List Value},QaL us ks=true→kEqs ks ks'=some true→Rs (IR w M) ks vs→Rs (IR w M) ks' vs'→vs'=vs
 | [],[],[],vs,vs',_,_,h1,h2=>by
  cases vs with
  | nil=>cases vs' with
   | nil=>rfl
   | cons _ _=>exact h2.elim
  | cons _ _=>exact h1.elim
 | u :: us,k :: ks,k' :: ks',vs,vs',hf,h,h1,h2=>by
  cases vs with
  | nil=>exact h1.elim
  | cons v vs =>
   cases vs' with
   | nil=>exact h2.elim
   | cons v' vs' =>
    simp only [kEqs] at h
    split at h
    ·rename_i a c e1 e2
     have hac:a=true∧c=true:=by simpa using h
     obtain ⟨rfl,rfl⟩:=hac
     have key:v'=v∧QaL us ks=true:=by
      cases u with
      | int q =>
       cases k with
       | int q1 x =>
        simp only [QaL,Bool.and_eq_true,decide_eq_true_eq] at hf
        cases k' with
        | int q2 y =>
         simp only [kEq] at e1
         by_cases hq:q1=q2
         ·rw [if_pos hq] at e1
          have hxy:x=y:=by simpa using e1
          have g1:IR w M (.int q1 x) v:=h1.1
          have g2:IR w M (.int q2 y) v':=h2.1
          cases g1; cases g2
          exact ⟨by rw [hq,hxy],hf.2⟩
         ·rw [if_neg hq] at e1; cases e1
        | _=>simp [kEq] at e1
       | _=>simp [QaL] at hf
      | string =>
       cases k with
       | str x =>
        simp only [QaL] at hf
        cases k' with
        | str y =>
         simp only [kEq] at e1
         have hxy:x=y:=(bytes_beq x y).1 (by simpa using e1)
         have g1:IR w M (.str x) v:=h1.1
         have g2:IR w M (.str y) v':=h2.1
         cases g1; cases g2
         exact ⟨by rw [hxy],hf⟩
        | _=>simp [kEq] at e1
       | _=>simp [QaL] at hf
      | _=>simp [QaL] at hf
     rw [key.1,QhE key.2 e2 h1.2 h2.2]
    ·cases h
 | [],_ :: _,_,_,_,hf,_,_,_=>by simp [QaL] at hf
 | _ :: _,[],_,_,_,hf,_,_,_=>by simp [QaL] at hf
 | [],[],_ :: _,_,_,_,h,_,_=>by simp [kEqs] at h
 | _ :: _,_ :: _,[],_,_,_,h,_,_=>by simp [kEqs] at h
theorem QfW {n:Nat}:∀ {us:List TypeDesc} {ks:List Lf} {vs:List Value},QaL us ks=true→Rs (IR w M) ks vs→((vs.zip vs).all fun (x,y)=>Instr.sameBits n x y)=true
 | [],[],vs,_,h1=>by
  cases vs with
  | nil=>rfl
  | cons _ _=>exact h1.elim
 | u :: us,k :: ks,vs,hf,h1=>by
  cases vs with
  | nil=>exact h1.elim
  | cons v vs =>
   have key:Instr.sameBits n v v=true∧QaL us ks=true:=by
    cases u with
    | int q =>
     cases k with
     | int q1 x =>
      simp only [QaL,Bool.and_eq_true,decide_eq_true_eq] at hf
      have g1:IR w M (.int q1 x) v:=h1.1
      cases g1
      exact ⟨by cases n <;> simp [Instr.sameBits],hf.2⟩
     | _=>simp [QaL] at hf
    | string =>
     cases k with
     | str x =>
      simp only [QaL] at hf
      have g1:IR w M (.str x) v:=h1.1
      cases g1
      exact ⟨by cases n <;> simp [Instr.sameBits,bytes_beq],hf⟩
     | _=>simp [QaL] at hf
    | _=>simp [QaL] at hf
   have ih:=QfW (n:=n) key.2 h1.2
   simp only [List.zip_cons_cons,List.all_cons,key.1,ih,Bool.and_self]
 | [],_ :: _,_,hf,_=>by simp [QaL] at hf
 | _ :: _,[],_,hf,_=>by simp [QaL] at hf
theorem QfC {em:Bool} {n:Nat} {t:TypeId} {fs:Array Field} {us:List TypeDesc} {ks:List Lf} {vs:List Value} (hu:P.underlying t=some (.struct fs)) (hfl:flatU P 0 fs.toList=some us) (hf:QaL us ks=true) (hr:Rs (LR w M φ) ks vs) :
  (Instr.checkKey em (n+2) t (.agg vs.toArray)).run P w=.ok () w:=by
 rw [Instr.checkKey]
 simp only [Sem.run_bind,run_underlying hu,Result.andThen_ok]
 rw [← Array.forIn_toList]
 generalize fs.toList=L at hfl
 have hr0:Rs (LR w M φ) ks (vs.drop 0):=hr
 clear hr hu
 generalize 0=k at hfl hr0
 induction L generalizing k us ks with
 | nil=>simp
 | cons f L ih =>
  simp only [flatU] at hfl
  cases hc:(f.offset == k&&!(f.name == "_")&&(trow P f.type == some false)) with
  | false=>rw [hc] at hfl; cases hfl
  | true =>
   rw [hc] at hfl
   simp only [cond_true] at hfl
   simp only [Bool.and_eq_true,beq_iff_eq,Bool.not_eq_true',beq_eq_false_iff_ne] at hc
   obtain ⟨⟨hoff,hname⟩,hrow⟩:=hc
   split at hfl
   ·rename_i u us' hu hus
    cases hfl
    cases ks with
    | nil=>simp [QaL] at hf
    | cons x ks =>
     obtain ⟨v1,hv1,hr1⟩:=hr0.get (i:=0) rfl
     have hr2:Rs (LR w M φ) ks (vs.drop (k+1)):=by have:=hr0.drop 1; simpa [List.drop_drop,Nat.add_comm] using this
     have hp:=QcD (P:=P) (w:=w) hrow (vs:=vs.toArray) (k:=f.offset) (v:=v1) (by rw [hoff]; simpa using hv1)
     have key:(Instr.checkKey em (n+1) f.type v1).run P w=.ok () w∧QaL us' ks=true:=by
      cases u with
      | int q =>
       cases x with
       | int q1 y =>
        simp only [QaL,Bool.and_eq_true,decide_eq_true_eq] at hf
        have g1:IR w M (.int q1 y) v1:=hr1
        cases g1
        exact ⟨by simp [Instr.checkKey,run_underlying hu],hf.2⟩
       | _=>simp [QaL] at hf
      | string =>
       cases x with
       | str y =>
        simp only [QaL] at hf
        have g1:IR w M (.str y) v1:=hr1
        cases g1
        exact ⟨by simp [Instr.checkKey,run_underlying hu],hf⟩
       | _=>simp [QaL] at hf
      | _=>simp [QaL] at hf
     simp only [List.forIn_cons,Sem.run_bind,hname,ne_eq,not_false_eq_true,if_true,Result.andThen_ok,hp,key.1,Sem.run_pure]
     exact ih key.2 (k+1) hus hr2
   ·cases hfl
theorem QgS {d:Nat} {t:TypeId} {fs:Array Field} {us:List TypeDesc} {xs ys:List Lf} {vx vy:List Value} {e:Bool} (hu:P.underlying t=some (.struct fs)) (hst:P.stoodInHeld t=false) (hfl:flatU P 0 fs.toList=some us)
  (he:eqLfs us xs ys=some e) (hrx:Rs (LR w M φ) xs vx) (hry:Rs (LR w M φ) ys vy):(Op.equalIn (d+1+1) t (.agg vx.toArray) (.agg vy.toArray)).run P w=.ok e w:=by
 have h3:=Qhd (P:=P) (w:=w) (M:=M) (φ:=φ) (d:=d) fs.toList 0 us xs ys e hfl he hrx hry
 rw [Array.forIn_toList] at h3
 unfold Op.equalIn
 simp only [Sem.run_bind,run_underlying hu,Result.andThen_ok,run_program,hst]
 simp only [Bool.false_eq_true,if_false,Sem.run_bind,Sem.run_pure,Result.andThen_ok]
 refine Eq.trans (congrArg (fun z=>Result.andThen z _) h3) ?_
 cases e <;> simp
theorem QhM {t:TypeId} {fs:Array Field} {us:List TypeDesc} {ks:List Lf} {z v:Lf} {vs:List Value} (hu:P.underlying t=some (.struct fs)) (hst:P.stoodInHeld t=false) (hfl:flatU P 0 fs.toList=some us) (hf:QaL us ks=true)
  (h2:2≤ks.length) (hr:Rs (IR w M) ks vs):∀ {rs:List (List Lf)} {es:List MapEntry} {i:Nat},Rs (EntR w M) rs es→mpGet rs ks z=some v →
  ∃ r,(Instr.findAsking t (.agg vs.toArray) es i).run P w=.ok r w∧((r=none∧v=z)∨∃ j u,r=some (j,u)∧IR w M v u)
 | [],[],i,_,h=>by
  simp only [mpGet] at h; cases h
  exact ⟨none,by simp [Instr.findAsking],.inl ⟨rfl,rfl⟩⟩
 | _ :: rs,e :: es,i,hre,h=>by
  obtain ⟨⟨v',ks',rfl,g1,g2⟩,g3⟩:=hre
  have hkey:∀ {b:Bool},kEqs ks ks'=some b→(Op.equal t (.agg vs.toArray) e.key).run P w=.ok b w:=by
   intro b hb
   rcases g2 with ⟨k,rfl,_⟩|⟨_,vs',hk',hr'⟩
   ·have:=Qhi hb; simp at this; omega
   ·rw [hk']
    exact QgS (M:=M) (φ:=fun _=>none) (d:=9998) hu hst hfl (QfX hf hb) (Rs.mono (fun _ _ h=>IR.lr h) hr) (Rs.mono (fun _ _ h=>IR.lr h) hr')
  simp only [mpGet] at h
  split at h
  ·rename_i hq
   cases h
   exact ⟨some (i,e.val),by simp [Instr.findAsking,hkey hq],.inr ⟨i,e.val,rfl,g1⟩⟩
  ·rename_i hq
   obtain ⟨r,q1,q2⟩:=QhM hu hst hfl hf h2 hr (i:=i+1) g3 h
   exact ⟨r,by simp [Instr.findAsking,hkey hq,q1],q2⟩
  ·cases h
 | [],_ :: _,_,hr,_=>hr.elim
 | _ :: _,[],_,hr,_=>hr.elim
theorem QhN {t:TypeId} {fs:Array Field} {us:List TypeDesc} {ks:List Lf} {v:Lf} {vs:List Value} {vv:Value} (hu:P.underlying t=some (.struct fs)) (hst:P.stoodInHeld t=false) (hfl:flatU P 0 fs.toList=some us) (hf:QaL us ks=true)
  (h2:2≤ks.length) (hr:Rs (IR w M) ks vs) (hv:IR w M v vv):∀ {rs R:List (List Lf)} {es:List MapEntry} {i:Nat},Rs (EntR w M) rs es→mpPut rs ks v=some R →
  ((Instr.findAsking t (.agg vs.toArray) es i).run P w=.ok none w∧∀ b,Rs (EntR w M) R (es++[⟨.agg vs.toArray,vv,b⟩])) ∨
  ∃ j u e,(Instr.findAsking t (.agg vs.toArray) es i).run P w=.ok (some (i+j,u)) w∧es[j]?=some e∧e.key=.agg vs.toArray∧Rs (EntR w M) R (es.set j { e with key:=.agg vs.toArray,val:=vv })
 | [],R,[],i,_,h=>by
  simp only [mpPut] at h; cases h
  exact .inl ⟨by simp [Instr.findAsking],fun b=>⟨⟨v,ks,rfl,hv,.inr ⟨h2,vs,rfl,hr⟩⟩,trivial⟩⟩
 | _ :: rs,R,e :: es,i,hre,h=>by
  obtain ⟨⟨v',ks',rfl,g1,g2⟩,g3⟩:=hre
  have hkey:∀ {b:Bool},kEqs ks ks'=some b→(Op.equal t (.agg vs.toArray) e.key).run P w=.ok b w∧(b=true→e.key=.agg vs.toArray):=by
   intro b hb
   rcases g2 with ⟨k,rfl,_⟩|⟨_,vs',hk',hr'⟩
   ·have:=Qhi hb; simp at this; omega
   ·rw [hk']
    exact ⟨QgS (M:=M) (φ:=fun _=>none) (d:=9998) hu hst hfl (QfX hf hb) (Rs.mono (fun _ _ h=>IR.lr h) hr) (Rs.mono (fun _ _ h=>IR.lr h) hr'),fun hbt=>by subst hbt; rw [QhE hf hb hr hr']⟩
  simp only [mpPut] at h
  split at h
  ·rename_i hq
   cases h
   exact .inr ⟨0,e.val,e,by simp [Instr.findAsking,(hkey hq).1],rfl,(hkey hq).2 rfl,⟨v,ks,rfl,hv,.inr ⟨h2,vs,rfl,hr⟩⟩,g3⟩
  ·rename_i hq
   cases hp:mpPut rs ks v with
   | none=>rw [hp] at h; cases h
   | some R' =>
    rw [hp] at h; cases h
    rcases QhN hu hst hfl hf h2 hr hv (i:=i+1) g3 hp with ⟨q1,q2⟩|⟨j,u,e',q1,q2,q3,q4⟩
    ·exact .inl ⟨by simp [Instr.findAsking,(hkey hq).1,q1],fun b=>⟨⟨v',ks',rfl,g1,g2⟩,q2 b⟩⟩
    ·exact .inr ⟨j+1,u,e',by simp [Instr.findAsking,(hkey hq).1,q1]; omega,by simpa using q2,q3,⟨v',ks',rfl,g1,g2⟩,q4⟩
  ·cases h
 | [],_,_ :: _,_,hr,_=>hr.elim
 | _ :: _,_,[],_,hr,_=>hr.elim
structure Qk5 (P:Program) (w:World) (M:Nat→Prop) (kt:TypeId) (ks:List Lf) (kv:Value):Prop where
 check:∀ em,(Instr.checkKey em 10000 kt kv).run P w=.ok () w
 stays:(Instr.keyThatStays kv kv).run P w=.ok kv w
 get:∀ {rs:List (List Lf)} {es:List MapEntry} {z v:Lf},Rs (EntR w M) rs es→mpGet rs ks z=some v→∃ r,(Instr.findKey kt kv es).run P w=.ok r w∧((r=none∧v=z)∨∃ j u,r=some (j,u)∧IR w M v u)
 put:∀ {rs R:List (List Lf)} {es:List MapEntry} {v:Lf} {vv:Value},IR w M v vv→Rs (EntR w M) rs es→mpPut rs ks v=some R →
  ((Instr.findKey kt kv es).run P w=.ok none w∧∀ b,Rs (EntR w M) R (es++[⟨kv,vv,b⟩])) ∨
  ∃ j u e,(Instr.findKey kt kv es).run P w=.ok (some (j,u)) w∧es[j]?=some e∧e.key=kv∧Rs (EntR w M) R (es.set j { e with key:=kv,val:=vv })
theorem QiT {kt:TypeId} {kc:Cm} {kv:Value} (h:Qib P kt kc=true) (hk:CR w M φ kc kv):Qk5 P w M kt kc.cells kv:=by
 cases kc with
 | one k =>
  have h':QgV P kt k=true:=h
  have hk0:LR w M φ k kv:=hk
  obtain ⟨d,hd,hkd⟩:=QjN h' hk0
  have hi:=QiS h' hk0
  refine ⟨fun em=>Go.MapKept.run_checkKey hd hkd em 9999,Go.MapKept.run_keyThatStays hkd,fun hr hg=>?_,fun hv hr hg=>?_⟩
  ·obtain ⟨r,q1,q2⟩:=Qi3 hi hkd (i:=0) hr hg
   exact ⟨r,Go.MapKept.run_findKey hd q1,q2⟩
  ·rcases Qi4 hi hv hkd (i:=0) hr hg with ⟨q1,q2⟩|⟨j,u,e,q1,q2,q3,q4⟩
   ·exact .inl ⟨Go.MapKept.run_findKey hd q1,q2⟩
   ·rw [Nat.zero_add] at q1
    exact .inr ⟨j,u,e,Go.MapKept.run_findKey hd q1,q2,q3,q4⟩
 | agg ks =>
  simp only [Qib,Bool.and_eq_true] at h
  obtain ⟨h2,h3⟩:=h
  have h2':2≤ks.length:=Nat.le_of_ble_eq_true h2
  split at h3
  ·rename_i us hus
   have hflat:∃ fs,P.underlying kt=some (.struct fs)∧P.stoodInHeld kt=false∧flatU P 0 fs.toList=some us:=by
    unfold flatT at hus
    split at hus
    ·rename_i fs hu
     cases hc:(!P.stoodInHeld kt&&!P.eqGuardType P.depth kt) with
     | false=>rw [hc] at hus; cases hus
     | true =>
      rw [hc] at hus
      simp only [Bool.and_eq_true,Bool.not_eq_true'] at hc
      exact ⟨fs,hu,hc.1,hus⟩
    ·cases hus
   obtain ⟨fs,hu,hst,hfl⟩:=hflat
   obtain ⟨vs,rfl,hr⟩:=hk
   have hri:Rs (IR w M) ks vs:=Qgp h3 hr
   have hfk:∀ es:List MapEntry,(Instr.findKey kt (.agg vs.toArray) es).run P w=(Instr.findAsking kt (.agg vs.toArray) es).run P w:=fun es=>run_findKey_eq w (by rw [hu]) _ es
   refine ⟨fun em=>QfC (n:=9998) hu hfl h3 hr,?_,fun hre hg=>?_,fun hv hre hg=>?_⟩
   ·unfold Instr.keyThatStays
    have:Instr.sameBits 10000 (.agg vs.toArray) (.agg vs.toArray)=true:=by
     simp only [Instr.sameBits,beq_self_eq_true,Bool.true_and]
     exact QfW (n:=9999) h3 hri
    rw [if_pos this]; rfl
   ·rw [hfk]; exact QhM hu hst hfl h3 h2' hri hre hg
   ·rw [hfk]
    rcases QhN hu hst hfl h3 h2' hri hv (i:=0) hre hg with q|⟨j,u,e,q1,q2,q3,q4⟩
    ·exact .inl q
    ·rw [Nat.zero_add] at q1
     exact .inr ⟨j,u,e,q1,q2,q3,q4⟩
  ·cases h3
theorem QgX {id:Nat} {ob:Ob} {rs:List (List Lf)} (hO:OR w M φ id ob) (hm:Qgr ob.rows=some rs) (hbx:ob.box=true):∃ b es clk,φ id=some (some (b,1))∧w.heap[b]?=some (.map es clk)∧Rs (EntR w M) rs es.toList∧ob.rows=[] :: [] :: rs:=by
 rcases hO with ⟨h0,hO⟩|hO
 ·exfalso
  obtain ⟨b,hφ⟩:=(show OR w M φ id ob from .inl ⟨h0,hO⟩).boxed hbx
  rw [hφ] at hO
  obtain ⟨cur,g1,g2,g3,g4,g5,g6⟩:=hO
  unfold Qgr at hm
  split at hm
  ·rename_i r hr
   rw [hr] at g3
   simp at g3
  ·cases hm
 ·obtain ⟨-,rs',b,es,clk,h1,h2,h3,h4⟩:=hO
  rw [h1] at hm
  cases hm
  exact ⟨b,es,clk,h2,h3,h4,h1⟩
theorem Qk3 {t:TypeId} {z:Lf} (h:zeroV P t=some z):∃ zv,(∀ w,(zeroValue t).run P w=.ok zv w)∧LR w M φ z zv:=by
 unfold zeroV at h
 split at h
 ·rename_i i hi
  split at h
  ·rename_i zv hz
   exact ⟨zv,fun w=>by simp [zeroValue,typeInfo,hi,hz],Qf1 h⟩
  ·cases h
 ·cases h
theorem Qh1 (hob:allP r.obs) (hg:g) (hF:∀ t,AR w M φ (L t) (a.tmps.getD t undef)) (hW:Wd Γ φ M hD w) (hsub:∀ id ob,h id=some ob→hD id=some ob)
  (hfr:∀ id,base≤id→id<base+r.news.length→φ id=none∧hD id=none) (hf:QjH P h base g L o.op hs=some r):Yd P Γ φ M hD w base r ((execOp a.eval o).run P w):=by
 unfold QjH at hf
 split at hf
 ·rename_i t ho
  split at hf
  ·rename_i kt vt hu
   cases hf
   have hf0:=hfr base (Nat.le_refl _) (by simp)
   have hb:=QcQ w (.map #[] 0)
   refine Yd.new (v:=.map (some w.heap.size)) (w':=w.alloc (.map #[] 0)) (b:=w.heap.size) (C:=1) ?_ rfl hW hfr hb (Nat.le_refl _) (by simp) ?_ ⟨w.heap.size,QaS _ _ _,rfl⟩
   ·simp [execOp,ho,Instr.makeMap]
   ·exact .inr ⟨rfl,[],w.heap.size,#[],0,rfl,QaS _ _ _,(heap_alloc w _).1,trivial⟩
  ·cases hf
 ·rename_i t x i ho
  split at hf
  ·rename_i kt vt id o1 k o2 v hs' hu h1 h2
   split at hf
   ·rename_i ob z hid hz
    split at hf
    ·rename_i rs hm
     cases hc:(ob.box&&Qib P kt k) with
     | false=>rw [hc] at hf; cases hf
     | true =>
      rw [hc] at hf; cases hf
      rw [Bool.and_eq_true] at hc
      simp only [Qag,allP] at hob
      obtain ⟨b,hφ,hv⟩:LR0 w M φ (.mp id) (a.eval x):=Qat hF h1 hob.1.1 hg
      have hk:CR w M φ k (a.eval i):=Qat hF h2 hob.1.2 hg
      have hkr:=QiT hc.2 hk
      obtain ⟨b',es,clk,g1,g2,g3,-⟩:=QgX (hW.obs id ob (hsub id ob hid)) hm hc.1
      rw [hφ] at g1; cases g1
      obtain ⟨zv,hz1,hz2⟩:=Qk3 (M:=M) (φ:=φ) (w:=w) hz
      have hck:=hkr.check es.isEmpty
      obtain ⟨r,q1,q2⟩:=hkr.get g3 hob.2.1
      rcases q2 with ⟨rfl,rfl⟩|⟨j,u,rfl,q2⟩
      ·refine Yd.val (v:=zv) ?_ rfl hz2 hW
       simp [execOp,ho,hv,Instr.lookup,run_underlying hu,Go.MapKept.run_getObj_map g2,hck,q1,hz1,Result.andThen]
      ·refine Yd.val (v:=u) ?_ rfl (IR.lr q2:LR w M φ v u) hW
       simp [execOp,ho,hv,Instr.lookup,run_underlying hu,Go.MapKept.run_getObj_map g2,hck,q1,Result.andThen]
    ·cases hf
   ·cases hf
  ·cases hf
 ·cases hf
end
end Go.Proofs.YtpkkaboonnedfaaDoor
namespace Go.Proofs.YtpkkaboonnedfaaDoor
set_option linter.unusedSimpArgs false
set_option linter.unusedVariables false
set_option linter.unusedSectionVars false
open Go.RowKit
section
variable {P : Program} {Γ : Gam} {φ : Pl} {M : Nat → Prop} {hD h : Nat → Option Ob} {w : World} {base : Nat} {L : Nat → AV} {a : Act} {g : Prop} {hs : List Hint} {r : Res} {o : Oper}
theorem Qfm {c:Call} {b:Builtin} (ho:o.op=.call c) (hc:c.callee=.builtin b):∃ cn,(execOp a.eval o).run P w=(builtin b c.argTypes o.type cn (c.args.map a.eval)).run P w:=by
 refine ⟨c.args.map fun|.const _=>true|_=>false,?_⟩
 simp only [execOp,ho,resolve,hc,Sem.run_bind,Sem.run_pure,Result.andThen_ok,invoke]
 rfl
theorem Rs.args2 {c1 c2:Cm} {vs:List Value} (h:Rs (CR w M φ) [c1,c2] vs):∃ v1 v2,vs=[v1,v2]∧CR w M φ c1 v1∧CR w M φ c2 v2:=by
 match vs,h with
 | [v1,v2],h=>exact ⟨v1,v2,rfl,h.1,h.2.1⟩
theorem Rs.args1 {c1:Cm} {vs:List Value} (h:Rs (CR w M φ) [c1] vs):∃ v1,vs=[v1]∧CR w M φ c1 v1:=by
 match vs,h with
 | [v1],h=>exact ⟨v1,rfl,h.1⟩
theorem Qg2 (hob:allP r.obs) (hg:g) (hF:∀ t,AR w M φ (L t) (a.tmps.getD t undef)) (hW:Wd Γ φ M hD w) (hsub:∀ id ob,h id=some ob→hD id=some ob) {c:Call} {b:Builtin} (ho:o.op=.call c) (hc:c.callee=.builtin b) (hf:fop P h base g L o.op hs=some r)
  (hfr:∀ id,base≤id→id<base+r.news.length→φ id=none∧hD id=none):Yd P Γ φ M hD w base r ((execOp a.eval o).run P w):=by
 rw [ho] at hf
 simp only [fop,hc] at hf
 split at hf
 ·rename_i args o1 h1
  cases hb:Qde P h base b args c.argTypes.toList hs with
  | none=>rw [hb] at hf; cases hf
  | some r0 =>
   rw [hb] at hf; cases hf
   simp only [Qag] at hob
   have hA:=Qdu hF hg h1 hob.1
   have hargs:c.args.map a.eval=(c.args.toList.map a.eval).toArray:=by apply Array.ext'; simp
   have htys:c.argTypes=c.argTypes.toList.toArray:=by simp
   obtain ⟨cn,hrun⟩:=Qfm (P:=P) (w:=w) (a:=a) ho hc
   rw [hargs,htys] at hrun
   generalize hvs:c.args.toList.map a.eval=vs at hA hrun
   generalize htt:c.argTypes.toList=tys at hb hrun
   have key:∀ r1:Res,r1=r0→Yd P Γ φ M hD w base r0 ((execOp a.eval o).run P w)→Yd P Γ φ M hD w base ⟨r0.v,r0.news,o1++r0.obs,r0.hs⟩ ((execOp a.eval o).run P w):=fun _ _ h=>h
   refine key r0 rfl ?_
   by_cases hap:b=.append
   ·subst hap
    have hb':=hb
    unfold Qde at hb'
    split at hb'
    all_goals first|(rename_i hq; cases hq; done)|skip
    ·rename_i kx n t t' _
     obtain ⟨vd,vx,rfl,hd,hx⟩:=hA.args2
     refine Qfo (h:=h) (ty:=o.type) hg hW hb hob.2 hd hx (fun v w' hr=>?_) hfr
     rw [hrun]
     simp only [builtin,Sem.run_bind]
     have hr':(Builtin.append_ #[t,t'] o.type #[vd,vx]).run P w=.ok v w':=hr
     rw [show [t,t'].toArray=#[t,t'] from rfl,show [vd,vx].toArray=#[vd,vx] from rfl,hr']
     rfl
    ·rename_i d x t t' _ _
     obtain ⟨vd,vx,rfl,hd,hx⟩:=hA.args2
     refine Qf9 (h:=h) (tys:=[t']) (ty:=o.type) hg hW hsub hb' hob.2 hd hx (fun v w' hr=>?_) hfr
     rw [hrun]
     simp only [builtin,Sem.run_bind]
     have hr':(Builtin.append_ #[t,t'] o.type #[vd,vx]).run P w=.ok v w':=hr
     rw [show [t,t'].toArray=#[t,t'] from rfl,show [vd,vx].toArray=#[vd,vx] from rfl,hr']
     rfl
    ·cases hb'
   ·unfold Qde at hb
    split at hb
    ·rename_i l t
     obtain ⟨v,rfl,hl⟩:=hA.args1
     have fin:∀ n:Int,(Builtin.len_ #[t] o.type #[v]).run P w=.ok (.int .i64 n) w→r0.v=one (.int .i64 n)→r0.news=[]→Yd P Γ φ M hD w base r0 ((execOp a.eval o).run P w):=fun n h1 h2 h3=>by
      refine Yd.val (v:=.int .i64 n) ?_ h3 (by rw [h2]; exact IR.int _ _) hW
      rw [hrun]
      simp only [builtin,Sem.run_bind]
      rw [show [t].toArray=#[t] from rfl,show [v].toArray=#[v] from rfl,h1]
      rfl
     split at hb
     ·rename_i s hu; cases hb
      have hl':IR w M (.str s) v:=hl
      cases hl'
      exact fin _ (by simp [Builtin.len_,run_underlying hu,goInt,sizeS]) rfl rfl
     ·rename_i e hu; cases hb
      have hl':IR w M .nils v:=hl
      cases hl'
      exact fin _ (by simp [Builtin.len_,run_underlying hu,goInt]) rfl rfl
     ·rename_i id sz off len e hu
      split at hb
      ·rename_i n hs'
       cases hb
       obtain ⟨rfl,-⟩:=hob.2
       have hl':LR0 w M φ (.os id sz off len) v:=hl
       rcases hl' with ⟨b,C,hφ,rfl,hle⟩|⟨hφ,_,rfl,A,rfl⟩
       ·exact fin _ (by simp [Builtin.len_,run_underlying hu,goInt]) rfl rfl
       ·exact fin _ (by simp [Builtin.len_,run_underlying hu,goInt]) rfl rfl
      ·cases hb
     ·rename_i cl sz rows e hu
      split at hb
      ·rename_i n hs'
       cases hb
       obtain ⟨rfl,-⟩:=hob.2
       have hl':IR w M (.sl cl sz rows) v:=hl
       cases hl' with
       | sl0=>exact fin _ (by simp [Builtin.len_,run_underlying hu,goInt]) rfl rfl
       | sl=>exact fin _ (by simp [Builtin.len_,run_underlying hu,goInt]) rfl rfl
      ·cases hb
     ·cases hb
    ·rename_i t
     obtain ⟨v,rfl,hl⟩:=hA.args1
     split at hb
     ·rename_i e hu; cases hb
      have hl':IR w M .nils v:=hl
      cases hl'
      refine Yd.val (v:=.int .i64 0) ?_ rfl (IR.int _ _) hW
      rw [hrun]
      simp [builtin,Builtin.cap_,run_underlying hu,goInt]
     ·cases hb
    ·rename_i k p k' q
     cases hb
     obtain ⟨v1,v2,rfl,e1,e2⟩:=hA.args2
     have e1':IR w M (.int k p) v1:=e1
     have e2':IR w M (.int k' q) v2:=e2
     cases e1'; cases e2'
     refine Yd.val (v:=.int k (maxI p q)) ?_ rfl (IR.int _ _) hW
     rw [hrun]
     simp [builtin,Builtin.max_,Builtin.max2,List.foldlM,maxI]
    ·rename_i k p k' q
     cases hb
     obtain ⟨v1,v2,rfl,e1,e2⟩:=hA.args2
     have e1':IR w M (.int k p) v1:=e1
     have e2':IR w M (.int k' q) v2:=e2
     cases e1'; cases e2'
     refine Yd.val (v:=.int k (minI p q)) ?_ rfl (IR.int _ _) hW
     rw [hrun]
     simp [builtin,Builtin.min_,Builtin.min2,List.foldlM,minI]
    ·exact absurd rfl hap
    ·exact absurd rfl hap
    ·cases hb
 ·cases hf
theorem QfH (hf:fop P h base g L o.op hs=some r) (hob:allP r.obs) (hg:g) (hF:∀ t,AR w M φ (L t) (a.tmps.getD t undef)) (hW:Wd Γ φ M hD w) (hsub:∀ id ob,h id=some ob→hD id=some ob)
  (hfr:∀ id,base≤id→id<base+r.news.length→φ id=none∧hD id=none):Yd P Γ φ M hD w base r ((execOp a.eval o).run P w):=by
 cases ho:o.op with
 | move x=>rw [ho] at hf; exact Qg5 hob hg hF hW (.inl ho) hf
 | assign x=>rw [ho] at hf; exact Qg5 (h:=h) (hs:=hs) hob hg hF hW (.inr ho) (by simpa only [fop] using hf)
 | pick c x y=>exact Qjv hob hg hF hW ho hf
 | alloc e=>exact Qih hob hg hF hW ho hf hfr
 | box e x=>exact Qj2 hob hg hF hW ho hf hfr
 | build t ps=>exact Qij hob hg hF hW ho hf
 | buildSlice t n ps=>exact Qga hob hg hF hW ho hf hfr
 | load t x=>exact Qju ho hf hob hg hF hW hsub
 | nilCheck x=>exact QgJ hob hg hF hW ho hf
 | binOp op t x y u =>
  rw [ho] at hf; simp only [fop] at hf
  split at hf
  ·rename_i r1 h1; cases hf; exact Qii hob hg hF hW ho h1
  ·exact Qj3 hob hg hF hW ho hf
 | unOp u t x=>exact Qjw hob hg hF hW ho hf
 | convert s d x=>exact Qg3 hob hg hF hW hsub ho hf
 | makeFunc f first caps=>exact QgI hob hg hF hW ho hf
 | makeSlice t x y=>exact Qgi hob hg hF hW ho hf hfr
 | slice t x lo hi mx=>exact Qim hob hg hF hW ho hf
 | fieldAddr t x f=>exact Qgg hob hg hF hW ho hf
 | field t x f=>exact Qik hob hg hF hW ho hf
 | indexAddr t x i=>exact Qgh hob hg hF hW ho hf
 | index t x i=>exact Qil hob hg hF hW ho hf
 | extract x i=>exact Qg4 hob hg hF hW ho hf
 | call c =>
  cases hc:c.callee with
  | builtin b=>exact Qg2 hob hg hF hW hsub ho hc hf hfr
  | value f=>rw [ho] at hf; simp only [fop,hc] at hf; cases hf
  | invoke x m=>rw [ho] at hf; simp only [fop,hc] at hf; cases hf
 | makeMap t q=>exact Qh1 hob hg hF hW hsub hfr (by rw [ho] at hf ⊢; exact hf)
 | lookup t x i q=>exact Qh1 hob hg hF hW hsub hfr (by rw [ho] at hf ⊢; exact hf)
 | _=>rw [ho] at hf; simp only [fop,QjH] at hf; cases hf
end
end Go.Proofs.YtpkkaboonnedfaaDoor
