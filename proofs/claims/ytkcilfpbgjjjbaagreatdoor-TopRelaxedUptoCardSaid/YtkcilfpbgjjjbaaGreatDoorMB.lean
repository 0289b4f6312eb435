/- Part MB. -/
import Derived.Test.YtkcilfpbgjjjbaaGreatDoorMI
import Derived.Test.YtkcilfpbgjjjbaaGreatDoorMA
import Derived.IntWalk
import Derived.MapKept
import Derived.WideKeyRuns
set_option linter.unusedSimpArgs false
set_option linter.unusedVariables false
set_option linter.unusedSectionVars false
namespace Go.Proofs.YtkcilfpbgjjjbaaGreatDoor
section
open Go.RowKit
def NQ:Exit->Act->World->Prop:=λ_ _ _=>False
theorem Qek{P:Program}{o:Oper}{a:Act}{w:World}{K K':Act->World->Prop}{Q:Exit->Act->World->Prop}(h:∀a w,K a w->K' a w)(hh:o.wp P a w K NQ):o.wp P a w K' Q:=by
 unfold Oper.wp at *;generalize(execOp a.eval o).run P w=r at *;cases r with
 |ok nx w' =>
  cases nx <;> simp only[Oper.upon]at hh ⊢ <;>
   first
    |exact h _ _ hh
    | exact Calls.mono hh (λe w'' he=>by
      cases e with
      |returned v=>exact h _ _ he
      |panicked c=>exact he.elim
      |outgrown=>obtain⟨_,_,hf⟩:=he;exact hf.elim)
    |exact Rows.mono hh (λ_ _ he=>h _ _ he)
 |halt x w'=>cases x <;> simp only[Oper.upon]at hh ⊢ <;> exact hh.elim
section
variable {α β γ : Type} {R R' : α -> β -> Prop}
theorem Rs.len:∀{xs:List α} {ys:List β},Rs R xs ys->xs.length=ys.length
 | [],[],_=>rfl
 |_ ::xs,_ ::ys,h=>by simp only[QaA];rw[Rs.len h.2]
 | [],_ ::_,h=>h.elim
 |_ ::_,[],h=>h.elim
theorem Rs.get:∀{xs:List α} {ys:List β} {i:Nat} {x:α},Rs R xs ys->xs[i]?=some x->∃y,ys[i]?=some y/\R x y
 | [],_,_,_,_,h=>by simp at h
 |_ ::_,[],_,_,h,_=>h.elim
 |x ::xs,y ::ys,0,_,h,e=>by simp at e;subst e;exact⟨y,rfl,h.1⟩
 |x ::xs,y ::ys,i+1,_,h,e=>by
  obtain⟨z,hz,hr⟩:=Rs.get (i:=i) h.2 (by simpa using e)
  exact⟨z,by simpa using hz,hr⟩
theorem Rs.mono(hR:∀x y,R x y->R' x y):∀{xs:List α} {ys:List β},Rs R xs ys->Rs R' xs ys
 | [],[],_=>trivial
 |_ ::_,_ ::_,h=>⟨hR _ _ h.1,Rs.mono hR h.2⟩
 | [],_ ::_,h=>h.elim
 |_ ::_,[],h=>h.elim
theorem Rs.append:∀{xs xs':List α} {ys ys':List β},Rs R xs ys->Rs R xs' ys'->Rs R (xs++xs') (ys++ys')
 | [],_,[],_,_,h=>h
 |_ ::_,_,_ ::_,_,h,h'=>⟨h.1,Rs.append h.2 h'⟩
 | [],_,_ ::_,_,h,_=>h.elim
 |_ ::_,_,[],_,h,_=>h.elim
theorem Rs.take:∀(n:Nat) {xs:List α} {ys:List β},Rs R xs ys->Rs R (xs.take n) (ys.take n)
 |0,_,_,_=>by simp [Rs]
 |n+1,[],[],_=>by simp [Rs]
 |n+1,_ ::_,_ ::_,h=>⟨h.1,Rs.take n h.2⟩
 |_,[],_ ::_,h=>h.elim
 |_,_ ::_,[],h=>h.elim
theorem Rs.drop:∀(n:Nat) {xs:List α} {ys:List β},Rs R xs ys->Rs R (xs.drop n) (ys.drop n)
 |0,_,_,h=>h
 |n+1,[],[],_=>by simp [Rs]
 |n+1,_ ::_,_ ::_,h=>Rs.drop n h.2
 |_,[],_ ::_,h=>h.elim
 |_,_ ::_,[],h=>h.elim
theorem Rs.Av{f:γ->α}:∀{xs:List γ} {ys:List β},Rs (λx y=>R (f x) y) xs ys->Rs R (xs.map f) ys
 | [],[],_=>trivial
 |_ ::_,_ ::_,h=>⟨h.1,Rs.Av h.2⟩
 | [],_ ::_,h=>h.elim
 |_ ::_,[],h=>h.elim
theorem Rs.imp_mem:∀{xs:List α} {ys:List β},(∀x∈xs,∀y,R x y->R' x y)->Rs R xs ys->Rs R' xs ys
 | [],[],_,_=>trivial
 |x ::_,_ ::_,hR,h=>⟨hR x (by simp) _ h.1,Rs.imp_mem (λz hz=>hR z (by simp [hz])) h.2⟩
 | [],_ ::_,_,h=>h.elim
 |_ ::_,[],_,h=>h.elim
theorem bp:∀{a b:List Prop},dF (a++b)↔dF a/\dF b
 | [],b=>by simp [dF]
 |p ::a,b=>by simp only[Qhz,dF];rw[bp];exact and_assoc.symm
end
structure Ex (w:World) (M:Nat->Prop) (U:Pl) (w':World) (M':Nat->Prop) (φ':Pl):Prop where
 ck:∀b,M b->w'.heap[b]?=w.heap[b]?
 sub:∀b,M b->M' b
 pl:∀id p,U id=some p->φ' id=some p
theorem Ex.refl(w:World)(M:Nat->Prop)(U:Pl):Ex w M U w M U:=⟨λ_ _=>rfl,λ_ h=>h,λ_ _ h=>h⟩
section
variable {w w' : World} {M M' : Nat -> Prop} {U φ' : Pl}
theorem IR.mono(hb:∀b,M b->w'.heap[b]?=w.heap[b]?)(hM:∀b,M b->M' b){l:Lf}{v:Value}(h:IR w M l v):IR w' M' l v:=by
 induction h with
 |any v h=>exact .any v h
 |int k n=>exact .int k n
 |bool b=>exact .bool b
 |str s=>exact .str s
 |L3=>exact .L3
 |fk=>exact .fk
 |fn f=>exact .fn f
 |ip cells off b o vs hm hc _ ih=>exact .ip cells off b o vs (hM b hm) (λi l hl=>(World.cell?_of_block (hb b hm)).trans (hc i l hl)) ih
 |QF cl sz a cap h=>exact .QF cl sz a cap h
 |sl cl sz rows b o cap vs hm hl y4 hs hc _ ih=>exact .sl cl sz rows b o cap vs (hM b hm) hl y4 hs (λi c j l h1 h2=>(World.cell?_of_block (hb b hm)).trans (hc i c j l h1 h2)) ih
theorem IR.one{l:Lf}{v:Value}(h:IR w M l v):v.oneCell'=true:=by cases h <;> first|rfl|assumption
theorem vh.mono(he:Ex w M U w' M' φ'){l:Lf}{v:Value}(h:vh w M U l v):vh w' M' φ' l v:= by
  cases l <;> first
    |exact IR.mono he.ck he.sub h
    |(obtain⟨b,h1,h2⟩:= h;exact⟨b,he.pl _ _ h1,h2⟩)
    |(obtain⟨b,C,h1,h2⟩:= h;exact⟨b,C,he.pl _ _ h1,h2⟩)
    | (rcases h with ⟨b, C, h1, h2⟩ | ⟨h1, h2⟩
       · exact .inl ⟨b,C,he.pl _ _ h1,h2⟩
       · exact .inr ⟨he.pl _ _ h1,h2⟩)
theorem vh.one{l:Lf}{v:Value}(h:vh w M U l v):v.oneCell'=true:=by
 cases l <;> first
  |exact IR.one h
  |(obtain⟨b,h1,rfl⟩:=h;rfl)
  |(obtain⟨b,C,h1,rfl⟩:=h;rfl)
  |(rcases h with⟨b,C,h1,rfl,_⟩|⟨h1,_,_,a,rfl⟩ <;> rfl)
theorem Qd{l:Lf}{v:Value}(hn:Xa l=false):LR w M U l v=vh w M U l v:=by
 cases l <;> first|rfl|cases hn
theorem LR.split{l:Lf}{v:Value}(h:LR w M U l v):(Xa l=false/\vh w M U l v)\/∃f gZ vs,l=.fn f gZ/\v=.func f #[] (List.toArray vs)/\Rs (vh w M U) gZ vs:=by
 cases hf:Xa l with
 |false=>rw[Qd hf]at h;exact .inl ⟨rfl,h⟩
 |true =>
  cases l <;> first|cases hf|skip
  obtain⟨vs,h1,h2⟩:=h;exact .inr ⟨_,_,vs,rfl,h1,h2⟩
theorem LR.mono(he:Ex w M U w' M' φ'){l:Lf}{v:Value}(h:LR w M U l v):LR w' M' φ' l v:=by
 rcases h.split with⟨hf,h0⟩|⟨f,gZ,vs,rfl,rfl,h2⟩
 ·rw[Qd hf];exact vh.mono he h0
 ·exact⟨vs,rfl,h2.mono λ_ _ h=>vh.mono he h⟩
theorem LR.one{l:Lf}{v:Value}(h:LR w M U l v):v.oneCell'=true:=by
 rcases h.split with⟨hf,h0⟩|⟨f,gZ,vs,rfl,rfl,h2⟩
 ·exact vh.one h0
 ·rfl
theorem CR.mono(he:Ex w M U w' M' φ'){c:Cm}{v:Value}(h:CR w M U c v):CR w' M' φ' c v:=by
 cases c with
 |one l=>exact LR.mono he h
 |agg ls=>obtain⟨vs,h1,h2⟩:=h;exact⟨vs,h1,h2.mono λ_ _ h=>LR.mono he h⟩
theorem AR.mono(he:Ex w M U w' M' φ'){c:AV}{v:Value}(h:AR w M U c v):AR w' M' φ' c v:=by
 cases c with
 |cm c=>exact CR.mono he h
 |j0 cs=>obtain⟨vs,h1,h2⟩:=h;exact⟨vs,h1,h2.mono λ_ _ h=>CR.mono he h⟩
 |gd p c=>exact⟨λhp=>CR.mono he (h.1 hp),h.2⟩
 |PY=>trivial
 |pM=>exact h
 |vl u c=>exact⟨h.1,CR.mono he h.2⟩
theorem LR.QV{l:Lf}{v:Value}(hi:O_ l=true)(h:LR w M U l v):IR w M l v:=by
 cases l <;> first|exact h|cases hi|skip
 rename_i f gZ;cases gZ with
 |cons x r=>cases hi
 |nil =>
  obtain⟨vs,rfl,h2⟩:=h;cases vs with
  |nil=>exact IR.fn f
  |cons y s=>exact h2.elim
theorem IR.lr{l:Lf}{v:Value}(h:IR w M l v):LR w M U l v:=by
 cases h with
 |any v h=>exact IR.any v h
 |int k n=>exact IR.int k n
 |bool b=>exact IR.bool b
 |str s=>exact IR.str s
 |L3=>exact IR.L3
 |fk=>exact IR.fk
 |fn f=>exact⟨[],rfl,trivial⟩
 |ip cells off b o vs hm hc h=>exact IR.ip cells off b o vs hm hc h
 |QF cl sz a cap h=>exact IR.QF cl sz a cap h
 |sl cl sz rows b o cap vs hm hl y4 hs hc h=>exact IR.sl cl sz rows b o cap vs hm hl y4 hs hc h
theorem vh.lr{l:Lf}{v:Value}(h:vh w M U l v):LR w M U l v:=by
 cases hf:Xa l with
 |false=>rw[Qd hf];exact h
 |true=>cases l <;> first|exact IR.lr h|cases hf
theorem CR.cells{c:Cm}{v:Value}(h:CR w M U c v):Rs (LR w M U) c.cells v.cells.toList:=by
 cases c with
 |one l =>
  have h1:=LR.one h;have:v.cells=#[v]:=by cases v <;> first|rfl|cases h1
  rw[this];exact⟨h,trivial⟩
 |agg ls=>obtain⟨vs,rfl,h2⟩:=h;simpa [Value.cells,Cm.cells]using h2
theorem Rs.Pf{ls:List Lf}{vs:List Value}(h:Rs (LR w M U) ls vs):∀v∈vs,v.oneCell'=true:=by
 intro v hv;obtain⟨i,hi⟩:=QeT.1 hv;have hl:=h.len;have iq:i<vs.length:=(pB.1 hi).1;obtain⟨y,hy,hr⟩:=h.get (dr (show i<ls.length by omega))
 rw[hi]at hy;cases hy;exact LR.one hr
end
section
variable {w : World} {M : Nat -> Prop} {U : Pl} {L : Nat -> AV} {a : Act}
theorem L5{v:Value}{l:Lf}(h:ofConst v=some l):LR w M U l v:=by
 unfold ofConst at h;split at h
 ·cases h;exact IR.int _ _
 ·cases h;exact IR.bool _
 ·cases h;exact IR.str _
 ·cases h;exact IR.L3
 ·cases h;exact IR.fk
 ·cases h;exact IR.any _ rfl
 ·cases h;exact IR.any _ rfl
 ·rename_i f first gZ;cases hc:(first.size == 0&&gZ.size == 0)with
  |false=>rw[hc]at h;cases h
  |true =>
   rw[hc]at h;cases h;simp only[ma,Qbb]at hc;obtain⟨h1,h2⟩:=hc;obtain rfl:=Qgv h1;obtain rfl:=Qgv h2;exact⟨[],rfl,trivial⟩
 ·cases h
theorem I9:∀{vs:List Value} {ls:List Lf},EU vs=some ls->Rs (LR w M U) ls vs
 | [],_,h=>by cases h;trivial
 |v ::vs,ls,h=>by
  simp only[EU]at h;split at h
  ·rename_i l nH h1 h2;cases h;exact⟨L5 h1,I9 h2⟩
  ·cases h
theorem Qa6{v:Value}{c:Cm}(h:Wx v=some c):CR w M U c v:=by
 unfold Wx at h;split at h
 ·rename_i cs;cases h1:EU cs.toList with
  |none=>rw[h1]at h;cases h
  |some ls=>rw[h1]at h;cases h;exact⟨cs.toList,rfl,I9 h1⟩
 ·cases h1:ofConst v with
  |none=>rw[h1]at h;cases h
  |some l=>rw[h1]at h;cases h;exact L5 h1
theorem H9(hF:∀t,AR w M U (L t) (a.tmps.getD t undef))(x:Operand):AR w M U (y6 L x) (a.eval x):=by
 cases x with
 |tmp t =>
  have h:=hF t;show AR w M U (match L t with|.vl _ c=>.cm c|a=>a) (a.tmps.getD t undef)
  split
  ·rename_i e;rw[e]at h;exact h.2
  ·exact h
 |const v =>
  unfold y6
  dsimp only
  split
  ·rename_i c h;exact Qa6 h
  ·trivial
 |func f=>exact⟨[],rfl,trivial⟩
 |global g=>trivial
theorem Qj9{g:Prop}{v:AV}{cv:Value}{c:Cm}{o:List Prop}(h:qb g v=some (c,o))(hv:AR w M U v cv)(ho:dF o)(hg:g):CR w M U c cv:=by
 cases v with
 |cm c'=>cases h;exact hv
 |gd p c'=>cases h;exact hv.1 (ho.1 hg)
 |j0 cs=>cases h
 |PY=>cases h
 |pM=>cases h
 |vl u c=>cases h
theorem cg{g:Prop}{x:Operand}{c:Cm}{o:List Prop}(hF:∀t,AR w M U (L t) (a.tmps.getD t undef))(h:qb g (y6 L x)=some (c,o))(ho:dF o)(hg:g):CR w M U c (a.eval x):=
 Qj9 h (H9 hF x) ho hg
theorem vR{g:Prop}(hF:∀t,AR w M U (L t) (a.tmps.getD t undef))(hg:g):∀{xs:List Operand} {cs:List Cm} {o:List Prop},Ia L g xs=some (cs,o)->dF o->Rs (CR w M U) cs (xs.map a.eval)
 | [],_,_,h,_=>by cases h;trivial
 |x ::xs,cs,o,h,ho=>by
  simp only[Ia]at h;split at h
  ·rename_i c o1 T8 o2 h1 h2;cases h;rw[bp]at ho;exact⟨cg hF h1 ho.1 hg,vR hF hg h2 ho.2⟩
  ·cases h
theorem Kb{g:Prop}(hF:∀t,AR w M U (L t) (a.tmps.getD t undef))(hg:g):∀{xs:List (Nat×Operand)} {cs:List (Nat×List Lf)} {o:List Prop},Tl L g xs=some (cs,o)->dF o->
  Rs (λ(p:Nat×List Lf) (q:Nat×Value)=>p.1=q.1/\Rs (LR w M U) p.2 q.2.cells.toList) cs (xs.map λ(i,x)=>(i,a.eval x))
 | [],_,_,h,_=>by cases h;trivial
 |(i,x) ::xs,cs,o,h,ho=>by
  simp only[Tl]at h;split at h
  ·rename_i c o1 T8 o2 h1 h2;cases h;rw[bp]at ho;exact⟨⟨rfl,(cg hF h1 ho.1 hg).cells⟩,Kb hF hg h2 ho.2⟩
  ·cases h
def QoS(w:World)(M:Nat->Prop)(U:Pl)(a:Act):O Operand->O Cm->Prop
 |none,none=>True
 |some x,some c=>CR w M U c (a.eval x)
 |_,_=>False
theorem Xz{g:Prop}(hF:∀t,AR w M U (L t) (a.tmps.getD t undef))(hg:g){x:O Operand}{c:O Cm}{o:List Prop}(h:QiA L g x=some (c,o))(ho:dF o):QoS w M U a x c:=by
 cases x with
 |none=>cases h;trivial
 |some x =>
  simp only[QiA]at h;cases h1:qb g (y6 L x)with
  |none=>rw[h1]at h;cases h
  |some p=>obtain⟨c',o'⟩:=p;rw[h1]at h;cases h;exact cg hF h1 ho hg
end
section
variable {w w' : World} {M M' : Nat -> Prop} {U φ' : Pl} {G : bC} {h h' : Nat -> O Ob}
theorem OC.mono{id:Nat}{ob:Ob}(he:Ex w M U w' M' φ')(hO:OC w M U id ob)(Qbs:∀b C,U id=some (some (b,C))->w'.heap[b]?=w.heap[b]?):OC w' M' φ' id ob:=by
 obtain⟨h0,h1⟩:=hO;refine⟨h0,?_⟩;cases hφ:U id with
 |none=>rw[hφ]at h1;exact h1.elim
 |some p =>
  rw[he.pl id p hφ];rw[hφ]at h1;cases p with
  |none=>exact h1
  |some bc =>
   obtain⟨b,C⟩:=bc;obtain⟨cur,g1,g2,g3,g4,g5,g6⟩:=h1;refine⟨cur,(Qbs b C hφ).trans g1,g2,g3,g4,g5,λi c hc=>⟨(g6 i c hc).1,λj l hl=>?_⟩⟩
   obtain⟨v,hv,hr⟩:=(g6 i c hc).2 j l hl;refine⟨v,hv,?_⟩;split
   ·rename_i hb;rw[if_pos hb]at hr;exact LR.mono he hr
   ·rename_i hb;rw[if_neg hb]at hr;exact IR.mono he.ck he.sub hr
theorem BP.mono(hb:∀b,M b->w'.heap[b]?=w.heap[b]?)(hM:∀b,M b->M' b){row:List Lf}{e:MapEntry}(h:BP w M row e):BP w' M' row e:=by
 obtain⟨v,ks,h1,h2,h3⟩:=h;refine⟨v,ks,h1,h2.mono hb hM,?_⟩;rcases h3 with⟨k,h4,h5⟩|⟨h4,vs,h5,h6⟩
 ·exact .inl ⟨k,h4,h5.mono hb hM⟩
 ·exact .inr ⟨h4,vs,h5,h6.mono λ_ _ h=>h.mono hb hM⟩
theorem OR.mono{id:Nat}{ob:Ob}(he:Ex w M U w' M' φ')(hO:OR w M U id ob)(Qbs:∀b C,U id=some (some (b,C))->w'.heap[b]?=w.heap[b]?):OR w' M' φ' id ob:=by
 rcases hO with hO|⟨hb,rs,b,es,BY,h1,h2,h3,h4⟩
 ·exact .inl (hO.mono he Qbs)
 ·exact .inr ⟨hb,rs,b,es,BY,h1,he.pl _ _ h2,(Qbs b 1 h2).trans h3,h4.mono λ_ _ h=>BP.mono he.ck he.sub h⟩
theorem OR.oc{id:Nat}{ob:Ob}(hO:OR w M U id ob)(h:ob.box=false\/∃c,ob.rows=[c]):OC w M U id ob:=by
 rcases hO with hO|⟨hb,rs,b,es,BY,h1,-⟩
 ·exact hO
 ·rcases h with h|⟨c,h⟩
  ·rw[hb]at h;cases h
  ·rw[h1]at h;cases h
theorem OR.QnF{id:Nat}{ob:Ob}(hO:OR w M U id ob)(h:U id=none):False:=by
 rcases hO with⟨-,hO⟩|⟨-,rs,b,es,BY,-,h2,-⟩
 ·rw[h]at hO;exact hO
 ·rw[h]at h2;cases h2
theorem OR.boxed{id:Nat}{ob:Ob}(hO:OR w M U id ob)(hb:ob.box=true):∃b,U id=some (some (b,1)):=by
 rcases hO with⟨-,hO⟩|⟨-,rs,b,es,BY,-,h2,-⟩
 ·cases hφ:U id with
  |none=>rw[hφ]at hO;exact hO.elim
  |some p =>
   rw[hφ]at hO;cases p with
   |none=>rw[hO.2]at hb;cases hb
   |some bc =>
    obtain⟨b,C⟩:=bc;obtain⟨cur,q1,q2,q3,q4,q5,q6⟩:=hO;rw[q5 hb];exact⟨b,rfl⟩
 ·exact⟨b,h2⟩
theorem OC.QlT{id:Nat}{ob:Ob}(hO:OC w M U id ob)(hb:ob.box=true):isMap ob=false:=by
 have hO1:OR w M U id ob:=.inl hO;obtain⟨b,hφ⟩:=hO1.boxed hb;obtain⟨_,hO⟩:=hO;rw[hφ]at hO;obtain⟨cur,g1,g2,g3,g4,g5,g6⟩:=hO;unfold isMap Gd;split
 ·rename_i r hr;rw[hr]at g3;simp at g3
 ·rfl
theorem OR.ren{id iV:Nat}{ob:Ob}(hO:OR w M U id ob)(e:U iV=U id):OR w M U iV ob:=by
 rcases hO with⟨h0,hO⟩|⟨hb,rs,b,es,BY,h1,h2,h3⟩
 ·exact .inl ⟨h0,by rw[e];exact hO⟩
 ·exact .inr ⟨hb,rs,b,es,BY,h1,e.trans h2,h3⟩
theorem Wd.less(hW:Wd G U M h w)(hs:∀id ob,h' id=some ob->h id=some ob):Wd G U M h' w:=
 ⟨λid ob e=>hW.fU id ob (hs id ob e),λi j oi oj b Ci Cj hi hj=>hW.inj i j oi oj b Ci Cj (hs _ _ hi) (hs _ _ hj),hW.mlt,hW.m0,hW.LW,λid ob b C e=>hW.own id ob b C (hs id ob e),hW.AO,hW.os,hW.tape,hW.output,hW.size,hW.HA,hW.zP⟩
theorem Wd.tab(hW:Wd G U M h w)(b:Nat)(cs:Array Value)(ht:(b,cs)∈UB):M b/\b<w.heap.size/\∃t s,w.heap[b]?=some (.cells cs t s):=by
 obtain⟨h1,h2,h3,t,s,h4⟩:=hW.zP b cs ht;have hm:=hW.m0 b h1;exact⟨hm,hW.mlt b hm,t,s,(hW.AO b h3 h2).trans h4⟩
theorem Wd.grow(hW:Wd G U M h w)(hb:Below w.heap.size w w'):Wd G U M h w':=by
 have he:Ex w M U w' M U:=⟨λb hm=>hb.block b (hW.mlt b hm),λ_ h=>h,λ_ _ h=>h⟩
 exact⟨λid ob e=>(hW.fU id ob e).mono he λb C hφ=>hb.block b (hW.own id ob b C e hφ).2.1,hW.inj,λb hm=>Qby (hW.mlt b hm) hb.size,hW.m0,hW.LW,
  λid ob b C e hφ=>⟨(hW.own id ob b C e hφ).1,Qby (hW.own id ob b C e hφ).2.1 hb.size,(hW.own id ob b C e hφ).2.2⟩,
  λb iq hn=>(hb.block b (Qby iq hW.size)).trans (hW.AO b iq hn),hb.os.trans hW.os,hb.tape.trans hW.tape,hb.output.trans hW.output,QaE hW.size hb.size,hW.HA,hW.zP⟩
theorem Wd.RD(hW:Wd G U M h w)(hb:Below w.heap.size w w'):Ex w M U w' M U:=⟨λb hm=>hb.block b (hW.mlt b hm),λ_ h=>h,λ_ _ h=>h⟩
def JL(U:Pl)(id:Nat)(p:O (Nat×Nat)):Pl:=λi=>if i=id then some p else U i
theorem eF(U:Pl)(id:Nat)(p:O (Nat×Nat)):JL U id p id=some p:=if_pos rfl
theorem s9{U:Pl}{id i:Nat}(p:O (Nat×Nat))(lN:i≠id):JL U id p i=U i:=if_neg lN
theorem uJ{U:Pl}{id:Nat}(p:O (Nat×Nat))(hn:U id=none):∀i q,U i=some q->JL U id p i=some q:=λi q hq=>by
 rw[s9];· exact hq
 ·rintro rfl;rw[hn]at hq;cases hq
theorem Wd.new(hW:Wd G U M h w){id:Nat}(ob:Ob){b C:Nat}(hφ:U id=none)(hh:h id=none)(hb:Below w.heap.size w w')(hbs:w.heap.size<=b)(Yn:b<w'.heap.size)
  (hO:OR w' M (JL U id (some (b,C))) id ob):Wd G (JL U id (some (b,C))) M (λi=>if i=id then some ob else h i) w':=by
 have sB:=hW.grow hb;have he:Ex w' M U w' M (JL U id (some (b,C))):=⟨λ_ _=>rfl,λ_ h=>h,uJ _ hφ⟩
 have hpi:∀i o,h i=some o->i≠id:=λi o e=>by rintro rfl;rw[hh]at e;cases e
 refine⟨λi o e=>?_,λi j oi oj c Ci Cj hi hj pi pj=>?_,sB.mlt,sB.m0,sB.LW,λi o c C' e p=>?_,sB.AO,sB.os,sB.tape,sB.output,sB.size,λp hp=>he.pl _ _ (hW.HA p hp),hW.zP⟩
 ·by_cases hi:i=id
  ·subst hi;rw[if_pos rfl]at e;cases e;exact hO
  ·rw[if_neg hi]at e;exact(sB.fU i o e).mono he λ_ _ _=>rfl
 ·have key:∀{k:Nat} {o:Ob} {c Ck:Nat},k≠id->h k=some o->JL U id (some (b,C)) k=some (some (c,Ck))->c<w.heap.size:=λhk ho hp=>by
   rw[s9 _ hk]at hp;exact(hW.own _ _ _ _ ho hp).2.1
  by_cases SU:i=id <;> by_cases Nl:j=id
  ·rw[SU,Nl]
  ·subst SU;rw[eF]at pi;cases pi;rw[if_neg Nl]at hj;have:=key Nl hj pj;omega
  ·subst Nl;rw[eF]at pj;cases pj;rw[if_neg SU]at hi;have:=key SU hi pi;omega
  ·rw[if_neg SU]at hi;rw[if_neg Nl]at hj;rw[s9 _ SU]at pi;rw[s9 _ Nl]at pj;exact hW.inj i j oi oj c Ci Cj hi hj pi pj
 ·by_cases hi:i=id
  ·subst hi;rw[eF]at p;cases p;exact⟨λhm=>by have:=hW.mlt _ hm;omega,Yn,.inr (QaE hW.size hbs)⟩
  ·rw[if_neg hi]at e;rw[s9 _ hi]at p;exact sB.own i o c C' e p
theorem Wd.L2(hW:Wd G U M h w){id:Nat}(ob:Ob)(hφ:U id=none)(hh:h id=none)(hr:ob.rows=[])(p9:ob.box=false)(hs:0<ob.sz):
  Wd G (JL U id none) M (λi=>if i=id then some ob else h i) w:=by
 have he:Ex w M U w M (JL U id none):=⟨λ_ _=>rfl,λ_ h=>h,uJ _ hφ⟩
 refine⟨λi o e=>?_,λi j oi oj c Ci Cj hi hj pi pj=>?_,hW.mlt,hW.m0,hW.LW,λi o c C' e p=>?_,hW.AO,hW.os,hW.tape,hW.output,hW.size,λp hp=>he.pl _ _ (hW.HA p hp),hW.zP⟩
 ·by_cases hi:i=id
  ·subst hi;rw[if_pos rfl]at e;cases e;refine .inl ⟨hs,?_⟩;rw[eF];exact⟨hr,p9⟩
  ·rw[if_neg hi]at e;exact(hW.fU i o e).mono he λ_ _ _=>rfl
 ·by_cases SU:i=id
  ·subst SU;rw[eF]at pi;cases pi
  ·by_cases Nl:j=id
   ·subst Nl;rw[eF]at pj;cases pj
   ·rw[if_neg SU]at hi;rw[if_neg Nl]at hj;rw[s9 _ SU]at pi;rw[s9 _ Nl]at pj;exact hW.inj i j oi oj c Ci Cj hi hj pi pj
 ·by_cases hi:i=id
  ·subst hi;rw[eF]at p;cases p
  ·rw[if_neg hi]at e;rw[s9 _ hi]at p;exact hW.own i o c C' e p
theorem Wd.Rt(hW:Wd G U M h w){id:Nat}{ob AH:Ob}{b C:Nat}(hh:h id=some ob)(hφ:U id=some (some (b,C)))(LK:∀k,k≠b->w'.heap[k]?=w.heap[k]?)(jI:w'.heap.size=w.heap.size)
  (hos:w'.os=w.os) (htp:w'.tape=w.tape) (LL:w'.output=w.output) (hO:OR w' M U id AH):Wd G U M (λi=>if i=id then some AH else h i) w':=by
 obtain⟨hm,iq,O9⟩:=hW.own id ob b C hh hφ;have he:Ex w M U w' M U:=⟨λc hc=>LK c λe=>hm (e▸hc),λ_ h=>h,λ_ _ h=>h⟩
 have SZ:∀i o,(λi=>if i=id then some AH else h i) i=some o->∃o',h i=some o':=λi o e=>by
  by_cases hi:i=id
  ·subst hi;exact⟨ob,hh⟩
  ·simp only[if_neg hi]at e;exact⟨o,e⟩
 refine⟨λi o e=>?_,λi j oi oj c Ci Cj hi hj pi pj=>?_,λc hc=>by rw[jI];exact hW.mlt c hc,hW.m0,hW.LW,λi o c C' e p=>?_,λc hc hn=>?_,hos.trans hW.os,htp.trans hW.tape,LL.trans hW.output,by rw[jI];exact hW.size,hW.HA,hW.zP⟩
 ·by_cases hi:i=id
  ·subst hi;simp only[if_true]at e;cases e;exact hO
  ·simp only[if_neg hi]at e;exact(hW.fU i o e).mono he λc C' hp=>LK c λhc=>hi (hW.inj i id o ob b C' C e hh (hc▸hp) hφ)
 ·obtain⟨oi',SU⟩:=SZ i oi hi;obtain⟨oj',Nl⟩:=SZ j oj hj;exact hW.inj i j oi' oj' c Ci Cj SU Nl pi pj
 ·obtain⟨o',ho'⟩:=SZ i o e;rw[jI];exact hW.own i o' c C' ho' p
 ·rw[LK c λe=>?_]
  ·exact hW.AO c hc hn
  ·subst e;rcases O9 with h1|h1
   ·exact hn h1
   ·omega
end
end
section
open Go.RowKit
def VL(h:Nat->O Ob)(base:Nat)(news:List Ob):Nat->O Ob:=λid=>if base<=id/\id<base+news.length then news[id-base]? else h id
theorem ua(h:Nat->O Ob)(base:Nat):VL h base []=h:=by
 funext id;unfold VL;rw[if_neg (λh=>by have:=h.2;simp at this;omega)]
theorem XD(h:Nat->O Ob)(base:Nat)(ob:Ob):VL h base [ob]=λi=>if i=base then some ob else h i:=by
 funext id;unfold VL
 by_cases hi:id=base
 ·subst hi;simp
 ·rw[if_neg hi,if_neg (by simp only[QeU];omega)]
def Yd(P:Program)(G:bC)(U:Pl)(M:Nat->Prop)(hD:Nat->O Ob)(w:World)(base:Nat)(r:OD)(run:Result Next):Prop:=
 ∃v w' φ',run=.ok (.value v) w'/\AR w' M φ' r.v v/\Wd G φ' M (VL hD base r.news) w'/\(∀id p,U id=some p->φ' id=some p)/\
  (∀id,φ' id≠none->U id≠none\/(base<=id/\id<base+r.news.length))/\(∀b,M b->w'.heap[b]?=w.heap[b]?)
section
variable {P : Program} {G : bC} {U : Pl} {M : Nat -> Prop} {hD h : Nat -> O Ob} {w : World} {base : Nat} {L : Nat -> AV} {a : Act} {g : Prop} {hs : List Hint} {r : OD} {o : Oper}
theorem Yd.val{run:Result Next}{v:Value}(hr:run=.ok (.value v) w)(hn:r.news=[])(hv:AR w M U r.v v)(hW:Wd G U M hD w):Yd P G U M hD w base r run:=
 ⟨v,w,U,hr,hv,by rw[hn,ua];exact hW,λ_ _ h=>h,λ_ h=>.inl h,λ_ _=>rfl⟩
theorem Yd.grow{run:Result Next}{v:Value}{w':World}(hr:run=.ok (.value v) w')(hn:r.news=[])(hb:Below w.heap.size w w')(hv:AR w' M U r.v v)(hW:Wd G U M hD w):Yd P G U M hD w base r run:=
 ⟨v,w',U,hr,hv,by rw[hn,ua];exact hW.grow hb,λ_ _ h=>h,λ_ h=>.inl h,λb hm=>hb.block b (hW.mlt b hm)⟩
theorem Yd.new{run:Result Next}{v:Value}{w':World}{ob:Ob}{b C:Nat}(hr:run=.ok (.value v) w')(hn:r.news=[ob])(hW:Wd G U M hD w)(td:∀id,base<=id->id<base+r.news.length->U id=none/\hD id=none)
  (hb:Below w.heap.size w w') (hbs:w.heap.size<=b) (Yn:b<w'.heap.size) (hO:OR w' M (JL U base (some (b,C))) base ob) (hv:AR w' M (JL U base (some (b,C))) r.v v):Yd P G U M hD w base r run:=by
 have hf:=td base (fa _) (by rw[hn];simp)
 refine⟨v,w',JL U base (some (b,C)),hr,hv,?_,uJ _ hf.1,λid hid=>?_,λc hm=>hb.block c (hW.mlt c hm)⟩
 ·rw[hn,XD];exact hW.new ob hf.1 hf.2 hb hbs Yn hO
 ·by_cases hi:id=base
  ·exact .inr (by rw[hi,hn];simp)
  ·rw[s9 _ hi]at hid;exact .inl hid
theorem Yd.L2{run:Result Next}{v:Value}{w':World}{ob:Ob}(hr:run=.ok (.value v) w')(hn:r.news=[ob])(hW:Wd G U M hD w)(td:∀id,base<=id->id<base+r.news.length->U id=none/\hD id=none)
  (hb:Below w.heap.size w w') (h1:ob.rows=[]) (h2:ob.box=false) (h3:0<ob.sz) (hv:AR w' M (JL U base none) r.v v):Yd P G U M hD w base r run:=by
 have hf:=td base (fa _) (by rw[hn];simp)
 refine⟨v,w',JL U base none,hr,hv,?_,uJ _ hf.1,λid hid=>?_,λc hm=>hb.block c (hW.mlt c hm)⟩
 ·rw[hn,XD];exact(hW.grow hb).L2 ob hf.1 hf.2 h1 h2 h3
 ·by_cases hi:id=base
  ·exact .inr (by rw[hi,hn];simp)
  ·rw[s9 _ hi]at hid;exact .inl hid
theorem lj(w:World)(o:Obj):Below w.heap.size w (w.alloc o):=(Below.refl _ _).alloc (fa _) o
theorem pW{t:TypeId}{n:Nat}(h:CF P t=some n):∃i,P.info? t=some i/\i.size=n:=by
 unfold CF at h;cases hi:P.info? t with
 |none=>rw[hi]at h;cases h
 |some i=>rw[hi]at h;cases h;exact⟨i,rfl,rfl⟩
theorem Kg{t:TypeId}{b:Bool}(h:A1 P t=some b):∃d,P.underlying t=some d/\d.isRow=b:=by
 unfold A1 at h;cases hi:P.underlying t with
 |none=>rw[hi]at h;cases h
 |some d=>rw[hi]at h;cases h;exact⟨d,rfl,rfl⟩
theorem uN{t:TypeId}{z:List Lf}(h:JQ P t=some z):∃i zv,P.info? t=some i/\i.zero=some zv/\zv.cells.size=i.size/\0<i.size/\Rs (LR w M U) z zv.cells.toList/\z.length=i.size:=by
 unfold JQ at h;split at h
 ·rename_i i hi;split at h
  ·rename_i zv hz;cases hc:(zv.cells.size == i.size&&!(i.size == 0))with
   |false=>rw[hc]at h;cases h
   |true =>
    rw[hc]at h;simp only[ma,Qbb,QbD,QhT]at hc;have Kp:=I9 (w:=w) (M:=M) (U:=U) h;exact⟨i,zv,hi,hz,hc.1,by omega,Kp,by rw[Kp.len,<-hc.1];simp⟩
  ·cases h
 ·cases h
theorem jr{t e:TypeId}(h:r_ P t=some e):P.underlying t=some (.slice e):=by
 unfold r_ at h;split at h
 ·rename_i e' he;cases h;exact he
 ·cases h
theorem E7{t:TypeId}{d:TypeDesc}(hu:P.underlying t=some d)(w:World):(isAgg t).run P w=.ok d.isRow w:=by
 unfold isAgg;rw[Sem.run_bind,run_underlying hu w];cases d <;> rfl
theorem run_sizeOf{t:TypeId}{i:TypeInfo}(hi:P.info? t=some i)(w:World):(sizeOf t).run P w=.ok i.size w:=by simp [sizeOf,typeInfo,hi]
theorem Qbj{R:Lf->Value->Prop}{b:Nat}:∀(ls:List Lf) (k:Nat),(∀(i:Nat) (l:Lf),ls[i]?=some l->∃v,w.cell? ⟨b,k+i,none⟩=some v/\R l v)->∃vs,Rs R ls vs/\w.rangeAt b k vs
 | [],_,_=>⟨[],trivial,λj v h=>by simp at h⟩
 |l ::ls,k,h=>by
  obtain⟨v,hv,hr⟩:=h 0 l rfl;obtain⟨vs,h1,h2⟩:=Qbj ls (k+1) λi l' hl=>by
   obtain⟨v,hv,hr⟩:=h (i+1) l' (by simpa using hl)
   exact⟨v,by rw[show k+1+i=k+(i+1) by omega];exact hv,hr⟩
  refine⟨v ::vs,⟨hr,h1⟩,λj u hj=>?_⟩
  cases j with
  |zero=>simp at hj;subst hj;exact hv
  |succ j=>rw[show k+(j+1)=k+1+j by omega];exact h2 j u (by simpa using hj)
theorem Gp{t:TypeId}{n:Nat}{Tt:Bool}{b k off:Nat}{cells:List Lf}{c:Cm}(ht:CF P t=some n)(hr:A1 P t=some Tt)(hp:wb Tt n off cells=some c)
  (hc:∀(i:Nat) (l:Lf),cells[i]?=some l->∃v,w.cell? ⟨b,k+i,none⟩=some v/\LR w M U l v):∃v,(loadVar t ⟨b,k+off,none⟩).run P w=.ok v w/\CR w M U c v:=by
 obtain⟨i,hi,jI⟩:=pW ht;obtain⟨d,hu,hd⟩:=Kg hr;unfold wb at hp;cases Tt with
 |true =>
  simp only[QaF]at hp;cases hl:(((cells.drop off).take n).length == n)with
  |false=>rw[hl]at hp;cases hp
  |true =>
   rw[hl]at hp;cases hp;have Ko:((cells.drop off).take n).length=n:=by simpa using hl
   obtain⟨vs,h1,h2⟩:=Qbj (w:=w) (R:=LR w M U) (b:=b) ((cells.drop off).take n) (k+off) λj l hj=>by
    have hj2:cells[off+j]?=some l:=by
     rw[QdL]at hj;split at hj
     ·rw[Qf_]at hj;exact hj
     ·cases hj
    obtain⟨v,hv,hr⟩:=hc _ _ hj2;exact⟨v,by rw[show k+off+j=k+(off+j) by omega];exact hv,hr⟩
   exact⟨_,run_loadVar_mid w b (k+off) t vs d h2 hu hd (by rw[hi,Qjl,jI,<-h1.len,Ko]),vs,rfl,h1⟩
 |false =>
  simp only[Qdn]at hp;cases hl:cells[off]? with
  |none=>rw[hl]at hp;cases hp
  |some l =>
   rw[hl]at hp;cases hp;obtain⟨v,hv,hr⟩:=hc _ _ hl;refine⟨v,?_,hr⟩;unfold loadVar;rw[Sem.run_bind,E7 hu w,hd];simp [hv]
theorem OR.cell{id:Nat}{ob:Ob}{b C i:Nat}{c:List Lf}(hO:OR w M U id ob)(hoc:ob.box=false\/∃c,ob.rows=[c])(hφ:U id=some (some (b,C)))(hc:ob.rows[i]?=some c):
  ∀(j:Nat) (l:Lf),c[j]?=some l->∃v,w.cell? ⟨b,i*ob.sz+j,none⟩=some v/\(if ob.box then LR w M U l v else IR w M l v):=by
 obtain⟨_,h1⟩:=hO.oc hoc;rw[hφ]at h1;obtain⟨cur,g1,g2,g3,g4,g5,g6⟩:=h1;intro j l hl;obtain⟨v,hv,hr⟩:=(g6 i c hc).2 j l hl;exact⟨v,by simp only[World.cell?,g1];simpa using hv,hr⟩
theorem OR.UT{id:Nat}{ob:Ob}{b C i:Nat}{c:List Lf}(hO:OR w M U id ob)(hoc:ob.box=false\/∃c,ob.rows=[c])(hφ:U id=some (some (b,C)))(hc:ob.rows[i]?=some c):
  ∀(j:Nat) (l:Lf),c[j]?=some l->∃v,w.cell? ⟨b,i*ob.sz+j,none⟩=some v/\LR w M U l v:=λj l hl=>by
 obtain⟨v,hv,hr⟩:=hO.cell hoc hφ hc j l hl;refine⟨v,hv,?_⟩;split at hr
 ·exact hr
 ·exact IR.lr hr
theorem Qcu{t:TypeId}{x:Operand}(ho:o.op=.load t x)(hf:AJ P h base g L o.op hs=some r)(dj:dF r.fU)(hg:g)(hF:∀t,AR w M U (L t) (a.tmps.getD t undef))(hW:Wd G U M hD w)
  (fh:∀id ob,h id=some ob->hD id=some ob):Yd P G U M hD w base r ((execOp a.eval o).run P w):=by
 rw[ho]at hf;simp only[AJ]at hf;have dC:∀v b k,a.eval x=.pointer (some ⟨b,k,none⟩)->(loadVar t ⟨b,k,none⟩).run P w=.ok v w->(execOp a.eval o).run P w=.ok (.value v) w:=λv b k hx hl=>by
  simp [execOp,ho,Instr.loadAt,Instr.sureAddr,hx,hl]
 split at hf
 ·rename_i cells off o1 n Tt h1 h2 h3;cases hp:wb Tt n off cells with
  |none=>rw[hp]at hf;cases hf
  |some c =>
   rw[hp]at hf;cases hf;have hx:=cg hF h1 dj hg;have DI:IR w M (.ip cells off) (a.eval x):=hx;generalize hv:a.eval x=xv at DI;cases DI with
   |ip _ _ b k vs hm hc hr =>
    obtain⟨v,hl,k8⟩:=Gp (M:=M) (U:=U) (b:=b) (k:=k) h2 h3 hp λi l hl=>⟨_,hc i l hl,IR.lr (hr i l hl)⟩
    exact Yd.val (dC v b _ hv hl) rfl k8 hW
 ·rename_i id sz row off o1 n Tt h1 h2 h3;split at hf
  ·rename_i ob Qm_;cases jI:(ob.sz == sz)with
   |false=>rw[jI]at hf;cases hf
   |true =>
    rw[jI]at hf;simp only[QaF]at hf;have Qtr:ob.sz=sz:=by simpa using jI
    have hO:=hW.fU id ob (fh id ob Qm_);split at hf
    ·rename_i p9 jJ;cases zI:(row == 0)with
     |false=>rw[zI]at hf;cases hf
     |true =>
      rw[zI]at hf;have Qth:row=0:=by simpa using zI
      rename_i cells;cases hp:wb Tt n off cells with
      |none=>rw[hp]at hf;cases hf
      |some c =>
       rw[hp]at hf;cases hf;obtain⟨b,C,hφ,hv⟩:=(cg hF h1 dj hg:vh w M U (.op id sz row off) (a.eval x));obtain⟨v,hl,k8⟩:=Gp (M:=M) (U:=U) (b:=b) (k:=row*sz) h2 h3 hp λi l hl=>by
        have:=hO.UT (i:=0) (.inr ⟨_,jJ⟩) hφ (by rw[jJ];rfl) i l hl
        rw[Qth,Qbx];rwa [Qbx]at this
       exact Yd.val (dC v b _ hv hl) rfl k8 hW
    ·rename_i c0 fK p9;cases hp:wb Tt n off c0 with
     |none=>rw[hp]at hf;cases hf
     |some c =>
      rw[hp]at hf;cases hf;rw[bp]at dj;obtain⟨b,C,hφ,hv⟩:=(cg hF h1 dj.1 hg:vh w M U (.op id sz row off) (a.eval x));obtain⟨v,hl,k8⟩:=Gp (M:=M) (U:=U) (b:=b) (k:=row*sz) h2 h3 hp λi l hl=>by
       have:=hO.UT (i:=row) (.inl p9) hφ dj.2.1 i l hl;rwa [Qtr]at this
      exact Yd.val (dC v b _ hv hl) rfl k8 hW
    ·cases hf
  ·cases hf
 ·cases hf
end
end
section
open Go.RowKit
section
variable {P : Program} {G : bC} {U : Pl} {M : Nat -> Prop} {hD h : Nat -> O Ob} {w : World} {base : Nat} {L : Nat -> AV} {a : Act} {g : Prop} {hs : List Hint} {r : OD} {o : Oper}
variable (dj : dF r.fU) (hg : g) (hF : ∀ t, AR w M U (L t) (a.tmps.getD t undef)) (hW : Wd G U M hD w)
include dj hg hF hW
theorem TB{x:Operand}(ho:o.op=.move x\/o.op=.assign x)(hf:AJ P h base g L (.move x) hs=some r):Yd P G U M hD w base r ((execOp a.eval o).run P w):=by
 have dC:(execOp a.eval o).run P w=.ok (.value (a.eval x)) w:=by rcases ho with ho|ho <;> simp [execOp,ho]
 have hx:=H9 hF x;simp only[AJ]at hf;split at hf
 ·rename_i c h1;cases hf;rw[h1]at hx;exact Yd.val dC rfl hx hW
 ·rename_i c h1;cases hf;rw[h1]at hx;exact Yd.val dC rfl hx hW
 ·rename_i p c h1;cases hf;rw[h1]at hx;exact Yd.val dC rfl (hx.1 (dj.1 hg)) hW
 ·cases hf
 ·rename_i h1;cases hf;rw[h1]at hx;exact Yd.val dC rfl hx hW
 ·cases hf
theorem Qcv{c x y:Operand}(ho:o.op=.pick c x y)(hf:AJ P h base g L o.op hs=some r):Yd P G U M hD w base r ((execOp a.eval o).run P w):=by
 rw[ho]at hf;simp only[AJ]at hf;have dC:∀b,a.eval c=.bool b->(execOp a.eval o).run P w=.ok (.value (if b then a.eval x else a.eval y)) w:=λb hb=>by
  simp [execOp,ho,hb,asBool]
 split at hf
 ·rename_i bc o1 fK h1;split at hf
  ·rename_i bx oa by_ ob_ h2 h3;cases hf;simp only[bp]at dj;have hc:IR w M (.bool bc) (a.eval c):=cg hF h1 dj.1.1 hg;generalize hv:a.eval c=cv at hc;cases hc;refine Yd.val (dC _ hv) rfl ?_ hW;cases bc with
   |true=>exact(cg hF h2 dj.1.2 ⟨hg,rfl⟩:CR w M U (.one (.bool bx)) (a.eval x))
   |false=>exact(cg hF h3 dj.2 ⟨hg,rfl⟩:CR w M U (.one (.bool by_)) (a.eval y))
  ·cases hf
 ·rename_i bc o1 t fK h1;cases h2:qb g (y6 L (cond t x y))with
  |none=>rw[h2]at hf;cases hf
  |some p =>
   obtain⟨cx,o2⟩:=p;rw[h2]at hf;cases hf;simp only[bp,dF]at dj;have hc:IR w M (.bool bc) (a.eval c):=cg hF h1 dj.1.1 hg;generalize hv:a.eval c=cv at hc;cases hc;refine Yd.val (dC _ hv) rfl ?_ hW;have h3:CR w M U cx (a.eval (cond t x y)):=cg hF h2 dj.2 hg;obtain rfl:=dj.1.2.1;cases bc <;> exact h3
 ·cases hf
theorem QaR{w':World}{e:TypeId}{ls:List Lf}{vs:Array Value}{id b:Nat}{φ':Pl}(hφ:φ' id=some (some (b,1)))(hb:w'.heap[b]?=some (.cells vs e))(hr:Rs (LR w' M φ') ls vs.toList)(h0:0<ls.length):OR w' M φ' id (K8 e ls):=by
 refine .inl ⟨h0,?_⟩;rw[hφ];refine⟨vs,hb,by rw[<-Qdy,<-hr.len];simp [K8],by simp [K8],by decide,λ_=>rfl,λi c hc=>?_⟩
 cases i with
 |zero =>
  simp [K8]at hc;subst hc;refine⟨rfl,λj l hl=>?_⟩
  obtain⟨v,hv,ZM⟩:=hr.get hl;exact⟨v,by rw[Qbx,Qbu];simpa using hv,ZM⟩
 |succ i=>simp [K8]at hc
theorem JG{e:TypeId}{ls:List Lf}{v:Value}(hn:r.news=[K8 e ls])(hv:r.v=one (.op base ls.length 0 0))(h0:0<ls.length)(hr:Rs (LR w M U) ls v.cells.toList)
  (dC:(execOp a.eval o).run P w=.ok (.value (.pointer (some ⟨w.heap.size,0,none⟩))) (w.alloc (.cells v.cells e))) (td:∀id,base<=id->id<base+r.news.length->U id=none/\hD id=none):
  Yd P G U M hD w base r ((execOp a.eval o).run P w):=by
 have hf:=td base (fa _) (by rw[hn];simp)
 have hb:=lj w (.cells v.cells e);have he:Ex w M U (w.alloc (.cells v.cells e)) M (JL U base (some (w.heap.size,1))):=⟨λb hm=>hb.block b (hW.mlt b hm),λ_ h=>h,uJ _ hf.1⟩
 refine Yd.new (b:=w.heap.size) (C:=1) dC hn hW td hb (fa _) (by simp) ?_ ?_
 ·exact QaR dj hg hF hW (eF _ _ _) (heap_alloc_new w _) (hr.mono λ_ _ h=>LR.mono he h) h0
 ·rw[hv];exact⟨w.heap.size,1,eF _ _ _,by simp⟩
theorem Qac{e:TypeId}(ho:o.op=.alloc e)(hf:AJ P h base g L o.op hs=some r)(td:∀id,base<=id->id<base+r.news.length->U id=none/\hD id=none):Yd P G U M hD w base r ((execOp a.eval o).run P w):=by
 rw[ho]at hf;simp only[AJ]at hf;cases hz:JQ P e with
 |none=>rw[hz]at hf;cases hf
 |some z =>
  rw[hz]at hf;cases hf;obtain⟨i,zv,hi,Zl,S0,h0,Kp,hl⟩:=uN (w:=w) (M:=M) (U:=U) hz;refine JG dj hg hF hW (v:=zv) rfl rfl (by omega) Kp ?_ td
  simp [execOp,ho,Instr.alloc,zeroValue,typeInfo,hi,Zl,newVar,newRow]
theorem QfF{e:TypeId}{x:Operand}(ho:o.op=.box e x)(hf:AJ P h base g L o.op hs=some r)(td:∀id,base<=id->id<base+r.news.length->U id=none/\hD id=none):Yd P G U M hD w base r ((execOp a.eval o).run P w):=by
 rw[ho]at hf;simp only[AJ]at hf;split at hf
 ·rename_i c o1 h1;cases hc:c.cells.isEmpty with
  |true=>rw[hc]at hf;cases hf
  |false =>
   rw[hc]at hf;cases hf;have hx:=(cg hF h1 dj hg).cells;refine JG dj hg hF hW (v:=a.eval x) rfl rfl (by rw[QmH];simpa using hc) hx ?_ td
   simp [execOp,ho,Instr.box,newVar,newRow]
 ·cases hf
theorem TC{x:Operand}(ho:o.op=.nilCheck x)(hf:AJ P h base g L o.op hs=some r):Yd P G U M hD w base r ((execOp a.eval o).run P w):=by
 rw[ho]at hf;simp only[AJ]at hf;split at hf
 ·rename_i c off o1 h1;cases hf;have hx:IR w M (.ip c off) (a.eval x):=cg hF h1 dj hg;generalize hv:a.eval x=xv at hx;have DI:=hx;cases hx with
  |ip _ _ b k vs hm hc hr=>exact Yd.val (by simp [execOp,ho,hv]) rfl DI hW
 ·rename_i id sz row off o1 h1;cases hf;have hx:vh w M U (.op id sz row off) (a.eval x):=cg hF h1 dj hg;obtain⟨b,C,hφ,hv⟩:=hx;exact Yd.val (by simp [execOp,ho,hv]) rfl ⟨b,C,hφ,rfl⟩ hW
 ·cases hf
theorem Qcw{u:UnOp}{t:TypeId}{x:Operand}(ho:o.op=.unOp u t x)(hf:AJ P h base g L o.op hs=some r):Yd P G U M hD w base r ((execOp a.eval o).run P w):=by
 rw[ho]at hf;simp only[AJ]at hf;split at hf
 ·rename_i k n o1 h1;cases hf;have hx:IR w M (.int k n) (a.eval x):=cg hF h1 dj hg;generalize hv:a.eval x=xv at hx;cases hx;exact Yd.val (v:=.int k (cX k 0 n)) (by simp [execOp,ho,hv,Op.unary,Op.intArith,cX]) rfl (IR.int _ _) hW
 ·rename_i b o1 h1;cases hf;have hx:IR w M (.bool b) (a.eval x):=cg hF h1 dj hg;generalize hv:a.eval x=xv at hx;cases hx;exact Yd.val (v:=.bool (!b)) (by simp [execOp,ho,hv,Op.unary]) rfl (IR.bool _) hW
 ·cases hf
theorem Fy{t:TypeId}{f fo n:Nat}{b:Bool}(h:RE P t f=some (fo,n,b)):∃fs fd,P.underlying t=some (.struct fs)/\fs[f]?=some fd/\fd.offset=fo/\CF P fd.type=some n/\A1 P fd.type=some b/\n≠0:=by
 unfold RE at h;split at h
 ·rename_i fs hu;split at h
  ·rename_i fd Nj;split at h
   ·rename_i n' b' h1 h2;cases hn:(n' == 0)with
    |true=>rw[hn]at h;cases h
    |false=>rw[hn]at h;cases h;exact⟨fs,fd,hu,Nj,rfl,h1,h2,by simpa using hn⟩
   ·cases h
  ·cases h
 ·cases h
theorem Ro{t:TypeId}{x:Operand}{f:Nat}(ho:o.op=.fieldAddr t x f)(hf:AJ P h base g L o.op hs=some r):Yd P G U M hD w base r ((execOp a.eval o).run P w):=by
 rw[ho]at hf;simp only[AJ]at hf;split at hf
 ·rename_i fo n Tt cells off o1 h1 h2;cases hf;obtain⟨fs,fd,hu,Nj,rfl,hn,hr,B5⟩:=Fy dj hg hF hW h1;obtain⟨i,hi,jI⟩:=pW hn;have hx:IR w M (.ip cells off) (a.eval x):=cg hF h2 dj hg;generalize hv:a.eval x=xv at hx;cases hx with
  |ip _ _ b k vs hm hc vJ =>
   refine Yd.val (v:=.pointer (some ⟨b,k+(off+fd.offset),none⟩)) ?_ rfl (IR.ip cells _ b k vs hm hc vJ) hW;simp [execOp,ho,hv,Instr.fieldAt,run_underlying hu,Nj,Instr.sureAddr,fieldPlace,run_sizeOf hi,jI,B5,Addr.add_mid,Qkg]
 ·rename_i fo n Tt id sz row off o1 h1 h2;cases hf;obtain⟨fs,fd,hu,Nj,rfl,hn,hr,B5⟩:=Fy dj hg hF hW h1;obtain⟨i,hi,jI⟩:=pW hn;have hx:vh w M U (.op id sz row off) (a.eval x):=cg hF h2 dj hg;obtain⟨b,C,hφ,hv⟩:=hx;refine Yd.val (v:=.pointer (some ⟨b,row*sz+(off+fd.offset),none⟩)) ?_ rfl ⟨b,C,hφ,rfl⟩ hW;simp [execOp,ho,hv,Instr.fieldAt,run_underlying hu,Nj,Instr.sureAddr,fieldPlace,run_sizeOf hi,jI,B5,Addr.add_mid,Qkg]
 ·cases hf
theorem QdS{t:TypeId}{n off:Nat}{Tt:Bool}{ls:List Lf}{vs:List Value}{c:Cm}(ht:CF P t=some n)(hr:A1 P t=some Tt)(hp:wb Tt n off ls=some c)(Kp:Rs (LR w M U) ls vs):
  ∃v,(part t vs.toArray off).run P w=.ok v w/\CR w M U c v:=by
 obtain⟨i,hi,jI⟩:=pW ht;obtain⟨d,hu,hd⟩:=Kg hr;unfold wb at hp;cases Tt with
 |true =>
  simp only[QaF]at hp;cases hl:(((ls.drop off).take n).length == n)with
  |false=>rw[hl]at hp;cases hp
  |true =>
   rw[hl]at hp;cases hp;refine⟨.agg (vs.toArray.extract off (off+n)),?_,((vs.drop off).take n),?_,((Kp.drop off).take n)⟩
   ·unfold part;rw[Sem.run_bind,E7 hu w,hd];simp [run_sizeOf hi,jI]
   ·congr 1;apply Qgf;simp [QnA]
 |false =>
  simp only[Qdn]at hp;cases hl:ls[off]? with
  |none=>rw[hl]at hp;cases hp
  |some l =>
   rw[hl]at hp;cases hp;obtain⟨v,hv,ZM⟩:=Kp.get hl;refine⟨v,?_,ZM⟩;unfold part;rw[Sem.run_bind,E7 hu w,hd];simp [hv]
theorem Qaf{t:TypeId}{x:Operand}{f:Nat}(ho:o.op=.field t x f)(hf:AJ P h base g L o.op hs=some r):Yd P G U M hD w base r ((execOp a.eval o).run P w):=by
 rw[ho]at hf;simp only[AJ]at hf;split at hf
 ·rename_i fo n Tt cells o1 h1 h2;cases hp:wb Tt n fo cells with
  |none=>rw[hp]at hf;cases hf
  |some c =>
   rw[hp]at hf;cases hf;obtain⟨fs,fd,hu,Nj,rfl,hn,hr,B5⟩:=Fy dj hg hF hW h1;obtain⟨vs,hv,Kp⟩:CR w M U (.agg cells) (a.eval x):=cg hF h2 dj hg;obtain⟨v,dC,hc⟩:=QdS dj hg hF hW hn hr hp Kp;refine Yd.val (v:=v) ?_ rfl hc hW;simp [execOp,ho,hv,Instr.field,run_underlying hu,Nj,asAgg,dC]
 ·cases hf
theorem Uz{x:Operand}{i:Nat}(ho:o.op=.extract x i)(hf:AJ P h base g L o.op hs=some r):Yd P G U M hD w base r ((execOp a.eval o).run P w):=by
 rw[ho]at hf;simp only[AJ]at hf;have hx:=H9 hF x;split at hf
 ·rename_i cs h1;rw[h1]at hx;obtain⟨vs,hv,Kp⟩:=hx;cases hc:cs[i]? with
  |none=>rw[hc]at hf;cases hf
  |some c =>
   rw[hc]at hf;cases hf;obtain⟨v,QU,hr⟩:=Kp.get hc;refine Yd.val (v:=v) ?_ rfl hr hW;simp [execOp,ho,hv,Instr.extract,QU]
 ·cases hf
theorem QeN{α:Type}{l:List α}{i:Int}{x:α}(h:bn l i=some x):0<=i/\l[i.toNat]?=some x:=by
 unfold bn at h;split at h
 ·exact⟨‹_›,h⟩
 ·cases h
theorem Rp{t:TypeId}{x ix:Operand}(ho:o.op=.indexAddr t x ix)(hf:AJ P h base g L o.op hs=some r):Yd P G U M hD w base r ((execOp a.eval o).run P w):=by
 rw[ho]at hf;simp only[AJ]at hf;split at hf
 ·rename_i e cl sz rows o1 k n o2 hu h1 h2;split at hf
  ·rename_i c fK;cases jI:(CF P e == some sz)with
   |false=>rw[jI]at hf;cases hf
   |true =>
    rw[jI]at hf;cases hf;simp only[bp,dF]at dj;have hx:IR w M (.sl cl sz rows) (a.eval x):=cg hF h1 dj.1.1 hg;have hi:IR w M (.int k n) (a.eval ix):=cg hF h2 dj.1.2 hg;generalize hv:a.eval x=xv at hx;generalize QU:a.eval ix=iv at hi;cases hi;obtain⟨B5,sK⟩:=QeN (r:=⟨.PY,[],[],[]⟩) trivial hg hF hW dj.2.1;obtain⟨i,yv,I0⟩:=pW (by simpa using jI:CF P e=some sz)
    have iq:=(pB.1 sK).1;cases hx with
    |QF=>simp at sK
    |sl _ _ _ b k0 cap vs hm hl y4 MJ hc hr =>
     refine Yd.val (v:=.pointer (some ⟨b,k0+n.toNat*sz+0,none⟩)) ?_ rfl (IR.ip c 0 b (k0+n.toNat*sz) (vs n.toNat) hm (λj l hj=>hc _ _ j l sK hj) (λj l hj=>hr _ _ j l sK hj)) hW
     have SV:n<rows.length:=by omega
     simp [execOp,ho,hv,QU,Instr.indexAt,asIntOf,run_underlying hu,B5,SV,run_sizeOf yv,I0,Addr.add_mid]
  ·cases hf
 ·rename_i e id sz off len o1 k n o2 hu h1 h2;cases jI:(CF P e == some sz)with
  |false=>rw[jI]at hf;cases hf
  |true =>
   rw[jI]at hf;simp only[QaF]at hf;have key:dF (o1++o2)->0<=n->n<len->Yd P G U M hD w base ⟨one (.op id sz (off+n.toNat) 0),[],[],[]⟩ ((execOp a.eval o).run P w):=λdj B5 SV=>by
    rw[bp]at dj;have hx:vh w M U (.os id sz off len) (a.eval x):=cg hF h1 dj.1 hg;have hi:IR w M (.int k n) (a.eval ix):=cg hF h2 dj.2 hg;generalize QU:a.eval ix=iv at hi;cases hi;obtain⟨i,yv,I0⟩:=pW (by simpa using jI:CF P e=some sz)
    rcases hx with⟨b,C,hφ,hv,hle⟩|⟨_,_,h0,_⟩
    ·refine Yd.val (v:=.pointer (some ⟨b,(off+n.toNat)*sz+0,none⟩)) ?_ rfl ⟨b,C,hφ,rfl⟩ hW;simp [execOp,ho,hv,QU,Instr.indexAt,asIntOf,run_underlying hu,B5,SV,run_sizeOf yv,I0,Addr.add_mid,Qb4]
    ·omega
   split at hf
   ·rename_i j fK;cases hf;rw[bp]at dj;obtain⟨B5,SV,_⟩:=dj.2;subst B5;exact key dj.1 (by omega) (by omega)
   ·cases hf;rw[bp]at dj;obtain⟨B5,SV,_⟩:=dj.2;exact key dj.1 B5 SV
 ·rename_i e id len sz o1 k n o2 hu h1 h2;split at hf
  ·rename_i j fK;cases hc:(CF P e == some sz&&Nat.blt j len)with
   |false=>rw[hc]at hf;cases hf
   |true =>
    rw[hc]at hf;cases hf;simp only[ma,Nat.blt_eq]at hc;obtain⟨jI,hjl⟩:=hc;simp only[bp,dF]at dj;have hx:vh w M U (.bs id len sz) (a.eval x):=cg hF h1 dj.1.1 hg;have hi:IR w M (.int k n) (a.eval ix):=cg hF h2 dj.1.2 hg;obtain⟨hnj,-⟩:=dj.2;subst hnj;generalize QU:a.eval ix=iv at hi;cases hi;obtain⟨i,yv,I0⟩:=pW (by simpa using jI:CF P e=some sz)
    obtain⟨b,hφ,hv⟩:=hx;refine Yd.val (v:=.pointer (some ⟨b,0*(len*sz)+j*sz,none⟩)) ?_ rfl ⟨b,1,hφ,rfl⟩ hW;have h0:(0:Int)<=j:=by omega
    have h1:(j:Int)<len:=by omega
    simp [execOp,ho,hv,QU,Instr.indexAt,asIntOf,run_underlying hu,h0,h1,hjl,run_sizeOf yv,I0,Addr.add_mid]
  ·cases hf
 ·rename_i len e cells off o1 k n o2 hu h1 h2;split at hf
  ·rename_i sz jI;cases O8:(!(len == 0))with
   |false=>rw[O8]at hf;cases hf
   |true =>
    rw[O8]at hf;cases hf;simp only[bp,dF]at dj;have hx:IR w M (.ip cells off) (a.eval x):=cg hF h1 dj.1.1 hg;have hi:IR w M (.int k n) (a.eval ix):=cg hF h2 dj.1.2 hg;generalize hv:a.eval x=xv at hx;generalize QU:a.eval ix=iv at hi;cases hi;obtain⟨B5,SV,_⟩:=dj.2;obtain⟨i,yv,I0⟩:=pW jI;cases hx with
    |ip _ _ b k0 vs hm hc vJ =>
     refine Yd.val (v:=.pointer (some ⟨b,k0+(off+n.toNat*sz),none⟩)) ?_ rfl (IR.ip cells _ b k0 vs hm hc vJ) hW;simp [execOp,ho,hv,QU,Instr.indexAt,asIntOf,run_underlying hu,B5,SV,run_sizeOf yv,I0,Addr.add_mid,Instr.sureAddr,Qkg]
  ·cases hf
 ·rename_i len e id sz row off o1 k n o2 hu h1 h2;split at hf
  ·rename_i esz jI;cases O8:(!(len == 0))with
   |false=>rw[O8]at hf;cases hf
   |true =>
    rw[O8]at hf;simp only[QaF]at hf;have key:dF (o1++o2)->0<=n->n<len->Yd P G U M hD w base ⟨one (.op id sz row (off+n.toNat*esz)),[],[],[]⟩ ((execOp a.eval o).run P w):=λdj B5 SV=>by
     rw[bp]at dj;have hx:vh w M U (.op id sz row off) (a.eval x):=cg hF h1 dj.1 hg;have hi:IR w M (.int k n) (a.eval ix):=cg hF h2 dj.2 hg;generalize QU:a.eval ix=iv at hi;cases hi;obtain⟨i,yv,I0⟩:=pW jI;obtain⟨b,C,hφ,hv⟩:=hx;refine Yd.val (v:=.pointer (some ⟨b,row*sz+(off+n.toNat*esz),none⟩)) ?_ rfl ⟨b,C,hφ,rfl⟩ hW;simp [execOp,ho,hv,QU,Instr.indexAt,asIntOf,run_underlying hu,B5,SV,run_sizeOf yv,I0,Addr.add_mid,Instr.sureAddr,Qkg]
    split at hf
    ·rename_i j fK;cases hf;rw[bp]at dj;obtain⟨B5,SV,_⟩:=dj.2;subst B5;exact key dj.1 (by omega) (by omega)
    ·cases hf;rw[bp]at dj;obtain⟨B5,SV,_⟩:=dj.2;exact key dj.1 B5 SV
  ·cases hf
 ·cases hf
theorem Qag{t:TypeId}{x ix:Operand}(ho:o.op=.index t x ix)(hf:AJ P h base g L o.op hs=some r):Yd P G U M hD w base r ((execOp a.eval o).run P w):=by
 rw[ho]at hf;simp only[AJ]at hf;split at hf
 ·rename_i s o1 k n o2 hu h1 h2;split at hf
  ·rename_i b fK;cases hf;simp only[bp,dF]at dj;have hx:IR w M (.str s) (a.eval x):=cg hF h1 dj.1.1 hg;have hi:IR w M (.int k n) (a.eval ix):=cg hF h2 dj.1.2 hg;generalize hv:a.eval x=xv at hx;generalize QU:a.eval ix=iv at hi;cases hi;cases hx;have hb:=dj.2.1;unfold y8 at hb;split at hb
   ·rename_i h0;refine Yd.val (v:=.int .u8 (cQ b)) ?_ rfl (IR.int _ _) hW;simp [execOp,ho,hv,QU,Instr.index,asIntOf,run_underlying hu,h0,hb,cQ]
   ·cases hb
  ·cases hf
 ·rename_i len e cells o1 k n o2 hu h1 h2;split at hf
  ·rename_i sz Tt jI hrw;cases hp:wb Tt sz (n.toNat*sz) cells with
   |none=>rw[hp]at hf;cases hf
   |some c =>
    rw[hp]at hf;cases hf;simp only[bp,dF]at dj;obtain⟨vs,hv,Kp⟩:CR w M U (.agg cells) (a.eval x):=cg hF h1 dj.1.1 hg;have hi:IR w M (.int k n) (a.eval ix):=cg hF h2 dj.1.2 hg;generalize QU:a.eval ix=iv at hi;cases hi;obtain⟨B5,SV,_⟩:=dj.2;obtain⟨i,yv,I0⟩:=pW jI;obtain⟨v,dC,hc⟩:=QdS (r:=⟨.PY,[],[],[]⟩) trivial hg hF hW jI hrw hp Kp;refine Yd.val (v:=v) ?_ rfl hc hW;simp [execOp,ho,hv,QU,Instr.index,asIntOf,run_underlying hu,B5,SV,run_sizeOf yv,I0,dC]
  ·cases hf
 ·cases hf
omit dj hg hF hW in
theorem Yz:∀{cs:List Cm} {ls:List Lf} {vs:List Value},Qc1 cs=some ls->Rs (CR w M U) cs vs->Rs (vh w M U) ls vs
 | [],_,[],h,_=>by cases h;trivial
 | .one l ::cs,ls,v ::vs,h,hr=>by
  simp only[Qc1]at h;split at h
  ·rename_i nH h1;cases hf:Xa l with
   |true=>rw[hf]at h;cases h
   |false =>
    rw[hf]at h;cases h;exact⟨by have:=hr.1;rwa [CR,Qd hf]at this,Yz h1 hr.2⟩
  ·cases h
 | .agg _ ::_,_,_,h,_=>by cases h
 | [],_,_ ::_,_,h=>h.elim
 |_ ::_,_,[],_,h=>h.elim
theorem TA{f:Fn}{first gZ:Array Operand}(ho:o.op=.makeFunc f first gZ)(hf:AJ P h base g L o.op hs=some r):Yd P G U M hD w base r ((execOp a.eval o).run P w):=by
 rw[ho]at hf;simp only[AJ]at hf;split at hf
 ·rename_i cs o1 h1;cases hfi:first.toList.isEmpty with
  |false=>rw[hfi]at hf;cases hf
  |true =>
   rw[hfi]at hf;simp only[QaF]at hf;split at hf
   ·rename_i ls h2;cases hf;have Kp:=vR hF hg h1 dj;have hc:=Yz h2 Kp;have QsF:first=#[]:=by
     apply Qgf;simpa using hfi
    subst QsF;refine Yd.val (v:=.func f #[] (gZ.toList.map a.eval).toArray) ?_ rfl ⟨_,rfl,hc⟩ hW;have he:gZ.map a.eval=(gZ.toList.map a.eval).toArray:=by apply Qgf;simp
    simp [execOp,ho,Instr.makeFunc,he]
   ·cases hf
 ·cases hf
end
end
section
open Go.RowKit
section
variable {P : Program} {U : Pl} {M : Nat -> Prop} {w : World}
theorem WG{d:Nat}{t:TypeId}{u:TypeDesc}{x y:Lf}{vx vy:Value}{e:Bool}(hu:P.underlying t=some u)(h:Qhr u x y=some e)(hx:LR w M U x vx)(hy:LR w M U y vy):
  (Op.equalIn (d+1) t vx vy).run P w=.ok e w:=by
 unfold Qhr at h;split at h
 ·rename_i k0 k a k' b;by_cases hkk:k=k'
  ·subst hkk;simp only[decide_true,QaF]at h;cases h;have DI:IR w M (.int k a) vx:=hx;have wv:IR w M (.int k b) vy:=hy;cases DI;cases wv;simp [Op.equalIn,run_underlying hu,dk]
  ·simp only[hkk,decide_false,Qdn]at h;cases h
 ·rename_i a b;cases h;have DI:IR w M (.bool a) vx:=hx;have wv:IR w M (.bool b) vy:=hy;cases DI;cases wv;simp [Op.equalIn,run_underlying hu,GL]
 ·rename_i a b;cases h;have DI:IR w M (.str a) vx:=hx;have wv:IR w M (.str b) vy:=hy;cases DI;cases wv;simp [Op.equalIn,run_underlying hu]
 ·cases h
theorem oV{t:TypeId}(hr:A1 P t=some false){vs:Array Value}{k:Nat}{v:Value}(hv:vs[k]?=some v):(part t vs k).run P w=.ok v w:=by
 obtain⟨d,hu,hd⟩:=Kg hr;unfold part;rw[Sem.run_bind,E7 hu w,hd];simp [hv]
theorem YT{d:Nat}{vx vy:List Value}:∀(fs:List Field) (k:Nat) (us:List TypeDesc) (xs ys:List Lf) (e:Bool),YX P k fs=some us->nS us xs ys=some e->Rs (LR w M U) xs (vx.drop k)->Rs (LR w M U) ys (vy.drop k)->
  (forIn fs ((none,()):O Bool×Unit) λf r=>(do
   if f.name≠"_" then do
    if(!(<-Op.equalIn (d+1) f.type (<-part f.type vx.toArray f.offset) (<-part f.type vy.toArray f.offset)))=true then pure (ForInStep.done (some false,()))else pure (ForInStep.yield (none,()))
   else pure (ForInStep.yield (none,())):Sem (ForInStep (O Bool×Unit)))).run P w=.ok (if e then none else some false,()) w
 | [],k,us,xs,ys,e,h1,h2,_,_=>by
  cases h1;cases xs <;> cases ys <;> simp [nS]at h2
  subst h2;simp
 |f ::fs,k,us,xs,ys,e,h1,h2,hx,hy=>by
  simp only[YX]at h1;cases hc:(f.offset == k&&!(f.name == "_")&&(A1 P f.type == some false))with
  |false=>rw[hc]at h1;cases h1
  |true =>
   rw[hc]at h1;simp only[QaF]at h1;simp only[ma,Qbb,QbD,QhT]at hc;obtain⟨⟨AM,Lj⟩,sK⟩:=hc;split at h1
   ·rename_i u Ox hu H5;cases h1;cases xs with
    |nil=>simp [nS]at h2
    |cons x xs =>
     cases ys with
     |nil=>simp [nS]at h2
     |cons y ys =>
      simp only[nS]at h2;split at h2
      ·rename_i e1 e2 he1 OG;cases h2;obtain⟨v1,hv1,QT⟩:=hx.get (i:=0) rfl;obtain⟨v2,QU,lW⟩:=hy.get (i:=0) rfl;have JU:Rs (LR w M U) xs (vx.drop (k+1)):=by have:=hx.drop 1;simpa [QfV,QfY]using this
       have hy1:Rs (LR w M U) ys (vy.drop (k+1)):=by have:=hy.drop 1;simpa [QfV,QfY]using this
       have ih:=YT (d:=d) fs (k+1) Ox xs ys e2 H5 OG JU hy1;have W0:=oV (P:=P) (w:=w) sK (vs:=vx.toArray) (k:=f.offset) (v:=v1) (by rw[AM];simpa using hv1)
       have iH:=oV (P:=P) (w:=w) sK (vs:=vy.toArray) (k:=f.offset) (v:=v2) (by rw[AM];simpa using QU)
       have heq:=WG (d:=d) hu he1 QT lW;rw[Qke];cases e1 with
       |true=>simp [Lj,W0,iH,heq]at ih ⊢;exact ih
       |false=>simp [Lj,W0,iH,heq]
      ·cases h2
   ·cases h1
theorem MF{t:TypeId}{n:Nat}(h:CF P t=some n):(sizeOf t).run P w=.ok n w:=by
 unfold CF at h;cases hi:P.info? t with
 |none=>rw[hi]at h;cases h
 |some i=>rw[hi]at h;cases h;simp [sizeOf,typeInfo,hi]
theorem Ql{d:Nat}{t e0:TypeId}{n:Nat}{u:TypeDesc}{xs ys:List Lf}{vx vy:List Value}{e:Bool}(hu:P.underlying t=some (.array n e0))(iT:P.underlying e0=some u)(sK:A1 P e0=some false)(jI:CF P e0=some 1)
  (he:nS (List.replicate n u) xs ys=some e) (hrx:Rs (LR w M U) xs vx) (hry:Rs (LR w M U) ys vy):(Op.equalIn (d+1+1) t (.agg vx.toArray) (.agg vy.toArray)).run P w=.ok e w:=by
 unfold Op.equalIn;simp only[Sem.run_bind,run_underlying hu,Result.andThen_ok,MF jI];simp only[Qqh,Std.Legacy.Range.size,Qgc,Nat.add_one_sub_one,Nat.div_one];have key:∀(m k:Nat) (xs ys:List Lf) (e:Bool),nS (List.replicate m u) xs ys=some e->Rs (LR w M U) xs (vx.drop k)->Rs (LR w M U) ys (vy.drop k)->
   (forIn (List.range' k m) ((none,()):O Bool×Unit) λi r=>(do
    if(!(<-Op.equalIn (d+1) e0 (<-part e0 vx.toArray (i*1)) (<-part e0 vy.toArray (i*1))))=true then pure (ForInStep.done (some false,()))else pure (ForInStep.yield (none,())):Sem (ForInStep (O Bool×Unit)))).run P w=.ok (if e then none else some false,()) w:=by
  intro m;induction m with
  |zero =>
   intro k xs ys e h2 _ _;cases xs <;> cases ys <;> simp [nS]at h2
   subst h2;simp
  |succ m ih =>
   intro k xs ys e h2 hx hy;rw[Qlz]at h2;cases xs with
   |nil=>simp [nS]at h2
   |cons x xs =>
    cases ys with
    |nil=>simp [nS]at h2
    |cons y ys =>
     simp only[nS]at h2;split at h2
     ·rename_i e1 e2 he1 OG;cases h2;obtain⟨v1,hv1,QT⟩:=hx.get (i:=0) rfl;obtain⟨v2,QU,lW⟩:=hy.get (i:=0) rfl;have JU:Rs (LR w M U) xs (vx.drop (k+1)):=by have:=hx.drop 1;simpa [QfV,QfY]using this
      have hy1:Rs (LR w M U) ys (vy.drop (k+1)):=by have:=hy.drop 1;simpa [QfV,QfY]using this
      have ih:=ih (k+1) xs ys e2 OG JU hy1;have W0:=oV (P:=P) (w:=w) sK (vs:=vx.toArray) (k:=k) (v:=v1) (by simpa using hv1)
      have iH:=oV (P:=P) (w:=w) sK (vs:=vy.toArray) (k:=k) (v:=v2) (by simpa using QU)
      have heq:=WG (d:=d) iT he1 QT lW;rw[List.range'_succ,Qke];cases e1 with
      |true=>simp [W0,iH,heq]at ih ⊢;exact ih
      |false=>simp [W0,iH,heq]
     ·cases h2
 have h3:=key n 0 xs ys e he hrx hry;refine Eq.trans (QaB (λz=>Result.andThen z _) h3) ?_
 cases e <;> simp
end
section
variable {P : Program} {G : bC} {U : Pl} {M : Nat -> Prop} {hD h : Nat -> O Ob} {w : World} {base : Nat} {L : Nat -> AV} {a : Act} {g : Prop} {hs : List Hint} {r : OD} {o : Oper}
theorem Ix{op:BinOp}{t:TypeId}{x y:Operand}{k k':IntKind}{p q:Int}:(eqGuard op t x y (.int k p) (.int k' q)).run P w=.ok () w:=by
 unfold eqGuard;split <;> simp
theorem YS{op:BinOp}{t:TypeId}{x y:Operand}{p q:I}:(eqGuard op t x y (.string p) (.string q)).run P w=.ok () w:=by
 unfold eqGuard;split <;> simp
theorem Nb{op:BinOp}{t:TypeId}{x y:Operand}{p q:Bool}:(eqGuard op t x y (.bool p) (.bool q)).run P w=.ok () w:=by
 unfold eqGuard;split <;> simp
theorem C_{op:BinOp}{t:TypeId}{x y:Operand}{p q:Array Value}(h:P.eqGuardType P.depth t=false):(eqGuard op t x y (.agg p) (.agg q)).run P w=.ok () w:=by
 unfold eqGuard;split <;> simp [h]
def lfV:Lf->Value
 | .int k n=>.int k n
 | .bool b=>.bool b
 | .str s=>.string s
 |_=>undef
theorem QgA{op:BinOp}{k:IntKind}{p q:Int}{t:TypeId}{l:Lf}{ob:List Prop}(h:Qgz op k p q=some (l,ob))(ho:dF ob):(binOp op t (.int k p) (.int k q)).run P w=.ok (lfV l) w/\LR w M U l (lfV l):=by
 cases op <;> simp only[Qgz]at h <;> first
  |(cases h;done)
  |(cases h;refine⟨?_,IR.int _ _⟩;simp [binOp,Op.intArith,lfV,aV,cX,nh];done)
  |(cases h;refine⟨?_,IR.int _ _⟩;have:=ho.1;simp [binOp,Op.intDiv,this,lfV,q_,wV];done)
  |(cases h;refine⟨?_,IR.int _ _⟩;simp [binOp,Op.intBits,lfV,MO,QA,QqT,uO];done)
  |(cases h;refine⟨?_,IR.bool _⟩;simp [binOp,Op.intCmp,lfV,dk,cp,bh,gB,dt,cT];done)
theorem QgC{op:BinOp}{p q:I}{t:TypeId}{l:Lf}{ob:List Prop}(h:QgB op p q = some (l,ob))(ho:dF ob):(binOp op t (.string p) (.string q)).run P w = .ok (lfV l) w/\LR w M U l (lfV l):= by
  cases op <;> simp only[QgB]at h <;> first
    |(cases h;done)
    | (cases h
       have h1:= ho.1;have: ¬(IntKind.i64.max <((p.size + q.size:Nat):Int)):= by
         have:IntKind.i64.max = 9223372036854775807:= by decide
         omega
       refine⟨?_,IR.str _⟩;simp only[binOp,Op.stringOp];rw[if_neg this];rfl)
    |(cases h;refine⟨?_,IR.bool _⟩;simp [binOp,Op.stringOp,lfV,qe,ltS];done)
theorem Qad(dj:dF r.fU)(hg:g)(hF:∀t,AR w M U (L t) (a.tmps.getD t undef))(hW:Wd G U M hD w){op:BinOp}{t u:TypeId}{x y:Operand}(ho:o.op=.binOp op t x y u)(hf:Qbf P L g op t x y hs=some r):
  Yd P G U M hD w base r ((execOp a.eval o).run P w):=by
 unfold Qbf at hf;have dC:∀v,(eqGuard op t x y (a.eval x) (a.eval y)).run P w=.ok () w->(binOp op t (a.eval x) (a.eval y)).run P w=.ok v w->(execOp a.eval o).run P w=.ok (.value v) w:=λv h1 h2=>by
  simp [execOp,ho,h1,h2]
 split at hf
 ·rename_i cx o1 cy o2 h1 h2;cases hb:Qme P op t cx cy with
  |none=>rw[hb]at hf;cases hf
  |some p =>
   obtain⟨l,o3⟩:=p;rw[hb]at hf;cases hf;simp only[bp]at dj;have hx:=cg hF h1 dj.1.1 hg;have hy:=cg hF h2 dj.1.2 hg;unfold Qme at hb;split at hb
   ·rename_i k p k' q;have DI:IR w M (.int k p) (a.eval x):=hx;have wv:IR w M (.int k' q) (a.eval y):=hy;generalize I2:a.eval x=vx at DI dC;generalize Ji:a.eval y=vy at wv dC;cases DI;cases wv;split at hb
    ·cases hb;have h0:¬q<0:=by have:=dj.2.1;omega
     exact Yd.val (dC (.int k (uh k p q)) Ix (by simp [binOp,Op.shift,h0,uh])) rfl (IR.int _ _) hW
    ·cases hb;have h0:¬q<0:=by have:=dj.2.1;omega
     exact Yd.val (dC (.int k (AZ k p q)) Ix (by simp [binOp,Op.shift,h0,AZ])) rfl (IR.int _ _) hW
    ·by_cases hk:k=k'
     ·subst hk;rw[if_pos rfl]at hb;obtain⟨hv,hr⟩:=QgA (P:=P) (w:=w) (M:=M) (U:=U) (t:=t) hb dj.2;exact Yd.val (dC _ Ix hv) rfl hr hW
     ·rw[if_neg hk]at hb;cases hb
   ·rename_i p q;have DI:IR w M (.str p) (a.eval x):=hx;have wv:IR w M (.str q) (a.eval y):=hy;generalize I2:a.eval x=vx at DI dC;generalize Ji:a.eval y=vy at wv dC;cases DI;cases wv;obtain⟨hv,hr⟩:=QgC (P:=P) (w:=w) (M:=M) (U:=U) (t:=t) hb dj.2;exact Yd.val (dC _ YS hv) rfl hr hW
   ·rename_i p q;have DI:IR w M (.bool p) (a.eval x):=hx;have wv:IR w M (.bool q) (a.eval y):=hy;generalize I2:a.eval x=vx at DI dC;generalize Ji:a.eval y=vy at wv dC;cases DI;cases wv;have heq:∀hu:P.underlying t=some .bool,(Op.equal t (.bool p) (.bool q)).run P w=.ok (GL p q) w:=λhu=>by
     have key:∀d,(Op.equalIn (d+1) t (.bool p) (.bool q)).run P w=.ok (GL p q) w:=λd=>by simp [Op.equalIn,run_underlying hu,GL]
     exact key 9999
    split at hb
    ·rename_i hu;cases hb;exact Yd.val (dC (.bool (GL p q)) Nb (by simp [binOp,heq hu])) rfl (IR.bool _) hW
    ·rename_i hu;cases hb;exact Yd.val (dC (.bool (!GL p q)) Nb (by simp [binOp,heq hu])) rfl (IR.bool _) hW
    ·cases hb
   ·rename_i xs ys;split at hb
    ·rename_i us H5;obtain⟨vx,I2,hrx⟩:=hx;obtain⟨vy,Ji,hry⟩:=hy;rw[I2,Ji]at dC;have Zf:∃fs,P.underlying t=some (.struct fs)/\P.stoodInHeld t=false/\P.eqGuardType P.depth t=false/\YX P 0 fs.toList=some us:=by
      unfold Qll at H5;split at H5
      ·rename_i fs hu;cases hc:(!P.stoodInHeld t&&!P.eqGuardType P.depth t)with
       |false=>rw[hc]at H5;cases H5
       |true =>
        rw[hc]at H5;simp only[ma,QbD]at hc;exact⟨fs,hu,hc.1,hc.2,H5⟩
      ·cases H5
     obtain⟨fs,hu,ir,heg,H4⟩:=Zf;have Qpw:∀d e,nS us xs ys=some e->(Op.equalIn (d+1+1) t (.agg vx.toArray) (.agg vy.toArray)).run P w=.ok e w:=λd e he=>by
      have h3:=YT (P:=P) (w:=w) (M:=M) (U:=U) (d:=d) fs.toList 0 us xs ys e H4 he hrx hry;rw[Array.forIn_toList]at h3;unfold Op.equalIn;simp only[Sem.run_bind,run_underlying hu,Result.andThen_ok,run_program,ir];simp only[QmL,if_false,Sem.run_bind,Sem.run_pure,Result.andThen_ok];refine Eq.trans (QaB (λz=>Result.andThen z _) h3) ?_
      cases e <;> simp
     have heq:∀e,nS us xs ys=some e->(Op.equal t (.agg vx.toArray) (.agg vy.toArray)).run P w=.ok e w:=λe he=>Qpw 9998 e he
     clear Qpw;split at hb
     ·rename_i e he;cases hb;exact Yd.val (dC (.bool e) (C_ heg) (by simp [binOp,heq e he])) rfl (IR.bool _) hW
     ·rename_i e he;cases hb;exact Yd.val (dC (.bool (!e)) (C_ heg) (by simp [binOp,heq e he])) rfl (IR.bool _) hW
     ·cases hb
    ·split at hb
     ·rename_i us H5;obtain⟨vx,I2,hrx⟩:=hx;obtain⟨vy,Ji,hry⟩:=hy;rw[I2,Ji]at dC;have Zf:∃n e u,P.underlying t=some (.array n e)/\P.eqGuardType P.depth t=false/\A1 P e=some false/\CF P e=some 1/\P.underlying e=some u/\us=List.replicate n u:=by
       unfold Qlk at H5;split at H5
       ·rename_i n e hu;cases hc:(!P.eqGuardType P.depth t&&(A1 P e == some false)&&(CF P e == some 1))with
        |false=>rw[hc]at H5;cases H5
        |true =>
         rw[hc]at H5;simp only[ma,QbD,Qbb]at hc;cases iT:P.underlying e with
         |none=>rw[iT]at H5;cases H5
         |some u=>rw[iT]at H5;cases H5;exact⟨n,e,u,hu,hc.1.1,hc.1.2,hc.2,iT,rfl⟩
       ·cases H5
      obtain⟨n,e0,u,hu,heg,sK,jI,iT,rfl⟩:=Zf;have heq:∀e,nS (List.replicate n u) xs ys=some e->(Op.equal t (.agg vx.toArray) (.agg vy.toArray)).run P w=.ok e w:=λe he=>Ql (d:=9998) hu iT sK jI he hrx hry
      split at hb
      ·rename_i e he;cases hb;exact Yd.val (dC (.bool e) (C_ heg) (by simp [binOp,heq e he])) rfl (IR.bool _) hW
      ·rename_i e he;cases hb;exact Yd.val (dC (.bool (!e)) (C_ heg) (by simp [binOp,heq e he])) rfl (IR.bool _) hW
      ·cases hb
     ·cases hb
   ·cases hb
 ·cases hf
end
end
section
open Go.RowKit
section
variable {α β : Type} {R : α -> β -> Prop}
theorem Da{sz:Nat}:∀{rows:List (List α)} {i j:Nat} {c:List α} {l:α},(∀c∈rows,c.length=sz)->rows[i]?=some c->c[j]?=some l->rows.flatten[i*sz+j]?=some l
 | [],_,_,_,_,_,h,_=>by simp at h
 |r ::rows,0,j,c,l,hs,h,hj=>by
  simp at h;subst h;rw[Qbx,Qbu,Qji,Qdz (pB.1 hj).1];exact hj
 |r ::rows,i+1,j,c,l,hs,h,hj=>by
  have hr:=hs r (by simp)
  rw[Qji,Qe3 (by rw[hr,Qb4];omega),hr,show(i+1)*sz+j-sz=i*sz+j by rw[Qb4];omega]
  exact Da (λc hc=>hs c (by simp [hc])) (by simpa using h) hj
theorem sA{sz:Nat}:∀{rows:List (List α)},(∀c∈rows,c.length=sz)->rows.flatten.length=rows.length*sz
 | [],_=>by simp
 |r ::rows,hs=>by
  rw[Qji,Qay,hs r (by simp),sA λc hc=>hs c (by simp [hc]),QaA,Qb4];omega
theorem mem_row{rows:List (List α)}{sz:Nat}(h:∀(i:Nat) (c:List α),rows[i]?=some c->c.length=sz):∀c∈rows,c.length=sz:=λc hc=>by
 obtain⟨i,hi⟩:=QeT.1 hc;exact h i c hi
theorem JW{sz:Nat}:∀{n:Nat} {l:List Lf} {i:Nat} {c:List Lf},(chunk sz n l)[i]?=some c->i<n/\c=(l.drop (i*sz)).take sz
 |0,_,_,_,h=>by simp [chunk]at h
 |n+1,l,0,c,h=>by simp [chunk]at h;exact⟨by omega,by simp [h]⟩
 |n+1,l,i+1,c,h=>by
  simp only[chunk,List.getElem?_cons_succ]at h;obtain⟨h1,h2⟩:=JW h;exact⟨by omega,by rw[h2,QfV,Qb4,QfM,QfY]⟩
theorem JX{sz:Nat}:∀{n:Nat} {l:List Lf},(chunk sz n l).length=n
 |0,_=>rfl
 |n+1,l=>by simp [chunk,JX (n:=n)]
end
section
variable {P : Program} {w : World} {M : Nat -> Prop} {U : Pl}
theorem Y1(off:Nat):∀(vs:List Value) (k:Nat) (cs:Array Value),off+k+vs.length<=cs.size->
  ((vs.zipIdx k).foldl (λ(cs:Array Value) (x:Value×Nat)=>cs.setIfInBounds (off+x.2) x.1) cs).toList=cs.toList.take (off+k)++vs++cs.toList.drop (off+k+vs.length)
 | [],k,cs,_=>by simp
 |v ::vs,k,cs,h=>by
  simp only[List.zipIdx_cons,Qfg,QaA]at h ⊢;rw[Y1 off vs (k+1) _ (by simp;omega)]
  have iq:off+k<cs.toList.length:=by simpa using(by omega:off+k<cs.size)
  simp only[Array.toList_setIfInBounds];have e1:(cs.toList.set (off+k) v).take (off+(k+1))=cs.toList.take (off+k)++[v]:=by
   rw[show off+(k+1)=(off+k)+1 by omega,Qdp,List.take_set_of_le (fa _),Qf8 iq];rfl
  have e2:(cs.toList.set (off+k) v).drop (off+(k+1)+vs.length)=cs.toList.drop (off+k+(vs.length+1)):=by
   rw[List.drop_set_of_lt (by omega)];congr 1;omega
  rw[e1,e2];simp
theorem WH{pl:Nat->O (Nat×Nat)}:∀{cs:List (Nat×List Lf)} {vp:List (Nat×Value)} {z out:List Lf} {zc:Array Value},Qk pl z cs=some out->Rs (LR w M U) z zc.toList->
  Rs (λ(p:Nat×List Lf) (q:Nat×Value)=>p.1=q.1/\Rs (LR w M U) p.2 q.2.cells.toList) cs vp->∃oc,Instr.fill pl zc vp=some oc/\Rs (LR w M U) out oc.toList
 | [],[],z,out,zc,h,hz,_=>by cases h;exact⟨zc,rfl,hz⟩
 |(i,ls) ::cs,(j,v) ::vp,z,out,zc,h,hz,hr=>by
  obtain⟨⟨rfl,hv⟩,TW⟩:=hr;simp only at hv;simp only[Qk]at h;split at h
  ·cases h
  ·rename_i off size hp;cases hc:(ls.length == size&&Nat.ble (off+size) z.length)with
   |false=>rw[hc]at h;cases h
   |true =>
    rw[hc]at h;simp only[QaF]at h;simp only[ma,Qbb,Qgg]at hc;have yz:v.cells.size=size:=by rw[<-Qdy,<-hv.len];exact hc.1
    have hzl:z.length=zc.size:=by rw[hz.len];simp
    have hf:=Y1 off v.cells.toList 0 zc (by rw[QhF,Qdy];omega)
    have G6:Rs (LR w M U) (z.take off++ls++z.drop (off+size)) (zc.toList.take off++v.cells.toList++zc.toList.drop (off+size)):=((hz.take off).append hv).append (hz.drop _);have QtB:v.cells.zipIdx.foldl (λ(cs:Array Value) (x:Value×Nat)=>cs.setIfInBounds (off+x.2) x.1) zc=(zc.toList.take off++v.cells.toList++zc.toList.drop (off+size)).toArray:=by
     apply Qgf;rw[<-Array.foldl_toList,Array.toList_zipIdx];rw[QhF,Qdy,yz]at hf;simpa using hf
    obtain⟨oc,h1,h2⟩:=WH (zc:=(zc.toList.take off++v.cells.toList++zc.toList.drop (off+size)).toArray) h (by simpa using G6) TW
    refine⟨oc,?_,h2⟩;simp only[Instr.fill,hp];rw[if_neg (by simp;omega)]
    rw[<-h1,<-QtB]
 | [],_ ::_,_,_,_,_,_,h=>h.elim
 |_ ::_,[],_,_,_,_,_,h=>h.elim
theorem Rs.flat{ls:List Lf}{vs:List Value}(h:Rs (LR w M U) ls vs):∀n,Rs (LR w M U) (List.replicate n ls).flatten (List.replicate n vs).flatten
 |0=>by simp [Rs]
 |n+1=>by simp only[Qlz,Qji];exact h.append (Rs.flat h n)
theorem Gq(zc:Array Value)(n:Nat):((Array.range (n*zc.size)).map λi=>zc[i % zc.size]!).toList=(List.replicate n zc.toList).flatten:=by
 rw[Array.toList_map,Array.toList_range];induction n with
 |zero=>simp
 |succ n ih =>
  rw[List.replicate_succ',QlE,<-ih,Qb4,QfM,List.range_add,Qh0];congr 1;simp only[List.map_map,Qji,List.flatten_nil,Qf1];apply Qga;intro k;rw[Qc0];rcases sh k zc.size with hk|hk
  ·rw[List.getElem?_range hk];have:(n*zc.size+k) % zc.size=k:=by rw[Qf6,Nat.mul_add_mod,QfS hk]
   simp [this,hk]
  ·rw[Qbp (by simpa using hk)];simp [hk]
theorem Wg{w':World}{id b C:Nat}{φ':Pl}{e:TypeId}{sz:Nat}{rows:List (List Lf)}{vs:Array Value}(hφ:φ' id=some (some (b,C)))(hb:w'.heap[b]?=some (.cells vs e))(h0:0<sz)(hs:vs.size=C*sz)(hl:rows.length<=C)(hC:C<=maxLen)
  (hr:∀(i:Nat) (c:List Lf),rows[i]?=some c->c.length=sz/\∀(j:Nat) (l:Lf),c[j]?=some l->∃v,vs[i*sz+j]?=some v/\IR w' M l v):OR w' M φ' id ⟨false,sz,e,rows⟩:=by
 refine .inl ⟨h0,?_⟩;rw[hφ];exact⟨vs,hb,hs,hl,hC,λh=>(by cases h),λi c hc=>⟨(hr i c hc).1,λj l hj=>by simpa using(hr i c hc).2 j l hj⟩⟩
end
section
variable {P : Program} {G : bC} {U : Pl} {M : Nat -> Prop} {hD h : Nat -> O Ob} {w : World} {base : Nat} {L : Nat -> AV} {a : Act} {g : Prop} {hs : List Hint} {r : OD} {o : Oper}
theorem Ow(parts:Array (Nat×Operand)):(parts.map λ(i,x)=>(i,a.eval x)).toList=parts.toList.map λ(i,x)=>(i,a.eval x):=by simp
theorem Qae(dj:dF r.fU)(hg:g)(hF:∀t,AR w M U (L t) (a.tmps.getD t undef))(hW:Wd G U M hD w){t:TypeId}{parts:Array (Nat×Operand)}(ho:o.op=.build t parts)(hf:AJ P h base g L o.op hs=some r):
  Yd P G U M hD w base r ((execOp a.eval o).run P w):=by
 rw[ho]at hf;simp only[AJ]at hf;split at hf
 ·rename_i z pl cs o1 hz Dc k9;cases H4:Qk pl z cs with
  |none=>rw[H4]at hf;cases hf
  |some out =>
   rw[H4]at hf;cases hf;obtain⟨i,zv,hi,Zl,S0,h0,Kp,hl⟩:=uN (w:=w) (M:=M) (U:=U) hz;have hp:=Kb hF hg k9 dj;obtain⟨oc,h1,h2⟩:=WH H4 Kp hp;refine Yd.val (v:=.agg oc) ?_ rfl ⟨oc.toList,by simp,h2⟩ hW
   have hb:P.built t (parts.toList.map λ(i,x)=>(i,a.eval x))=some oc:=by
    unfold Program.built;unfold placesOf at Dc;split at Dc
    ·rename_i n e hu;cases TT:P.info? e with
     |none=>rw[TT]at Dc;cases Dc
     |some ie=>rw[TT]at Dc;cases Dc;simp only[hi,hu,Zl,TT];exact h1
    ·rename_i fs hu;cases hps:fs.toList.mapM (λf=>(P.info? f.type).map λi=>(f.offset,i.size))with
     |none=>rw[hps]at Dc;cases Dc
     |some ps =>
      rw[hps]at Dc;cases Dc;simp only[hi,hu,Zl,hps];have:(λx:Nat=>ps.toArray[x]?)=λx:Nat=>ps[x]?:=by funext x;simp
      rw[this];exact h1
    ·cases Dc
   have hr:=run_build (P:=P) w t (parts.map λ(i,x)=>(i,a.eval x)) oc (by rw[Ow];exact hb)
   simp [execOp,ho,hr]
 ·cases hf
theorem PU(dj:dF r.fU)(hg:g)(hF:∀t,AR w M U (L t) (a.tmps.getD t undef))(hW:Wd G U M hD w){t:TypeId}{n:Nat}{parts:Array (Nat×Operand)}(ho:o.op=.buildSlice t n parts)(hf:AJ P h base g L o.op hs=some r)
  (td:∀id,base<=id->id<base+r.news.length->U id=none/\hD id=none):Yd P G U M hD w base r ((execOp a.eval o).run P w):=by
 rw[ho]at hf;simp only[AJ]at hf;split at hf
 ·rename_i e he;have hu:=jr he;split at hf
  ·rename_i ie z cs o1 TT hz k9;obtain⟨i,zv,hi,Zl,S0,h0,Kp,hl⟩:=uN (w:=w) (M:=M) (U:=U) hz;obtain rfl:ie=i:=by rw[TT]at hi;exact QaL hi
   cases B5:(n == 0&&cs.isEmpty)with
   |true =>
    rw[B5]at hf;cases hf;simp only[ma,Qbb,QkA]at B5;obtain⟨rfl,rfl⟩:=B5;have hp:=Kb hF hg k9 dj;have hpe:parts=#[]:=by
     have:=hp.len;apply Qgv;simpa using this.symm
    subst hpe;refine Yd.grow (v:=.slice (some ⟨w.heap.size,0,none⟩) 0 0) (w':=w.alloc (.cells #[] e)) ?_ rfl (lj w _) (IR.QF true ie.size _ 0 λ_=>rfl) hW
    have hem:∀f:Nat->Value,(Array.range 0).map f=#[]:=λf=>Qgv (by simp)
    simp [execOp,ho,Instr.buildSlice,run_underlying hu,run_sizeOf TT,Instr.fill,newRow,hem]
   |false =>
    rw[B5]at hf;simp only[Qdn]at hf;cases hc:(Nat.ble (n*ie.size) 4096&&!(n == 0))with
    |false=>rw[hc]at hf;cases hf
    |true =>
     rw[hc]at hf;simp only[QaF]at hf;simp only[ma,Qgg,QbD,QhT]at hc;split at hf
     ·rename_i cells H4;have common:dF o1->∃oc:Array Value,Rs (LR w M U) cells oc.toList/\oc.size=n*ie.size/\(Instr.buildSlice t n (parts.map λ(i,x)=>(i,a.eval x))).run P w=.ok (.slice (some ⟨w.heap.size,0,none⟩) n n) (w.alloc (.cells oc e)):=by
       intro Qn;have hp:=Kb hF hg k9 Qn;have hz2:Rs (LR w M U) (List.replicate n z).flatten ((Array.range (n*zv.cells.size)).map λi=>zv.cells[i % zv.cells.size]!).toList:=by rw[Gq];exact Kp.flat n
       obtain⟨oc,h1,h2⟩:=WH H4 hz2 hp;have vH:oc.size=n*ie.size:=by
        have:=h2.len;rw[<-Qdy,<-this];have QsG:∀{cs:List (Nat×List Lf)} {z out:List Lf},Qk (λi=>some (i*ie.size,ie.size)) z cs=some out->out.length=z.length:=by
         intro cs;induction cs with
         |nil=>intro z out h;cases h;rfl
         |cons c cs ih =>
          obtain⟨i,v⟩:=c;intro z out h;simp only[Qk]at h;cases hq:(v.length == ie.size&&Nat.ble (i*ie.size+ie.size) z.length)with
          |false=>rw[hq]at h;cases h
          |true =>
           rw[hq]at h;simp only[ma,Qbb,Qgg]at hq;have:=ih h;rw[this];simp;omega
        rw[QsG H4,sA (sz:=ie.size) (λc hc=>by rw[Ql9 hc];exact hl)];simp
       have dC:(Instr.buildSlice t n (parts.map λ(i,x)=>(i,a.eval x))).run P w=.ok (.slice (some ⟨w.heap.size,0,none⟩) n n) (w.alloc (.cells oc e)):=by
        refine run_buildSlice w t e n _ oc ie zv hu TT Zl (by omega) (by have:n*ie.size≠0:=Nat.mul_ne_zero hc.2 (by omega);exact this) ?_
        rw[Ow,<-S0];rw[<-S0]at h1;exact h1
       exact⟨oc,h2,vH,dC⟩
      cases QbA:cells.all O_ with
      |false =>
       rw[QbA]at hf;simp only[Qdn]at hf;split at hf
       ·cases hf;obtain⟨oc,h2,vH,dC⟩:=common dj;rw[QfM]at vH;have hb:=lj w (.cells oc e);have yt:=td base (fa _) (by simp)
        have OG:Ex w M U (w.alloc (.cells oc e)) M (JL U base (some (w.heap.size,1))):=⟨λb hm=>hb.block b (hW.mlt b hm),λ_ h=>h,uJ _ yt.1⟩
        have y4:cells.length=ie.size:=by rw[h2.len];simpa using vH
        refine Yd.new (b:=w.heap.size) (C:=1) (v:=.slice (some ⟨w.heap.size,0,none⟩) 1 1) (by simp [execOp,ho,dC]) rfl hW td hb (fa _) (by simp) ?_ ?_
        ·exact QaR dj hg hF hW (eF _ _ _) (heap_alloc_new w _) (h2.mono λ_ _ h=>LR.mono OG h) (by omega)
        ·exact .inl ⟨w.heap.size,1,eF _ _ _,by simp,by omega⟩
       ·cases hf
      |true =>
       rw[QbA]at hf;cases hf;obtain⟨oc,h2,vH,dC⟩:=common dj;have hb:=lj w (.cells oc e);have yt:=td base (fa _) (by simp)
       have OG:Ex w M U (w.alloc (.cells oc e)) M (JL U base (some (w.heap.size,n))):=⟨λb hm=>hb.block b (hW.mlt b hm),λ_ h=>h,uJ _ yt.1⟩
       refine Yd.new (b:=w.heap.size) (C:=n) (v:=.slice (some ⟨w.heap.size,0,none⟩) n n) (by simp [execOp,ho,dC]) rfl hW td hb (fa _) (by simp) ?_ ?_
       ·refine Wg (eF _ _ _) (heap_alloc_new w _) h0 vH (by rw[JX];exact fa _) (by have:n<=n*ie.size:=Nat.le_mul_of_pos_right _ h0;simp only[maxLen];omega) λi c DH=>?_
        obtain⟨qc,rfl⟩:=JW DH;have y4:cells.length=n*ie.size:=by rw[h2.len];simpa using vH
        have hle:(i+1)*ie.size<=n*ie.size:=QdB _ qc;rw[Qb4,QfM]at hle;refine⟨by simp;omega,λj l hj=>?_⟩
        have hj2:cells[i*ie.size+j]?=some l:=by
         rw[QdL]at hj;split at hj
         ·rw[Qf_]at hj;exact hj
         ·cases hj
        obtain⟨v,hv,ZM⟩:=h2.get hj2;refine⟨v,by simpa using hv,?_⟩
        exact(LR.QV (Qc8.1 QbA l (QaG hj2)) ZM).mono OG.ck OG.sub
       ·exact .inl ⟨w.heap.size,n,eF _ _ _,by simp,by omega⟩
     ·cases hf
  ·cases hf
 ·cases hf
end
end
section
open Go.RowKit
section
variable {P : Program} {G : bC} {U : Pl} {M : Nat -> Prop} {hD h : Nat -> O Ob} {w : World} {base : Nat} {L : Nat -> AV} {a : Act} {g : Prop} {hs : List Hint} {r : OD} {o : Oper}
theorem uG{R:Lf->Value->Prop}{b sz:Nat}:∀(rows:List (List Lf)) (k:Nat),(∀(i:Nat) (c:List Lf),rows[i]?=some c->c.length=sz)->
  (∀(i:Nat) (c:List Lf) (j:Nat) (l:Lf),rows[i]?=some c->c[j]?=some l->∃v,w.cell? ⟨b,k+i*sz+j,none⟩=some v/\R l v)->∃vs,Rs R rows.flatten vs/\w.rangeAt b k vs
 | [],k,_,_=>⟨[],trivial,λj v h=>by simp at h⟩
 |r ::rows,k,hs,h=>by
  obtain⟨v1,h1,h2⟩:=Qbj (w:=w) (R:=R) (b:=b) r k λj l hj=>by simpa using h 0 r j l rfl hj
  obtain⟨v2,h3,h4⟩:=uG rows (k+sz) (λi c hc=>hs (i+1) c (by simpa using hc)) λi c j l hc hj=>by
   obtain⟨v,hv,hr⟩:=h (i+1) c j l (by simpa using hc) hj
   exact⟨v,by rw[show k+sz+i*sz+j=k+(i+1)*sz+j by rw[Qb4];omega];exact hv,hr⟩
  have hl:v1.length=sz:=by rw[<-h1.len];exact hs 0 r rfl
  refine⟨v1++v2,h1.append h3,λj u hj=>?_⟩
  rcases sh j v1.length with iq|RO
  ·rw[Qdz iq]at hj;exact h2 j u hj
  ·rw[Qe3 RO]at hj;have:=h4 _ _ hj;rw[show k+j=k+sz+(j-v1.length) by omega];exact this
theorem X9: ∀{z z':List Lf} {vs:List Value},QcK z z' = true->Rs (LR w M U) z vs->Rs (IR w M) z' vs
  | [],[],[],_,_ => trivial
  | x :: xs, y :: ys, v :: vs, h, hr => by
    simp only[QcK,ma]at h;refine⟨?_,X9 h.2 hr.2⟩;have h1:= h.1;have hx:= hr.1;cases x <;> cases y <;> first
      |(cases h1;done)
      |skip
    · simp only[ma,QhY,Qbb]at h1;obtain⟨rfl,rfl⟩:= h1;exact hx
    · simp only[Qbb]at h1;subst h1;exact hx
    · simp only[ma,Qbb]at h1;rename_i s1 s2;have e1:s1 = s2:= by
        obtain⟨h1,h2⟩:= h1;cases s1 with |mk d1 => cases s2 with |mk d2 =>
        have h3:d1.size = 0:= h1;have h4:d2.size = 0:= h2;rw[Qgv h3,Qgv h4]
      subst e1;exact hx
    · rename_i cl sz rows;cases cl <;> cases rows <;> first
        |(cases h1;done)
        | (have DI : IR w M .fk v := hx
           cases DI;exact IR.QF false sz none 0 λh => by cases h)
  | [],_ ::_,_,h,_ => by cases h
  |_ ::_,[],_,h,_ => by cases h
  | [],[],_ ::_,_,h => h.elim
  |_ ::_,_,[],_,h => h.elim
theorem Rq(dj:dF r.fU)(hg:g)(hF:∀t,AR w M U (L t) (a.tmps.getD t undef))(hW:Wd G U M hD w){t:TypeId}{x y:Operand}(ho:o.op=.makeSlice t x y)(hf:AJ P h base g L o.op hs=some r)
  (td:∀id,base<=id->id<base+r.news.length->U id=none/\hD id=none):Yd P G U M hD w base r ((execOp a.eval o).run P w):=by
 rw[ho]at hf;simp only[AJ]at hf;split at hf
 ·rename_i e k n o1 k' m o2 z' R fK he h1 h2;split at hf
  ·rename_i ie z TT hz;cases W8:QcK z z' with
   |false=>rw[W8]at hf;cases hf
   |true =>
    rw[W8]at hf;cases hf;simp only[bp,dF]at dj;obtain⟨i,zv,hi,Zl,S0,h0,Kp,hl⟩:=uN (w:=w) (M:=M) (U:=U) hz;obtain rfl:ie=i:=by rw[TT]at hi;exact QaL hi
    have hx:IR w M (.int k n) (a.eval x):=cg hF h1 dj.1.1 hg;have hy:IR w M (.int k' m) (a.eval y):=cg hF h2 dj.1.2 hg;generalize I2:a.eval x=vx at hx;generalize Ji:a.eval y=vy at hy;cases hx;cases hy;obtain⟨B5,hnm,QsV,hmb,hR,-⟩:=dj.2;have hu:=jr he;have hw1:IntKind.i64.wrap n=n:=IntWalk.i64_in n (by omega)
    have hw2:IntKind.i64.wrap m=m:=IntWalk.i64_in m (by omega)
    have hrz:=X9 W8 Kp;have hzl:z'.length=ie.size:=by rw[hrz.len];simpa using S0
    let cur:Array Value:=(Array.range (m.toNat*ie.size)).map λi=>zv.cells[i % zv.cells.size]!
    have WT:cur.toList=(List.replicate m.toNat zv.cells.toList).flatten:=by show((Array.range (m.toNat*ie.size)).map _).toList=_;rw[<-S0];exact Gq _ _
    have k9:cur.size=m.toNat*ie.size:=by show((Array.range (m.toNat*ie.size)).map _).size=_;simp
    have dC:(execOp a.eval o).run P w=.ok (.value (.slice (some ⟨w.heap.size,0,none⟩) n.toNat m.toNat)) (w.alloc (.cells cur e)):=by
     have MI:¬(281474976710656<(ie.bytes:Int)*m):=by omega
     have c1:¬(m<0):=by omega
     have c2:¬(n<0):=by omega
     have c3:¬(m<n):=by omega
     by_cases iU:m.toNat*ie.size=0
     ·have hem:∀f:Nat->Value,(Array.range (m.toNat*ie.size)).map f=#[]:=λf=>Qgv (by simp [iU])
      have QhI:cur=#[]:=hem _;have QmS:∀f:Nat->Value,(Array.range 0).map f=#[]:=λf=>Qgv (by simp)
      simp [execOp,ho,I2,Ji,Instr.makeSlice,run_underlying hu,asInt,asIntOf,typeInfo,TT,hw1,hw2,MI,c1,c2,c3,run_sizeOf TT,newRow,QhI,QmS,iU]
     ·simp [execOp,ho,I2,Ji,Instr.makeSlice,run_underlying hu,asInt,asIntOf,typeInfo,TT,hw1,hw2,MI,c1,c2,c3,run_sizeOf TT,zeroValue,Zl,newRow,iU];rfl
    have yt:=td base (fa _) (by simp)
    have hb:=lj w (.cells cur e);have OG:Ex w M U (w.alloc (.cells cur e)) M (JL U base (some (w.heap.size,m.toNat))):=⟨λb hm=>hb.block b (hW.mlt b hm),λ_ h=>h,uJ _ yt.1⟩
    have O5:R.length=n.toNat:=by rw[<-hR];simp
    refine Yd.new (b:=w.heap.size) (C:=m.toNat) dC rfl hW td hb (fa _) (by simp) ?_ ?_
    ·refine Wg (eF _ _ _) (heap_alloc_new w _) h0 k9 (by omega) (by simp only[maxLen];omega) λi c hc=>?_
     rw[<-hR]at hc;have iq:=(pB.1 hc).1;simp only[Qi0]at iq;have hcz:c=z':=by
      rw[Qjr,if_pos iq]at hc;exact(QaL hc).symm
     subst hcz;refine⟨hzl,λj l hj=>?_⟩
     obtain⟨v,hv,ZM⟩:=hrz.get hj;refine⟨v,?_,ZM.mono OG.ck OG.sub⟩;rw[<-Qmu,WT];exact Da (sz:=ie.size) (rows:=List.replicate m.toNat zv.cells.toList) (λc hc=>by rw[Ql9 hc];simpa using S0) (by rw[Qjr,if_pos (by omega)]) hv
    ·exact .inl ⟨w.heap.size,m.toNat,eF _ _ _,by rw[O5];simp,by omega⟩
  ·cases hf
 ·rename_i e k n o1 k' m o2 j fK he h1 h2;split at hf
  ·rename_i ie z TT hz;cases W8:(!(j == 0)&&Nat.ble (ie.bytes*j) 4096&&Nat.ble j 4096)with
   |false=>rw[W8]at hf;cases hf
   |true =>
    rw[W8]at hf;cases hf;simp only[ma,QbD,QhT,Qgg]at W8;simp only[bp,dF]at dj;obtain⟨i,zv,hi,Zl,S0,h0,Kp,hl⟩:=uN (w:=w) (M:=M) (U:=U) hz;obtain rfl:ie=i:=by rw[TT]at hi;exact QaL hi
    have hx:IR w M (.int k n) (a.eval x):=cg hF h1 dj.1.1 hg;have hy:IR w M (.int k' m) (a.eval y):=cg hF h2 dj.1.2 hg;generalize I2:a.eval x=vx at hx;generalize Ji:a.eval y=vy at hy;cases hx;cases hy;obtain⟨hnj,hmj,-⟩:=dj.2;have B5:0<=n:=by omega
    have hnm:n<=m:=by omega
    have QsV:m<=9223372036854775807:=by omega
    have hmb:(ie.bytes:Int)*m<=140737488355328:=by rw[hmj];have:=W8.1.2;rw[<-QeV];omega
    have hu:=jr he;have hw1:IntKind.i64.wrap n=n:=IntWalk.i64_in n (by omega)
    have hw2:IntKind.i64.wrap m=m:=IntWalk.i64_in m (by omega)
    let cur:Array Value:=(Array.range (m.toNat*ie.size)).map λi=>zv.cells[i % zv.cells.size]!
    have WT:cur.toList=(List.replicate m.toNat zv.cells.toList).flatten:=by show((Array.range (m.toNat*ie.size)).map _).toList=_;rw[<-S0];exact Gq _ _
    have k9:cur.size=m.toNat*ie.size:=by show((Array.range (m.toNat*ie.size)).map _).size=_;simp
    have dC:(execOp a.eval o).run P w=.ok (.value (.slice (some ⟨w.heap.size,0,none⟩) n.toNat m.toNat)) (w.alloc (.cells cur e)):=by
     have MI:¬(281474976710656<(ie.bytes:Int)*m):=by omega
     have c1:¬(m<0):=by omega
     have c2:¬(n<0):=by omega
     have c3:¬(m<n):=by omega
     by_cases iU:m.toNat*ie.size=0
     ·have hem:∀f:Nat->Value,(Array.range (m.toNat*ie.size)).map f=#[]:=λf=>Qgv (by simp [iU])
      have QhI:cur=#[]:=hem _;have QmS:∀f:Nat->Value,(Array.range 0).map f=#[]:=λf=>Qgv (by simp)
      simp [execOp,ho,I2,Ji,Instr.makeSlice,run_underlying hu,asInt,asIntOf,typeInfo,TT,hw1,hw2,MI,c1,c2,c3,run_sizeOf TT,newRow,QhI,QmS,iU]
     ·simp [execOp,ho,I2,Ji,Instr.makeSlice,run_underlying hu,asInt,asIntOf,typeInfo,TT,hw1,hw2,MI,c1,c2,c3,run_sizeOf TT,zeroValue,Zl,newRow,iU];rfl
    have yt:=td base (fa _) (by simp)
    have hb:=lj w (.cells cur e);have OG:Ex w M U (w.alloc (.cells cur e)) M (JL U base (some (w.heap.size,1))):=⟨λb hm=>hb.block b (hW.mlt b hm),λ_ h=>h,uJ _ yt.1⟩
    have hmt:m.toNat=j:=by omega
    have hnt:n.toNat=j:=by omega
    rw[hnt,hmt]at dC;rw[hmt]at WT;have hrf:=Kp.flat j;rw[<-WT]at hrf;refine Yd.new (b:=w.heap.size) (C:=1) dC rfl hW td hb (fa _) (by simp) ?_ ?_
    ·refine QaR (r:=⟨.PY,[],[],[]⟩) trivial hg hF hW (eF _ _ _) (heap_alloc_new w _) (hrf.mono λ_ _ h=>LR.mono OG h) ?_
     rw[sA (sz:=ie.size) (λc hc=>by rw[Ql9 hc];exact hl),Qi0]
     exact Nat.mul_pos (by omega) h0
    ·exact⟨w.heap.size,eF _ _ _,rfl⟩
  ·cases hf
 ·cases hf
theorem Bk{x:O Operand}{c:O Cm}{q:O Int}(hc:QoS w M U a x c)(hb:QgV c=some q):(x=none/\q=none)\/∃y k n,x=some y/\q=some n/\a.eval y=.int k n:=by
 cases x with
 |none =>
  cases c with
  |none=>cases hb;exact .inl ⟨rfl,rfl⟩
  |some c=>exact hc.elim
 |some x =>
  cases c with
  |none=>exact hc.elim
  |some c =>
   unfold QgV at hb;split at hb
   ·rename_i h;cases h
   ·rename_i k n h;cases h;cases hb;have hx:IR w M (.int k n) (a.eval x):=hc;generalize hv:a.eval x=xv at hx;cases hx;exact .inr ⟨x,k,n,rfl,rfl,hv⟩
   ·cases hb
theorem zW{wH:Bool}{len cap:Nat}{lo hi mx:O Value}{ql qh qm:O Int}(hl:(lo=none/\ql=none)\/∃k n,lo=some (.int k n)/\ql=some n)(hh:(hi=none/\qh=none)\/∃k n,hi=some (.int k n)/\qh=some n)
  (hm:(mx=none/\qm=none)\/∃k n,mx=some (.int k n)/\qm=some n) (hmh:qm.isSome->qh.isSome) (h1:0<=ql.getD 0) (h2:ql.getD 0<=qh.getD len) (h3:qh.getD len<=qm.getD cap) (h4:qm.getD cap<=cap) (h5:(len:Int)<=cap):
  (Instr.sliceBounds wH len cap lo hi mx).run P w=.ok ((ql.getD 0).toNat,(qh.getD len).toNat,(qm.getD cap).toNat) w:=by
 have hb:∀(k:IntKind) (n:Int) (y:Nat) (code:BoundsCode),0<=n->n<=(y:Int)->(Instr.sliceBound (.int k n) y code).run P w=.ok n.toNat w:=λk n y code e1 e2=>by
  simp [Instr.sliceBound,asIntOf,e1,e2]
 unfold Instr.sliceBounds;rcases hm with⟨rfl,rfl⟩|⟨km,m,rfl,rfl⟩
 ·rcases hh with⟨rfl,rfl⟩|⟨kh,n,rfl,rfl⟩
  ·rcases hl with⟨rfl,rfl⟩|⟨kl,l,rfl,rfl⟩
   ·simp
   ·simp only[QbG,QfU]at h1 h2 h3 h4 ⊢;simp [hb kl l len _ h1 h2]
  ·rcases hl with⟨rfl,rfl⟩|⟨kl,l,rfl,rfl⟩
   ·simp only[QbG,QfU]at h1 h2 h3 h4 ⊢;simp [hb kh n cap _ h2 h3]
   ·simp only[QbG,QfU]at h1 h2 h3 h4 ⊢;simp [hb kh n cap _ (by omega) h3,hb kl l n.toNat _ h1 (by omega)]
 ·rcases hh with⟨rfl,rfl⟩|⟨kh,n,rfl,rfl⟩
  ·have:=hmh rfl;cases this
  ·rcases hl with⟨rfl,rfl⟩|⟨kl,l,rfl,rfl⟩
   ·simp only[QbG,QfU]at h1 h2 h3 h4 ⊢;simp [hb km m cap _ (by omega) h4,hb kh n m.toNat _ h2 (by omega)]
   ·simp only[QbG,QfU]at h1 h2 h3 h4 ⊢;simp [hb km m cap _ (by omega) h4,hb kh n m.toNat _ (by omega) (by omega),hb kl l n.toNat _ h1 (by omega)]
theorem Qab{t:TypeId}{s:I}{lo hi:O Value}{l hh m:Nat}(hu:P.underlying t=some .string)(hb:(Instr.sliceBounds false s.size s.size lo hi none).run P w=.ok (l,hh,m) w):(Instr.sliceAt t (.string s) lo hi none).run P w=.ok (.string (s.extract l hh)) w:=by
 simp [Instr.sliceAt,run_underlying hu,Instr.slice,hb]
theorem CA{t e:TypeId}{A:O Addr}{len cap:Nat}{lo hi mx:O Value}{l hh m:Nat}{i:TypeInfo}(hu:P.underlying t=some (.slice e))(Cc:P.info? e=some i)(hb:(Instr.sliceBounds true len cap lo hi mx).run P w=.ok (l,hh,m) w):
  (Instr.sliceAt t (.slice A len cap) lo hi mx).run P w=.ok (.slice (if m=l then A else A.map (·.add (l*i.size))) (hh-l) (m-l)) w:=by
 simp [Instr.sliceAt,run_underlying hu,Instr.slice,hb,run_sizeOf Cc]
theorem Qah(dj:dF r.fU)(hg:g)(hF:∀t,AR w M U (L t) (a.tmps.getD t undef))(hW:Wd G U M hD w){t:TypeId}{x:Operand}{lo hi mx:O Operand}(ho:o.op=.slice t x lo hi mx)(hf:AJ P h base g L o.op hs=some r):
  Yd P G U M hD w base r ((execOp a.eval o).run P w):=by
 rw[ho]at hf;simp only[AJ]at hf;have dC:∀v,(Instr.sliceAt t (a.eval x) (lo.map a.eval) (hi.map a.eval) (mx.map a.eval)).run P w=.ok v w->(execOp a.eval o).run P w=.ok (.value v) w:=λv hv=>by simp [execOp,ho,hv]
 split at hf
 ·rename_i c o0 lo' o1 SU o2 mx' o3 h0 h1 h2 h3;cases Ub:SK P h t c lo' SU mx' hs with
  |none=>rw[Ub]at hf;cases hf
  |some r0 =>
   rw[Ub]at hf;cases hf;simp only[bp]at dj;obtain⟨⟨⟨⟨p0,p1⟩,p2⟩,p3⟩,p4⟩:=dj;have hx:=cg hF h0 p0 hg;have e1:=Xz hF hg h1 p1;have e2:=Xz hF hg h2 p2;have e3:=Xz hF hg h3 p3;have conv:∀{x:O Operand} {q:O Int},((x=none/\q=none)\/∃y k n,x=some y/\q=some n/\a.eval y=.int k n)->((x.map a.eval=none/\q=none)\/∃k n,x.map a.eval=some (.int k n)/\q=some n):=λhh=>by
    rcases hh with⟨rfl,rfl⟩|⟨y,k,n,rfl,rfl,e⟩
    ·exact .inl ⟨rfl,rfl⟩
    ·exact .inr ⟨k,n,by simp [e],rfl⟩
   unfold SK at Ub;split at Ub
   ·rename_i s ql qh MI Fz Yi;split at Ub
    ·rename_i hu;cases Ub;obtain⟨q1,q2,q3,-⟩:=p4;have DI:IR w M (.str s) (a.eval x):=hx;generalize hv:a.eval x=xv at DI dC;cases DI;have c1:=conv (Bk e1 MI);have c2:=conv (Bk e2 Fz);have c3:=conv (Bk e3 Yi);have hmx:mx.map a.eval=none:=by rcases c3 with⟨h,_⟩|⟨k,n,_,h⟩;exact h;cases h
     simp only[hmx]at dC;refine Yd.val (dC _ (Qab hu (zW (qm:=none) c1 c2 (.inl ⟨rfl,rfl⟩) (λh=>by cases h) q1 q2 q3 (QaJ _) (QaJ _)))) rfl (IR.str _) hW
    ·cases Ub
   ·rename_i ql qh MI Fz Yi;split at Ub
    ·rename_i e he;cases hts:CF P e with
     |none=>rw[hts]at Ub;cases Ub
     |some sz =>
      rw[hts]at Ub;cases Ub;obtain⟨q1,q2,q3,-⟩:=p4;obtain⟨i,hi,_⟩:=pW hts;have hu:=jr he;have DI:IR w M .fk (a.eval x):=hx;generalize hv:a.eval x=xv at DI dC;cases DI;have c1:=conv (Bk e1 MI);have c2:=conv (Bk e2 Fz);have c3:=conv (Bk e3 Yi);have hmx:mx.map a.eval=none:=by rcases c3 with⟨h,_⟩|⟨k,n,_,h⟩;exact h;cases h
      simp only[hmx]at dC;have lS:(ql.getD 0).toNat=0:=by omega
      have hhi:(qh.getD 0).toNat=0:=by omega
      have Ue:=CA (A:=none) hu hi (zW (P:=P) (w:=w) (wH:=true) (len:=0) (cap:=0) (qm:=none) c1 c2 (.inl ⟨rfl,rfl⟩) (λh=>by cases h) q1 (by simpa using q2) (by simpa using q3) (by simp) (by simp))
      refine Yd.val (dC _ Ue) rfl ?_ hW;simp only[Option.map_none,ite_self];have z1:(qh.getD ((0:Nat):Int)).toNat-(ql.getD 0).toNat=0:=by simp only[QkZ];omega
      have z2:((none:O Int).getD ((0:Nat):Int)).toNat-(ql.getD 0).toNat=0:=by simp
      rw[z1,z2];exact IR.fk
    ·cases Ub
   ·rename_i cl sz rows ql qh qm MI Fz Yi;split at Ub
    ·rename_i e R fK he;cases jI:(CF P e == some sz||rows.isEmpty&&(CF P e).isSome)with
     |false=>rw[jI]at Ub;cases Ub
     |true =>
      rw[jI]at Ub;cases Ub;simp only[bp,dF]at p4;obtain⟨pm,q1,q2,q3,q4,q5,hR,-⟩:=p4;have hu:=jr he;have c1:=conv (Bk e1 MI);have c2:=conv (Bk e2 Fz);have c3:=conv (Bk e3 Yi);have hmh:qm.isSome->qh.isSome:=λhs=>by
       cases qm with
       |none=>cases hs
       |some m=>cases qh with
        |none=>exact pm.1.elim
        |some n=>rfl
      have QeW:∀m,qm=some m->qh=some m:=λm hm=>by
       subst hm;cases qh with
       |none=>exact pm.1.elim
       |some n=>have:m=n:=pm.1;rw[this]
      -- TJ value and its cells
      have Vb:∃i,P.info? e=some i/\(rows≠[]->i.size=sz):=by
       simp only[QeZ,Qbb]at jI;rcases jI with jI|jI
       ·obtain⟨i,hi,hs⟩:=pW jI;exact⟨i,hi,λ_=>hs⟩
       ·simp only[ma,QkA,Qls]at jI;obtain⟨he0,n,hn⟩:=jI;obtain⟨i,hi,_⟩:=pW hn;exact⟨i,hi,λh=>absurd he0 h⟩
      obtain⟨i,hi,his⟩:=Vb;have DI:IR w M (.sl cl sz rows) (a.eval x):=hx;have hlen:R.length=(qh.getD rows.length).toNat-(ql.getD 0).toNat:=by
       rw[<-hR];simp;omega
      generalize hv:a.eval x=xv at DI dC;cases DI with
      |QF _ _ A cap Qbv =>
       simp only[QbH,QkZ]at q1 q2 q3 q4 q5 hlen hR;have WQ:R=[]:=by rw[<-hR];simp
       subst WQ;have SQ:∀m,qm=some m->m=0:=λm hm=>by rw[hm]at q4 q5;simp only[QbG]at q4 q5;rw[QeW m hm]at q2 q3;simp only[QbG]at q2 q3;omega
       have hh0:qh.getD 0=0:=by omega
       refine Yd.val (dC _ (CA hu hi (zW c1 c2 c3 hmh q1 (by simpa using q2) (by
        cases qm with
        |none=>simp only[QfU];simp only[QkZ];omega
        |some m=>have:=SQ m rfl;subst this;simp only[QbG];simp only[QkZ];omega) (by
        cases qm with
        |none=>simp
        |some m=>have:=SQ m rfl;subst this;simp) (by simp)))) rfl ?_ hW
       have lS:(ql.getD 0).toNat=0:=by omega
       have hhi:(qh.getD ((0:Nat):Int)).toNat=0:=by simp only[QkZ];omega
       rw[lS,hhi];refine IR.QF _ sz _ _ λy4=>?_
       cases qm with
       |some m=>have:=SQ m rfl;subst this;rfl
       |none =>
        simp only[Option.isSome_none,QhE,ma]at y4;rw[Qbv y4.1];rfl
      |sl _ _ _ b k cap vs hm hlc y4 MJ xQ vJ =>
       have hhl:(qh.getD rows.length)<=rows.length:=q3;refine Yd.val (dC _ (CA hu hi (zW c1 c2 c3 hmh q1 q2 (by
        cases qm with
        |none=>simp only[QfU];omega
        |some m=>rw[QeW m rfl];simp) (by
        cases qm with
        |none=>simp
        |some m=>simp only[QbG]at q5 ⊢;omega) (by omega)))) rfl ?_ hW
       by_cases WQ:R=[]
       ·subst WQ;simp only[QbH]at hlen;have:(qh.getD rows.length).toNat-(ql.getD 0).toNat=0:=hlen.symm;rw[this];refine IR.QF _ sz _ _ λQbw=>?_
        cases qm with
        |some m=>rw[QeW m rfl]at this q2;simp only[QbG]at this q2 ⊢;omega
        |none =>
         simp only[Option.isSome_none,QhE,ma,Option.isNone_iff_eq_none]at Qbw;rw[Qbw.2]at this;have h9:=y4 Qbw.1;simp only[QfU]at this ⊢;omega
       ·have Qlr:0<R.length:=QmH.2 WQ;have lN:¬((qm.getD cap).toNat=(ql.getD 0).toNat):=by
         cases qm with
         |none=>simp only[QfU];omega
         |some m=>rw[QeW m rfl]at hlen;simp only[QbG]at hlen ⊢;omega
        have Qtj:rows≠[]:=λe=>by subst e;rw[<-hR]at Qlr;simp at Qlr
        rw[if_neg lN,his Qtj,Qjl,Addr.add_mid,<-hlen];have QhK:∀(i:Nat) (c:List Lf),R[i]?=some c->rows[(ql.getD 0).toNat+i]?=some c:=λi c hc=>by
         rw[<-hR,QdL]at hc;split at hc
         ·rw[Qf_]at hc;exact hc
         ·cases hc
        refine IR.sl _ sz R b _ _ (λi j=>vs ((ql.getD 0).toNat+i) j) hm ?_ ?_ (λi c hc=>MJ _ c (QhK i c hc)) (λi c j l hc hj=>?_) (λi c j l hc hj=>vJ _ c j l (QhK i c hc) hj)
        ·cases qm with
         |none=>simp only[QfU];omega
         |some m=>rw[QeW m rfl]at hlen;simp only[QbG]at hlen ⊢;omega
        ·intro Qbw;cases qm with
         |some m=>rw[QeW m rfl]at hlen;simp only[QbG]at hlen ⊢;omega
         |none =>
          simp only[Option.isSome_none,QhE,ma,Option.isNone_iff_eq_none]at Qbw;have h9:=y4 Qbw.1;rw[Qbw.2]at hlen;simp only[QfU]at hlen ⊢;omega
        ·have:=xQ _ c j l (QhK i c hc) hj;rw[show k+(ql.getD 0).toNat*sz+i*sz+j=k+((ql.getD 0).toNat+i)*sz+j by rw[Qb4];omega]
         exact this
    ·cases Ub
   ·cases Ub
 ·cases hf
end
end
section
open Go.RowKit
section
variable {P : Program} {G : bC} {U : Pl} {M : Nat -> Prop} {hD h : Nat -> O Ob} {w : World} {base : Nat} {L : Nat -> AV} {a : Act} {g : Prop} {hs : List Hint} {r : OD} {o : Oper}
theorem PL{l:Lf}{v:Value}{sz size:Nat}{rows:List (List Lf)}{ob:List Prop}{tx e':TypeId}(hW:Wd G U M hD w)(fh:∀id ob,h id=some ob->hD id=some ob)(hk:P.underlying tx=some (.slice e'))(hr:rowsOf h l=some (sz,rows,ob))(ho:dF ob)
  (hs:sz=size\/rows=[]) (hv:LR w M U l v) (hIR:∀id jQ off len b C,l=.os id jQ off len->U id=some (some (b,C))->∀c∈rows,∀x∈c,∀u,IR w M x u->IR w M x u):
  ∃news,Src P size tx v rows.length news w/\Rs (IR w M) rows.flatten news/\(∀(i:Nat) (c:List Lf),rows[i]?=some c->c.length=size):=by
 have y9:∀{c:Nat} {A:O Addr},∃news,Src P size tx (.slice A 0 c) 0 news w/\Rs (IR w M) ([]:List Lf) news:=λ{c A}=>by
  cases A with
  |none=>exact⟨[],Src.ofNil w hk c,trivial⟩
  |some A=>exact⟨[],Src.ofSlice w hk A 0 c [] (by simp) (λj u h=>by simp at h) (λu h=>by simp at h),trivial⟩
 cases l with
 |fk =>
  simp only[rowsOf]at hr;cases hr;have J5:IR w M .fk v:=hv;cases J5;obtain⟨news,h1,h2⟩:=y9 (c:=0) (A:=none);exact⟨news,h1,h2,λi c h=>by simp at h⟩
 |sl cl s rs =>
  simp only[rowsOf]at hr;cases hr;have J5:IR w M (.sl cl sz rows) v:=hv;cases J5 with
  |QF _ _ A cap _=>obtain⟨news,h1,h2⟩:=y9 (c:=cap) (A:=A);exact⟨news,h1,h2,λi c h=>by simp at h⟩
  |sl _ _ _ b k cap vs hm hlc y4 MJ xQ vJ =>
   by_cases lN:rows=[]
   ·subst lN;obtain⟨news,h1,h2⟩:=y9 (c:=cap) (A:=some ⟨b,k,none⟩);exact⟨news,h1,h2,λi c h=>by simp at h⟩
   ·obtain rfl:sz=size:=hs.resolve_right lN;obtain⟨news,h1,h2⟩:=uG (R:=IR w M) (b:=b) (sz:=sz) rows k MJ λi c j l h1 h2=>⟨_,xQ i c j l h1 h2,vJ i c j l h1 h2⟩
    refine⟨news,Src.ofSlice w hk ⟨b,k,none⟩ rows.length cap news ?_ (λj u hj=>by rw[Addr.add_mid];exact h2 j u hj) ?_,h1,MJ⟩
    ·rw[<-h1.len,sA (mem_row MJ)]
    ·exact Rs.Pf (U:=U) (h1.mono λ_ _ h=>IR.lr h)
 |os id s off len =>
  simp only[rowsOf]at hr;split at hr
  ·rename_i o1 Qn;cases hc:(off == 0&&!o1.box&&o1.sz == s)with
   |false=>rw[hc]at hr;cases hr
   |true =>
    rw[hc]at hr;cases hr;simp only[ma,Qbb,QbD]at hc;obtain⟨⟨rfl,p9⟩,jI⟩:=hc;have hO:=hW.fU id o1 (fh id o1 Qn);have hlen:=ho.1;have J5:vh w M U (.os id sz 0 len) v:=hv;rcases J5 with⟨b,C,hφ,rfl,hle⟩|⟨hφ,_,rfl,A,rfl⟩
    ·have O6:=λi c (hc:o1.rows[i]?=some c)=>hO.cell (.inl p9) hφ hc
     have Qp:∀(i:Nat) (c:List Lf),o1.rows[i]?=some c->c.length=sz:=λi c hc=>by
      obtain⟨_,h1⟩:=hO.oc (.inl p9);rw[hφ]at h1;obtain⟨cur,_,_,_,_,_,g6⟩:=h1;rw[(g6 i c hc).1,jI]
     by_cases lN:o1.rows=[]
     ·have O8:len=0:=by rw[<-hlen,lN];rfl
      rw[lN,O8];obtain⟨news,h1,h2⟩:=y9 (c:=C-0) (A:=some ⟨b,0*sz,none⟩);exact⟨news,h1,h2,λi c h=>by simp at h⟩
     ·obtain rfl:sz=size:=hs.resolve_right lN;obtain⟨news,h1,h2⟩:=uG (R:=IR w M) (b:=b) (sz:=sz) o1.rows 0 Qp λi c j l hc hj=>by
       obtain⟨v,hv,hr⟩:=O6 i c hc j l hj;rw[p9]at hr;exact⟨v,by rw[Qbu,<-jI];exact hv,by simpa using hr⟩
      refine⟨news,?_,h1,Qp⟩;rw[hlen,Qbx];refine Src.ofSlice w hk ⟨b,0,none⟩ len (C-0) news ?_ (λj u hj=>by rw[Addr.add_mid];exact h2 j u hj) ?_
      ·rw[<-h1.len,sA (mem_row Qp),hlen]
      ·exact Rs.Pf (U:=U) (h1.mono λ_ _ h=>IR.lr h)
    ·have zI:o1.rows=[]:=Qdx hlen;rw[zI];obtain⟨news,h1,h2⟩:=y9 (c:=0) (A:=A);exact⟨news,h1,h2,λi c h=>by simp at h⟩
  ·cases hr
 |_=>simp only[rowsOf]at hr;cases hr
theorem Qfz{l:Lf}{v:Value}{sz size:Nat}{rows:List (List Lf)}{ob:List Prop}(hW:Wd G U M hD w)(hr:rowsOf hD l=some (sz,rows,ob))(ho:dF ob)(hs:sz=size\/rows=[])(hv:LR w M U l v):
  ∃news,Rs (IR w M) rows.flatten news/\(∀(i:Nat) (c:List Lf),rows[i]?=some c->c.length=size)/\∃A cap,v=.slice A rows.length cap/\(rows≠[]->∃ad,A=some ad/\∀j u,news[j]?=some u->w.cell? (ad.add j)=some u):=by
 have y9:∀{c:Nat} {A:O Addr},∃news,Rs (IR w M) ([]:List (List Lf)).flatten news/\(∀(i:Nat) (c:List Lf),([]:List (List Lf))[i]?=some c->c.length=size)/\∃A' cap,Value.slice A 0 c=.slice A' ([]:List (List Lf)).length cap/\(([]:List (List Lf))≠[]->∃ad,A'=some ad/\∀j u,news[j]?=some u->w.cell? (ad.add j)=some u):=λ{c A} =>
  ⟨[],trivial,λi c h=>by simp at h,A,c,rfl,λh=>absurd rfl h⟩
 cases l with
 |fk =>
  simp only[rowsOf]at hr;cases hr;have J5:IR w M .fk v:=hv;cases J5;exact y9
 |sl cl s rs =>
  simp only[rowsOf]at hr;cases hr;have J5:IR w M (.sl cl sz rows) v:=hv;cases J5 with
  |QF _ _ A cap _=>exact y9
  |sl _ _ _ b k cap vs hm hlc y4 MJ xQ vJ =>
   by_cases lN:rows=[]
   ·subst lN;exact y9
   ·obtain rfl:sz=size:=hs.resolve_right lN;obtain⟨news,h1,h2⟩:=uG (R:=IR w M) (b:=b) (sz:=sz) rows k MJ λi c j l h1 h2=>⟨_,xQ i c j l h1 h2,vJ i c j l h1 h2⟩
    exact⟨news,h1,MJ,_,cap,rfl,λ_=>⟨⟨b,k,none⟩,rfl,λj u hj=>by rw[Addr.add_mid];exact h2 j u hj⟩⟩
 |os id s off len =>
  simp only[rowsOf]at hr;split at hr
  ·rename_i o1 Qn;cases hc:(off == 0&&!o1.box&&o1.sz == s)with
   |false=>rw[hc]at hr;cases hr
   |true =>
    rw[hc]at hr;cases hr;simp only[ma,Qbb,QbD]at hc;obtain⟨⟨rfl,p9⟩,jI⟩:=hc;have hO:=hW.fU id o1 Qn;have hlen:=ho.1;have J5:vh w M U (.os id sz 0 len) v:=hv;rcases J5 with⟨b,C,hφ,rfl,hle⟩|⟨hφ,_,rfl,A,rfl⟩
    ·have O6:=λi c (hc:o1.rows[i]?=some c)=>hO.cell (.inl p9) hφ hc
     have Qp:∀(i:Nat) (c:List Lf),o1.rows[i]?=some c->c.length=sz:=λi c hc=>by
      obtain⟨_,h1⟩:=hO.oc (.inl p9);rw[hφ]at h1;obtain⟨cur,_,_,_,_,_,g6⟩:=h1;rw[(g6 i c hc).1,jI]
     by_cases lN:o1.rows=[]
     ·have O8:len=0:=by rw[<-hlen,lN];rfl
      rw[lN,O8];exact y9
     ·obtain rfl:sz=size:=hs.resolve_right lN;obtain⟨news,h1,h2⟩:=uG (R:=IR w M) (b:=b) (sz:=sz) o1.rows 0 Qp λi c j l hc hj=>by
       obtain⟨v,hv,hr⟩:=O6 i c hc j l hj;rw[p9]at hr;exact⟨v,by rw[Qbu,<-jI];exact hv,by simpa using hr⟩
      refine⟨news,h1,Qp,_,C-0,by rw[hlen],λ_=>⟨⟨b,0*sz,none⟩,rfl,λj u hj=>?_⟩⟩
      rw[Qbx,Addr.add_mid];exact h2 j u hj
    ·have zI:o1.rows=[]:=Qdx hlen;rw[zI];exact y9
  ·cases hr
 |_=>simp only[rowsOf]at hr;cases hr
theorem slice_form{l:Lf}{v:Value}{sz:Nat}{rows:List (List Lf)}{ob:List Prop}(hr:rowsOf h l=some (sz,rows,ob))(hv:LR w M U l v):∃A n c,v=.slice A n c:=by
 cases l with
 |fk=>cases(hv:IR w M .fk v);exact⟨_,_,_,rfl⟩
 |sl cl s rs=>cases(hv:IR w M (.sl cl s rs) v) <;> exact⟨_,_,_,rfl⟩
 |os id s off len =>
  rcases(hv:vh w M U (.os id s off len) v)with⟨b,C,h1,h2,h3⟩|⟨h1,h2,h3,x,h4⟩
  ·exact⟨_,_,_,h2⟩
  ·exact⟨_,_,_,h4⟩
 |_=>simp only[rowsOf]at hr;cases hr
theorem Tx{l:Lf}{v:Value}{sz:Nat}{rows:List (List Lf)}{ob:List Prop}(hr:rowsOf h l=some (sz,rows,ob))(ho:dF ob)(lN:rows≠[])(hv:LR w M U l v):∃A n c,v=.slice (some A) n c:=by
 cases l with
 |fk=>simp only[rowsOf]at hr;cases hr;exact absurd rfl lN
 |sl cl s rs =>
  simp only[rowsOf]at hr;cases hr;cases(hv:IR w M (.sl cl sz rows) v)with
  |QF=>exact absurd rfl lN
  |sl=>exact⟨_,_,_,rfl⟩
 |os id s off len =>
  simp only[rowsOf]at hr;split at hr
  ·rename_i o1 Qn;cases hc:(off == 0&&!o1.box&&o1.sz == s)with
   |false=>rw[hc]at hr;cases hr
   |true =>
    rw[hc]at hr;cases hr;rcases(hv:vh w M U (.os id sz off len) v)with⟨b,C,h1,h2,h3⟩|⟨h1,h2,h3,x,h4⟩
    ·exact⟨_,_,_,h2⟩
    ·have:=ho.1;rw[h3]at this;exact absurd (Qdx this) lN
  ·cases hr
 |_=>simp only[rowsOf]at hr;cases hr
theorem QfG(dj:dF r.fU)(hg:g)(hF:∀t,AR w M U (L t) (a.tmps.getD t undef))(hW:Wd G U M hD w){op:BinOp}{t u:TypeId}{x y:Operand}(ho:o.op=.binOp op t x y u)(hf:Qbg P h L g op t x y hs=some r):
  Yd P G U M hD w base r ((execOp a.eval o).run P w):=by
 unfold Qbg at hf;split at hf
 ·rename_i l o1 o2 e h1 h2 ht;have dC:∀A n c,a.eval x=.slice A n c->a.eval y=.slice none 0 0->(execOp a.eval o).run P w=.ok (.value (.bool A.isNone)) w:=λA n c hx hy=>by
   have hq:(Op.equal t (.slice A n c) (.slice none 0 0)).run P w=.ok A.isNone w:=by
    obtain⟨d,hd⟩:∃d,Op.maxDepth=d+1:=⟨Op.maxDepth-1,rfl⟩;unfold Op.equal;rw[hd];cases A <;> simp [Op.equalIn,run_underlying ht]
   simp [execOp,ho,hx,hy,eqGuard,binOp,hq]
  split at hf
  ·rename_i p fK hr;cases hf;rw[bp]at dj;have hx:LR w M U l (a.eval x):=cg hF h1 dj.1 hg;have hy:IR w M .fk (a.eval y):=cg hF h2 dj.2 hg;obtain⟨sz,rows,ob⟩:=p;obtain⟨A,n,c,hv⟩:=slice_form hr hx;have hyv:a.eval y=.slice none 0 0:=by generalize a.eval y=q at hy;cases hy;rfl
   exact Yd.val (dC A n c hv hyv) rfl ⟨_,rfl⟩ hW
  ·rename_i sz rows o3 fK hr;cases hf;simp only[bp]at dj;obtain⟨⟨⟨p1,p2⟩,p3⟩,lN,-⟩:=dj;have hx:LR w M U l (a.eval x):=cg hF h1 p1 hg;have hy:IR w M .fk (a.eval y):=cg hF h2 p2 hg;obtain⟨A,n,c,hv⟩:=Tx hr p3 lN hx;have hyv:a.eval y=.slice none 0 0:=by generalize a.eval y=q at hy;cases hy;rfl
   exact Yd.val (dC (some A) n c hv hyv) rfl (IR.bool _) hW
  ·cases hf
 ·rename_i l o1 o2 e h1 h2 ht;split at hf
  ·rename_i sz rows o3 fK hr;cases hf;simp only[bp]at dj;obtain⟨⟨⟨p1,p2⟩,p3⟩,lN,-⟩:=dj;have hx:LR w M U l (a.eval x):=cg hF h1 p1 hg;have hy:IR w M .fk (a.eval y):=cg hF h2 p2 hg;obtain⟨A,n,c,hv⟩:=Tx hr p3 lN hx;have hyv:a.eval y=.slice none 0 0:=by generalize a.eval y=q at hy;cases hy;rfl
   have dC:(execOp a.eval o).run P w=.ok (.value (.bool true)) w:=by
    have hq:(Op.equal t (.slice (some A) n c) (.slice none 0 0)).run P w=.ok false w:=by
     obtain⟨d,hd⟩:∃d,Op.maxDepth=d+1:=⟨Op.maxDepth-1,rfl⟩;unfold Op.equal;rw[hd];simp [Op.equalIn,run_underlying ht]
    simp [execOp,ho,hv,hyv,eqGuard,binOp,hq]
   exact Yd.val dC rfl (IR.bool _) hW
  ·cases hf
 ·cases hf
theorem Nf:∀(ns:List Int) (s:I),ns.foldl (λr n=>r.push (UInt8.ofNat n.toNat)) s=⟨s.data++(ns.map λn=>UInt8.ofNat n.toNat).toArray⟩
 | [],s=>by simp
 |n ::ns,s=>by
  rw[Qfg,Nf ns];simp [ByteArray.push]
theorem Vg:∀{J:List Int} {news:List Value},Rs (IR w M) (J.map λn=>[Lf.int .u8 n]).flatten news->news=J.map (Value.int .u8)
 | [],[],_=>rfl
 | [],_ ::_,h=>h.elim
 |n ::J,[],h=>h.elim
 |n ::J,v ::vs,h=>by
  cases h.1;rw[Vg h.2];rfl
theorem Uy{s d:TypeId}{x:Operand}(dj:dF r.fU)(hg:g)(hF:∀t,AR w M U (L t) (a.tmps.getD t undef))(hW:Wd G U M hD w)(fh:∀id ob,h id=some ob->hD id=some ob)(ho:o.op=.convert s d x)(hf:AJ P h base g L o.op hs=some r):Yd P G U M hD w base r ((execOp a.eval o).run P w):=by
 rw[ho]at hf;simp only[AJ]at hf;split at hf
 ·rename_i d1 k k' n o1 h1 h2 h3;cases hf;have hx:IR w M (.int k' n) (a.eval x):=cg hF h3 dj hg;generalize hv:a.eval x=xv at hx;cases hx;refine Yd.val (v:=.int k (Bn k n)) ?_ rfl (IR.int _ _) hW;simp [execOp,ho,hv,convert,run_underlying h1,run_underlying h2,Conv.intToInt,Bn]
 ·rename_i d1 k' n o1 h1 h2 h3;cases hf;have hx:IR w M (.int k' n) (a.eval x):=cg hF h3 dj hg;generalize hv:a.eval x=xv at hx;cases hx;refine Yd.val (v:=.string (QiP n)) ?_ rfl (IR.str _) hW;simp [execOp,ho,hv,convert,run_underlying h1,run_underlying h2,Conv.intToString,QiP]
 ·rename_i d1 s1 o1 h1 h2 h3;cases hf;have hx:IR w M (.str s1) (a.eval x):=cg hF h3 dj hg;generalize hv:a.eval x=xv at hx;cases hx;refine Yd.val (v:=.string s1) ?_ rfl (IR.str _) hW;simp [execOp,ho,hv,convert,run_underlying h1,run_underlying h2]
 ·rename_i e l o1 J fK n1 n2 h1 h2 h3;split at hf
  ·rename_i sz rows o2 h4 h5;cases hc:(sz == 1||rows.isEmpty)with
   |false=>rw[hc]at hf;cases hf
   |true =>
    rw[hc]at hf;cases hf;simp only[bp]at dj;obtain⟨⟨Qn,ho2⟩,jJ,-⟩:=dj;have hx:LR w M U l (a.eval x):=cg hF h3 Qn hg;have Ud:sz=1\/rows=[]:=by
     rw[QeZ]at hc;exact hc.imp (λh=>by simpa using h) (λh=>by simpa using h)
    obtain⟨news,G7,uY,-⟩:=PL (size:=1) hW fh h1 h5 ho2 Ud hx (λ_ _ _ _ _ _ _ _ _ _ _ _ _ h=>h)
    obtain⟨A,n,c,hv⟩:=slice_form h5 hx;rw[hv]at G7;rw[jJ]at uY;have QpQ:=Vg uY;subst QpQ;refine Yd.val (v:=.string (wC J)) ?_ rfl (IR.str _) hW;have hfc:=G7.cells;have hlen:n=rows.length:=by
     have:=G7.len w;simpa [Builtin.lenOf]using this
    have key:(Conv.bytesToString (.slice A n c)).run P w=.ok (.string (wC J)) w:=by
     cases A with
     |none =>
      have:J=[]:=by
       have h6:(Builtin.firstCells 1 rows.length (.slice none n c)).run P w=.ok #[] w:=rfl;rw[h6]at hfc;have h7:=(Result.ok.inj hfc).1;cases J with
       |nil=>rfl
       |cons a b=>simp at h7
      subst this;rfl
     |some A =>
      have h6:(loadCells A n).run P w=.ok (J.map (Value.int .u8)).toArray w:=by
       rw[hlen];have h7:Builtin.firstCells 1 rows.length (.slice (some A) n c)=loadCells A (rows.length*1):=rfl;rw[h7,Nat.mul_one]at hfc;exact hfc
      rw[run_bytesToString w A n c J h6,Nf];simp [wC,ByteArray.empty,ByteArray.emptyWithCapacity];rfl
    simp only[execOp,ho,hv,Sem.run_bind,run_convert_bytes_string w s d e A n c h1 h4 h2,key];simp [Sem.run_pure]
  ·cases hf
 ·cases hf
theorem GQ{t tx ty e:TypeId}{i:TypeInfo}{A:O Addr}{n c:Nat}{x:Value}{news:List Value}(ht:P.underlying t=some (.slice e))(hi:P.info? e=some i)(hs:Src P i.size tx x 0 news w)(hle:n<=c):
  (Builtin.append_ #[t,tx] ty #[.slice A n c,x]).run P w=.ok (.slice A n c) w:=by
 have hn:news=[]:=Qdx (by simpa using hs.newsLen)
 subst hn;have h1:=hs.cells;rcases hs.kind with⟨e',hk⟩|hk <;> cases A <;> simp [Builtin.append_,run_underlying ht,run_underlying hk,sizeOf,typeInfo,hi,hs.len,hle,h1,storeCells]
theorem QaS{w':World}{id b C:Nat}{φ':Pl}{e:TypeId}{sz:Nat}{rows:List (List Lf)}{vs rest:List Value}(hφ:φ' id=some (some (b,C)))(hb:w'.heap[b]?=some (.cells (vs++rest).toArray e))(h0:0<sz)(hs:(vs++rest).length=C*sz)(hl:rows.length<=C)(hC:C<=maxLen)
  (MJ:∀(i:Nat) (c:List Lf),rows[i]?=some c->c.length=sz) (hr:Rs (IR w' M) rows.flatten vs):OR w' M φ' id ⟨false,sz,e,rows⟩:=
 Wg hφ hb h0 (by simpa using hs) hl hC λi c hc=>⟨MJ i c hc,λj l hj=>by
  obtain⟨v,hv,ZM⟩:=hr.get (Da (mem_row MJ) hc hj);refine⟨v,?_,ZM⟩;rw[Qju,Qdz (pB.1 hv).1];exact hv⟩
theorem Ad(z:Array Value)(n:Nat):(Builtin.zeroCells z n).toList.length=n*z.size:=by
 rw[Qdy,size_zeroCells]
theorem O4{t tx ty e:TypeId}{i:TypeInfo}{z x:Value}{A:O Addr}{n c k:Nat}{qU news:List Value}{rows:List (List Lf)}{id:Nat}(hW:Wd G U M hD w)(ht:P.underlying t=some (.slice e))(hi:P.info? e=some i)(hz:i.zero=some z)(S0:z.cells.size=i.size)(h0:0<i.size)
  (hold:(Builtin.firstCells i.size n (.slice A n c)).run P w.drew=.ok qU.toArray w.drew) (hs:Src P i.size tx x k news w) (iq:c<n+k) (ky:n+k<=9223372036854775807) (kY:(n+k)*i.bytes<=140737488355328)
  (QhR:qU.length=n*i.size) (Qp:rows.length=n+k) (MJ:∀(j:Nat) (c:List Lf),rows[j]?=some c->c.length=i.size) (hR:Rs (IR w M) rows.flatten (qU++news)) (hφ:U id=none):
  ∃C w',(Builtin.append_ #[t,tx] ty #[.slice A n c,x]).run P w=.ok (.slice (some ⟨w.heap.size,0,none⟩) (n+k) C) w'/\Below w.heap.size w w'/\w.heap.size<w'.heap.size/\n+k<=C/\OR w' M (JL U id (some (w.heap.size,C))) id ⟨false,i.size,e,rows⟩:=by
 have dC:=run_append_grow_src (P:=P) w t tx ty e i z ht hi hz A n c qU hold x k news hs iq (by omega) (growslice_fits iq kY)
 have RO:=grownCap_ge w (n+k) c e;have hle:=grownCap_le_maxLen w (n+k) c e (by simp only[maxLen];omega)
 have hb:Below w.heap.size w (w.drew.alloc (.cells ((qU++news).toArray++Builtin.zeroCells z.cells (grownCap w (n+k) c e-(n+k))) e)):=((Below.refl _ _).drew).alloc (fa _) _;have he:Ex w M U (w.drew.alloc (.cells ((qU++news).toArray++Builtin.zeroCells z.cells (grownCap w (n+k) c e-(n+k))) e)) M U:=hW.RD hb;refine⟨grownCap w (n+k) c e,_,dC,hb,by simp,RO,?_⟩
 have heq:((qU++news).toArray++Builtin.zeroCells z.cells (grownCap w (n+k) c e-(n+k)))=((qU++news)++(Builtin.zeroCells z.cells (grownCap w (n+k) c e-(n+k))).toList).toArray:=by apply Qgf;simp
 refine QaS (vs:=qU++news) (rest:=(Builtin.zeroCells z.cells (grownCap w (n+k) c e-(n+k))).toList) (eF _ _ _) ?_ h0 ?_ (by omega) hle MJ (hR.mono λ_ _ h=>h.mono he.ck he.sub)
 ·rw[<-heq];exact heap_alloc_new w.drew _
 ·rw[Qay,Qay,QhR,hs.newsLen,Ad,S0,<-Qb4,<-Qb4];congr 1;omega
theorem PT(hg:g)(hW:Wd G U M hD w)(fh:∀id ob,h id=some ob->hD id=some ob){d x:Lf}{vd vx:Value}{t ty:TypeId}{r:OD}{tys:List TypeId}{run:Result Next}(hf:Qbe P h base d x t (tys.headD 0) hs=some r)(dj:dF r.fU)
  (hd:LR w M U d vd) (hx:LR w M U x vx) (dC:∀v w',(Builtin.append_ #[t,tys.headD 0] ty #[vd,vx]).run P w=.ok v w'->run=.ok (.value v) w') (td:∀id,base<=id->id<base+r.news.length->U id=none/\hD id=none):
  Yd P G U M hD w base r run:=by
 simp only[Qbe]at hf;split at hf
 ·rename_i e he;have ht:=jr he;split at hf
  ·rename_i i sz new o1 z hi hro hz;cases hc:(t == tys.headD 0&&(sz == i.size||new.isEmpty))with
   |false=>rw[hc]at hf;cases hf
   |true =>
    rw[hc]at hf;simp only[QaF]at hf;simp only[ma,QeZ,Qbb,QkA]at hc;obtain⟨htt,jI⟩:=hc;rw[<-htt]at dC;obtain⟨i2,zv,Cc,Zl,S0,h0,Kp,hl⟩:=uN (w:=w) (M:=M) (U:=U) hz;obtain rfl:i=i2:=by rw[hi]at Cc;exact QaL Cc
    have core:∀{A:O Addr} {n c:Nat} {qU:List Value} {rows R:List (List Lf)},vd=.slice A n c->(c=n)->(rows=[]->n=0)->dF o1->rows++new=R->(new≠[]\/rows=[])->R.length*i.bytes<=140737488355328->R.length<=9223372036854775807->
      rows.length=n->(Builtin.firstCells i.size n (.slice A n c)).run P w.drew=.ok qU.toArray w.drew->qU.length=n*i.size->(∀(j:Nat) (c:List Lf),rows[j]?=some c->c.length=i.size)->Rs (IR w M) rows.flatten qU->
      r.v=one (.os base i.size 0 R.length)->r.news=[⟨false,i.size,e,R⟩]->Yd P G U M hD w base r run:=by
     intro A n c qU rows R hvd hcn Zj W0 hR lN kY ky Qp hold QhR MJ hRs mM Qks;subst hvd hcn;obtain⟨news,G7,uY,hnl⟩:=PL (size:=i.size) hW fh ht hro W0 jI hx (λ_ _ _ _ _ _ _ _ _ _ _ _ _ h=>h)
     have O5:R.length=c+new.length:=by rw[<-hR,Qay,Qp]
     by_cases B5:new.length=0
     ·have G6:new=[]:=Qdx B5;have zI:rows=[]:=lN.resolve_left (λh=>h G6)
      have kZ:=Zj zI;subst kZ;rw[B5]at G7;have WQ:R=[]:=by rw[<-hR,zI,G6];rfl
      have yt:=td base (fa _) (by rw[Qks];simp)
      refine Yd.L2 (dC _ _ (GQ ht hi G7 (fa _))) Qks hW td (Below.refl _ _) WQ rfl h0 ?_
      rw[mM,WQ];exact .inr ⟨eF _ _ _,rfl,rfl,A,rfl⟩
     ·have yt:=td base (fa _) (by rw[Qks];simp)
      obtain⟨C,w',IH,hb,iq,hle,hO⟩:=O4 (id:=base) (rows:=R) (ty:=ty) hW ht hi Zl S0 h0 hold G7 (by omega) (by omega) (by rw[<-O5];exact kY) QhR O5 (λj c hj=>by
       rw[<-hR]at hj;rcases sh j rows.length with h|h
       ·rw[Qdz h]at hj;exact MJ j c hj
       ·rw[Qe3 h]at hj;exact hnl _ c hj) (by rw[<-hR,QlE];exact hRs.append uY) yt.1
      refine Yd.new (dC _ _ IH) Qks hW td hb (fa _) iq hO ?_
      rw[mM];exact .inl ⟨w.heap.size,C,eF _ _ _,by rw[O5];simp,by omega⟩
    split at hf
    ·rename_i R fK;cases hf;simp only[bp,dF]at dj;obtain⟨p1,hR,kY,ky,-⟩:=dj;have gm:IR w M .fk vd:=hd;cases gm;exact core (rows:=[]) (qU:=[]) rfl rfl (λ_=>rfl) p1 hR (.inr rfl) kY ky rfl (run_firstCells_none w.drew _ _ _ _) (by simp) (λj c h=>by simp at h) trivial rfl rfl
    ·rename_i jQ rows R fK;cases DH:(jQ == i.size||rows.isEmpty)with
     |false=>rw[DH]at hf;cases hf
     |true =>
      rw[DH]at hf;cases hf;simp only[QeZ,Qbb,QkA]at DH;simp only[bp,dF]at dj;obtain⟨⟨p1,pR⟩,kY,ky,-⟩:=dj;have gm:IR w M (.sl true jQ rows) vd:=hd;have hRR:rows++new=R/\(new≠[]\/rows=[]):=⟨pR.1,(Classical.em (new=[])).symm.imp id pR.2.1⟩;cases gm with
      |QF _ _ A cap y4 =>
       obtain rfl:=y4 rfl;refine core (rows:=[]) (qU:=[]) rfl rfl (λ_=>rfl) p1 hRR.1 (.inr rfl) kY ky rfl ?_ (by simp) (λj c h=>by simp at h) trivial rfl rfl
       cases A <;> simp [Builtin.firstCells,loadCells,loadCellsFrom]
      |sl _ _ _ b k cap vs hm hlc y4 MJ xQ vJ =>
       have SQ:=y4 rfl;obtain⟨qU,g1,g2⟩:=uG (R:=IR w M) (b:=b) (sz:=jQ) rows k MJ λi c j l h1 h2=>⟨_,xQ i c j l h1 h2,vJ i c j l h1 h2⟩
       have vH:qU.length=rows.length*i.size:=by
        rw[<-g1.len,sA (mem_row MJ)];rcases DH with h|h
        ·rw[h]
        ·rw[h];simp
       refine core (rows:=rows) (qU:=qU) rfl SQ (λh=>by rw[h];rfl) p1 hRR.1 hRR.2 kY ky rfl ?_ vH (λj c hj=>?_) g1 rfl rfl
       ·exact run_firstCells_some w.drew i.size rows.length ⟨b,k,none⟩ _ cap qU vH (λj v hj=>by rw[Addr.add_mid];exact g2 j v hj)
       ·rw[MJ j c hj];rcases DH with h|h
        ·exact h
        ·rw[h]at hj;simp at hj
    ·cases hf
  ·cases hf
 ·cases hf
theorem PM(w:World){t tx ty e:TypeId}{kx:IntKind}{i:TypeInfo}{z:Value}{n:Int}(ht:P.underlying t=some (.slice e))(hx:P.underlying tx=some (.int kx))(hi:P.info? e=some i)(hz:i.zero=some z)(S0:z.cells.size=i.size)(h0:0<i.size)(hn:0<=n)(ky:n<=9223372036854775807)(kY:(i.bytes:Int)*n<=140737488355328):
  (Builtin.append_ #[t,tx] ty #[.slice none 0 0,.int .i64 n]).run P w=if n.toNat=0 then .ok (.slice none 0 0) w else
   .ok (.slice (some ⟨w.heap.size,0,none⟩) n.toNat (grownCap w n.toNat 0 e)) (w.drew.alloc (.cells (Builtin.zeroCells z.cells n.toNat++Builtin.zeroCells z.cells (grownCap w n.toNat 0 e-n.toNat)) e)):=by
 have hw:IntKind.i64.wrap n=n:=IntWalk.i64_in n (by omega)
 have c1:¬(n<0):=by omega
 have MI:¬(281474976710656<n*(i.bytes:Int)):=by rw[Qdr];omega
 by_cases iU:n.toNat=0
 ·have e0:n=0:=by omega
  subst e0;rw[if_pos (by decide)]
  have h1:IntKind.i64.wrap 0=0:=hw;simp [Builtin.append_,run_underlying ht,run_underlying hx,sizeOf,typeInfo,hi,asInt,asIntOf,h1]
 ·rw[if_neg iU];have iq:0<n.toNat:=QlG iU;have jI:¬(i.size=0):=by omega
  have QrY:¬(9223372036854775807<n):=by omega
  have hbn:n.toNat*i.bytes<=140737488355328:=by
   have:((n.toNat*i.bytes:Nat):Int)<=140737488355328:=by
    rw[QeV,Qj8 hn,Qdr];exact kY
   omega
  have Et:Builtin.nextslicecap n.toNat 0*i.bytes<=281474976710656:=growslice_fits iq hbn;have QrX:¬(281474976710656<Builtin.nextslicecap n.toNat 0*i.bytes):=by omega
  have hm:max n 0=n:=by omega
  have hle:¬n<=0:=by omega
  have hmul:¬(n.toNat*i.size=0):=Nat.ne_of_gt (Nat.mul_pos iq h0);simp [hle,hmul,Builtin.append_,run_underlying ht,run_underlying hx,sizeOf,typeInfo,zeroValue,hi,hz,asInt,asIntOf,hw,c1,MI,iU,jI,QrY,QrX,hm,iq,Question.forced,newRow,grownCap,Builtin.firstCells]
theorem Mx(hg:g)(hW:Wd G U M hD w){vd vx:Value}{k:IntKind}{n:Int}{t tx ty:TypeId}{r:OD}{run:Result Next}(hf:zG P h base .append [.one .fk,.one (.int k n)] [t,tx] hs=some r)(dj:dF r.fU)
  (hd:LR w M U .fk vd) (hx:LR w M U (.int k n) vx) (dC:∀v w',(Builtin.append_ #[t,tx] ty #[vd,vx]).run P w=.ok v w'->run=.ok (.value v) w') (td:∀id,base<=id->id<base+r.news.length->U id=none/\hD id=none):
  Yd P G U M hD w base r run:=by
 simp only[zG]at hf;split at hf
 ·rename_i e kx z' R fK he hux;split at hf
  ·rename_i ie z TT hz;cases W8:(QcK z z'&&decide (k=.i64))with
   |false=>rw[W8]at hf;cases hf
   |true =>
    rw[W8]at hf;cases hf;simp only[ma,QbB]at W8;obtain⟨W8,rfl⟩:=W8;simp only[dF]at dj;obtain⟨B5,ky,kY,hR,-⟩:=dj;obtain⟨i,zv,hi,Zl,S0,h0,Kp,hl⟩:=uN (w:=w) (M:=M) (U:=U) hz;obtain rfl:ie=i:=by rw[TT]at hi;exact QaL hi
    have hu:=jr he;have gm:IR w M .fk vd:=hd;have DI:IR w M (.int .i64 n) vx:=hx;cases gm;cases DI;have QR:=PM (P:=P) w (ty:=ty) hu hux TT Zl S0 h0 B5 ky kY;have O5:R.length=n.toNat:=by rw[<-hR];simp
    have yt:=td base (fa _) (by simp)
    by_cases iU:n.toNat=0
    ·rw[if_pos iU]at QR;have WQ:R=[]:=Qdx (by omega)
     refine Yd.L2 (dC _ _ QR) rfl hW td (Below.refl _ _) WQ rfl h0 ?_
     subst WQ;exact .inr ⟨eF _ _ _,rfl,rfl,none,rfl⟩
    ·rw[if_neg iU]at QR;have hrz:=X9 W8 Kp;have hzl:z'.length=ie.size:=by rw[hrz.len];simpa using S0
     have RO:=grownCap_ge w n.toNat 0 e;have hle:=grownCap_le_maxLen w n.toNat 0 e (by simp only[maxLen];omega)
     generalize hC:grownCap w n.toNat 0 e=C at *;have hb:Below w.heap.size w (w.drew.alloc (.cells (Builtin.zeroCells zv.cells n.toNat++Builtin.zeroCells zv.cells (C-n.toNat)) e)):=((Below.refl _ _).drew).alloc (fa _) _;have OG:Ex w M U (w.drew.alloc (.cells (Builtin.zeroCells zv.cells n.toNat++Builtin.zeroCells zv.cells (C-n.toNat)) e)) M (JL U base (some (w.heap.size,C))):=⟨λb hm=>hb.block b (hW.mlt b hm),λ_ h=>h,uJ _ yt.1⟩
     have hzc:(Builtin.zeroCells zv.cells n.toNat).toList=(List.replicate n.toNat zv.cells.toList).flatten:=Gq _ _;refine Yd.new (b:=w.heap.size) (C:=C) (dC _ _ QR) rfl hW td hb (fa _) (by simp) ?_ ?_
     ·refine Wg (eF _ _ _) (heap_alloc_new w.drew _) h0 ?_ (by omega) hle λi c hc=>?_
      ·rw[Array.size_append,<-Qdy,<-Qdy,Ad,Ad,S0,<-Qb4];congr 1;omega
      ·rw[<-hR]at hc;have iq:=(pB.1 hc).1;simp only[Qi0]at iq;have hcz:c=z':=by
        rw[Qjr,if_pos iq]at hc;exact(QaL hc).symm
       subst hcz;refine⟨hzl,λj l hj=>?_⟩
       obtain⟨v,hv,ZM⟩:=hrz.get hj;refine⟨v,?_,ZM.mono OG.ck OG.sub⟩;have H4:=Da (sz:=ie.size) (rows:=List.replicate n.toNat zv.cells.toList) (i:=i) (j:=j) (λc hc=>by rw[Ql9 hc];simpa using S0) (by rw[Qjr,if_pos (by omega)]) hv
       rw[<-hzc]at H4;rw[<-Qmu,Array.toList_append,Qdz (pB.1 H4).1];exact H4
     ·exact .inl ⟨w.heap.size,C,eF _ _ _,by rw[O5];simp,by omega⟩
  ·cases hf
 ·cases hf
end
end
section
open Go.RowKit Go.MapKept
section
variable {P : Program} {G : bC} {U : Pl} {M : Nat -> Prop} {hD h : Nat -> O Ob} {w : World} {base : Nat} {L : Nat -> AV} {a : Act} {g : Prop} {hs : List Hint} {r : OD} {o : Oper}
theorem Qe9{kt:TypeId}{k:Lf}{kv:Value}(h:IL P kt k=true)(hk:LR w M U k kv):∃d,P.underlying kt=some d/\IsKey d kv:=by
 cases k with
 |int q n =>
  simp only[IL]at h;split at h
  ·rename_i q' hu;cases(hk:IR w M (.int q n) kv);exact⟨_,hu,by simpa [IsKey]using h⟩
  ·cases h
 |str s =>
  simp only[IL]at h;split at h
  ·rename_i hu;cases(hk:IR w M (.str s) kv);exact⟨_,hu,trivial⟩
  ·cases h
 |_=>simp only[IL]at h;cases h
theorem QbM{kt:TypeId}{k:Lf}{kv:Value}(h:IL P kt k=true)(hk:LR w M U k kv):IR w M k kv:=by
 cases k with
 |int q n=>exact hk
 |str s=>exact hk
 |_=>simp only[IL]at h;cases h
theorem Pa{k k':Lf}{kv kv':Value}{b:Bool}{d:TypeDesc}(h:Mc k k'=some b)(hk:IR w M k kv)(xw:IR w M k' kv')(hd:IsKey d kv):Instr.sameNow d kv kv'=some b/\(b=true->kv'=kv):=by
 unfold Mc at h;split at h
 ·rename_i q x q' y;cases hk;cases xw;by_cases hq:q=q'
  ·subst hq;rw[if_pos rfl]at h;cases h;cases d <;> simp [IsKey]at hd
   subst hd;refine⟨by simp [Instr.sameNow],λe=>?_⟩
   have:x=y:=by simpa using e
   rw[this]
  ·rw[if_neg hq]at h;cases h
 ·rename_i x y;cases hk;cases xw;cases h;cases d <;> simp [IsKey]at hd
  refine⟨by simp [Instr.sameNow],λe=>?_⟩
  have:x=y:=(bytes_beq x y).1 e;rw[this]
 ·cases h
theorem Eu{k:Lf}{Nt:List Lf}{b:Bool}{kv:Value}(h:xt [k] Nt=some b)(hk:KyR w M Nt kv):∃k' c,Nt=[k']/\Mc k k'=some c/\b=c/\IR w M k' kv:=by
 cases Nt with
 |nil=>simp [xt]at h
 |cons k' r =>
  cases r with
  |nil =>
   simp only[xt]at h;split at h
   ·rename_i a c h1 h2;cases h2;cases h;rcases hk with⟨q,hq,hr⟩|⟨h2,_⟩
    ·cases hq;exact⟨k',a,rfl,h1,by simp,hr⟩
    ·simp at h2
   ·cases h
  |cons x r =>
   simp only[xt]at h;split at h
   ·rename_i a c h1 h2;cases h2
   ·cases h
theorem Qr:∀{us:List TypeDesc} {ks:List Lf} {vs:List Value},cK us ks=true->Rs (LR w M U) ks vs->Rs (IR w M) ks vs
 |_,[],[],_,_=>trivial
 |u ::us,k ::ks,v ::vs,hf,h=>by
  have key:IR w M k v/\cK us ks=true:=by
   cases u with
   |int q =>
    cases k with
    |int q1 x =>
     simp only[cK,ma]at hf;exact⟨h.1,hf.2⟩
    |_=>simp [cK]at hf
   |string =>
    cases k with
    |str x =>
     simp only[cK]at hf;exact⟨h.1,hf⟩
    |_=>simp [cK]at hf
   |_=>simp [cK]at hf
  exact⟨key.1,Qr key.2 h.2⟩
 | [],_ ::_,_,hf,_=>by simp [cK]at hf
 |_,[],_ ::_,_,h=>h.elim
 |_,_ ::_,[],_,h=>h.elim
theorem ZA{k z v:Lf}{kv:Value}{d:TypeDesc}(hk:IR w M k kv)(hd:IsKey d kv):∀{rs:List (List Lf)} {es:List MapEntry} {i:Nat},Rs (BP w M) rs es->EN rs [k] z=some v->
  ∃r,Instr.findNow d kv es i=some r/\((r=none/\v=z)\/∃j u,r=some (j,u)/\IR w M v u)
 | [],[],i,_,h=>by
  simp only[EN]at h;cases h;exact⟨none,rfl,.inl ⟨rfl,rfl⟩⟩
 |_ ::rs,e ::es,i,hr,h=>by
  obtain⟨⟨v',Nt,rfl,h1,h2⟩,h3⟩:=hr;simp only[EN]at h;split at h
  ·rename_i hq;cases h;obtain⟨k',b,rfl,hb,rfl,xw⟩:=Eu hq h2;exact⟨some (i,e.val),by simp [Instr.findNow,(Pa hb hk xw hd).1],.inr ⟨i,e.val,rfl,h1⟩⟩
  ·rename_i hq;obtain⟨k',b,rfl,hb,rfl,xw⟩:=Eu hq h2;have hs:=(Pa hb hk xw hd).1;have e1:Instr.findNow d kv (e ::es) i=Instr.findNow d kv es (i+1):=by simp [Instr.findNow,hs]
   rw[e1];exact ZA hk hd h3 h
  ·cases h
 | [],_ ::_,_,hr,_=>hr.elim
 |_ ::_,[],_,hr,_=>hr.elim
theorem ZB{k:Lf}{kv:Value}{d:TypeDesc}{b:Bool}(hk:IR w M k kv)(hd:IsKey d kv):∀{rs:List (List Lf)} {es:List MapEntry} {i:Nat},Rs (BP w M) rs es->ND rs [k]=some b->
  ∃r,Instr.findNow d kv es i=some r/\b=r.isSome
 | [],[],i,_,h=>by
  simp only[ND]at h;cases h;exact⟨none,rfl,rfl⟩
 |_ ::rs,e ::es,i,hr,h=>by
  obtain⟨⟨v',Nt,rfl,h1,h2⟩,h3⟩:=hr;simp only[ND]at h;split at h
  ·rename_i hq;cases h;obtain⟨k',b,rfl,hb,rfl,xw⟩:=Eu hq h2;exact⟨some (i,e.val),by simp [Instr.findNow,(Pa hb hk xw hd).1],rfl⟩
  ·rename_i hq;obtain⟨k',b,rfl,hb,rfl,xw⟩:=Eu hq h2;have hs:=(Pa hb hk xw hd).1;have e1:Instr.findNow d kv (e ::es) i=Instr.findNow d kv es (i+1):=by simp [Instr.findNow,hs]
   rw[e1];exact ZB hk hd h3 h
  ·cases h
 | [],_ ::_,_,hr,_=>hr.elim
 |_ ::_,[],_,hr,_=>hr.elim
theorem ZC{k v:Lf}{kv vv:Value}{d:TypeDesc}(hk:IR w M k kv)(hv:IR w M v vv)(hd:IsKey d kv):∀{rs R:List (List Lf)} {es:List MapEntry} {i:Nat},Rs (BP w M) rs es->Cl rs [k] v=some R->
  (Instr.findNow d kv es i=some none/\∀b,Rs (BP w M) R (es++[⟨kv,vv,b⟩]))\/
  ∃j u e,Instr.findNow d kv es i=some (some (i+j,u))/\es[j]?=some e/\e.key=kv/\Rs (BP w M) R (es.set j {e with key:=kv,val:=vv})
 | [],R,[],i,_,h=>by
  simp only[Cl]at h;cases h;exact .inl ⟨rfl,λb=>⟨⟨v,[k],rfl,hv,.inl ⟨k,rfl,hk⟩⟩,trivial⟩⟩
 |_ ::rs,R,e ::es,i,hr,h=>by
  obtain⟨⟨v',Nt,rfl,h1,h2⟩,h3⟩:=hr;simp only[Cl]at h;split at h
  ·rename_i hq;cases h;obtain⟨k',b,rfl,hb,rfl,xw⟩:=Eu hq h2;obtain⟨g1,g2⟩:=Pa hb hk xw hd;exact .inr ⟨0,e.val,e,by simp [Instr.findNow,g1],rfl,g2 rfl,⟨v,[k],rfl,hv,.inl ⟨k,rfl,hk⟩⟩,h3⟩
  ·rename_i hq;obtain⟨k',b,rfl,hb,rfl,xw⟩:=Eu hq h2;have hs:=(Pa hb hk xw hd).1;have e1:Instr.findNow d kv (e ::es) i=Instr.findNow d kv es (i+1):=by simp [Instr.findNow,hs]
   rw[e1];cases hp:Cl rs [k] v with
   |none=>rw[hp]at h;cases h
   |some R' =>
    rw[hp]at h;cases h;rcases ZC hk hv hd (i:=i+1) h3 hp with⟨q1,q2⟩|⟨j,u,e',q1,q2,q3,q4⟩
    ·exact .inl ⟨q1,λb=>⟨⟨v',[k'],rfl,h1,.inl ⟨k',rfl,xw⟩⟩,q2 b⟩⟩
    ·exact .inr ⟨j+1,u,e',by rw[q1,show i+1+j=i+(j+1) by omega],by simpa using q2,q3,⟨v',[k'],rfl,h1,.inl ⟨k',rfl,xw⟩⟩,q4⟩
  ·cases h
 | [],_,_ ::_,_,hr,_=>hr.elim
 |_ ::_,_,[],_,hr,_=>hr.elim
theorem FC:∀{us:List TypeDesc} {ks Nt:List Lf} {b:Bool},cK us ks=true->xt ks Nt=some b->nS us ks Nt=some b
 | [],[],[],b,_,h=>h
 |u ::us,k ::ks,k' ::Nt,b,hf,h=>by
  simp only[xt]at h;split at h
  ·rename_i a c h1 h2;cases h;have key:Qhr u k k'=some a/\cK us ks=true:=by
    cases u with
    |int q =>
     cases k with
     |int q1 x =>
      simp only[cK,ma,QhY]at hf;cases k' with
      |int q2 y =>
       simp only[Mc]at h1;by_cases hq:q1=q2
       ·rw[if_pos hq]at h1;cases h1;exact⟨by simp [Qhr,hq,dk],hf.2⟩
       ·rw[if_neg hq]at h1;cases h1
      |_=>simp [Mc]at h1
     |_=>simp [cK]at hf
    |string =>
     cases k with
     |str x =>
      simp only[cK]at hf;cases k' with
      |str y=>simp only[Mc]at h1;cases h1;exact⟨rfl,hf⟩
      |_=>simp [Mc]at h1
     |_=>simp [cK]at hf
    |_=>simp [cK]at hf
   simp only[nS,key.1,FC key.2 h2]
  ·cases h
 | [],_ ::_,_,_,hf,_=>by simp [cK]at hf
 |_ ::_,[],_,_,hf,_=>by simp [cK]at hf
 | [],[],_ ::_,_,_,h=>by simp [xt]at h
 |_ ::_,_ ::_,[],_,_,h=>by simp [xt]at h
theorem Nr:∀{ks Nt:List Lf} {b:Bool},xt ks Nt=some b->ks.length=Nt.length
 | [],[],_,_=>rfl
 |k ::ks,k' ::Nt,b,h=>by
  simp only[xt]at h;split at h
  ·rename_i h1 h2;simp [Nr h2]
  ·cases h
 | [],_ ::_,_,h=>by simp [xt]at h
 |_ ::_,[],_,h=>by simp [xt]at h
theorem Vj:∀{us:List TypeDesc} {ks Nt:List Lf} {vs vs':List Value},cK us ks=true->xt ks Nt=some true->Rs (IR w M) ks vs->Rs (IR w M) Nt vs'->vs'=vs
 | [],[],[],vs,vs',_,_,h1,h2=>by
  cases vs with
  |nil=>cases vs' with
   |nil=>rfl
   |cons _ _=>exact h2.elim
  |cons _ _=>exact h1.elim
 |u ::us,k ::ks,k' ::Nt,vs,vs',hf,h,h1,h2=>by
  cases vs with
  |nil=>exact h1.elim
  |cons v vs =>
   cases vs' with
   |nil=>exact h2.elim
   |cons v' vs' =>
    simp only[xt]at h;split at h
    ·rename_i a c e1 e2;have hac:a=true/\c=true:=by simpa using h
     obtain⟨rfl,rfl⟩:=hac;have key:v'=v/\cK us ks=true:=by
      cases u with
      |int q =>
       cases k with
       |int q1 x =>
        simp only[cK,ma,QhY]at hf;cases k' with
        |int q2 y =>
         simp only[Mc]at e1;by_cases hq:q1=q2
         ·rw[if_pos hq]at e1;have hxy:x=y:=by simpa using e1
          have g1:IR w M (.int q1 x) v:=h1.1;have g2:IR w M (.int q2 y) v':=h2.1;cases g1;cases g2;exact⟨by rw[hq,hxy],hf.2⟩
         ·rw[if_neg hq]at e1;cases e1
        |_=>simp [Mc]at e1
       |_=>simp [cK]at hf
      |string =>
       cases k with
       |str x =>
        simp only[cK]at hf;cases k' with
        |str y =>
         simp only[Mc]at e1;have hxy:x=y:=(bytes_beq x y).1 (by simpa using e1)
         have g1:IR w M (.str x) v:=h1.1;have g2:IR w M (.str y) v':=h2.1;cases g1;cases g2;exact⟨by rw[hxy],hf⟩
        |_=>simp [Mc]at e1
       |_=>simp [cK]at hf
      |_=>simp [cK]at hf
     rw[key.1,Vj key.2 e2 h1.2 h2.2]
    ·cases h
 | [],_ ::_,_,_,_,hf,_,_,_=>by simp [cK]at hf
 |_ ::_,[],_,_,_,hf,_,_,_=>by simp [cK]at hf
 | [],[],_ ::_,_,_,_,h,_,_=>by simp [xt]at h
 |_ ::_,_ ::_,[],_,_,_,h,_,_=>by simp [xt]at h
theorem Ns{n:Nat}:∀{us:List TypeDesc} {ks:List Lf} {vs:List Value},cK us ks=true->Rs (IR w M) ks vs->((vs.zip vs).all λ(x,y)=>Instr.sameBits n x y)=true
 | [],[],vs,_,h1=>by
  cases vs with
  |nil=>rfl
  |cons _ _=>exact h1.elim
 |u ::us,k ::ks,vs,hf,h1=>by
  cases vs with
  |nil=>exact h1.elim
  |cons v vs =>
   have key:Instr.sameBits n v v=true/\cK us ks=true:=by
    cases u with
    |int q =>
     cases k with
     |int q1 x =>
      simp only[cK,ma,QhY]at hf;have g1:IR w M (.int q1 x) v:=h1.1;cases g1;exact⟨by cases n <;> simp [Instr.sameBits],hf.2⟩
     |_=>simp [cK]at hf
    |string =>
     cases k with
     |str x =>
      simp only[cK]at hf;have g1:IR w M (.str x) v:=h1.1;cases g1;exact⟨by cases n <;> simp [Instr.sameBits,bytes_beq],hf⟩
     |_=>simp [cK]at hf
    |_=>simp [cK]at hf
   have ih:=Ns (n:=n) key.2 h1.2;simp only[List.zip_cons_cons,List.all_cons,key.1,ih,Bool.and_self]
 | [],_ ::_,_,hf,_=>by simp [cK]at hf
 |_ ::_,[],_,hf,_=>by simp [cK]at hf
theorem Gx{t:TypeId}{n:Nat}(hr:A1 P t=some true)(hs:CF P t=some n)(vs:List Value)(k:Nat):(part t vs.toArray k).run P w=.ok (.agg ((vs.drop k).take n).toArray) w:=by
 obtain⟨d,hu,hd⟩:=Kg hr;unfold part;rw[Sem.run_bind,E7 hu w,hd];simp [MF hs,List.extract_toArray,QnA]
theorem Qi:∀{us Ox:List TypeDesc} {xs ys:List Lf} {e:Bool},nS (us++Ox) xs ys=some e->∃e1 e2,nS us (xs.take us.length) (ys.take us.length)=some e1/\nS Ox (xs.drop us.length) (ys.drop us.length)=some e2/\e=(e1&&e2)
 | [],Ox,xs,ys,e,h=>⟨true,e,by simp [nS],by simpa using h,by simp⟩
 |u ::us,Ox,xs,ys,e,h=>by
  cases xs with
  |nil=>simp [nS]at h
  |cons x xs =>
   cases ys with
   |nil=>simp [nS]at h
   |cons y ys =>
    simp only[Qhz,nS]at h;split at h
    ·rename_i a c h1 h2;cases h;obtain⟨e1,e2,g1,g2,rfl⟩:=Qi h2;exact⟨a&&e1,e2,by simp [nS,h1,g1],by simpa using g2,by rw[Bool.and_assoc]⟩
    ·cases h
theorem Ll:∀{us Ox:List TypeDesc} {ks:List Lf},cK (us++Ox) ks=true->cK us (ks.take us.length)=true/\cK Ox (ks.drop us.length)=true
 | [],Ox,ks,h=>⟨by simp [cK],by simpa using h⟩
 |u ::us,Ox,ks,h=>by
  cases ks with
  |nil=>cases u <;> simp [cK]at h
  |cons k ks =>
   have key:∃c:Bool,c=true/\cK (u ::(us++Ox)) (k ::ks)=(c&&cK (us++Ox) ks)/\cK (u ::us) (k ::ks.take us.length)=(c&&cK us (ks.take us.length)):=by
    cases u with
    |int q =>
     cases k with
     |int q1 x =>
      have h':=h;simp only[Qhz,cK,ma]at h';exact⟨decide (q=q1),h'.1,by simp only[cK],by simp only[cK]⟩
     |_=>simp [cK]at h
    |string =>
     cases k with
     |str x=>exact⟨true,rfl,by simp only[cK,Qe1],by simp only[cK,Qe1]⟩
     |_=>simp [cK]at h
    |_=>simp [cK]at h
   obtain⟨c,rfl,e1,e2⟩:=key;rw[Qhz,e1,Qe1]at h;obtain⟨g1,g2⟩:=Ll h;exact⟨by simp only[QaA,List.take_succ_cons];rw[e2,g1];rfl,by simpa using g2⟩
theorem Dv{em:Bool}{n:Nat}{t:TypeId}{u:TypeDesc}{us:List TypeDesc}{x:Lf}{ks:List Lf}{v:Value}(hu:P.underlying t=some u)(hf:cK (u ::us) (x ::ks)=true)(hr:LR w M U x v):
  (Instr.checkKey em (n+1) t v).run P w=.ok () w/\cK us ks=true:=by
 cases u with
 |int q =>
  cases x with
  |int q1 y =>
   simp only[cK,ma,QhY]at hf;have g1:IR w M (.int q1 y) v:=hr;cases g1;exact⟨by simp [Instr.checkKey,run_underlying hu],hf.2⟩
  |_=>simp [cK]at hf
 |string =>
  cases x with
  |str y =>
   simp only[cK]at hf;have g1:IR w M (.str y) v:=hr;cases g1;exact⟨by simp [Instr.checkKey,run_underlying hu],hf⟩
  |_=>simp [cK]at hf
 |_=>simp [cK]at hf
theorem PN{em:Bool}{d:Nat}{t e0:TypeId}{n:Nat}{u:TypeDesc}{ks:List Lf}{vs:List Value}(hu:P.underlying t=some (.array n e0))(iT:P.underlying e0=some u)(sK:A1 P e0=some false)(jI:CF P e0=some 1)
  (hf:cK (List.replicate n u) ks=true) (hr:Rs (LR w M U) ks vs):(Instr.checkKey em (d+2) t (.agg vs.toArray)).run P w=.ok () w:=by
 rw[Instr.checkKey];simp only[Sem.run_bind,run_underlying hu,Result.andThen_ok];simp only[Qqh,Std.Legacy.Range.size,Qgc,Nat.add_one_sub_one,Nat.div_one];have zI:Rs (LR w M U) ks (vs.drop 0):=hr;clear hr hu;generalize 0=k at zI ⊢;induction n generalizing k ks with
 |zero=>simp
 |succ m ih =>
  rw[Qlz]at hf;cases ks with
  |nil=>cases u <;> simp [cK]at hf
  |cons x ks =>
   obtain⟨v1,hv1,QT⟩:=zI.get (i:=0) rfl;have lW:Rs (LR w M U) ks (vs.drop (k+1)):=by have:=zI.drop 1;simpa [QfV,QfY]using this
   have hp:=oV (P:=P) (w:=w) sK (vs:=vs.toArray) (k:=k) (v:=v1) (by simpa using hv1)
   have key:=Dv (em:=em) (n:=d) iT hf QT;rw[List.range'_succ,Qke];simp only[Sem.run_bind,Result.andThen_ok,MF jI,Nat.mul_one,hp,key.1,Sem.run_pure];exact ih key.2 (k+1) lW
theorem SH{k:Nat}{f:Field}{fs:List Field}{us:List TypeDesc}(h:A6 P k (f ::fs) = some us):f.offset = k∧f.name≠"_"∧
    ((∃ u Ox, A1 P f.type = some false /\ P.underlying f.type = some u /\ us = u :: Ox /\ A6 P (k + 1) fs = some Ox) \/
     ∃n e u Ox,A1 P f.type = some true/\P.underlying f.type = some (.array n e)/\A1 P e = some false/\CF P e = some 1/\CF P f.type = some n/\P.underlying e = some u/\us = List.replicate n u ++ Ox/\A6 P (k + n) fs = some Ox):= by
  simp only[A6]at h;cases hc:(f.offset == k && !(f.name == "_"))with
  |false => rw[hc]at h;cases h
  | true =>
    rw[hc]at h;simp only[QaF]at h;simp only[ma,Qbb,QbD,QhT]at hc;refine⟨hc.1,hc.2, ?_⟩;split at h
    · rename_i u h1 h2;cases hq:A6 P (k + 1) fs with
      |none => rw[hq]at h;cases h
      |some Ox => rw[hq]at h;cases h;exact .inl ⟨u,Ox,h1,h2,rfl,rfl⟩
    · rename_i n e h1 h2;cases hd:((A1 P e == some false) && (CF P e == some 1) && (CF P f.type == some n))with
      |false => rw[hd]at h;cases h
      | true =>
        rw[hd]at h;simp only[QaF]at h;simp only[ma,Qbb]at hd;split at h
        · rename_i u hu;cases hq:A6 P (k + n) fs with
          |none => rw[hq]at h;cases h
          |some Ox => rw[hq]at h;cases h;exact .inr ⟨n,e,u,Ox,h1,h2,hd.1.1,hd.1.2,hd.2,hu,rfl,hq⟩
        · cases h
    · cases h
theorem Oi{em:Bool}{n:Nat}{t:TypeId}{fs:Array Field}{us:List TypeDesc}{ks:List Lf}{vs:List Value}(hu:P.underlying t=some (.struct fs))(H4:A6 P 0 fs.toList=some us)(hf:cK us ks=true)(hr:Rs (LR w M U) ks vs):
  (Instr.checkKey em (n+3) t (.agg vs.toArray)).run P w=.ok () w:=by
 rw[Instr.checkKey];simp only[Sem.run_bind,run_underlying hu,Result.andThen_ok];rw[<-Array.forIn_toList];generalize fs.toList=L at H4;have zI:Rs (LR w M U) ks (vs.drop 0):=hr;clear hr hu;generalize 0=k at H4 zI;induction L generalizing k us ks with
 |nil=>simp
 |cons f L ih =>
  obtain⟨AM,Lj,h⟩:=SH H4;rcases h with⟨u,Ox,sK,hu,rfl,H5⟩|⟨m,e,u,Ox,sK,hu,he1,OG,jI,iT,rfl,H5⟩
  ·cases ks with
   |nil=>cases u <;> simp [cK]at hf
   |cons x ks =>
    obtain⟨v1,hv1,QT⟩:=zI.get (i:=0) rfl;have lW:Rs (LR w M U) ks (vs.drop (k+1)):=by have:=zI.drop 1;simpa [QfV,QfY]using this
    have hp:=oV (P:=P) (w:=w) sK (vs:=vs.toArray) (k:=f.offset) (v:=v1) (by rw[AM];simpa using hv1)
    have key:=Dv (em:=em) (n:=n+1) hu hf QT;simp only[Qke,Sem.run_bind,Lj,ne_eq,not_false_eq_true,if_true,Result.andThen_ok,hp,key.1,Sem.run_pure];exact ih key.2 (k+1) H5 lW
  ·obtain⟨f1,f2⟩:=Ll hf;rw[Qi0]at f1 f2;have hp:=Gx (P:=P) (w:=w) sK jI vs f.offset;rw[AM]at hp;have QT:Rs (LR w M U) (ks.take m) ((vs.drop k).take m):=zI.take m;have lW:Rs (LR w M U) (ks.drop m) (vs.drop (k+m)):=by have:=zI.drop m;simpa [QfV,QfY]using this
   have key:=PN (em:=em) (d:=n) hu iT he1 OG f1 QT;simp only[Qke,Sem.run_bind,Lj,ne_eq,not_false_eq_true,if_true,Result.andThen_ok,AM,hp,key,Sem.run_pure];exact ih f2 (k+m) H5 lW
theorem O1{d:Nat}{vx vy:List Value}:∀(fs:List Field) (k:Nat) (us:List TypeDesc) (xs ys:List Lf) (e:Bool),A6 P k fs=some us->nS us xs ys=some e->Rs (LR w M U) xs (vx.drop k)->Rs (LR w M U) ys (vy.drop k)->
  (forIn fs ((none,()):O Bool×Unit) λf r=>(do
   if f.name≠"_" then do
    if(!(<-Op.equalIn (d+1+1) f.type (<-part f.type vx.toArray f.offset) (<-part f.type vy.toArray f.offset)))=true then pure (ForInStep.done (some false,()))else pure (ForInStep.yield (none,()))
   else pure (ForInStep.yield (none,())):Sem (ForInStep (O Bool×Unit)))).run P w=.ok (if e then none else some false,()) w
 | [],k,us,xs,ys,e,h1,h2,_,_=>by
  cases h1;cases xs <;> cases ys <;> simp [nS]at h2
  subst h2;simp
 |f ::fs,k,us,xs,ys,e,h1,h2,hx,hy=>by
  obtain⟨AM,Lj,h⟩:=SH h1;rcases h with⟨u,Ox,sK,hu,rfl,H5⟩|⟨m,e0,u,Ox,sK,hu,he1,OG,jI,iT,rfl,H5⟩
  ·cases xs with
   |nil=>simp [nS]at h2
   |cons x xs =>
    cases ys with
    |nil=>simp [nS]at h2
    |cons y ys =>
     simp only[nS]at h2;split at h2
     ·rename_i e1 e2 he1 OG;cases h2;obtain⟨v1,hv1,QT⟩:=hx.get (i:=0) rfl;obtain⟨v2,QU,lW⟩:=hy.get (i:=0) rfl;have JU:Rs (LR w M U) xs (vx.drop (k+1)):=by have:=hx.drop 1;simpa [QfV,QfY]using this
      have hy1:Rs (LR w M U) ys (vy.drop (k+1)):=by have:=hy.drop 1;simpa [QfV,QfY]using this
      have ih:=O1 (d:=d) fs (k+1) Ox xs ys e2 H5 OG JU hy1;have W0:=oV (P:=P) (w:=w) sK (vs:=vx.toArray) (k:=f.offset) (v:=v1) (by rw[AM];simpa using hv1)
      have iH:=oV (P:=P) (w:=w) sK (vs:=vy.toArray) (k:=f.offset) (v:=v2) (by rw[AM];simpa using QU)
      have heq:=WG (d:=d+1) hu he1 QT lW;rw[Qke];cases e1 with
      |true=>simp [Lj,W0,iH,heq]at ih ⊢;exact ih
      |false=>simp [Lj,W0,iH,heq]
     ·cases h2
  ·obtain⟨e1,e2,g1,g2,rfl⟩:=Qi h2;rw[Qi0]at g1 g2;have JU:Rs (LR w M U) (xs.drop m) (vx.drop (k+m)):=by have:=hx.drop m;simpa [QfV,QfY]using this
   have hy1:Rs (LR w M U) (ys.drop m) (vy.drop (k+m)):=by have:=hy.drop m;simpa [QfV,QfY]using this
   have ih:=O1 (d:=d) fs (k+m) Ox (xs.drop m) (ys.drop m) e2 H5 g2 JU hy1;have W0:=Gx (P:=P) (w:=w) sK jI vx f.offset;have iH:=Gx (P:=P) (w:=w) sK jI vy f.offset;have heq:=Ql (d:=d) hu iT he1 OG g1 (hx.take m) (hy.take m);rw[AM]at W0 iH;rw[Qke];cases e1 with
   |true=>simp [Lj,W0,iH,heq,AM]at ih ⊢;exact ih
   |false=>simp [Lj,W0,iH,heq,AM]
theorem LD{d:Nat}{t:TypeId}{fs:Array Field}{us:List TypeDesc}{xs ys:List Lf}{vx vy:List Value}{e:Bool}(hu:P.underlying t=some (.struct fs))(ir:P.stoodInHeld t=false)(H4:A6 P 0 fs.toList=some us)
  (he:nS us xs ys=some e) (hrx:Rs (LR w M U) xs vx) (hry:Rs (LR w M U) ys vy):(Op.equalIn (d+1+1+1) t (.agg vx.toArray) (.agg vy.toArray)).run P w=.ok e w:=by
 have h3:=O1 (P:=P) (w:=w) (M:=M) (U:=U) (d:=d) fs.toList 0 us xs ys e H4 he hrx hry;rw[Array.forIn_toList]at h3;unfold Op.equalIn;simp only[Sem.run_bind,run_underlying hu,Result.andThen_ok,run_program,ir];simp only[QmL,if_false,Sem.run_bind,Sem.run_pure,Result.andThen_ok];refine Eq.trans (QaB (λz=>Result.andThen z _) h3) ?_
 cases e <;> simp
theorem Vy{t:TypeId}{fs:Array Field}{us:List TypeDesc}{ks:List Lf}{z v:Lf}{vs:List Value}(hu:P.underlying t=some (.struct fs))(ir:P.stoodInHeld t=false)(H4:A6 P 0 fs.toList=some us)(hf:cK us ks=true)
  (h2:2<=ks.length) (hr:Rs (IR w M) ks vs):∀{rs:List (List Lf)} {es:List MapEntry} {i:Nat},Rs (BP w M) rs es->EN rs ks z=some v->
  ∃r,(Instr.findAsking t (.agg vs.toArray) es i).run P w=.ok r w/\((r=none/\v=z)\/∃j u,r=some (j,u)/\IR w M v u)
 | [],[],i,_,h=>by
  simp only[EN]at h;cases h;exact⟨none,by simp [Instr.findAsking],.inl ⟨rfl,rfl⟩⟩
 |_ ::rs,e ::es,i,ZY,h=>by
  obtain⟨⟨v',Nt,rfl,g1,g2⟩,g3⟩:=ZY;have Uc:∀{b:Bool},xt ks Nt=some b->(Op.equal t (.agg vs.toArray) e.key).run P w=.ok b w:=by
   intro b hb;rcases g2 with⟨k,rfl,_⟩|⟨_,vs',xw,TW⟩
   ·have:=Nr hb;simp at this;omega
   ·rw[xw];exact LD (M:=M) (U:=λ_=>none) (d:=9997) hu ir H4 (FC hf hb) (Rs.mono (λ_ _ h=>IR.lr h) hr) (Rs.mono (λ_ _ h=>IR.lr h) TW)
  simp only[EN]at h;split at h
  ·rename_i hq;cases h;exact⟨some (i,e.val),by simp [Instr.findAsking,Uc hq],.inr ⟨i,e.val,rfl,g1⟩⟩
  ·rename_i hq;obtain⟨r,q1,q2⟩:=Vy hu ir H4 hf h2 hr (i:=i+1) g3 h;exact⟨r,by simp [Instr.findAsking,Uc hq,q1],q2⟩
  ·cases h
 | [],_ ::_,_,hr,_=>hr.elim
 |_ ::_,[],_,hr,_=>hr.elim
theorem Vz{t:TypeId}{fs:Array Field}{us:List TypeDesc}{ks:List Lf}{b:Bool}{vs:List Value}(hu:P.underlying t=some (.struct fs))(ir:P.stoodInHeld t=false)(H4:A6 P 0 fs.toList=some us)(hf:cK us ks=true)
  (h2:2<=ks.length) (hr:Rs (IR w M) ks vs):∀{rs:List (List Lf)} {es:List MapEntry} {i:Nat},Rs (BP w M) rs es->ND rs ks=some b->
  ∃r,(Instr.findAsking t (.agg vs.toArray) es i).run P w=.ok r w/\b=r.isSome
 | [],[],i,_,h=>by
  simp only[ND]at h;cases h;exact⟨none,by simp [Instr.findAsking],rfl⟩
 |_ ::rs,e ::es,i,ZY,h=>by
  obtain⟨⟨v',Nt,rfl,g1,g2⟩,g3⟩:=ZY;have Uc:∀{b:Bool},xt ks Nt=some b->(Op.equal t (.agg vs.toArray) e.key).run P w=.ok b w:=by
   intro b hb;rcases g2 with⟨k,rfl,_⟩|⟨_,vs',xw,TW⟩
   ·have:=Nr hb;simp at this;omega
   ·rw[xw];exact LD (M:=M) (U:=λ_=>none) (d:=9997) hu ir H4 (FC hf hb) (Rs.mono (λ_ _ h=>IR.lr h) hr) (Rs.mono (λ_ _ h=>IR.lr h) TW)
  simp only[ND]at h;split at h
  ·rename_i hq;cases h;exact⟨some (i,e.val),by simp [Instr.findAsking,Uc hq],rfl⟩
  ·rename_i hq;obtain⟨r,q1,q2⟩:=Vz hu ir H4 hf h2 hr (i:=i+1) g3 h;exact⟨r,by simp [Instr.findAsking,Uc hq,q1],q2⟩
  ·cases h
 | [],_ ::_,_,hr,_=>hr.elim
 |_ ::_,[],_,hr,_=>hr.elim
theorem VA{t:TypeId}{fs:Array Field}{us:List TypeDesc}{ks:List Lf}{v:Lf}{vs:List Value}{vv:Value}(hu:P.underlying t=some (.struct fs))(ir:P.stoodInHeld t=false)(H4:A6 P 0 fs.toList=some us)(hf:cK us ks=true)
  (h2:2<=ks.length) (hr:Rs (IR w M) ks vs) (hv:IR w M v vv):∀{rs R:List (List Lf)} {es:List MapEntry} {i:Nat},Rs (BP w M) rs es->Cl rs ks v=some R->
  ((Instr.findAsking t (.agg vs.toArray) es i).run P w=.ok none w/\∀b,Rs (BP w M) R (es++[⟨.agg vs.toArray,vv,b⟩]))\/
  ∃j u e,(Instr.findAsking t (.agg vs.toArray) es i).run P w=.ok (some (i+j,u)) w/\es[j]?=some e/\e.key=.agg vs.toArray/\Rs (BP w M) R (es.set j {e with key:=.agg vs.toArray,val:=vv})
 | [],R,[],i,_,h=>by
  simp only[Cl]at h;cases h;exact .inl ⟨by simp [Instr.findAsking],λb=>⟨⟨v,ks,rfl,hv,.inr ⟨h2,vs,rfl,hr⟩⟩,trivial⟩⟩
 |_ ::rs,R,e ::es,i,ZY,h=>by
  obtain⟨⟨v',Nt,rfl,g1,g2⟩,g3⟩:=ZY;have Uc:∀{b:Bool},xt ks Nt=some b->(Op.equal t (.agg vs.toArray) e.key).run P w=.ok b w/\(b=true->e.key=.agg vs.toArray):=by
   intro b hb;rcases g2 with⟨k,rfl,_⟩|⟨_,vs',xw,TW⟩
   ·have:=Nr hb;simp at this;omega
   ·rw[xw];exact⟨LD (M:=M) (U:=λ_=>none) (d:=9997) hu ir H4 (FC hf hb) (Rs.mono (λ_ _ h=>IR.lr h) hr) (Rs.mono (λ_ _ h=>IR.lr h) TW),λRN=>by subst RN;rw[Vj hf hb hr TW]⟩
  simp only[Cl]at h;split at h
  ·rename_i hq;cases h;exact .inr ⟨0,e.val,e,by simp [Instr.findAsking,(Uc hq).1],rfl,(Uc hq).2 rfl,⟨v,ks,rfl,hv,.inr ⟨h2,vs,rfl,hr⟩⟩,g3⟩
  ·rename_i hq;cases hp:Cl rs ks v with
   |none=>rw[hp]at h;cases h
   |some R' =>
    rw[hp]at h;cases h;rcases VA hu ir H4 hf h2 hr hv (i:=i+1) g3 hp with⟨q1,q2⟩|⟨j,u,e',q1,q2,q3,q4⟩
    ·exact .inl ⟨by simp [Instr.findAsking,(Uc hq).1,q1],λb=>⟨⟨v',Nt,rfl,g1,g2⟩,q2 b⟩⟩
    ·exact .inr ⟨j+1,u,e',by simp [Instr.findAsking,(Uc hq).1,q1];omega,by simpa using q2,q3,⟨v',Nt,rfl,g1,g2⟩,q4⟩
  ·cases h
 | [],_,_ ::_,_,hr,_=>hr.elim
 |_ ::_,_,[],_,hr,_=>hr.elim
structure QjC (P:Program) (w:World) (M:Nat->Prop) (kt:TypeId) (ks:List Lf) (kv:Value):Prop where
 check:∀em,(Instr.checkKey em 10000 kt kv).run P w=.ok () w
 stays:(Instr.keyThatStays kv kv).run P w=.ok kv w
 get:∀{rs:List (List Lf)} {es:List MapEntry} {z v:Lf},Rs (BP w M) rs es->EN rs ks z=some v->∃r,(Instr.findKey kt kv es).run P w=.ok r w/\((r=none/\v=z)\/∃j u,r=some (j,u)/\IR w M v u)
 has:∀{rs:List (List Lf)} {es:List MapEntry} {b:Bool},Rs (BP w M) rs es->ND rs ks=some b->∃r,(Instr.findKey kt kv es).run P w=.ok r w/\b=r.isSome
 put:∀{rs R:List (List Lf)} {es:List MapEntry} {v:Lf} {vv:Value},IR w M v vv->Rs (BP w M) rs es->Cl rs ks v=some R->
  ((Instr.findKey kt kv es).run P w=.ok none w/\∀b,Rs (BP w M) R (es++[⟨kv,vv,b⟩]))\/
  ∃j u e,(Instr.findKey kt kv es).run P w=.ok (some (j,u)) w/\es[j]?=some e/\e.key=kv/\Rs (BP w M) R (es.set j {e with key:=kv,val:=vv})
theorem S4{kt:TypeId}{kc:Cm}{kv:Value}(h:IK P kt kc=true)(hk:CR w M U kc kv):QjC P w M kt kc.cells kv:=by
 cases kc with
 |one k =>
  have h':IL P kt k=true:=h;have ur:LR w M U k kv:=hk;obtain⟨d,hd,hkd⟩:=Qe9 h' ur;have hi:=QbM h' ur;refine⟨λem=>Go.MapKept.run_checkKey hd hkd em 9999,Go.MapKept.run_keyThatStays hkd,λhr hg=>?_,λhr hg=>?_,λhv hr hg=>?_⟩
  ·obtain⟨r,q1,q2⟩:=ZA hi hkd (i:=0) hr hg;exact⟨r,Go.MapKept.run_findKey hd q1,q2⟩
  ·obtain⟨r,q1,q2⟩:=ZB hi hkd (i:=0) hr hg;exact⟨r,Go.MapKept.run_findKey hd q1,q2⟩
  ·rcases ZC hi hv hkd (i:=0) hr hg with⟨q1,q2⟩|⟨j,u,e,q1,q2,q3,q4⟩
   ·exact .inl ⟨Go.MapKept.run_findKey hd q1,q2⟩
   ·rw[Qbu]at q1;exact .inr ⟨j,u,e,Go.MapKept.run_findKey hd q1,q2,q3,q4⟩
 |agg ks =>
  simp only[IK,ma]at h;obtain⟨h2,h3⟩:=h;have h2':2<=ks.length:=Qd9 h2;split at h3
  ·rename_i us H5;have Zf:∃fs,P.underlying kt=some (.struct fs)/\P.stoodInHeld kt=false/\A6 P 0 fs.toList=some us:=by
    unfold Qhs at H5;split at H5
    ·rename_i fs hu;cases hc:(!P.stoodInHeld kt)with
     |false=>rw[hc]at H5;cases H5
     |true =>
      rw[hc]at H5;simp only[QbD]at hc;exact⟨fs,hu,hc,H5⟩
    ·cases H5
   obtain⟨fs,hu,ir,H4⟩:=Zf;obtain⟨vs,rfl,hr⟩:=hk;have hri:Rs (IR w M) ks vs:=Qr h3 hr;have hfk:∀es:List MapEntry,(Instr.findKey kt (.agg vs.toArray) es).run P w=(Instr.findAsking kt (.agg vs.toArray) es).run P w:=λes=>run_findKey_eq w (by rw[hu]) _ es
   refine⟨λem=>Oi (n:=9997) hu H4 h3 hr,?_,λZY hg=>?_,λZY hg=>?_,λhv ZY hg=>?_⟩
   ·unfold Instr.keyThatStays;have:Instr.sameBits 10000 (.agg vs.toArray) (.agg vs.toArray)=true:=by
     simp only[Instr.sameBits,beq_self_eq_true,Qe1];exact Ns (n:=9999) h3 hri
    rw[if_pos this];rfl
   ·rw[hfk];exact Vy hu ir H4 h3 h2' hri ZY hg
   ·rw[hfk];exact Vz hu ir H4 h3 h2' hri ZY hg
   ·rw[hfk];rcases VA hu ir H4 h3 h2' hri hv (i:=0) ZY hg with q|⟨j,u,e,q1,q2,q3,q4⟩
    ·exact .inl q
    ·rw[Qbu]at q1;exact .inr ⟨j,u,e,q1,q2,q3,q4⟩
  ·cases h3
theorem LV{id:Nat}{ob:Ob}{rs:List (List Lf)}(hO:OR w M U id ob)(hm:Gd ob.rows=some rs)(p9:ob.box=true):∃b es BY,U id=some (some (b,1))/\w.heap[b]?=some (.map es BY)/\Rs (BP w M) rs es.toList/\ob.rows=[] :: [] ::rs:=by
 rcases hO with⟨h0,hO⟩|hO
 ·exfalso;obtain⟨b,hφ⟩:=(show OR w M U id ob from .inl ⟨h0,hO⟩).boxed p9;rw[hφ]at hO;obtain⟨cur,g1,g2,g3,g4,g5,g6⟩:=hO;unfold Gd at hm;split at hm
  ·rename_i r hr;rw[hr]at g3;simp at g3
  ·cases hm
 ·obtain⟨-,rs',b,es,BY,h1,h2,h3,h4⟩:=hO;rw[h1]at hm;cases hm;exact⟨b,es,BY,h2,h3,h4,h1⟩
theorem Qaw{t:TypeId}{z:Lf}(h:zeroV P t=some z):∃zv,(∀w,(zeroValue t).run P w=.ok zv w)/\LR w M U z zv:=by
 unfold zeroV at h;split at h
 ·rename_i i hi;split at h
  ·rename_i zv hz;exact⟨zv,λw=>by simp [zeroValue,typeInfo,hi,hz],L5 h⟩
  ·cases h
 ·cases h
theorem VY(dj:dF r.fU)(hg:g)(hF:∀t,AR w M U (L t) (a.tmps.getD t undef))(hW:Wd G U M hD w)(fh:∀id ob,h id=some ob->hD id=some ob)
  (td:∀id,base<=id->id<base+r.news.length->U id=none/\hD id=none) (hf:WK P h base g L o.op hs=some r):Yd P G U M hD w base r ((execOp a.eval o).run P w):=by
 unfold WK at hf;split at hf
 ·rename_i t ho;split at hf
  ·rename_i kt vt hu;cases hf;have yt:=td base (fa _) (by simp)
   have hb:=lj w (.map #[] 0);refine Yd.new (v:=.map (some w.heap.size)) (w':=w.alloc (.map #[] 0)) (b:=w.heap.size) (C:=1) ?_ rfl hW td hb (fa _) (by simp) ?_ ⟨w.heap.size,eF _ _ _,rfl⟩
   ·simp [execOp,ho,Instr.makeMap]
   ·exact .inr ⟨rfl,[],w.heap.size,#[],0,rfl,eF _ _ _,(heap_alloc w _).1,trivial⟩
  ·cases hf
 ·rename_i t x i ho;split at hf
  ·rename_i kt vt id o1 k o2 v fK hu h1 h2;split at hf
   ·rename_i ob z hid hz;split at hf
    ·rename_i rs hm;cases hc:(ob.box&&IK P kt k)with
     |false=>rw[hc]at hf;cases hf
     |true =>
      rw[hc]at hf;cases hf;rw[ma]at hc;simp only[bp,dF]at dj;obtain⟨b,hφ,hv⟩:vh w M U (.mp id) (a.eval x):=cg hF h1 dj.1.1 hg;have hk:CR w M U k (a.eval i):=cg hF h2 dj.1.2 hg;have Yf:=S4 hc.2 hk;obtain⟨b',es,BY,g1,g2,g3,-⟩:=LV (hW.fU id ob (fh id ob hid)) hm hc.1;rw[hφ]at g1;cases g1;obtain⟨zv,hz1,hz2⟩:=Qaw (M:=M) (U:=U) (w:=w) hz;have Ys:=Yf.check es.isEmpty;obtain⟨r,q1,q2⟩:=Yf.get g3 dj.2.1;rcases q2 with⟨rfl,rfl⟩|⟨j,u,rfl,q2⟩
      ·refine Yd.val (v:=zv) ?_ rfl hz2 hW;simp [execOp,ho,hv,Instr.lookup,run_underlying hu,Go.MapKept.run_getObj_map g2,Ys,q1,hz1,Result.andThen]
      ·refine Yd.val (v:=u) ?_ rfl (IR.lr q2:LR w M U v u) hW;simp [execOp,ho,hv,Instr.lookup,run_underlying hu,Go.MapKept.run_getObj_map g2,Ys,q1,Result.andThen]
    ·cases hf
   ·cases hf
  ·cases hf
 ·rename_i t x i ho;split at hf
  ·rename_i kt vt id o1 k o2 v bb fK hu h1 h2;split at hf
   ·rename_i ob z hid hz;split at hf
    ·rename_i rs hm;cases hc:(ob.box&&IK P kt k)with
     |false=>rw[hc]at hf;cases hf
     |true =>
      rw[hc]at hf;cases hf;rw[ma]at hc;simp only[bp,dF]at dj;obtain⟨b,hφ,hv⟩:vh w M U (.mp id) (a.eval x):=cg hF h1 dj.1.1 hg;have hk:CR w M U k (a.eval i):=cg hF h2 dj.1.2 hg;have Yf:=S4 hc.2 hk;obtain⟨b',es,BY,g1,g2,g3,-⟩:=LV (hW.fU id ob (fh id ob hid)) hm hc.1;rw[hφ]at g1;cases g1;obtain⟨zv,hz1,hz2⟩:=Qaw (M:=M) (U:=U) (w:=w) hz;have Ys:=Yf.check es.isEmpty;obtain⟨r,q1,q2⟩:=Yf.get g3 dj.2.1;obtain⟨r',q1',q3⟩:=Yf.has g3 dj.2.2.1;obtain rfl:r=r':=by rw[q1]at q1';cases q1';rfl
      subst q3;rcases q2 with⟨rfl,rfl⟩|⟨j,u,rfl,q2⟩
      ·refine Yd.val (v:=.tuple #[zv,.bool false]) ?_ rfl ⟨[zv,.bool false],rfl,hz2,IR.bool _,trivial⟩ hW;simp [execOp,ho,hv,Instr.lookup,run_underlying hu,Go.MapKept.run_getObj_map g2,Ys,q1,hz1,Result.andThen]
      ·refine Yd.val (v:=.tuple #[u,.bool true]) ?_ rfl ⟨[u,.bool true],rfl,(IR.lr q2:LR w M U v u),IR.bool _,trivial⟩ hW;simp [execOp,ho,hv,Instr.lookup,run_underlying hu,Go.MapKept.run_getObj_map g2,Ys,q1,Result.andThen]
    ·cases hf
   ·cases hf
  ·cases hf
 ·cases hf
end
end
section
open Go.RowKit
section
variable {P : Program} {G : bC} {U : Pl} {M : Nat -> Prop} {hD h : Nat -> O Ob} {w : World} {base : Nat} {L : Nat -> AV} {a : Act} {g : Prop} {hs : List Hint} {r : OD} {o : Oper}
theorem Jo{c:Call}{b:Builtin}(ho:o.op=.call c)(hc:c.callee=.builtin b):∃cn,(execOp a.eval o).run P w=(builtin b c.argTypes o.type cn (c.args.map a.eval)).run P w:=by
 refine⟨c.args.map λ|.const _=>true|_=>false,?_⟩
 simp only[execOp,ho,resolve,hc,Sem.run_bind,Sem.run_pure,Result.andThen_ok,invoke];rfl
theorem Rs.UN{c1 c2:Cm}{vs:List Value}(h:Rs (CR w M U) [c1,c2] vs):∃v1 v2,vs=[v1,v2]/\CR w M U c1 v1/\CR w M U c2 v2:=by
 match vs,h with
 | [v1,v2],h=>exact⟨v1,v2,rfl,h.1,h.2.1⟩
theorem Rs.Qli{c1:Cm}{vs:List Value}(h:Rs (CR w M U) [c1] vs):∃v1,vs=[v1]/\CR w M U c1 v1:=by
 match vs,h with
 | [v1],h=>exact⟨v1,rfl,h.1⟩
theorem Ux(dj:dF r.fU)(hg:g)(hF:∀t,AR w M U (L t) (a.tmps.getD t undef))(hW:Wd G U M hD w)(fh:∀id ob,h id=some ob->hD id=some ob){c:Call}{b:Builtin}(ho:o.op=.call c)(hc:c.callee=.builtin b)(hf:AJ P h base g L o.op hs=some r)
  (td:∀id,base<=id->id<base+r.news.length->U id=none/\hD id=none):Yd P G U M hD w base r ((execOp a.eval o).run P w):=by
 rw[ho]at hf;simp only[AJ,hc]at hf;split at hf
 ·rename_i args o1 h1;cases hb:zG P h base b args c.argTypes.toList hs with
  |none=>rw[hb]at hf;cases hf
  |some r0 =>
   rw[hb]at hf;cases hf;simp only[bp]at dj;have hA:=vR hF hg h1 dj.1;have A8:c.args.map a.eval=(c.args.toList.map a.eval).toArray:=by apply Qgf;simp
   have QhW:c.argTypes=c.argTypes.toList.toArray:=by simp
   obtain⟨cn,dC⟩:=Jo (P:=P) (w:=w) (a:=a) ho hc;rw[A8,QhW]at dC;generalize hvs:c.args.toList.map a.eval=vs at hA dC;generalize htt:c.argTypes.toList=tys at hb dC;have key:∀r1:OD,r1=r0->Yd P G U M hD w base r0 ((execOp a.eval o).run P w)->Yd P G U M hD w base ⟨r0.v,r0.news,o1++r0.fU,r0.hs⟩ ((execOp a.eval o).run P w):=λ_ _ h=>h
   refine key r0 rfl ?_
   by_cases QR:b=.append
   ·subst QR;have OE:=hb;unfold zG at OE;split at OE
    all_goals first|(rename_i hq;cases hq;done)|skip
    ·rename_i kx n t t' _;obtain⟨vd,vx,rfl,hd,hx⟩:=hA.UN;refine Mx (h:=h) (ty:=o.type) hg hW hb dj.2 hd hx (λv w' hr=>?_) td
     rw[dC];simp only[builtin,Sem.run_bind];have TW:(Builtin.append_ #[t,t'] o.type #[vd,vx]).run P w=.ok v w':=hr;rw[show [t,t'].toArray=#[t,t']from rfl,show [vd,vx].toArray=#[vd,vx]from rfl,TW];rfl
    ·rename_i d x t t' _ _;obtain⟨vd,vx,rfl,hd,hx⟩:=hA.UN;refine PT (h:=h) (tys:=[t']) (ty:=o.type) hg hW fh OE dj.2 hd hx (λv w' hr=>?_) td
     rw[dC];simp only[builtin,Sem.run_bind];have TW:(Builtin.append_ #[t,t'] o.type #[vd,vx]).run P w=.ok v w':=hr;rw[show [t,t'].toArray=#[t,t']from rfl,show [vd,vx].toArray=#[vd,vx]from rfl,TW];rfl
    ·cases OE
   ·unfold zG at hb;split at hb
    ·rename_i l t;obtain⟨v,rfl,hl⟩:=hA.Qli;have fin:∀n:Int,(Builtin.len_ #[t] o.type #[v]).run P w=.ok (.int .i64 n) w->r0.v=one (.int .i64 n)->r0.news=[]->Yd P G U M hD w base r0 ((execOp a.eval o).run P w):=λn h1 h2 h3=>by
      refine Yd.val (v:=.int .i64 n) ?_ h3 (by rw[h2];exact IR.int _ _) hW
      rw[dC];simp only[builtin,Sem.run_bind];rw[show [t].toArray=#[t]from rfl,show [v].toArray=#[v]from rfl,h1];rfl
     split at hb
     ·rename_i s hu;cases hb;have Ko:IR w M (.str s) v:=hl;cases Ko;exact fin _ (by simp [Builtin.len_,run_underlying hu,goInt,ca]) rfl rfl
     ·rename_i e hu;cases hb;have Ko:IR w M .fk v:=hl;cases Ko;exact fin _ (by simp [Builtin.len_,run_underlying hu,goInt]) rfl rfl
     ·rename_i id len sz e hu;cases hb;have Ko:vh w M U (.bs id len sz) v:=hl;obtain⟨b,hφ,rfl⟩:=Ko;exact fin _ (by simp [Builtin.len_,run_underlying hu,goInt]) rfl rfl
     ·rename_i id sz off len e hu;split at hb
      ·rename_i n fK;cases hb;obtain⟨rfl,-⟩:=dj.2;have Ko:vh w M U (.os id sz off len) v:=hl;rcases Ko with⟨b,C,hφ,rfl,hle⟩|⟨hφ,_,rfl,A,rfl⟩
       ·exact fin _ (by simp [Builtin.len_,run_underlying hu,goInt]) rfl rfl
       ·exact fin _ (by simp [Builtin.len_,run_underlying hu,goInt]) rfl rfl
      ·cases hb
     ·rename_i cl sz rows e hu;split at hb
      ·rename_i n fK;cases hb;obtain⟨rfl,-⟩:=dj.2;have Ko:IR w M (.sl cl sz rows) v:=hl;cases Ko with
       |QF=>exact fin _ (by simp [Builtin.len_,run_underlying hu,goInt]) rfl rfl
       |sl=>exact fin _ (by simp [Builtin.len_,run_underlying hu,goInt]) rfl rfl
      ·cases hb
     ·cases hb
    ·rename_i t;obtain⟨v,rfl,hl⟩:=hA.Qli;split at hb
     ·rename_i e hu;cases hb;have Ko:IR w M .fk v:=hl;cases Ko;refine Yd.val (v:=.int .i64 0) ?_ rfl (IR.int _ _) hW;rw[dC];simp [builtin,Builtin.cap_,run_underlying hu,goInt]
     ·cases hb
    ·rename_i k p k' q;cases hb;obtain⟨v1,v2,rfl,e1,e2⟩:=hA.UN;have e1':IR w M (.int k p) v1:=e1;have e2':IR w M (.int k' q) v2:=e2;cases e1';cases e2';refine Yd.val (v:=.int k (vZ p q)) ?_ rfl (IR.int _ _) hW;rw[dC];simp [builtin,Builtin.max_,Builtin.max2,List.foldlM,vZ]
    ·rename_i k p k' q;cases hb;obtain⟨v1,v2,rfl,e1,e2⟩:=hA.UN;have e1':IR w M (.int k p) v1:=e1;have e2':IR w M (.int k' q) v2:=e2;cases e1';cases e2';refine Yd.val (v:=.int k (QbX p q)) ?_ rfl (IR.int _ _) hW;rw[dC];simp [builtin,Builtin.min_,Builtin.min2,List.foldlM,QbX]
    ·exact absurd rfl QR
    ·exact absurd rfl QR
    ·cases hb
 ·cases hf
theorem J1(hf:AJ P h base g L o.op hs=some r)(dj:dF r.fU)(hg:g)(hF:∀t,AR w M U (L t) (a.tmps.getD t undef))(hW:Wd G U M hD w)(fh:∀id ob,h id=some ob->hD id=some ob)
  (td:∀id,base<=id->id<base+r.news.length->U id=none/\hD id=none):Yd P G U M hD w base r ((execOp a.eval o).run P w):=by
 cases ho:o.op with
 |move x=>rw[ho]at hf;exact TB dj hg hF hW (.inl ho) hf
 |assign x=>rw[ho]at hf;exact TB (h:=h) (hs:=hs) dj hg hF hW (.inr ho) (by simpa only[AJ]using hf)
 |pick c x y=>exact Qcv dj hg hF hW ho hf
 |alloc e=>exact Qac dj hg hF hW ho hf td
 |box e x=>exact QfF dj hg hF hW ho hf td
 |build t ps=>exact Qae dj hg hF hW ho hf
 |buildSlice t n ps=>exact PU dj hg hF hW ho hf td
 |load t x=>exact Qcu ho hf dj hg hF hW fh
 |nilCheck x=>exact TC dj hg hF hW ho hf
 |binOp op t x y u =>
  rw[ho]at hf;simp only[AJ]at hf;split at hf
  ·rename_i r1 h1;cases hf;exact Qad dj hg hF hW ho h1
  ·exact QfG dj hg hF hW ho hf
 |unOp u t x=>exact Qcw dj hg hF hW ho hf
 |convert s d x=>exact Uy dj hg hF hW fh ho hf
 |makeFunc f first gZ=>exact TA dj hg hF hW ho hf
 |makeSlice t x y=>exact Rq dj hg hF hW ho hf td
 |slice t x lo hi mx=>exact Qah dj hg hF hW ho hf
 |fieldAddr t x f=>exact Ro dj hg hF hW ho hf
 |field t x f=>exact Qaf dj hg hF hW ho hf
 |indexAddr t x i=>exact Rp dj hg hF hW ho hf
 |index t x i=>exact Qag dj hg hF hW ho hf
 |extract x i=>exact Uz dj hg hF hW ho hf
 |call c =>
  cases hc:c.callee with
  |builtin b=>exact Ux dj hg hF hW fh ho hc hf td
  |value f=>rw[ho]at hf;simp only[AJ,hc]at hf;cases hf
  |invoke x m=>rw[ho]at hf;simp only[AJ,hc]at hf;cases hf
 |makeMap t q=>exact VY dj hg hF hW fh td (by rw[ho]at hf ⊢;exact hf)
 |lookup t x i q=>exact VY dj hg hF hW fh td (by rw[ho]at hf ⊢;exact hf)
 |_=>rw[ho]at hf;simp only[AJ,WK]at hf;cases hf
end
end
end Go.Proofs.YtkcilfpbgjjjbaaGreatDoor
