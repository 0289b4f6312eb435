/- Part MB. -/
import Derived.Test.YtbilkblifgaflaaGreatDoorMA
import Derived.IntWalk
import Derived.MapKept
import Derived.WideKeyRuns
set_option linter.unusedSimpArgs false
set_option linter.unusedVariables false
set_option linter.unusedSectionVars false
namespace Go.Proofs.YtbilkblifgaflaaGreatDoor
section
open Go.RowKit
def NQ:Exit→Act→World→Prop:=fun _ _ _=>False
theorem RQ{P:Program}{o:Oper}{a:Act}{w:World}{K K':Act→World→Prop}{Q:Exit→Act→World→Prop}(h:∀a w,K a w→K' a w)(hh:o.wp P a w K NQ):o.wp P a w K' Q:=by
 unfold Oper.wp at *;generalize(execOp a.eval o).run P w=r at *;cases r with
 |ok nx w' =>
  cases nx <;> simp only[Oper.upon]at hh ⊢ <;>
   first
    |exact h _ _ hh
    | exact Calls.mono hh (fun e w'' he=>by
      cases e with
      |returned v=>exact h _ _ he
      |panicked c=>exact he.elim
      |outgrown=>obtain⟨_,_,hf⟩:=he;exact hf.elim)
    |exact Rows.mono hh (fun _ _ he=>h _ _ he)
 |halt x w'=>cases x <;> simp only[Oper.upon]at hh ⊢ <;> exact hh.elim
section
variable {α β γ : Type} {R R' : α → β → Prop}
theorem Rs.len:∀{xs:List α} {ys:List β},Rs R xs ys→xs.length=ys.length
 | [],[],_=>rfl
 |_ ::xs,_ ::ys,h=>by simp only[List.length_cons];rw[Rs.len h.2]
 | [],_ ::_,h=>h.elim
 |_ ::_,[],h=>h.elim
theorem Rs.get:∀{xs:List α} {ys:List β} {i:Nat} {x:α},Rs R xs ys→xs[i]?=some x→∃y,ys[i]?=some y∧R x y
 | [],_,_,_,_,h=>by simp at h
 |_ ::_,[],_,_,h,_=>h.elim
 |x ::xs,y ::ys,0,_,h,e=>by simp at e;subst e;exact⟨y,rfl,h.1⟩
 |x ::xs,y ::ys,i+1,_,h,e=>by
  obtain⟨z,hz,hr⟩:=Rs.get (i:=i) h.2 (by simpa using e)
  exact⟨z,by simpa using hz,hr⟩
theorem Rs.mono(hR:∀x y,R x y→R' x y):∀{xs:List α} {ys:List β},Rs R xs ys→Rs R' xs ys
 | [],[],_=>trivial
 |_ ::_,_ ::_,h=>⟨hR _ _ h.1,Rs.mono hR h.2⟩
 | [],_ ::_,h=>h.elim
 |_ ::_,[],h=>h.elim
theorem Rs.append:∀{xs xs':List α} {ys ys':List β},Rs R xs ys→Rs R xs' ys'→Rs R (xs++xs') (ys++ys')
 | [],_,[],_,_,h=>h
 |_ ::_,_,_ ::_,_,h,h'=>⟨h.1,Rs.append h.2 h'⟩
 | [],_,_ ::_,_,h,_=>h.elim
 |_ ::_,_,[],_,h,_=>h.elim
theorem Rs.take:∀(n:Nat) {xs:List α} {ys:List β},Rs R xs ys→Rs R (xs.take n) (ys.take n)
 |0,_,_,_=>by simp [Rs]
 |n+1,[],[],_=>by simp [Rs]
 |n+1,_ ::_,_ ::_,h=>⟨h.1,Rs.take n h.2⟩
 |_,[],_ ::_,h=>h.elim
 |_,_ ::_,[],h=>h.elim
theorem Rs.drop:∀(n:Nat) {xs:List α} {ys:List β},Rs R xs ys→Rs R (xs.drop n) (ys.drop n)
 |0,_,_,h=>h
 |n+1,[],[],_=>by simp [Rs]
 |n+1,_ ::_,_ ::_,h=>Rs.drop n h.2
 |_,[],_ ::_,h=>h.elim
 |_,_ ::_,[],h=>h.elim
theorem Rs.uD{f:γ→α}:∀{xs:List γ} {ys:List β},Rs (fun x y=>R (f x) y) xs ys→Rs R (xs.map f) ys
 | [],[],_=>trivial
 |_ ::_,_ ::_,h=>⟨h.1,Rs.uD h.2⟩
 | [],_ ::_,h=>h.elim
 |_ ::_,[],h=>h.elim
theorem Rs.imp_mem:∀{xs:List α} {ys:List β},(∀x∈xs,∀y,R x y→R' x y)→Rs R xs ys→Rs R' xs ys
 | [],[],_,_=>trivial
 |x ::_,_ ::_,hR,h=>⟨hR x (by simp) _ h.1,Rs.imp_mem (fun z hz=>hR z (by simp [hz])) h.2⟩
 | [],_ ::_,_,h=>h.elim
 |_ ::_,[],_,h=>h.elim
theorem a0:∀{a b:List Prop},cA (a++b)↔cA a∧cA b
 | [],b=>by simp [cA]
 |p ::a,b=>by simp only[List.cons_append,cA];rw[a0];exact and_assoc.symm
end
structure Ex (w:World) (M:Nat→Prop) (φ:Pl) (w':World) (M':Nat→Prop) (φ':Pl):Prop where
 RT:∀b,M b→w'.heap[b]?=w.heap[b]?
 sub:∀b,M b→M' b
 pl:∀id p,φ id=some p→φ' id=some p
theorem Ex.refl(w:World)(M:Nat→Prop)(φ:Pl):Ex w M φ w M φ:=⟨fun _ _=>rfl,fun _ h=>h,fun _ _ h=>h⟩
section
variable {w w' : World} {M M' : Nat → Prop} {φ φ' : Pl}
theorem IR.mono(hb:∀b,M b→w'.heap[b]?=w.heap[b]?)(hM:∀b,M b→M' b){l:Lf}{v:Value}(h:IR w M l v):IR w' M' l v:=by
 induction h with
 |any v h=>exact .any v h
 |int k n=>exact .int k n
 |bool b=>exact .bool b
 |str s=>exact .str s
 |K2=>exact .K2
 |cM=>exact .cM
 |fn f=>exact .fn f
 |ip cells off b o vs hm hc _ ih=>exact .ip cells off b o vs (hM b hm) (fun i l hl=>(World.cell?_of_block (hb b hm)).trans (hc i l hl)) ih
 |Ko cl sz a cap h=>exact .Ko cl sz a cap h
 |sl cl sz rows b o cap vs hm hl DE hs hc _ ih=>exact .sl cl sz rows b o cap vs (hM b hm) hl DE hs (fun i c j l h1 h2=>(World.cell?_of_block (hb b hm)).trans (hc i c j l h1 h2)) ih
theorem IR.one{l:Lf}{v:Value}(h:IR w M l v):v.oneCell'=true:=by cases h <;> first|rfl|assumption
theorem tC.mono(he:Ex w M φ w' M' φ'){l:Lf}{v:Value}(h:tC w M φ l v):tC w' M' φ' l v:= by
  cases l <;> first
    |exact IR.mono he.RT he.sub h
    |(obtain⟨b,h1,h2⟩:= h;exact⟨b,he.pl _ _ h1,h2⟩)
    |(obtain⟨b,C,h1,h2⟩:= h;exact⟨b,C,he.pl _ _ h1,h2⟩)
    | (rcases h with ⟨b, C, h1, h2⟩ | ⟨h1, h2⟩
       · exact .inl ⟨b,C,he.pl _ _ h1,h2⟩
       · exact .inr ⟨he.pl _ _ h1,h2⟩)
theorem tC.one{l:Lf}{v:Value}(h:tC w M φ l v):v.oneCell'=true:=by
 cases l <;> first
  |exact IR.one h
  |(obtain⟨b,h1,rfl⟩:=h;rfl)
  |(obtain⟨b,C,h1,rfl⟩:=h;rfl)
  |(rcases h with⟨b,C,h1,rfl,_⟩|⟨h1,_,_,a,rfl⟩ <;> rfl)
theorem Ic{l:Lf}{v:Value}(hn:MH l=false):LR w M φ l v=tC w M φ l v:=by
 cases l <;> first|rfl|cases hn
theorem LR.split{l:Lf}{v:Value}(h:LR w M φ l v):(MH l=false∧tC w M φ l v)∨∃f gE vs,l=.fn f gE∧v=.func f #[] (List.toArray vs)∧Rs (tC w M φ) gE vs:=by
 cases hf:MH l with
 |false=>rw[Ic hf]at h;exact .inl ⟨rfl,h⟩
 |true =>
  cases l <;> first|cases hf|skip
  obtain⟨vs,h1,h2⟩:=h;exact .inr ⟨_,_,vs,rfl,h1,h2⟩
theorem LR.mono(he:Ex w M φ w' M' φ'){l:Lf}{v:Value}(h:LR w M φ l v):LR w' M' φ' l v:=by
 rcases h.split with⟨hf,h0⟩|⟨f,gE,vs,rfl,rfl,h2⟩
 ·rw[Ic hf];exact tC.mono he h0
 ·exact⟨vs,rfl,h2.mono fun _ _ h=>tC.mono he h⟩
theorem LR.one{l:Lf}{v:Value}(h:LR w M φ l v):v.oneCell'=true:=by
 rcases h.split with⟨hf,h0⟩|⟨f,gE,vs,rfl,rfl,h2⟩
 ·exact tC.one h0
 ·rfl
theorem CR.mono(he:Ex w M φ w' M' φ'){c:Cm}{v:Value}(h:CR w M φ c v):CR w' M' φ' c v:=by
 cases c with
 |one l=>exact LR.mono he h
 |agg ls=>obtain⟨vs,h1,h2⟩:=h;exact⟨vs,h1,h2.mono fun _ _ h=>LR.mono he h⟩
theorem AR.mono(he:Ex w M φ w' M' φ'){c:AV}{v:Value}(h:AR w M φ c v):AR w' M' φ' c v:=by
 cases c with
 |cm c=>exact CR.mono he h
 |pX cs=>obtain⟨vs,h1,h2⟩:=h;exact⟨vs,h1,h2.mono fun _ _ h=>CR.mono he h⟩
 |gd p c=>exact⟨fun hp=>CR.mono he (h.1 hp),h.2⟩
 |Iy=>trivial
 |Px=>exact h
 |vl u c=>exact⟨h.1,CR.mono he h.2⟩
theorem LR.JU{l:Lf}{v:Value}(hi:JV l=true)(h:LR w M φ l v):IR w M l v:=by
 cases l <;> first|exact h|cases hi|skip
 rename_i f gE;cases gE with
 |cons x r=>cases hi
 |nil =>
  obtain⟨vs,rfl,h2⟩:=h;cases vs with
  |nil=>exact IR.fn f
  |cons y s=>exact h2.elim
theorem IR.lr{l:Lf}{v:Value}(h:IR w M l v):LR w M φ l v:=by
 cases h with
 |any v h=>exact IR.any v h
 |int k n=>exact IR.int k n
 |bool b=>exact IR.bool b
 |str s=>exact IR.str s
 |K2=>exact IR.K2
 |cM=>exact IR.cM
 |fn f=>exact⟨[],rfl,trivial⟩
 |ip cells off b o vs hm hc h=>exact IR.ip cells off b o vs hm hc h
 |Ko cl sz a cap h=>exact IR.Ko cl sz a cap h
 |sl cl sz rows b o cap vs hm hl DE hs hc h=>exact IR.sl cl sz rows b o cap vs hm hl DE hs hc h
theorem tC.lr{l:Lf}{v:Value}(h:tC w M φ l v):LR w M φ l v:=by
 cases hf:MH l with
 |false=>rw[Ic hf];exact h
 |true=>cases l <;> first|exact IR.lr h|cases hf
theorem CR.cells{c:Cm}{v:Value}(h:CR w M φ c v):Rs (LR w M φ) c.cells v.cells.toList:=by
 cases c with
 |one l =>
  have h1:=LR.one h;have:v.cells=#[v]:=by cases v <;> first|rfl|cases h1
  rw[this];exact⟨h,trivial⟩
 |agg ls=>obtain⟨vs,rfl,h2⟩:=h;simpa [Value.cells,Cm.cells]using h2
theorem Rs.J4{ls:List Lf}{vs:List Value}(h:Rs (LR w M φ) ls vs):∀v∈vs,v.oneCell'=true:=by
 intro v hv;obtain⟨i,hi⟩:=List.mem_iff_getElem?.1 hv;have hl:=h.len;have m9:i<vs.length:=(List.getElem?_eq_some_iff.1 hi).1;obtain⟨y,hy,hr⟩:=h.get (List.getElem?_eq_getElem (show i<ls.length by omega))
 rw[hi]at hy;cases hy;exact LR.one hr
end
section
variable {w : World} {M : Nat → Prop} {φ : Pl} {L : Nat → AV} {a : Act}
theorem E5{v:Value}{l:Lf}(h:ofConst v=some l):LR w M φ l v:=by
 unfold ofConst at h;split at h
 ·cases h;exact IR.int _ _
 ·cases h;exact IR.bool _
 ·cases h;exact IR.str _
 ·cases h;exact IR.K2
 ·cases h;exact IR.cM
 ·cases h;exact IR.any _ rfl
 ·rename_i f first gE;cases hc:(first.size == 0&&gE.size == 0)with
  |false=>rw[hc]at h;cases h
  |true =>
   rw[hc]at h;cases h;simp only[Bool.and_eq_true,beq_iff_eq]at hc;obtain⟨h1,h2⟩:=hc;obtain rfl:=Array.eq_empty_of_size_eq_zero h1;obtain rfl:=Array.eq_empty_of_size_eq_zero h2;exact⟨[],rfl,trivial⟩
 ·cases h
theorem CA:∀{vs:List Value} {ls:List Lf},zf vs=some ls→Rs (LR w M φ) ls vs
 | [],_,h=>by cases h;trivial
 |v ::vs,ls,h=>by
  simp only[zf]at h;split at h
  ·rename_i l Qb h1 h2;cases h;exact⟨E5 h1,CA h2⟩
  ·cases h
theorem PB{v:Value}{c:Cm}(h:Mn v=some c):CR w M φ c v:=by
 unfold Mn at h;split at h
 ·rename_i cs;cases h1:zf cs.toList with
  |none=>rw[h1]at h;cases h
  |some ls=>rw[h1]at h;cases h;exact⟨cs.toList,rfl,CA h1⟩
 ·cases h1:ofConst v with
  |none=>rw[h1]at h;cases h
  |some l=>rw[h1]at h;cases h;exact E5 h1
theorem EE(hF:∀t,AR w M φ (L t) (a.tmps.getD t undef))(x:Operand):AR w M φ (uP L x) (a.eval x):=by
 cases x with
 |tmp t =>
  have h:=hF t;show AR w M φ (match L t with|.vl _ c=>.cm c|a=>a) (a.tmps.getD t undef)
  split
  ·rename_i e;rw[e]at h;exact h.2
  ·exact h
 |const v =>
  unfold uP
  dsimp only
  split
  ·rename_i c h;exact PB h
  ·trivial
 |func f=>exact⟨[],rfl,trivial⟩
 |global g=>trivial
theorem Vu{g:Prop}{v:AV}{cv:Value}{c:Cm}{o:List Prop}(h:mL g v=some (c,o))(hv:AR w M φ v cv)(ho:cA o)(hg:g):CR w M φ c cv:=by
 cases v with
 |cm c'=>cases h;exact hv
 |gd p c'=>cases h;exact hv.1 (ho.1 hg)
 |pX cs=>cases h
 |Iy=>cases h
 |Px=>cases h
 |vl u c=>cases h
theorem bQ{g:Prop}{x:Operand}{c:Cm}{o:List Prop}(hF:∀t,AR w M φ (L t) (a.tmps.getD t undef))(h:mL g (uP L x)=some (c,o))(ho:cA o)(hg:g):CR w M φ c (a.eval x):=
 Vu h (EE hF x) ho hg
theorem rq{g:Prop}(hF:∀t,AR w M φ (L t) (a.tmps.getD t undef))(hg:g):∀{xs:List Operand} {cs:List Cm} {o:List Prop},Ej L g xs=some (cs,o)→cA o→Rs (CR w M φ) cs (xs.map a.eval)
 | [],_,_,h,_=>by cases h;trivial
 |x ::xs,cs,o,h,ho=>by
  simp only[Ej]at h;split at h
  ·rename_i c o1 KR o2 h1 h2;cases h;rw[a0]at ho;exact⟨bQ hF h1 ho.1 hg,rq hF hg h2 ho.2⟩
  ·cases h
theorem Dt{g:Prop}(hF:∀t,AR w M φ (L t) (a.tmps.getD t undef))(hg:g):∀{xs:List (Nat×Operand)} {cs:List (Nat×List Lf)} {o:List Prop},J_ L g xs=some (cs,o)→cA o→
  Rs (fun(p:Nat×List Lf) (q:Nat×Value)=>p.1=q.1∧Rs (LR w M φ) p.2 q.2.cells.toList) cs (xs.map fun(i,x)=>(i,a.eval x))
 | [],_,_,h,_=>by cases h;trivial
 |(i,x) ::xs,cs,o,h,ho=>by
  simp only[J_]at h;split at h
  ·rename_i c o1 KR o2 h1 h2;cases h;rw[a0]at ho;exact⟨⟨rfl,(bQ hF h1 ho.1 hg).cells⟩,Dt hF hg h2 ho.2⟩
  ·cases h
def Y3(w:World)(M:Nat→Prop)(φ:Pl)(a:Act):Option Operand→Option Cm→Prop
 |none,none=>True
 |some x,some c=>CR w M φ c (a.eval x)
 |_,_=>False
theorem MT{g:Prop}(hF:∀t,AR w M φ (L t) (a.tmps.getD t undef))(hg:g){x:Option Operand}{c:Option Cm}{o:List Prop}(h:Uy L g x=some (c,o))(ho:cA o):Y3 w M φ a x c:=by
 cases x with
 |none=>cases h;trivial
 |some x =>
  simp only[Uy]at h;cases h1:mL g (uP L x)with
  |none=>rw[h1]at h;cases h
  |some p=>obtain⟨c',o'⟩:=p;rw[h1]at h;cases h;exact bQ hF h1 ho hg
end
section
variable {w w' : World} {M M' : Nat → Prop} {φ φ' : Pl} {Γ : a5} {h h' : Nat → Option Ob}
theorem OC.mono{id:Nat}{ob:Ob}(he:Ex w M φ w' M' φ')(hO:OC w M φ id ob)(VI:∀b C,φ id=some (some (b,C))→w'.heap[b]?=w.heap[b]?):OC w' M' φ' id ob:=by
 obtain⟨h0,h1⟩:=hO;refine⟨h0,?_⟩;cases hφ:φ id with
 |none=>rw[hφ]at h1;exact h1.elim
 |some p =>
  rw[he.pl id p hφ];rw[hφ]at h1;cases p with
  |none=>exact h1
  |some bc =>
   obtain⟨b,C⟩:=bc;obtain⟨cur,g1,g2,g3,g4,g5,g6⟩:=h1;refine⟨cur,(VI b C hφ).trans g1,g2,g3,g4,g5,fun i c hc=>⟨(g6 i c hc).1,fun j l hl=>?_⟩⟩
   obtain⟨v,hv,hr⟩:=(g6 i c hc).2 j l hl;refine⟨v,hv,?_⟩;split
   ·rename_i hb;rw[if_pos hb]at hr;exact LR.mono he hr
   ·rename_i hb;rw[if_neg hb]at hr;exact IR.mono he.RT he.sub hr
theorem yT.mono(hb:∀b,M b→w'.heap[b]?=w.heap[b]?)(hM:∀b,M b→M' b){row:List Lf}{e:MapEntry}(h:yT w M row e):yT w' M' row e:=by
 obtain⟨v,ks,h1,h2,h3⟩:=h;refine⟨v,ks,h1,h2.mono hb hM,?_⟩;rcases h3 with⟨k,h4,h5⟩|⟨h4,vs,h5,h6⟩
 ·exact .inl ⟨k,h4,h5.mono hb hM⟩
 ·exact .inr ⟨h4,vs,h5,h6.mono fun _ _ h=>h.mono hb hM⟩
theorem OR.mono{id:Nat}{ob:Ob}(he:Ex w M φ w' M' φ')(hO:OR w M φ id ob)(VI:∀b C,φ id=some (some (b,C))→w'.heap[b]?=w.heap[b]?):OR w' M' φ' id ob:=by
 rcases hO with hO|⟨hb,rs,b,es,KC,h1,h2,h3,h4⟩
 ·exact .inl (hO.mono he VI)
 ·exact .inr ⟨hb,rs,b,es,KC,h1,he.pl _ _ h2,(VI b 1 h2).trans h3,h4.mono fun _ _ h=>yT.mono he.RT he.sub h⟩
theorem OR.oc{id:Nat}{ob:Ob}(hO:OR w M φ id ob)(h:ob.box=false∨∃c,ob.rows=[c]):OC w M φ id ob:=by
 rcases hO with hO|⟨hb,rs,b,es,KC,h1,-⟩
 ·exact hO
 ·rcases h with h|⟨c,h⟩
  ·rw[hb]at h;cases h
  ·rw[h1]at h;cases h
theorem OR.Ys{id:Nat}{ob:Ob}(hO:OR w M φ id ob)(h:φ id=none):False:=by
 rcases hO with⟨-,hO⟩|⟨-,rs,b,es,KC,-,h2,-⟩
 ·rw[h]at hO;exact hO
 ·rw[h]at h2;cases h2
theorem OR.boxed{id:Nat}{ob:Ob}(hO:OR w M φ id ob)(hb:ob.box=true):∃b,φ id=some (some (b,1)):=by
 rcases hO with⟨-,hO⟩|⟨-,rs,b,es,KC,-,h2,-⟩
 ·cases hφ:φ id with
  |none=>rw[hφ]at hO;exact hO.elim
  |some p =>
   rw[hφ]at hO;cases p with
   |none=>rw[hO.2]at hb;cases hb
   |some bc =>
    obtain⟨b,C⟩:=bc;obtain⟨cur,q1,q2,q3,q4,q5,q6⟩:=hO;rw[q5 hb];exact⟨b,rfl⟩
 ·exact⟨b,h2⟩
theorem OC.Xg{id:Nat}{ob:Ob}(hO:OC w M φ id ob)(hb:ob.box=true):isMap ob=false:=by
 have hO1:OR w M φ id ob:=.inl hO;obtain⟨b,hφ⟩:=hO1.boxed hb;obtain⟨_,hO⟩:=hO;rw[hφ]at hO;obtain⟨cur,g1,g2,g3,g4,g5,g6⟩:=hO;unfold isMap Dp;split
 ·rename_i r hr;rw[hr]at g3;simp at g3
 ·rfl
theorem OR.ren{id Pm:Nat}{ob:Ob}(hO:OR w M φ id ob)(e:φ Pm=φ id):OR w M φ Pm ob:=by
 rcases hO with⟨h0,hO⟩|⟨hb,rs,b,es,KC,h1,h2,h3⟩
 ·exact .inl ⟨h0,by rw[e];exact hO⟩
 ·exact .inr ⟨hb,rs,b,es,KC,h1,e.trans h2,h3⟩
theorem Wd.less(hW:Wd Γ φ M h w)(hs:∀id ob,h' id=some ob→h id=some ob):Wd Γ φ M h' w:=
 ⟨fun id ob e=>hW.e9 id ob (hs id ob e),fun i j oi oj b Ci Cj hi hj=>hW.inj i j oi oj b Ci Cj (hs _ _ hi) (hs _ _ hj),hW.mlt,hW.m0,hW.Gu,fun id ob b C e=>hW.own id ob b C (hs id ob e),hW.Ce,hW.os,hW.tape,hW.output,hW.size,hW.zA,hW.Te⟩
theorem Wd.Xs(hW:Wd Γ φ M h w)(b:Nat)(cs:Array Value)(ht:Wp=some (b,cs)):M b∧b<w.heap.size∧∃t s,w.heap[b]?=some (.cells cs t s):=by
 obtain⟨h1,h2,h3,t,s,h4⟩:=hW.Te b cs ht;have hm:=hW.m0 b h1;exact⟨hm,hW.mlt b hm,t,s,(hW.Ce b h3 h2).trans h4⟩
theorem Wd.grow(hW:Wd Γ φ M h w)(hb:Below w.heap.size w w'):Wd Γ φ M h w':=by
 have he:Ex w M φ w' M φ:=⟨fun b hm=>hb.block b (hW.mlt b hm),fun _ h=>h,fun _ _ h=>h⟩
 exact⟨fun id ob e=>(hW.e9 id ob e).mono he fun b C hφ=>hb.block b (hW.own id ob b C e hφ).2.1,hW.inj,fun b hm=>Nat.lt_of_lt_of_le (hW.mlt b hm) hb.size,hW.m0,hW.Gu,
  fun id ob b C e hφ=>⟨(hW.own id ob b C e hφ).1,Nat.lt_of_lt_of_le (hW.own id ob b C e hφ).2.1 hb.size,(hW.own id ob b C e hφ).2.2⟩,
  fun b m9 hn=>(hb.block b (Nat.lt_of_lt_of_le m9 hW.size)).trans (hW.Ce b m9 hn),hb.os.trans hW.os,hb.tape.trans hW.tape,hb.output.trans hW.output,Nat.le_trans hW.size hb.size,hW.zA,hW.Te⟩
theorem Wd.I5(hW:Wd Γ φ M h w)(hb:Below w.heap.size w w'):Ex w M φ w' M φ:=⟨fun b hm=>hb.block b (hW.mlt b hm),fun _ h=>h,fun _ _ h=>h⟩
def DA(φ:Pl)(id:Nat)(p:Option (Nat×Nat)):Pl:=fun i=>if i=id then some p else φ i
theorem dJ(φ:Pl)(id:Nat)(p:Option (Nat×Nat)):DA φ id p id=some p:=if_pos rfl
theorem nM{φ:Pl}{id i:Nat}(p:Option (Nat×Nat))(ux:i≠id):DA φ id p i=φ i:=if_neg ux
theorem pY{φ:Pl}{id:Nat}(p:Option (Nat×Nat))(hn:φ id=none):∀i q,φ i=some q→DA φ id p i=some q:=fun i q hq=>by
 rw[nM];· exact hq
 ·rintro rfl;rw[hn]at hq;cases hq
theorem Wd.new(hW:Wd Γ φ M h w){id:Nat}(ob:Ob){b C:Nat}(hφ:φ id=none)(hh:h id=none)(hb:Below w.heap.size w w')(hbs:w.heap.size≤b)(YL:b<w'.heap.size)
  (hO:OR w' M (DA φ id (some (b,C))) id ob):Wd Γ (DA φ id (some (b,C))) M (fun i=>if i=id then some ob else h i) w':=by
 have mw:=hW.grow hb;have he:Ex w' M φ w' M (DA φ id (some (b,C))):=⟨fun _ _=>rfl,fun _ h=>h,pY _ hφ⟩
 have hpi:∀i o,h i=some o→i≠id:=fun i o e=>by rintro rfl;rw[hh]at e;cases e
 refine⟨fun i o e=>?_,fun i j oi oj c Ci Cj hi hj pi pj=>?_,mw.mlt,mw.m0,mw.Gu,fun i o c C' e p=>?_,mw.Ce,mw.os,mw.tape,mw.output,mw.size,fun p hp=>he.pl _ _ (hW.zA p hp),hW.Te⟩
 ·by_cases hi:i=id
  ·subst hi;rw[if_pos rfl]at e;cases e;exact hO
  ·rw[if_neg hi]at e;exact(mw.e9 i o e).mono he fun _ _ _=>rfl
 ·have key:∀{k:Nat} {o:Ob} {c Ck:Nat},k≠id→h k=some o→DA φ id (some (b,C)) k=some (some (c,Ck))→c<w.heap.size:=fun hk ho hp=>by
   rw[nM _ hk]at hp;exact(hW.own _ _ _ _ ho hp).2.1
  by_cases Mw:i=id <;> by_cases Ns:j=id
  ·rw[Mw,Ns]
  ·subst Mw;rw[dJ]at pi;cases pi;rw[if_neg Ns]at hj;have:=key Ns hj pj;omega
  ·subst Ns;rw[dJ]at pj;cases pj;rw[if_neg Mw]at hi;have:=key Mw hi pi;omega
  ·rw[if_neg Mw]at hi;rw[if_neg Ns]at hj;rw[nM _ Mw]at pi;rw[nM _ Ns]at pj;exact hW.inj i j oi oj c Ci Cj hi hj pi pj
 ·by_cases hi:i=id
  ·subst hi;rw[dJ]at p;cases p;exact⟨fun hm=>by have:=hW.mlt _ hm;omega,YL,.inr (Nat.le_trans hW.size hbs)⟩
  ·rw[if_neg hi]at e;rw[nM _ hi]at p;exact mw.own i o c C' e p
theorem Wd.E2(hW:Wd Γ φ M h w){id:Nat}(ob:Ob)(hφ:φ id=none)(hh:h id=none)(hr:ob.rows=[])(nQ:ob.box=false)(hs:0<ob.sz):
  Wd Γ (DA φ id none) M (fun i=>if i=id then some ob else h i) w:=by
 have he:Ex w M φ w M (DA φ id none):=⟨fun _ _=>rfl,fun _ h=>h,pY _ hφ⟩
 refine⟨fun i o e=>?_,fun i j oi oj c Ci Cj hi hj pi pj=>?_,hW.mlt,hW.m0,hW.Gu,fun i o c C' e p=>?_,hW.Ce,hW.os,hW.tape,hW.output,hW.size,fun p hp=>he.pl _ _ (hW.zA p hp),hW.Te⟩
 ·by_cases hi:i=id
  ·subst hi;rw[if_pos rfl]at e;cases e;refine .inl ⟨hs,?_⟩;rw[dJ];exact⟨hr,nQ⟩
  ·rw[if_neg hi]at e;exact(hW.e9 i o e).mono he fun _ _ _=>rfl
 ·by_cases Mw:i=id
  ·subst Mw;rw[dJ]at pi;cases pi
  ·by_cases Ns:j=id
   ·subst Ns;rw[dJ]at pj;cases pj
   ·rw[if_neg Mw]at hi;rw[if_neg Ns]at hj;rw[nM _ Mw]at pi;rw[nM _ Ns]at pj;exact hW.inj i j oi oj c Ci Cj hi hj pi pj
 ·by_cases hi:i=id
  ·subst hi;rw[dJ]at p;cases p
  ·rw[if_neg hi]at e;rw[nM _ hi]at p;exact hW.own i o c C' e p
theorem Wd.Ww(hW:Wd Γ φ M h w){id:Nat}{ob xj:Ob}{b C:Nat}(hh:h id=some ob)(hφ:φ id=some (some (b,C)))(PT:∀k,k≠b→w'.heap[k]?=w.heap[k]?)(jM:w'.heap.size=w.heap.size)
  (hos:w'.os=w.os) (htp:w'.tape=w.tape) (Hw:w'.output=w.output) (hO:OR w' M φ id xj):Wd Γ φ M (fun i=>if i=id then some xj else h i) w':=by
 obtain⟨hm,m9,Ol⟩:=hW.own id ob b C hh hφ;have he:Ex w M φ w' M φ:=⟨fun c hc=>PT c fun e=>hm (e▸hc),fun _ h=>h,fun _ _ h=>h⟩
 have T9:∀i o,(fun i=>if i=id then some xj else h i) i=some o→∃o',h i=some o':=fun i o e=>by
  by_cases hi:i=id
  ·subst hi;exact⟨ob,hh⟩
  ·simp only[if_neg hi]at e;exact⟨o,e⟩
 refine⟨fun i o e=>?_,fun i j oi oj c Ci Cj hi hj pi pj=>?_,fun c hc=>by rw[jM];exact hW.mlt c hc,hW.m0,hW.Gu,fun i o c C' e p=>?_,fun c hc hn=>?_,hos.trans hW.os,htp.trans hW.tape,Hw.trans hW.output,by rw[jM];exact hW.size,hW.zA,hW.Te⟩
 ·by_cases hi:i=id
  ·subst hi;simp only[if_true]at e;cases e;exact hO
  ·simp only[if_neg hi]at e;exact(hW.e9 i o e).mono he fun c C' hp=>PT c fun hc=>hi (hW.inj i id o ob b C' C e hh (hc▸hp) hφ)
 ·obtain⟨oi',Mw⟩:=T9 i oi hi;obtain⟨oj',Ns⟩:=T9 j oj hj;exact hW.inj i j oi' oj' c Ci Cj Mw Ns pi pj
 ·obtain⟨o',ho'⟩:=T9 i o e;rw[jM];exact hW.own i o' c C' ho' p
 ·rw[PT c fun e=>?_]
  ·exact hW.Ce c hc hn
  ·subst e;rcases Ol with h1|h1
   ·exact hn h1
   ·omega
end
end
section
open Go.RowKit
def LO(h:Nat→Option Ob)(base:Nat)(news:List Ob):Nat→Option Ob:=fun id=>if base≤id∧id<base+news.length then news[id-base]? else h id
theorem sI(h:Nat→Option Ob)(base:Nat):LO h base []=h:=by
 funext id;unfold LO;rw[if_neg (fun h=>by have:=h.2;simp at this;omega)]
theorem MZ(h:Nat→Option Ob)(base:Nat)(ob:Ob):LO h base [ob]=fun i=>if i=base then some ob else h i:=by
 funext id;unfold LO
 by_cases hi:id=base
 ·subst hi;simp
 ·rw[if_neg hi,if_neg (by simp only[List.length_singleton];omega)]
def Yd(P:Program)(Γ:a5)(φ:Pl)(M:Nat→Prop)(hD:Nat→Option Ob)(w:World)(base:Nat)(r:G_)(run:Result Next):Prop:=
 ∃v w' φ',run=.ok (.value v) w'∧AR w' M φ' r.v v∧Wd Γ φ' M (LO hD base r.news) w'∧(∀id p,φ id=some p→φ' id=some p)∧
  (∀id,φ' id≠none→φ id≠none∨(base≤id∧id<base+r.news.length))∧(∀b,M b→w'.heap[b]?=w.heap[b]?)
section
variable {P : Program} {Γ : a5} {φ : Pl} {M : Nat → Prop} {hD h : Nat → Option Ob} {w : World} {base : Nat} {L : Nat → AV} {a : Act} {g : Prop} {hs : List Hint} {r : G_} {o : Oper}
theorem Yd.val{run:Result Next}{v:Value}(hr:run=.ok (.value v) w)(hn:r.news=[])(hv:AR w M φ r.v v)(hW:Wd Γ φ M hD w):Yd P Γ φ M hD w base r run:=
 ⟨v,w,φ,hr,hv,by rw[hn,sI];exact hW,fun _ _ h=>h,fun _ h=>.inl h,fun _ _=>rfl⟩
theorem Yd.grow{run:Result Next}{v:Value}{w':World}(hr:run=.ok (.value v) w')(hn:r.news=[])(hb:Below w.heap.size w w')(hv:AR w' M φ r.v v)(hW:Wd Γ φ M hD w):Yd P Γ φ M hD w base r run:=
 ⟨v,w',φ,hr,hv,by rw[hn,sI];exact hW.grow hb,fun _ _ h=>h,fun _ h=>.inl h,fun b hm=>hb.block b (hW.mlt b hm)⟩
theorem Yd.new{run:Result Next}{v:Value}{w':World}{ob:Ob}{b C:Nat}(hr:run=.ok (.value v) w')(hn:r.news=[ob])(hW:Wd Γ φ M hD w)(pM:∀id,base≤id→id<base+r.news.length→φ id=none∧hD id=none)
  (hb:Below w.heap.size w w') (hbs:w.heap.size≤b) (YL:b<w'.heap.size) (hO:OR w' M (DA φ base (some (b,C))) base ob) (hv:AR w' M (DA φ base (some (b,C))) r.v v):Yd P Γ φ M hD w base r run:=by
 have hf:=pM base (Nat.le_refl _) (by rw[hn];simp)
 refine⟨v,w',DA φ base (some (b,C)),hr,hv,?_,pY _ hf.1,fun id hid=>?_,fun c hm=>hb.block c (hW.mlt c hm)⟩
 ·rw[hn,MZ];exact hW.new ob hf.1 hf.2 hb hbs YL hO
 ·by_cases hi:id=base
  ·exact .inr (by rw[hi,hn];simp)
  ·rw[nM _ hi]at hid;exact .inl hid
theorem Yd.E2{run:Result Next}{v:Value}{w':World}{ob:Ob}(hr:run=.ok (.value v) w')(hn:r.news=[ob])(hW:Wd Γ φ M hD w)(pM:∀id,base≤id→id<base+r.news.length→φ id=none∧hD id=none)
  (hb:Below w.heap.size w w') (h1:ob.rows=[]) (h2:ob.box=false) (h3:0<ob.sz) (hv:AR w' M (DA φ base none) r.v v):Yd P Γ φ M hD w base r run:=by
 have hf:=pM base (Nat.le_refl _) (by rw[hn];simp)
 refine⟨v,w',DA φ base none,hr,hv,?_,pY _ hf.1,fun id hid=>?_,fun c hm=>hb.block c (hW.mlt c hm)⟩
 ·rw[hn,MZ];exact(hW.grow hb).E2 ob hf.1 hf.2 h1 h2 h3
 ·by_cases hi:id=base
  ·exact .inr (by rw[hi,hn];simp)
  ·rw[nM _ hi]at hid;exact .inl hid
theorem qO(w:World)(o:Obj):Below w.heap.size w (w.alloc o):=(Below.refl _ _).alloc (Nat.le_refl _) o
theorem mn{t:TypeId}{n:Nat}(h:Dd P t=some n):∃i,P.info? t=some i∧i.size=n:=by
 unfold Dd at h;cases hi:P.info? t with
 |none=>rw[hi]at h;cases h
 |some i=>rw[hi]at h;cases h;exact⟨i,rfl,rfl⟩
theorem Ia{t:TypeId}{b:Bool}(h:BK P t=some b):∃d,P.underlying t=some d∧d.isRow=b:=by
 unfold BK at h;cases hi:P.underlying t with
 |none=>rw[hi]at h;cases h
 |some d=>rw[hi]at h;cases h;exact⟨d,rfl,rfl⟩
theorem qM{t:TypeId}{z:List Lf}(h:ED P t=some z):∃i zv,P.info? t=some i∧i.zero=some zv∧zv.cells.size=i.size∧0<i.size∧Rs (LR w M φ) z zv.cells.toList∧z.length=i.size:=by
 unfold ED at h;split at h
 ·rename_i i hi;split at h
  ·rename_i zv hz;cases hc:(zv.cells.size == i.size&&!(i.size == 0))with
   |false=>rw[hc]at h;cases h
   |true =>
    rw[hc]at h;simp only[Bool.and_eq_true,beq_iff_eq,Bool.not_eq_true',beq_eq_false_iff_ne]at hc;have IL:=CA (w:=w) (M:=M) (φ:=φ) h;exact⟨i,zv,hi,hz,hc.1,by omega,IL,by rw[IL.len,←hc.1];simp⟩
  ·cases h
 ·cases h
theorem iN{t e:TypeId}(h:m1 P t=some e):P.underlying t=some (.slice e):=by
 unfold m1 at h;split at h
 ·rename_i e' he;cases h;exact he
 ·cases h
theorem Dy{t:TypeId}{d:TypeDesc}(hu:P.underlying t=some d)(w:World):(isAgg t).run P w=.ok d.isRow w:=by
 unfold isAgg;rw[Sem.run_bind,run_underlying hu w];cases d <;> rfl
theorem run_sizeOf{t:TypeId}{i:TypeInfo}(hi:P.info? t=some i)(w:World):(sizeOf t).run P w=.ok i.size w:=by simp [sizeOf,typeInfo,hi]
theorem PK{R:Lf→Value→Prop}{b:Nat}:∀(ls:List Lf) (k:Nat),(∀(i:Nat) (l:Lf),ls[i]?=some l→∃v,w.cell? ⟨b,k+i,none⟩=some v∧R l v)→∃vs,Rs R ls vs∧w.rangeAt b k vs
 | [],_,_=>⟨[],trivial,fun j v h=>by simp at h⟩
 |l ::ls,k,h=>by
  obtain⟨v,hv,hr⟩:=h 0 l rfl;obtain⟨vs,h1,h2⟩:=PK ls (k+1) fun i l' hl=>by
   obtain⟨v,hv,hr⟩:=h (i+1) l' (by simpa using hl)
   exact⟨v,by rw[show k+1+i=k+(i+1) by omega];exact hv,hr⟩
  refine⟨v ::vs,⟨hr,h1⟩,fun j u hj=>?_⟩
  cases j with
  |zero=>simp at hj;subst hj;exact hv
  |succ j=>rw[show k+(j+1)=k+1+j by omega];exact h2 j u (by simpa using hj)
theorem Aq{t:TypeId}{n:Nat}{Kl:Bool}{b k off:Nat}{cells:List Lf}{c:Cm}(ht:Dd P t=some n)(hr:BK P t=some Kl)(hp:qd Kl n off cells=some c)
  (hc:∀(i:Nat) (l:Lf),cells[i]?=some l→∃v,w.cell? ⟨b,k+i,none⟩=some v∧LR w M φ l v):∃v,(loadVar t ⟨b,k+off,none⟩).run P w=.ok v w∧CR w M φ c v:=by
 obtain⟨i,hi,jM⟩:=mn ht;obtain⟨d,hu,hd⟩:=Ia hr;unfold qd at hp;cases Kl with
 |true =>
  simp only[cond_true]at hp;cases hl:(((cells.drop off).take n).length == n)with
  |false=>rw[hl]at hp;cases hp
  |true =>
   rw[hl]at hp;cases hp;have Il:((cells.drop off).take n).length=n:=by simpa using hl
   obtain⟨vs,h1,h2⟩:=PK (w:=w) (R:=LR w M φ) (b:=b) ((cells.drop off).take n) (k+off) fun j l hj=>by
    have hj2:cells[off+j]?=some l:=by
     rw[List.getElem?_take]at hj;split at hj
     ·rw[List.getElem?_drop]at hj;exact hj
     ·cases hj
    obtain⟨v,hv,hr⟩:=hc _ _ hj2;exact⟨v,by rw[show k+off+j=k+(off+j) by omega];exact hv,hr⟩
   exact⟨_,run_loadVar_mid w b (k+off) t vs d h2 hu hd (by rw[hi,Option.map_some,jM,←h1.len,Il]),vs,rfl,h1⟩
 |false =>
  simp only[cond_false]at hp;cases hl:cells[off]? with
  |none=>rw[hl]at hp;cases hp
  |some l =>
   rw[hl]at hp;cases hp;obtain⟨v,hv,hr⟩:=hc _ _ hl;refine⟨v,?_,hr⟩;unfold loadVar;rw[Sem.run_bind,Dy hu w,hd];simp [hv]
theorem OR.cell{id:Nat}{ob:Ob}{b C i:Nat}{c:List Lf}(hO:OR w M φ id ob)(ZK:ob.box=false∨∃c,ob.rows=[c])(hφ:φ id=some (some (b,C)))(hc:ob.rows[i]?=some c):
  ∀(j:Nat) (l:Lf),c[j]?=some l→∃v,w.cell? ⟨b,i*ob.sz+j,none⟩=some v∧(if ob.box then LR w M φ l v else IR w M l v):=by
 obtain⟨_,h1⟩:=hO.oc ZK;rw[hφ]at h1;obtain⟨cur,g1,g2,g3,g4,g5,g6⟩:=h1;intro j l hl;obtain⟨v,hv,hr⟩:=(g6 i c hc).2 j l hl;exact⟨v,by simp only[World.cell?,g1];simpa using hv,hr⟩
theorem OR.Li{id:Nat}{ob:Ob}{b C i:Nat}{c:List Lf}(hO:OR w M φ id ob)(ZK:ob.box=false∨∃c,ob.rows=[c])(hφ:φ id=some (some (b,C)))(hc:ob.rows[i]?=some c):
  ∀(j:Nat) (l:Lf),c[j]?=some l→∃v,w.cell? ⟨b,i*ob.sz+j,none⟩=some v∧LR w M φ l v:=fun j l hl=>by
 obtain⟨v,hv,hr⟩:=hO.cell ZK hφ hc j l hl;refine⟨v,hv,?_⟩;split at hr
 ·exact hr
 ·exact IR.lr hr
theorem Qr{t:TypeId}{x:Operand}(ho:o.op=.load t x)(hf:uT P h base g L o.op hs=some r)(cF:cA r.e9)(hg:g)(hF:∀t,AR w M φ (L t) (a.tmps.getD t undef))(hW:Wd Γ φ M hD w)
  (ef:∀id ob,h id=some ob→hD id=some ob):Yd P Γ φ M hD w base r ((execOp a.eval o).run P w):=by
 rw[ho]at hf;simp only[uT]at hf;have c6:∀v b k,a.eval x=.pointer (some ⟨b,k,none⟩)→(loadVar t ⟨b,k,none⟩).run P w=.ok v w→(execOp a.eval o).run P w=.ok (.value v) w:=fun v b k hx hl=>by
  simp [execOp,ho,Instr.loadAt,Instr.sureAddr,hx,hl]
 split at hf
 ·rename_i cells off o1 n Kl h1 h2 h3;cases hp:qd Kl n off cells with
  |none=>rw[hp]at hf;cases hf
  |some c =>
   rw[hp]at hf;cases hf;have hx:=bQ hF h1 cF hg;have xi:IR w M (.ip cells off) (a.eval x):=hx;generalize hv:a.eval x=xv at xi;cases xi with
   |ip _ _ b k vs hm hc hr =>
    obtain⟨v,hl,Sc⟩:=Aq (M:=M) (φ:=φ) (b:=b) (k:=k) h2 h3 hp fun i l hl=>⟨_,hc i l hl,IR.lr (hr i l hl)⟩
    exact Yd.val (c6 v b _ hv hl) rfl Sc hW
 ·rename_i id sz row off o1 n Kl h1 h2 h3;split at hf
  ·rename_i ob QbT;cases jM:(ob.sz == sz)with
   |false=>rw[jM]at hf;cases hf
   |true =>
    rw[jM]at hf;simp only[cond_true]at hf;have X7:ob.sz=sz:=by simpa using jM
    have hO:=hW.e9 id ob (ef id ob QbT);split at hf
    ·rename_i nQ iF;cases DG:(row == 0)with
     |false=>rw[DG]at hf;cases hf
     |true =>
      rw[DG]at hf;have Qb3:row=0:=by simpa using DG
      rename_i cells;cases hp:qd Kl n off cells with
      |none=>rw[hp]at hf;cases hf
      |some c =>
       rw[hp]at hf;cases hf;obtain⟨b,C,hφ,hv⟩:=(bQ hF h1 cF hg:tC w M φ (.op id sz row off) (a.eval x));obtain⟨v,hl,Sc⟩:=Aq (M:=M) (φ:=φ) (b:=b) (k:=row*sz) h2 h3 hp fun i l hl=>by
        have:=hO.Li (i:=0) (.inr ⟨_,iF⟩) hφ (by rw[iF];rfl) i l hl
        rw[Qb3,Nat.zero_mul];rwa [Nat.zero_mul]at this
       exact Yd.val (c6 v b _ hv hl) rfl Sc hW
    ·rename_i c0 gR nQ;cases hp:qd Kl n off c0 with
     |none=>rw[hp]at hf;cases hf
     |some c =>
      rw[hp]at hf;cases hf;rw[a0]at cF;obtain⟨b,C,hφ,hv⟩:=(bQ hF h1 cF.1 hg:tC w M φ (.op id sz row off) (a.eval x));obtain⟨v,hl,Sc⟩:=Aq (M:=M) (φ:=φ) (b:=b) (k:=row*sz) h2 h3 hp fun i l hl=>by
       have:=hO.Li (i:=row) (.inl nQ) hφ cF.2.1 i l hl;rwa [X7]at this
      exact Yd.val (c6 v b _ hv hl) rfl Sc hW
    ·cases hf
  ·cases hf
 ·cases hf
end
end
section
open Go.RowKit
section
variable {P : Program} {Γ : a5} {φ : Pl} {M : Nat → Prop} {hD h : Nat → Option Ob} {w : World} {base : Nat} {L : Nat → AV} {a : Act} {g : Prop} {hs : List Hint} {r : G_} {o : Oper}
variable (cF : cA r.e9) (hg : g) (hF : ∀ t, AR w M φ (L t) (a.tmps.getD t undef)) (hW : Wd Γ φ M hD w)
include cF hg hF hW
theorem Ku{x:Operand}(ho:o.op=.move x∨o.op=.assign x)(hf:uT P h base g L (.move x) hs=some r):Yd P Γ φ M hD w base r ((execOp a.eval o).run P w):=by
 have c6:(execOp a.eval o).run P w=.ok (.value (a.eval x)) w:=by rcases ho with ho|ho <;> simp [execOp,ho]
 have hx:=EE hF x;simp only[uT]at hf;split at hf
 ·rename_i c h1;cases hf;rw[h1]at hx;exact Yd.val c6 rfl hx hW
 ·rename_i c h1;cases hf;rw[h1]at hx;exact Yd.val c6 rfl hx hW
 ·rename_i p c h1;cases hf;rw[h1]at hx;exact Yd.val c6 rfl (hx.1 (cF.1 hg)) hW
 ·cases hf
 ·rename_i h1;cases hf;rw[h1]at hx;exact Yd.val c6 rfl hx hW
 ·cases hf
theorem Qs{c x y:Operand}(ho:o.op=.pick c x y)(hf:uT P h base g L o.op hs=some r):Yd P Γ φ M hD w base r ((execOp a.eval o).run P w):=by
 rw[ho]at hf;simp only[uT]at hf;have c6:∀b,a.eval c=.bool b→(execOp a.eval o).run P w=.ok (.value (if b then a.eval x else a.eval y)) w:=fun b hb=>by
  simp [execOp,ho,hb,asBool]
 split at hf
 ·rename_i bc o1 gR h1;split at hf
  ·rename_i bx oa by_ ob_ h2 h3;cases hf;simp only[a0]at cF;have hc:IR w M (.bool bc) (a.eval c):=bQ hF h1 cF.1.1 hg;generalize hv:a.eval c=cv at hc;cases hc;refine Yd.val (c6 _ hv) rfl ?_ hW;cases bc with
   |true=>exact(bQ hF h2 cF.1.2 ⟨hg,rfl⟩:CR w M φ (.one (.bool bx)) (a.eval x))
   |false=>exact(bQ hF h3 cF.2 ⟨hg,rfl⟩:CR w M φ (.one (.bool by_)) (a.eval y))
  ·cases hf
 ·rename_i bc o1 t gR h1;cases h2:mL g (uP L (cond t x y))with
  |none=>rw[h2]at hf;cases hf
  |some p =>
   obtain⟨cx,o2⟩:=p;rw[h2]at hf;cases hf;simp only[a0,cA]at cF;have hc:IR w M (.bool bc) (a.eval c):=bQ hF h1 cF.1.1 hg;generalize hv:a.eval c=cv at hc;cases hc;refine Yd.val (c6 _ hv) rfl ?_ hW;have h3:CR w M φ cx (a.eval (cond t x y)):=bQ hF h2 cF.2 hg;obtain rfl:=cF.1.2.1;cases bc <;> exact h3
 ·cases hf
theorem Ti{w':World}{e:TypeId}{ls:List Lf}{vs:Array Value}{id b:Nat}{φ':Pl}(hφ:φ' id=some (some (b,1)))(hb:w'.heap[b]?=some (.cells vs e))(hr:Rs (LR w' M φ') ls vs.toList)(h0:0<ls.length):OR w' M φ' id (FN e ls):=by
 refine .inl ⟨h0,?_⟩;rw[hφ];refine⟨vs,hb,by rw[←Array.length_toList,←hr.len];simp [FN],by simp [FN],by decide,fun _=>rfl,fun i c hc=>?_⟩
 cases i with
 |zero =>
  simp [FN]at hc;subst hc;refine⟨rfl,fun j l hl=>?_⟩
  obtain⟨v,hv,TY⟩:=hr.get hl;exact⟨v,by rw[Nat.zero_mul,Nat.zero_add];simpa using hv,TY⟩
 |succ i=>simp [FN]at hc
theorem C9{e:TypeId}{ls:List Lf}{v:Value}(hn:r.news=[FN e ls])(hv:r.v=one (.op base ls.length 0 0))(h0:0<ls.length)(hr:Rs (LR w M φ) ls v.cells.toList)
  (c6:(execOp a.eval o).run P w=.ok (.value (.pointer (some ⟨w.heap.size,0,none⟩))) (w.alloc (.cells v.cells e))) (pM:∀id,base≤id→id<base+r.news.length→φ id=none∧hD id=none):
  Yd P Γ φ M hD w base r ((execOp a.eval o).run P w):=by
 have hf:=pM base (Nat.le_refl _) (by rw[hn];simp)
 have hb:=qO w (.cells v.cells e);have he:Ex w M φ (w.alloc (.cells v.cells e)) M (DA φ base (some (w.heap.size,1))):=⟨fun b hm=>hb.block b (hW.mlt b hm),fun _ h=>h,pY _ hf.1⟩
 refine Yd.new (b:=w.heap.size) (C:=1) c6 hn hW pM hb (Nat.le_refl _) (by simp) ?_ ?_
 ·exact Ti cF hg hF hW (dJ _ _ _) (heap_alloc_new w _) (hr.mono fun _ _ h=>LR.mono he h) h0
 ·rw[hv];exact⟨w.heap.size,1,dJ _ _ _,by simp⟩
theorem O1{e:TypeId}(ho:o.op=.alloc e)(hf:uT P h base g L o.op hs=some r)(pM:∀id,base≤id→id<base+r.news.length→φ id=none∧hD id=none):Yd P Γ φ M hD w base r ((execOp a.eval o).run P w):=by
 rw[ho]at hf;simp only[uT]at hf;cases hz:ED P e with
 |none=>rw[hz]at hf;cases hf
 |some z =>
  rw[hz]at hf;cases hf;obtain⟨i,zv,hi,PU,KY,h0,IL,hl⟩:=qM (w:=w) (M:=M) (φ:=φ) hz;refine C9 cF hg hF hW (v:=zv) rfl rfl (by omega) IL ?_ pM
  simp [execOp,ho,Instr.alloc,zeroValue,typeInfo,hi,PU,newVar,newRow]
theorem SO{e:TypeId}{x:Operand}(ho:o.op=.box e x)(hf:uT P h base g L o.op hs=some r)(pM:∀id,base≤id→id<base+r.news.length→φ id=none∧hD id=none):Yd P Γ φ M hD w base r ((execOp a.eval o).run P w):=by
 rw[ho]at hf;simp only[uT]at hf;split at hf
 ·rename_i c o1 h1;cases hc:c.cells.isEmpty with
  |true=>rw[hc]at hf;cases hf
  |false =>
   rw[hc]at hf;cases hf;have hx:=(bQ hF h1 cF hg).cells;refine C9 cF hg hF hW (v:=a.eval x) rfl rfl (by rw[List.length_pos_iff];simpa using hc) hx ?_ pM
   simp [execOp,ho,Instr.box,newVar,newRow]
 ·cases hf
theorem Kv{x:Operand}(ho:o.op=.nilCheck x)(hf:uT P h base g L o.op hs=some r):Yd P Γ φ M hD w base r ((execOp a.eval o).run P w):=by
 rw[ho]at hf;simp only[uT]at hf;split at hf
 ·rename_i c off o1 h1;cases hf;have hx:IR w M (.ip c off) (a.eval x):=bQ hF h1 cF hg;generalize hv:a.eval x=xv at hx;have xi:=hx;cases hx with
  |ip _ _ b k vs hm hc hr=>exact Yd.val (by simp [execOp,ho,hv]) rfl xi hW
 ·rename_i id sz row off o1 h1;cases hf;have hx:tC w M φ (.op id sz row off) (a.eval x):=bQ hF h1 cF hg;obtain⟨b,C,hφ,hv⟩:=hx;exact Yd.val (by simp [execOp,ho,hv]) rfl ⟨b,C,hφ,rfl⟩ hW
 ·cases hf
theorem Qt{u:UnOp}{t:TypeId}{x:Operand}(ho:o.op=.unOp u t x)(hf:uT P h base g L o.op hs=some r):Yd P Γ φ M hD w base r ((execOp a.eval o).run P w):=by
 rw[ho]at hf;simp only[uT]at hf;split at hf
 ·rename_i k n o1 h1;cases hf;have hx:IR w M (.int k n) (a.eval x):=bQ hF h1 cF hg;generalize hv:a.eval x=xv at hx;cases hx;exact Yd.val (v:=.int k (dA k 0 n)) (by simp [execOp,ho,hv,Op.unary,Op.intArith,dA]) rfl (IR.int _ _) hW
 ·rename_i b o1 h1;cases hf;have hx:IR w M (.bool b) (a.eval x):=bQ hF h1 cF hg;generalize hv:a.eval x=xv at hx;cases hx;exact Yd.val (v:=.bool (!b)) (by simp [execOp,ho,hv,Op.unary]) rfl (IR.bool _) hW
 ·cases hf
theorem zK{t:TypeId}{f fo n:Nat}{b:Bool}(h:I6 P t f=some (fo,n,b)):∃fs fd,P.underlying t=some (.struct fs)∧fs[f]?=some fd∧fd.offset=fo∧Dd P fd.type=some n∧BK P fd.type=some b∧n≠0:=by
 unfold I6 at h;split at h
 ·rename_i fs hu;split at h
  ·rename_i fd XP;split at h
   ·rename_i n' b' h1 h2;cases hn:(n' == 0)with
    |true=>rw[hn]at h;cases h
    |false=>rw[hn]at h;cases h;exact⟨fs,fd,hu,XP,rfl,h1,h2,by simpa using hn⟩
   ·cases h
  ·cases h
 ·cases h
theorem IV{t:TypeId}{x:Operand}{f:Nat}(ho:o.op=.fieldAddr t x f)(hf:uT P h base g L o.op hs=some r):Yd P Γ φ M hD w base r ((execOp a.eval o).run P w):=by
 rw[ho]at hf;simp only[uT]at hf;split at hf
 ·rename_i fo n Kl cells off o1 h1 h2;cases hf;obtain⟨fs,fd,hu,XP,rfl,hn,hr,AN⟩:=zK cF hg hF hW h1;obtain⟨i,hi,jM⟩:=mn hn;have hx:IR w M (.ip cells off) (a.eval x):=bQ hF h2 cF hg;generalize hv:a.eval x=xv at hx;cases hx with
  |ip _ _ b k vs hm hc Rb =>
   refine Yd.val (v:=.pointer (some ⟨b,k+(off+fd.offset),none⟩)) ?_ rfl (IR.ip cells _ b k vs hm hc Rb) hW;simp [execOp,ho,hv,Instr.fieldAt,run_underlying hu,XP,Instr.sureAddr,fieldPlace,run_sizeOf hi,jM,AN,Addr.add_mid,Nat.add_assoc]
 ·rename_i fo n Kl id sz row off o1 h1 h2;cases hf;obtain⟨fs,fd,hu,XP,rfl,hn,hr,AN⟩:=zK cF hg hF hW h1;obtain⟨i,hi,jM⟩:=mn hn;have hx:tC w M φ (.op id sz row off) (a.eval x):=bQ hF h2 cF hg;obtain⟨b,C,hφ,hv⟩:=hx;refine Yd.val (v:=.pointer (some ⟨b,row*sz+(off+fd.offset),none⟩)) ?_ rfl ⟨b,C,hφ,rfl⟩ hW;simp [execOp,ho,hv,Instr.fieldAt,run_underlying hu,XP,Instr.sureAddr,fieldPlace,run_sizeOf hi,jM,AN,Addr.add_mid,Nat.add_assoc]
 ·cases hf
theorem Rv{t:TypeId}{n off:Nat}{Kl:Bool}{ls:List Lf}{vs:List Value}{c:Cm}(ht:Dd P t=some n)(hr:BK P t=some Kl)(hp:qd Kl n off ls=some c)(IL:Rs (LR w M φ) ls vs):
  ∃v,(part t vs.toArray off).run P w=.ok v w∧CR w M φ c v:=by
 obtain⟨i,hi,jM⟩:=mn ht;obtain⟨d,hu,hd⟩:=Ia hr;unfold qd at hp;cases Kl with
 |true =>
  simp only[cond_true]at hp;cases hl:(((ls.drop off).take n).length == n)with
  |false=>rw[hl]at hp;cases hp
  |true =>
   rw[hl]at hp;cases hp;refine⟨.agg (vs.toArray.extract off (off+n)),?_,((vs.drop off).take n),?_,((IL.drop off).take n)⟩
   ·unfold part;rw[Sem.run_bind,Dy hu w,hd];simp [run_sizeOf hi,jM]
   ·congr 1;apply Array.ext';simp [List.extract_eq_take_drop]
 |false =>
  simp only[cond_false]at hp;cases hl:ls[off]? with
  |none=>rw[hl]at hp;cases hp
  |some l =>
   rw[hl]at hp;cases hp;obtain⟨v,hv,TY⟩:=IL.get hl;refine⟨v,?_,TY⟩;unfold part;rw[Sem.run_bind,Dy hu w,hd];simp [hv]
theorem O4{t:TypeId}{x:Operand}{f:Nat}(ho:o.op=.field t x f)(hf:uT P h base g L o.op hs=some r):Yd P Γ φ M hD w base r ((execOp a.eval o).run P w):=by
 rw[ho]at hf;simp only[uT]at hf;split at hf
 ·rename_i fo n Kl cells o1 h1 h2;cases hp:qd Kl n fo cells with
  |none=>rw[hp]at hf;cases hf
  |some c =>
   rw[hp]at hf;cases hf;obtain⟨fs,fd,hu,XP,rfl,hn,hr,AN⟩:=zK cF hg hF hW h1;obtain⟨vs,hv,IL⟩:CR w M φ (.agg cells) (a.eval x):=bQ hF h2 cF hg;obtain⟨v,c6,hc⟩:=Rv cF hg hF hW hn hr hp IL;refine Yd.val (v:=v) ?_ rfl hc hW;simp [execOp,ho,hv,Instr.field,run_underlying hu,XP,asAgg,c6]
 ·cases hf
theorem K6{x:Operand}{i:Nat}(ho:o.op=.extract x i)(hf:uT P h base g L o.op hs=some r):Yd P Γ φ M hD w base r ((execOp a.eval o).run P w):=by
 rw[ho]at hf;simp only[uT]at hf;have hx:=EE hF x;split at hf
 ·rename_i cs h1;rw[h1]at hx;obtain⟨vs,hv,IL⟩:=hx;cases hc:cs[i]? with
  |none=>rw[hc]at hf;cases hf
  |some c =>
   rw[hc]at hf;cases hf;obtain⟨v,KX,hr⟩:=IL.get hc;refine Yd.val (v:=v) ?_ rfl hr hW;simp [execOp,ho,hv,Instr.extract,KX]
 ·cases hf
theorem R4{α:Type}{l:List α}{i:Int}{x:α}(h:a4 l i=some x):0≤i∧l[i.toNat]?=some x:=by
 unfold a4 at h;split at h
 ·exact⟨‹_›,h⟩
 ·cases h
theorem IW{t:TypeId}{x ix:Operand}(ho:o.op=.indexAddr t x ix)(hf:uT P h base g L o.op hs=some r):Yd P Γ φ M hD w base r ((execOp a.eval o).run P w):=by
 rw[ho]at hf;simp only[uT]at hf;split at hf
 ·rename_i e cl sz rows o1 k n o2 hu h1 h2;split at hf
  ·rename_i c gR;cases jM:(Dd P e == some sz)with
   |false=>rw[jM]at hf;cases hf
   |true =>
    rw[jM]at hf;cases hf;simp only[a0,cA]at cF;have hx:IR w M (.sl cl sz rows) (a.eval x):=bQ hF h1 cF.1.1 hg;have hi:IR w M (.int k n) (a.eval ix):=bQ hF h2 cF.1.2 hg;generalize hv:a.eval x=xv at hx;generalize KX:a.eval ix=iv at hi;cases hi;obtain⟨AN,zN⟩:=R4 (r:=⟨.Iy,[],[],[]⟩) trivial hg hF hW cF.2.1;obtain⟨i,TV,VT⟩:=mn (by simpa using jM:Dd P e=some sz)
    have m9:=(List.getElem?_eq_some_iff.1 zN).1;cases hx with
    |Ko=>simp at zN
    |sl _ _ _ b k0 cap vs hm hl DE DF hc hr =>
     refine Yd.val (v:=.pointer (some ⟨b,k0+n.toNat*sz+0,none⟩)) ?_ rfl (IR.ip c 0 b (k0+n.toNat*sz) (vs n.toNat) hm (fun j l hj=>hc _ _ j l zN hj) (fun j l hj=>hr _ _ j l zN hj)) hW
     have Q7:n<rows.length:=by omega
     simp [execOp,ho,hv,KX,Instr.indexAt,asIntOf,run_underlying hu,AN,Q7,run_sizeOf TV,VT,Addr.add_mid]
  ·cases hf
 ·rename_i e id sz off len o1 k n o2 hu h1 h2;cases jM:(Dd P e == some sz)with
  |false=>rw[jM]at hf;cases hf
  |true =>
   rw[jM]at hf;cases hf;simp only[a0,cA]at cF;have hx:tC w M φ (.os id sz off len) (a.eval x):=bQ hF h1 cF.1.1 hg;have hi:IR w M (.int k n) (a.eval ix):=bQ hF h2 cF.1.2 hg;generalize KX:a.eval ix=iv at hi;cases hi;obtain⟨AN,Q7,_⟩:=cF.2;obtain⟨i,TV,VT⟩:=mn (by simpa using jM:Dd P e=some sz)
   rcases hx with⟨b,C,hφ,hv,hle⟩|⟨_,_,h0,_⟩
   ·refine Yd.val (v:=.pointer (some ⟨b,(off+n.toNat)*sz+0,none⟩)) ?_ rfl ⟨b,C,hφ,rfl⟩ hW;simp [execOp,ho,hv,KX,Instr.indexAt,asIntOf,run_underlying hu,AN,Q7,run_sizeOf TV,VT,Addr.add_mid,Nat.add_mul]
   ·omega
 ·rename_i len e cells off o1 k n o2 hu h1 h2;split at hf
  ·rename_i sz jM;cases Mx:(!(len == 0))with
   |false=>rw[Mx]at hf;cases hf
   |true =>
    rw[Mx]at hf;cases hf;simp only[a0,cA]at cF;have hx:IR w M (.ip cells off) (a.eval x):=bQ hF h1 cF.1.1 hg;have hi:IR w M (.int k n) (a.eval ix):=bQ hF h2 cF.1.2 hg;generalize hv:a.eval x=xv at hx;generalize KX:a.eval ix=iv at hi;cases hi;obtain⟨AN,Q7,_⟩:=cF.2;obtain⟨i,TV,VT⟩:=mn jM;cases hx with
    |ip _ _ b k0 vs hm hc Rb =>
     refine Yd.val (v:=.pointer (some ⟨b,k0+(off+n.toNat*sz),none⟩)) ?_ rfl (IR.ip cells _ b k0 vs hm hc Rb) hW;simp [execOp,ho,hv,KX,Instr.indexAt,asIntOf,run_underlying hu,AN,Q7,run_sizeOf TV,VT,Addr.add_mid,Instr.sureAddr,Nat.add_assoc]
  ·cases hf
 ·rename_i len e id sz row off o1 k n o2 hu h1 h2;split at hf
  ·rename_i esz jM;cases Mx:(!(len == 0))with
   |false=>rw[Mx]at hf;cases hf
   |true =>
    rw[Mx]at hf;cases hf;simp only[a0,cA]at cF;have hx:tC w M φ (.op id sz row off) (a.eval x):=bQ hF h1 cF.1.1 hg;have hi:IR w M (.int k n) (a.eval ix):=bQ hF h2 cF.1.2 hg;generalize KX:a.eval ix=iv at hi;cases hi;obtain⟨AN,Q7,_⟩:=cF.2;obtain⟨i,TV,VT⟩:=mn jM;obtain⟨b,C,hφ,hv⟩:=hx;refine Yd.val (v:=.pointer (some ⟨b,row*sz+(off+n.toNat*esz),none⟩)) ?_ rfl ⟨b,C,hφ,rfl⟩ hW;simp [execOp,ho,hv,KX,Instr.indexAt,asIntOf,run_underlying hu,AN,Q7,run_sizeOf TV,VT,Addr.add_mid,Instr.sureAddr,Nat.add_assoc]
  ·cases hf
 ·cases hf
theorem O5{t:TypeId}{x ix:Operand}(ho:o.op=.index t x ix)(hf:uT P h base g L o.op hs=some r):Yd P Γ φ M hD w base r ((execOp a.eval o).run P w):=by
 rw[ho]at hf;simp only[uT]at hf;split at hf
 ·rename_i s o1 k n o2 hu h1 h2;split at hf
  ·rename_i b gR;cases hf;simp only[a0,cA]at cF;have hx:IR w M (.str s) (a.eval x):=bQ hF h1 cF.1.1 hg;have hi:IR w M (.int k n) (a.eval ix):=bQ hF h2 cF.1.2 hg;generalize hv:a.eval x=xv at hx;generalize KX:a.eval ix=iv at hi;cases hi;cases hx;have hb:=cF.2.1;unfold II at hb;split at hb
   ·rename_i h0;refine Yd.val (v:=.int .u8 (BQ b)) ?_ rfl (IR.int _ _) hW;simp [execOp,ho,hv,KX,Instr.index,asIntOf,run_underlying hu,h0,hb,BQ]
   ·cases hb
  ·cases hf
 ·rename_i len e cells o1 k n o2 hu h1 h2;split at hf
  ·rename_i sz Kl jM hrw;cases hp:qd Kl sz (n.toNat*sz) cells with
   |none=>rw[hp]at hf;cases hf
   |some c =>
    rw[hp]at hf;cases hf;simp only[a0,cA]at cF;obtain⟨vs,hv,IL⟩:CR w M φ (.agg cells) (a.eval x):=bQ hF h1 cF.1.1 hg;have hi:IR w M (.int k n) (a.eval ix):=bQ hF h2 cF.1.2 hg;generalize KX:a.eval ix=iv at hi;cases hi;obtain⟨AN,Q7,_⟩:=cF.2;obtain⟨i,TV,VT⟩:=mn jM;obtain⟨v,c6,hc⟩:=Rv (r:=⟨.Iy,[],[],[]⟩) trivial hg hF hW jM hrw hp IL;refine Yd.val (v:=v) ?_ rfl hc hW;simp [execOp,ho,hv,KX,Instr.index,asIntOf,run_underlying hu,AN,Q7,run_sizeOf TV,VT,c6]
  ·cases hf
 ·cases hf
omit cF hg hF hW in
theorem NO:∀{cs:List Cm} {ls:List Lf} {vs:List Value},QK cs=some ls→Rs (CR w M φ) cs vs→Rs (tC w M φ) ls vs
 | [],_,[],h,_=>by cases h;trivial
 | .one l ::cs,ls,v ::vs,h,hr=>by
  simp only[QK]at h;split at h
  ·rename_i Qb h1;cases hf:MH l with
   |true=>rw[hf]at h;cases h
   |false =>
    rw[hf]at h;cases h;exact⟨by have:=hr.1;rwa [CR,Ic hf]at this,NO h1 hr.2⟩
  ·cases h
 | .agg _ ::_,_,_,h,_=>by cases h
 | [],_,_ ::_,_,h=>h.elim
 |_ ::_,_,[],_,h=>h.elim
theorem Kt{f:Fn}{first gE:Array Operand}(ho:o.op=.makeFunc f first gE)(hf:uT P h base g L o.op hs=some r):Yd P Γ φ M hD w base r ((execOp a.eval o).run P w):=by
 rw[ho]at hf;simp only[uT]at hf;split at hf
 ·rename_i cs o1 h1;cases hfi:first.toList.isEmpty with
  |false=>rw[hfi]at hf;cases hf
  |true =>
   rw[hfi]at hf;simp only[cond_true]at hf;split at hf
   ·rename_i ls h2;cases hf;have IL:=rq hF hg h1 cF;have hc:=NO h2 IL;have Qbz:first=#[]:=by
     apply Array.ext';simpa using hfi
    subst Qbz;refine Yd.val (v:=.func f #[] (gE.toList.map a.eval).toArray) ?_ rfl ⟨_,rfl,hc⟩ hW;have he:gE.map a.eval=(gE.toList.map a.eval).toArray:=by apply Array.ext';simp
    simp [execOp,ho,Instr.makeFunc,he]
   ·cases hf
 ·cases hf
end
end
section
open Go.RowKit
section
variable {P : Program} {φ : Pl} {M : Nat → Prop} {w : World}
theorem QO{d:Nat}{t:TypeId}{u:TypeDesc}{x y:Lf}{vx vy:Value}{e:Bool}(hu:P.underlying t=some u)(h:TG u x y=some e)(hx:LR w M φ x vx)(hy:LR w M φ y vy):
  (Op.equalIn (d+1) t vx vy).run P w=.ok e w:=by
 unfold TG at h;split at h
 ·rename_i k0 k a k' b;by_cases hkk:k=k'
  ·subst hkk;simp only[decide_true,cond_true]at h;cases h;have xi:IR w M (.int k a) vx:=hx;have Rg:IR w M (.int k b) vy:=hy;cases xi;cases Rg;simp [Op.equalIn,run_underlying hu,aW]
  ·simp only[hkk,decide_false,cond_false]at h;cases h
 ·rename_i a b;cases h;have xi:IR w M (.bool a) vx:=hx;have Rg:IR w M (.bool b) vy:=hy;cases xi;cases Rg;simp [Op.equalIn,run_underlying hu,N1]
 ·rename_i a b;cases h;have xi:IR w M (.str a) vx:=hx;have Rg:IR w M (.str b) vy:=hy;cases xi;cases Rg;simp [Op.equalIn,run_underlying hu]
 ·cases h
theorem qe{t:TypeId}(hr:BK P t=some false){vs:Array Value}{k:Nat}{v:Value}(hv:vs[k]?=some v):(part t vs k).run P w=.ok v w:=by
 obtain⟨d,hu,hd⟩:=Ia hr;unfold part;rw[Sem.run_bind,Dy hu w,hd];simp [hv]
theorem JE{d:Nat}{vx vy:List Value}:∀(fs:List Field) (k:Nat) (us:List TypeDesc) (xs ys:List Lf) (e:Bool),B5 P k fs=some us→qQ us xs ys=some e→Rs (LR w M φ) xs (vx.drop k)→Rs (LR w M φ) ys (vy.drop k)→
  (forIn fs ((none,()):Option Bool×Unit) fun f r=>(do
   if f.name≠"_" then do
    if(!(←Op.equalIn (d+1) f.type (←part f.type vx.toArray f.offset) (←part f.type vy.toArray f.offset)))=true then pure (ForInStep.done (some false,()))else pure (ForInStep.yield (none,()))
   else pure (ForInStep.yield (none,())):Sem (ForInStep (Option Bool×Unit)))).run P w=.ok (if e then none else some false,()) w
 | [],k,us,xs,ys,e,h1,h2,_,_=>by
  cases h1;cases xs <;> cases ys <;> simp [qQ]at h2
  subst h2;simp
 |f ::fs,k,us,xs,ys,e,h1,h2,hx,hy=>by
  simp only[B5]at h1;cases hc:(f.offset == k&&!(f.name == "_")&&(BK P f.type == some false))with
  |false=>rw[hc]at h1;cases h1
  |true =>
   rw[hc]at h1;simp only[cond_true]at h1;simp only[Bool.and_eq_true,beq_iff_eq,Bool.not_eq_true',beq_eq_false_iff_ne]at hc;obtain⟨⟨KV,Q8⟩,zN⟩:=hc;split at h1
   ·rename_i u us' hu FG;cases h1;cases xs with
    |nil=>simp [qQ]at h2
    |cons x xs =>
     cases ys with
     |nil=>simp [qQ]at h2
     |cons y ys =>
      simp only[qQ]at h2;split at h2
      ·rename_i e1 e2 he1 Pg;cases h2;obtain⟨v1,VV,Nu⟩:=hx.get (i:=0) rfl;obtain⟨v2,KX,VR⟩:=hy.get (i:=0) rfl;have W6:Rs (LR w M φ) xs (vx.drop (k+1)):=by have:=hx.drop 1;simpa [List.drop_drop,Nat.add_comm]using this
       have hy1:Rs (LR w M φ) ys (vy.drop (k+1)):=by have:=hy.drop 1;simpa [List.drop_drop,Nat.add_comm]using this
       have ih:=JE (d:=d) fs (k+1) us' xs ys e2 FG Pg W6 hy1;have U6:=qe (P:=P) (w:=w) zN (vs:=vx.toArray) (k:=f.offset) (v:=v1) (by rw[KV];simpa using VV)
       have ZM:=qe (P:=P) (w:=w) zN (vs:=vy.toArray) (k:=f.offset) (v:=v2) (by rw[KV];simpa using KX)
       have heq:=QO (d:=d) hu he1 Nu VR;rw[List.forIn_cons];cases e1 with
       |true=>simp [Q8,U6,ZM,heq]at ih ⊢;exact ih
       |false=>simp [Q8,U6,ZM,heq]
      ·cases h2
   ·cases h1
theorem Qy{t:TypeId}{n:Nat}(h:Dd P t=some n):(sizeOf t).run P w=.ok n w:=by
 unfold Dd at h;cases hi:P.info? t with
 |none=>rw[hi]at h;cases h
 |some i=>rw[hi]at h;cases h;simp [sizeOf,typeInfo,hi]
theorem N5{d:Nat}{t e0:TypeId}{n:Nat}{u:TypeDesc}{xs ys:List Lf}{vx vy:List Value}{e:Bool}(hu:P.underlying t=some (.array n e0))(X8:P.underlying e0=some u)(zN:BK P e0=some false)(jM:Dd P e0=some 1)
  (he:qQ (List.replicate n u) xs ys=some e) (X5:Rs (LR w M φ) xs vx) (X6:Rs (LR w M φ) ys vy):(Op.equalIn (d+1+1) t (.agg vx.toArray) (.agg vy.toArray)).run P w=.ok e w:=by
 unfold Op.equalIn;simp only[Sem.run_bind,run_underlying hu,Result.andThen_ok,Qy jM];simp only[Std.Legacy.Range.forIn_eq_forIn_range',Std.Legacy.Range.size,Nat.sub_zero,Nat.add_one_sub_one,Nat.div_one];have key:∀(m k:Nat) (xs ys:List Lf) (e:Bool),qQ (List.replicate m u) xs ys=some e→Rs (LR w M φ) xs (vx.drop k)→Rs (LR w M φ) ys (vy.drop k)→
   (forIn (List.range' k m) ((none,()):Option Bool×Unit) fun i r=>(do
    if(!(←Op.equalIn (d+1) e0 (←part e0 vx.toArray (i*1)) (←part e0 vy.toArray (i*1))))=true then pure (ForInStep.done (some false,()))else pure (ForInStep.yield (none,())):Sem (ForInStep (Option Bool×Unit)))).run P w=.ok (if e then none else some false,()) w:=by
  intro m;induction m with
  |zero =>
   intro k xs ys e h2 _ _;cases xs <;> cases ys <;> simp [qQ]at h2
   subst h2;simp
  |succ m ih =>
   intro k xs ys e h2 hx hy;rw[List.replicate_succ]at h2;cases xs with
   |nil=>simp [qQ]at h2
   |cons x xs =>
    cases ys with
    |nil=>simp [qQ]at h2
    |cons y ys =>
     simp only[qQ]at h2;split at h2
     ·rename_i e1 e2 he1 Pg;cases h2;obtain⟨v1,VV,Nu⟩:=hx.get (i:=0) rfl;obtain⟨v2,KX,VR⟩:=hy.get (i:=0) rfl;have W6:Rs (LR w M φ) xs (vx.drop (k+1)):=by have:=hx.drop 1;simpa [List.drop_drop,Nat.add_comm]using this
      have hy1:Rs (LR w M φ) ys (vy.drop (k+1)):=by have:=hy.drop 1;simpa [List.drop_drop,Nat.add_comm]using this
      have ih:=ih (k+1) xs ys e2 Pg W6 hy1;have U6:=qe (P:=P) (w:=w) zN (vs:=vx.toArray) (k:=k) (v:=v1) (by simpa using VV)
      have ZM:=qe (P:=P) (w:=w) zN (vs:=vy.toArray) (k:=k) (v:=v2) (by simpa using KX)
      have heq:=QO (d:=d) X8 he1 Nu VR;rw[List.range'_succ,List.forIn_cons];cases e1 with
      |true=>simp [U6,ZM,heq]at ih ⊢;exact ih
      |false=>simp [U6,ZM,heq]
     ·cases h2
 have h3:=key n 0 xs ys e he X5 X6;refine Eq.trans (congrArg (fun z=>Result.andThen z _) h3) ?_
 cases e <;> simp
end
section
variable {P : Program} {Γ : a5} {φ : Pl} {M : Nat → Prop} {hD h : Nat → Option Ob} {w : World} {base : Nat} {L : Nat → AV} {a : Act} {g : Prop} {hs : List Hint} {r : G_} {o : Oper}
theorem B3{op:BinOp}{t:TypeId}{x y:Operand}{k k':IntKind}{p q:Int}:(eqGuard op t x y (.int k p) (.int k' q)).run P w=.ok () w:=by
 unfold eqGuard;split <;> simp
theorem N2{op:BinOp}{t:TypeId}{x y:Operand}{p q:ByteArray}:(eqGuard op t x y (.string p) (.string q)).run P w=.ok () w:=by
 unfold eqGuard;split <;> simp
theorem F6{op:BinOp}{t:TypeId}{x y:Operand}{p q:Bool}:(eqGuard op t x y (.bool p) (.bool q)).run P w=.ok () w:=by
 unfold eqGuard;split <;> simp
theorem xE{op:BinOp}{t:TypeId}{x y:Operand}{p q:Array Value}(h:P.eqGuardType P.depth t=false):(eqGuard op t x y (.agg p) (.agg q)).run P w=.ok () w:=by
 unfold eqGuard;split <;> simp [h]
def V1:Lf→Value
 | .int k n=>.int k n
 | .bool b=>.bool b
 | .str s=>.string s
 |_=>undef
theorem Tl{op:BinOp}{k:IntKind}{p q:Int}{t:TypeId}{l:Lf}{ob:List Prop}(h:Tk op k p q=some (l,ob))(ho:cA ob):(binOp op t (.int k p) (.int k q)).run P w=.ok (V1 l) w∧LR w M φ l (V1 l):=by
 cases op <;> simp only[Tk]at h <;> first
  |(cases h;done)
  |(cases h;refine⟨?_,IR.int _ _⟩;simp [binOp,Op.intArith,V1,aT,dA,sx];done)
  |(cases h;refine⟨?_,IR.int _ _⟩;have:=ho.1;simp [binOp,Op.intDiv,this,V1,vX,yG];done)
  |(cases h;refine⟨?_,IR.int _ _⟩;simp [binOp,Op.intBits,V1,NG,Pn,Qay,vJ];done)
  |(cases h;refine⟨?_,IR.bool _⟩;simp [binOp,Op.intCmp,V1,aW,bK,aS,kP,bU,bP];done)
theorem Tn{op:BinOp}{p q:ByteArray}{t:TypeId}{l:Lf}{ob:List Prop}(h:Tm op p q = some (l,ob))(ho:cA ob):(binOp op t (.string p) (.string q)).run P w = .ok (V1 l) w∧LR w M φ l (V1 l):= by
  cases op <;> simp only[Tm]at h <;> first
    |(cases h;done)
    | (cases h
       have h1:= ho.1;have: ¬(IntKind.i64.max <((p.size + q.size:Nat):Int)):= by
         have:IntKind.i64.max = 9223372036854775807:= by decide
         omega
       refine⟨?_,IR.str _⟩;simp only[binOp,Op.stringOp];rw[if_neg this];rfl)
    |(cases h;refine⟨?_,IR.bool _⟩;simp [binOp,Op.stringOp,V1,qn,ltS];done)
theorem O2(cF:cA r.e9)(hg:g)(hF:∀t,AR w M φ (L t) (a.tmps.getD t undef))(hW:Wd Γ φ M hD w){op:BinOp}{t u:TypeId}{x y:Operand}(ho:o.op=.binOp op t x y u)(hf:PG P L g op t x y hs=some r):
  Yd P Γ φ M hD w base r ((execOp a.eval o).run P w):=by
 unfold PG at hf;have c6:∀v,(eqGuard op t x y (a.eval x) (a.eval y)).run P w=.ok () w→(binOp op t (a.eval x) (a.eval y)).run P w=.ok v w→(execOp a.eval o).run P w=.ok (.value v) w:=fun v h1 h2=>by
  simp [execOp,ho,h1,h2]
 split at hf
 ·rename_i cx o1 cy o2 h1 h2;cases hb:Xv P op t cx cy with
  |none=>rw[hb]at hf;cases hf
  |some p =>
   obtain⟨l,o3⟩:=p;rw[hb]at hf;cases hf;simp only[a0]at cF;have hx:=bQ hF h1 cF.1.1 hg;have hy:=bQ hF h2 cF.1.2 hg;unfold Xv at hb;split at hb
   ·rename_i k p k' q;have xi:IR w M (.int k p) (a.eval x):=hx;have Rg:IR w M (.int k' q) (a.eval y):=hy;generalize VX:a.eval x=vx at xi c6;generalize VY:a.eval y=vy at Rg c6;cases xi;cases Rg;split at hb
    ·cases hb;have h0:¬q<0:=by have:=cF.2.1;omega
     exact Yd.val (c6 (.int k (Kn k p q)) B3 (by simp [binOp,Op.shift,h0,Kn])) rfl (IR.int _ _) hW
    ·cases hb;have h0:¬q<0:=by have:=cF.2.1;omega
     exact Yd.val (c6 (.int k (vb k p q)) B3 (by simp [binOp,Op.shift,h0,vb])) rfl (IR.int _ _) hW
    ·by_cases hk:k=k'
     ·subst hk;rw[if_pos rfl]at hb;obtain⟨hv,hr⟩:=Tl (P:=P) (w:=w) (M:=M) (φ:=φ) (t:=t) hb cF.2;exact Yd.val (c6 _ B3 hv) rfl hr hW
     ·rw[if_neg hk]at hb;cases hb
   ·rename_i p q;have xi:IR w M (.str p) (a.eval x):=hx;have Rg:IR w M (.str q) (a.eval y):=hy;generalize VX:a.eval x=vx at xi c6;generalize VY:a.eval y=vy at Rg c6;cases xi;cases Rg;obtain⟨hv,hr⟩:=Tn (P:=P) (w:=w) (M:=M) (φ:=φ) (t:=t) hb cF.2;exact Yd.val (c6 _ N2 hv) rfl hr hW
   ·rename_i p q;have xi:IR w M (.bool p) (a.eval x):=hx;have Rg:IR w M (.bool q) (a.eval y):=hy;generalize VX:a.eval x=vx at xi c6;generalize VY:a.eval y=vy at Rg c6;cases xi;cases Rg;have heq:∀hu:P.underlying t=some .bool,(Op.equal t (.bool p) (.bool q)).run P w=.ok (N1 p q) w:=fun hu=>by
     have key:∀d,(Op.equalIn (d+1) t (.bool p) (.bool q)).run P w=.ok (N1 p q) w:=fun d=>by simp [Op.equalIn,run_underlying hu,N1]
     exact key 9999
    split at hb
    ·rename_i hu;cases hb;exact Yd.val (c6 (.bool (N1 p q)) F6 (by simp [binOp,heq hu])) rfl (IR.bool _) hW
    ·rename_i hu;cases hb;exact Yd.val (c6 (.bool (!N1 p q)) F6 (by simp [binOp,heq hu])) rfl (IR.bool _) hW
    ·cases hb
   ·rename_i xs ys;split at hb
    ·rename_i us FG;obtain⟨vx,VX,X5⟩:=hx;obtain⟨vy,VY,X6⟩:=hy;rw[VX,VY]at c6;have Oh:∃fs,P.underlying t=some (.struct fs)∧P.stoodInHeld t=false∧P.eqGuardType P.depth t=false∧B5 P 0 fs.toList=some us:=by
      unfold QQ at FG;split at FG
      ·rename_i fs hu;cases hc:(!P.stoodInHeld t&&!P.eqGuardType P.depth t)with
       |false=>rw[hc]at FG;cases FG
       |true =>
        rw[hc]at FG;simp only[Bool.and_eq_true,Bool.not_eq_true']at hc;exact⟨fs,hu,hc.1,hc.2,FG⟩
      ·cases FG
     obtain⟨fs,hu,pk,Zr,B8⟩:=Oh;have Zs:∀d e,qQ us xs ys=some e→(Op.equalIn (d+1+1) t (.agg vx.toArray) (.agg vy.toArray)).run P w=.ok e w:=fun d e he=>by
      have h3:=JE (P:=P) (w:=w) (M:=M) (φ:=φ) (d:=d) fs.toList 0 us xs ys e B8 he X5 X6;rw[Array.forIn_toList]at h3;unfold Op.equalIn;simp only[Sem.run_bind,run_underlying hu,Result.andThen_ok,run_program,pk];simp only[Bool.false_eq_true,if_false,Sem.run_bind,Sem.run_pure,Result.andThen_ok];refine Eq.trans (congrArg (fun z=>Result.andThen z _) h3) ?_
      cases e <;> simp
     have heq:∀e,qQ us xs ys=some e→(Op.equal t (.agg vx.toArray) (.agg vy.toArray)).run P w=.ok e w:=fun e he=>Zs 9998 e he
     clear Zs;split at hb
     ·rename_i e he;cases hb;exact Yd.val (c6 (.bool e) (xE Zr) (by simp [binOp,heq e he])) rfl (IR.bool _) hW
     ·rename_i e he;cases hb;exact Yd.val (c6 (.bool (!e)) (xE Zr) (by simp [binOp,heq e he])) rfl (IR.bool _) hW
     ·cases hb
    ·split at hb
     ·rename_i us FG;obtain⟨vx,VX,X5⟩:=hx;obtain⟨vy,VY,X6⟩:=hy;rw[VX,VY]at c6;have Oh:∃n e u,P.underlying t=some (.array n e)∧P.eqGuardType P.depth t=false∧BK P e=some false∧Dd P e=some 1∧P.underlying e=some u∧us=List.replicate n u:=by
       unfold WI at FG;split at FG
       ·rename_i n e hu;cases hc:(!P.eqGuardType P.depth t&&(BK P e == some false)&&(Dd P e == some 1))with
        |false=>rw[hc]at FG;cases FG
        |true =>
         rw[hc]at FG;simp only[Bool.and_eq_true,Bool.not_eq_true',beq_iff_eq]at hc;cases X8:P.underlying e with
         |none=>rw[X8]at FG;cases FG
         |some u=>rw[X8]at FG;cases FG;exact⟨n,e,u,hu,hc.1.1,hc.1.2,hc.2,X8,rfl⟩
       ·cases FG
      obtain⟨n,e0,u,hu,Zr,zN,jM,X8,rfl⟩:=Oh;have heq:∀e,qQ (List.replicate n u) xs ys=some e→(Op.equal t (.agg vx.toArray) (.agg vy.toArray)).run P w=.ok e w:=fun e he=>N5 (d:=9998) hu X8 zN jM he X5 X6
      split at hb
      ·rename_i e he;cases hb;exact Yd.val (c6 (.bool e) (xE Zr) (by simp [binOp,heq e he])) rfl (IR.bool _) hW
      ·rename_i e he;cases hb;exact Yd.val (c6 (.bool (!e)) (xE Zr) (by simp [binOp,heq e he])) rfl (IR.bool _) hW
      ·cases hb
     ·cases hb
   ·cases hb
 ·cases hf
end
end
section
open Go.RowKit
section
variable {α β : Type} {R : α → β → Prop}
theorem xF{sz:Nat}:∀{rows:List (List α)} {i j:Nat} {c:List α} {l:α},(∀c∈rows,c.length=sz)→rows[i]?=some c→c[j]?=some l→rows.flatten[i*sz+j]?=some l
 | [],_,_,_,_,_,h,_=>by simp at h
 |r ::rows,0,j,c,l,hs,h,hj=>by
  simp at h;subst h;rw[Nat.zero_mul,Nat.zero_add,List.flatten_cons,List.getElem?_append_left (List.getElem?_eq_some_iff.1 hj).1];exact hj
 |r ::rows,i+1,j,c,l,hs,h,hj=>by
  have hr:=hs r (by simp)
  rw[List.flatten_cons,List.getElem?_append_right (by rw[hr,Nat.add_mul];omega),hr,show(i+1)*sz+j-sz=i*sz+j by rw[Nat.add_mul];omega]
  exact xF (fun c hc=>hs c (by simp [hc])) (by simpa using h) hj
theorem oU{sz:Nat}:∀{rows:List (List α)},(∀c∈rows,c.length=sz)→rows.flatten.length=rows.length*sz
 | [],_=>by simp
 |r ::rows,hs=>by
  rw[List.flatten_cons,List.length_append,hs r (by simp),oU fun c hc=>hs c (by simp [hc]),List.length_cons,Nat.add_mul];omega
theorem mem_row{rows:List (List α)}{sz:Nat}(h:∀(i:Nat) (c:List α),rows[i]?=some c→c.length=sz):∀c∈rows,c.length=sz:=fun c hc=>by
 obtain⟨i,hi⟩:=List.mem_iff_getElem?.1 hc;exact h i c hi
theorem Lj{sz:Nat}:∀{n:Nat} {l:List Lf} {i:Nat} {c:List Lf},(chunk sz n l)[i]?=some c→i<n∧c=(l.drop (i*sz)).take sz
 |0,_,_,_,h=>by simp [chunk]at h
 |n+1,l,0,c,h=>by simp [chunk]at h;exact⟨by omega,by simp [h]⟩
 |n+1,l,i+1,c,h=>by
  simp only[chunk,List.getElem?_cons_succ]at h;obtain⟨h1,h2⟩:=Lj h;exact⟨by omega,by rw[h2,List.drop_drop,Nat.add_mul,Nat.one_mul,Nat.add_comm]⟩
theorem Lk{sz:Nat}:∀{n:Nat} {l:List Lf},(chunk sz n l).length=n
 |0,_=>rfl
 |n+1,l=>by simp [chunk,Lk (n:=n)]
end
section
variable {P : Program} {w : World} {M : Nat → Prop} {φ : Pl}
theorem N6(off:Nat):∀(vs:List Value) (k:Nat) (cs:Array Value),off+k+vs.length≤cs.size→
  ((vs.zipIdx k).foldl (fun(cs:Array Value) (x:Value×Nat)=>cs.setIfInBounds (off+x.2) x.1) cs).toList=cs.toList.take (off+k)++vs++cs.toList.drop (off+k+vs.length)
 | [],k,cs,_=>by simp
 |v ::vs,k,cs,h=>by
  simp only[List.zipIdx_cons,List.foldl_cons,List.length_cons]at h ⊢;rw[N6 off vs (k+1) _ (by simp;omega)]
  have m9:off+k<cs.toList.length:=by simpa using(by omega:off+k<cs.size)
  simp only[Array.toList_setIfInBounds];have e1:(cs.toList.set (off+k) v).take (off+(k+1))=cs.toList.take (off+k)++[v]:=by
   rw[show off+(k+1)=(off+k)+1 by omega,List.take_add_one,List.take_set_of_le (Nat.le_refl _),List.getElem?_set_self m9];rfl
  have e2:(cs.toList.set (off+k) v).drop (off+(k+1)+vs.length)=cs.toList.drop (off+k+(vs.length+1)):=by
   rw[List.drop_set_of_lt (by omega)];congr 1;omega
  rw[e1,e2];simp
theorem Mr{pl:Nat→Option (Nat×Nat)}:∀{cs:List (Nat×List Lf)} {vp:List (Nat×Value)} {z out:List Lf} {zc:Array Value},Ik pl z cs=some out→Rs (LR w M φ) z zc.toList→
  Rs (fun(p:Nat×List Lf) (q:Nat×Value)=>p.1=q.1∧Rs (LR w M φ) p.2 q.2.cells.toList) cs vp→∃oc,Instr.fill pl zc vp=some oc∧Rs (LR w M φ) out oc.toList
 | [],[],z,out,zc,h,hz,_=>by cases h;exact⟨zc,rfl,hz⟩
 |(i,ls) ::cs,(j,v) ::vp,z,out,zc,h,hz,hr=>by
  obtain⟨⟨rfl,hv⟩,Lx⟩:=hr;simp only at hv;simp only[Ik]at h;split at h
  ·cases h
  ·rename_i off size hp;cases hc:(ls.length == size&&Nat.ble (off+size) z.length)with
   |false=>rw[hc]at h;cases h
   |true =>
    rw[hc]at h;simp only[cond_true]at h;simp only[Bool.and_eq_true,beq_iff_eq,Nat.ble_eq]at hc;have hvl:v.cells.size=size:=by rw[←Array.length_toList,←hv.len];exact hc.1
    have Z3:z.length=zc.size:=by rw[hz.len];simp
    have hf:=N6 off v.cells.toList 0 zc (by rw[Nat.add_zero,Array.length_toList];omega)
    have IK:Rs (LR w M φ) (z.take off++ls++z.drop (off+size)) (zc.toList.take off++v.cells.toList++zc.toList.drop (off+size)):=((hz.take off).append hv).append (hz.drop _);have Qcf:v.cells.zipIdx.foldl (fun(cs:Array Value) (x:Value×Nat)=>cs.setIfInBounds (off+x.2) x.1) zc=(zc.toList.take off++v.cells.toList++zc.toList.drop (off+size)).toArray:=by
     apply Array.ext';rw[←Array.foldl_toList,Array.toList_zipIdx];rw[Nat.add_zero,Array.length_toList,hvl]at hf;simpa using hf
    obtain⟨oc,h1,h2⟩:=Mr (zc:=(zc.toList.take off++v.cells.toList++zc.toList.drop (off+size)).toArray) h (by simpa using IK) Lx
    refine⟨oc,?_,h2⟩;simp only[Instr.fill,hp];rw[if_neg (by simp;omega)]
    rw[←h1,←Qcf]
 | [],_ ::_,_,_,_,_,_,h=>h.elim
 |_ ::_,[],_,_,_,_,_,h=>h.elim
theorem Rs.flat{ls:List Lf}{vs:List Value}(h:Rs (LR w M φ) ls vs):∀n,Rs (LR w M φ) (List.replicate n ls).flatten (List.replicate n vs).flatten
 |0=>by simp [Rs]
 |n+1=>by simp only[List.replicate_succ,List.flatten_cons];exact h.append (Rs.flat h n)
theorem E9(zc:Array Value)(n:Nat):((Array.range (n*zc.size)).map fun i=>zc[i % zc.size]!).toList=(List.replicate n zc.toList).flatten:=by
 rw[Array.toList_map,Array.toList_range];induction n with
 |zero=>simp
 |succ n ih =>
  rw[List.replicate_succ',List.flatten_append,←ih,Nat.add_mul,Nat.one_mul,List.range_add,List.map_append];congr 1;simp only[List.map_map,List.flatten_cons,List.flatten_nil,List.append_nil];apply List.ext_getElem?;intro k;rw[List.getElem?_map];rcases Nat.lt_or_ge k zc.size with hk|hk
  ·rw[List.getElem?_range hk];have:(n*zc.size+k) % zc.size=k:=by rw[Nat.mul_comm,Nat.mul_add_mod,Nat.mod_eq_of_lt hk]
   simp [this,hk]
  ·rw[List.getElem?_eq_none (by simpa using hk)];simp [hk]
theorem Ma{w':World}{id b C:Nat}{φ':Pl}{e:TypeId}{sz:Nat}{rows:List (List Lf)}{vs:Array Value}(hφ:φ' id=some (some (b,C)))(hb:w'.heap[b]?=some (.cells vs e))(h0:0<sz)(hs:vs.size=C*sz)(hl:rows.length≤C)(hC:C≤maxLen)
  (hr:∀(i:Nat) (c:List Lf),rows[i]?=some c→c.length=sz∧∀(j:Nat) (l:Lf),c[j]?=some l→∃v,vs[i*sz+j]?=some v∧IR w' M l v):OR w' M φ' id ⟨false,sz,e,rows⟩:=by
 refine .inl ⟨h0,?_⟩;rw[hφ];exact⟨vs,hb,hs,hl,hC,fun h=>(by cases h),fun i c hc=>⟨(hr i c hc).1,fun j l hj=>by simpa using(hr i c hc).2 j l hj⟩⟩
end
section
variable {P : Program} {Γ : a5} {φ : Pl} {M : Nat → Prop} {hD h : Nat → Option Ob} {w : World} {base : Nat} {L : Nat → AV} {a : Act} {g : Prop} {hs : List Hint} {r : G_} {o : Oper}
theorem G8(parts:Array (Nat×Operand)):(parts.map fun(i,x)=>(i,a.eval x)).toList=parts.toList.map fun(i,x)=>(i,a.eval x):=by simp
theorem O3(cF:cA r.e9)(hg:g)(hF:∀t,AR w M φ (L t) (a.tmps.getD t undef))(hW:Wd Γ φ M hD w){t:TypeId}{parts:Array (Nat×Operand)}(ho:o.op=.build t parts)(hf:uT P h base g L o.op hs=some r):
  Yd P Γ φ M hD w base r ((execOp a.eval o).run P w):=by
 rw[ho]at hf;simp only[uT]at hf;split at hf
 ·rename_i z pl cs o1 hz A6 S4;cases B8:Ik pl z cs with
  |none=>rw[B8]at hf;cases hf
  |some out =>
   rw[B8]at hf;cases hf;obtain⟨i,zv,hi,PU,KY,h0,IL,hl⟩:=qM (w:=w) (M:=M) (φ:=φ) hz;have hp:=Dt hF hg S4 cF;obtain⟨oc,h1,h2⟩:=Mr B8 IL hp;refine Yd.val (v:=.agg oc) ?_ rfl ⟨oc.toList,by simp,h2⟩ hW
   have hb:P.built t (parts.toList.map fun(i,x)=>(i,a.eval x))=some oc:=by
    unfold Program.built;unfold placesOf at A6;split at A6
    ·rename_i n e hu;cases Pj:P.info? e with
     |none=>rw[Pj]at A6;cases A6
     |some ie=>rw[Pj]at A6;cases A6;simp only[hi,hu,PU,Pj];exact h1
    ·rename_i fs hu;cases hps:fs.toList.mapM (fun f=>(P.info? f.type).map fun i=>(f.offset,i.size))with
     |none=>rw[hps]at A6;cases A6
     |some ps =>
      rw[hps]at A6;cases A6;simp only[hi,hu,PU,hps];have:(fun x:Nat=>ps.toArray[x]?)=fun x:Nat=>ps[x]?:=by funext x;simp
      rw[this];exact h1
    ·cases A6
   have hr:=run_build (P:=P) w t (parts.map fun(i,x)=>(i,a.eval x)) oc (by rw[G8];exact hb)
   simp [execOp,ho,hr]
 ·cases hf
theorem H6(cF:cA r.e9)(hg:g)(hF:∀t,AR w M φ (L t) (a.tmps.getD t undef))(hW:Wd Γ φ M hD w){t:TypeId}{n:Nat}{parts:Array (Nat×Operand)}(ho:o.op=.buildSlice t n parts)(hf:uT P h base g L o.op hs=some r)
  (pM:∀id,base≤id→id<base+r.news.length→φ id=none∧hD id=none):Yd P Γ φ M hD w base r ((execOp a.eval o).run P w):=by
 rw[ho]at hf;simp only[uT]at hf;split at hf
 ·rename_i e he;have hu:=iN he;split at hf
  ·rename_i ie z cs o1 Pj hz S4;obtain⟨i,zv,hi,PU,KY,h0,IL,hl⟩:=qM (w:=w) (M:=M) (φ:=φ) hz;obtain rfl:ie=i:=by rw[Pj]at hi;exact Option.some.inj hi
   cases AN:(n == 0&&cs.isEmpty)with
   |true =>
    rw[AN]at hf;cases hf;simp only[Bool.and_eq_true,beq_iff_eq,List.isEmpty_iff]at AN;obtain⟨rfl,rfl⟩:=AN;have hp:=Dt hF hg S4 cF;have hpe:parts=#[]:=by
     have:=hp.len;apply Array.eq_empty_of_size_eq_zero;simpa using this.symm
    subst hpe;refine Yd.grow (v:=.slice (some ⟨w.heap.size,0,none⟩) 0 0) (w':=w.alloc (.cells #[] e)) ?_ rfl (qO w _) (IR.Ko true ie.size _ 0 fun _=>rfl) hW
    have hem:∀f:Nat→Value,(Array.range 0).map f=#[]:=fun f=>Array.eq_empty_of_size_eq_zero (by simp)
    simp [execOp,ho,Instr.buildSlice,run_underlying hu,run_sizeOf Pj,Instr.fill,newRow,hem]
   |false =>
    rw[AN]at hf;simp only[cond_false]at hf;cases hc:(Nat.ble (n*ie.size) 4096&&!(n == 0))with
    |false=>rw[hc]at hf;cases hf
    |true =>
     rw[hc]at hf;simp only[cond_true]at hf;simp only[Bool.and_eq_true,Nat.ble_eq,Bool.not_eq_true',beq_eq_false_iff_ne]at hc;split at hf
     ·rename_i cells B8;have common:cA o1→∃oc:Array Value,Rs (LR w M φ) cells oc.toList∧oc.size=n*ie.size∧(Instr.buildSlice t n (parts.map fun(i,x)=>(i,a.eval x))).run P w=.ok (.slice (some ⟨w.heap.size,0,none⟩) n n) (w.alloc (.cells oc e)):=by
       intro Im;have hp:=Dt hF hg S4 Im;have hz2:Rs (LR w M φ) (List.replicate n z).flatten ((Array.range (n*zv.cells.size)).map fun i=>zv.cells[i % zv.cells.size]!).toList:=by rw[E9];exact IL.flat n
       obtain⟨oc,h1,h2⟩:=Mr B8 hz2 hp;have Sg:oc.size=n*ie.size:=by
        have:=h2.len;rw[←Array.length_toList,←this];have QbA:∀{cs:List (Nat×List Lf)} {z out:List Lf},Ik (fun i=>some (i*ie.size,ie.size)) z cs=some out→out.length=z.length:=by
         intro cs;induction cs with
         |nil=>intro z out h;cases h;rfl
         |cons c cs ih =>
          obtain⟨i,v⟩:=c;intro z out h;simp only[Ik]at h;cases hq:(v.length == ie.size&&Nat.ble (i*ie.size+ie.size) z.length)with
          |false=>rw[hq]at h;cases h
          |true =>
           rw[hq]at h;simp only[Bool.and_eq_true,beq_iff_eq,Nat.ble_eq]at hq;have:=ih h;rw[this];simp;omega
        rw[QbA B8,oU (sz:=ie.size) (fun c hc=>by rw[List.eq_of_mem_replicate hc];exact hl)];simp
       have c6:(Instr.buildSlice t n (parts.map fun(i,x)=>(i,a.eval x))).run P w=.ok (.slice (some ⟨w.heap.size,0,none⟩) n n) (w.alloc (.cells oc e)):=by
        refine run_buildSlice w t e n _ oc ie zv hu Pj PU (by omega) (by have:n*ie.size≠0:=Nat.mul_ne_zero hc.2 (by omega);exact this) ?_
        rw[G8,←KY];rw[←KY]at h1;exact h1
       exact⟨oc,h2,Sg,c6⟩
      cases TW:cells.all JV with
      |false =>
       rw[TW]at hf;simp only[cond_false]at hf;split at hf
       ·cases hf;obtain⟨oc,h2,Sg,c6⟩:=common cF;rw[Nat.one_mul]at Sg;have hb:=qO w (.cells oc e);have TT:=pM base (Nat.le_refl _) (by simp)
        have Pg:Ex w M φ (w.alloc (.cells oc e)) M (DA φ base (some (w.heap.size,1))):=⟨fun b hm=>hb.block b (hW.mlt b hm),fun _ h=>h,pY _ TT.1⟩
        have DE:cells.length=ie.size:=by rw[h2.len];simpa using Sg
        refine Yd.new (b:=w.heap.size) (C:=1) (v:=.slice (some ⟨w.heap.size,0,none⟩) 1 1) (by simp [execOp,ho,c6]) rfl hW pM hb (Nat.le_refl _) (by simp) ?_ ?_
        ·exact Ti cF hg hF hW (dJ _ _ _) (heap_alloc_new w _) (h2.mono fun _ _ h=>LR.mono Pg h) (by omega)
        ·exact .inl ⟨w.heap.size,1,dJ _ _ _,by simp,by omega⟩
       ·cases hf
      |true =>
       rw[TW]at hf;cases hf;obtain⟨oc,h2,Sg,c6⟩:=common cF;have hb:=qO w (.cells oc e);have TT:=pM base (Nat.le_refl _) (by simp)
       have Pg:Ex w M φ (w.alloc (.cells oc e)) M (DA φ base (some (w.heap.size,n))):=⟨fun b hm=>hb.block b (hW.mlt b hm),fun _ h=>h,pY _ TT.1⟩
       refine Yd.new (b:=w.heap.size) (C:=n) (v:=.slice (some ⟨w.heap.size,0,none⟩) n n) (by simp [execOp,ho,c6]) rfl hW pM hb (Nat.le_refl _) (by simp) ?_ ?_
       ·refine Ma (dJ _ _ _) (heap_alloc_new w _) h0 Sg (by rw[Lk];exact Nat.le_refl _) (by have:n≤n*ie.size:=Nat.le_mul_of_pos_right _ h0;simp only[maxLen];omega) fun i c I9=>?_
        obtain⟨y3,rfl⟩:=Lj I9;have DE:cells.length=n*ie.size:=by rw[h2.len];simpa using Sg
        have hle:(i+1)*ie.size≤n*ie.size:=Nat.mul_le_mul_right _ y3;rw[Nat.add_mul,Nat.one_mul]at hle;refine⟨by simp;omega,fun j l hj=>?_⟩
        have hj2:cells[i*ie.size+j]?=some l:=by
         rw[List.getElem?_take]at hj;split at hj
         ·rw[List.getElem?_drop]at hj;exact hj
         ·cases hj
        obtain⟨v,hv,TY⟩:=h2.get hj2;refine⟨v,by simpa using hv,?_⟩
        exact(LR.JU (List.all_eq_true.1 TW l (List.mem_of_getElem? hj2)) TY).mono Pg.RT Pg.sub
       ·exact .inl ⟨w.heap.size,n,dJ _ _ _,by simp,by omega⟩
     ·cases hf
  ·cases hf
 ·cases hf
end
end
section
open Go.RowKit
section
variable {P : Program} {Γ : a5} {φ : Pl} {M : Nat → Prop} {hD h : Nat → Option Ob} {w : World} {base : Nat} {L : Nat → AV} {a : Act} {g : Prop} {hs : List Hint} {r : G_} {o : Oper}
theorem pa{R:Lf→Value→Prop}{b sz:Nat}:∀(rows:List (List Lf)) (k:Nat),(∀(i:Nat) (c:List Lf),rows[i]?=some c→c.length=sz)→
  (∀(i:Nat) (c:List Lf) (j:Nat) (l:Lf),rows[i]?=some c→c[j]?=some l→∃v,w.cell? ⟨b,k+i*sz+j,none⟩=some v∧R l v)→∃vs,Rs R rows.flatten vs∧w.rangeAt b k vs
 | [],k,_,_=>⟨[],trivial,fun j v h=>by simp at h⟩
 |r ::rows,k,hs,h=>by
  obtain⟨v1,h1,h2⟩:=PK (w:=w) (R:=R) (b:=b) r k fun j l hj=>by simpa using h 0 r j l rfl hj
  obtain⟨v2,h3,h4⟩:=pa rows (k+sz) (fun i c hc=>hs (i+1) c (by simpa using hc)) fun i c j l hc hj=>by
   obtain⟨v,hv,hr⟩:=h (i+1) c j l (by simpa using hc) hj
   exact⟨v,by rw[show k+sz+i*sz+j=k+(i+1)*sz+j by rw[Nat.add_mul];omega];exact hv,hr⟩
  have hl:v1.length=sz:=by rw[←h1.len];exact hs 0 r rfl
  refine⟨v1++v2,h1.append h3,fun j u hj=>?_⟩
  rcases Nat.lt_or_ge j v1.length with m9|U3
  ·rw[List.getElem?_append_left m9]at hj;exact h2 j u hj
  ·rw[List.getElem?_append_right U3]at hj;have:=h4 _ _ hj;rw[show k+j=k+sz+(j-v1.length) by omega];exact this
theorem Nn: ∀{z z':List Lf} {vs:List Value},QD z z' = true→Rs (LR w M φ) z vs→Rs (IR w M) z' vs
  | [],[],[],_,_ => trivial
  | x :: xs, y :: ys, v :: vs, h, hr => by
    simp only[QD,Bool.and_eq_true]at h;refine⟨?_,Nn h.2 hr.2⟩;have h1:= h.1;have hx:= hr.1;cases x <;> cases y <;> first
      |(cases h1;done)
      |skip
    · simp only[Bool.and_eq_true,decide_eq_true_eq,beq_iff_eq]at h1;obtain⟨rfl,rfl⟩:= h1;exact hx
    · simp only[beq_iff_eq]at h1;subst h1;exact hx
    · simp only[Bool.and_eq_true,beq_iff_eq]at h1;rename_i s1 s2;have e1:s1 = s2:= by
        obtain⟨h1,h2⟩:= h1;cases s1 with |mk d1 => cases s2 with |mk d2 =>
        have h3:d1.size = 0:= h1;have h4:d2.size = 0:= h2;rw[Array.eq_empty_of_size_eq_zero h3,Array.eq_empty_of_size_eq_zero h4]
      subst e1;exact hx
    · rename_i cl sz rows;cases cl <;> cases rows <;> first
        |(cases h1;done)
        | (have xi : IR w M .cM v := hx
           cases xi;exact IR.Ko false sz none 0 fun h => by cases h)
  | [],_ ::_,_,h,_ => by cases h
  |_ ::_,[],_,h,_ => by cases h
  | [],[],_ ::_,_,h => h.elim
  |_ ::_,_,[],_,h => h.elim
theorem IX(cF:cA r.e9)(hg:g)(hF:∀t,AR w M φ (L t) (a.tmps.getD t undef))(hW:Wd Γ φ M hD w){t:TypeId}{x y:Operand}(ho:o.op=.makeSlice t x y)(hf:uT P h base g L o.op hs=some r)
  (pM:∀id,base≤id→id<base+r.news.length→φ id=none∧hD id=none):Yd P Γ φ M hD w base r ((execOp a.eval o).run P w):=by
 rw[ho]at hf;simp only[uT]at hf;split at hf
 ·rename_i e k n o1 k' m o2 z' R gR he h1 h2;split at hf
  ·rename_i ie z Pj hz;cases Rf:QD z z' with
   |false=>rw[Rf]at hf;cases hf
   |true =>
    rw[Rf]at hf;cases hf;simp only[a0,cA]at cF;obtain⟨i,zv,hi,PU,KY,h0,IL,hl⟩:=qM (w:=w) (M:=M) (φ:=φ) hz;obtain rfl:ie=i:=by rw[Pj]at hi;exact Option.some.inj hi
    have hx:IR w M (.int k n) (a.eval x):=bQ hF h1 cF.1.1 hg;have hy:IR w M (.int k' m) (a.eval y):=bQ hF h2 cF.1.2 hg;generalize VX:a.eval x=vx at hx;generalize VY:a.eval y=vy at hy;cases hx;cases hy;obtain⟨AN,hnm,QeF,hmb,hR,-⟩:=cF.2;have hu:=iN he;have hw1:IntKind.i64.wrap n=n:=IntWalk.i64_in n (by omega)
    have hw2:IntKind.i64.wrap m=m:=IntWalk.i64_in m (by omega)
    have ZP:=Nn Rf IL;have Z3:z'.length=ie.size:=by rw[ZP.len];simpa using KY
    let cur:Array Value:=(Array.range (m.toNat*ie.size)).map fun i=>zv.cells[i % zv.cells.size]!
    have VK:cur.toList=(List.replicate m.toNat zv.cells.toList).flatten:=by show((Array.range (m.toNat*ie.size)).map _).toList=_;rw[←KY];exact E9 _ _
    have S4:cur.size=m.toNat*ie.size:=by show((Array.range (m.toNat*ie.size)).map _).size=_;simp
    have c6:(execOp a.eval o).run P w=.ok (.value (.slice (some ⟨w.heap.size,0,none⟩) n.toNat m.toNat)) (w.alloc (.cells cur e)):=by
     have S3:¬(281474976710656<(ie.bytes:Int)*m):=by omega
     have c1:¬(m<0):=by omega
     have c2:¬(n<0):=by omega
     have c3:¬(m<n):=by omega
     by_cases Va:m.toNat*ie.size=0
     ·have hem:∀f:Nat→Value,(Array.range (m.toNat*ie.size)).map f=#[]:=fun f=>Array.eq_empty_of_size_eq_zero (by simp [Va])
      have Zp:cur=#[]:=hem _;have Qbv:∀f:Nat→Value,(Array.range 0).map f=#[]:=fun f=>Array.eq_empty_of_size_eq_zero (by simp)
      simp [execOp,ho,VX,VY,Instr.makeSlice,run_underlying hu,asInt,asIntOf,typeInfo,Pj,hw1,hw2,S3,c1,c2,c3,run_sizeOf Pj,newRow,Zp,Qbv,Va]
     ·simp [execOp,ho,VX,VY,Instr.makeSlice,run_underlying hu,asInt,asIntOf,typeInfo,Pj,hw1,hw2,S3,c1,c2,c3,run_sizeOf Pj,zeroValue,PU,newRow,Va];rfl
    have TT:=pM base (Nat.le_refl _) (by simp)
    have hb:=qO w (.cells cur e);have Pg:Ex w M φ (w.alloc (.cells cur e)) M (DA φ base (some (w.heap.size,m.toNat))):=⟨fun b hm=>hb.block b (hW.mlt b hm),fun _ h=>h,pY _ TT.1⟩
    have Nr:R.length=n.toNat:=by rw[←hR];simp
    refine Yd.new (b:=w.heap.size) (C:=m.toNat) c6 rfl hW pM hb (Nat.le_refl _) (by simp) ?_ ?_
    ·refine Ma (dJ _ _ _) (heap_alloc_new w _) h0 S4 (by omega) (by simp only[maxLen];omega) fun i c hc=>?_
     rw[←hR]at hc;have m9:=(List.getElem?_eq_some_iff.1 hc).1;simp only[List.length_replicate]at m9;have hcz:c=z':=by
      rw[List.getElem?_replicate,if_pos m9]at hc;exact(Option.some.inj hc).symm
     subst hcz;refine⟨Z3,fun j l hj=>?_⟩
     obtain⟨v,hv,TY⟩:=ZP.get hj;refine⟨v,?_,TY.mono Pg.RT Pg.sub⟩;rw[←Array.getElem?_toList,VK];exact xF (sz:=ie.size) (rows:=List.replicate m.toNat zv.cells.toList) (fun c hc=>by rw[List.eq_of_mem_replicate hc];simpa using KY) (by rw[List.getElem?_replicate,if_pos (by omega)]) hv
    ·exact .inl ⟨w.heap.size,m.toNat,dJ _ _ _,by rw[Nr];simp,by omega⟩
  ·cases hf
 ·cases hf
theorem vM{x:Option Operand}{c:Option Cm}{q:Option Int}(hc:Y3 w M φ a x c)(hb:Tw c=some q):(x=none∧q=none)∨∃y k n,x=some y∧q=some n∧a.eval y=.int k n:=by
 cases x with
 |none =>
  cases c with
  |none=>cases hb;exact .inl ⟨rfl,rfl⟩
  |some c=>exact hc.elim
 |some x =>
  cases c with
  |none=>exact hc.elim
  |some c =>
   unfold Tw at hb;split at hb
   ·rename_i h;cases h
   ·rename_i k n h;cases h;cases hb;have hx:IR w M (.int k n) (a.eval x):=hc;generalize hv:a.eval x=xv at hx;cases hx;exact .inr ⟨x,k,n,rfl,rfl,hv⟩
   ·cases hb
theorem tZ{isS:Bool}{len cap:Nat}{lo hi mx:Option Value}{ql qh qm:Option Int}(hl:(lo=none∧ql=none)∨∃k n,lo=some (.int k n)∧ql=some n)(hh:(hi=none∧qh=none)∨∃k n,hi=some (.int k n)∧qh=some n)
  (hm:(mx=none∧qm=none)∨∃k n,mx=some (.int k n)∧qm=some n) (hmh:qm.isSome→qh.isSome) (h1:0≤ql.getD 0) (h2:ql.getD 0≤qh.getD len) (h3:qh.getD len≤qm.getD cap) (h4:qm.getD cap≤cap) (h5:(len:Int)≤cap):
  (Instr.sliceBounds isS len cap lo hi mx).run P w=.ok ((ql.getD 0).toNat,(qh.getD len).toNat,(qm.getD cap).toNat) w:=by
 have hb:∀(k:IntKind) (n:Int) (y:Nat) (code:BoundsCode),0≤n→n≤(y:Int)→(Instr.sliceBound (.int k n) y code).run P w=.ok n.toNat w:=fun k n y code e1 e2=>by
  simp [Instr.sliceBound,asIntOf,e1,e2]
 unfold Instr.sliceBounds;rcases hm with⟨rfl,rfl⟩|⟨km,m,rfl,rfl⟩
 ·rcases hh with⟨rfl,rfl⟩|⟨kh,n,rfl,rfl⟩
  ·rcases hl with⟨rfl,rfl⟩|⟨kl,l,rfl,rfl⟩
   ·simp
   ·simp only[Option.getD_some,Option.getD_none]at h1 h2 h3 h4 ⊢;simp [hb kl l len _ h1 h2]
  ·rcases hl with⟨rfl,rfl⟩|⟨kl,l,rfl,rfl⟩
   ·simp only[Option.getD_some,Option.getD_none]at h1 h2 h3 h4 ⊢;simp [hb kh n cap _ h2 h3]
   ·simp only[Option.getD_some,Option.getD_none]at h1 h2 h3 h4 ⊢;simp [hb kh n cap _ (by omega) h3,hb kl l n.toNat _ h1 (by omega)]
 ·rcases hh with⟨rfl,rfl⟩|⟨kh,n,rfl,rfl⟩
  ·have:=hmh rfl;cases this
  ·rcases hl with⟨rfl,rfl⟩|⟨kl,l,rfl,rfl⟩
   ·simp only[Option.getD_some,Option.getD_none]at h1 h2 h3 h4 ⊢;simp [hb km m cap _ (by omega) h4,hb kh n m.toNat _ h2 (by omega)]
   ·simp only[Option.getD_some,Option.getD_none]at h1 h2 h3 h4 ⊢;simp [hb km m cap _ (by omega) h4,hb kh n m.toNat _ (by omega) (by omega),hb kl l n.toNat _ h1 (by omega)]
theorem O0{t:TypeId}{s:ByteArray}{lo hi:Option Value}{l hh m:Nat}(hu:P.underlying t=some .string)(hb:(Instr.sliceBounds false s.size s.size lo hi none).run P w=.ok (l,hh,m) w):(Instr.sliceAt t (.string s) lo hi none).run P w=.ok (.string (s.extract l hh)) w:=by
 simp [Instr.sliceAt,run_underlying hu,Instr.slice,hb]
theorem xc{t e:TypeId}{A:Option Addr}{len cap:Nat}{lo hi mx:Option Value}{l hh m:Nat}{i:TypeInfo}(hu:P.underlying t=some (.slice e))(U5:P.info? e=some i)(hb:(Instr.sliceBounds true len cap lo hi mx).run P w=.ok (l,hh,m) w):
  (Instr.sliceAt t (.slice A len cap) lo hi mx).run P w=.ok (.slice (if m=l then A else A.map (·.add (l*i.size))) (hh-l) (m-l)) w:=by
 simp [Instr.sliceAt,run_underlying hu,Instr.slice,hb,run_sizeOf U5]
theorem O6(cF:cA r.e9)(hg:g)(hF:∀t,AR w M φ (L t) (a.tmps.getD t undef))(hW:Wd Γ φ M hD w){t:TypeId}{x:Operand}{lo hi mx:Option Operand}(ho:o.op=.slice t x lo hi mx)(hf:uT P h base g L o.op hs=some r):
  Yd P Γ φ M hD w base r ((execOp a.eval o).run P w):=by
 rw[ho]at hf;simp only[uT]at hf;have c6:∀v,(Instr.sliceAt t (a.eval x) (lo.map a.eval) (hi.map a.eval) (mx.map a.eval)).run P w=.ok v w→(execOp a.eval o).run P w=.ok (.value v) w:=fun v hv=>by simp [execOp,ho,hv]
 split at hf
 ·rename_i c o0 lo' o1 Mw o2 mx' o3 h0 h1 h2 h3;cases Lv:JK P h t c lo' Mw mx' hs with
  |none=>rw[Lv]at hf;cases hf
  |some r0 =>
   rw[Lv]at hf;cases hf;simp only[a0]at cF;obtain⟨⟨⟨⟨p0,p1⟩,p2⟩,p3⟩,p4⟩:=cF;have hx:=bQ hF h0 p0 hg;have e1:=MT hF hg h1 p1;have e2:=MT hF hg h2 p2;have e3:=MT hF hg h3 p3;have conv:∀{x:Option Operand} {q:Option Int},((x=none∧q=none)∨∃y k n,x=some y∧q=some n∧a.eval y=.int k n)→((x.map a.eval=none∧q=none)∨∃k n,x.map a.eval=some (.int k n)∧q=some n):=fun hh=>by
    rcases hh with⟨rfl,rfl⟩|⟨y,k,n,rfl,rfl,e⟩
    ·exact .inl ⟨rfl,rfl⟩
    ·exact .inr ⟨k,n,by simp [e],rfl⟩
   unfold JK at Lv;split at Lv
   ·rename_i s ql qh S3 YK VH;split at Lv
    ·rename_i hu;cases Lv;obtain⟨q1,q2,q3,-⟩:=p4;have xi:IR w M (.str s) (a.eval x):=hx;generalize hv:a.eval x=xv at xi c6;cases xi;have c1:=conv (vM e1 S3);have c2:=conv (vM e2 YK);have c3:=conv (vM e3 VH);have hmx:mx.map a.eval=none:=by rcases c3 with⟨h,_⟩|⟨k,n,_,h⟩;exact h;cases h
     simp only[hmx]at c6;refine Yd.val (c6 _ (O0 hu (tZ (qm:=none) c1 c2 (.inl ⟨rfl,rfl⟩) (fun h=>by cases h) q1 q2 q3 (Int.le_refl _) (Int.le_refl _)))) rfl (IR.str _) hW
    ·cases Lv
   ·rename_i ql qh S3 YK VH;split at Lv
    ·rename_i e he;cases ZT:Dd P e with
     |none=>rw[ZT]at Lv;cases Lv
     |some sz =>
      rw[ZT]at Lv;cases Lv;obtain⟨q1,q2,q3,-⟩:=p4;obtain⟨i,hi,_⟩:=mn ZT;have hu:=iN he;have xi:IR w M .cM (a.eval x):=hx;generalize hv:a.eval x=xv at xi c6;cases xi;have c1:=conv (vM e1 S3);have c2:=conv (vM e2 YK);have c3:=conv (vM e3 VH);have hmx:mx.map a.eval=none:=by rcases c3 with⟨h,_⟩|⟨k,n,_,h⟩;exact h;cases h
      simp only[hmx]at c6;have VO:(ql.getD 0).toNat=0:=by omega
      have hhi:(qh.getD 0).toNat=0:=by omega
      have T8:=xc (A:=none) hu hi (tZ (P:=P) (w:=w) (isS:=true) (len:=0) (cap:=0) (qm:=none) c1 c2 (.inl ⟨rfl,rfl⟩) (fun h=>by cases h) q1 (by simpa using q2) (by simpa using q3) (by simp) (by simp))
      refine Yd.val (c6 _ T8) rfl ?_ hW;simp only[Option.map_none,ite_self];have z1:(qh.getD ((0:Nat):Int)).toNat-(ql.getD 0).toNat=0:=by simp only[Int.natCast_zero];omega
      have z2:((none:Option Int).getD ((0:Nat):Int)).toNat-(ql.getD 0).toNat=0:=by simp
      rw[z1,z2];exact IR.cM
    ·cases Lv
   ·rename_i cl sz rows ql qh qm S3 YK VH;split at Lv
    ·rename_i e R gR he;cases jM:(Dd P e == some sz||rows.isEmpty&&(Dd P e).isSome)with
     |false=>rw[jM]at Lv;cases Lv
     |true =>
      rw[jM]at Lv;cases Lv;simp only[a0,cA]at p4;obtain⟨pm,q1,q2,q3,q4,q5,hR,-⟩:=p4;have hu:=iN he;have c1:=conv (vM e1 S3);have c2:=conv (vM e2 YK);have c3:=conv (vM e3 VH);have hmh:qm.isSome→qh.isSome:=fun hs=>by
       cases qm with
       |none=>cases hs
       |some m=>cases qh with
        |none=>exact pm.1.elim
        |some n=>rfl
      have Sf:∀m,qm=some m→qh=some m:=fun m hm=>by
       subst hm;cases qh with
       |none=>exact pm.1.elim
       |some n=>have:m=n:=pm.1;rw[this]
      -- Qv value and its cells
      have Lw:∃i,P.info? e=some i∧(rows≠[]→i.size=sz):=by
       simp only[Bool.or_eq_true,beq_iff_eq]at jM;rcases jM with jM|jM
       ·obtain⟨i,hi,hs⟩:=mn jM;exact⟨i,hi,fun _=>hs⟩
       ·simp only[Bool.and_eq_true,List.isEmpty_iff,Option.isSome_iff_exists]at jM;obtain⟨he0,n,hn⟩:=jM;obtain⟨i,hi,_⟩:=mn hn;exact⟨i,hi,fun h=>absurd he0 h⟩
      obtain⟨i,hi,his⟩:=Lw;have xi:IR w M (.sl cl sz rows) (a.eval x):=hx;have hlen:R.length=(qh.getD rows.length).toNat-(ql.getD 0).toNat:=by
       rw[←hR];simp;omega
      generalize hv:a.eval x=xv at xi c6;cases xi with
      |Ko _ _ A cap TR =>
       simp only[List.length_nil,Int.natCast_zero]at q1 q2 q3 q4 q5 hlen hR;have Og:R=[]:=by rw[←hR];simp
       subst Og;have Mv:∀m,qm=some m→m=0:=fun m hm=>by rw[hm]at q4 q5;simp only[Option.getD_some]at q4 q5;rw[Sf m hm]at q2 q3;simp only[Option.getD_some]at q2 q3;omega
       have hh0:qh.getD 0=0:=by omega
       refine Yd.val (c6 _ (xc hu hi (tZ c1 c2 c3 hmh q1 (by simpa using q2) (by
        cases qm with
        |none=>simp only[Option.getD_none];simp only[Int.natCast_zero];omega
        |some m=>have:=Mv m rfl;subst this;simp only[Option.getD_some];simp only[Int.natCast_zero];omega) (by
        cases qm with
        |none=>simp
        |some m=>have:=Mv m rfl;subst this;simp) (by simp)))) rfl ?_ hW
       have VO:(ql.getD 0).toNat=0:=by omega
       have hhi:(qh.getD ((0:Nat):Int)).toNat=0:=by simp only[Int.natCast_zero];omega
       rw[VO,hhi];refine IR.Ko _ sz _ _ fun DE=>?_
       cases qm with
       |some m=>have:=Mv m rfl;subst this;rfl
       |none =>
        simp only[Option.isSome_none,Bool.false_or,Bool.and_eq_true]at DE;rw[TR DE.1];rfl
      |sl _ _ _ b k cap vs hm hlc DE DF Sb Rb =>
       have U4:(qh.getD rows.length)≤rows.length:=q3;refine Yd.val (c6 _ (xc hu hi (tZ c1 c2 c3 hmh q1 q2 (by
        cases qm with
        |none=>simp only[Option.getD_none];omega
        |some m=>rw[Sf m rfl];simp) (by
        cases qm with
        |none=>simp
        |some m=>simp only[Option.getD_some]at q5 ⊢;omega) (by omega)))) rfl ?_ hW
       by_cases Og:R=[]
       ·subst Og;simp only[List.length_nil]at hlen;have:(qh.getD rows.length).toNat-(ql.getD 0).toNat=0:=hlen.symm;rw[this];refine IR.Ko _ sz _ _ fun PQ=>?_
        cases qm with
        |some m=>rw[Sf m rfl]at this q2;simp only[Option.getD_some]at this q2 ⊢;omega
        |none =>
         simp only[Option.isSome_none,Bool.false_or,Bool.and_eq_true,Option.isNone_iff_eq_none]at PQ;rw[PQ.2]at this;have h9:=DE PQ.1;simp only[Option.getD_none]at this ⊢;omega
       ·have WO:0<R.length:=List.length_pos_iff.2 Og;have ux:¬((qm.getD cap).toNat=(ql.getD 0).toNat):=by
         cases qm with
         |none=>simp only[Option.getD_none];omega
         |some m=>rw[Sf m rfl]at hlen;simp only[Option.getD_some]at hlen ⊢;omega
        have Qb8:rows≠[]:=fun e=>by subst e;rw[←hR]at WO;simp at WO
        rw[if_neg ux,his Qb8,Option.map_some,Addr.add_mid,←hlen];have XS:∀(i:Nat) (c:List Lf),R[i]?=some c→rows[(ql.getD 0).toNat+i]?=some c:=fun i c hc=>by
         rw[←hR,List.getElem?_take]at hc;split at hc
         ·rw[List.getElem?_drop]at hc;exact hc
         ·cases hc
        refine IR.sl _ sz R b _ _ (fun i j=>vs ((ql.getD 0).toNat+i) j) hm ?_ ?_ (fun i c hc=>DF _ c (XS i c hc)) (fun i c j l hc hj=>?_) (fun i c j l hc hj=>Rb _ c j l (XS i c hc) hj)
        ·cases qm with
         |none=>simp only[Option.getD_none];omega
         |some m=>rw[Sf m rfl]at hlen;simp only[Option.getD_some]at hlen ⊢;omega
        ·intro PQ;cases qm with
         |some m=>rw[Sf m rfl]at hlen;simp only[Option.getD_some]at hlen ⊢;omega
         |none =>
          simp only[Option.isSome_none,Bool.false_or,Bool.and_eq_true,Option.isNone_iff_eq_none]at PQ;have h9:=DE PQ.1;rw[PQ.2]at hlen;simp only[Option.getD_none]at hlen ⊢;omega
        ·have:=Sb _ c j l (XS i c hc) hj;rw[show k+(ql.getD 0).toNat*sz+i*sz+j=k+((ql.getD 0).toNat+i)*sz+j by rw[Nat.add_mul];omega]
         exact this
    ·cases Lv
   ·cases Lv
 ·cases hf
end
end
section
open Go.RowKit
section
variable {P : Program} {Γ : a5} {φ : Pl} {M : Nat → Prop} {hD h : Nat → Option Ob} {w : World} {base : Nat} {L : Nat → AV} {a : Act} {g : Prop} {hs : List Hint} {r : G_} {o : Oper}
theorem HW{l:Lf}{v:Value}{sz size:Nat}{rows:List (List Lf)}{ob:List Prop}{tx e':TypeId}(hW:Wd Γ φ M hD w)(ef:∀id ob,h id=some ob→hD id=some ob)(hk:P.underlying tx=some (.slice e'))(hr:rowsOf h l=some (sz,rows,ob))(ho:cA ob)
  (hs:sz=size∨rows=[]) (hv:LR w M φ l v) (hIR:∀id Po off len b C,l=.os id Po off len→φ id=some (some (b,C))→∀c∈rows,∀x∈c,∀u,IR w M x u→IR w M x u):
  ∃news,Src P size tx v rows.length news w∧Rs (IR w M) rows.flatten news∧(∀(i:Nat) (c:List Lf),rows[i]?=some c→c.length=size):=by
 have B9:∀{c:Nat} {A:Option Addr},∃news,Src P size tx (.slice A 0 c) 0 news w∧Rs (IR w M) ([]:List Lf) news:=fun{c A}=>by
  cases A with
  |none=>exact⟨[],Src.ofNil w hk c,trivial⟩
  |some A=>exact⟨[],Src.ofSlice w hk A 0 c [] (by simp) (fun j u h=>by simp at h) (fun u h=>by simp at h),trivial⟩
 cases l with
 |cM =>
  simp only[rowsOf]at hr;cases hr;have KH:IR w M .cM v:=hv;cases KH;obtain⟨news,h1,h2⟩:=B9 (c:=0) (A:=none);exact⟨news,h1,h2,fun i c h=>by simp at h⟩
 |sl cl s rs =>
  simp only[rowsOf]at hr;cases hr;have KH:IR w M (.sl cl sz rows) v:=hv;cases KH with
  |Ko _ _ A cap _=>obtain⟨news,h1,h2⟩:=B9 (c:=cap) (A:=A);exact⟨news,h1,h2,fun i c h=>by simp at h⟩
  |sl _ _ _ b k cap vs hm hlc DE DF Sb Rb =>
   by_cases ux:rows=[]
   ·subst ux;obtain⟨news,h1,h2⟩:=B9 (c:=cap) (A:=some ⟨b,k,none⟩);exact⟨news,h1,h2,fun i c h=>by simp at h⟩
   ·obtain rfl:sz=size:=hs.resolve_right ux;obtain⟨news,h1,h2⟩:=pa (R:=IR w M) (b:=b) (sz:=sz) rows k DF fun i c j l h1 h2=>⟨_,Sb i c j l h1 h2,Rb i c j l h1 h2⟩
    refine⟨news,Src.ofSlice w hk ⟨b,k,none⟩ rows.length cap news ?_ (fun j u hj=>by rw[Addr.add_mid];exact h2 j u hj) ?_,h1,DF⟩
    ·rw[←h1.len,oU (mem_row DF)]
    ·exact Rs.J4 (φ:=φ) (h1.mono fun _ _ h=>IR.lr h)
 |os id s off len =>
  simp only[rowsOf]at hr;split at hr
  ·rename_i o1 Im;cases hc:(off == 0&&!o1.box&&o1.sz == s)with
   |false=>rw[hc]at hr;cases hr
   |true =>
    rw[hc]at hr;cases hr;simp only[Bool.and_eq_true,beq_iff_eq,Bool.not_eq_true']at hc;obtain⟨⟨rfl,nQ⟩,jM⟩:=hc;have hO:=hW.e9 id o1 (ef id o1 Im);have hlen:=ho.1;have KH:tC w M φ (.os id sz 0 len) v:=hv;rcases KH with⟨b,C,hφ,rfl,hle⟩|⟨hφ,_,rfl,A,rfl⟩
    ·have Hv:=fun i c (hc:o1.rows[i]?=some c)=>hO.cell (.inl nQ) hφ hc
     have ME:∀(i:Nat) (c:List Lf),o1.rows[i]?=some c→c.length=sz:=fun i c hc=>by
      obtain⟨_,h1⟩:=hO.oc (.inl nQ);rw[hφ]at h1;obtain⟨cur,_,_,_,_,_,g6⟩:=h1;rw[(g6 i c hc).1,jM]
     by_cases ux:o1.rows=[]
     ·have Mx:len=0:=by rw[←hlen,ux];rfl
      rw[ux,Mx];obtain⟨news,h1,h2⟩:=B9 (c:=C-0) (A:=some ⟨b,0*sz,none⟩);exact⟨news,h1,h2,fun i c h=>by simp at h⟩
     ·obtain rfl:sz=size:=hs.resolve_right ux;obtain⟨news,h1,h2⟩:=pa (R:=IR w M) (b:=b) (sz:=sz) o1.rows 0 ME fun i c j l hc hj=>by
       obtain⟨v,hv,hr⟩:=Hv i c hc j l hj;rw[nQ]at hr;exact⟨v,by rw[Nat.zero_add,←jM];exact hv,by simpa using hr⟩
      refine⟨news,?_,h1,ME⟩;rw[hlen,Nat.zero_mul];refine Src.ofSlice w hk ⟨b,0,none⟩ len (C-0) news ?_ (fun j u hj=>by rw[Addr.add_mid];exact h2 j u hj) ?_
      ·rw[←h1.len,oU (mem_row ME),hlen]
      ·exact Rs.J4 (φ:=φ) (h1.mono fun _ _ h=>IR.lr h)
    ·have DG:o1.rows=[]:=List.eq_nil_of_length_eq_zero hlen;rw[DG];obtain⟨news,h1,h2⟩:=B9 (c:=0) (A:=A);exact⟨news,h1,h2,fun i c h=>by simp at h⟩
  ·cases hr
 |_=>simp only[rowsOf]at hr;cases hr
theorem SL{l:Lf}{v:Value}{sz size:Nat}{rows:List (List Lf)}{ob:List Prop}(hW:Wd Γ φ M hD w)(hr:rowsOf hD l=some (sz,rows,ob))(ho:cA ob)(hs:sz=size∨rows=[])(hv:LR w M φ l v):
  ∃news,Rs (IR w M) rows.flatten news∧(∀(i:Nat) (c:List Lf),rows[i]?=some c→c.length=size)∧∃A cap,v=.slice A rows.length cap∧(rows≠[]→∃ad,A=some ad∧∀j u,news[j]?=some u→w.cell? (ad.add j)=some u):=by
 have B9:∀{c:Nat} {A:Option Addr},∃news,Rs (IR w M) ([]:List (List Lf)).flatten news∧(∀(i:Nat) (c:List Lf),([]:List (List Lf))[i]?=some c→c.length=size)∧∃A' cap,Value.slice A 0 c=.slice A' ([]:List (List Lf)).length cap∧(([]:List (List Lf))≠[]→∃ad,A'=some ad∧∀j u,news[j]?=some u→w.cell? (ad.add j)=some u):=fun{c A} =>
  ⟨[],trivial,fun i c h=>by simp at h,A,c,rfl,fun h=>absurd rfl h⟩
 cases l with
 |cM =>
  simp only[rowsOf]at hr;cases hr;have KH:IR w M .cM v:=hv;cases KH;exact B9
 |sl cl s rs =>
  simp only[rowsOf]at hr;cases hr;have KH:IR w M (.sl cl sz rows) v:=hv;cases KH with
  |Ko _ _ A cap _=>exact B9
  |sl _ _ _ b k cap vs hm hlc DE DF Sb Rb =>
   by_cases ux:rows=[]
   ·subst ux;exact B9
   ·obtain rfl:sz=size:=hs.resolve_right ux;obtain⟨news,h1,h2⟩:=pa (R:=IR w M) (b:=b) (sz:=sz) rows k DF fun i c j l h1 h2=>⟨_,Sb i c j l h1 h2,Rb i c j l h1 h2⟩
    exact⟨news,h1,DF,_,cap,rfl,fun _=>⟨⟨b,k,none⟩,rfl,fun j u hj=>by rw[Addr.add_mid];exact h2 j u hj⟩⟩
 |os id s off len =>
  simp only[rowsOf]at hr;split at hr
  ·rename_i o1 Im;cases hc:(off == 0&&!o1.box&&o1.sz == s)with
   |false=>rw[hc]at hr;cases hr
   |true =>
    rw[hc]at hr;cases hr;simp only[Bool.and_eq_true,beq_iff_eq,Bool.not_eq_true']at hc;obtain⟨⟨rfl,nQ⟩,jM⟩:=hc;have hO:=hW.e9 id o1 Im;have hlen:=ho.1;have KH:tC w M φ (.os id sz 0 len) v:=hv;rcases KH with⟨b,C,hφ,rfl,hle⟩|⟨hφ,_,rfl,A,rfl⟩
    ·have Hv:=fun i c (hc:o1.rows[i]?=some c)=>hO.cell (.inl nQ) hφ hc
     have ME:∀(i:Nat) (c:List Lf),o1.rows[i]?=some c→c.length=sz:=fun i c hc=>by
      obtain⟨_,h1⟩:=hO.oc (.inl nQ);rw[hφ]at h1;obtain⟨cur,_,_,_,_,_,g6⟩:=h1;rw[(g6 i c hc).1,jM]
     by_cases ux:o1.rows=[]
     ·have Mx:len=0:=by rw[←hlen,ux];rfl
      rw[ux,Mx];exact B9
     ·obtain rfl:sz=size:=hs.resolve_right ux;obtain⟨news,h1,h2⟩:=pa (R:=IR w M) (b:=b) (sz:=sz) o1.rows 0 ME fun i c j l hc hj=>by
       obtain⟨v,hv,hr⟩:=Hv i c hc j l hj;rw[nQ]at hr;exact⟨v,by rw[Nat.zero_add,←jM];exact hv,by simpa using hr⟩
      refine⟨news,h1,ME,_,C-0,by rw[hlen],fun _=>⟨⟨b,0*sz,none⟩,rfl,fun j u hj=>?_⟩⟩
      rw[Nat.zero_mul,Addr.add_mid];exact h2 j u hj
    ·have DG:o1.rows=[]:=List.eq_nil_of_length_eq_zero hlen;rw[DG];exact B9
  ·cases hr
 |_=>simp only[rowsOf]at hr;cases hr
theorem slice_form{l:Lf}{v:Value}{sz:Nat}{rows:List (List Lf)}{ob:List Prop}(hr:rowsOf h l=some (sz,rows,ob))(hv:LR w M φ l v):∃A n c,v=.slice A n c:=by
 cases l with
 |cM=>cases(hv:IR w M .cM v);exact⟨_,_,_,rfl⟩
 |sl cl s rs=>cases(hv:IR w M (.sl cl s rs) v) <;> exact⟨_,_,_,rfl⟩
 |os id s off len =>
  rcases(hv:tC w M φ (.os id s off len) v)with⟨b,C,h1,h2,h3⟩|⟨h1,h2,h3,x,h4⟩
  ·exact⟨_,_,_,h2⟩
  ·exact⟨_,_,_,h4⟩
 |_=>simp only[rowsOf]at hr;cases hr
theorem Qq{l:Lf}{v:Value}{sz:Nat}{rows:List (List Lf)}{ob:List Prop}(hr:rowsOf h l=some (sz,rows,ob))(ho:cA ob)(ux:rows≠[])(hv:LR w M φ l v):∃A n c,v=.slice (some A) n c:=by
 cases l with
 |cM=>simp only[rowsOf]at hr;cases hr;exact absurd rfl ux
 |sl cl s rs =>
  simp only[rowsOf]at hr;cases hr;cases(hv:IR w M (.sl cl sz rows) v)with
  |Ko=>exact absurd rfl ux
  |sl=>exact⟨_,_,_,rfl⟩
 |os id s off len =>
  simp only[rowsOf]at hr;split at hr
  ·rename_i o1 Im;cases hc:(off == 0&&!o1.box&&o1.sz == s)with
   |false=>rw[hc]at hr;cases hr
   |true =>
    rw[hc]at hr;cases hr;rcases(hv:tC w M φ (.os id sz off len) v)with⟨b,C,h1,h2,h3⟩|⟨h1,h2,h3,x,h4⟩
    ·exact⟨_,_,_,h2⟩
    ·have:=ho.1;rw[h3]at this;exact absurd (List.eq_nil_of_length_eq_zero this) ux
  ·cases hr
 |_=>simp only[rowsOf]at hr;cases hr
theorem SP(cF:cA r.e9)(hg:g)(hF:∀t,AR w M φ (L t) (a.tmps.getD t undef))(hW:Wd Γ φ M hD w){op:BinOp}{t u:TypeId}{x y:Operand}(ho:o.op=.binOp op t x y u)(hf:PH P h L g op t x y hs=some r):
  Yd P Γ φ M hD w base r ((execOp a.eval o).run P w):=by
 unfold PH at hf;split at hf
 ·rename_i l o1 o2 e h1 h2 ht;have c6:∀A n c,a.eval x=.slice A n c→a.eval y=.slice none 0 0→(execOp a.eval o).run P w=.ok (.value (.bool A.isNone)) w:=fun A n c hx hy=>by
   have hq:(Op.equal t (.slice A n c) (.slice none 0 0)).run P w=.ok A.isNone w:=by
    obtain⟨d,hd⟩:∃d,Op.maxDepth=d+1:=⟨Op.maxDepth-1,rfl⟩;unfold Op.equal;rw[hd];cases A <;> simp [Op.equalIn,run_underlying ht]
   simp [execOp,ho,hx,hy,eqGuard,binOp,hq]
  split at hf
  ·rename_i p gR hr;cases hf;rw[a0]at cF;have hx:LR w M φ l (a.eval x):=bQ hF h1 cF.1 hg;have hy:IR w M .cM (a.eval y):=bQ hF h2 cF.2 hg;obtain⟨sz,rows,ob⟩:=p;obtain⟨A,n,c,hv⟩:=slice_form hr hx;have Z2:a.eval y=.slice none 0 0:=by generalize a.eval y=q at hy;cases hy;rfl
   exact Yd.val (c6 A n c hv Z2) rfl ⟨_,rfl⟩ hW
  ·rename_i sz rows o3 gR hr;cases hf;simp only[a0]at cF;obtain⟨⟨⟨p1,p2⟩,p3⟩,ux,-⟩:=cF;have hx:LR w M φ l (a.eval x):=bQ hF h1 p1 hg;have hy:IR w M .cM (a.eval y):=bQ hF h2 p2 hg;obtain⟨A,n,c,hv⟩:=Qq hr p3 ux hx;have Z2:a.eval y=.slice none 0 0:=by generalize a.eval y=q at hy;cases hy;rfl
   exact Yd.val (c6 (some A) n c hv Z2) rfl (IR.bool _) hW
  ·cases hf
 ·cases hf
theorem Ge:∀(ns:List Int) (s:ByteArray),ns.foldl (fun r n=>r.push (UInt8.ofNat n.toNat)) s=⟨s.data++(ns.map fun n=>UInt8.ofNat n.toNat).toArray⟩
 | [],s=>by simp
 |n ::ns,s=>by
  rw[List.foldl_cons,Ge ns];simp [ByteArray.push]
theorem Ly:∀{J:List Int} {news:List Value},Rs (IR w M) (J.map fun n=>[Lf.int .u8 n]).flatten news→news=J.map (Value.int .u8)
 | [],[],_=>rfl
 | [],_ ::_,h=>h.elim
 |n ::J,[],h=>h.elim
 |n ::J,v ::vs,h=>by
  cases h.1;rw[Ly h.2];rfl
theorem K5{s d:TypeId}{x:Operand}(cF:cA r.e9)(hg:g)(hF:∀t,AR w M φ (L t) (a.tmps.getD t undef))(hW:Wd Γ φ M hD w)(ef:∀id ob,h id=some ob→hD id=some ob)(ho:o.op=.convert s d x)(hf:uT P h base g L o.op hs=some r):Yd P Γ φ M hD w base r ((execOp a.eval o).run P w):=by
 rw[ho]at hf;simp only[uT]at hf;split at hf
 ·rename_i d1 k k' n o1 h1 h2 h3;cases hf;have hx:IR w M (.int k' n) (a.eval x):=bQ hF h3 cF hg;generalize hv:a.eval x=xv at hx;cases hx;refine Yd.val (v:=.int k (wz k n)) ?_ rfl (IR.int _ _) hW;simp [execOp,ho,hv,convert,run_underlying h1,run_underlying h2,Conv.intToInt,wz]
 ·rename_i d1 k' n o1 h1 h2 h3;cases hf;have hx:IR w M (.int k' n) (a.eval x):=bQ hF h3 cF hg;generalize hv:a.eval x=xv at hx;cases hx;refine Yd.val (v:=.string (Kk n)) ?_ rfl (IR.str _) hW;simp [execOp,ho,hv,convert,run_underlying h1,run_underlying h2,Conv.intToString,Kk]
 ·rename_i d1 s1 o1 h1 h2 h3;cases hf;have hx:IR w M (.str s1) (a.eval x):=bQ hF h3 cF hg;generalize hv:a.eval x=xv at hx;cases hx;refine Yd.val (v:=.string s1) ?_ rfl (IR.str _) hW;simp [execOp,ho,hv,convert,run_underlying h1,run_underlying h2]
 ·rename_i e l o1 J gR n1 n2 h1 h2 h3;split at hf
  ·rename_i sz rows o2 h4 h5;cases hc:(sz == 1||rows.isEmpty)with
   |false=>rw[hc]at hf;cases hf
   |true =>
    rw[hc]at hf;cases hf;simp only[a0]at cF;obtain⟨⟨Im,ZJ⟩,iF,-⟩:=cF;have hx:LR w M φ l (a.eval x):=bQ hF h3 Im hg;have KG:sz=1∨rows=[]:=by
     rw[Bool.or_eq_true]at hc;exact hc.imp (fun h=>by simpa using h) (fun h=>by simpa using h)
    obtain⟨news,A7,S6,-⟩:=HW (size:=1) hW ef h1 h5 ZJ KG hx (fun _ _ _ _ _ _ _ _ _ _ _ _ _ h=>h)
    obtain⟨A,n,c,hv⟩:=slice_form h5 hx;rw[hv]at A7;rw[iF]at S6;have ZG:=Ly S6;subst ZG;refine Yd.val (v:=.string (tF J)) ?_ rfl (IR.str _) hW;have hfc:=A7.cells;have hlen:n=rows.length:=by
     have:=A7.len w;simpa [Builtin.lenOf]using this
    have key:(Conv.bytesToString (.slice A n c)).run P w=.ok (.string (tF J)) w:=by
     cases A with
     |none =>
      have:J=[]:=by
       have h6:(Builtin.firstCells 1 rows.length (.slice none n c)).run P w=.ok #[] w:=rfl;rw[h6]at hfc;have h7:=(Result.ok.inj hfc).1;cases J with
       |nil=>rfl
       |cons a b=>simp at h7
      subst this;rfl
     |some A =>
      have h6:(loadCells A n).run P w=.ok (J.map (Value.int .u8)).toArray w:=by
       rw[hlen];have h7:Builtin.firstCells 1 rows.length (.slice (some A) n c)=loadCells A (rows.length*1):=rfl;rw[h7,Nat.mul_one]at hfc;exact hfc
      rw[run_bytesToString w A n c J h6,Ge];simp [tF,ByteArray.empty,ByteArray.emptyWithCapacity];rfl
    simp only[execOp,ho,hv,Sem.run_bind,run_convert_bytes_string w s d e A n c h1 h4 h2,key];simp [Sem.run_pure]
  ·cases hf
 ·cases hf
theorem AW{t tx ty e:TypeId}{i:TypeInfo}{A:Option Addr}{n c:Nat}{x:Value}{news:List Value}(ht:P.underlying t=some (.slice e))(hi:P.info? e=some i)(hs:Src P i.size tx x 0 news w)(hle:n≤c):
  (Builtin.append_ #[t,tx] ty #[.slice A n c,x]).run P w=.ok (.slice A n c) w:=by
 have hn:news=[]:=List.eq_nil_of_length_eq_zero (by simpa using hs.newsLen)
 subst hn;have h1:=hs.cells;rcases hs.kind with⟨e',hk⟩|hk <;> cases A <;> simp [Builtin.append_,run_underlying ht,run_underlying hk,sizeOf,typeInfo,hi,hs.len,hle,h1,storeCells]
theorem Pr{w':World}{id b C:Nat}{φ':Pl}{e:TypeId}{sz:Nat}{rows:List (List Lf)}{vs rest:List Value}(hφ:φ' id=some (some (b,C)))(hb:w'.heap[b]?=some (.cells (vs++rest).toArray e))(h0:0<sz)(hs:(vs++rest).length=C*sz)(hl:rows.length≤C)(hC:C≤maxLen)
  (DF:∀(i:Nat) (c:List Lf),rows[i]?=some c→c.length=sz) (hr:Rs (IR w' M) rows.flatten vs):OR w' M φ' id ⟨false,sz,e,rows⟩:=
 Ma hφ hb h0 (by simpa using hs) hl hC fun i c hc=>⟨DF i c hc,fun j l hj=>by
  obtain⟨v,hv,TY⟩:=hr.get (xF (mem_row DF) hc hj);refine⟨v,?_,TY⟩;rw[List.getElem?_toArray,List.getElem?_append_left (List.getElem?_eq_some_iff.1 hv).1];exact hv⟩
theorem yS(z:Array Value)(n:Nat):(Builtin.zeroCells z n).toList.length=n*z.size:=by
 rw[Array.length_toList,size_zeroCells]
theorem Ht{t tx ty e:TypeId}{i:TypeInfo}{z x:Value}{A:Option Addr}{n c k:Nat}{mu news:List Value}{rows:List (List Lf)}{id:Nat}(hW:Wd Γ φ M hD w)(ht:P.underlying t=some (.slice e))(hi:P.info? e=some i)(hz:i.zero=some z)(KY:z.cells.size=i.size)(h0:0<i.size)
  (hold:(Builtin.firstCells i.size n (.slice A n c)).run P w.drew=.ok mu.toArray w.drew) (hs:Src P i.size tx x k news w) (m9:c<n+k) (Lt:n+k≤9223372036854775807) (PO:(n+k)*i.bytes≤140737488355328)
  (T2:mu.length=n*i.size) (ME:rows.length=n+k) (DF:∀(j:Nat) (c:List Lf),rows[j]?=some c→c.length=i.size) (hR:Rs (IR w M) rows.flatten (mu++news)) (hφ:φ id=none):
  ∃C w',(Builtin.append_ #[t,tx] ty #[.slice A n c,x]).run P w=.ok (.slice (some ⟨w.heap.size,0,none⟩) (n+k) C) w'∧Below w.heap.size w w'∧w.heap.size<w'.heap.size∧n+k≤C∧OR w' M (DA φ id (some (w.heap.size,C))) id ⟨false,i.size,e,rows⟩:=by
 have c6:=run_append_grow_src (P:=P) w t tx ty e i z ht hi hz A n c mu hold x k news hs m9 (by omega) (growslice_fits m9 PO)
 have U3:=grownCap_ge w (n+k) c e;have hle:=grownCap_le_maxLen w (n+k) c e (by simp only[maxLen];omega)
 have hb:Below w.heap.size w (w.drew.alloc (.cells ((mu++news).toArray++Builtin.zeroCells z.cells (grownCap w (n+k) c e-(n+k))) e)):=((Below.refl _ _).drew).alloc (Nat.le_refl _) _;have he:Ex w M φ (w.drew.alloc (.cells ((mu++news).toArray++Builtin.zeroCells z.cells (grownCap w (n+k) c e-(n+k))) e)) M φ:=hW.I5 hb;refine⟨grownCap w (n+k) c e,_,c6,hb,by simp,U3,?_⟩
 have heq:((mu++news).toArray++Builtin.zeroCells z.cells (grownCap w (n+k) c e-(n+k)))=((mu++news)++(Builtin.zeroCells z.cells (grownCap w (n+k) c e-(n+k))).toList).toArray:=by apply Array.ext';simp
 refine Pr (vs:=mu++news) (rest:=(Builtin.zeroCells z.cells (grownCap w (n+k) c e-(n+k))).toList) (dJ _ _ _) ?_ h0 ?_ (by omega) hle DF (hR.mono fun _ _ h=>h.mono he.RT he.sub)
 ·rw[←heq];exact heap_alloc_new w.drew _
 ·rw[List.length_append,List.length_append,T2,hs.newsLen,yS,KY,←Nat.add_mul,←Nat.add_mul];congr 1;omega
theorem H5(hg:g)(hW:Wd Γ φ M hD w)(ef:∀id ob,h id=some ob→hD id=some ob){d x:Lf}{vd vx:Value}{t ty:TypeId}{r:G_}{Yx:List TypeId}{run:Result Next}(hf:PF P h base d x t (Yx.headD 0) hs=some r)(cF:cA r.e9)
  (hd:LR w M φ d vd) (hx:LR w M φ x vx) (c6:∀v w',(Builtin.append_ #[t,Yx.headD 0] ty #[vd,vx]).run P w=.ok v w'→run=.ok (.value v) w') (pM:∀id,base≤id→id<base+r.news.length→φ id=none∧hD id=none):
  Yd P Γ φ M hD w base r run:=by
 simp only[PF]at hf;split at hf
 ·rename_i e he;have ht:=iN he;split at hf
  ·rename_i i sz new o1 z hi W5 hz;cases hc:(t == Yx.headD 0&&(sz == i.size||new.isEmpty))with
   |false=>rw[hc]at hf;cases hf
   |true =>
    rw[hc]at hf;simp only[cond_true]at hf;simp only[Bool.and_eq_true,Bool.or_eq_true,beq_iff_eq,List.isEmpty_iff]at hc;obtain⟨htt,jM⟩:=hc;rw[←htt]at c6;obtain⟨i2,zv,U5,PU,KY,h0,IL,hl⟩:=qM (w:=w) (M:=M) (φ:=φ) hz;obtain rfl:i=i2:=by rw[hi]at U5;exact Option.some.inj U5
    have core:∀{A:Option Addr} {n c:Nat} {mu:List Value} {rows R:List (List Lf)},vd=.slice A n c→(c=n)→(rows=[]→n=0)→cA o1→rows++new=R→(new≠[]∨rows=[])→R.length*i.bytes≤140737488355328→R.length≤9223372036854775807→
      rows.length=n→(Builtin.firstCells i.size n (.slice A n c)).run P w.drew=.ok mu.toArray w.drew→mu.length=n*i.size→(∀(j:Nat) (c:List Lf),rows[j]?=some c→c.length=i.size)→Rs (IR w M) rows.flatten mu→
      r.v=one (.os base i.size 0 R.length)→r.news=[⟨false,i.size,e,R⟩]→Yd P Γ φ M hD w base r run:=by
     intro A n c mu rows R hvd hcn Pk U6 hR ux PO Lt ME hold T2 DF hRs U8 VS;subst hvd hcn;obtain⟨news,A7,S6,W1⟩:=HW (size:=i.size) hW ef ht W5 U6 jM hx (fun _ _ _ _ _ _ _ _ _ _ _ _ _ h=>h)
     have Nr:R.length=c+new.length:=by rw[←hR,List.length_append,ME]
     by_cases AN:new.length=0
     ·have IK:new=[]:=List.eq_nil_of_length_eq_zero AN;have DG:rows=[]:=ux.resolve_left (fun h=>h IK)
      have Zl:=Pk DG;subst Zl;rw[AN]at A7;have Og:R=[]:=by rw[←hR,DG,IK];rfl
      have TT:=pM base (Nat.le_refl _) (by rw[VS];simp)
      refine Yd.E2 (c6 _ _ (AW ht hi A7 (Nat.le_refl _))) VS hW pM (Below.refl _ _) Og rfl h0 ?_
      rw[U8,Og];exact .inr ⟨dJ _ _ _,rfl,rfl,A,rfl⟩
     ·have TT:=pM base (Nat.le_refl _) (by rw[VS];simp)
      obtain⟨C,w',B_,hb,m9,hle,hO⟩:=Ht (id:=base) (rows:=R) (ty:=ty) hW ht hi PU KY h0 hold A7 (by omega) (by omega) (by rw[←Nr];exact PO) T2 Nr (fun j c hj=>by
       rw[←hR]at hj;rcases Nat.lt_or_ge j rows.length with h|h
       ·rw[List.getElem?_append_left h]at hj;exact DF j c hj
       ·rw[List.getElem?_append_right h]at hj;exact W1 _ c hj) (by rw[←hR,List.flatten_append];exact hRs.append S6) TT.1
      refine Yd.new (c6 _ _ B_) VS hW pM hb (Nat.le_refl _) m9 hO ?_
      rw[U8];exact .inl ⟨w.heap.size,C,dJ _ _ _,by rw[Nr];simp,by omega⟩
    split at hf
    ·rename_i R gR;cases hf;simp only[a0,cA]at cF;obtain⟨p1,hR,PO,Lt,-⟩:=cF;have VL:IR w M .cM vd:=hd;cases VL;exact core (rows:=[]) (mu:=[]) rfl rfl (fun _=>rfl) p1 hR (.inr rfl) PO Lt rfl (run_firstCells_none w.drew _ _ _ _) (by simp) (fun j c h=>by simp at h) trivial rfl rfl
    ·rename_i Po rows R gR;cases I9:(Po == i.size||rows.isEmpty)with
     |false=>rw[I9]at hf;cases hf
     |true =>
      rw[I9]at hf;cases hf;simp only[Bool.or_eq_true,beq_iff_eq,List.isEmpty_iff]at I9;simp only[a0,cA]at cF;obtain⟨⟨p1,pR⟩,PO,Lt,-⟩:=cF;have VL:IR w M (.sl true Po rows) vd:=hd;have YJ:rows++new=R∧(new≠[]∨rows=[]):=⟨pR.1,(Classical.em (new=[])).symm.imp id pR.2.1⟩;cases VL with
      |Ko _ _ A cap DE =>
       obtain rfl:=DE rfl;refine core (rows:=[]) (mu:=[]) rfl rfl (fun _=>rfl) p1 YJ.1 (.inr rfl) PO Lt rfl ?_ (by simp) (fun j c h=>by simp at h) trivial rfl rfl
       cases A <;> simp [Builtin.firstCells,loadCells,loadCellsFrom]
      |sl _ _ _ b k cap vs hm hlc DE DF Sb Rb =>
       have Mv:=DE rfl;obtain⟨mu,g1,g2⟩:=pa (R:=IR w M) (b:=b) (sz:=Po) rows k DF fun i c j l h1 h2=>⟨_,Sb i c j l h1 h2,Rb i c j l h1 h2⟩
       have Sg:mu.length=rows.length*i.size:=by
        rw[←g1.len,oU (mem_row DF)];rcases I9 with h|h
        ·rw[h]
        ·rw[h];simp
       refine core (rows:=rows) (mu:=mu) rfl Mv (fun h=>by rw[h];rfl) p1 YJ.1 YJ.2 PO Lt rfl ?_ Sg (fun j c hj=>?_) g1 rfl rfl
       ·exact run_firstCells_some w.drew i.size rows.length ⟨b,k,none⟩ _ cap mu Sg (fun j v hj=>by rw[Addr.add_mid];exact g2 j v hj)
       ·rw[DF j c hj];rcases I9 with h|h
        ·exact h
        ·rw[h]at hj;simp at hj
    ·cases hf
  ·cases hf
 ·cases hf
theorem HX(w:World){t tx ty e:TypeId}{kx:IntKind}{i:TypeInfo}{z:Value}{n:Int}(ht:P.underlying t=some (.slice e))(hx:P.underlying tx=some (.int kx))(hi:P.info? e=some i)(hz:i.zero=some z)(KY:z.cells.size=i.size)(h0:0<i.size)(hn:0≤n)(Lt:n≤9223372036854775807)(PO:(i.bytes:Int)*n≤140737488355328):
  (Builtin.append_ #[t,tx] ty #[.slice none 0 0,.int .i64 n]).run P w=if n.toNat=0 then .ok (.slice none 0 0) w else
   .ok (.slice (some ⟨w.heap.size,0,none⟩) n.toNat (grownCap w n.toNat 0 e)) (w.drew.alloc (.cells (Builtin.zeroCells z.cells n.toNat++Builtin.zeroCells z.cells (grownCap w n.toNat 0 e-n.toNat)) e)):=by
 have hw:IntKind.i64.wrap n=n:=IntWalk.i64_in n (by omega)
 have c1:¬(n<0):=by omega
 have S3:¬(281474976710656<n*(i.bytes:Int)):=by rw[Int.mul_comm];omega
 by_cases Va:n.toNat=0
 ·have e0:n=0:=by omega
  subst e0;rw[if_pos (by decide)]
  have h1:IntKind.i64.wrap 0=0:=hw;simp [Builtin.append_,run_underlying ht,run_underlying hx,sizeOf,typeInfo,hi,asInt,asIntOf,h1]
 ·rw[if_neg Va];have m9:0<n.toNat:=Nat.pos_of_ne_zero Va;have jM:¬(i.size=0):=by omega
  have Qbc:¬(9223372036854775807<n):=by omega
  have hbn:n.toNat*i.bytes≤140737488355328:=by
   have:((n.toNat*i.bytes:Nat):Int)≤140737488355328:=by
    rw[Int.natCast_mul,Int.toNat_of_nonneg hn,Int.mul_comm];exact PO
   omega
  have IJ:Builtin.nextslicecap n.toNat 0*i.bytes≤281474976710656:=growslice_fits m9 hbn;have Qbb:¬(281474976710656<Builtin.nextslicecap n.toNat 0*i.bytes):=by omega
  have hm:max n 0=n:=by omega
  have hle:¬n≤0:=by omega
  have hmul:¬(n.toNat*i.size=0):=Nat.ne_of_gt (Nat.mul_pos m9 h0);simp [hle,hmul,Builtin.append_,run_underlying ht,run_underlying hx,sizeOf,typeInfo,zeroValue,hi,hz,asInt,asIntOf,hw,c1,S3,Va,jM,Qbc,Qbb,hm,m9,Question.forced,newRow,grownCap,Builtin.firstCells]
theorem Fz(hg:g)(hW:Wd Γ φ M hD w){vd vx:Value}{k:IntKind}{n:Int}{t tx ty:TypeId}{r:G_}{run:Result Next}(hf:tI P h base .append [.one .cM,.one (.int k n)] [t,tx] hs=some r)(cF:cA r.e9)
  (hd:LR w M φ .cM vd) (hx:LR w M φ (.int k n) vx) (c6:∀v w',(Builtin.append_ #[t,tx] ty #[vd,vx]).run P w=.ok v w'→run=.ok (.value v) w') (pM:∀id,base≤id→id<base+r.news.length→φ id=none∧hD id=none):
  Yd P Γ φ M hD w base r run:=by
 simp only[tI]at hf;split at hf
 ·rename_i e kx z' R gR he hux;split at hf
  ·rename_i ie z Pj hz;cases Rf:(QD z z'&&decide (k=.i64))with
   |false=>rw[Rf]at hf;cases hf
   |true =>
    rw[Rf]at hf;cases hf;simp only[Bool.and_eq_true,decide_eq_true_iff]at Rf;obtain⟨Rf,rfl⟩:=Rf;simp only[cA]at cF;obtain⟨AN,Lt,PO,hR,-⟩:=cF;obtain⟨i,zv,hi,PU,KY,h0,IL,hl⟩:=qM (w:=w) (M:=M) (φ:=φ) hz;obtain rfl:ie=i:=by rw[Pj]at hi;exact Option.some.inj hi
    have hu:=iN he;have VL:IR w M .cM vd:=hd;have xi:IR w M (.int .i64 n) vx:=hx;cases VL;cases xi;have KU:=HX (P:=P) w (ty:=ty) hu hux Pj PU KY h0 AN Lt PO;have Nr:R.length=n.toNat:=by rw[←hR];simp
    have TT:=pM base (Nat.le_refl _) (by simp)
    by_cases Va:n.toNat=0
    ·rw[if_pos Va]at KU;have Og:R=[]:=List.eq_nil_of_length_eq_zero (by omega)
     refine Yd.E2 (c6 _ _ KU) rfl hW pM (Below.refl _ _) Og rfl h0 ?_
     subst Og;exact .inr ⟨dJ _ _ _,rfl,rfl,none,rfl⟩
    ·rw[if_neg Va]at KU;have ZP:=Nn Rf IL;have Z3:z'.length=ie.size:=by rw[ZP.len];simpa using KY
     have U3:=grownCap_ge w n.toNat 0 e;have hle:=grownCap_le_maxLen w n.toNat 0 e (by simp only[maxLen];omega)
     generalize hC:grownCap w n.toNat 0 e=C at *;have hb:Below w.heap.size w (w.drew.alloc (.cells (Builtin.zeroCells zv.cells n.toNat++Builtin.zeroCells zv.cells (C-n.toNat)) e)):=((Below.refl _ _).drew).alloc (Nat.le_refl _) _;have Pg:Ex w M φ (w.drew.alloc (.cells (Builtin.zeroCells zv.cells n.toNat++Builtin.zeroCells zv.cells (C-n.toNat)) e)) M (DA φ base (some (w.heap.size,C))):=⟨fun b hm=>hb.block b (hW.mlt b hm),fun _ h=>h,pY _ TT.1⟩
     have hzc:(Builtin.zeroCells zv.cells n.toNat).toList=(List.replicate n.toNat zv.cells.toList).flatten:=E9 _ _;refine Yd.new (b:=w.heap.size) (C:=C) (c6 _ _ KU) rfl hW pM hb (Nat.le_refl _) (by simp) ?_ ?_
     ·refine Ma (dJ _ _ _) (heap_alloc_new w.drew _) h0 ?_ (by omega) hle fun i c hc=>?_
      ·rw[Array.size_append,←Array.length_toList,←Array.length_toList,yS,yS,KY,←Nat.add_mul];congr 1;omega
      ·rw[←hR]at hc;have m9:=(List.getElem?_eq_some_iff.1 hc).1;simp only[List.length_replicate]at m9;have hcz:c=z':=by
        rw[List.getElem?_replicate,if_pos m9]at hc;exact(Option.some.inj hc).symm
       subst hcz;refine⟨Z3,fun j l hj=>?_⟩
       obtain⟨v,hv,TY⟩:=ZP.get hj;refine⟨v,?_,TY.mono Pg.RT Pg.sub⟩;have B8:=xF (sz:=ie.size) (rows:=List.replicate n.toNat zv.cells.toList) (i:=i) (j:=j) (fun c hc=>by rw[List.eq_of_mem_replicate hc];simpa using KY) (by rw[List.getElem?_replicate,if_pos (by omega)]) hv
       rw[←hzc]at B8;rw[←Array.getElem?_toList,Array.toList_append,List.getElem?_append_left (List.getElem?_eq_some_iff.1 B8).1];exact B8
     ·exact .inl ⟨w.heap.size,C,dJ _ _ _,by rw[Nr];simp,by omega⟩
  ·cases hf
 ·cases hf
end
end
section
open Go.RowKit Go.MapKept
section
variable {P : Program} {Γ : a5} {φ : Pl} {M : Nat → Prop} {hD h : Nat → Option Ob} {w : World} {base : Nat} {L : Nat → AV} {a : Act} {g : Prop} {hs : List Hint} {r : G_} {o : Oper}
theorem Sl{kt:TypeId}{k:Lf}{kv:Value}(h:Cg P kt k=true)(hk:LR w M φ k kv):∃d,P.underlying kt=some d∧IsKey d kv:=by
 cases k with
 |int q n =>
  simp only[Cg]at h;split at h
  ·rename_i q' hu;cases(hk:IR w M (.int q n) kv);exact⟨_,hu,by simpa [IsKey]using h⟩
  ·cases h
 |str s =>
  simp only[Cg]at h;split at h
  ·rename_i hu;cases(hk:IR w M (.str s) kv);exact⟨_,hu,trivial⟩
  ·cases h
 |_=>simp only[Cg]at h;cases h
theorem PZ{kt:TypeId}{k:Lf}{kv:Value}(h:Cg P kt k=true)(hk:LR w M φ k kv):IR w M k kv:=by
 cases k with
 |int q n=>exact hk
 |str s=>exact hk
 |_=>simp only[Cg]at h;cases h
theorem MI{k k':Lf}{kv kv':Value}{b:Bool}{d:TypeDesc}(h:Ta k k'=some b)(hk:IR w M k kv)(zz:IR w M k' kv')(hd:IsKey d kv):Instr.sameNow d kv kv'=some b∧(b=true→kv'=kv):=by
 unfold Ta at h;split at h
 ·rename_i q x q' y;cases hk;cases zz;by_cases hq:q=q'
  ·subst hq;rw[if_pos rfl]at h;cases h;cases d <;> simp [IsKey]at hd
   subst hd;refine⟨by simp [Instr.sameNow],fun e=>?_⟩
   have:x=y:=by simpa using e
   rw[this]
  ·rw[if_neg hq]at h;cases h
 ·rename_i x y;cases hk;cases zz;cases h;cases d <;> simp [IsKey]at hd
  refine⟨by simp [Instr.sameNow],fun e=>?_⟩
  have:x=y:=(bytes_beq x y).1 e;rw[this]
 ·cases h
theorem Gn{k:Lf}{Ir:List Lf}{b:Bool}{kv:Value}(h:rm [k] Ir=some b)(hk:KyR w M Ir kv):∃k' c,Ir=[k']∧Ta k k'=some c∧b=c∧IR w M k' kv:=by
 cases Ir with
 |nil=>simp [rm]at h
 |cons k' r =>
  cases r with
  |nil =>
   simp only[rm]at h;split at h
   ·rename_i a c h1 h2;cases h2;cases h;rcases hk with⟨q,hq,hr⟩|⟨h2,_⟩
    ·cases hq;exact⟨k',a,rfl,h1,by simp,hr⟩
    ·simp at h2
   ·cases h
  |cons x r =>
   simp only[rm]at h;split at h
   ·rename_i a c h1 h2;cases h2
   ·cases h
theorem Iq:∀{us:List TypeDesc} {ks:List Lf} {vs:List Value},cQ us ks=true→Rs (LR w M φ) ks vs→Rs (IR w M) ks vs
 |_,[],[],_,_=>trivial
 |u ::us,k ::ks,v ::vs,hf,h=>by
  have key:IR w M k v∧cQ us ks=true:=by
   cases u with
   |int q =>
    cases k with
    |int q1 x =>
     simp only[cQ,Bool.and_eq_true]at hf;exact⟨h.1,hf.2⟩
    |_=>simp [cQ]at hf
   |string =>
    cases k with
    |str x =>
     simp only[cQ]at hf;exact⟨h.1,hf⟩
    |_=>simp [cQ]at hf
   |_=>simp [cQ]at hf
  exact⟨key.1,Iq key.2 h.2⟩
 | [],_ ::_,_,hf,_=>by simp [cQ]at hf
 |_,[],_ ::_,_,h=>h.elim
 |_,_ ::_,[],_,h=>h.elim
theorem Oz{k z v:Lf}{kv:Value}{d:TypeDesc}(hk:IR w M k kv)(hd:IsKey d kv):∀{rs:List (List Lf)} {es:List MapEntry} {i:Nat},Rs (yT w M) rs es→AP rs [k] z=some v→
  ∃r,Instr.findNow d kv es i=some r∧((r=none∧v=z)∨∃j u,r=some (j,u)∧IR w M v u)
 | [],[],i,_,h=>by
  simp only[AP]at h;cases h;exact⟨none,rfl,.inl ⟨rfl,rfl⟩⟩
 |_ ::rs,e ::es,i,hr,h=>by
  obtain⟨⟨v',Ir,rfl,h1,h2⟩,h3⟩:=hr;simp only[AP]at h;split at h
  ·rename_i hq;cases h;obtain⟨k',b,rfl,hb,rfl,zz⟩:=Gn hq h2;exact⟨some (i,e.val),by simp [Instr.findNow,(MI hb hk zz hd).1],.inr ⟨i,e.val,rfl,h1⟩⟩
  ·rename_i hq;obtain⟨k',b,rfl,hb,rfl,zz⟩:=Gn hq h2;have hs:=(MI hb hk zz hd).1;have e1:Instr.findNow d kv (e ::es) i=Instr.findNow d kv es (i+1):=by simp [Instr.findNow,hs]
   rw[e1];exact Oz hk hd h3 h
  ·cases h
 | [],_ ::_,_,hr,_=>hr.elim
 |_ ::_,[],_,hr,_=>hr.elim
theorem OA{k v:Lf}{kv vv:Value}{d:TypeDesc}(hk:IR w M k kv)(hv:IR w M v vv)(hd:IsKey d kv):∀{rs R:List (List Lf)} {es:List MapEntry} {i:Nat},Rs (yT w M) rs es→wO rs [k] v=some R→
  (Instr.findNow d kv es i=some none∧∀b,Rs (yT w M) R (es++[⟨kv,vv,b⟩]))∨
  ∃j u e,Instr.findNow d kv es i=some (some (i+j,u))∧es[j]?=some e∧e.key=kv∧Rs (yT w M) R (es.set j {e with key:=kv,val:=vv})
 | [],R,[],i,_,h=>by
  simp only[wO]at h;cases h;exact .inl ⟨rfl,fun b=>⟨⟨v,[k],rfl,hv,.inl ⟨k,rfl,hk⟩⟩,trivial⟩⟩
 |_ ::rs,R,e ::es,i,hr,h=>by
  obtain⟨⟨v',Ir,rfl,h1,h2⟩,h3⟩:=hr;simp only[wO]at h;split at h
  ·rename_i hq;cases h;obtain⟨k',b,rfl,hb,rfl,zz⟩:=Gn hq h2;obtain⟨g1,g2⟩:=MI hb hk zz hd;exact .inr ⟨0,e.val,e,by simp [Instr.findNow,g1],rfl,g2 rfl,⟨v,[k],rfl,hv,.inl ⟨k,rfl,hk⟩⟩,h3⟩
  ·rename_i hq;obtain⟨k',b,rfl,hb,rfl,zz⟩:=Gn hq h2;have hs:=(MI hb hk zz hd).1;have e1:Instr.findNow d kv (e ::es) i=Instr.findNow d kv es (i+1):=by simp [Instr.findNow,hs]
   rw[e1];cases hp:wO rs [k] v with
   |none=>rw[hp]at h;cases h
   |some R' =>
    rw[hp]at h;cases h;rcases OA hk hv hd (i:=i+1) h3 hp with⟨q1,q2⟩|⟨j,u,e',q1,q2,q3,q4⟩
    ·exact .inl ⟨q1,fun b=>⟨⟨v',[k'],rfl,h1,.inl ⟨k',rfl,zz⟩⟩,q2 b⟩⟩
    ·exact .inr ⟨j+1,u,e',by rw[q1,show i+1+j=i+(j+1) by omega],by simpa using q2,q3,⟨v',[k'],rfl,h1,.inl ⟨k',rfl,zz⟩⟩,q4⟩
  ·cases h
 | [],_,_ ::_,_,hr,_=>hr.elim
 |_ ::_,_,[],_,hr,_=>hr.elim
theorem EO:∀{us:List TypeDesc} {ks Ir:List Lf} {b:Bool},cQ us ks=true→rm ks Ir=some b→qQ us ks Ir=some b
 | [],[],[],b,_,h=>h
 |u ::us,k ::ks,k' ::Ir,b,hf,h=>by
  simp only[rm]at h;split at h
  ·rename_i a c h1 h2;cases h;have key:TG u k k'=some a∧cQ us ks=true:=by
    cases u with
    |int q =>
     cases k with
     |int q1 x =>
      simp only[cQ,Bool.and_eq_true,decide_eq_true_eq]at hf;cases k' with
      |int q2 y =>
       simp only[Ta]at h1;by_cases hq:q1=q2
       ·rw[if_pos hq]at h1;cases h1;exact⟨by simp [TG,hq,aW],hf.2⟩
       ·rw[if_neg hq]at h1;cases h1
      |_=>simp [Ta]at h1
     |_=>simp [cQ]at hf
    |string =>
     cases k with
     |str x =>
      simp only[cQ]at hf;cases k' with
      |str y=>simp only[Ta]at h1;cases h1;exact⟨rfl,hf⟩
      |_=>simp [Ta]at h1
     |_=>simp [cQ]at hf
    |_=>simp [cQ]at hf
   simp only[qQ,key.1,EO key.2 h2]
  ·cases h
 | [],_ ::_,_,_,hf,_=>by simp [cQ]at hf
 |_ ::_,[],_,_,hf,_=>by simp [cQ]at hf
 | [],[],_ ::_,_,_,h=>by simp [rm]at h
 |_ ::_,_ ::_,[],_,_,h=>by simp [rm]at h
theorem JY:∀{ks Ir:List Lf} {b:Bool},rm ks Ir=some b→ks.length=Ir.length
 | [],[],_,_=>rfl
 |k ::ks,k' ::Ir,b,h=>by
  simp only[rm]at h;split at h
  ·rename_i h1 h2;simp [JY h2]
  ·cases h
 | [],_ ::_,_,h=>by simp [rm]at h
 |_ ::_,[],_,h=>by simp [rm]at h
theorem LA:∀{us:List TypeDesc} {ks Ir:List Lf} {vs Wz:List Value},cQ us ks=true→rm ks Ir=some true→Rs (IR w M) ks vs→Rs (IR w M) Ir Wz→Wz=vs
 | [],[],[],vs,Wz,_,_,h1,h2=>by
  cases vs with
  |nil=>cases Wz with
   |nil=>rfl
   |cons _ _=>exact h2.elim
  |cons _ _=>exact h1.elim
 |u ::us,k ::ks,k' ::Ir,vs,Wz,hf,h,h1,h2=>by
  cases vs with
  |nil=>exact h1.elim
  |cons v vs =>
   cases Wz with
   |nil=>exact h2.elim
   |cons v' Wz =>
    simp only[rm]at h;split at h
    ·rename_i a c e1 e2;have hac:a=true∧c=true:=by simpa using h
     obtain⟨rfl,rfl⟩:=hac;have key:v'=v∧cQ us ks=true:=by
      cases u with
      |int q =>
       cases k with
       |int q1 x =>
        simp only[cQ,Bool.and_eq_true,decide_eq_true_eq]at hf;cases k' with
        |int q2 y =>
         simp only[Ta]at e1;by_cases hq:q1=q2
         ·rw[if_pos hq]at e1;have hxy:x=y:=by simpa using e1
          have g1:IR w M (.int q1 x) v:=h1.1;have g2:IR w M (.int q2 y) v':=h2.1;cases g1;cases g2;exact⟨by rw[hq,hxy],hf.2⟩
         ·rw[if_neg hq]at e1;cases e1
        |_=>simp [Ta]at e1
       |_=>simp [cQ]at hf
      |string =>
       cases k with
       |str x =>
        simp only[cQ]at hf;cases k' with
        |str y =>
         simp only[Ta]at e1;have hxy:x=y:=(bytes_beq x y).1 (by simpa using e1)
         have g1:IR w M (.str x) v:=h1.1;have g2:IR w M (.str y) v':=h2.1;cases g1;cases g2;exact⟨by rw[hxy],hf⟩
        |_=>simp [Ta]at e1
       |_=>simp [cQ]at hf
      |_=>simp [cQ]at hf
     rw[key.1,LA key.2 e2 h1.2 h2.2]
    ·cases h
 | [],_ ::_,_,_,_,hf,_,_,_=>by simp [cQ]at hf
 |_ ::_,[],_,_,_,hf,_,_,_=>by simp [cQ]at hf
 | [],[],_ ::_,_,_,_,h,_,_=>by simp [rm]at h
 |_ ::_,_ ::_,[],_,_,_,h,_,_=>by simp [rm]at h
theorem Gp{n:Nat}:∀{us:List TypeDesc} {ks:List Lf} {vs:List Value},cQ us ks=true→Rs (IR w M) ks vs→((vs.zip vs).all fun(x,y)=>Instr.sameBits n x y)=true
 | [],[],vs,_,h1=>by
  cases vs with
  |nil=>rfl
  |cons _ _=>exact h1.elim
 |u ::us,k ::ks,vs,hf,h1=>by
  cases vs with
  |nil=>exact h1.elim
  |cons v vs =>
   have key:Instr.sameBits n v v=true∧cQ us ks=true:=by
    cases u with
    |int q =>
     cases k with
     |int q1 x =>
      simp only[cQ,Bool.and_eq_true,decide_eq_true_eq]at hf;have g1:IR w M (.int q1 x) v:=h1.1;cases g1;exact⟨by cases n <;> simp [Instr.sameBits],hf.2⟩
     |_=>simp [cQ]at hf
    |string =>
     cases k with
     |str x =>
      simp only[cQ]at hf;have g1:IR w M (.str x) v:=h1.1;cases g1;exact⟨by cases n <;> simp [Instr.sameBits,bytes_beq],hf⟩
     |_=>simp [cQ]at hf
    |_=>simp [cQ]at hf
   have ih:=Gp (n:=n) key.2 h1.2;simp only[List.zip_cons_cons,List.all_cons,key.1,ih,Bool.and_self]
 | [],_ ::_,_,hf,_=>by simp [cQ]at hf
 |_ ::_,[],_,hf,_=>by simp [cQ]at hf
theorem GW{em:Bool}{n:Nat}{t:TypeId}{fs:Array Field}{us:List TypeDesc}{ks:List Lf}{vs:List Value}(hu:P.underlying t=some (.struct fs))(B8:B5 P 0 fs.toList=some us)(hf:cQ us ks=true)(hr:Rs (LR w M φ) ks vs):
  (Instr.checkKey em (n+2) t (.agg vs.toArray)).run P w=.ok () w:=by
 rw[Instr.checkKey];simp only[Sem.run_bind,run_underlying hu,Result.andThen_ok];rw[←Array.forIn_toList];generalize fs.toList=L at B8;have DG:Rs (LR w M φ) ks (vs.drop 0):=hr;clear hr hu;generalize 0=k at B8 DG;induction L generalizing k us ks with
 |nil=>simp
 |cons f L ih =>
  simp only[B5]at B8;cases hc:(f.offset == k&&!(f.name == "_")&&(BK P f.type == some false))with
  |false=>rw[hc]at B8;cases B8
  |true =>
   rw[hc]at B8;simp only[cond_true]at B8;simp only[Bool.and_eq_true,beq_iff_eq,Bool.not_eq_true',beq_eq_false_iff_ne]at hc;obtain⟨⟨KV,Q8⟩,zN⟩:=hc;split at B8
   ·rename_i u us' hu FG;cases B8;cases ks with
    |nil=>simp [cQ]at hf
    |cons x ks =>
     obtain⟨v1,VV,Nu⟩:=DG.get (i:=0) rfl;have VR:Rs (LR w M φ) ks (vs.drop (k+1)):=by have:=DG.drop 1;simpa [List.drop_drop,Nat.add_comm]using this
     have hp:=qe (P:=P) (w:=w) zN (vs:=vs.toArray) (k:=f.offset) (v:=v1) (by rw[KV];simpa using VV)
     have key:(Instr.checkKey em (n+1) f.type v1).run P w=.ok () w∧cQ us' ks=true:=by
      cases u with
      |int q =>
       cases x with
       |int q1 y =>
        simp only[cQ,Bool.and_eq_true,decide_eq_true_eq]at hf;have g1:IR w M (.int q1 y) v1:=Nu;cases g1;exact⟨by simp [Instr.checkKey,run_underlying hu],hf.2⟩
       |_=>simp [cQ]at hf
      |string =>
       cases x with
       |str y =>
        simp only[cQ]at hf;have g1:IR w M (.str y) v1:=Nu;cases g1;exact⟨by simp [Instr.checkKey,run_underlying hu],hf⟩
       |_=>simp [cQ]at hf
      |_=>simp [cQ]at hf
     simp only[List.forIn_cons,Sem.run_bind,Q8,ne_eq,not_false_eq_true,if_true,Result.andThen_ok,hp,key.1,Sem.run_pure];exact ih key.2 (k+1) FG VR
   ·cases B8
theorem JH{d:Nat}{t:TypeId}{fs:Array Field}{us:List TypeDesc}{xs ys:List Lf}{vx vy:List Value}{e:Bool}(hu:P.underlying t=some (.struct fs))(pk:P.stoodInHeld t=false)(B8:B5 P 0 fs.toList=some us)
  (he:qQ us xs ys=some e) (X5:Rs (LR w M φ) xs vx) (X6:Rs (LR w M φ) ys vy):(Op.equalIn (d+1+1) t (.agg vx.toArray) (.agg vy.toArray)).run P w=.ok e w:=by
 have h3:=JE (P:=P) (w:=w) (M:=M) (φ:=φ) (d:=d) fs.toList 0 us xs ys e B8 he X5 X6;rw[Array.forIn_toList]at h3;unfold Op.equalIn;simp only[Sem.run_bind,run_underlying hu,Result.andThen_ok,run_program,pk];simp only[Bool.false_eq_true,if_false,Sem.run_bind,Sem.run_pure,Result.andThen_ok];refine Eq.trans (congrArg (fun z=>Result.andThen z _) h3) ?_
 cases e <;> simp
theorem LH{t:TypeId}{fs:Array Field}{us:List TypeDesc}{ks:List Lf}{z v:Lf}{vs:List Value}(hu:P.underlying t=some (.struct fs))(pk:P.stoodInHeld t=false)(B8:B5 P 0 fs.toList=some us)(hf:cQ us ks=true)
  (h2:2≤ks.length) (hr:Rs (IR w M) ks vs):∀{rs:List (List Lf)} {es:List MapEntry} {i:Nat},Rs (yT w M) rs es→AP rs ks z=some v→
  ∃r,(Instr.findAsking t (.agg vs.toArray) es i).run P w=.ok r w∧((r=none∧v=z)∨∃j u,r=some (j,u)∧IR w M v u)
 | [],[],i,_,h=>by
  simp only[AP]at h;cases h;exact⟨none,by simp [Instr.findAsking],.inl ⟨rfl,rfl⟩⟩
 |_ ::rs,e ::es,i,X4,h=>by
  obtain⟨⟨v',Ir,rfl,g1,g2⟩,g3⟩:=X4;have PS:∀{b:Bool},rm ks Ir=some b→(Op.equal t (.agg vs.toArray) e.key).run P w=.ok b w:=by
   intro b hb;rcases g2 with⟨k,rfl,_⟩|⟨_,Wz,zz,Lx⟩
   ·have:=JY hb;simp at this;omega
   ·rw[zz];exact JH (M:=M) (φ:=fun _=>none) (d:=9998) hu pk B8 (EO hf hb) (Rs.mono (fun _ _ h=>IR.lr h) hr) (Rs.mono (fun _ _ h=>IR.lr h) Lx)
  simp only[AP]at h;split at h
  ·rename_i hq;cases h;exact⟨some (i,e.val),by simp [Instr.findAsking,PS hq],.inr ⟨i,e.val,rfl,g1⟩⟩
  ·rename_i hq;obtain⟨r,q1,q2⟩:=LH hu pk B8 hf h2 hr (i:=i+1) g3 h;exact⟨r,by simp [Instr.findAsking,PS hq,q1],q2⟩
  ·cases h
 | [],_ ::_,_,hr,_=>hr.elim
 |_ ::_,[],_,hr,_=>hr.elim
theorem LI{t:TypeId}{fs:Array Field}{us:List TypeDesc}{ks:List Lf}{v:Lf}{vs:List Value}{vv:Value}(hu:P.underlying t=some (.struct fs))(pk:P.stoodInHeld t=false)(B8:B5 P 0 fs.toList=some us)(hf:cQ us ks=true)
  (h2:2≤ks.length) (hr:Rs (IR w M) ks vs) (hv:IR w M v vv):∀{rs R:List (List Lf)} {es:List MapEntry} {i:Nat},Rs (yT w M) rs es→wO rs ks v=some R→
  ((Instr.findAsking t (.agg vs.toArray) es i).run P w=.ok none w∧∀b,Rs (yT w M) R (es++[⟨.agg vs.toArray,vv,b⟩]))∨
  ∃j u e,(Instr.findAsking t (.agg vs.toArray) es i).run P w=.ok (some (i+j,u)) w∧es[j]?=some e∧e.key=.agg vs.toArray∧Rs (yT w M) R (es.set j {e with key:=.agg vs.toArray,val:=vv})
 | [],R,[],i,_,h=>by
  simp only[wO]at h;cases h;exact .inl ⟨by simp [Instr.findAsking],fun b=>⟨⟨v,ks,rfl,hv,.inr ⟨h2,vs,rfl,hr⟩⟩,trivial⟩⟩
 |_ ::rs,R,e ::es,i,X4,h=>by
  obtain⟨⟨v',Ir,rfl,g1,g2⟩,g3⟩:=X4;have PS:∀{b:Bool},rm ks Ir=some b→(Op.equal t (.agg vs.toArray) e.key).run P w=.ok b w∧(b=true→e.key=.agg vs.toArray):=by
   intro b hb;rcases g2 with⟨k,rfl,_⟩|⟨_,Wz,zz,Lx⟩
   ·have:=JY hb;simp at this;omega
   ·rw[zz];exact⟨JH (M:=M) (φ:=fun _=>none) (d:=9998) hu pk B8 (EO hf hb) (Rs.mono (fun _ _ h=>IR.lr h) hr) (Rs.mono (fun _ _ h=>IR.lr h) Lx),fun Sa=>by subst Sa;rw[LA hf hb hr Lx]⟩
  simp only[wO]at h;split at h
  ·rename_i hq;cases h;exact .inr ⟨0,e.val,e,by simp [Instr.findAsking,(PS hq).1],rfl,(PS hq).2 rfl,⟨v,ks,rfl,hv,.inr ⟨h2,vs,rfl,hr⟩⟩,g3⟩
  ·rename_i hq;cases hp:wO rs ks v with
   |none=>rw[hp]at h;cases h
   |some R' =>
    rw[hp]at h;cases h;rcases LI hu pk B8 hf h2 hr hv (i:=i+1) g3 hp with⟨q1,q2⟩|⟨j,u,e',q1,q2,q3,q4⟩
    ·exact .inl ⟨by simp [Instr.findAsking,(PS hq).1,q1],fun b=>⟨⟨v',Ir,rfl,g1,g2⟩,q2 b⟩⟩
    ·exact .inr ⟨j+1,u,e',by simp [Instr.findAsking,(PS hq).1,q1];omega,by simpa using q2,q3,⟨v',Ir,rfl,g1,g2⟩,q4⟩
  ·cases h
 | [],_,_ ::_,_,hr,_=>hr.elim
 |_ ::_,_,[],_,hr,_=>hr.elim
structure Vf (P:Program) (w:World) (M:Nat→Prop) (kt:TypeId) (ks:List Lf) (kv:Value):Prop where
 check:∀em,(Instr.checkKey em 10000 kt kv).run P w=.ok () w
 stays:(Instr.keyThatStays kv kv).run P w=.ok kv w
 get:∀{rs:List (List Lf)} {es:List MapEntry} {z v:Lf},Rs (yT w M) rs es→AP rs ks z=some v→∃r,(Instr.findKey kt kv es).run P w=.ok r w∧((r=none∧v=z)∨∃j u,r=some (j,u)∧IR w M v u)
 put:∀{rs R:List (List Lf)} {es:List MapEntry} {v:Lf} {vv:Value},IR w M v vv→Rs (yT w M) rs es→wO rs ks v=some R→
  ((Instr.findKey kt kv es).run P w=.ok none w∧∀b,Rs (yT w M) R (es++[⟨kv,vv,b⟩]))∨
  ∃j u e,(Instr.findKey kt kv es).run P w=.ok (some (j,u)) w∧es[j]?=some e∧e.key=kv∧Rs (yT w M) R (es.set j {e with key:=kv,val:=vv})
theorem Oq{kt:TypeId}{kc:Cm}{kv:Value}(h:Hy P kt kc=true)(hk:CR w M φ kc kv):Vf P w M kt kc.cells kv:=by
 cases kc with
 |one k =>
  have h':Cg P kt k=true:=h;have Oj:LR w M φ k kv:=hk;obtain⟨d,hd,hkd⟩:=Sl h' Oj;have hi:=PZ h' Oj;refine⟨fun em=>Go.MapKept.run_checkKey hd hkd em 9999,Go.MapKept.run_keyThatStays hkd,fun hr hg=>?_,fun hv hr hg=>?_⟩
  ·obtain⟨r,q1,q2⟩:=Oz hi hkd (i:=0) hr hg;exact⟨r,Go.MapKept.run_findKey hd q1,q2⟩
  ·rcases OA hi hv hkd (i:=0) hr hg with⟨q1,q2⟩|⟨j,u,e,q1,q2,q3,q4⟩
   ·exact .inl ⟨Go.MapKept.run_findKey hd q1,q2⟩
   ·rw[Nat.zero_add]at q1;exact .inr ⟨j,u,e,Go.MapKept.run_findKey hd q1,q2,q3,q4⟩
 |agg ks =>
  simp only[Hy,Bool.and_eq_true]at h;obtain⟨h2,h3⟩:=h;have h2':2≤ks.length:=Nat.le_of_ble_eq_true h2;split at h3
  ·rename_i us FG;have Oh:∃fs,P.underlying kt=some (.struct fs)∧P.stoodInHeld kt=false∧B5 P 0 fs.toList=some us:=by
    unfold QQ at FG;split at FG
    ·rename_i fs hu;cases hc:(!P.stoodInHeld kt&&!P.eqGuardType P.depth kt)with
     |false=>rw[hc]at FG;cases FG
     |true =>
      rw[hc]at FG;simp only[Bool.and_eq_true,Bool.not_eq_true']at hc;exact⟨fs,hu,hc.1,FG⟩
    ·cases FG
   obtain⟨fs,hu,pk,B8⟩:=Oh;obtain⟨vs,rfl,hr⟩:=hk;have hri:Rs (IR w M) ks vs:=Iq h3 hr;have hfk:∀es:List MapEntry,(Instr.findKey kt (.agg vs.toArray) es).run P w=(Instr.findAsking kt (.agg vs.toArray) es).run P w:=fun es=>run_findKey_eq w (by rw[hu]) _ es
   refine⟨fun em=>GW (n:=9998) hu B8 h3 hr,?_,fun X4 hg=>?_,fun hv X4 hg=>?_⟩
   ·unfold Instr.keyThatStays;have:Instr.sameBits 10000 (.agg vs.toArray) (.agg vs.toArray)=true:=by
     simp only[Instr.sameBits,beq_self_eq_true,Bool.true_and];exact Gp (n:=9999) h3 hri
    rw[if_pos this];rfl
   ·rw[hfk];exact LH hu pk B8 h3 h2' hri X4 hg
   ·rw[hfk];rcases LI hu pk B8 h3 h2' hri hv (i:=0) X4 hg with q|⟨j,u,e,q1,q2,q3,q4⟩
    ·exact .inl q
    ·rw[Nat.zero_add]at q1;exact .inr ⟨j,u,e,q1,q2,q3,q4⟩
  ·cases h3
theorem J5{id:Nat}{ob:Ob}{rs:List (List Lf)}(hO:OR w M φ id ob)(hm:Dp ob.rows=some rs)(nQ:ob.box=true):∃b es KC,φ id=some (some (b,1))∧w.heap[b]?=some (.map es KC)∧Rs (yT w M) rs es.toList∧ob.rows=[] :: [] ::rs:=by
 rcases hO with⟨h0,hO⟩|hO
 ·exfalso;obtain⟨b,hφ⟩:=(show OR w M φ id ob from .inl ⟨h0,hO⟩).boxed nQ;rw[hφ]at hO;obtain⟨cur,g1,g2,g3,g4,g5,g6⟩:=hO;unfold Dp at hm;split at hm
  ·rename_i r hr;rw[hr]at g3;simp at g3
  ·cases hm
 ·obtain⟨-,rs',b,es,KC,h1,h2,h3,h4⟩:=hO;rw[h1]at hm;cases hm;exact⟨b,es,KC,h2,h3,h4,h1⟩
theorem UU{t:TypeId}{z:Lf}(h:zeroV P t=some z):∃zv,(∀w,(zeroValue t).run P w=.ok zv w)∧LR w M φ z zv:=by
 unfold zeroV at h;split at h
 ·rename_i i hi;split at h
  ·rename_i zv hz;exact⟨zv,fun w=>by simp [zeroValue,typeInfo,hi,hz],E5 h⟩
  ·cases h
 ·cases h
theorem L4(cF:cA r.e9)(hg:g)(hF:∀t,AR w M φ (L t) (a.tmps.getD t undef))(hW:Wd Γ φ M hD w)(ef:∀id ob,h id=some ob→hD id=some ob)
  (pM:∀id,base≤id→id<base+r.news.length→φ id=none∧hD id=none) (hf:Mt P h base g L o.op hs=some r):Yd P Γ φ M hD w base r ((execOp a.eval o).run P w):=by
 unfold Mt at hf;split at hf
 ·rename_i t ho;split at hf
  ·rename_i kt vt hu;cases hf;have TT:=pM base (Nat.le_refl _) (by simp)
   have hb:=qO w (.map #[] 0);refine Yd.new (v:=.map (some w.heap.size)) (w':=w.alloc (.map #[] 0)) (b:=w.heap.size) (C:=1) ?_ rfl hW pM hb (Nat.le_refl _) (by simp) ?_ ⟨w.heap.size,dJ _ _ _,rfl⟩
   ·simp [execOp,ho,Instr.makeMap]
   ·exact .inr ⟨rfl,[],w.heap.size,#[],0,rfl,dJ _ _ _,(heap_alloc w _).1,trivial⟩
  ·cases hf
 ·rename_i t x i ho;split at hf
  ·rename_i kt vt id o1 k o2 v gR hu h1 h2;split at hf
   ·rename_i ob z hid hz;split at hf
    ·rename_i rs hm;cases hc:(ob.box&&Hy P kt k)with
     |false=>rw[hc]at hf;cases hf
     |true =>
      rw[hc]at hf;cases hf;rw[Bool.and_eq_true]at hc;simp only[a0,cA]at cF;obtain⟨b,hφ,hv⟩:tC w M φ (.mp id) (a.eval x):=bQ hF h1 cF.1.1 hg;have hk:CR w M φ k (a.eval i):=bQ hF h2 cF.1.2 hg;have YP:=Oq hc.2 hk;obtain⟨b',es,KC,g1,g2,g3,-⟩:=J5 (hW.e9 id ob (ef id ob hid)) hm hc.1;rw[hφ]at g1;cases g1;obtain⟨zv,hz1,hz2⟩:=UU (M:=M) (φ:=φ) (w:=w) hz;have Zn:=YP.check es.isEmpty;obtain⟨r,q1,q2⟩:=YP.get g3 cF.2.1;rcases q2 with⟨rfl,rfl⟩|⟨j,u,rfl,q2⟩
      ·refine Yd.val (v:=zv) ?_ rfl hz2 hW;simp [execOp,ho,hv,Instr.lookup,run_underlying hu,Go.MapKept.run_getObj_map g2,Zn,q1,hz1,Result.andThen]
      ·refine Yd.val (v:=u) ?_ rfl (IR.lr q2:LR w M φ v u) hW;simp [execOp,ho,hv,Instr.lookup,run_underlying hu,Go.MapKept.run_getObj_map g2,Zn,q1,Result.andThen]
    ·cases hf
   ·cases hf
  ·cases hf
 ·cases hf
end
end
section
open Go.RowKit
section
variable {P : Program} {Γ : a5} {φ : Pl} {M : Nat → Prop} {hD h : Nat → Option Ob} {w : World} {base : Nat} {L : Nat → AV} {a : Act} {g : Prop} {hs : List Hint} {r : G_} {o : Oper}
theorem CP{c:Call}{b:Builtin}(ho:o.op=.call c)(hc:c.callee=.builtin b):∃cn,(execOp a.eval o).run P w=(builtin b c.argTypes o.type cn (c.args.map a.eval)).run P w:=by
 refine⟨c.args.map fun|.const _=>true|_=>false,?_⟩
 simp only[execOp,ho,resolve,hc,Sem.run_bind,Sem.run_pure,Result.andThen_ok,invoke];rfl
theorem Rs.Ld{c1 c2:Cm}{vs:List Value}(h:Rs (CR w M φ) [c1,c2] vs):∃v1 v2,vs=[v1,v2]∧CR w M φ c1 v1∧CR w M φ c2 v2:=by
 match vs,h with
 | [v1,v2],h=>exact⟨v1,v2,rfl,h.1,h.2.1⟩
theorem Rs.WE{c1:Cm}{vs:List Value}(h:Rs (CR w M φ) [c1] vs):∃v1,vs=[v1]∧CR w M φ c1 v1:=by
 match vs,h with
 | [v1],h=>exact⟨v1,rfl,h.1⟩
theorem K4(cF:cA r.e9)(hg:g)(hF:∀t,AR w M φ (L t) (a.tmps.getD t undef))(hW:Wd Γ φ M hD w)(ef:∀id ob,h id=some ob→hD id=some ob){c:Call}{b:Builtin}(ho:o.op=.call c)(hc:c.callee=.builtin b)(hf:uT P h base g L o.op hs=some r)
  (pM:∀id,base≤id→id<base+r.news.length→φ id=none∧hD id=none):Yd P Γ φ M hD w base r ((execOp a.eval o).run P w):=by
 rw[ho]at hf;simp only[uT,hc]at hf;split at hf
 ·rename_i args o1 h1;cases hb:tI P h base b args c.argTypes.toList hs with
  |none=>rw[hb]at hf;cases hf
  |some r0 =>
   rw[hb]at hf;cases hf;simp only[a0]at cF;have hA:=rq hF hg h1 cF.1;have AM:c.args.map a.eval=(c.args.toList.map a.eval).toArray:=by apply Array.ext';simp
   have Ua:c.argTypes=c.argTypes.toList.toArray:=by simp
   obtain⟨cn,c6⟩:=CP (P:=P) (w:=w) (a:=a) ho hc;rw[AM,Ua]at c6;generalize hvs:c.args.toList.map a.eval=vs at hA c6;generalize htt:c.argTypes.toList=Yx at hb c6;have key:∀r1:G_,r1=r0→Yd P Γ φ M hD w base r0 ((execOp a.eval o).run P w)→Yd P Γ φ M hD w base ⟨r0.v,r0.news,o1++r0.e9,r0.hs⟩ ((execOp a.eval o).run P w):=fun _ _ h=>h
   refine key r0 rfl ?_
   by_cases KU:b=.append
   ·subst KU;have R_:=hb;unfold tI at R_;split at R_
    all_goals first|(rename_i hq;cases hq;done)|skip
    ·rename_i kx n t t' _;obtain⟨vd,vx,rfl,hd,hx⟩:=hA.Ld;refine Fz (h:=h) (ty:=o.type) hg hW hb cF.2 hd hx (fun v w' hr=>?_) pM
     rw[c6];simp only[builtin,Sem.run_bind];have Lx:(Builtin.append_ #[t,t'] o.type #[vd,vx]).run P w=.ok v w':=hr;rw[show [t,t'].toArray=#[t,t']from rfl,show [vd,vx].toArray=#[vd,vx]from rfl,Lx];rfl
    ·rename_i d x t t' _ _;obtain⟨vd,vx,rfl,hd,hx⟩:=hA.Ld;refine H5 (h:=h) (Yx:=[t']) (ty:=o.type) hg hW ef R_ cF.2 hd hx (fun v w' hr=>?_) pM
     rw[c6];simp only[builtin,Sem.run_bind];have Lx:(Builtin.append_ #[t,t'] o.type #[vd,vx]).run P w=.ok v w':=hr;rw[show [t,t'].toArray=#[t,t']from rfl,show [vd,vx].toArray=#[vd,vx]from rfl,Lx];rfl
    ·cases R_
   ·unfold tI at hb;split at hb
    ·rename_i l t;obtain⟨v,rfl,hl⟩:=hA.WE;have fin:∀n:Int,(Builtin.len_ #[t] o.type #[v]).run P w=.ok (.int .i64 n) w→r0.v=one (.int .i64 n)→r0.news=[]→Yd P Γ φ M hD w base r0 ((execOp a.eval o).run P w):=fun n h1 h2 h3=>by
      refine Yd.val (v:=.int .i64 n) ?_ h3 (by rw[h2];exact IR.int _ _) hW
      rw[c6];simp only[builtin,Sem.run_bind];rw[show [t].toArray=#[t]from rfl,show [v].toArray=#[v]from rfl,h1];rfl
     split at hb
     ·rename_i s hu;cases hb;have Il:IR w M (.str s) v:=hl;cases Il;exact fin _ (by simp [Builtin.len_,run_underlying hu,goInt,rh]) rfl rfl
     ·rename_i e hu;cases hb;have Il:IR w M .cM v:=hl;cases Il;exact fin _ (by simp [Builtin.len_,run_underlying hu,goInt]) rfl rfl
     ·rename_i id sz off len e hu;split at hb
      ·rename_i n gR;cases hb;obtain⟨rfl,-⟩:=cF.2;have Il:tC w M φ (.os id sz off len) v:=hl;rcases Il with⟨b,C,hφ,rfl,hle⟩|⟨hφ,_,rfl,A,rfl⟩
       ·exact fin _ (by simp [Builtin.len_,run_underlying hu,goInt]) rfl rfl
       ·exact fin _ (by simp [Builtin.len_,run_underlying hu,goInt]) rfl rfl
      ·cases hb
     ·rename_i cl sz rows e hu;split at hb
      ·rename_i n gR;cases hb;obtain⟨rfl,-⟩:=cF.2;have Il:IR w M (.sl cl sz rows) v:=hl;cases Il with
       |Ko=>exact fin _ (by simp [Builtin.len_,run_underlying hu,goInt]) rfl rfl
       |sl=>exact fin _ (by simp [Builtin.len_,run_underlying hu,goInt]) rfl rfl
      ·cases hb
     ·cases hb
    ·rename_i t;obtain⟨v,rfl,hl⟩:=hA.WE;split at hb
     ·rename_i e hu;cases hb;have Il:IR w M .cM v:=hl;cases Il;refine Yd.val (v:=.int .i64 0) ?_ rfl (IR.int _ _) hW;rw[c6];simp [builtin,Builtin.cap_,run_underlying hu,goInt]
     ·cases hb
    ·rename_i k p k' q;cases hb;obtain⟨v1,v2,rfl,e1,e2⟩:=hA.Ld;have e1':IR w M (.int k p) v1:=e1;have XF:IR w M (.int k' q) v2:=e2;cases e1';cases XF;refine Yd.val (v:=.int k (Bv p q)) ?_ rfl (IR.int _ _) hW;rw[c6];simp [builtin,Builtin.max_,Builtin.max2,List.foldlM,Bv]
    ·rename_i k p k' q;cases hb;obtain⟨v1,v2,rfl,e1,e2⟩:=hA.Ld;have e1':IR w M (.int k p) v1:=e1;have XF:IR w M (.int k' q) v2:=e2;cases e1';cases XF;refine Yd.val (v:=.int k (Yj p q)) ?_ rfl (IR.int _ _) hW;rw[c6];simp [builtin,Builtin.min_,Builtin.min2,List.foldlM,Yj]
    ·exact absurd rfl KU
    ·exact absurd rfl KU
    ·cases hb
 ·cases hf
theorem Dk(hf:uT P h base g L o.op hs=some r)(cF:cA r.e9)(hg:g)(hF:∀t,AR w M φ (L t) (a.tmps.getD t undef))(hW:Wd Γ φ M hD w)(ef:∀id ob,h id=some ob→hD id=some ob)
  (pM:∀id,base≤id→id<base+r.news.length→φ id=none∧hD id=none):Yd P Γ φ M hD w base r ((execOp a.eval o).run P w):=by
 cases ho:o.op with
 |move x=>rw[ho]at hf;exact Ku cF hg hF hW (.inl ho) hf
 |assign x=>rw[ho]at hf;exact Ku (h:=h) (hs:=hs) cF hg hF hW (.inr ho) (by simpa only[uT]using hf)
 |pick c x y=>exact Qs cF hg hF hW ho hf
 |alloc e=>exact O1 cF hg hF hW ho hf pM
 |box e x=>exact SO cF hg hF hW ho hf pM
 |build t ps=>exact O3 cF hg hF hW ho hf
 |buildSlice t n ps=>exact H6 cF hg hF hW ho hf pM
 |load t x=>exact Qr ho hf cF hg hF hW ef
 |nilCheck x=>exact Kv cF hg hF hW ho hf
 |binOp op t x y u =>
  rw[ho]at hf;simp only[uT]at hf;split at hf
  ·rename_i r1 h1;cases hf;exact O2 cF hg hF hW ho h1
  ·exact SP cF hg hF hW ho hf
 |unOp u t x=>exact Qt cF hg hF hW ho hf
 |convert s d x=>exact K5 cF hg hF hW ef ho hf
 |makeFunc f first gE=>exact Kt cF hg hF hW ho hf
 |makeSlice t x y=>exact IX cF hg hF hW ho hf pM
 |slice t x lo hi mx=>exact O6 cF hg hF hW ho hf
 |fieldAddr t x f=>exact IV cF hg hF hW ho hf
 |field t x f=>exact O4 cF hg hF hW ho hf
 |indexAddr t x i=>exact IW cF hg hF hW ho hf
 |index t x i=>exact O5 cF hg hF hW ho hf
 |extract x i=>exact K6 cF hg hF hW ho hf
 |call c =>
  cases hc:c.callee with
  |builtin b=>exact K4 cF hg hF hW ef ho hc hf pM
  |value f=>rw[ho]at hf;simp only[uT,hc]at hf;cases hf
  |invoke x m=>rw[ho]at hf;simp only[uT,hc]at hf;cases hf
 |makeMap t q=>exact L4 cF hg hF hW ef pM (by rw[ho]at hf ⊢;exact hf)
 |lookup t x i q=>exact L4 cF hg hF hW ef pM (by rw[ho]at hf ⊢;exact hf)
 |_=>rw[ho]at hf;simp only[uT,Mt]at hf;cases hf
end
end
end Go.Proofs.YtbilkblifgaflaaGreatDoor
