/- Part MB. -/
import Derived.Test.YtbilkblifgaflaaGreatDoorMA
import Derived.IntWalk
import Derived.MapKept
import Derived.WideKeyRuns
set_option linter.unusedSimpArgs false
set_option linter.unusedVariables false
set_option linter.unusedSectionVars false
namespace Go.Proofs.YtbilkblifgaflaaGreatDoor
section
open Go.RowKit
def NQ:Exit→Act→World→Prop:=fun _ _ _=>False
theorem Qdb{P:Program}{o:Oper}{a:Act}{w:World}{K K':Act→World→Prop}{Q:Exit→Act→World→Prop}(h:∀a w,K a w→K' a w)(hh:o.wp P a w K NQ):o.wp P a w K' Q:=by
 unfold Oper.wp at *;generalize(execOp a.eval o).run P w=r at *;cases r with
 |ok nx w' =>
  cases nx <;> simp only[Oper.upon]at hh ⊢ <;>
   first
    |exact h _ _ hh
    | exact Calls.mono hh (fun e w'' he=>by
      cases e with
      |returned v=>exact h _ _ he
      |panicked c=>exact he.elim
      |outgrown=>obtain⟨_,_,hf⟩:=he;exact hf.elim)
    |exact Rows.mono hh (fun _ _ he=>h _ _ he)
 |halt x w'=>cases x <;> simp only[Oper.upon]at hh ⊢ <;> exact hh.elim
section
variable {α β γ : Type} {R R' : α → β → Prop}
theorem Rs.len:∀{xs:List α} {ys:List β},Rs R xs ys→xs.length=ys.length
 | [],[],_=>rfl
 |_ ::xs,_ ::ys,h=>by simp only[List.length_cons];rw[Rs.len h.2]
 | [],_ ::_,h=>h.elim
 |_ ::_,[],h=>h.elim
theorem Rs.get:∀{xs:List α} {ys:List β} {i:Nat} {x:α},Rs R xs ys→xs[i]?=some x→∃y,ys[i]?=some y∧R x y
 | [],_,_,_,_,h=>by simp at h
 |_ ::_,[],_,_,h,_=>h.elim
 |x ::xs,y ::ys,0,_,h,e=>by simp at e;subst e;exact⟨y,rfl,h.1⟩
 |x ::xs,y ::ys,i+1,_,h,e=>by
  obtain⟨z,hz,hr⟩:=Rs.get (i:=i) h.2 (by simpa using e)
  exact⟨z,by simpa using hz,hr⟩
theorem Rs.mono(hR:∀x y,R x y→R' x y):∀{xs:List α} {ys:List β},Rs R xs ys→Rs R' xs ys
 | [],[],_=>trivial
 |_ ::_,_ ::_,h=>⟨hR _ _ h.1,Rs.mono hR h.2⟩
 | [],_ ::_,h=>h.elim
 |_ ::_,[],h=>h.elim
theorem Rs.append:∀{xs xs':List α} {ys ys':List β},Rs R xs ys→Rs R xs' ys'→Rs R (xs++xs') (ys++ys')
 | [],_,[],_,_,h=>h
 |_ ::_,_,_ ::_,_,h,h'=>⟨h.1,Rs.append h.2 h'⟩
 | [],_,_ ::_,_,h,_=>h.elim
 |_ ::_,_,[],_,h,_=>h.elim
theorem Rs.take:∀(n:Nat) {xs:List α} {ys:List β},Rs R xs ys→Rs R (xs.take n) (ys.take n)
 |0,_,_,_=>by simp [Rs]
 |n+1,[],[],_=>by simp [Rs]
 |n+1,_ ::_,_ ::_,h=>⟨h.1,Rs.take n h.2⟩
 |_,[],_ ::_,h=>h.elim
 |_,_ ::_,[],h=>h.elim
theorem Rs.drop:∀(n:Nat) {xs:List α} {ys:List β},Rs R xs ys→Rs R (xs.drop n) (ys.drop n)
 |0,_,_,h=>h
 |n+1,[],[],_=>by simp [Rs]
 |n+1,_ ::_,_ ::_,h=>Rs.drop n h.2
 |_,[],_ ::_,h=>h.elim
 |_,_ ::_,[],h=>h.elim
theorem Rs.Af{f:γ→α}:∀{xs:List γ} {ys:List β},Rs (fun x y=>R (f x) y) xs ys→Rs R (xs.map f) ys
 | [],[],_=>trivial
 |_ ::_,_ ::_,h=>⟨h.1,Rs.Af h.2⟩
 | [],_ ::_,h=>h.elim
 |_ ::_,[],h=>h.elim
theorem Rs.imp_mem:∀{xs:List α} {ys:List β},(∀x∈xs,∀y,R x y→R' x y)→Rs R xs ys→Rs R' xs ys
 | [],[],_,_=>trivial
 |x ::_,_ ::_,hR,h=>⟨hR x (by simp) _ h.1,Rs.imp_mem (fun z hz=>hR z (by simp [hz])) h.2⟩
 | [],_ ::_,_,h=>h.elim
 |_ ::_,[],_,h=>h.elim
theorem bC:∀{a b:List Prop},d_ (a++b)↔d_ a∧d_ b
 | [],b=>by simp [d_]
 |p ::a,b=>by simp only[List.cons_append,d_];rw[bC];exact and_assoc.symm
end
structure Ex (w:World) (M:Nat→Prop) (φ:Pl) (w':World) (M':Nat→Prop) (φ':Pl):Prop where
 blk:∀b,M b→w'.heap[b]?=w.heap[b]?
 sub:∀b,M b→M' b
 pl:∀id p,φ id=some p→φ' id=some p
theorem Ex.refl(w:World)(M:Nat→Prop)(φ:Pl):Ex w M φ w M φ:=⟨fun _ _=>rfl,fun _ h=>h,fun _ _ h=>h⟩
section
variable {w w' : World} {M M' : Nat → Prop} {φ φ' : Pl}
theorem IR.mono(hb:∀b,M b→w'.heap[b]?=w.heap[b]?)(hM:∀b,M b→M' b){l:Lf}{v:Value}(h:IR w M l v):IR w' M' l v:=by
 induction h with
 |any v h=>exact .any v h
 |int k n=>exact .int k n
 |bool b=>exact .bool b
 |str s=>exact .str s
 |Uv=>exact .Uv
 |dO=>exact .dO
 |fn f=>exact .fn f
 |ip cells off b o vs hm hc _ ih=>exact .ip cells off b o vs (hM b hm) (fun i l hl=>(World.cell?_of_block (hb b hm)).trans (hc i l hl)) ih
 |TG cl sz a cap h=>exact .TG cl sz a cap h
 |sl cl sz rows b o cap vs hm hl IM hs hc _ ih=>exact .sl cl sz rows b o cap vs (hM b hm) hl IM hs (fun i c j l h1 h2=>(World.cell?_of_block (hb b hm)).trans (hc i c j l h1 h2)) ih
theorem IR.one{l:Lf}{v:Value}(h:IR w M l v):v.oneCell'=true:=by cases h <;> first|rfl|assumption
theorem zH.mono(he:Ex w M φ w' M' φ'){l:Lf}{v:Value}(h:zH w M φ l v):zH w' M' φ' l v:= by
  cases l <;> first
    |exact IR.mono he.blk he.sub h
    |(obtain⟨b,h1,h2⟩:= h;exact⟨b,he.pl _ _ h1,h2⟩)
    |(obtain⟨b,C,h1,h2⟩:= h;exact⟨b,C,he.pl _ _ h1,h2⟩)
    | (rcases h with ⟨b, C, h1, h2⟩ | ⟨h1, h2⟩
       · exact .inl ⟨b,C,he.pl _ _ h1,h2⟩
       · exact .inr ⟨he.pl _ _ h1,h2⟩)
theorem zH.one{l:Lf}{v:Value}(h:zH w M φ l v):v.oneCell'=true:=by
 cases l <;> first
  |exact IR.one h
  |(obtain⟨b,h1,rfl⟩:=h;rfl)
  |(obtain⟨b,C,h1,rfl⟩:=h;rfl)
  |(rcases h with⟨b,C,h1,rfl,_⟩|⟨h1,_,_,a,rfl⟩ <;> rfl)
theorem QN{l:Lf}{v:Value}(hn:WT l=false):LR w M φ l v=zH w M φ l v:=by
 cases l <;> first|rfl|cases hn
theorem LR.split{l:Lf}{v:Value}(h:LR w M φ l v):(WT l=false∧zH w M φ l v)∨∃f jW vs,l=.fn f jW∧v=.func f #[] (List.toArray vs)∧Rs (zH w M φ) jW vs:=by
 cases hf:WT l with
 |false=>rw[QN hf]at h;exact .inl ⟨rfl,h⟩
 |true =>
  cases l <;> first|cases hf|skip
  obtain⟨vs,h1,h2⟩:=h;exact .inr ⟨_,_,vs,rfl,h1,h2⟩
theorem LR.mono(he:Ex w M φ w' M' φ'){l:Lf}{v:Value}(h:LR w M φ l v):LR w' M' φ' l v:=by
 rcases h.split with⟨hf,h0⟩|⟨f,jW,vs,rfl,rfl,h2⟩
 ·rw[QN hf];exact zH.mono he h0
 ·exact⟨vs,rfl,h2.mono fun _ _ h=>zH.mono he h⟩
theorem LR.one{l:Lf}{v:Value}(h:LR w M φ l v):v.oneCell'=true:=by
 rcases h.split with⟨hf,h0⟩|⟨f,jW,vs,rfl,rfl,h2⟩
 ·exact zH.one h0
 ·rfl
theorem CR.mono(he:Ex w M φ w' M' φ'){c:Cm}{v:Value}(h:CR w M φ c v):CR w' M' φ' c v:=by
 cases c with
 |one l=>exact LR.mono he h
 |agg ls=>obtain⟨vs,h1,h2⟩:=h;exact⟨vs,h1,h2.mono fun _ _ h=>LR.mono he h⟩
theorem AR.mono(he:Ex w M φ w' M' φ'){c:AV}{v:Value}(h:AR w M φ c v):AR w' M' φ' c v:=by
 cases c with
 |cm c=>exact CR.mono he h
 |o5 cs=>obtain⟨vs,h1,h2⟩:=h;exact⟨vs,h1,h2.mono fun _ _ h=>CR.mono he h⟩
 |gd p c=>exact⟨fun hp=>CR.mono he (h.1 hp),h.2⟩
 |RO=>trivial
 |boo=>exact h
theorem LR.S2{l:Lf}{v:Value}(hi:S3 l=true)(h:LR w M φ l v):IR w M l v:=by
 cases l <;> first|exact h|cases hi|skip
 rename_i f jW;cases jW with
 |cons x r=>cases hi
 |nil =>
  obtain⟨vs,rfl,h2⟩:=h;cases vs with
  |nil=>exact IR.fn f
  |cons y s=>exact h2.elim
theorem IR.lr{l:Lf}{v:Value}(h:IR w M l v):LR w M φ l v:=by
 cases h with
 |any v h=>exact IR.any v h
 |int k n=>exact IR.int k n
 |bool b=>exact IR.bool b
 |str s=>exact IR.str s
 |Uv=>exact IR.Uv
 |dO=>exact IR.dO
 |fn f=>exact⟨[],rfl,trivial⟩
 |ip cells off b o vs hm hc h=>exact IR.ip cells off b o vs hm hc h
 |TG cl sz a cap h=>exact IR.TG cl sz a cap h
 |sl cl sz rows b o cap vs hm hl IM hs hc h=>exact IR.sl cl sz rows b o cap vs hm hl IM hs hc h
theorem zH.lr{l:Lf}{v:Value}(h:zH w M φ l v):LR w M φ l v:=by
 cases hf:WT l with
 |false=>rw[QN hf];exact h
 |true=>cases l <;> first|exact IR.lr h|cases hf
theorem CR.cells{c:Cm}{v:Value}(h:CR w M φ c v):Rs (LR w M φ) c.cells v.cells.toList:=by
 cases c with
 |one l =>
  have h1:=LR.one h;have:v.cells=#[v]:=by cases v <;> first|rfl|cases h1
  rw[this];exact⟨h,trivial⟩
 |agg ls=>obtain⟨vs,rfl,h2⟩:=h;simpa [Value.cells,Cm.cells]using h2
theorem Rs.Td{ls:List Lf}{vs:List Value}(h:Rs (LR w M φ) ls vs):∀v∈vs,v.oneCell'=true:=by
 intro v hv;obtain⟨i,hi⟩:=List.mem_iff_getElem?.1 hv;have hl:=h.len;have mj:i<vs.length:=(List.getElem?_eq_some_iff.1 hi).1;obtain⟨y,hy,hr⟩:=h.get (List.getElem?_eq_getElem (show i<ls.length by omega))
 rw[hi]at hy;cases hy;exact LR.one hr
end
section
variable {w : World} {M : Nat → Prop} {φ : Pl} {L : Nat → AV} {a : Act}
theorem MX{v:Value}{l:Lf}(h:ofConst v=some l):LR w M φ l v:=by
 unfold ofConst at h;split at h
 ·cases h;exact IR.int _ _
 ·cases h;exact IR.bool _
 ·cases h;exact IR.str _
 ·cases h;exact IR.Uv
 ·cases h;exact IR.dO
 ·cases h;exact IR.any _ rfl
 ·rename_i f first jW;cases hc:(first.size == 0&&jW.size == 0)with
  |false=>rw[hc]at h;cases h
  |true =>
   rw[hc]at h;cases h;simp only[Bool.and_eq_true,beq_iff_eq]at hc;obtain⟨h1,h2⟩:=hc;obtain rfl:=Array.eq_empty_of_size_eq_zero h1;obtain rfl:=Array.eq_empty_of_size_eq_zero h2;exact⟨[],rfl,trivial⟩
 ·cases h
theorem J4:∀{vs:List Value} {ls:List Lf},Fo vs=some ls→Rs (LR w M φ) ls vs
 | [],_,h=>by cases h;trivial
 |v ::vs,ls,h=>by
  simp only[Fo]at h;split at h
  ·rename_i l ls' h1 h2;cases h;exact⟨MX h1,J4 h2⟩
  ·cases h
theorem Qas{v:Value}{c:Cm}(h:Wv v=some c):CR w M φ c v:=by
 unfold Wv at h;split at h
 ·rename_i cs;cases h1:Fo cs.toList with
  |none=>rw[h1]at h;cases h
  |some ls=>rw[h1]at h;cases h;exact⟨cs.toList,rfl,J4 h1⟩
 ·cases h1:ofConst v with
  |none=>rw[h1]at h;cases h
  |some l=>rw[h1]at h;cases h;exact MX h1
theorem Mx(hF:∀t,AR w M φ (L t) (a.tmps.getD t undef))(x:Operand):AR w M φ (Au L x) (a.eval x):=by
 cases x with
 |tmp t=>exact hF t
 |const v =>
  unfold Au
  dsimp only
  split
  ·rename_i c h;exact Qas h
  ·trivial
 |func f=>exact⟨[],rfl,trivial⟩
 |global g=>trivial
theorem Qij{g:Prop}{v:AV}{cv:Value}{c:Cm}{o:List Prop}(h:rO g v=some (c,o))(hv:AR w M φ v cv)(ho:d_ o)(hg:g):CR w M φ c cv:=by
 cases v with
 |cm c'=>cases h;exact hv
 |gd p c'=>cases h;exact hv.1 (ho.1 hg)
 |o5 cs=>cases h
 |RO=>cases h
 |boo=>cases h
theorem da{g:Prop}{x:Operand}{c:Cm}{o:List Prop}(hF:∀t,AR w M φ (L t) (a.tmps.getD t undef))(h:rO g (Au L x)=some (c,o))(ho:d_ o)(hg:g):CR w M φ c (a.eval x):=
 Qij h (Mx hF x) ho hg
theorem xy{g:Prop}(hF:∀t,AR w M φ (L t) (a.tmps.getD t undef))(hg:g):∀{xs:List Operand} {cs:List Cm} {o:List Prop},L8 L g xs=some (cs,o)→d_ o→Rs (CR w M φ) cs (xs.map a.eval)
 | [],_,_,h,_=>by cases h;trivial
 |x ::xs,cs,o,h,ho=>by
  simp only[L8]at h;split at h
  ·rename_i c o1 Ug o2 h1 h2;cases h;rw[bC]at ho;exact⟨da hF h1 ho.1 hg,xy hF hg h2 ho.2⟩
  ·cases h
theorem K2{g:Prop}(hF:∀t,AR w M φ (L t) (a.tmps.getD t undef))(hg:g):∀{xs:List (Nat×Operand)} {cs:List (Nat×List Lf)} {o:List Prop},Tm L g xs=some (cs,o)→d_ o→
  Rs (fun(p:Nat×List Lf) (q:Nat×Value)=>p.1=q.1∧Rs (LR w M φ) p.2 q.2.cells.toList) cs (xs.map fun(i,x)=>(i,a.eval x))
 | [],_,_,h,_=>by cases h;trivial
 |(i,x) ::xs,cs,o,h,ho=>by
  simp only[Tm]at h;split at h
  ·rename_i c o1 Ug o2 h1 h2;cases h;rw[bC]at ho;exact⟨⟨rfl,(da hF h1 ho.1 hg).cells⟩,K2 hF hg h2 ho.2⟩
  ·cases h
def QmS(w:World)(M:Nat→Prop)(φ:Pl)(a:Act):Option Operand→Option Cm→Prop
 |none,none=>True
 |some x,some c=>CR w M φ c (a.eval x)
 |_,_=>False
theorem W8{g:Prop}(hF:∀t,AR w M φ (L t) (a.tmps.getD t undef))(hg:g){x:Option Operand}{c:Option Cm}{o:List Prop}(h:QgY L g x=some (c,o))(ho:d_ o):QmS w M φ a x c:=by
 cases x with
 |none=>cases h;trivial
 |some x =>
  simp only[QgY]at h;cases h1:rO g (Au L x)with
  |none=>rw[h1]at h;cases h
  |some p=>obtain⟨c',o'⟩:=p;rw[h1]at h;cases h;exact da hF h1 ho hg
end
section
variable {w w' : World} {M M' : Nat → Prop} {φ φ' : Pl} {Γ : bn} {h h' : Nat → Option Ob}
theorem OC.mono{id:Nat}{ob:Ob}(he:Ex w M φ w' M' φ')(hO:OC w M φ id ob)(QiC:∀b C,φ id=some (some (b,C))→w'.heap[b]?=w.heap[b]?):OC w' M' φ' id ob:=by
 obtain⟨h0,h1⟩:=hO;refine⟨h0,?_⟩;cases hφ:φ id with
 |none=>rw[hφ]at h1;exact h1.elim
 |some p =>
  rw[he.pl id p hφ];rw[hφ]at h1;cases p with
  |none=>exact h1
  |some bc =>
   obtain⟨b,C⟩:=bc;obtain⟨cur,g1,g2,g3,g4,g5,g6⟩:=h1;refine⟨cur,(QiC b C hφ).trans g1,g2,g3,g4,g5,fun i c hc=>⟨(g6 i c hc).1,fun j l hl=>?_⟩⟩
   obtain⟨v,hv,hr⟩:=(g6 i c hc).2 j l hl;refine⟨v,hv,?_⟩;split
   ·rename_i hb;rw[if_pos hb]at hr;exact LR.mono he hr
   ·rename_i hb;rw[if_neg hb]at hr;exact IR.mono he.blk he.sub hr
theorem Eu.mono(hb:∀b,M b→w'.heap[b]?=w.heap[b]?)(hM:∀b,M b→M' b){row:List Lf}{e:MapEntry}(h:Eu w M row e):Eu w' M' row e:=by
 obtain⟨v,ks,h1,h2,h3⟩:=h;refine⟨v,ks,h1,h2.mono hb hM,?_⟩;rcases h3 with⟨k,h4,h5⟩|⟨h4,vs,h5,h6⟩
 ·exact .inl ⟨k,h4,h5.mono hb hM⟩
 ·exact .inr ⟨h4,vs,h5,h6.mono fun _ _ h=>h.mono hb hM⟩
theorem OR.mono{id:Nat}{ob:Ob}(he:Ex w M φ w' M' φ')(hO:OR w M φ id ob)(QiC:∀b C,φ id=some (some (b,C))→w'.heap[b]?=w.heap[b]?):OR w' M' φ' id ob:=by
 rcases hO with hO|⟨hb,rs,b,es,TZ,h1,h2,h3,h4⟩
 ·exact .inl (hO.mono he QiC)
 ·exact .inr ⟨hb,rs,b,es,TZ,h1,he.pl _ _ h2,(QiC b 1 h2).trans h3,h4.mono fun _ _ h=>Eu.mono he.blk he.sub h⟩
theorem OR.oc{id:Nat}{ob:Ob}(hO:OR w M φ id ob)(h:ob.box=false∨∃c,ob.rows=[c]):OC w M φ id ob:=by
 rcases hO with hO|⟨hb,rs,b,es,TZ,h1,-⟩
 ·exact hO
 ·rcases h with h|⟨c,h⟩
  ·rw[hb]at h;cases h
  ·rw[h1]at h;cases h
theorem OR.Ql7{id:Nat}{ob:Ob}(hO:OR w M φ id ob)(h:φ id=none):False:=by
 rcases hO with⟨-,hO⟩|⟨-,rs,b,es,TZ,-,h2,-⟩
 ·rw[h]at hO;exact hO
 ·rw[h]at h2;cases h2
theorem OR.boxed{id:Nat}{ob:Ob}(hO:OR w M φ id ob)(hb:ob.box=true):∃b,φ id=some (some (b,1)):=by
 rcases hO with⟨-,hO⟩|⟨-,rs,b,es,TZ,-,h2,-⟩
 ·cases hφ:φ id with
  |none=>rw[hφ]at hO;exact hO.elim
  |some p =>
   rw[hφ]at hO;cases p with
   |none=>rw[hO.2]at hb;cases hb
   |some bc =>
    obtain⟨b,C⟩:=bc;obtain⟨cur,q1,q2,q3,q4,q5,q6⟩:=hO;rw[q5 hb];exact⟨b,rfl⟩
 ·exact⟨b,h2⟩
theorem OC.Qkt{id:Nat}{ob:Ob}(hO:OC w M φ id ob)(hb:ob.box=true):isMap ob=false:=by
 have hO1:OR w M φ id ob:=.inl hO;obtain⟨b,hφ⟩:=hO1.boxed hb;obtain⟨_,hO⟩:=hO;rw[hφ]at hO;obtain⟨cur,g1,g2,g3,g4,g5,g6⟩:=hO;unfold isMap KV;split
 ·rename_i r hr;rw[hr]at g3;simp at g3
 ·rfl
theorem OR.ren{id Z5:Nat}{ob:Ob}(hO:OR w M φ id ob)(e:φ Z5=φ id):OR w M φ Z5 ob:=by
 rcases hO with⟨h0,hO⟩|⟨hb,rs,b,es,TZ,h1,h2,h3⟩
 ·exact .inl ⟨h0,by rw[e];exact hO⟩
 ·exact .inr ⟨hb,rs,b,es,TZ,h1,e.trans h2,h3⟩
theorem Wd.less(hW:Wd Γ φ M h w)(hs:∀id ob,h' id=some ob→h id=some ob):Wd Γ φ M h' w:=
 ⟨fun id ob e=>hW.ic id ob (hs id ob e),fun i j oi oj b Ci Cj hi hj=>hW.inj i j oi oj b Ci Cj (hs _ _ hi) (hs _ _ hj),hW.mlt,hW.m0,hW.OE,fun id ob b C e=>hW.own id ob b C (hs id ob e),hW.MH,hW.os,hW.tape,hW.output,hW.size,hW.IN⟩
theorem Wd.grow(hW:Wd Γ φ M h w)(hb:Below w.heap.size w w'):Wd Γ φ M h w':=by
 have he:Ex w M φ w' M φ:=⟨fun b hm=>hb.block b (hW.mlt b hm),fun _ h=>h,fun _ _ h=>h⟩
 exact⟨fun id ob e=>(hW.ic id ob e).mono he fun b C hφ=>hb.block b (hW.own id ob b C e hφ).2.1,hW.inj,fun b hm=>Nat.lt_of_lt_of_le (hW.mlt b hm) hb.size,hW.m0,hW.OE,
  fun id ob b C e hφ=>⟨(hW.own id ob b C e hφ).1,Nat.lt_of_lt_of_le (hW.own id ob b C e hφ).2.1 hb.size,(hW.own id ob b C e hφ).2.2⟩,
  fun b mj hn=>(hb.block b (Nat.lt_of_lt_of_le mj hW.size)).trans (hW.MH b mj hn),hb.os.trans hW.os,hb.tape.trans hW.tape,hb.output.trans hW.output,Nat.le_trans hW.size hb.size,hW.IN⟩
theorem Wd.Wz(hW:Wd Γ φ M h w)(hb:Below w.heap.size w w'):Ex w M φ w' M φ:=⟨fun b hm=>hb.block b (hW.mlt b hm),fun _ h=>h,fun _ _ h=>h⟩
def K9(φ:Pl)(id:Nat)(p:Option (Nat×Nat)):Pl:=fun i=>if i=id then some p else φ i
theorem fB(φ:Pl)(id:Nat)(p:Option (Nat×Nat)):K9 φ id p id=some p:=if_pos rfl
theorem tg{φ:Pl}{id i:Nat}(p:Option (Nat×Nat))(sR:i≠id):K9 φ id p i=φ i:=if_neg sR
theorem wa{φ:Pl}{id:Nat}(p:Option (Nat×Nat))(hn:φ id=none):∀i q,φ i=some q→K9 φ id p i=some q:=fun i q hq=>by
 rw[tg];· exact hq
 ·rintro rfl;rw[hn]at hq;cases hq
theorem Wd.new(hW:Wd Γ φ M h w){id:Nat}(ob:Ob){b C:Nat}(hφ:φ id=none)(hh:h id=none)(hb:Below w.heap.size w w')(hbs:w.heap.size≤b)(hbl:b<w'.heap.size)
  (hO:OR w' M (K9 φ id (some (b,C))) id ob):Wd Γ (K9 φ id (some (b,C))) M (fun i=>if i=id then some ob else h i) w':=by
 have sN:=hW.grow hb;have he:Ex w' M φ w' M (K9 φ id (some (b,C))):=⟨fun _ _=>rfl,fun _ h=>h,wa _ hφ⟩
 have hpi:∀i o,h i=some o→i≠id:=fun i o e=>by rintro rfl;rw[hh]at e;cases e
 refine⟨fun i o e=>?_,fun i j oi oj c Ci Cj hi hj pi pj=>?_,sN.mlt,sN.m0,sN.OE,fun i o c C' e p=>?_,sN.MH,sN.os,sN.tape,sN.output,sN.size,fun p hp=>he.pl _ _ (hW.IN p hp)⟩
 ·by_cases hi:i=id
  ·subst hi;rw[if_pos rfl]at e;cases e;exact hO
  ·rw[if_neg hi]at e;exact(sN.ic i o e).mono he fun _ _ _=>rfl
 ·have key:∀{k:Nat} {o:Ob} {c Ck:Nat},k≠id→h k=some o→K9 φ id (some (b,C)) k=some (some (c,Ck))→c<w.heap.size:=fun hk ho hp=>by
   rw[tg _ hk]at hp;exact(hW.own _ _ _ _ ho hp).2.1
  by_cases Uo:i=id <;> by_cases Vk:j=id
  ·rw[Uo,Vk]
  ·subst Uo;rw[fB]at pi;cases pi;rw[if_neg Vk]at hj;have:=key Vk hj pj;omega
  ·subst Vk;rw[fB]at pj;cases pj;rw[if_neg Uo]at hi;have:=key Uo hi pi;omega
  ·rw[if_neg Uo]at hi;rw[if_neg Vk]at hj;rw[tg _ Uo]at pi;rw[tg _ Vk]at pj;exact hW.inj i j oi oj c Ci Cj hi hj pi pj
 ·by_cases hi:i=id
  ·subst hi;rw[fB]at p;cases p;exact⟨fun hm=>by have:=hW.mlt _ hm;omega,hbl,.inr (Nat.le_trans hW.size hbs)⟩
  ·rw[if_neg hi]at e;rw[tg _ hi]at p;exact sN.own i o c C' e p
theorem Wd.MV(hW:Wd Γ φ M h w){id:Nat}(ob:Ob)(hφ:φ id=none)(hh:h id=none)(hr:ob.rows=[])(tS:ob.box=false)(hs:0<ob.sz):
  Wd Γ (K9 φ id none) M (fun i=>if i=id then some ob else h i) w:=by
 have he:Ex w M φ w M (K9 φ id none):=⟨fun _ _=>rfl,fun _ h=>h,wa _ hφ⟩
 refine⟨fun i o e=>?_,fun i j oi oj c Ci Cj hi hj pi pj=>?_,hW.mlt,hW.m0,hW.OE,fun i o c C' e p=>?_,hW.MH,hW.os,hW.tape,hW.output,hW.size,fun p hp=>he.pl _ _ (hW.IN p hp)⟩
 ·by_cases hi:i=id
  ·subst hi;rw[if_pos rfl]at e;cases e;refine .inl ⟨hs,?_⟩;rw[fB];exact⟨hr,tS⟩
  ·rw[if_neg hi]at e;exact(hW.ic i o e).mono he fun _ _ _=>rfl
 ·by_cases Uo:i=id
  ·subst Uo;rw[fB]at pi;cases pi
  ·by_cases Vk:j=id
   ·subst Vk;rw[fB]at pj;cases pj
   ·rw[if_neg Uo]at hi;rw[if_neg Vk]at hj;rw[tg _ Uo]at pi;rw[tg _ Vk]at pj;exact hW.inj i j oi oj c Ci Cj hi hj pi pj
 ·by_cases hi:i=id
  ·subst hi;rw[fB]at p;cases p
  ·rw[if_neg hi]at e;rw[tg _ hi]at p;exact hW.own i o c C' e p
theorem Wd.QjH(hW:Wd Γ φ M h w){id:Nat}{ob CK:Ob}{b C:Nat}(hh:h id=some ob)(hφ:φ id=some (some (b,C)))(QaO:∀k,k≠b→w'.heap[k]?=w.heap[k]?)(nQ:w'.heap.size=w.heap.size)
  (hos:w'.os=w.os) (htp:w'.tape=w.tape) (PZ:w'.output=w.output) (hO:OR w' M φ id CK):Wd Γ φ M (fun i=>if i=id then some CK else h i) w':=by
 obtain⟨hm,mj,YY⟩:=hW.own id ob b C hh hφ;have he:Ex w M φ w' M φ:=⟨fun c hc=>QaO c fun e=>hm (e▸hc),fun _ h=>h,fun _ _ h=>h⟩
 have Qgn:∀i o,(fun i=>if i=id then some CK else h i) i=some o→∃o',h i=some o':=fun i o e=>by
  by_cases hi:i=id
  ·subst hi;exact⟨ob,hh⟩
  ·simp only[if_neg hi]at e;exact⟨o,e⟩
 refine⟨fun i o e=>?_,fun i j oi oj c Ci Cj hi hj pi pj=>?_,fun c hc=>by rw[nQ];exact hW.mlt c hc,hW.m0,hW.OE,fun i o c C' e p=>?_,fun c hc hn=>?_,hos.trans hW.os,htp.trans hW.tape,PZ.trans hW.output,by rw[nQ];exact hW.size,hW.IN⟩
 ·by_cases hi:i=id
  ·subst hi;simp only[if_true]at e;cases e;exact hO
  ·simp only[if_neg hi]at e;exact(hW.ic i o e).mono he fun c C' hp=>QaO c fun hc=>hi (hW.inj i id o ob b C' C e hh (hc▸hp) hφ)
 ·obtain⟨oi',Uo⟩:=Qgn i oi hi;obtain⟨oj',Vk⟩:=Qgn j oj hj;exact hW.inj i j oi' oj' c Ci Cj Uo Vk pi pj
 ·obtain⟨o',ho'⟩:=Qgn i o e;rw[nQ];exact hW.own i o' c C' ho' p
 ·rw[QaO c fun e=>?_]
  ·exact hW.MH c hc hn
  ·subst e;rcases YY with h1|h1
   ·exact hn h1
   ·omega
end
end
section
open Go.RowKit
def VQ(h:Nat→Option Ob)(base:Nat)(news:List Ob):Nat→Option Ob:=fun id=>if base≤id∧id<base+news.length then news[id-base]? else h id
theorem yG(h:Nat→Option Ob)(base:Nat):VQ h base []=h:=by
 funext id;unfold VQ;rw[if_neg (fun h=>by have:=h.2;simp at this;omega)]
theorem Xc(h:Nat→Option Ob)(base:Nat)(ob:Ob):VQ h base [ob]=fun i=>if i=base then some ob else h i:=by
 funext id;unfold VQ
 by_cases hi:id=base
 ·subst hi;simp
 ·rw[if_neg hi,if_neg (by simp only[List.length_singleton];omega)]
def Yd(P:Program)(Γ:bn)(φ:Pl)(M:Nat→Prop)(hD:Nat→Option Ob)(w:World)(base:Nat)(r:Pu)(run:Result Next):Prop:=
 ∃v w' φ',run=.ok (.value v) w'∧AR w' M φ' r.v v∧Wd Γ φ' M (VQ hD base r.news) w'∧(∀id p,φ id=some p→φ' id=some p)∧
  (∀id,φ' id≠none→φ id≠none∨(base≤id∧id<base+r.news.length))∧(∀b,M b→w'.heap[b]?=w.heap[b]?)
section
variable {P : Program} {Γ : bn} {φ : Pl} {M : Nat → Prop} {hD h : Nat → Option Ob} {w : World} {base : Nat} {L : Nat → AV} {a : Act} {g : Prop} {hs : List Hint} {r : Pu} {o : Oper}
theorem Yd.val{run:Result Next}{v:Value}(hr:run=.ok (.value v) w)(hn:r.news=[])(hv:AR w M φ r.v v)(hW:Wd Γ φ M hD w):Yd P Γ φ M hD w base r run:=
 ⟨v,w,φ,hr,hv,by rw[hn,yG];exact hW,fun _ _ h=>h,fun _ h=>.inl h,fun _ _=>rfl⟩
theorem Yd.grow{run:Result Next}{v:Value}{w':World}(hr:run=.ok (.value v) w')(hn:r.news=[])(hb:Below w.heap.size w w')(hv:AR w' M φ r.v v)(hW:Wd Γ φ M hD w):Yd P Γ φ M hD w base r run:=
 ⟨v,w',φ,hr,hv,by rw[hn,yG];exact hW.grow hb,fun _ _ h=>h,fun _ h=>.inl h,fun b hm=>hb.block b (hW.mlt b hm)⟩
theorem Yd.new{run:Result Next}{v:Value}{w':World}{ob:Ob}{b C:Nat}(hr:run=.ok (.value v) w')(hn:r.news=[ob])(hW:Wd Γ φ M hD w)(tY:∀id,base≤id→id<base+r.news.length→φ id=none∧hD id=none)
  (hb:Below w.heap.size w w') (hbs:w.heap.size≤b) (hbl:b<w'.heap.size) (hO:OR w' M (K9 φ base (some (b,C))) base ob) (hv:AR w' M (K9 φ base (some (b,C))) r.v v):Yd P Γ φ M hD w base r run:=by
 have hf:=tY base (Nat.le_refl _) (by rw[hn];simp)
 refine⟨v,w',K9 φ base (some (b,C)),hr,hv,?_,wa _ hf.1,fun id hid=>?_,fun c hm=>hb.block c (hW.mlt c hm)⟩
 ·rw[hn,Xc];exact hW.new ob hf.1 hf.2 hb hbs hbl hO
 ·by_cases hi:id=base
  ·exact .inr (by rw[hi,hn];simp)
  ·rw[tg _ hi]at hid;exact .inl hid
theorem Yd.MV{run:Result Next}{v:Value}{w':World}{ob:Ob}(hr:run=.ok (.value v) w')(hn:r.news=[ob])(hW:Wd Γ φ M hD w)(tY:∀id,base≤id→id<base+r.news.length→φ id=none∧hD id=none)
  (hb:Below w.heap.size w w') (h1:ob.rows=[]) (h2:ob.box=false) (h3:0<ob.sz) (hv:AR w' M (K9 φ base none) r.v v):Yd P Γ φ M hD w base r run:=by
 have hf:=tY base (Nat.le_refl _) (by rw[hn];simp)
 refine⟨v,w',K9 φ base none,hr,hv,?_,wa _ hf.1,fun id hid=>?_,fun c hm=>hb.block c (hW.mlt c hm)⟩
 ·rw[hn,Xc];exact(hW.grow hb).MV ob hf.1 hf.2 h1 h2 h3
 ·by_cases hi:id=base
  ·exact .inr (by rw[hi,hn];simp)
  ·rw[tg _ hi]at hid;exact .inl hid
theorem w7(w:World)(o:Obj):Below w.heap.size w (w.alloc o):=(Below.refl _ _).alloc (Nat.le_refl _) o
theorem ra{t:TypeId}{n:Nat}(h:KI P t=some n):∃i,P.info? t=some i∧i.size=n:=by
 unfold KI at h;cases hi:P.info? t with
 |none=>rw[hi]at h;cases h
 |some i=>rw[hi]at h;cases h;exact⟨i,rfl,rfl⟩
theorem QL{t:TypeId}{b:Bool}(h:IJ P t=some b):∃d,P.underlying t=some d∧d.isRow=b:=by
 unfold IJ at h;cases hi:P.underlying t with
 |none=>rw[hi]at h;cases h
 |some d=>rw[hi]at h;cases h;exact⟨d,rfl,rfl⟩
theorem w6{t:TypeId}{z:List Lf}(h:Mv P t=some z):∃i zv,P.info? t=some i∧i.zero=some zv∧zv.cells.size=i.size∧0<i.size∧Rs (LR w M φ) z zv.cells.toList∧z.length=i.size:=by
 unfold Mv at h;split at h
 ·rename_i i hi;split at h
  ·rename_i zv hz;cases hc:(zv.cells.size == i.size&&!(i.size == 0))with
   |false=>rw[hc]at h;cases h
   |true =>
    rw[hc]at h;simp only[Bool.and_eq_true,beq_iff_eq,Bool.not_eq_true',beq_eq_false_iff_ne]at hc;have Pv:=J4 (w:=w) (M:=M) (φ:=φ) h;exact⟨i,zv,hi,hz,hc.1,by omega,Pv,by rw[Pv.len,←hc.1];simp⟩
  ·cases h
 ·cases h
theorem mf{t e:TypeId}(h:sv P t=some e):P.underlying t=some (.slice e):=by
 unfold sv at h;split at h
 ·rename_i e' he;cases h;exact he
 ·cases h
theorem K7{t:TypeId}{d:TypeDesc}(hu:P.underlying t=some d)(w:World):(isAgg t).run P w=.ok d.isRow w:=by
 unfold isAgg;rw[Sem.run_bind,run_underlying hu w];cases d <;> rfl
theorem run_sizeOf{t:TypeId}{i:TypeInfo}(hi:P.info? t=some i)(w:World):(sizeOf t).run P w=.ok i.size w:=by simp [sizeOf,typeInfo,hi]
theorem QaC{R:Lf→Value→Prop}{b:Nat}:∀(ls:List Lf) (k:Nat),(∀(i:Nat) (l:Lf),ls[i]?=some l→∃v,w.cell? ⟨b,k+i,none⟩=some v∧R l v)→∃vs,Rs R ls vs∧w.rangeAt b k vs
 | [],_,_=>⟨[],trivial,fun j v h=>by simp at h⟩
 |l ::ls,k,h=>by
  obtain⟨v,hv,hr⟩:=h 0 l rfl;obtain⟨vs,h1,h2⟩:=QaC ls (k+1) fun i l' hl=>by
   obtain⟨v,hv,hr⟩:=h (i+1) l' (by simpa using hl)
   exact⟨v,by rw[show k+1+i=k+(i+1) by omega];exact hv,hr⟩
  refine⟨v ::vs,⟨hr,h1⟩,fun j u hj=>?_⟩
  cases j with
  |zero=>simp at hj;subst hj;exact hv
  |succ j=>rw[show k+(j+1)=k+1+j by omega];exact h2 j u (by simpa using hj)
theorem GZ{t:TypeId}{n:Nat}{TD:Bool}{b k off:Nat}{cells:List Lf}{c:Cm}(ht:KI P t=some n)(hr:IJ P t=some TD)(hp:wv TD n off cells=some c)
  (hc:∀(i:Nat) (l:Lf),cells[i]?=some l→∃v,w.cell? ⟨b,k+i,none⟩=some v∧LR w M φ l v):∃v,(loadVar t ⟨b,k+off,none⟩).run P w=.ok v w∧CR w M φ c v:=by
 obtain⟨i,hi,nQ⟩:=ra ht;obtain⟨d,hu,hd⟩:=QL hr;unfold wv at hp;cases TD with
 |true =>
  simp only[cond_true]at hp;cases hl:(((cells.drop off).take n).length == n)with
  |false=>rw[hl]at hp;cases hp
  |true =>
   rw[hl]at hp;cases hp;have PY:((cells.drop off).take n).length=n:=by simpa using hl
   obtain⟨vs,h1,h2⟩:=QaC (w:=w) (R:=LR w M φ) (b:=b) ((cells.drop off).take n) (k+off) fun j l hj=>by
    have hj2:cells[off+j]?=some l:=by
     rw[List.getElem?_take]at hj;split at hj
     ·rw[List.getElem?_drop]at hj;exact hj
     ·cases hj
    obtain⟨v,hv,hr⟩:=hc _ _ hj2;exact⟨v,by rw[show k+off+j=k+(off+j) by omega];exact hv,hr⟩
   exact⟨_,run_loadVar_mid w b (k+off) t vs d h2 hu hd (by rw[hi,Option.map_some,nQ,←h1.len,PY]),vs,rfl,h1⟩
 |false =>
  simp only[cond_false]at hp;cases hl:cells[off]? with
  |none=>rw[hl]at hp;cases hp
  |some l =>
   rw[hl]at hp;cases hp;obtain⟨v,hv,hr⟩:=hc _ _ hl;refine⟨v,?_,hr⟩;unfold loadVar;rw[Sem.run_bind,K7 hu w,hd];simp [hv]
theorem OR.cell{id:Nat}{ob:Ob}{b C i:Nat}{c:List Lf}(hO:OR w M φ id ob)(hoc:ob.box=false∨∃c,ob.rows=[c])(hφ:φ id=some (some (b,C)))(hc:ob.rows[i]?=some c):
  ∀(j:Nat) (l:Lf),c[j]?=some l→∃v,w.cell? ⟨b,i*ob.sz+j,none⟩=some v∧(if ob.box then LR w M φ l v else IR w M l v):=by
 obtain⟨_,h1⟩:=hO.oc hoc;rw[hφ]at h1;obtain⟨cur,g1,g2,g3,g4,g5,g6⟩:=h1;intro j l hl;obtain⟨v,hv,hr⟩:=(g6 i c hc).2 j l hl;exact⟨v,by simp only[World.cell?,g1];simpa using hv,hr⟩
theorem OR.Yl{id:Nat}{ob:Ob}{b C i:Nat}{c:List Lf}(hO:OR w M φ id ob)(hoc:ob.box=false∨∃c,ob.rows=[c])(hφ:φ id=some (some (b,C)))(hc:ob.rows[i]?=some c):
  ∀(j:Nat) (l:Lf),c[j]?=some l→∃v,w.cell? ⟨b,i*ob.sz+j,none⟩=some v∧LR w M φ l v:=fun j l hl=>by
 obtain⟨v,hv,hr⟩:=hO.cell hoc hφ hc j l hl;refine⟨v,hv,?_⟩;split at hr
 ·exact hr
 ·exact IR.lr hr
theorem Qbr{t:TypeId}{x:Operand}(ho:o.op=.load t x)(hf:Av P h base g L o.op hs=some r)(dX:d_ r.ic)(hg:g)(hF:∀t,AR w M φ (L t) (a.tmps.getD t undef))(hW:Wd Γ φ M hD w)
  (gC:∀id ob,h id=some ob→hD id=some ob):Yd P Γ φ M hD w base r ((execOp a.eval o).run P w):=by
 rw[ho]at hf;simp only[Av]at hf;have ec:∀v b k,a.eval x=.pointer (some ⟨b,k,none⟩)→(loadVar t ⟨b,k,none⟩).run P w=.ok v w→(execOp a.eval o).run P w=.ok (.value v) w:=fun v b k hx hl=>by
  simp [execOp,ho,Instr.loadAt,Instr.sureAddr,hx,hl]
 split at hf
 ·rename_i cells off o1 n TD h1 h2 h3;cases hp:wv TD n off cells with
  |none=>rw[hp]at hf;cases hf
  |some c =>
   rw[hp]at hf;cases hf;have hx:=da hF h1 dX hg;have CJ:IR w M (.ip cells off) (a.eval x):=hx;generalize hv:a.eval x=xv at CJ;cases CJ with
   |ip _ _ b k vs hm hc hr =>
    obtain⟨v,hl,hcr⟩:=GZ (M:=M) (φ:=φ) (b:=b) (k:=k) h2 h3 hp fun i l hl=>⟨_,hc i l hl,IR.lr (hr i l hl)⟩
    exact Yd.val (ec v b _ hv hl) rfl hcr hW
 ·rename_i id sz row off o1 n TD h1 h2 h3;split at hf
  ·rename_i ob Qqb;cases nQ:(ob.sz == sz)with
   |false=>rw[nQ]at hf;cases hf
   |true =>
    rw[nQ]at hf;simp only[cond_true]at hf;have Qqv:ob.sz=sz:=by simpa using nQ
    have hO:=hW.ic id ob (gC id ob Qqb);split at hf
    ·rename_i tS mC;cases Ld:(row == 0)with
     |false=>rw[Ld]at hf;cases hf
     |true =>
      rw[Ld]at hf;have Qql:row=0:=by simpa using Ld
      rename_i cells;cases hp:wv TD n off cells with
      |none=>rw[hp]at hf;cases hf
      |some c =>
       rw[hp]at hf;cases hf;obtain⟨b,C,hφ,hv⟩:=(da hF h1 dX hg:zH w M φ (.op id sz row off) (a.eval x));obtain⟨v,hl,hcr⟩:=GZ (M:=M) (φ:=φ) (b:=b) (k:=row*sz) h2 h3 hp fun i l hl=>by
        have:=hO.Yl (i:=0) (.inr ⟨_,mC⟩) hφ (by rw[mC];rfl) i l hl
        rw[Qql,Nat.zero_mul];rwa [Nat.zero_mul]at this
       exact Yd.val (ec v b _ hv hl) rfl hcr hW
    ·rename_i c0 jC tS;cases hp:wv TD n off c0 with
     |none=>rw[hp]at hf;cases hf
     |some c =>
      rw[hp]at hf;cases hf;rw[bC]at dX;obtain⟨b,C,hφ,hv⟩:=(da hF h1 dX.1 hg:zH w M φ (.op id sz row off) (a.eval x));obtain⟨v,hl,hcr⟩:=GZ (M:=M) (φ:=φ) (b:=b) (k:=row*sz) h2 h3 hp fun i l hl=>by
       have:=hO.Yl (i:=row) (.inl tS) hφ dX.2.1 i l hl;rwa [Qqv]at this
      exact Yd.val (ec v b _ hv hl) rfl hcr hW
    ·cases hf
  ·cases hf
 ·cases hf
end
end
section
open Go.RowKit
section
variable {P : Program} {Γ : bn} {φ : Pl} {M : Nat → Prop} {hD h : Nat → Option Ob} {w : World} {base : Nat} {L : Nat → AV} {a : Act} {g : Prop} {hs : List Hint} {r : Pu} {o : Oper}
variable (dX : d_ r.ic) (hg : g) (hF : ∀ t, AR w M φ (L t) (a.tmps.getD t undef)) (hW : Wd Γ φ M hD w)
include dX hg hF hW
theorem TM{x:Operand}(ho:o.op=.move x∨o.op=.assign x)(hf:Av P h base g L (.move x) hs=some r):Yd P Γ φ M hD w base r ((execOp a.eval o).run P w):=by
 have ec:(execOp a.eval o).run P w=.ok (.value (a.eval x)) w:=by rcases ho with ho|ho <;> simp [execOp,ho]
 have hx:=Mx hF x;simp only[Av]at hf;split at hf
 ·rename_i c h1;cases hf;rw[h1]at hx;exact Yd.val ec rfl hx hW
 ·rename_i c h1;cases hf;rw[h1]at hx;exact Yd.val ec rfl hx hW
 ·rename_i p c h1;cases hf;rw[h1]at hx;exact Yd.val ec rfl (hx.1 (dX.1 hg)) hW
 ·cases hf
 ·rename_i h1;cases hf;rw[h1]at hx;exact Yd.val ec rfl hx hW
theorem Qbs{c x y:Operand}(ho:o.op=.pick c x y)(hf:Av P h base g L o.op hs=some r):Yd P Γ φ M hD w base r ((execOp a.eval o).run P w):=by
 rw[ho]at hf;simp only[Av]at hf;have ec:∀b,a.eval c=.bool b→(execOp a.eval o).run P w=.ok (.value (if b then a.eval x else a.eval y)) w:=fun b hb=>by
  simp [execOp,ho,hb,asBool]
 split at hf
 ·rename_i bc o1 jC h1;split at hf
  ·rename_i bx oa by_ ob_ h2 h3;cases hf;simp only[bC]at dX;have hc:IR w M (.bool bc) (a.eval c):=da hF h1 dX.1.1 hg;generalize hv:a.eval c=cv at hc;cases hc;refine Yd.val (ec _ hv) rfl ?_ hW;cases bc with
   |true=>exact(da hF h2 dX.1.2 ⟨hg,rfl⟩:CR w M φ (.one (.bool bx)) (a.eval x))
   |false=>exact(da hF h3 dX.2 ⟨hg,rfl⟩:CR w M φ (.one (.bool by_)) (a.eval y))
  ·cases hf
 ·rename_i bc o1 t jC h1;cases h2:rO g (Au L (cond t x y))with
  |none=>rw[h2]at hf;cases hf
  |some p =>
   obtain⟨cx,o2⟩:=p;rw[h2]at hf;cases hf;simp only[bC,d_]at dX;have hc:IR w M (.bool bc) (a.eval c):=da hF h1 dX.1.1 hg;generalize hv:a.eval c=cv at hc;cases hc;refine Yd.val (ec _ hv) rfl ?_ hW;have h3:CR w M φ cx (a.eval (cond t x y)):=da hF h2 dX.2 hg;obtain rfl:=dX.1.2.1;cases bc <;> exact h3
 ·cases hf
theorem Qfc{w':World}{e:TypeId}{ls:List Lf}{vs:Array Value}{id b:Nat}{φ':Pl}(hφ:φ' id=some (some (b,1)))(hb:w'.heap[b]?=some (.cells vs e))(hr:Rs (LR w' M φ') ls vs.toList)(h0:0<ls.length):OR w' M φ' id (NJ e ls):=by
 refine .inl ⟨h0,?_⟩;rw[hφ];refine⟨vs,hb,by rw[←Array.length_toList,←hr.len];simp [NJ],by simp [NJ],by decide,fun _=>rfl,fun i c hc=>?_⟩
 cases i with
 |zero =>
  simp [NJ]at hc;subst hc;refine⟨rfl,fun j l hl=>?_⟩
  obtain⟨v,hv,hlr⟩:=hr.get hl;exact⟨v,by rw[Nat.zero_mul,Nat.zero_add];simpa using hv,hlr⟩
 |succ i=>simp [NJ]at hc
theorem KC{e:TypeId}{ls:List Lf}{v:Value}(hn:r.news=[NJ e ls])(hv:r.v=one (.op base ls.length 0 0))(h0:0<ls.length)(hr:Rs (LR w M φ) ls v.cells.toList)
  (ec:(execOp a.eval o).run P w=.ok (.value (.pointer (some ⟨w.heap.size,0,none⟩))) (w.alloc (.cells v.cells e))) (tY:∀id,base≤id→id<base+r.news.length→φ id=none∧hD id=none):
  Yd P Γ φ M hD w base r ((execOp a.eval o).run P w):=by
 have hf:=tY base (Nat.le_refl _) (by rw[hn];simp)
 have hb:=w7 w (.cells v.cells e);have he:Ex w M φ (w.alloc (.cells v.cells e)) M (K9 φ base (some (w.heap.size,1))):=⟨fun b hm=>hb.block b (hW.mlt b hm),fun _ h=>h,wa _ hf.1⟩
 refine Yd.new (b:=w.heap.size) (C:=1) ec hn hW tY hb (Nat.le_refl _) (by simp) ?_ ?_
 ·exact Qfc dX hg hF hW (fB _ _ _) (heap_alloc_new w _) (hr.mono fun _ _ h=>LR.mono he h) h0
 ·rw[hv];exact⟨w.heap.size,1,fB _ _ _,by simp⟩
theorem ZH{e:TypeId}(ho:o.op=.alloc e)(hf:Av P h base g L o.op hs=some r)(tY:∀id,base≤id→id<base+r.news.length→φ id=none∧hD id=none):Yd P Γ φ M hD w base r ((execOp a.eval o).run P w):=by
 rw[ho]at hf;simp only[Av]at hf;cases hz:Mv P e with
 |none=>rw[hz]at hf;cases hf
 |some z =>
  rw[hz]at hf;cases hf;obtain⟨i,zv,hi,hzv,Ur,h0,Pv,hl⟩:=w6 (w:=w) (M:=M) (φ:=φ) hz;refine KC dX hg hF hW (v:=zv) rfl rfl (by omega) Pv ?_ tY
  simp [execOp,ho,Instr.alloc,zeroValue,typeInfo,hi,hzv,newVar,newRow]
theorem QeB{e:TypeId}{x:Operand}(ho:o.op=.box e x)(hf:Av P h base g L o.op hs=some r)(tY:∀id,base≤id→id<base+r.news.length→φ id=none∧hD id=none):Yd P Γ φ M hD w base r ((execOp a.eval o).run P w):=by
 rw[ho]at hf;simp only[Av]at hf;split at hf
 ·rename_i c o1 h1;cases hc:c.cells.isEmpty with
  |true=>rw[hc]at hf;cases hf
  |false =>
   rw[hc]at hf;cases hf;have hx:=(da hF h1 dX hg).cells;refine KC dX hg hF hW (v:=a.eval x) rfl rfl (by rw[List.length_pos_iff];simpa using hc) hx ?_ tY
   simp [execOp,ho,Instr.box,newVar,newRow]
 ·cases hf
theorem TN{x:Operand}(ho:o.op=.nilCheck x)(hf:Av P h base g L o.op hs=some r):Yd P Γ φ M hD w base r ((execOp a.eval o).run P w):=by
 rw[ho]at hf;simp only[Av]at hf;split at hf
 ·rename_i c off o1 h1;cases hf;have hx:IR w M (.ip c off) (a.eval x):=da hF h1 dX hg;generalize hv:a.eval x=xv at hx;have CJ:=hx;cases hx with
  |ip _ _ b k vs hm hc hr=>exact Yd.val (by simp [execOp,ho,hv]) rfl CJ hW
 ·rename_i id sz row off o1 h1;cases hf;have hx:zH w M φ (.op id sz row off) (a.eval x):=da hF h1 dX hg;obtain⟨b,C,hφ,hv⟩:=hx;exact Yd.val (by simp [execOp,ho,hv]) rfl ⟨b,C,hφ,rfl⟩ hW
 ·cases hf
theorem Qbt{u:UnOp}{t:TypeId}{x:Operand}(ho:o.op=.unOp u t x)(hf:Av P h base g L o.op hs=some r):Yd P Γ φ M hD w base r ((execOp a.eval o).run P w):=by
 rw[ho]at hf;simp only[Av]at hf;split at hf
 ·rename_i k n o1 h1;cases hf;have hx:IR w M (.int k n) (a.eval x):=da hF h1 dX hg;generalize hv:a.eval x=xv at hx;cases hx;exact Yd.val (v:=.int k (dZ k 0 n)) (by simp [execOp,ho,hv,Op.unary,Op.intArith,dZ]) rfl (IR.int _ _) hW
 ·rename_i b o1 h1;cases hf;have hx:IR w M (.bool b) (a.eval x):=da hF h1 dX hg;generalize hv:a.eval x=xv at hx;cases hx;exact Yd.val (v:=.bool (!b)) (by simp [execOp,ho,hv,Op.unary]) rfl (IR.bool _) hW
 ·cases hf
theorem FR{t:TypeId}{f fo n:Nat}{b:Bool}(h:RZ P t f=some (fo,n,b)):∃fs fd,P.underlying t=some (.struct fs)∧fs[f]?=some fd∧fd.offset=fo∧KI P fd.type=some n∧IJ P fd.type=some b∧n≠0:=by
 unfold RZ at h;split at h
 ·rename_i fs hu;split at h
  ·rename_i fd PX;split at h
   ·rename_i n' b' h1 h2;cases hn:(n' == 0)with
    |true=>rw[hn]at h;cases h
    |false=>rw[hn]at h;cases h;exact⟨fs,fd,hu,PX,rfl,h1,h2,by simpa using hn⟩
   ·cases h
  ·cases h
 ·cases h
theorem RI{t:TypeId}{x:Operand}{f:Nat}(ho:o.op=.fieldAddr t x f)(hf:Av P h base g L o.op hs=some r):Yd P Γ φ M hD w base r ((execOp a.eval o).run P w):=by
 rw[ho]at hf;simp only[Av]at hf;split at hf
 ·rename_i fo n TD cells off o1 h1 h2;cases hf;obtain⟨fs,fd,hu,PX,rfl,hn,hr,Hm⟩:=FR dX hg hF hW h1;obtain⟨i,hi,nQ⟩:=ra hn;have hx:IR w M (.ip cells off) (a.eval x):=da hF h2 dX hg;generalize hv:a.eval x=xv at hx;cases hx with
  |ip _ _ b k vs hm hc hrr =>
   refine Yd.val (v:=.pointer (some ⟨b,k+(off+fd.offset),none⟩)) ?_ rfl (IR.ip cells _ b k vs hm hc hrr) hW;simp [execOp,ho,hv,Instr.fieldAt,run_underlying hu,PX,Instr.sureAddr,fieldPlace,run_sizeOf hi,nQ,Hm,Addr.add_mid,Nat.add_assoc]
 ·rename_i fo n TD id sz row off o1 h1 h2;cases hf;obtain⟨fs,fd,hu,PX,rfl,hn,hr,Hm⟩:=FR dX hg hF hW h1;obtain⟨i,hi,nQ⟩:=ra hn;have hx:zH w M φ (.op id sz row off) (a.eval x):=da hF h2 dX hg;obtain⟨b,C,hφ,hv⟩:=hx;refine Yd.val (v:=.pointer (some ⟨b,row*sz+(off+fd.offset),none⟩)) ?_ rfl ⟨b,C,hφ,rfl⟩ hW;simp [execOp,ho,hv,Instr.fieldAt,run_underlying hu,PX,Instr.sureAddr,fieldPlace,run_sizeOf hi,nQ,Hm,Addr.add_mid,Nat.add_assoc]
 ·cases hf
theorem QcL{t:TypeId}{n off:Nat}{TD:Bool}{ls:List Lf}{vs:List Value}{c:Cm}(ht:KI P t=some n)(hr:IJ P t=some TD)(hp:wv TD n off ls=some c)(Pv:Rs (LR w M φ) ls vs):
  ∃v,(part t vs.toArray off).run P w=.ok v w∧CR w M φ c v:=by
 obtain⟨i,hi,nQ⟩:=ra ht;obtain⟨d,hu,hd⟩:=QL hr;unfold wv at hp;cases TD with
 |true =>
  simp only[cond_true]at hp;cases hl:(((ls.drop off).take n).length == n)with
  |false=>rw[hl]at hp;cases hp
  |true =>
   rw[hl]at hp;cases hp;refine⟨.agg (vs.toArray.extract off (off+n)),?_,((vs.drop off).take n),?_,((Pv.drop off).take n)⟩
   ·unfold part;rw[Sem.run_bind,K7 hu w,hd];simp [run_sizeOf hi,nQ]
   ·congr 1;apply Array.ext';simp [List.extract_eq_take_drop]
 |false =>
  simp only[cond_false]at hp;cases hl:ls[off]? with
  |none=>rw[hl]at hp;cases hp
  |some l =>
   rw[hl]at hp;cases hp;obtain⟨v,hv,hlr⟩:=Pv.get hl;refine⟨v,?_,hlr⟩;unfold part;rw[Sem.run_bind,K7 hu w,hd];simp [hv]
theorem ZK{t:TypeId}{x:Operand}{f:Nat}(ho:o.op=.field t x f)(hf:Av P h base g L o.op hs=some r):Yd P Γ φ M hD w base r ((execOp a.eval o).run P w):=by
 rw[ho]at hf;simp only[Av]at hf;split at hf
 ·rename_i fo n TD cells o1 h1 h2;cases hp:wv TD n fo cells with
  |none=>rw[hp]at hf;cases hf
  |some c =>
   rw[hp]at hf;cases hf;obtain⟨fs,fd,hu,PX,rfl,hn,hr,Hm⟩:=FR dX hg hF hW h1;obtain⟨vs,hv,Pv⟩:CR w M φ (.agg cells) (a.eval x):=da hF h2 dX hg;obtain⟨v,ec,hc⟩:=QcL dX hg hF hW hn hr hp Pv;refine Yd.val (v:=v) ?_ rfl hc hW;simp [execOp,ho,hv,Instr.field,run_underlying hu,PX,asAgg,ec]
 ·cases hf
theorem UD{x:Operand}{i:Nat}(ho:o.op=.extract x i)(hf:Av P h base g L o.op hs=some r):Yd P Γ φ M hD w base r ((execOp a.eval o).run P w):=by
 rw[ho]at hf;simp only[Av]at hf;have hx:=Mx hF x;split at hf
 ·rename_i cs h1;rw[h1]at hx;obtain⟨vs,hv,Pv⟩:=hx;cases hc:cs[i]? with
  |none=>rw[hc]at hf;cases hf
  |some c =>
   rw[hc]at hf;cases hf;obtain⟨v,S1,hr⟩:=Pv.get hc;refine Yd.val (v:=v) ?_ rfl hr hW;simp [execOp,ho,hv,Instr.extract,S1]
 ·cases hf
theorem QdC{α:Type}{l:List α}{i:Int}{x:α}(h:bq l i=some x):0≤i∧l[i.toNat]?=some x:=by
 unfold bq at h;split at h
 ·exact⟨‹_›,h⟩
 ·cases h
theorem RJ{t:TypeId}{x ix:Operand}(ho:o.op=.indexAddr t x ix)(hf:Av P h base g L o.op hs=some r):Yd P Γ φ M hD w base r ((execOp a.eval o).run P w):=by
 rw[ho]at hf;simp only[Av]at hf;split at hf
 ·rename_i e cl sz rows o1 k n o2 hu h1 h2;split at hf
  ·rename_i c jC;cases nQ:(KI P e == some sz)with
   |false=>rw[nQ]at hf;cases hf
   |true =>
    rw[nQ]at hf;cases hf;simp only[bC,d_]at dX;have hx:IR w M (.sl cl sz rows) (a.eval x):=da hF h1 dX.1.1 hg;have hi:IR w M (.int k n) (a.eval ix):=da hF h2 dX.1.2 hg;generalize hv:a.eval x=xv at hx;generalize S1:a.eval ix=iv at hi;cases hi;obtain⟨Hm,FV⟩:=QdC (r:=⟨.RO,[],[],[]⟩) trivial hg hF hW dX.2.1;obtain⟨i,hii,hsi⟩:=ra (by simpa using nQ:KI P e=some sz)
    have mj:=(List.getElem?_eq_some_iff.1 FV).1;cases hx with
    |TG=>simp at FV
    |sl _ _ _ b k0 cap vs hm hl IM Oi hc hr =>
     refine Yd.val (v:=.pointer (some ⟨b,k0+n.toNat*sz+0,none⟩)) ?_ rfl (IR.ip c 0 b (k0+n.toNat*sz) (vs n.toNat) hm (fun j l hj=>hc _ _ j l FV hj) (fun j l hj=>hr _ _ j l FV hj)) hW
     have hn1:n<rows.length:=by omega
     simp [execOp,ho,hv,S1,Instr.indexAt,asIntOf,run_underlying hu,Hm,hn1,run_sizeOf hii,hsi,Addr.add_mid]
  ·cases hf
 ·rename_i e id sz off len o1 k n o2 hu h1 h2;cases nQ:(KI P e == some sz)with
  |false=>rw[nQ]at hf;cases hf
  |true =>
   rw[nQ]at hf;cases hf;simp only[bC,d_]at dX;have hx:zH w M φ (.os id sz off len) (a.eval x):=da hF h1 dX.1.1 hg;have hi:IR w M (.int k n) (a.eval ix):=da hF h2 dX.1.2 hg;generalize S1:a.eval ix=iv at hi;cases hi;obtain⟨Hm,hn1,_⟩:=dX.2;obtain⟨i,hii,hsi⟩:=ra (by simpa using nQ:KI P e=some sz)
   rcases hx with⟨b,C,hφ,hv,hle⟩|⟨_,_,h0,_⟩
   ·refine Yd.val (v:=.pointer (some ⟨b,(off+n.toNat)*sz+0,none⟩)) ?_ rfl ⟨b,C,hφ,rfl⟩ hW;simp [execOp,ho,hv,S1,Instr.indexAt,asIntOf,run_underlying hu,Hm,hn1,run_sizeOf hii,hsi,Addr.add_mid,Nat.add_mul]
   ·omega
 ·rename_i len e cells off o1 k n o2 hu h1 h2;split at hf
  ·rename_i sz nQ;cases WI:(!(len == 0))with
   |false=>rw[WI]at hf;cases hf
   |true =>
    rw[WI]at hf;cases hf;simp only[bC,d_]at dX;have hx:IR w M (.ip cells off) (a.eval x):=da hF h1 dX.1.1 hg;have hi:IR w M (.int k n) (a.eval ix):=da hF h2 dX.1.2 hg;generalize hv:a.eval x=xv at hx;generalize S1:a.eval ix=iv at hi;cases hi;obtain⟨Hm,hn1,_⟩:=dX.2;obtain⟨i,hii,hsi⟩:=ra nQ;cases hx with
    |ip _ _ b k0 vs hm hc hrr =>
     refine Yd.val (v:=.pointer (some ⟨b,k0+(off+n.toNat*sz),none⟩)) ?_ rfl (IR.ip cells _ b k0 vs hm hc hrr) hW;simp [execOp,ho,hv,S1,Instr.indexAt,asIntOf,run_underlying hu,Hm,hn1,run_sizeOf hii,hsi,Addr.add_mid,Instr.sureAddr,Nat.add_assoc]
  ·cases hf
 ·rename_i len e id sz row off o1 k n o2 hu h1 h2;split at hf
  ·rename_i esz nQ;cases WI:(!(len == 0))with
   |false=>rw[WI]at hf;cases hf
   |true =>
    rw[WI]at hf;cases hf;simp only[bC,d_]at dX;have hx:zH w M φ (.op id sz row off) (a.eval x):=da hF h1 dX.1.1 hg;have hi:IR w M (.int k n) (a.eval ix):=da hF h2 dX.1.2 hg;generalize S1:a.eval ix=iv at hi;cases hi;obtain⟨Hm,hn1,_⟩:=dX.2;obtain⟨i,hii,hsi⟩:=ra nQ;obtain⟨b,C,hφ,hv⟩:=hx;refine Yd.val (v:=.pointer (some ⟨b,row*sz+(off+n.toNat*esz),none⟩)) ?_ rfl ⟨b,C,hφ,rfl⟩ hW;simp [execOp,ho,hv,S1,Instr.indexAt,asIntOf,run_underlying hu,Hm,hn1,run_sizeOf hii,hsi,Addr.add_mid,Instr.sureAddr,Nat.add_assoc]
  ·cases hf
 ·cases hf
theorem ZL{t:TypeId}{x ix:Operand}(ho:o.op=.index t x ix)(hf:Av P h base g L o.op hs=some r):Yd P Γ φ M hD w base r ((execOp a.eval o).run P w):=by
 rw[ho]at hf;simp only[Av]at hf;split at hf
 ·rename_i s o1 k n o2 hu h1 h2;split at hf
  ·rename_i b jC;cases hf;simp only[bC,d_]at dX;have hx:IR w M (.str s) (a.eval x):=da hF h1 dX.1.1 hg;have hi:IR w M (.int k n) (a.eval ix):=da hF h2 dX.1.2 hg;generalize hv:a.eval x=xv at hx;generalize S1:a.eval ix=iv at hi;cases hi;cases hx;have hb:=dX.2.1;unfold Ru at hb;split at hb
   ·rename_i h0;refine Yd.val (v:=.int .u8 (I1 b)) ?_ rfl (IR.int _ _) hW;simp [execOp,ho,hv,S1,Instr.index,asIntOf,run_underlying hu,h0,hb,I1]
   ·cases hb
  ·cases hf
 ·rename_i len e cells o1 k n o2 hu h1 h2;split at hf
  ·rename_i sz TD nQ hrw;cases hp:wv TD sz (n.toNat*sz) cells with
   |none=>rw[hp]at hf;cases hf
   |some c =>
    rw[hp]at hf;cases hf;simp only[bC,d_]at dX;obtain⟨vs,hv,Pv⟩:CR w M φ (.agg cells) (a.eval x):=da hF h1 dX.1.1 hg;have hi:IR w M (.int k n) (a.eval ix):=da hF h2 dX.1.2 hg;generalize S1:a.eval ix=iv at hi;cases hi;obtain⟨Hm,hn1,_⟩:=dX.2;obtain⟨i,hii,hsi⟩:=ra nQ;obtain⟨v,ec,hc⟩:=QcL (r:=⟨.RO,[],[],[]⟩) trivial hg hF hW nQ hrw hp Pv;refine Yd.val (v:=v) ?_ rfl hc hW;simp [execOp,ho,hv,S1,Instr.index,asIntOf,run_underlying hu,Hm,hn1,run_sizeOf hii,hsi,ec]
  ·cases hf
 ·cases hf
omit dX hg hF hW in
theorem Yi:∀{cs:List Cm} {ls:List Lf} {vs:List Value},QbR cs=some ls→Rs (CR w M φ) cs vs→Rs (zH w M φ) ls vs
 | [],_,[],h,_=>by cases h;trivial
 | .one l ::cs,ls,v ::vs,h,hr=>by
  simp only[QbR]at h;split at h
  ·rename_i ls' h1;cases hf:WT l with
   |true=>rw[hf]at h;cases h
   |false =>
    rw[hf]at h;cases h;exact⟨by have:=hr.1;rwa [CR,QN hf]at this,Yi h1 hr.2⟩
  ·cases h
 | .agg _ ::_,_,_,h,_=>by cases h
 | [],_,_ ::_,_,h=>h.elim
 |_ ::_,_,[],_,h=>h.elim
theorem TL{f:Fn}{first jW:Array Operand}(ho:o.op=.makeFunc f first jW)(hf:Av P h base g L o.op hs=some r):Yd P Γ φ M hD w base r ((execOp a.eval o).run P w):=by
 rw[ho]at hf;simp only[Av]at hf;split at hf
 ·rename_i cs o1 h1;cases hfi:first.toList.isEmpty with
  |false=>rw[hfi]at hf;cases hf
  |true =>
   rw[hfi]at hf;simp only[cond_true]at hf;split at hf
   ·rename_i ls h2;cases hf;have Pv:=xy hF hg h1 dX;have hc:=Yi h2 Pv;have QpM:first=#[]:=by
     apply Array.ext';simpa using hfi
    subst QpM;refine Yd.val (v:=.func f #[] (jW.toList.map a.eval).toArray) ?_ rfl ⟨_,rfl,hc⟩ hW;have he:jW.map a.eval=(jW.toList.map a.eval).toArray:=by apply Array.ext';simp
    simp [execOp,ho,Instr.makeFunc,he]
   ·cases hf
 ·cases hf
end
end
section
open Go.RowKit
section
variable {P : Program} {φ : Pl} {M : Nat → Prop} {w : World}
theorem QbX{d:Nat}{t:TypeId}{u:TypeDesc}{x y:Lf}{vx vy:Value}{e:Bool}(hu:P.underlying t=some u)(h:QfI u x y=some e)(hx:LR w M φ x vx)(hy:LR w M φ y vy):
  (Op.equalIn (d+1) t vx vy).run P w=.ok e w:=by
 unfold QfI at h;split at h
 ·rename_i k0 k a k' b;by_cases hkk:k=k'
  ·subst hkk;simp only[decide_true,cond_true]at h;cases h;have CJ:IR w M (.int k a) vx:=hx;have hy':IR w M (.int k b) vy:=hy;cases CJ;cases hy';simp [Op.equalIn,run_underlying hu,bP]
  ·simp only[hkk,decide_false,cond_false]at h;cases h
 ·rename_i a b;cases h;have CJ:IR w M (.bool a) vx:=hx;have hy':IR w M (.bool b) vy:=hy;cases CJ;cases hy';simp [Op.equalIn,run_underlying hu,T0]
 ·rename_i a b;cases h;have CJ:IR w M (.str a) vx:=hx;have hy':IR w M (.str b) vy:=hy;cases CJ;cases hy';simp [Op.equalIn,run_underlying hu]
 ·cases h
theorem wz{t:TypeId}(hr:IJ P t=some false){vs:Array Value}{k:Nat}{v:Value}(hv:vs[k]?=some v):(part t vs k).run P w=.ok v w:=by
 obtain⟨d,hu,hd⟩:=QL hr;unfold part;rw[Sem.run_bind,K7 hu w,hd];simp [hv]
theorem SE{d:Nat}{vx vy:List Value}:∀(fs:List Field) (k:Nat) (us:List TypeDesc) (xs ys:List Lf) (e:Bool),Jd P k fs=some us→w9 us xs ys=some e→Rs (LR w M φ) xs (vx.drop k)→Rs (LR w M φ) ys (vy.drop k)→
  (forIn fs ((none,()):Option Bool×Unit) fun f r=>(do
   if f.name≠"_" then do
    if(!(←Op.equalIn (d+1) f.type (←part f.type vx.toArray f.offset) (←part f.type vy.toArray f.offset)))=true then pure (ForInStep.done (some false,()))else pure (ForInStep.yield (none,()))
   else pure (ForInStep.yield (none,())):Sem (ForInStep (Option Bool×Unit)))).run P w=.ok (if e then none else some false,()) w
 | [],k,us,xs,ys,e,h1,h2,_,_=>by
  cases h1;cases xs <;> cases ys <;> simp [w9]at h2
  subst h2;simp
 |f ::fs,k,us,xs,ys,e,h1,h2,hx,hy=>by
  simp only[Jd]at h1;cases hc:(f.offset == k&&!(f.name == "_")&&(IJ P f.type == some false))with
  |false=>rw[hc]at h1;cases h1
  |true =>
   rw[hc]at h1;simp only[cond_true]at h1;simp only[Bool.and_eq_true,beq_iff_eq,Bool.not_eq_true',beq_eq_false_iff_ne]at hc;obtain⟨⟨Jk,Qcj⟩,FV⟩:=hc;split at h1
   ·rename_i u us' hu Ny;cases h1;cases xs with
    |nil=>simp [w9]at h2
    |cons x xs =>
     cases ys with
     |nil=>simp [w9]at h2
     |cons y ys =>
      simp only[w9]at h2;split at h2
      ·rename_i e1 e2 he1 ZZ;cases h2;obtain⟨v1,hv1,XR⟩:=hx.get (i:=0) rfl;obtain⟨v2,S1,hr2⟩:=hy.get (i:=0) rfl;have hx1:Rs (LR w M φ) xs (vx.drop (k+1)):=by have:=hx.drop 1;simpa [List.drop_drop,Nat.add_comm]using this
       have hy1:Rs (LR w M φ) ys (vy.drop (k+1)):=by have:=hy.drop 1;simpa [List.drop_drop,Nat.add_comm]using this
       have ih:=SE (d:=d) fs (k+1) us' xs ys e2 Ny ZZ hx1 hy1;have hp1:=wz (P:=P) (w:=w) FV (vs:=vx.toArray) (k:=f.offset) (v:=v1) (by rw[Jk];simpa using hv1)
       have hp2:=wz (P:=P) (w:=w) FV (vs:=vy.toArray) (k:=f.offset) (v:=v2) (by rw[Jk];simpa using S1)
       have heq:=QbX (d:=d) hu he1 XR hr2;rw[List.forIn_cons];cases e1 with
       |true=>simp [Qcj,hp1,hp2,heq]at ih ⊢;exact ih
       |false=>simp [Qcj,hp1,hp2,heq]
      ·cases h2
   ·cases h1
theorem Qbz{t:TypeId}{n:Nat}(h:KI P t=some n):(sizeOf t).run P w=.ok n w:=by
 unfold KI at h;cases hi:P.info? t with
 |none=>rw[hi]at h;cases h
 |some i=>rw[hi]at h;cases h;simp [sizeOf,typeInfo,hi]
theorem YE{d:Nat}{t e0:TypeId}{n:Nat}{u:TypeDesc}{xs ys:List Lf}{vx vy:List Value}{e:Bool}(hu:P.underlying t=some (.array n e0))(hue:P.underlying e0=some u)(FV:IJ P e0=some false)(nQ:KI P e0=some 1)
  (he:w9 (List.replicate n u) xs ys=some e) (hrx:Rs (LR w M φ) xs vx) (hry:Rs (LR w M φ) ys vy):(Op.equalIn (d+1+1) t (.agg vx.toArray) (.agg vy.toArray)).run P w=.ok e w:=by
 unfold Op.equalIn;simp only[Sem.run_bind,run_underlying hu,Result.andThen_ok,Qbz nQ];simp only[Std.Legacy.Range.forIn_eq_forIn_range',Std.Legacy.Range.size,Nat.sub_zero,Nat.add_one_sub_one,Nat.div_one];have key:∀(m k:Nat) (xs ys:List Lf) (e:Bool),w9 (List.replicate m u) xs ys=some e→Rs (LR w M φ) xs (vx.drop k)→Rs (LR w M φ) ys (vy.drop k)→
   (forIn (List.range' k m) ((none,()):Option Bool×Unit) fun i r=>(do
    if(!(←Op.equalIn (d+1) e0 (←part e0 vx.toArray (i*1)) (←part e0 vy.toArray (i*1))))=true then pure (ForInStep.done (some false,()))else pure (ForInStep.yield (none,())):Sem (ForInStep (Option Bool×Unit)))).run P w=.ok (if e then none else some false,()) w:=by
  intro m;induction m with
  |zero =>
   intro k xs ys e h2 _ _;cases xs <;> cases ys <;> simp [w9]at h2
   subst h2;simp
  |succ m ih =>
   intro k xs ys e h2 hx hy;rw[List.replicate_succ]at h2;cases xs with
   |nil=>simp [w9]at h2
   |cons x xs =>
    cases ys with
    |nil=>simp [w9]at h2
    |cons y ys =>
     simp only[w9]at h2;split at h2
     ·rename_i e1 e2 he1 ZZ;cases h2;obtain⟨v1,hv1,XR⟩:=hx.get (i:=0) rfl;obtain⟨v2,S1,hr2⟩:=hy.get (i:=0) rfl;have hx1:Rs (LR w M φ) xs (vx.drop (k+1)):=by have:=hx.drop 1;simpa [List.drop_drop,Nat.add_comm]using this
      have hy1:Rs (LR w M φ) ys (vy.drop (k+1)):=by have:=hy.drop 1;simpa [List.drop_drop,Nat.add_comm]using this
      have ih:=ih (k+1) xs ys e2 ZZ hx1 hy1;have hp1:=wz (P:=P) (w:=w) FV (vs:=vx.toArray) (k:=k) (v:=v1) (by simpa using hv1)
      have hp2:=wz (P:=P) (w:=w) FV (vs:=vy.toArray) (k:=k) (v:=v2) (by simpa using S1)
      have heq:=QbX (d:=d) hue he1 XR hr2;rw[List.range'_succ,List.forIn_cons];cases e1 with
      |true=>simp [hp1,hp2,heq]at ih ⊢;exact ih
      |false=>simp [hp1,hp2,heq]
     ·cases h2
 have h3:=key n 0 xs ys e he hrx hry;refine Eq.trans (congrArg (fun z=>Result.andThen z _) h3) ?_
 cases e <;> simp
end
section
variable {P : Program} {Γ : bn} {φ : Pl} {M : Nat → Prop} {hD h : Nat → Option Ob} {w : World} {base : Nat} {L : Nat → AV} {a : Act} {g : Prop} {hs : List Hint} {r : Pu} {o : Oper}
theorem Ja{op:BinOp}{t:TypeId}{x y:Operand}{k k':IntKind}{p q:Int}:(eqGuard op t x y (.int k p) (.int k' q)).run P w=.ok () w:=by
 unfold eqGuard;split <;> simp
theorem YA{op:BinOp}{t:TypeId}{x y:Operand}{p q:ByteArray}:(eqGuard op t x y (.string p) (.string q)).run P w=.ok () w:=by
 unfold eqGuard;split <;> simp
theorem N5{op:BinOp}{t:TypeId}{x y:Operand}{p q:Bool}:(eqGuard op t x y (.bool p) (.bool q)).run P w=.ok () w:=by
 unfold eqGuard;split <;> simp
theorem Dc{op:BinOp}{t:TypeId}{x y:Operand}{p q:Array Value}(h:P.eqGuardType P.depth t=false):(eqGuard op t x y (.agg p) (.agg q)).run P w=.ok () w:=by
 unfold eqGuard;split <;> simp [h]
def lfV:Lf→Value
 | .int k n=>.int k n
 | .bool b=>.bool b
 | .str s=>.string s
 |_=>undef
theorem Qfg{op:BinOp}{k:IntKind}{p q:Int}{t:TypeId}{l:Lf}{ob:List Prop}(h:Qff op k p q=some (l,ob))(ho:d_ ob):(binOp op t (.int k p) (.int k q)).run P w=.ok (lfV l) w∧LR w M φ l (lfV l):=by
 cases op <;> simp only[Qff]at h <;> first
  |(cases h;done)
  |(cases h;refine⟨?_,IR.int _ _⟩;simp [binOp,Op.intArith,lfV,aY,dZ,m_];done)
  |(cases h;refine⟨?_,IR.int _ _⟩;have:=ho.1;simp [binOp,Op.intDiv,this,lfV,uw,C6];done)
  |(cases h;refine⟨?_,IR.int _ _⟩;simp [binOp,Op.intBits,lfV,Sf,XW,Qoy,wG];done)
  |(cases h;refine⟨?_,IR.bool _⟩;simp [binOp,Op.intCmp,lfV,bP,cA,aT,jD,cQ,bZ];done)
theorem Qfi{op:BinOp}{p q:ByteArray}{t:TypeId}{l:Lf}{ob:List Prop}(h:Qfh op p q = some (l,ob))(ho:d_ ob):(binOp op t (.string p) (.string q)).run P w = .ok (lfV l) w∧LR w M φ l (lfV l):= by
  cases op <;> simp only[Qfh]at h <;> first
    |(cases h;done)
    | (cases h
       have h1:= ho.1;have: ¬(IntKind.i64.max <((p.size + q.size:Nat):Int)):= by
         have:IntKind.i64.max = 9223372036854775807:= by decide
         omega
       refine⟨?_,IR.str _⟩;simp only[binOp,Op.stringOp];rw[if_neg this];rfl)
    |(cases h;refine⟨?_,IR.bool _⟩;simp [binOp,Op.stringOp,lfV,Jb,ltS];done)
theorem ZI(dX:d_ r.ic)(hg:g)(hF:∀t,AR w M φ (L t) (a.tmps.getD t undef))(hW:Wd Γ φ M hD w){op:BinOp}{t u:TypeId}{x y:Operand}(ho:o.op=.binOp op t x y u)(hf:Qay P L g op t x y hs=some r):
  Yd P Γ φ M hD w base r ((execOp a.eval o).run P w):=by
 unfold Qay at hf;have ec:∀v,(eqGuard op t x y (a.eval x) (a.eval y)).run P w=.ok () w→(binOp op t (a.eval x) (a.eval y)).run P w=.ok v w→(execOp a.eval o).run P w=.ok (.value v) w:=fun v h1 h2=>by
  simp [execOp,ho,h1,h2]
 split at hf
 ·rename_i cx o1 cy o2 h1 h2;cases hb:QkP P op t cx cy with
  |none=>rw[hb]at hf;cases hf
  |some p =>
   obtain⟨l,o3⟩:=p;rw[hb]at hf;cases hf;simp only[bC]at dX;have hx:=da hF h1 dX.1.1 hg;have hy:=da hF h2 dX.1.2 hg;unfold QkP at hb;split at hb
   ·rename_i k p k' q;have CJ:IR w M (.int k p) (a.eval x):=hx;have hy':IR w M (.int k' q) (a.eval y):=hy;generalize hvx:a.eval x=vx at CJ ec;generalize hvy:a.eval y=vy at hy' ec;cases CJ;cases hy';split at hb
    ·cases hb;have h0:¬q<0:=by have:=dX.2.1;omega
     exact Yd.val (ec (.int k (Pg k p q)) Ja (by simp [binOp,Op.shift,h0,Pg])) rfl (IR.int _ _) hW
    ·cases hb;have h0:¬q<0:=by have:=dX.2.1;omega
     exact Yd.val (ec (.int k (wZ k p q)) Ja (by simp [binOp,Op.shift,h0,wZ])) rfl (IR.int _ _) hW
    ·by_cases hk:k=k'
     ·subst hk;rw[if_pos rfl]at hb;obtain⟨hv,hr⟩:=Qfg (P:=P) (w:=w) (M:=M) (φ:=φ) (t:=t) hb dX.2;exact Yd.val (ec _ Ja hv) rfl hr hW
     ·rw[if_neg hk]at hb;cases hb
   ·rename_i p q;have CJ:IR w M (.str p) (a.eval x):=hx;have hy':IR w M (.str q) (a.eval y):=hy;generalize hvx:a.eval x=vx at CJ ec;generalize hvy:a.eval y=vy at hy' ec;cases CJ;cases hy';obtain⟨hv,hr⟩:=Qfi (P:=P) (w:=w) (M:=M) (φ:=φ) (t:=t) hb dX.2;exact Yd.val (ec _ YA hv) rfl hr hW
   ·rename_i p q;have CJ:IR w M (.bool p) (a.eval x):=hx;have hy':IR w M (.bool q) (a.eval y):=hy;generalize hvx:a.eval x=vx at CJ ec;generalize hvy:a.eval y=vy at hy' ec;cases CJ;cases hy';have heq:∀hu:P.underlying t=some .bool,(Op.equal t (.bool p) (.bool q)).run P w=.ok (T0 p q) w:=fun hu=>by
     have key:∀d,(Op.equalIn (d+1) t (.bool p) (.bool q)).run P w=.ok (T0 p q) w:=fun d=>by simp [Op.equalIn,run_underlying hu,T0]
     exact key 9999
    split at hb
    ·rename_i hu;cases hb;exact Yd.val (ec (.bool (T0 p q)) N5 (by simp [binOp,heq hu])) rfl (IR.bool _) hW
    ·rename_i hu;cases hb;exact Yd.val (ec (.bool (!T0 p q)) N5 (by simp [binOp,heq hu])) rfl (IR.bool _) hW
    ·cases hb
   ·rename_i xs ys;split at hb
    ·rename_i us Ny;obtain⟨vx,hvx,hrx⟩:=hx;obtain⟨vy,hvy,hry⟩:=hy;rw[hvx,hvy]at ec;have YW:∃fs,P.underlying t=some (.struct fs)∧P.stoodInHeld t=false∧P.eqGuardType P.depth t=false∧Jd P 0 fs.toList=some us:=by
      unfold Qb2 at Ny;split at Ny
      ·rename_i fs hu;cases hc:(!P.stoodInHeld t&&!P.eqGuardType P.depth t)with
       |false=>rw[hc]at Ny;cases Ny
       |true =>
        rw[hc]at Ny;simp only[Bool.and_eq_true,Bool.not_eq_true']at hc;exact⟨fs,hu,hc.1,hc.2,Ny⟩
      ·cases Ny
     obtain⟨fs,hu,nr,heg,HH⟩:=YW;have Qnp:∀d e,w9 us xs ys=some e→(Op.equalIn (d+1+1) t (.agg vx.toArray) (.agg vy.toArray)).run P w=.ok e w:=fun d e he=>by
      have h3:=SE (P:=P) (w:=w) (M:=M) (φ:=φ) (d:=d) fs.toList 0 us xs ys e HH he hrx hry;rw[Array.forIn_toList]at h3;unfold Op.equalIn;simp only[Sem.run_bind,run_underlying hu,Result.andThen_ok,run_program,nr];simp only[Bool.false_eq_true,if_false,Sem.run_bind,Sem.run_pure,Result.andThen_ok];refine Eq.trans (congrArg (fun z=>Result.andThen z _) h3) ?_
      cases e <;> simp
     have heq:∀e,w9 us xs ys=some e→(Op.equal t (.agg vx.toArray) (.agg vy.toArray)).run P w=.ok e w:=fun e he=>Qnp 9998 e he
     clear Qnp;split at hb
     ·rename_i e he;cases hb;exact Yd.val (ec (.bool e) (Dc heg) (by simp [binOp,heq e he])) rfl (IR.bool _) hW
     ·rename_i e he;cases hb;exact Yd.val (ec (.bool (!e)) (Dc heg) (by simp [binOp,heq e he])) rfl (IR.bool _) hW
     ·cases hb
    ·split at hb
     ·rename_i us Ny;obtain⟨vx,hvx,hrx⟩:=hx;obtain⟨vy,hvy,hry⟩:=hy;rw[hvx,hvy]at ec;have YW:∃n e u,P.underlying t=some (.array n e)∧P.eqGuardType P.depth t=false∧IJ P e=some false∧KI P e=some 1∧P.underlying e=some u∧us=List.replicate n u:=by
       unfold QjY at Ny;split at Ny
       ·rename_i n e hu;cases hc:(!P.eqGuardType P.depth t&&(IJ P e == some false)&&(KI P e == some 1))with
        |false=>rw[hc]at Ny;cases Ny
        |true =>
         rw[hc]at Ny;simp only[Bool.and_eq_true,Bool.not_eq_true',beq_iff_eq]at hc;cases hue:P.underlying e with
         |none=>rw[hue]at Ny;cases Ny
         |some u=>rw[hue]at Ny;cases Ny;exact⟨n,e,u,hu,hc.1.1,hc.1.2,hc.2,hue,rfl⟩
       ·cases Ny
      obtain⟨n,e0,u,hu,heg,FV,nQ,hue,rfl⟩:=YW;have heq:∀e,w9 (List.replicate n u) xs ys=some e→(Op.equal t (.agg vx.toArray) (.agg vy.toArray)).run P w=.ok e w:=fun e he=>YE (d:=9998) hu hue FV nQ he hrx hry
      split at hb
      ·rename_i e he;cases hb;exact Yd.val (ec (.bool e) (Dc heg) (by simp [binOp,heq e he])) rfl (IR.bool _) hW
      ·rename_i e he;cases hb;exact Yd.val (ec (.bool (!e)) (Dc heg) (by simp [binOp,heq e he])) rfl (IR.bool _) hW
      ·cases hb
     ·cases hb
   ·cases hb
 ·cases hf
end
end
section
open Go.RowKit
section
variable {α β : Type} {R : α → β → Prop}
theorem Dd{sz:Nat}:∀{rows:List (List α)} {i j:Nat} {c:List α} {l:α},(∀c∈rows,c.length=sz)→rows[i]?=some c→c[j]?=some l→rows.flatten[i*sz+j]?=some l
 | [],_,_,_,_,_,h,_=>by simp at h
 |r ::rows,0,j,c,l,hs,h,hj=>by
  simp at h;subst h;rw[Nat.zero_mul,Nat.zero_add,List.flatten_cons,List.getElem?_append_left (List.getElem?_eq_some_iff.1 hj).1];exact hj
 |r ::rows,i+1,j,c,l,hs,h,hj=>by
  have hr:=hs r (by simp)
  rw[List.flatten_cons,List.getElem?_append_right (by rw[hr,Nat.add_mul];omega),hr,show(i+1)*sz+j-sz=i*sz+j by rw[Nat.add_mul];omega]
  exact Dd (fun c hc=>hs c (by simp [hc])) (by simpa using h) hj
theorem uG{sz:Nat}:∀{rows:List (List α)},(∀c∈rows,c.length=sz)→rows.flatten.length=rows.length*sz
 | [],_=>by simp
 |r ::rows,hs=>by
  rw[List.flatten_cons,List.length_append,hs r (by simp),uG fun c hc=>hs c (by simp [hc]),List.length_cons,Nat.add_mul];omega
theorem mem_row{rows:List (List α)}{sz:Nat}(h:∀(i:Nat) (c:List α),rows[i]?=some c→c.length=sz):∀c∈rows,c.length=sz:=fun c hc=>by
 obtain⟨i,hi⟩:=List.mem_iff_getElem?.1 hc;exact h i c hi
theorem UW{sz:Nat}:∀{n:Nat} {l:List Lf} {i:Nat} {c:List Lf},(chunk sz n l)[i]?=some c→i<n∧c=(l.drop (i*sz)).take sz
 |0,_,_,_,h=>by simp [chunk]at h
 |n+1,l,0,c,h=>by simp [chunk]at h;exact⟨by omega,by simp [h]⟩
 |n+1,l,i+1,c,h=>by
  simp only[chunk,List.getElem?_cons_succ]at h;obtain⟨h1,h2⟩:=UW h;exact⟨by omega,by rw[h2,List.drop_drop,Nat.add_mul,Nat.one_mul,Nat.add_comm]⟩
theorem UX{sz:Nat}:∀{n:Nat} {l:List Lf},(chunk sz n l).length=n
 |0,_=>rfl
 |n+1,l=>by simp [chunk,UX (n:=n)]
end
section
variable {P : Program} {w : World} {M : Nat → Prop} {φ : Pl}
theorem YI(off:Nat):∀(vs:List Value) (k:Nat) (cs:Array Value),off+k+vs.length≤cs.size→
  ((vs.zipIdx k).foldl (fun(cs:Array Value) (x:Value×Nat)=>cs.setIfInBounds (off+x.2) x.1) cs).toList=cs.toList.take (off+k)++vs++cs.toList.drop (off+k+vs.length)
 | [],k,cs,_=>by simp
 |v ::vs,k,cs,h=>by
  simp only[List.zipIdx_cons,List.foldl_cons,List.length_cons]at h ⊢;rw[YI off vs (k+1) _ (by simp;omega)]
  have mj:off+k<cs.toList.length:=by simpa using(by omega:off+k<cs.size)
  simp only[Array.toList_setIfInBounds];have e1:(cs.toList.set (off+k) v).take (off+(k+1))=cs.toList.take (off+k)++[v]:=by
   rw[show off+(k+1)=(off+k)+1 by omega,List.take_add_one,List.take_set_of_le (Nat.le_refl _),List.getElem?_set_self mj];rfl
  have e2:(cs.toList.set (off+k) v).drop (off+(k+1)+vs.length)=cs.toList.drop (off+k+(vs.length+1)):=by
   rw[List.drop_set_of_lt (by omega)];congr 1;omega
  rw[e1,e2];simp
theorem WA{pl:Nat→Option (Nat×Nat)}:∀{cs:List (Nat×List Lf)} {vp:List (Nat×Value)} {z out:List Lf} {zc:Array Value},QV pl z cs=some out→Rs (LR w M φ) z zc.toList→
  Rs (fun(p:Nat×List Lf) (q:Nat×Value)=>p.1=q.1∧Rs (LR w M φ) p.2 q.2.cells.toList) cs vp→∃oc,Instr.fill pl zc vp=some oc∧Rs (LR w M φ) out oc.toList
 | [],[],z,out,zc,h,hz,_=>by cases h;exact⟨zc,rfl,hz⟩
 |(i,ls) ::cs,(j,v) ::vp,z,out,zc,h,hz,hr=>by
  obtain⟨⟨rfl,hv⟩,Vm⟩:=hr;simp only at hv;simp only[QV]at h;split at h
  ·cases h
  ·rename_i off size hp;cases hc:(ls.length == size&&Nat.ble (off+size) z.length)with
   |false=>rw[hc]at h;cases h
   |true =>
    rw[hc]at h;simp only[cond_true]at h;simp only[Bool.and_eq_true,beq_iff_eq,Nat.ble_eq]at hc;have hvl:v.cells.size=size:=by rw[←Array.length_toList,←hv.len];exact hc.1
    have hzl:z.length=zc.size:=by rw[hz.len];simp
    have hf:=YI off v.cells.toList 0 zc (by rw[Nat.add_zero,Array.length_toList];omega)
    have Lc:Rs (LR w M φ) (z.take off++ls++z.drop (off+size)) (zc.toList.take off++v.cells.toList++zc.toList.drop (off+size)):=((hz.take off).append hv).append (hz.drop _);have QqD:v.cells.zipIdx.foldl (fun(cs:Array Value) (x:Value×Nat)=>cs.setIfInBounds (off+x.2) x.1) zc=(zc.toList.take off++v.cells.toList++zc.toList.drop (off+size)).toArray:=by
     apply Array.ext';rw[←Array.foldl_toList,Array.toList_zipIdx];rw[Nat.add_zero,Array.length_toList,hvl]at hf;simpa using hf
    obtain⟨oc,h1,h2⟩:=WA (zc:=(zc.toList.take off++v.cells.toList++zc.toList.drop (off+size)).toArray) h (by simpa using Lc) Vm
    refine⟨oc,?_,h2⟩;simp only[Instr.fill,hp];rw[if_neg (by simp;omega)]
    rw[←h1,←QqD]
 | [],_ ::_,_,_,_,_,_,h=>h.elim
 |_ ::_,[],_,_,_,_,_,h=>h.elim
theorem Rs.flat{ls:List Lf}{vs:List Value}(h:Rs (LR w M φ) ls vs):∀n,Rs (LR w M φ) (List.replicate n ls).flatten (List.replicate n vs).flatten
 |0=>by simp [Rs]
 |n+1=>by simp only[List.replicate_succ,List.flatten_cons];exact h.append (Rs.flat h n)
theorem M3(zc:Array Value)(n:Nat):((Array.range (n*zc.size)).map fun i=>zc[i % zc.size]!).toList=(List.replicate n zc.toList).flatten:=by
 rw[Array.toList_map,Array.toList_range];induction n with
 |zero=>simp
 |succ n ih =>
  rw[List.replicate_succ',List.flatten_append,←ih,Nat.add_mul,Nat.one_mul,List.range_add,List.map_append];congr 1;simp only[List.map_map,List.flatten_cons,List.flatten_nil,List.append_nil];apply List.ext_getElem?;intro k;rw[List.getElem?_map];rcases Nat.lt_or_ge k zc.size with hk|hk
  ·rw[List.getElem?_range hk];have:(n*zc.size+k) % zc.size=k:=by rw[Nat.mul_comm,Nat.mul_add_mod,Nat.mod_eq_of_lt hk]
   simp [this,hk]
  ·rw[List.getElem?_eq_none (by simpa using hk)];simp [hk]
theorem Wf{w':World}{id b C:Nat}{φ':Pl}{e:TypeId}{sz:Nat}{rows:List (List Lf)}{vs:Array Value}(hφ:φ' id=some (some (b,C)))(hb:w'.heap[b]?=some (.cells vs e))(h0:0<sz)(hs:vs.size=C*sz)(hl:rows.length≤C)(hC:C≤maxLen)
  (hr:∀(i:Nat) (c:List Lf),rows[i]?=some c→c.length=sz∧∀(j:Nat) (l:Lf),c[j]?=some l→∃v,vs[i*sz+j]?=some v∧IR w' M l v):OR w' M φ' id ⟨false,sz,e,rows⟩:=by
 refine .inl ⟨h0,?_⟩;rw[hφ];exact⟨vs,hb,hs,hl,hC,fun h=>(by cases h),fun i c hc=>⟨(hr i c hc).1,fun j l hj=>by simpa using(hr i c hc).2 j l hj⟩⟩
end
section
variable {P : Program} {Γ : bn} {φ : Pl} {M : Nat → Prop} {hD h : Nat → Option Ob} {w : World} {base : Nat} {L : Nat → AV} {a : Act} {g : Prop} {hs : List Hint} {r : Pu} {o : Oper}
theorem Pp(parts:Array (Nat×Operand)):(parts.map fun(i,x)=>(i,a.eval x)).toList=parts.toList.map fun(i,x)=>(i,a.eval x):=by simp
theorem ZJ(dX:d_ r.ic)(hg:g)(hF:∀t,AR w M φ (L t) (a.tmps.getD t undef))(hW:Wd Γ φ M hD w){t:TypeId}{parts:Array (Nat×Operand)}(ho:o.op=.build t parts)(hf:Av P h base g L o.op hs=some r):
  Yd P Γ φ M hD w base r ((execOp a.eval o).run P w):=by
 rw[ho]at hf;simp only[Av]at hf;split at hf
 ·rename_i z pl cs o1 hz AK hcs;cases HH:QV pl z cs with
  |none=>rw[HH]at hf;cases hf
  |some out =>
   rw[HH]at hf;cases hf;obtain⟨i,zv,hi,hzv,Ur,h0,Pv,hl⟩:=w6 (w:=w) (M:=M) (φ:=φ) hz;have hp:=K2 hF hg hcs dX;obtain⟨oc,h1,h2⟩:=WA HH Pv hp;refine Yd.val (v:=.agg oc) ?_ rfl ⟨oc.toList,by simp,h2⟩ hW
   have hb:P.built t (parts.toList.map fun(i,x)=>(i,a.eval x))=some oc:=by
    unfold Program.built;unfold placesOf at AK;split at AK
    ·rename_i n e hu;cases Z1:P.info? e with
     |none=>rw[Z1]at AK;cases AK
     |some ie=>rw[Z1]at AK;cases AK;simp only[hi,hu,hzv,Z1];exact h1
    ·rename_i fs hu;cases hps:fs.toList.mapM (fun f=>(P.info? f.type).map fun i=>(f.offset,i.size))with
     |none=>rw[hps]at AK;cases AK
     |some ps =>
      rw[hps]at AK;cases AK;simp only[hi,hu,hzv,hps];have:(fun x:Nat=>ps.toArray[x]?)=fun x:Nat=>ps[x]?:=by funext x;simp
      rw[this];exact h1
    ·cases AK
   have hr:=run_build (P:=P) w t (parts.map fun(i,x)=>(i,a.eval x)) oc (by rw[Pp];exact hb)
   simp [execOp,ho,hr]
 ·cases hf
theorem QF(dX:d_ r.ic)(hg:g)(hF:∀t,AR w M φ (L t) (a.tmps.getD t undef))(hW:Wd Γ φ M hD w){t:TypeId}{n:Nat}{parts:Array (Nat×Operand)}(ho:o.op=.buildSlice t n parts)(hf:Av P h base g L o.op hs=some r)
  (tY:∀id,base≤id→id<base+r.news.length→φ id=none∧hD id=none):Yd P Γ φ M hD w base r ((execOp a.eval o).run P w):=by
 rw[ho]at hf;simp only[Av]at hf;split at hf
 ·rename_i e he;have hu:=mf he;split at hf
  ·rename_i ie z cs o1 Z1 hz hcs;obtain⟨i,zv,hi,hzv,Ur,h0,Pv,hl⟩:=w6 (w:=w) (M:=M) (φ:=φ) hz;obtain rfl:ie=i:=by rw[Z1]at hi;exact Option.some.inj hi
   cases Hm:(n == 0&&cs.isEmpty)with
   |true =>
    rw[Hm]at hf;cases hf;simp only[Bool.and_eq_true,beq_iff_eq,List.isEmpty_iff]at Hm;obtain⟨rfl,rfl⟩:=Hm;have hp:=K2 hF hg hcs dX;have hpe:parts=#[]:=by
     have:=hp.len;apply Array.eq_empty_of_size_eq_zero;simpa using this.symm
    subst hpe;refine Yd.grow (v:=.slice (some ⟨w.heap.size,0,none⟩) 0 0) (w':=w.alloc (.cells #[] e)) ?_ rfl (w7 w _) (IR.TG true ie.size _ 0 fun _=>rfl) hW
    have hem:∀f:Nat→Value,(Array.range 0).map f=#[]:=fun f=>Array.eq_empty_of_size_eq_zero (by simp)
    simp [execOp,ho,Instr.buildSlice,run_underlying hu,run_sizeOf Z1,Instr.fill,newRow,hem]
   |false =>
    rw[Hm]at hf;simp only[cond_false]at hf;cases hc:(Nat.ble (n*ie.size) 4096&&!(n == 0))with
    |false=>rw[hc]at hf;cases hf
    |true =>
     rw[hc]at hf;simp only[cond_true]at hf;simp only[Bool.and_eq_true,Nat.ble_eq,Bool.not_eq_true',beq_eq_false_iff_ne]at hc;split at hf
     ·rename_i cells HH;have common:d_ o1→∃oc:Array Value,Rs (LR w M φ) cells oc.toList∧oc.size=n*ie.size∧(Instr.buildSlice t n (parts.map fun(i,x)=>(i,a.eval x))).run P w=.ok (.slice (some ⟨w.heap.size,0,none⟩) n n) (w.alloc (.cells oc e)):=by
       intro SY;have hp:=K2 hF hg hcs SY;have hz2:Rs (LR w M φ) (List.replicate n z).flatten ((Array.range (n*zv.cells.size)).map fun i=>zv.cells[i % zv.cells.size]!).toList:=by rw[M3];exact Pv.flat n
       obtain⟨oc,h1,h2⟩:=WA HH hz2 hp;have hol:oc.size=n*ie.size:=by
        have:=h2.len;rw[←Array.length_toList,←this];have QpN:∀{cs:List (Nat×List Lf)} {z out:List Lf},QV (fun i=>some (i*ie.size,ie.size)) z cs=some out→out.length=z.length:=by
         intro cs;induction cs with
         |nil=>intro z out h;cases h;rfl
         |cons c cs ih =>
          obtain⟨i,v⟩:=c;intro z out h;simp only[QV]at h;cases hq:(v.length == ie.size&&Nat.ble (i*ie.size+ie.size) z.length)with
          |false=>rw[hq]at h;cases h
          |true =>
           rw[hq]at h;simp only[Bool.and_eq_true,beq_iff_eq,Nat.ble_eq]at hq;have:=ih h;rw[this];simp;omega
        rw[QpN HH,uG (sz:=ie.size) (fun c hc=>by rw[List.eq_of_mem_replicate hc];exact hl)];simp
       have ec:(Instr.buildSlice t n (parts.map fun(i,x)=>(i,a.eval x))).run P w=.ok (.slice (some ⟨w.heap.size,0,none⟩) n n) (w.alloc (.cells oc e)):=by
        refine run_buildSlice w t e n _ oc ie zv hu Z1 hzv (by omega) (by have:n*ie.size≠0:=Nat.mul_ne_zero hc.2 (by omega);exact this) ?_
        rw[Pp,←Ur];rw[←Ur]at h1;exact h1
       exact⟨oc,h2,hol,ec⟩
      cases Qf9:cells.all S3 with
      |false =>
       rw[Qf9]at hf;simp only[cond_false]at hf;split at hf
       ·cases hf;obtain⟨oc,h2,hol,ec⟩:=common dX;rw[Nat.one_mul]at hol;have hb:=w7 w (.cells oc e);have hf0:=tY base (Nat.le_refl _) (by simp)
        have ZZ:Ex w M φ (w.alloc (.cells oc e)) M (K9 φ base (some (w.heap.size,1))):=⟨fun b hm=>hb.block b (hW.mlt b hm),fun _ h=>h,wa _ hf0.1⟩
        have IM:cells.length=ie.size:=by rw[h2.len];simpa using hol
        refine Yd.new (b:=w.heap.size) (C:=1) (v:=.slice (some ⟨w.heap.size,0,none⟩) 1 1) (by simp [execOp,ho,ec]) rfl hW tY hb (Nat.le_refl _) (by simp) ?_ ?_
        ·exact Qfc dX hg hF hW (fB _ _ _) (heap_alloc_new w _) (h2.mono fun _ _ h=>LR.mono ZZ h) (by omega)
        ·exact .inl ⟨w.heap.size,1,fB _ _ _,by simp,by omega⟩
       ·cases hf
      |true =>
       rw[Qf9]at hf;cases hf;obtain⟨oc,h2,hol,ec⟩:=common dX;have hb:=w7 w (.cells oc e);have hf0:=tY base (Nat.le_refl _) (by simp)
       have ZZ:Ex w M φ (w.alloc (.cells oc e)) M (K9 φ base (some (w.heap.size,n))):=⟨fun b hm=>hb.block b (hW.mlt b hm),fun _ h=>h,wa _ hf0.1⟩
       refine Yd.new (b:=w.heap.size) (C:=n) (v:=.slice (some ⟨w.heap.size,0,none⟩) n n) (by simp [execOp,ho,ec]) rfl hW tY hb (Nat.le_refl _) (by simp) ?_ ?_
       ·refine Wf (fB _ _ _) (heap_alloc_new w _) h0 hol (by rw[UX];exact Nat.le_refl _) (by have:n≤n*ie.size:=Nat.le_mul_of_pos_right _ h0;simp only[maxLen];omega) fun i c IL=>?_
        obtain⟨ry,rfl⟩:=UW IL;have IM:cells.length=n*ie.size:=by rw[h2.len];simpa using hol
        have hle:(i+1)*ie.size≤n*ie.size:=Nat.mul_le_mul_right _ ry;rw[Nat.add_mul,Nat.one_mul]at hle;refine⟨by simp;omega,fun j l hj=>?_⟩
        have hj2:cells[i*ie.size+j]?=some l:=by
         rw[List.getElem?_take]at hj;split at hj
         ·rw[List.getElem?_drop]at hj;exact hj
         ·cases hj
        obtain⟨v,hv,hlr⟩:=h2.get hj2;refine⟨v,by simpa using hv,?_⟩
        exact(LR.S2 (List.all_eq_true.1 Qf9 l (List.mem_of_getElem? hj2)) hlr).mono ZZ.blk ZZ.sub
       ·exact .inl ⟨w.heap.size,n,fB _ _ _,by simp,by omega⟩
     ·cases hf
  ·cases hf
 ·cases hf
end
end
section
open Go.RowKit
section
variable {P : Program} {Γ : bn} {φ : Pl} {M : Nat → Prop} {hD h : Nat → Option Ob} {w : World} {base : Nat} {L : Nat → AV} {a : Act} {g : Prop} {hs : List Hint} {r : Pu} {o : Oper}
theorem uU{R:Lf→Value→Prop}{b sz:Nat}:∀(rows:List (List Lf)) (k:Nat),(∀(i:Nat) (c:List Lf),rows[i]?=some c→c.length=sz)→
  (∀(i:Nat) (c:List Lf) (j:Nat) (l:Lf),rows[i]?=some c→c[j]?=some l→∃v,w.cell? ⟨b,k+i*sz+j,none⟩=some v∧R l v)→∃vs,Rs R rows.flatten vs∧w.rangeAt b k vs
 | [],k,_,_=>⟨[],trivial,fun j v h=>by simp at h⟩
 |r ::rows,k,hs,h=>by
  obtain⟨v1,h1,h2⟩:=QaC (w:=w) (R:=R) (b:=b) r k fun j l hj=>by simpa using h 0 r j l rfl hj
  obtain⟨v2,h3,h4⟩:=uU rows (k+sz) (fun i c hc=>hs (i+1) c (by simpa using hc)) fun i c j l hc hj=>by
   obtain⟨v,hv,hr⟩:=h (i+1) c j l (by simpa using hc) hj
   exact⟨v,by rw[show k+sz+i*sz+j=k+(i+1)*sz+j by rw[Nat.add_mul];omega];exact hv,hr⟩
  have hl:v1.length=sz:=by rw[←h1.len];exact hs 0 r rfl
  refine⟨v1++v2,h1.append h3,fun j u hj=>?_⟩
  rcases Nat.lt_or_ge j v1.length with mj|QW
  ·rw[List.getElem?_append_left mj]at hj;exact h2 j u hj
  ·rw[List.getElem?_append_right QW]at hj;have:=h4 _ _ hj;rw[show k+j=k+sz+(j-v1.length) by omega];exact this
theorem XI: ∀{z z':List Lf} {vs:List Value},QbG z z' = true→Rs (LR w M φ) z vs→Rs (IR w M) z' vs
  | [],[],[],_,_ => trivial
  | x :: xs, y :: ys, v :: vs, h, hr => by
    simp only[QbG,Bool.and_eq_true]at h;refine⟨?_,XI h.2 hr.2⟩;have h1:= h.1;have hx:= hr.1;cases x <;> cases y <;> first
      |(cases h1;done)
      |skip
    · simp only[Bool.and_eq_true,decide_eq_true_eq,beq_iff_eq]at h1;obtain⟨rfl,rfl⟩:= h1;exact hx
    · simp only[beq_iff_eq]at h1;subst h1;exact hx
    · simp only[Bool.and_eq_true,beq_iff_eq]at h1;rename_i s1 s2;have e1:s1 = s2:= by
        obtain⟨h1,h2⟩:= h1;cases s1 with |mk d1 => cases s2 with |mk d2 =>
        have h3:d1.size = 0:= h1;have h4:d2.size = 0:= h2;rw[Array.eq_empty_of_size_eq_zero h3,Array.eq_empty_of_size_eq_zero h4]
      subst e1;exact hx
    · rename_i cl sz rows;cases cl <;> cases rows <;> first
        |(cases h1;done)
        | (have CJ : IR w M .dO v := hx
           cases CJ;exact IR.TG false sz none 0 fun h => by cases h)
  | [],_ ::_,_,h,_ => by cases h
  |_ ::_,[],_,h,_ => by cases h
  | [],[],_ ::_,_,h => h.elim
  |_ ::_,_,[],_,h => h.elim
theorem RK(dX:d_ r.ic)(hg:g)(hF:∀t,AR w M φ (L t) (a.tmps.getD t undef))(hW:Wd Γ φ M hD w){t:TypeId}{x y:Operand}(ho:o.op=.makeSlice t x y)(hf:Av P h base g L o.op hs=some r)
  (tY:∀id,base≤id→id<base+r.news.length→φ id=none∧hD id=none):Yd P Γ φ M hD w base r ((execOp a.eval o).run P w):=by
 rw[ho]at hf;simp only[Av]at hf;split at hf
 ·rename_i e k n o1 k' m o2 z' R jC he h1 h2;split at hf
  ·rename_i ie z Z1 hz;cases hwk:QbG z z' with
   |false=>rw[hwk]at hf;cases hf
   |true =>
    rw[hwk]at hf;cases hf;simp only[bC,d_]at dX;obtain⟨i,zv,hi,hzv,Ur,h0,Pv,hl⟩:=w6 (w:=w) (M:=M) (φ:=φ) hz;obtain rfl:ie=i:=by rw[Z1]at hi;exact Option.some.inj hi
    have hx:IR w M (.int k n) (a.eval x):=da hF h1 dX.1.1 hg;have hy:IR w M (.int k' m) (a.eval y):=da hF h2 dX.1.2 hg;generalize hvx:a.eval x=vx at hx;generalize hvy:a.eval y=vy at hy;cases hx;cases hy;obtain⟨Hm,hnm,Qs6,hmb,hR,-⟩:=dX.2;have hu:=mf he;have hw1:IntKind.i64.wrap n=n:=IntWalk.i64_in n (by omega)
    have hw2:IntKind.i64.wrap m=m:=IntWalk.i64_in m (by omega)
    have hrz:=XI hwk Pv;have hzl:z'.length=ie.size:=by rw[hrz.len];simpa using Ur
    let cur:Array Value:=(Array.range (m.toNat*ie.size)).map fun i=>zv.cells[i % zv.cells.size]!
    have QdM:cur.toList=(List.replicate m.toNat zv.cells.toList).flatten:=by show((Array.range (m.toNat*ie.size)).map _).toList=_;rw[←Ur];exact M3 _ _
    have hcs:cur.size=m.toNat*ie.size:=by show((Array.range (m.toNat*ie.size)).map _).size=_;simp
    have ec:(execOp a.eval o).run P w=.ok (.value (.slice (some ⟨w.heap.size,0,none⟩) n.toNat m.toNat)) (w.alloc (.cells cur e)):=by
     have XO:¬(281474976710656<(ie.bytes:Int)*m):=by omega
     have c1:¬(m<0):=by omega
     have c2:¬(n<0):=by omega
     have c3:¬(m<n):=by omega
     by_cases hz0:m.toNat*ie.size=0
     ·have hem:∀f:Nat→Value,(Array.range (m.toNat*ie.size)).map f=#[]:=fun f=>Array.eq_empty_of_size_eq_zero (by simp [hz0])
      have Qni:cur=#[]:=hem _;have QpI:∀f:Nat→Value,(Array.range 0).map f=#[]:=fun f=>Array.eq_empty_of_size_eq_zero (by simp)
      simp [execOp,ho,hvx,hvy,Instr.makeSlice,run_underlying hu,asInt,asIntOf,typeInfo,Z1,hw1,hw2,XO,c1,c2,c3,run_sizeOf Z1,newRow,Qni,QpI,hz0]
     ·simp [execOp,ho,hvx,hvy,Instr.makeSlice,run_underlying hu,asInt,asIntOf,typeInfo,Z1,hw1,hw2,XO,c1,c2,c3,run_sizeOf Z1,zeroValue,hzv,newRow,hz0];rfl
    have hf0:=tY base (Nat.le_refl _) (by simp)
    have hb:=w7 w (.cells cur e);have ZZ:Ex w M φ (w.alloc (.cells cur e)) M (K9 φ base (some (w.heap.size,m.toNat))):=⟨fun b hm=>hb.block b (hW.mlt b hm),fun _ h=>h,wa _ hf0.1⟩
    have Un:R.length=n.toNat:=by rw[←hR];simp
    refine Yd.new (b:=w.heap.size) (C:=m.toNat) ec rfl hW tY hb (Nat.le_refl _) (by simp) ?_ ?_
    ·refine Wf (fB _ _ _) (heap_alloc_new w _) h0 hcs (by omega) (by simp only[maxLen];omega) fun i c hc=>?_
     rw[←hR]at hc;have mj:=(List.getElem?_eq_some_iff.1 hc).1;simp only[List.length_replicate]at mj;have hcz:c=z':=by
      rw[List.getElem?_replicate,if_pos mj]at hc;exact(Option.some.inj hc).symm
     subst hcz;refine⟨hzl,fun j l hj=>?_⟩
     obtain⟨v,hv,hlr⟩:=hrz.get hj;refine⟨v,?_,hlr.mono ZZ.blk ZZ.sub⟩;rw[←Array.getElem?_toList,QdM];exact Dd (sz:=ie.size) (rows:=List.replicate m.toNat zv.cells.toList) (fun c hc=>by rw[List.eq_of_mem_replicate hc];simpa using Ur) (by rw[List.getElem?_replicate,if_pos (by omega)]) hv
    ·exact .inl ⟨w.heap.size,m.toNat,fB _ _ _,by rw[Un];simp,by omega⟩
  ·cases hf
 ·cases hf
theorem Be{x:Option Operand}{c:Option Cm}{q:Option Int}(hc:QmS w M φ a x c)(hb:Qft c=some q):(x=none∧q=none)∨∃y k n,x=some y∧q=some n∧a.eval y=.int k n:=by
 cases x with
 |none =>
  cases c with
  |none=>cases hb;exact .inl ⟨rfl,rfl⟩
  |some c=>exact hc.elim
 |some x =>
  cases c with
  |none=>exact hc.elim
  |some c =>
   unfold Qft at hb;split at hb
   ·rename_i h;cases h
   ·rename_i k n h;cases h;cases hb;have hx:IR w M (.int k n) (a.eval x):=hc;generalize hv:a.eval x=xv at hx;cases hx;exact .inr ⟨x,k,n,rfl,rfl,hv⟩
   ·cases hb
theorem zF{isS:Bool}{len cap:Nat}{lo hi mx:Option Value}{ql qh qm:Option Int}(hl:(lo=none∧ql=none)∨∃k n,lo=some (.int k n)∧ql=some n)(hh:(hi=none∧qh=none)∨∃k n,hi=some (.int k n)∧qh=some n)
  (hm:(mx=none∧qm=none)∨∃k n,mx=some (.int k n)∧qm=some n) (hmh:qm.isSome→qh.isSome) (h1:0≤ql.getD 0) (h2:ql.getD 0≤qh.getD len) (h3:qh.getD len≤qm.getD cap) (h4:qm.getD cap≤cap) (h5:(len:Int)≤cap):
  (Instr.sliceBounds isS len cap lo hi mx).run P w=.ok ((ql.getD 0).toNat,(qh.getD len).toNat,(qm.getD cap).toNat) w:=by
 have hb:∀(k:IntKind) (n:Int) (y:Nat) (code:BoundsCode),0≤n→n≤(y:Int)→(Instr.sliceBound (.int k n) y code).run P w=.ok n.toNat w:=fun k n y code e1 e2=>by
  simp [Instr.sliceBound,asIntOf,e1,e2]
 unfold Instr.sliceBounds;rcases hm with⟨rfl,rfl⟩|⟨km,m,rfl,rfl⟩
 ·rcases hh with⟨rfl,rfl⟩|⟨kh,n,rfl,rfl⟩
  ·rcases hl with⟨rfl,rfl⟩|⟨kl,l,rfl,rfl⟩
   ·simp
   ·simp only[Option.getD_some,Option.getD_none]at h1 h2 h3 h4 ⊢;simp [hb kl l len _ h1 h2]
  ·rcases hl with⟨rfl,rfl⟩|⟨kl,l,rfl,rfl⟩
   ·simp only[Option.getD_some,Option.getD_none]at h1 h2 h3 h4 ⊢;simp [hb kh n cap _ h2 h3]
   ·simp only[Option.getD_some,Option.getD_none]at h1 h2 h3 h4 ⊢;simp [hb kh n cap _ (by omega) h3,hb kl l n.toNat _ h1 (by omega)]
 ·rcases hh with⟨rfl,rfl⟩|⟨kh,n,rfl,rfl⟩
  ·have:=hmh rfl;cases this
  ·rcases hl with⟨rfl,rfl⟩|⟨kl,l,rfl,rfl⟩
   ·simp only[Option.getD_some,Option.getD_none]at h1 h2 h3 h4 ⊢;simp [hb km m cap _ (by omega) h4,hb kh n m.toNat _ h2 (by omega)]
   ·simp only[Option.getD_some,Option.getD_none]at h1 h2 h3 h4 ⊢;simp [hb km m cap _ (by omega) h4,hb kh n m.toNat _ (by omega) (by omega),hb kl l n.toNat _ h1 (by omega)]
theorem ZG{t:TypeId}{s:ByteArray}{lo hi:Option Value}{l hh m:Nat}(hu:P.underlying t=some .string)(hb:(Instr.sliceBounds false s.size s.size lo hi none).run P w=.ok (l,hh,m) w):(Instr.sliceAt t (.string s) lo hi none).run P w=.ok (.string (s.extract l hh)) w:=by
 simp [Instr.sliceAt,run_underlying hu,Instr.slice,hb]
theorem Cz{t e:TypeId}{A:Option Addr}{len cap:Nat}{lo hi mx:Option Value}{l hh m:Nat}{i:TypeInfo}(hu:P.underlying t=some (.slice e))(hi2:P.info? e=some i)(hb:(Instr.sliceBounds true len cap lo hi mx).run P w=.ok (l,hh,m) w):
  (Instr.sliceAt t (.slice A len cap) lo hi mx).run P w=.ok (.slice (if m=l then A else A.map (·.add (l*i.size))) (hh-l) (m-l)) w:=by
 simp [Instr.sliceAt,run_underlying hu,Instr.slice,hb,run_sizeOf hi2]
theorem ZM(dX:d_ r.ic)(hg:g)(hF:∀t,AR w M φ (L t) (a.tmps.getD t undef))(hW:Wd Γ φ M hD w){t:TypeId}{x:Operand}{lo hi mx:Option Operand}(ho:o.op=.slice t x lo hi mx)(hf:Av P h base g L o.op hs=some r):
  Yd P Γ φ M hD w base r ((execOp a.eval o).run P w):=by
 rw[ho]at hf;simp only[Av]at hf;have ec:∀v,(Instr.sliceAt t (a.eval x) (lo.map a.eval) (hi.map a.eval) (mx.map a.eval)).run P w=.ok v w→(execOp a.eval o).run P w=.ok (.value v) w:=fun v hv=>by simp [execOp,ho,hv]
 split at hf
 ·rename_i c o0 lo' o1 Uo o2 mx' o3 h0 h1 h2 h3;cases Vi:SM P h t c lo' Uo mx' hs with
  |none=>rw[Vi]at hf;cases hf
  |some r0 =>
   rw[Vi]at hf;cases hf;simp only[bC]at dX;obtain⟨⟨⟨⟨p0,p1⟩,p2⟩,p3⟩,p4⟩:=dX;have hx:=da hF h0 p0 hg;have e1:=W8 hF hg h1 p1;have e2:=W8 hF hg h2 p2;have e3:=W8 hF hg h3 p3;have conv:∀{x:Option Operand} {q:Option Int},((x=none∧q=none)∨∃y k n,x=some y∧q=some n∧a.eval y=.int k n)→((x.map a.eval=none∧q=none)∨∃k n,x.map a.eval=some (.int k n)∧q=some n):=fun hh=>by
    rcases hh with⟨rfl,rfl⟩|⟨y,k,n,rfl,rfl,e⟩
    ·exact .inl ⟨rfl,rfl⟩
    ·exact .inr ⟨k,n,by simp [e],rfl⟩
   unfold SM at Vi;split at Vi
   ·rename_i s ql qh XO XP hb3;split at Vi
    ·rename_i hu;cases Vi;obtain⟨q1,q2,q3,-⟩:=p4;have CJ:IR w M (.str s) (a.eval x):=hx;generalize hv:a.eval x=xv at CJ ec;cases CJ;have c1:=conv (Be e1 XO);have c2:=conv (Be e2 XP);have c3:=conv (Be e3 hb3);have hmx:mx.map a.eval=none:=by rcases c3 with⟨h,_⟩|⟨k,n,_,h⟩;exact h;cases h
     simp only[hmx]at ec;refine Yd.val (ec _ (ZG hu (zF (qm:=none) c1 c2 (.inl ⟨rfl,rfl⟩) (fun h=>by cases h) q1 q2 q3 (Int.le_refl _) (Int.le_refl _)))) rfl (IR.str _) hW
    ·cases Vi
   ·rename_i ql qh XO XP hb3;split at Vi
    ·rename_i e he;cases hts:KI P e with
     |none=>rw[hts]at Vi;cases Vi
     |some sz =>
      rw[hts]at Vi;cases Vi;obtain⟨q1,q2,q3,-⟩:=p4;obtain⟨i,hi,_⟩:=ra hts;have hu:=mf he;have CJ:IR w M .dO (a.eval x):=hx;generalize hv:a.eval x=xv at CJ ec;cases CJ;have c1:=conv (Be e1 XO);have c2:=conv (Be e2 XP);have c3:=conv (Be e3 hb3);have hmx:mx.map a.eval=none:=by rcases c3 with⟨h,_⟩|⟨k,n,_,h⟩;exact h;cases h
      simp only[hmx]at ec;have hlo:(ql.getD 0).toNat=0:=by omega
      have hhi:(qh.getD 0).toNat=0:=by omega
      have S0:=Cz (A:=none) hu hi (zF (P:=P) (w:=w) (isS:=true) (len:=0) (cap:=0) (qm:=none) c1 c2 (.inl ⟨rfl,rfl⟩) (fun h=>by cases h) q1 (by simpa using q2) (by simpa using q3) (by simp) (by simp))
      refine Yd.val (ec _ S0) rfl ?_ hW;simp only[Option.map_none,ite_self];have z1:(qh.getD ((0:Nat):Int)).toNat-(ql.getD 0).toNat=0:=by simp only[Int.natCast_zero];omega
      have z2:((none:Option Int).getD ((0:Nat):Int)).toNat-(ql.getD 0).toNat=0:=by simp
      rw[z1,z2];exact IR.dO
    ·cases Vi
   ·rename_i cl sz rows ql qh qm XO XP hb3;split at Vi
    ·rename_i e R jC he;cases nQ:(KI P e == some sz||rows.isEmpty&&(KI P e).isSome)with
     |false=>rw[nQ]at Vi;cases Vi
     |true =>
      rw[nQ]at Vi;cases Vi;simp only[bC,d_]at p4;obtain⟨pm,q1,q2,q3,q4,q5,hR,-⟩:=p4;have hu:=mf he;have c1:=conv (Be e1 XO);have c2:=conv (Be e2 XP);have c3:=conv (Be e3 hb3);have hmh:qm.isSome→qh.isSome:=fun hs=>by
       cases qm with
       |none=>cases hs
       |some m=>cases qh with
        |none=>exact pm.1.elim
        |some n=>rfl
      have QdQ:∀m,qm=some m→qh=some m:=fun m hm=>by
       subst hm;cases qh with
       |none=>exact pm.1.elim
       |some n=>have:m=n:=pm.1;rw[this]
      -- V7 value and its cells
      have Vj:∃i,P.info? e=some i∧(rows≠[]→i.size=sz):=by
       simp only[Bool.or_eq_true,beq_iff_eq]at nQ;rcases nQ with nQ|nQ
       ·obtain⟨i,hi,hs⟩:=ra nQ;exact⟨i,hi,fun _=>hs⟩
       ·simp only[Bool.and_eq_true,List.isEmpty_iff,Option.isSome_iff_exists]at nQ;obtain⟨he0,n,hn⟩:=nQ;obtain⟨i,hi,_⟩:=ra hn;exact⟨i,hi,fun h=>absurd he0 h⟩
      obtain⟨i,hi,his⟩:=Vj;have CJ:IR w M (.sl cl sz rows) (a.eval x):=hx;have hlen:R.length=(qh.getD rows.length).toNat-(ql.getD 0).toNat:=by
       rw[←hR];simp;omega
      generalize hv:a.eval x=xv at CJ ec;cases CJ with
      |TG _ _ A cap Qf3 =>
       simp only[List.length_nil,Int.natCast_zero]at q1 q2 q3 q4 q5 hlen hR;have YT:R=[]:=by rw[←hR];simp
       subst YT;have SX:∀m,qm=some m→m=0:=fun m hm=>by rw[hm]at q4 q5;simp only[Option.getD_some]at q4 q5;rw[QdQ m hm]at q2 q3;simp only[Option.getD_some]at q2 q3;omega
       have hh0:qh.getD 0=0:=by omega
       refine Yd.val (ec _ (Cz hu hi (zF c1 c2 c3 hmh q1 (by simpa using q2) (by
        cases qm with
        |none=>simp only[Option.getD_none];simp only[Int.natCast_zero];omega
        |some m=>have:=SX m rfl;subst this;simp only[Option.getD_some];simp only[Int.natCast_zero];omega) (by
        cases qm with
        |none=>simp
        |some m=>have:=SX m rfl;subst this;simp) (by simp)))) rfl ?_ hW
       have hlo:(ql.getD 0).toNat=0:=by omega
       have hhi:(qh.getD ((0:Nat):Int)).toNat=0:=by simp only[Int.natCast_zero];omega
       rw[hlo,hhi];refine IR.TG _ sz _ _ fun IM=>?_
       cases qm with
       |some m=>have:=SX m rfl;subst this;rfl
       |none =>
        simp only[Option.isSome_none,Bool.false_or,Bool.and_eq_true]at IM;rw[Qf3 IM.1];rfl
      |sl _ _ _ b k cap vs hm hlc IM Oi hcc hrr =>
       have hhl:(qh.getD rows.length)≤rows.length:=q3;refine Yd.val (ec _ (Cz hu hi (zF c1 c2 c3 hmh q1 q2 (by
        cases qm with
        |none=>simp only[Option.getD_none];omega
        |some m=>rw[QdQ m rfl];simp) (by
        cases qm with
        |none=>simp
        |some m=>simp only[Option.getD_some]at q5 ⊢;omega) (by omega)))) rfl ?_ hW
       by_cases YT:R=[]
       ·subst YT;simp only[List.length_nil]at hlen;have:(qh.getD rows.length).toNat-(ql.getD 0).toNat=0:=hlen.symm;rw[this];refine IR.TG _ sz _ _ fun QaL=>?_
        cases qm with
        |some m=>rw[QdQ m rfl]at this q2;simp only[Option.getD_some]at this q2 ⊢;omega
        |none =>
         simp only[Option.isSome_none,Bool.false_or,Bool.and_eq_true,Option.isNone_iff_eq_none]at QaL;rw[QaL.2]at this;have h9:=IM QaL.1;simp only[Option.getD_none]at this ⊢;omega
       ·have Qj5:0<R.length:=List.length_pos_iff.2 YT;have sR:¬((qm.getD cap).toNat=(ql.getD 0).toNat):=by
         cases qm with
         |none=>simp only[Option.getD_none];omega
         |some m=>rw[QdQ m rfl]at hlen;simp only[Option.getD_some]at hlen ⊢;omega
        have Qqp:rows≠[]:=fun e=>by subst e;rw[←hR]at Qj5;simp at Qj5
        rw[if_neg sR,his Qqp,Option.map_some,Addr.add_mid,←hlen];have Qf7:∀(i:Nat) (c:List Lf),R[i]?=some c→rows[(ql.getD 0).toNat+i]?=some c:=fun i c hc=>by
         rw[←hR,List.getElem?_take]at hc;split at hc
         ·rw[List.getElem?_drop]at hc;exact hc
         ·cases hc
        refine IR.sl _ sz R b _ _ (fun i j=>vs ((ql.getD 0).toNat+i) j) hm ?_ ?_ (fun i c hc=>Oi _ c (Qf7 i c hc)) (fun i c j l hc hj=>?_) (fun i c j l hc hj=>hrr _ c j l (Qf7 i c hc) hj)
        ·cases qm with
         |none=>simp only[Option.getD_none];omega
         |some m=>rw[QdQ m rfl]at hlen;simp only[Option.getD_some]at hlen ⊢;omega
        ·intro QaL;cases qm with
         |some m=>rw[QdQ m rfl]at hlen;simp only[Option.getD_some]at hlen ⊢;omega
         |none =>
          simp only[Option.isSome_none,Bool.false_or,Bool.and_eq_true,Option.isNone_iff_eq_none]at QaL;have h9:=IM QaL.1;rw[QaL.2]at hlen;simp only[Option.getD_none]at hlen ⊢;omega
        ·have:=hcc _ c j l (Qf7 i c hc) hj;rw[show k+(ql.getD 0).toNat*sz+i*sz+j=k+((ql.getD 0).toNat+i)*sz+j by rw[Nat.add_mul];omega]
         exact this
    ·cases Vi
   ·cases Vi
 ·cases hf
end
end
section
open Go.RowKit
section
variable {P : Program} {Γ : bn} {φ : Pl} {M : Nat → Prop} {hD h : Nat → Option Ob} {w : World} {base : Nat} {L : Nat → AV} {a : Act} {g : Prop} {hs : List Hint} {r : Pu} {o : Oper}
theorem Qx{l:Lf}{v:Value}{sz size:Nat}{rows:List (List Lf)}{ob:List Prop}{tx e':TypeId}(hW:Wd Γ φ M hD w)(gC:∀id ob,h id=some ob→hD id=some ob)(hk:P.underlying tx=some (.slice e'))(hr:rowsOf h l=some (sz,rows,ob))(ho:d_ ob)
  (hs:sz=size∨rows=[]) (hv:LR w M φ l v) (hIR:∀id Z8 off len b C,l=.os id Z8 off len→φ id=some (some (b,C))→∀c∈rows,∀x∈c,∀u,IR w M x u→IR w M x u):
  ∃news,Src P size tx v rows.length news w∧Rs (IR w M) rows.flatten news∧(∀(i:Nat) (c:List Lf),rows[i]?=some c→c.length=size):=by
 have D0:∀{c:Nat} {A:Option Addr},∃news,Src P size tx (.slice A 0 c) 0 news w∧Rs (IR w M) ([]:List Lf) news:=fun{c A}=>by
  cases A with
  |none=>exact⟨[],Src.ofNil w hk c,trivial⟩
  |some A=>exact⟨[],Src.ofSlice w hk A 0 c [] (by simp) (fun j u h=>by simp at h) (fun u h=>by simp at h),trivial⟩
 cases l with
 |dO =>
  simp only[rowsOf]at hr;cases hr;have R2:IR w M .dO v:=hv;cases R2;obtain⟨news,h1,h2⟩:=D0 (c:=0) (A:=none);exact⟨news,h1,h2,fun i c h=>by simp at h⟩
 |sl cl s rs =>
  simp only[rowsOf]at hr;cases hr;have R2:IR w M (.sl cl sz rows) v:=hv;cases R2 with
  |TG _ _ A cap _=>obtain⟨news,h1,h2⟩:=D0 (c:=cap) (A:=A);exact⟨news,h1,h2,fun i c h=>by simp at h⟩
  |sl _ _ _ b k cap vs hm hlc IM Oi hcc hrr =>
   by_cases sR:rows=[]
   ·subst sR;obtain⟨news,h1,h2⟩:=D0 (c:=cap) (A:=some ⟨b,k,none⟩);exact⟨news,h1,h2,fun i c h=>by simp at h⟩
   ·obtain rfl:sz=size:=hs.resolve_right sR;obtain⟨news,h1,h2⟩:=uU (R:=IR w M) (b:=b) (sz:=sz) rows k Oi fun i c j l h1 h2=>⟨_,hcc i c j l h1 h2,hrr i c j l h1 h2⟩
    refine⟨news,Src.ofSlice w hk ⟨b,k,none⟩ rows.length cap news ?_ (fun j u hj=>by rw[Addr.add_mid];exact h2 j u hj) ?_,h1,Oi⟩
    ·rw[←h1.len,uG (mem_row Oi)]
    ·exact Rs.Td (φ:=φ) (h1.mono fun _ _ h=>IR.lr h)
 |os id s off len =>
  simp only[rowsOf]at hr;split at hr
  ·rename_i o1 SY;cases hc:(off == 0&&!o1.box&&o1.sz == s)with
   |false=>rw[hc]at hr;cases hr
   |true =>
    rw[hc]at hr;cases hr;simp only[Bool.and_eq_true,beq_iff_eq,Bool.not_eq_true']at hc;obtain⟨⟨rfl,tS⟩,nQ⟩:=hc;have hO:=hW.ic id o1 (gC id o1 SY);have hlen:=ho.1;have R2:zH w M φ (.os id sz 0 len) v:=hv;rcases R2 with⟨b,C,hφ,rfl,hle⟩|⟨hφ,_,rfl,A,rfl⟩
    ·have PV:=fun i c (hc:o1.rows[i]?=some c)=>hO.cell (.inl tS) hφ hc
     have WQ:∀(i:Nat) (c:List Lf),o1.rows[i]?=some c→c.length=sz:=fun i c hc=>by
      obtain⟨_,h1⟩:=hO.oc (.inl tS);rw[hφ]at h1;obtain⟨cur,_,_,_,_,_,g6⟩:=h1;rw[(g6 i c hc).1,nQ]
     by_cases sR:o1.rows=[]
     ·have WI:len=0:=by rw[←hlen,sR];rfl
      rw[sR,WI];obtain⟨news,h1,h2⟩:=D0 (c:=C-0) (A:=some ⟨b,0*sz,none⟩);exact⟨news,h1,h2,fun i c h=>by simp at h⟩
     ·obtain rfl:sz=size:=hs.resolve_right sR;obtain⟨news,h1,h2⟩:=uU (R:=IR w M) (b:=b) (sz:=sz) o1.rows 0 WQ fun i c j l hc hj=>by
       obtain⟨v,hv,hr⟩:=PV i c hc j l hj;rw[tS]at hr;exact⟨v,by rw[Nat.zero_add,←nQ];exact hv,by simpa using hr⟩
      refine⟨news,?_,h1,WQ⟩;rw[hlen,Nat.zero_mul];refine Src.ofSlice w hk ⟨b,0,none⟩ len (C-0) news ?_ (fun j u hj=>by rw[Addr.add_mid];exact h2 j u hj) ?_
      ·rw[←h1.len,uG (mem_row WQ),hlen]
      ·exact Rs.Td (φ:=φ) (h1.mono fun _ _ h=>IR.lr h)
    ·have Ld:o1.rows=[]:=List.eq_nil_of_length_eq_zero hlen;rw[Ld];obtain⟨news,h1,h2⟩:=D0 (c:=0) (A:=A);exact⟨news,h1,h2,fun i c h=>by simp at h⟩
  ·cases hr
 |_=>simp only[rowsOf]at hr;cases hr
theorem Qex{l:Lf}{v:Value}{sz size:Nat}{rows:List (List Lf)}{ob:List Prop}(hW:Wd Γ φ M hD w)(hr:rowsOf hD l=some (sz,rows,ob))(ho:d_ ob)(hs:sz=size∨rows=[])(hv:LR w M φ l v):
  ∃news,Rs (IR w M) rows.flatten news∧(∀(i:Nat) (c:List Lf),rows[i]?=some c→c.length=size)∧∃A cap,v=.slice A rows.length cap∧(rows≠[]→∃ad,A=some ad∧∀j u,news[j]?=some u→w.cell? (ad.add j)=some u):=by
 have D0:∀{c:Nat} {A:Option Addr},∃news,Rs (IR w M) ([]:List (List Lf)).flatten news∧(∀(i:Nat) (c:List Lf),([]:List (List Lf))[i]?=some c→c.length=size)∧∃A' cap,Value.slice A 0 c=.slice A' ([]:List (List Lf)).length cap∧(([]:List (List Lf))≠[]→∃ad,A'=some ad∧∀j u,news[j]?=some u→w.cell? (ad.add j)=some u):=fun{c A} =>
  ⟨[],trivial,fun i c h=>by simp at h,A,c,rfl,fun h=>absurd rfl h⟩
 cases l with
 |dO =>
  simp only[rowsOf]at hr;cases hr;have R2:IR w M .dO v:=hv;cases R2;exact D0
 |sl cl s rs =>
  simp only[rowsOf]at hr;cases hr;have R2:IR w M (.sl cl sz rows) v:=hv;cases R2 with
  |TG _ _ A cap _=>exact D0
  |sl _ _ _ b k cap vs hm hlc IM Oi hcc hrr =>
   by_cases sR:rows=[]
   ·subst sR;exact D0
   ·obtain rfl:sz=size:=hs.resolve_right sR;obtain⟨news,h1,h2⟩:=uU (R:=IR w M) (b:=b) (sz:=sz) rows k Oi fun i c j l h1 h2=>⟨_,hcc i c j l h1 h2,hrr i c j l h1 h2⟩
    exact⟨news,h1,Oi,_,cap,rfl,fun _=>⟨⟨b,k,none⟩,rfl,fun j u hj=>by rw[Addr.add_mid];exact h2 j u hj⟩⟩
 |os id s off len =>
  simp only[rowsOf]at hr;split at hr
  ·rename_i o1 SY;cases hc:(off == 0&&!o1.box&&o1.sz == s)with
   |false=>rw[hc]at hr;cases hr
   |true =>
    rw[hc]at hr;cases hr;simp only[Bool.and_eq_true,beq_iff_eq,Bool.not_eq_true']at hc;obtain⟨⟨rfl,tS⟩,nQ⟩:=hc;have hO:=hW.ic id o1 SY;have hlen:=ho.1;have R2:zH w M φ (.os id sz 0 len) v:=hv;rcases R2 with⟨b,C,hφ,rfl,hle⟩|⟨hφ,_,rfl,A,rfl⟩
    ·have PV:=fun i c (hc:o1.rows[i]?=some c)=>hO.cell (.inl tS) hφ hc
     have WQ:∀(i:Nat) (c:List Lf),o1.rows[i]?=some c→c.length=sz:=fun i c hc=>by
      obtain⟨_,h1⟩:=hO.oc (.inl tS);rw[hφ]at h1;obtain⟨cur,_,_,_,_,_,g6⟩:=h1;rw[(g6 i c hc).1,nQ]
     by_cases sR:o1.rows=[]
     ·have WI:len=0:=by rw[←hlen,sR];rfl
      rw[sR,WI];exact D0
     ·obtain rfl:sz=size:=hs.resolve_right sR;obtain⟨news,h1,h2⟩:=uU (R:=IR w M) (b:=b) (sz:=sz) o1.rows 0 WQ fun i c j l hc hj=>by
       obtain⟨v,hv,hr⟩:=PV i c hc j l hj;rw[tS]at hr;exact⟨v,by rw[Nat.zero_add,←nQ];exact hv,by simpa using hr⟩
      refine⟨news,h1,WQ,_,C-0,by rw[hlen],fun _=>⟨⟨b,0*sz,none⟩,rfl,fun j u hj=>?_⟩⟩
      rw[Nat.zero_mul,Addr.add_mid];exact h2 j u hj
    ·have Ld:o1.rows=[]:=List.eq_nil_of_length_eq_zero hlen;rw[Ld];exact D0
  ·cases hr
 |_=>simp only[rowsOf]at hr;cases hr
theorem slice_form{l:Lf}{v:Value}{sz:Nat}{rows:List (List Lf)}{ob:List Prop}(hr:rowsOf h l=some (sz,rows,ob))(hv:LR w M φ l v):∃A n c,v=.slice A n c:=by
 cases l with
 |dO=>cases(hv:IR w M .dO v);exact⟨_,_,_,rfl⟩
 |sl cl s rs=>cases(hv:IR w M (.sl cl s rs) v) <;> exact⟨_,_,_,rfl⟩
 |os id s off len =>
  rcases(hv:zH w M φ (.os id s off len) v)with⟨b,C,h1,h2,h3⟩|⟨h1,h2,h3,x,h4⟩
  ·exact⟨_,_,_,h2⟩
  ·exact⟨_,_,_,h4⟩
 |_=>simp only[rowsOf]at hr;cases hr
theorem Qbq{l:Lf}{v:Value}{sz:Nat}{rows:List (List Lf)}{ob:List Prop}(hr:rowsOf h l=some (sz,rows,ob))(ho:d_ ob)(sR:rows≠[])(hv:LR w M φ l v):∃A n c,v=.slice (some A) n c:=by
 cases l with
 |dO=>simp only[rowsOf]at hr;cases hr;exact absurd rfl sR
 |sl cl s rs =>
  simp only[rowsOf]at hr;cases hr;cases(hv:IR w M (.sl cl sz rows) v)with
  |TG=>exact absurd rfl sR
  |sl=>exact⟨_,_,_,rfl⟩
 |os id s off len =>
  simp only[rowsOf]at hr;split at hr
  ·rename_i o1 SY;cases hc:(off == 0&&!o1.box&&o1.sz == s)with
   |false=>rw[hc]at hr;cases hr
   |true =>
    rw[hc]at hr;cases hr;rcases(hv:zH w M φ (.os id sz off len) v)with⟨b,C,h1,h2,h3⟩|⟨h1,h2,h3,x,h4⟩
    ·exact⟨_,_,_,h2⟩
    ·have:=ho.1;rw[h3]at this;exact absurd (List.eq_nil_of_length_eq_zero this) sR
  ·cases hr
 |_=>simp only[rowsOf]at hr;cases hr
theorem QeC(dX:d_ r.ic)(hg:g)(hF:∀t,AR w M φ (L t) (a.tmps.getD t undef))(hW:Wd Γ φ M hD w){op:BinOp}{t u:TypeId}{x y:Operand}(ho:o.op=.binOp op t x y u)(hf:Qaz P h L g op t x y hs=some r):
  Yd P Γ φ M hD w base r ((execOp a.eval o).run P w):=by
 unfold Qaz at hf;split at hf
 ·rename_i l o1 o2 e h1 h2 ht;have ec:∀A n c,a.eval x=.slice A n c→a.eval y=.slice none 0 0→(execOp a.eval o).run P w=.ok (.value (.bool A.isNone)) w:=fun A n c hx hy=>by
   have hq:(Op.equal t (.slice A n c) (.slice none 0 0)).run P w=.ok A.isNone w:=by
    obtain⟨d,hd⟩:∃d,Op.maxDepth=d+1:=⟨Op.maxDepth-1,rfl⟩;unfold Op.equal;rw[hd];cases A <;> simp [Op.equalIn,run_underlying ht]
   simp [execOp,ho,hx,hy,eqGuard,binOp,hq]
  split at hf
  ·rename_i p jC hr;cases hf;rw[bC]at dX;have hx:LR w M φ l (a.eval x):=da hF h1 dX.1 hg;have hy:IR w M .dO (a.eval y):=da hF h2 dX.2 hg;obtain⟨sz,rows,ob⟩:=p;obtain⟨A,n,c,hv⟩:=slice_form hr hx;have hyv:a.eval y=.slice none 0 0:=by generalize a.eval y=q at hy;cases hy;rfl
   exact Yd.val (ec A n c hv hyv) rfl ⟨_,rfl⟩ hW
  ·rename_i sz rows o3 jC hr;cases hf;simp only[bC]at dX;obtain⟨⟨⟨p1,p2⟩,p3⟩,sR,-⟩:=dX;have hx:LR w M φ l (a.eval x):=da hF h1 p1 hg;have hy:IR w M .dO (a.eval y):=da hF h2 p2 hg;obtain⟨A,n,c,hv⟩:=Qbq hr p3 sR hx;have hyv:a.eval y=.slice none 0 0:=by generalize a.eval y=q at hy;cases hy;rfl
   exact Yd.val (ec (some A) n c hv hyv) rfl (IR.bool _) hW
  ·cases hf
 ·cases hf
theorem Od:∀(ns:List Int) (s:ByteArray),ns.foldl (fun r n=>r.push (UInt8.ofNat n.toNat)) s=⟨s.data++(ns.map fun n=>UInt8.ofNat n.toNat).toArray⟩
 | [],s=>by simp
 |n ::ns,s=>by
  rw[List.foldl_cons,Od ns];simp [ByteArray.push]
theorem Vp:∀{J:List Int} {news:List Value},Rs (IR w M) (J.map fun n=>[Lf.int .u8 n]).flatten news→news=J.map (Value.int .u8)
 | [],[],_=>rfl
 | [],_ ::_,h=>h.elim
 |n ::J,[],h=>h.elim
 |n ::J,v ::vs,h=>by
  cases h.1;rw[Vp h.2];rfl
theorem UC{s d:TypeId}{x:Operand}(dX:d_ r.ic)(hg:g)(hF:∀t,AR w M φ (L t) (a.tmps.getD t undef))(hW:Wd Γ φ M hD w)(gC:∀id ob,h id=some ob→hD id=some ob)(ho:o.op=.convert s d x)(hf:Av P h base g L o.op hs=some r):Yd P Γ φ M hD w base r ((execOp a.eval o).run P w):=by
 rw[ho]at hf;simp only[Av]at hf;split at hf
 ·rename_i d1 k k' n o1 h1 h2 h3;cases hf;have hx:IR w M (.int k' n) (a.eval x):=da hF h3 dX hg;generalize hv:a.eval x=xv at hx;cases hx;refine Yd.val (v:=.int k (zV k n)) ?_ rfl (IR.int _ _) hW;simp [execOp,ho,hv,convert,run_underlying h1,run_underlying h2,Conv.intToInt,zV]
 ·rename_i d1 k' n o1 h1 h2 h3;cases hf;have hx:IR w M (.int k' n) (a.eval x):=da hF h3 dX hg;generalize hv:a.eval x=xv at hx;cases hx;refine Yd.val (v:=.string (TC n)) ?_ rfl (IR.str _) hW;simp [execOp,ho,hv,convert,run_underlying h1,run_underlying h2,Conv.intToString,TC]
 ·rename_i d1 s1 o1 h1 h2 h3;cases hf;have hx:IR w M (.str s1) (a.eval x):=da hF h3 dX hg;generalize hv:a.eval x=xv at hx;cases hx;refine Yd.val (v:=.string s1) ?_ rfl (IR.str _) hW;simp [execOp,ho,hv,convert,run_underlying h1,run_underlying h2]
 ·rename_i e l o1 J jC n1 n2 h1 h2 h3;split at hf
  ·rename_i sz rows o2 h4 h5;cases hc:(sz == 1||rows.isEmpty)with
   |false=>rw[hc]at hf;cases hf
   |true =>
    rw[hc]at hf;cases hf;simp only[bC]at dX;obtain⟨⟨SY,ho2⟩,mC,-⟩:=dX;have hx:LR w M φ l (a.eval x):=da hF h3 SY hg;have R1:sz=1∨rows=[]:=by
     rw[Bool.or_eq_true]at hc;exact hc.imp (fun h=>by simpa using h) (fun h=>by simpa using h)
    obtain⟨news,HI,hnr,-⟩:=Qx (size:=1) hW gC h1 h5 ho2 R1 hx (fun _ _ _ _ _ _ _ _ _ _ _ _ _ h=>h)
    obtain⟨A,n,c,hv⟩:=slice_form h5 hx;rw[hv]at HI;rw[mC]at hnr;have QnD:=Vp hnr;subst QnD;refine Yd.val (v:=.string (zo J)) ?_ rfl (IR.str _) hW;have hfc:=HI.cells;have hlen:n=rows.length:=by
     have:=HI.len w;simpa [Builtin.lenOf]using this
    have key:(Conv.bytesToString (.slice A n c)).run P w=.ok (.string (zo J)) w:=by
     cases A with
     |none =>
      have:J=[]:=by
       have h6:(Builtin.firstCells 1 rows.length (.slice none n c)).run P w=.ok #[] w:=rfl;rw[h6]at hfc;have h7:=(Result.ok.inj hfc).1;cases J with
       |nil=>rfl
       |cons a b=>simp at h7
      subst this;rfl
     |some A =>
      have h6:(loadCells A n).run P w=.ok (J.map (Value.int .u8)).toArray w:=by
       rw[hlen];have h7:Builtin.firstCells 1 rows.length (.slice (some A) n c)=loadCells A (rows.length*1):=rfl;rw[h7,Nat.mul_one]at hfc;exact hfc
      rw[run_bytesToString w A n c J h6,Od];simp [zo,ByteArray.empty,ByteArray.emptyWithCapacity];rfl
    simp only[execOp,ho,hv,Sem.run_bind,run_convert_bytes_string w s d e A n c h1 h4 h2,key];simp [Sem.run_pure]
  ·cases hf
 ·cases hf
theorem Hw{t tx ty e:TypeId}{i:TypeInfo}{A:Option Addr}{n c:Nat}{x:Value}{news:List Value}(ht:P.underlying t=some (.slice e))(hi:P.info? e=some i)(hs:Src P i.size tx x 0 news w)(hle:n≤c):
  (Builtin.append_ #[t,tx] ty #[.slice A n c,x]).run P w=.ok (.slice A n c) w:=by
 have hn:news=[]:=List.eq_nil_of_length_eq_zero (by simpa using hs.newsLen)
 subst hn;have h1:=hs.cells;rcases hs.kind with⟨e',hk⟩|hk <;> cases A <;> simp [Builtin.append_,run_underlying ht,run_underlying hk,sizeOf,typeInfo,hi,hs.len,hle,h1,storeCells]
theorem Qab{w':World}{id b C:Nat}{φ':Pl}{e:TypeId}{sz:Nat}{rows:List (List Lf)}{vs rest:List Value}(hφ:φ' id=some (some (b,C)))(hb:w'.heap[b]?=some (.cells (vs++rest).toArray e))(h0:0<sz)(hs:(vs++rest).length=C*sz)(hl:rows.length≤C)(hC:C≤maxLen)
  (Oi:∀(i:Nat) (c:List Lf),rows[i]?=some c→c.length=sz) (hr:Rs (IR w' M) rows.flatten vs):OR w' M φ' id ⟨false,sz,e,rows⟩:=
 Wf hφ hb h0 (by simpa using hs) hl hC fun i c hc=>⟨Oi i c hc,fun j l hj=>by
  obtain⟨v,hv,hlr⟩:=hr.get (Dd (mem_row Oi) hc hj);refine⟨v,?_,hlr⟩;rw[List.getElem?_toArray,List.getElem?_append_left (List.getElem?_eq_some_iff.1 hv).1];exact hv⟩
theorem Es(z:Array Value)(n:Nat):(Builtin.zeroCells z n).toList.length=n*z.size:=by
 rw[Array.length_toList,size_zeroCells]
theorem PT{t tx ty e:TypeId}{i:TypeInfo}{z x:Value}{A:Option Addr}{n c k:Nat}{ri news:List Value}{rows:List (List Lf)}{id:Nat}(hW:Wd Γ φ M hD w)(ht:P.underlying t=some (.slice e))(hi:P.info? e=some i)(hz:i.zero=some z)(Ur:z.cells.size=i.size)(h0:0<i.size)
  (hold:(Builtin.firstCells i.size n (.slice A n c)).run P w.drew=.ok ri.toArray w.drew) (hs:Src P i.size tx x k news w) (mj:c<n+k) (Vg:n+k≤9223372036854775807) (hby:(n+k)*i.bytes≤140737488355328)
  (Qgi:ri.length=n*i.size) (WQ:rows.length=n+k) (Oi:∀(j:Nat) (c:List Lf),rows[j]?=some c→c.length=i.size) (hR:Rs (IR w M) rows.flatten (ri++news)) (hφ:φ id=none):
  ∃C w',(Builtin.append_ #[t,tx] ty #[.slice A n c,x]).run P w=.ok (.slice (some ⟨w.heap.size,0,none⟩) (n+k) C) w'∧Below w.heap.size w w'∧w.heap.size<w'.heap.size∧n+k≤C∧OR w' M (K9 φ id (some (w.heap.size,C))) id ⟨false,i.size,e,rows⟩:=by
 have ec:=run_append_grow_src (P:=P) w t tx ty e i z ht hi hz A n c ri hold x k news hs mj (by omega) (growslice_fits mj hby)
 have QW:=grownCap_ge w (n+k) c e;have hle:=grownCap_le_maxLen w (n+k) c e (by simp only[maxLen];omega)
 have hb:Below w.heap.size w (w.drew.alloc (.cells ((ri++news).toArray++Builtin.zeroCells z.cells (grownCap w (n+k) c e-(n+k))) e)):=((Below.refl _ _).drew).alloc (Nat.le_refl _) _;have he:Ex w M φ (w.drew.alloc (.cells ((ri++news).toArray++Builtin.zeroCells z.cells (grownCap w (n+k) c e-(n+k))) e)) M φ:=hW.Wz hb;refine⟨grownCap w (n+k) c e,_,ec,hb,by simp,QW,?_⟩
 have heq:((ri++news).toArray++Builtin.zeroCells z.cells (grownCap w (n+k) c e-(n+k)))=((ri++news)++(Builtin.zeroCells z.cells (grownCap w (n+k) c e-(n+k))).toList).toArray:=by apply Array.ext';simp
 refine Qab (vs:=ri++news) (rest:=(Builtin.zeroCells z.cells (grownCap w (n+k) c e-(n+k))).toList) (fB _ _ _) ?_ h0 ?_ (by omega) hle Oi (hR.mono fun _ _ h=>h.mono he.blk he.sub)
 ·rw[←heq];exact heap_alloc_new w.drew _
 ·rw[List.length_append,List.length_append,Qgi,hs.newsLen,Es,Ur,←Nat.add_mul,←Nat.add_mul];congr 1;omega
theorem QE(hg:g)(hW:Wd Γ φ M hD w)(gC:∀id ob,h id=some ob→hD id=some ob){d x:Lf}{vd vx:Value}{t ty:TypeId}{r:Pu}{tys:List TypeId}{run:Result Next}(hf:Qax P h base d x t (tys.headD 0) hs=some r)(dX:d_ r.ic)
  (hd:LR w M φ d vd) (hx:LR w M φ x vx) (ec:∀v w',(Builtin.append_ #[t,tys.headD 0] ty #[vd,vx]).run P w=.ok v w'→run=.ok (.value v) w') (tY:∀id,base≤id→id<base+r.news.length→φ id=none∧hD id=none):
  Yd P Γ φ M hD w base r run:=by
 simp only[Qax]at hf;split at hf
 ·rename_i e he;have ht:=mf he;split at hf
  ·rename_i i sz new o1 z hi hro hz;cases hc:(t == tys.headD 0&&(sz == i.size||new.isEmpty))with
   |false=>rw[hc]at hf;cases hf
   |true =>
    rw[hc]at hf;simp only[cond_true]at hf;simp only[Bool.and_eq_true,Bool.or_eq_true,beq_iff_eq,List.isEmpty_iff]at hc;obtain⟨htt,nQ⟩:=hc;rw[←htt]at ec;obtain⟨i2,zv,hi2,hzv,Ur,h0,Pv,hl⟩:=w6 (w:=w) (M:=M) (φ:=φ) hz;obtain rfl:i=i2:=by rw[hi]at hi2;exact Option.some.inj hi2
    have core:∀{A:Option Addr} {n c:Nat} {ri:List Value} {rows R:List (List Lf)},vd=.slice A n c→(c=n)→(rows=[]→n=0)→d_ o1→rows++new=R→(new≠[]∨rows=[])→R.length*i.bytes≤140737488355328→R.length≤9223372036854775807→
      rows.length=n→(Builtin.firstCells i.size n (.slice A n c)).run P w.drew=.ok ri.toArray w.drew→ri.length=n*i.size→(∀(j:Nat) (c:List Lf),rows[j]?=some c→c.length=i.size)→Rs (IR w M) rows.flatten ri→
      r.v=one (.os base i.size 0 R.length)→r.news=[⟨false,i.size,e,R⟩]→Yd P Γ φ M hD w base r run:=by
     intro A n c ri rows R hvd hcn Z3 hp1 hR sR hby Vg WQ hold Qgi Oi hRs hrv QiN;subst hvd hcn;obtain⟨news,HI,hnr,hnl⟩:=Qx (size:=i.size) hW gC ht hro hp1 nQ hx (fun _ _ _ _ _ _ _ _ _ _ _ _ _ h=>h)
     have Un:R.length=c+new.length:=by rw[←hR,List.length_append,WQ]
     by_cases Hm:new.length=0
     ·have Lc:new=[]:=List.eq_nil_of_length_eq_zero Hm;have Ld:rows=[]:=sR.resolve_left (fun h=>h Lc)
      have hc0:=Z3 Ld;subst hc0;rw[Hm]at HI;have YT:R=[]:=by rw[←hR,Ld,Lc];rfl
      have hf0:=tY base (Nat.le_refl _) (by rw[QiN];simp)
      refine Yd.MV (ec _ _ (Hw ht hi HI (Nat.le_refl _))) QiN hW tY (Below.refl _ _) YT rfl h0 ?_
      rw[hrv,YT];exact .inr ⟨fB _ _ _,rfl,rfl,A,rfl⟩
     ·have hf0:=tY base (Nat.le_refl _) (by rw[QiN];simp)
      obtain⟨C,w',Jl,hb,mj,hle,hO⟩:=PT (id:=base) (rows:=R) (ty:=ty) hW ht hi hzv Ur h0 hold HI (by omega) (by omega) (by rw[←Un];exact hby) Qgi Un (fun j c hj=>by
       rw[←hR]at hj;rcases Nat.lt_or_ge j rows.length with h|h
       ·rw[List.getElem?_append_left h]at hj;exact Oi j c hj
       ·rw[List.getElem?_append_right h]at hj;exact hnl _ c hj) (by rw[←hR,List.flatten_append];exact hRs.append hnr) hf0.1
      refine Yd.new (ec _ _ Jl) QiN hW tY hb (Nat.le_refl _) mj hO ?_
      rw[hrv];exact .inl ⟨w.heap.size,C,fB _ _ _,by rw[Un];simp,by omega⟩
    split at hf
    ·rename_i R jC;cases hf;simp only[bC,d_]at dX;obtain⟨p1,hR,hby,Vg,-⟩:=dX;have hd':IR w M .dO vd:=hd;cases hd';exact core (rows:=[]) (ri:=[]) rfl rfl (fun _=>rfl) p1 hR (.inr rfl) hby Vg rfl (run_firstCells_none w.drew _ _ _ _) (by simp) (fun j c h=>by simp at h) trivial rfl rfl
    ·rename_i Z8 rows R jC;cases IL:(Z8 == i.size||rows.isEmpty)with
     |false=>rw[IL]at hf;cases hf
     |true =>
      rw[IL]at hf;cases hf;simp only[Bool.or_eq_true,beq_iff_eq,List.isEmpty_iff]at IL;simp only[bC,d_]at dX;obtain⟨⟨p1,pR⟩,hby,Vg,-⟩:=dX;have hd':IR w M (.sl true Z8 rows) vd:=hd;have hRR:rows++new=R∧(new≠[]∨rows=[]):=⟨pR.1,(Classical.em (new=[])).symm.imp id pR.2.1⟩;cases hd' with
      |TG _ _ A cap IM =>
       obtain rfl:=IM rfl;refine core (rows:=[]) (ri:=[]) rfl rfl (fun _=>rfl) p1 hRR.1 (.inr rfl) hby Vg rfl ?_ (by simp) (fun j c h=>by simp at h) trivial rfl rfl
       cases A <;> simp [Builtin.firstCells,loadCells,loadCellsFrom]
      |sl _ _ _ b k cap vs hm hlc IM Oi hcc hrr =>
       have SX:=IM rfl;obtain⟨ri,g1,g2⟩:=uU (R:=IR w M) (b:=b) (sz:=Z8) rows k Oi fun i c j l h1 h2=>⟨_,hcc i c j l h1 h2,hrr i c j l h1 h2⟩
       have hol:ri.length=rows.length*i.size:=by
        rw[←g1.len,uG (mem_row Oi)];rcases IL with h|h
        ·rw[h]
        ·rw[h];simp
       refine core (rows:=rows) (ri:=ri) rfl SX (fun h=>by rw[h];rfl) p1 hRR.1 hRR.2 hby Vg rfl ?_ hol (fun j c hj=>?_) g1 rfl rfl
       ·exact run_firstCells_some w.drew i.size rows.length ⟨b,k,none⟩ _ cap ri hol (fun j v hj=>by rw[Addr.add_mid];exact g2 j v hj)
       ·rw[Oi j c hj];rcases IL with h|h
        ·exact h
        ·rw[h]at hj;simp at hj
    ·cases hf
  ·cases hf
 ·cases hf
theorem Qy(w:World){t tx ty e:TypeId}{kx:IntKind}{i:TypeInfo}{z:Value}{n:Int}(ht:P.underlying t=some (.slice e))(hx:P.underlying tx=some (.int kx))(hi:P.info? e=some i)(hz:i.zero=some z)(Ur:z.cells.size=i.size)(h0:0<i.size)(hn:0≤n)(Vg:n≤9223372036854775807)(hby:(i.bytes:Int)*n≤140737488355328):
  (Builtin.append_ #[t,tx] ty #[.slice none 0 0,.int .i64 n]).run P w=if n.toNat=0 then .ok (.slice none 0 0) w else
   .ok (.slice (some ⟨w.heap.size,0,none⟩) n.toNat (grownCap w n.toNat 0 e)) (w.drew.alloc (.cells (Builtin.zeroCells z.cells n.toNat++Builtin.zeroCells z.cells (grownCap w n.toNat 0 e-n.toNat)) e)):=by
 have hw:IntKind.i64.wrap n=n:=IntWalk.i64_in n (by omega)
 have c1:¬(n<0):=by omega
 have XO:¬(281474976710656<n*(i.bytes:Int)):=by rw[Int.mul_comm];omega
 by_cases hz0:n.toNat=0
 ·have e0:n=0:=by omega
  subst e0;rw[if_pos (by decide)]
  have h1:IntKind.i64.wrap 0=0:=hw;simp [Builtin.append_,run_underlying ht,run_underlying hx,sizeOf,typeInfo,hi,asInt,asIntOf,h1]
 ·rw[if_neg hz0];have mj:0<n.toNat:=Nat.pos_of_ne_zero hz0;have nQ:¬(i.size=0):=by omega
  have Qpf:¬(9223372036854775807<n):=by omega
  have hbn:n.toNat*i.bytes≤140737488355328:=by
   have:((n.toNat*i.bytes:Nat):Int)≤140737488355328:=by
    rw[Int.natCast_mul,Int.toNat_of_nonneg hn,Int.mul_comm];exact hby
   omega
  have Rx:Builtin.nextslicecap n.toNat 0*i.bytes≤281474976710656:=growslice_fits mj hbn;have Qpe:¬(281474976710656<Builtin.nextslicecap n.toNat 0*i.bytes):=by omega
  have hm:max n 0=n:=by omega
  have hle:¬n≤0:=by omega
  have hmul:¬(n.toNat*i.size=0):=Nat.ne_of_gt (Nat.mul_pos mj h0);simp [hle,hmul,Builtin.append_,run_underlying ht,run_underlying hx,sizeOf,typeInfo,zeroValue,hi,hz,asInt,asIntOf,hw,c1,XO,hz0,nQ,Qpf,Qpe,hm,mj,Question.forced,newRow,grownCap,Builtin.firstCells]
theorem Nq(hg:g)(hW:Wd Γ φ M hD w){vd vx:Value}{k:IntKind}{n:Int}{t tx ty:TypeId}{r:Pu}{run:Result Next}(hf:zs P h base .append [.one .dO,.one (.int k n)] [t,tx] hs=some r)(dX:d_ r.ic)
  (hd:LR w M φ .dO vd) (hx:LR w M φ (.int k n) vx) (ec:∀v w',(Builtin.append_ #[t,tx] ty #[vd,vx]).run P w=.ok v w'→run=.ok (.value v) w') (tY:∀id,base≤id→id<base+r.news.length→φ id=none∧hD id=none):
  Yd P Γ φ M hD w base r run:=by
 simp only[zs]at hf;split at hf
 ·rename_i e kx z' R jC he hux;split at hf
  ·rename_i ie z Z1 hz;cases hwk:(QbG z z'&&decide (k=.i64))with
   |false=>rw[hwk]at hf;cases hf
   |true =>
    rw[hwk]at hf;cases hf;simp only[Bool.and_eq_true,decide_eq_true_iff]at hwk;obtain⟨hwk,rfl⟩:=hwk;simp only[d_]at dX;obtain⟨Hm,Vg,hby,hR,-⟩:=dX;obtain⟨i,zv,hi,hzv,Ur,h0,Pv,hl⟩:=w6 (w:=w) (M:=M) (φ:=φ) hz;obtain rfl:ie=i:=by rw[Z1]at hi;exact Option.some.inj hi
    have hu:=mf he;have hd':IR w M .dO vd:=hd;have CJ:IR w M (.int .i64 n) vx:=hx;cases hd';cases CJ;have Rw:=Qy (P:=P) w (ty:=ty) hu hux Z1 hzv Ur h0 Hm Vg hby;have Un:R.length=n.toNat:=by rw[←hR];simp
    have hf0:=tY base (Nat.le_refl _) (by simp)
    by_cases hz0:n.toNat=0
    ·rw[if_pos hz0]at Rw;have YT:R=[]:=List.eq_nil_of_length_eq_zero (by omega)
     refine Yd.MV (ec _ _ Rw) rfl hW tY (Below.refl _ _) YT rfl h0 ?_
     subst YT;exact .inr ⟨fB _ _ _,rfl,rfl,none,rfl⟩
    ·rw[if_neg hz0]at Rw;have hrz:=XI hwk Pv;have hzl:z'.length=ie.size:=by rw[hrz.len];simpa using Ur
     have QW:=grownCap_ge w n.toNat 0 e;have hle:=grownCap_le_maxLen w n.toNat 0 e (by simp only[maxLen];omega)
     generalize hC:grownCap w n.toNat 0 e=C at *;have hb:Below w.heap.size w (w.drew.alloc (.cells (Builtin.zeroCells zv.cells n.toNat++Builtin.zeroCells zv.cells (C-n.toNat)) e)):=((Below.refl _ _).drew).alloc (Nat.le_refl _) _;have ZZ:Ex w M φ (w.drew.alloc (.cells (Builtin.zeroCells zv.cells n.toNat++Builtin.zeroCells zv.cells (C-n.toNat)) e)) M (K9 φ base (some (w.heap.size,C))):=⟨fun b hm=>hb.block b (hW.mlt b hm),fun _ h=>h,wa _ hf0.1⟩
     have hzc:(Builtin.zeroCells zv.cells n.toNat).toList=(List.replicate n.toNat zv.cells.toList).flatten:=M3 _ _;refine Yd.new (b:=w.heap.size) (C:=C) (ec _ _ Rw) rfl hW tY hb (Nat.le_refl _) (by simp) ?_ ?_
     ·refine Wf (fB _ _ _) (heap_alloc_new w.drew _) h0 ?_ (by omega) hle fun i c hc=>?_
      ·rw[Array.size_append,←Array.length_toList,←Array.length_toList,Es,Es,Ur,←Nat.add_mul];congr 1;omega
      ·rw[←hR]at hc;have mj:=(List.getElem?_eq_some_iff.1 hc).1;simp only[List.length_replicate]at mj;have hcz:c=z':=by
        rw[List.getElem?_replicate,if_pos mj]at hc;exact(Option.some.inj hc).symm
       subst hcz;refine⟨hzl,fun j l hj=>?_⟩
       obtain⟨v,hv,hlr⟩:=hrz.get hj;refine⟨v,?_,hlr.mono ZZ.blk ZZ.sub⟩;have HH:=Dd (sz:=ie.size) (rows:=List.replicate n.toNat zv.cells.toList) (i:=i) (j:=j) (fun c hc=>by rw[List.eq_of_mem_replicate hc];simpa using Ur) (by rw[List.getElem?_replicate,if_pos (by omega)]) hv
       rw[←hzc]at HH;rw[←Array.getElem?_toList,Array.toList_append,List.getElem?_append_left (List.getElem?_eq_some_iff.1 HH).1];exact HH
     ·exact .inl ⟨w.heap.size,C,fB _ _ _,by rw[Un];simp,by omega⟩
  ·cases hf
 ·cases hf
end
end
section
open Go.RowKit Go.MapKept
section
variable {P : Program} {Γ : bn} {φ : Pl} {M : Nat → Prop} {hD h : Nat → Option Ob} {w : World} {base : Nat} {L : Nat → AV} {a : Act} {g : Prop} {hs : List Hint} {r : Pu} {o : Oper}
theorem Qd1{kt:TypeId}{k:Lf}{kv:Value}(h:Jr P kt k=true)(hk:LR w M φ k kv):∃d,P.underlying kt=some d∧IsKey d kv:=by
 cases k with
 |int q n =>
  simp only[Jr]at h;split at h
  ·rename_i q' hu;cases(hk:IR w M (.int q n) kv);exact⟨_,hu,by simpa [IsKey]using h⟩
  ·cases h
 |str s =>
  simp only[Jr]at h;split at h
  ·rename_i hu;cases(hk:IR w M (.str s) kv);exact⟨_,hu,trivial⟩
  ·cases h
 |_=>simp only[Jr]at h;cases h
theorem QaU{kt:TypeId}{k:Lf}{kv:Value}(h:Jr P kt k=true)(hk:LR w M φ k kv):IR w M k kv:=by
 cases k with
 |int q n=>exact hk
 |str s=>exact hk
 |_=>simp only[Jr]at h;cases h
theorem WV{k k':Lf}{kv kv':Value}{b:Bool}{d:TypeDesc}(h:kEq k k'=some b)(hk:IR w M k kv)(wP:IR w M k' kv')(hd:IsKey d kv):Instr.sameNow d kv kv'=some b∧(b=true→kv'=kv):=by
 unfold kEq at h;split at h
 ·rename_i q x q' y;cases hk;cases wP;by_cases hq:q=q'
  ·subst hq;rw[if_pos rfl]at h;cases h;cases d <;> simp [IsKey]at hd
   subst hd;refine⟨by simp [Instr.sameNow],fun e=>?_⟩
   have:x=y:=by simpa using e
   rw[this]
  ·rw[if_neg hq]at h;cases h
 ·rename_i x y;cases hk;cases wP;cases h;cases d <;> simp [IsKey]at hd
  refine⟨by simp [Instr.sameNow],fun e=>?_⟩
  have:x=y:=(bytes_beq x y).1 e;rw[this]
 ·cases h
theorem Ol{k:Lf}{Q7:List Lf}{b:Bool}{kv:Value}(h:xw [k] Q7=some b)(hk:KyR w M Q7 kv):∃k' c,Q7=[k']∧kEq k k'=some c∧b=c∧IR w M k' kv:=by
 cases Q7 with
 |nil=>simp [xw]at h
 |cons k' r =>
  cases r with
  |nil =>
   simp only[xw]at h;split at h
   ·rename_i a c h1 h2;cases h2;cases h;rcases hk with⟨q,hq,hr⟩|⟨h2,_⟩
    ·cases hq;exact⟨k',a,rfl,h1,by simp,hr⟩
    ·simp at h2
   ·cases h
  |cons x r =>
   simp only[xw]at h;split at h
   ·rename_i a c h1 h2;cases h2
   ·cases h
theorem Q1:∀{us:List TypeDesc} {ks:List Lf} {vs:List Value},ed us ks=true→Rs (LR w M φ) ks vs→Rs (IR w M) ks vs
 |_,[],[],_,_=>trivial
 |u ::us,k ::ks,v ::vs,hf,h=>by
  have key:IR w M k v∧ed us ks=true:=by
   cases u with
   |int q =>
    cases k with
    |int q1 x =>
     simp only[ed,Bool.and_eq_true]at hf;exact⟨h.1,hf.2⟩
    |_=>simp [ed]at hf
   |string =>
    cases k with
    |str x =>
     simp only[ed]at hf;exact⟨h.1,hf⟩
    |_=>simp [ed]at hf
   |_=>simp [ed]at hf
  exact⟨key.1,Q1 key.2 h.2⟩
 | [],_ ::_,_,hf,_=>by simp [ed]at hf
 |_,[],_ ::_,_,h=>h.elim
 |_,_ ::_,[],_,h=>h.elim
theorem Y7{k z v:Lf}{kv:Value}{d:TypeDesc}(hk:IR w M k kv)(hd:IsKey d kv):∀{rs:List (List Lf)} {es:List MapEntry} {i:Nat},Rs (Eu w M) rs es→Ho rs [k] z=some v→
  ∃r,Instr.findNow d kv es i=some r∧((r=none∧v=z)∨∃j u,r=some (j,u)∧IR w M v u)
 | [],[],i,_,h=>by
  simp only[Ho]at h;cases h;exact⟨none,rfl,.inl ⟨rfl,rfl⟩⟩
 |_ ::rs,e ::es,i,hr,h=>by
  obtain⟨⟨v',Q7,rfl,h1,h2⟩,h3⟩:=hr;simp only[Ho]at h;split at h
  ·rename_i hq;cases h;obtain⟨k',b,rfl,hb,rfl,wP⟩:=Ol hq h2;exact⟨some (i,e.val),by simp [Instr.findNow,(WV hb hk wP hd).1],.inr ⟨i,e.val,rfl,h1⟩⟩
  ·rename_i hq;obtain⟨k',b,rfl,hb,rfl,wP⟩:=Ol hq h2;have hs:=(WV hb hk wP hd).1;have e1:Instr.findNow d kv (e ::es) i=Instr.findNow d kv es (i+1):=by simp [Instr.findNow,hs]
   rw[e1];exact Y7 hk hd h3 h
  ·cases h
 | [],_ ::_,_,hr,_=>hr.elim
 |_ ::_,[],_,hr,_=>hr.elim
theorem Y8{k v:Lf}{kv vv:Value}{d:TypeDesc}(hk:IR w M k kv)(hv:IR w M v vv)(hd:IsKey d kv):∀{rs R:List (List Lf)} {es:List MapEntry} {i:Nat},Rs (Eu w M) rs es→Ce rs [k] v=some R→
  (Instr.findNow d kv es i=some none∧∀b,Rs (Eu w M) R (es++[⟨kv,vv,b⟩]))∨
  ∃j u e,Instr.findNow d kv es i=some (some (i+j,u))∧es[j]?=some e∧e.key=kv∧Rs (Eu w M) R (es.set j {e with key:=kv,val:=vv})
 | [],R,[],i,_,h=>by
  simp only[Ce]at h;cases h;exact .inl ⟨rfl,fun b=>⟨⟨v,[k],rfl,hv,.inl ⟨k,rfl,hk⟩⟩,trivial⟩⟩
 |_ ::rs,R,e ::es,i,hr,h=>by
  obtain⟨⟨v',Q7,rfl,h1,h2⟩,h3⟩:=hr;simp only[Ce]at h;split at h
  ·rename_i hq;cases h;obtain⟨k',b,rfl,hb,rfl,wP⟩:=Ol hq h2;obtain⟨g1,g2⟩:=WV hb hk wP hd;exact .inr ⟨0,e.val,e,by simp [Instr.findNow,g1],rfl,g2 rfl,⟨v,[k],rfl,hv,.inl ⟨k,rfl,hk⟩⟩,h3⟩
  ·rename_i hq;obtain⟨k',b,rfl,hb,rfl,wP⟩:=Ol hq h2;have hs:=(WV hb hk wP hd).1;have e1:Instr.findNow d kv (e ::es) i=Instr.findNow d kv es (i+1):=by simp [Instr.findNow,hs]
   rw[e1];cases hp:Ce rs [k] v with
   |none=>rw[hp]at h;cases h
   |some R' =>
    rw[hp]at h;cases h;rcases Y8 hk hv hd (i:=i+1) h3 hp with⟨q1,q2⟩|⟨j,u,e',q1,q2,q3,q4⟩
    ·exact .inl ⟨q1,fun b=>⟨⟨v',[k'],rfl,h1,.inl ⟨k',rfl,wP⟩⟩,q2 b⟩⟩
    ·exact .inr ⟨j+1,u,e',by rw[q1,show i+1+j=i+(j+1) by omega],by simpa using q2,q3,⟨v',[k'],rfl,h1,.inl ⟨k',rfl,wP⟩⟩,q4⟩
  ·cases h
 | [],_,_ ::_,_,hr,_=>hr.elim
 |_ ::_,_,[],_,hr,_=>hr.elim
theorem MI:∀{us:List TypeDesc} {ks Q7:List Lf} {b:Bool},ed us ks=true→xw ks Q7=some b→w9 us ks Q7=some b
 | [],[],[],b,_,h=>h
 |u ::us,k ::ks,k' ::Q7,b,hf,h=>by
  simp only[xw]at h;split at h
  ·rename_i a c h1 h2;cases h;have key:QfI u k k'=some a∧ed us ks=true:=by
    cases u with
    |int q =>
     cases k with
     |int q1 x =>
      simp only[ed,Bool.and_eq_true,decide_eq_true_eq]at hf;cases k' with
      |int q2 y =>
       simp only[kEq]at h1;by_cases hq:q1=q2
       ·rw[if_pos hq]at h1;cases h1;exact⟨by simp [QfI,hq,bP],hf.2⟩
       ·rw[if_neg hq]at h1;cases h1
      |_=>simp [kEq]at h1
     |_=>simp [ed]at hf
    |string =>
     cases k with
     |str x =>
      simp only[ed]at hf;cases k' with
      |str y=>simp only[kEq]at h1;cases h1;exact⟨rfl,hf⟩
      |_=>simp [kEq]at h1
     |_=>simp [ed]at hf
    |_=>simp [ed]at hf
   simp only[w9,key.1,MI key.2 h2]
  ·cases h
 | [],_ ::_,_,_,hf,_=>by simp [ed]at hf
 |_ ::_,[],_,_,hf,_=>by simp [ed]at hf
 | [],[],_ ::_,_,_,h=>by simp [xw]at h
 |_ ::_,_ ::_,[],_,_,h=>by simp [xw]at h
theorem S6:∀{ks Q7:List Lf} {b:Bool},xw ks Q7=some b→ks.length=Q7.length
 | [],[],_,_=>rfl
 |k ::ks,k' ::Q7,b,h=>by
  simp only[xw]at h;split at h
  ·rename_i h1 h2;simp [S6 h2]
  ·cases h
 | [],_ ::_,_,h=>by simp [xw]at h
 |_ ::_,[],_,h=>by simp [xw]at h
theorem Vr:∀{us:List TypeDesc} {ks Q7:List Lf} {vs vs':List Value},ed us ks=true→xw ks Q7=some true→Rs (IR w M) ks vs→Rs (IR w M) Q7 vs'→vs'=vs
 | [],[],[],vs,vs',_,_,h1,h2=>by
  cases vs with
  |nil=>cases vs' with
   |nil=>rfl
   |cons _ _=>exact h2.elim
  |cons _ _=>exact h1.elim
 |u ::us,k ::ks,k' ::Q7,vs,vs',hf,h,h1,h2=>by
  cases vs with
  |nil=>exact h1.elim
  |cons v vs =>
   cases vs' with
   |nil=>exact h2.elim
   |cons v' vs' =>
    simp only[xw]at h;split at h
    ·rename_i a c e1 e2;have hac:a=true∧c=true:=by simpa using h
     obtain⟨rfl,rfl⟩:=hac;have key:v'=v∧ed us ks=true:=by
      cases u with
      |int q =>
       cases k with
       |int q1 x =>
        simp only[ed,Bool.and_eq_true,decide_eq_true_eq]at hf;cases k' with
        |int q2 y =>
         simp only[kEq]at e1;by_cases hq:q1=q2
         ·rw[if_pos hq]at e1;have hxy:x=y:=by simpa using e1
          have g1:IR w M (.int q1 x) v:=h1.1;have g2:IR w M (.int q2 y) v':=h2.1;cases g1;cases g2;exact⟨by rw[hq,hxy],hf.2⟩
         ·rw[if_neg hq]at e1;cases e1
        |_=>simp [kEq]at e1
       |_=>simp [ed]at hf
      |string =>
       cases k with
       |str x =>
        simp only[ed]at hf;cases k' with
        |str y =>
         simp only[kEq]at e1;have hxy:x=y:=(bytes_beq x y).1 (by simpa using e1)
         have g1:IR w M (.str x) v:=h1.1;have g2:IR w M (.str y) v':=h2.1;cases g1;cases g2;exact⟨by rw[hxy],hf⟩
        |_=>simp [kEq]at e1
       |_=>simp [ed]at hf
      |_=>simp [ed]at hf
     rw[key.1,Vr key.2 e2 h1.2 h2.2]
    ·cases h
 | [],_ ::_,_,_,_,hf,_,_,_=>by simp [ed]at hf
 |_ ::_,[],_,_,_,hf,_,_,_=>by simp [ed]at hf
 | [],[],_ ::_,_,_,_,h,_,_=>by simp [xw]at h
 |_ ::_,_ ::_,[],_,_,_,h,_,_=>by simp [xw]at h
theorem On{n:Nat}:∀{us:List TypeDesc} {ks:List Lf} {vs:List Value},ed us ks=true→Rs (IR w M) ks vs→((vs.zip vs).all fun(x,y)=>Instr.sameBits n x y)=true
 | [],[],vs,_,h1=>by
  cases vs with
  |nil=>rfl
  |cons _ _=>exact h1.elim
 |u ::us,k ::ks,vs,hf,h1=>by
  cases vs with
  |nil=>exact h1.elim
  |cons v vs =>
   have key:Instr.sameBits n v v=true∧ed us ks=true:=by
    cases u with
    |int q =>
     cases k with
     |int q1 x =>
      simp only[ed,Bool.and_eq_true,decide_eq_true_eq]at hf;have g1:IR w M (.int q1 x) v:=h1.1;cases g1;exact⟨by cases n <;> simp [Instr.sameBits],hf.2⟩
     |_=>simp [ed]at hf
    |string =>
     cases k with
     |str x =>
      simp only[ed]at hf;have g1:IR w M (.str x) v:=h1.1;cases g1;exact⟨by cases n <;> simp [Instr.sameBits,bytes_beq],hf⟩
     |_=>simp [ed]at hf
    |_=>simp [ed]at hf
   have ih:=On (n:=n) key.2 h1.2;simp only[List.zip_cons_cons,List.all_cons,key.1,ih,Bool.and_self]
 | [],_ ::_,_,hf,_=>by simp [ed]at hf
 |_ ::_,[],_,hf,_=>by simp [ed]at hf
theorem Pb{em:Bool}{n:Nat}{t:TypeId}{fs:Array Field}{us:List TypeDesc}{ks:List Lf}{vs:List Value}(hu:P.underlying t=some (.struct fs))(HH:Jd P 0 fs.toList=some us)(hf:ed us ks=true)(hr:Rs (LR w M φ) ks vs):
  (Instr.checkKey em (n+2) t (.agg vs.toArray)).run P w=.ok () w:=by
 rw[Instr.checkKey];simp only[Sem.run_bind,run_underlying hu,Result.andThen_ok];rw[←Array.forIn_toList];generalize fs.toList=L at HH;have Ld:Rs (LR w M φ) ks (vs.drop 0):=hr;clear hr hu;generalize 0=k at HH Ld;induction L generalizing k us ks with
 |nil=>simp
 |cons f L ih =>
  simp only[Jd]at HH;cases hc:(f.offset == k&&!(f.name == "_")&&(IJ P f.type == some false))with
  |false=>rw[hc]at HH;cases HH
  |true =>
   rw[hc]at HH;simp only[cond_true]at HH;simp only[Bool.and_eq_true,beq_iff_eq,Bool.not_eq_true',beq_eq_false_iff_ne]at hc;obtain⟨⟨Jk,Qcj⟩,FV⟩:=hc;split at HH
   ·rename_i u us' hu Ny;cases HH;cases ks with
    |nil=>simp [ed]at hf
    |cons x ks =>
     obtain⟨v1,hv1,XR⟩:=Ld.get (i:=0) rfl;have hr2:Rs (LR w M φ) ks (vs.drop (k+1)):=by have:=Ld.drop 1;simpa [List.drop_drop,Nat.add_comm]using this
     have hp:=wz (P:=P) (w:=w) FV (vs:=vs.toArray) (k:=f.offset) (v:=v1) (by rw[Jk];simpa using hv1)
     have key:(Instr.checkKey em (n+1) f.type v1).run P w=.ok () w∧ed us' ks=true:=by
      cases u with
      |int q =>
       cases x with
       |int q1 y =>
        simp only[ed,Bool.and_eq_true,decide_eq_true_eq]at hf;have g1:IR w M (.int q1 y) v1:=XR;cases g1;exact⟨by simp [Instr.checkKey,run_underlying hu],hf.2⟩
       |_=>simp [ed]at hf
      |string =>
       cases x with
       |str y =>
        simp only[ed]at hf;have g1:IR w M (.str y) v1:=XR;cases g1;exact⟨by simp [Instr.checkKey,run_underlying hu],hf⟩
       |_=>simp [ed]at hf
      |_=>simp [ed]at hf
     simp only[List.forIn_cons,Sem.run_bind,Qcj,ne_eq,not_false_eq_true,if_true,Result.andThen_ok,hp,key.1,Sem.run_pure];exact ih key.2 (k+1) Ny hr2
   ·cases HH
theorem SH{d:Nat}{t:TypeId}{fs:Array Field}{us:List TypeDesc}{xs ys:List Lf}{vx vy:List Value}{e:Bool}(hu:P.underlying t=some (.struct fs))(nr:P.stoodInHeld t=false)(HH:Jd P 0 fs.toList=some us)
  (he:w9 us xs ys=some e) (hrx:Rs (LR w M φ) xs vx) (hry:Rs (LR w M φ) ys vy):(Op.equalIn (d+1+1) t (.agg vx.toArray) (.agg vy.toArray)).run P w=.ok e w:=by
 have h3:=SE (P:=P) (w:=w) (M:=M) (φ:=φ) (d:=d) fs.toList 0 us xs ys e HH he hrx hry;rw[Array.forIn_toList]at h3;unfold Op.equalIn;simp only[Sem.run_bind,run_underlying hu,Result.andThen_ok,run_program,nr];simp only[Bool.false_eq_true,if_false,Sem.run_bind,Sem.run_pure,Result.andThen_ok];refine Eq.trans (congrArg (fun z=>Result.andThen z _) h3) ?_
 cases e <;> simp
theorem VG{t:TypeId}{fs:Array Field}{us:List TypeDesc}{ks:List Lf}{z v:Lf}{vs:List Value}(hu:P.underlying t=some (.struct fs))(nr:P.stoodInHeld t=false)(HH:Jd P 0 fs.toList=some us)(hf:ed us ks=true)
  (h2:2≤ks.length) (hr:Rs (IR w M) ks vs):∀{rs:List (List Lf)} {es:List MapEntry} {i:Nat},Rs (Eu w M) rs es→Ho rs ks z=some v→
  ∃r,(Instr.findAsking t (.agg vs.toArray) es i).run P w=.ok r w∧((r=none∧v=z)∨∃j u,r=some (j,u)∧IR w M v u)
 | [],[],i,_,h=>by
  simp only[Ho]at h;cases h;exact⟨none,by simp [Instr.findAsking],.inl ⟨rfl,rfl⟩⟩
 |_ ::rs,e ::es,i,hre,h=>by
  obtain⟨⟨v',Q7,rfl,g1,g2⟩,g3⟩:=hre;have QaN:∀{b:Bool},xw ks Q7=some b→(Op.equal t (.agg vs.toArray) e.key).run P w=.ok b w:=by
   intro b hb;rcases g2 with⟨k,rfl,_⟩|⟨_,vs',wP,Vm⟩
   ·have:=S6 hb;simp at this;omega
   ·rw[wP];exact SH (M:=M) (φ:=fun _=>none) (d:=9998) hu nr HH (MI hf hb) (Rs.mono (fun _ _ h=>IR.lr h) hr) (Rs.mono (fun _ _ h=>IR.lr h) Vm)
  simp only[Ho]at h;split at h
  ·rename_i hq;cases h;exact⟨some (i,e.val),by simp [Instr.findAsking,QaN hq],.inr ⟨i,e.val,rfl,g1⟩⟩
  ·rename_i hq;obtain⟨r,q1,q2⟩:=VG hu nr HH hf h2 hr (i:=i+1) g3 h;exact⟨r,by simp [Instr.findAsking,QaN hq,q1],q2⟩
  ·cases h
 | [],_ ::_,_,hr,_=>hr.elim
 |_ ::_,[],_,hr,_=>hr.elim
theorem VH{t:TypeId}{fs:Array Field}{us:List TypeDesc}{ks:List Lf}{v:Lf}{vs:List Value}{vv:Value}(hu:P.underlying t=some (.struct fs))(nr:P.stoodInHeld t=false)(HH:Jd P 0 fs.toList=some us)(hf:ed us ks=true)
  (h2:2≤ks.length) (hr:Rs (IR w M) ks vs) (hv:IR w M v vv):∀{rs R:List (List Lf)} {es:List MapEntry} {i:Nat},Rs (Eu w M) rs es→Ce rs ks v=some R→
  ((Instr.findAsking t (.agg vs.toArray) es i).run P w=.ok none w∧∀b,Rs (Eu w M) R (es++[⟨.agg vs.toArray,vv,b⟩]))∨
  ∃j u e,(Instr.findAsking t (.agg vs.toArray) es i).run P w=.ok (some (i+j,u)) w∧es[j]?=some e∧e.key=.agg vs.toArray∧Rs (Eu w M) R (es.set j {e with key:=.agg vs.toArray,val:=vv})
 | [],R,[],i,_,h=>by
  simp only[Ce]at h;cases h;exact .inl ⟨by simp [Instr.findAsking],fun b=>⟨⟨v,ks,rfl,hv,.inr ⟨h2,vs,rfl,hr⟩⟩,trivial⟩⟩
 |_ ::rs,R,e ::es,i,hre,h=>by
  obtain⟨⟨v',Q7,rfl,g1,g2⟩,g3⟩:=hre;have QaN:∀{b:Bool},xw ks Q7=some b→(Op.equal t (.agg vs.toArray) e.key).run P w=.ok b w∧(b=true→e.key=.agg vs.toArray):=by
   intro b hb;rcases g2 with⟨k,rfl,_⟩|⟨_,vs',wP,Vm⟩
   ·have:=S6 hb;simp at this;omega
   ·rw[wP];exact⟨SH (M:=M) (φ:=fun _=>none) (d:=9998) hu nr HH (MI hf hb) (Rs.mono (fun _ _ h=>IR.lr h) hr) (Rs.mono (fun _ _ h=>IR.lr h) Vm),fun T4=>by subst T4;rw[Vr hf hb hr Vm]⟩
  simp only[Ce]at h;split at h
  ·rename_i hq;cases h;exact .inr ⟨0,e.val,e,by simp [Instr.findAsking,(QaN hq).1],rfl,(QaN hq).2 rfl,⟨v,ks,rfl,hv,.inr ⟨h2,vs,rfl,hr⟩⟩,g3⟩
  ·rename_i hq;cases hp:Ce rs ks v with
   |none=>rw[hp]at h;cases h
   |some R' =>
    rw[hp]at h;cases h;rcases VH hu nr HH hf h2 hr hv (i:=i+1) g3 hp with⟨q1,q2⟩|⟨j,u,e',q1,q2,q3,q4⟩
    ·exact .inl ⟨by simp [Instr.findAsking,(QaN hq).1,q1],fun b=>⟨⟨v',Q7,rfl,g1,g2⟩,q2 b⟩⟩
    ·exact .inr ⟨j+1,u,e',by simp [Instr.findAsking,(QaN hq).1,q1];omega,by simpa using q2,q3,⟨v',Q7,rfl,g1,g2⟩,q4⟩
  ·cases h
 | [],_,_ ::_,_,hr,_=>hr.elim
 |_ ::_,_,[],_,hr,_=>hr.elim
structure QhX (P:Program) (w:World) (M:Nat→Prop) (kt:TypeId) (ks:List Lf) (kv:Value):Prop where
 check:∀em,(Instr.checkKey em 10000 kt kv).run P w=.ok () w
 stays:(Instr.keyThatStays kv kv).run P w=.ok kv w
 get:∀{rs:List (List Lf)} {es:List MapEntry} {z v:Lf},Rs (Eu w M) rs es→Ho rs ks z=some v→∃r,(Instr.findKey kt kv es).run P w=.ok r w∧((r=none∧v=z)∨∃j u,r=some (j,u)∧IR w M v u)
 put:∀{rs R:List (List Lf)} {es:List MapEntry} {v:Lf} {vv:Value},IR w M v vv→Rs (Eu w M) rs es→Ce rs ks v=some R→
  ((Instr.findKey kt kv es).run P w=.ok none w∧∀b,Rs (Eu w M) R (es++[⟨kv,vv,b⟩]))∨
  ∃j u e,(Instr.findKey kt kv es).run P w=.ok (some (j,u)) w∧es[j]?=some e∧e.key=kv∧Rs (Eu w M) R (es.set j {e with key:=kv,val:=vv})
theorem Y2{kt:TypeId}{kc:Cm}{kv:Value}(h:P2 P kt kc=true)(hk:CR w M φ kc kv):QhX P w M kt kc.cells kv:=by
 cases kc with
 |one k =>
  have h':Jr P kt k=true:=h;have Vl:LR w M φ k kv:=hk;obtain⟨d,hd,hkd⟩:=Qd1 h' Vl;have hi:=QaU h' Vl;refine⟨fun em=>Go.MapKept.run_checkKey hd hkd em 9999,Go.MapKept.run_keyThatStays hkd,fun hr hg=>?_,fun hv hr hg=>?_⟩
  ·obtain⟨r,q1,q2⟩:=Y7 hi hkd (i:=0) hr hg;exact⟨r,Go.MapKept.run_findKey hd q1,q2⟩
  ·rcases Y8 hi hv hkd (i:=0) hr hg with⟨q1,q2⟩|⟨j,u,e,q1,q2,q3,q4⟩
   ·exact .inl ⟨Go.MapKept.run_findKey hd q1,q2⟩
   ·rw[Nat.zero_add]at q1;exact .inr ⟨j,u,e,Go.MapKept.run_findKey hd q1,q2,q3,q4⟩
 |agg ks =>
  simp only[P2,Bool.and_eq_true]at h;obtain⟨h2,h3⟩:=h;have h2':2≤ks.length:=Nat.le_of_ble_eq_true h2;split at h3
  ·rename_i us Ny;have YW:∃fs,P.underlying kt=some (.struct fs)∧P.stoodInHeld kt=false∧Jd P 0 fs.toList=some us:=by
    unfold Qb2 at Ny;split at Ny
    ·rename_i fs hu;cases hc:(!P.stoodInHeld kt&&!P.eqGuardType P.depth kt)with
     |false=>rw[hc]at Ny;cases Ny
     |true =>
      rw[hc]at Ny;simp only[Bool.and_eq_true,Bool.not_eq_true']at hc;exact⟨fs,hu,hc.1,Ny⟩
    ·cases Ny
   obtain⟨fs,hu,nr,HH⟩:=YW;obtain⟨vs,rfl,hr⟩:=hk;have hri:Rs (IR w M) ks vs:=Q1 h3 hr;have hfk:∀es:List MapEntry,(Instr.findKey kt (.agg vs.toArray) es).run P w=(Instr.findAsking kt (.agg vs.toArray) es).run P w:=fun es=>run_findKey_eq w (by rw[hu]) _ es
   refine⟨fun em=>Pb (n:=9998) hu HH h3 hr,?_,fun hre hg=>?_,fun hv hre hg=>?_⟩
   ·unfold Instr.keyThatStays;have:Instr.sameBits 10000 (.agg vs.toArray) (.agg vs.toArray)=true:=by
     simp only[Instr.sameBits,beq_self_eq_true,Bool.true_and];exact On (n:=9999) h3 hri
    rw[if_pos this];rfl
   ·rw[hfk];exact VG hu nr HH h3 h2' hri hre hg
   ·rw[hfk];rcases VH hu nr HH h3 h2' hri hv (i:=0) hre hg with q|⟨j,u,e,q1,q2,q3,q4⟩
    ·exact .inl q
    ·rw[Nat.zero_add]at q1;exact .inr ⟨j,u,e,q1,q2,q3,q4⟩
  ·cases h3
theorem Te{id:Nat}{ob:Ob}{rs:List (List Lf)}(hO:OR w M φ id ob)(hm:KV ob.rows=some rs)(tS:ob.box=true):∃b es TZ,φ id=some (some (b,1))∧w.heap[b]?=some (.map es TZ)∧Rs (Eu w M) rs es.toList∧ob.rows=[] :: [] ::rs:=by
 rcases hO with⟨h0,hO⟩|hO
 ·exfalso;obtain⟨b,hφ⟩:=(show OR w M φ id ob from .inl ⟨h0,hO⟩).boxed tS;rw[hφ]at hO;obtain⟨cur,g1,g2,g3,g4,g5,g6⟩:=hO;unfold KV at hm;split at hm
  ·rename_i r hr;rw[hr]at g3;simp at g3
  ·cases hm
 ·obtain⟨-,rs',b,es,TZ,h1,h2,h3,h4⟩:=hO;rw[h1]at hm;cases hm;exact⟨b,es,TZ,h2,h3,h4,h1⟩
theorem Qhz{t:TypeId}{z:Lf}(h:zeroV P t=some z):∃zv,(∀w,(zeroValue t).run P w=.ok zv w)∧LR w M φ z zv:=by
 unfold zeroV at h;split at h
 ·rename_i i hi;split at h
  ·rename_i zv hz;exact⟨zv,fun w=>by simp [zeroValue,typeInfo,hi,hz],MX h⟩
  ·cases h
 ·cases h
theorem V4(dX:d_ r.ic)(hg:g)(hF:∀t,AR w M φ (L t) (a.tmps.getD t undef))(hW:Wd Γ φ M hD w)(gC:∀id ob,h id=some ob→hD id=some ob)
  (tY:∀id,base≤id→id<base+r.news.length→φ id=none∧hD id=none) (hf:WD P h base g L o.op hs=some r):Yd P Γ φ M hD w base r ((execOp a.eval o).run P w):=by
 unfold WD at hf;split at hf
 ·rename_i t ho;split at hf
  ·rename_i kt vt hu;cases hf;have hf0:=tY base (Nat.le_refl _) (by simp)
   have hb:=w7 w (.map #[] 0);refine Yd.new (v:=.map (some w.heap.size)) (w':=w.alloc (.map #[] 0)) (b:=w.heap.size) (C:=1) ?_ rfl hW tY hb (Nat.le_refl _) (by simp) ?_ ⟨w.heap.size,fB _ _ _,rfl⟩
   ·simp [execOp,ho,Instr.makeMap]
   ·exact .inr ⟨rfl,[],w.heap.size,#[],0,rfl,fB _ _ _,(heap_alloc w _).1,trivial⟩
  ·cases hf
 ·rename_i t x i ho;split at hf
  ·rename_i kt vt id o1 k o2 v jC hu h1 h2;split at hf
   ·rename_i ob z hid hz;split at hf
    ·rename_i rs hm;cases hc:(ob.box&&P2 P kt k)with
     |false=>rw[hc]at hf;cases hf
     |true =>
      rw[hc]at hf;cases hf;rw[Bool.and_eq_true]at hc;simp only[bC,d_]at dX;obtain⟨b,hφ,hv⟩:zH w M φ (.mp id) (a.eval x):=da hF h1 dX.1.1 hg;have hk:CR w M φ k (a.eval i):=da hF h2 dX.1.2 hg;have hkr:=Y2 hc.2 hk;obtain⟨b',es,TZ,g1,g2,g3,-⟩:=Te (hW.ic id ob (gC id ob hid)) hm hc.1;rw[hφ]at g1;cases g1;obtain⟨zv,hz1,hz2⟩:=Qhz (M:=M) (φ:=φ) (w:=w) hz;have hck:=hkr.check es.isEmpty;obtain⟨r,q1,q2⟩:=hkr.get g3 dX.2.1;rcases q2 with⟨rfl,rfl⟩|⟨j,u,rfl,q2⟩
      ·refine Yd.val (v:=zv) ?_ rfl hz2 hW;simp [execOp,ho,hv,Instr.lookup,run_underlying hu,Go.MapKept.run_getObj_map g2,hck,q1,hz1,Result.andThen]
      ·refine Yd.val (v:=u) ?_ rfl (IR.lr q2:LR w M φ v u) hW;simp [execOp,ho,hv,Instr.lookup,run_underlying hu,Go.MapKept.run_getObj_map g2,hck,q1,Result.andThen]
    ·cases hf
   ·cases hf
  ·cases hf
 ·cases hf
end
end
section
open Go.RowKit
section
variable {P : Program} {Γ : bn} {φ : Pl} {M : Nat → Prop} {hD h : Nat → Option Ob} {w : World} {base : Nat} {L : Nat → AV} {a : Act} {g : Prop} {hs : List Hint} {r : Pu} {o : Oper}
theorem Ki{c:Call}{b:Builtin}(ho:o.op=.call c)(hc:c.callee=.builtin b):∃cn,(execOp a.eval o).run P w=(builtin b c.argTypes o.type cn (c.args.map a.eval)).run P w:=by
 refine⟨c.args.map fun|.const _=>true|_=>false,?_⟩
 simp only[execOp,ho,resolve,hc,Sem.run_bind,Sem.run_pure,Result.andThen_ok,invoke];rfl
theorem Rs.UM{c1 c2:Cm}{vs:List Value}(h:Rs (CR w M φ) [c1,c2] vs):∃v1 v2,vs=[v1,v2]∧CR w M φ c1 v1∧CR w M φ c2 v2:=by
 match vs,h with
 | [v1,v2],h=>exact⟨v1,v2,rfl,h.1,h.2.1⟩
theorem Rs.QjV{c1:Cm}{vs:List Value}(h:Rs (CR w M φ) [c1] vs):∃v1,vs=[v1]∧CR w M φ c1 v1:=by
 match vs,h with
 | [v1],h=>exact⟨v1,rfl,h.1⟩
theorem UB(dX:d_ r.ic)(hg:g)(hF:∀t,AR w M φ (L t) (a.tmps.getD t undef))(hW:Wd Γ φ M hD w)(gC:∀id ob,h id=some ob→hD id=some ob){c:Call}{b:Builtin}(ho:o.op=.call c)(hc:c.callee=.builtin b)(hf:Av P h base g L o.op hs=some r)
  (tY:∀id,base≤id→id<base+r.news.length→φ id=none∧hD id=none):Yd P Γ φ M hD w base r ((execOp a.eval o).run P w):=by
 rw[ho]at hf;simp only[Av,hc]at hf;split at hf
 ·rename_i args o1 h1;cases hb:zs P h base b args c.argTypes.toList hs with
  |none=>rw[hb]at hf;cases hf
  |some r0 =>
   rw[hb]at hf;cases hf;simp only[bC]at dX;have hA:=xy hF hg h1 dX.1;have Hl:c.args.map a.eval=(c.args.toList.map a.eval).toArray:=by apply Array.ext';simp
   have Qgp:c.argTypes=c.argTypes.toList.toArray:=by simp
   obtain⟨cn,ec⟩:=Ki (P:=P) (w:=w) (a:=a) ho hc;rw[Hl,Qgp]at ec;generalize hvs:c.args.toList.map a.eval=vs at hA ec;generalize htt:c.argTypes.toList=tys at hb ec;have key:∀r1:Pu,r1=r0→Yd P Γ φ M hD w base r0 ((execOp a.eval o).run P w)→Yd P Γ φ M hD w base ⟨r0.v,r0.news,o1++r0.ic,r0.hs⟩ ((execOp a.eval o).run P w):=fun _ _ h=>h
   refine key r0 rfl ?_
   by_cases Rw:b=.append
   ·subst Rw;have WH:=hb;unfold zs at WH;split at WH
    all_goals first|(rename_i hq;cases hq;done)|skip
    ·rename_i kx n t t' _;obtain⟨vd,vx,rfl,hd,hx⟩:=hA.UM;refine Nq (h:=h) (ty:=o.type) hg hW hb dX.2 hd hx (fun v w' hr=>?_) tY
     rw[ec];simp only[builtin,Sem.run_bind];have Vm:(Builtin.append_ #[t,t'] o.type #[vd,vx]).run P w=.ok v w':=hr;rw[show [t,t'].toArray=#[t,t']from rfl,show [vd,vx].toArray=#[vd,vx]from rfl,Vm];rfl
    ·rename_i d x t t' _ _;obtain⟨vd,vx,rfl,hd,hx⟩:=hA.UM;refine QE (h:=h) (tys:=[t']) (ty:=o.type) hg hW gC WH dX.2 hd hx (fun v w' hr=>?_) tY
     rw[ec];simp only[builtin,Sem.run_bind];have Vm:(Builtin.append_ #[t,t'] o.type #[vd,vx]).run P w=.ok v w':=hr;rw[show [t,t'].toArray=#[t,t']from rfl,show [vd,vx].toArray=#[vd,vx]from rfl,Vm];rfl
    ·cases WH
   ·unfold zs at hb;split at hb
    ·rename_i l t;obtain⟨v,rfl,hl⟩:=hA.QjV;have fin:∀n:Int,(Builtin.len_ #[t] o.type #[v]).run P w=.ok (.int .i64 n) w→r0.v=one (.int .i64 n)→r0.news=[]→Yd P Γ φ M hD w base r0 ((execOp a.eval o).run P w):=fun n h1 h2 h3=>by
      refine Yd.val (v:=.int .i64 n) ?_ h3 (by rw[h2];exact IR.int _ _) hW
      rw[ec];simp only[builtin,Sem.run_bind];rw[show [t].toArray=#[t]from rfl,show [v].toArray=#[v]from rfl,h1];rfl
     split at hb
     ·rename_i s hu;cases hb;have PY:IR w M (.str s) v:=hl;cases PY;exact fin _ (by simp [Builtin.len_,run_underlying hu,goInt,xq]) rfl rfl
     ·rename_i e hu;cases hb;have PY:IR w M .dO v:=hl;cases PY;exact fin _ (by simp [Builtin.len_,run_underlying hu,goInt]) rfl rfl
     ·rename_i id sz off len e hu;split at hb
      ·rename_i n jC;cases hb;obtain⟨rfl,-⟩:=dX.2;have PY:zH w M φ (.os id sz off len) v:=hl;rcases PY with⟨b,C,hφ,rfl,hle⟩|⟨hφ,_,rfl,A,rfl⟩
       ·exact fin _ (by simp [Builtin.len_,run_underlying hu,goInt]) rfl rfl
       ·exact fin _ (by simp [Builtin.len_,run_underlying hu,goInt]) rfl rfl
      ·cases hb
     ·rename_i cl sz rows e hu;split at hb
      ·rename_i n jC;cases hb;obtain⟨rfl,-⟩:=dX.2;have PY:IR w M (.sl cl sz rows) v:=hl;cases PY with
       |TG=>exact fin _ (by simp [Builtin.len_,run_underlying hu,goInt]) rfl rfl
       |sl=>exact fin _ (by simp [Builtin.len_,run_underlying hu,goInt]) rfl rfl
      ·cases hb
     ·cases hb
    ·rename_i t;obtain⟨v,rfl,hl⟩:=hA.QjV;split at hb
     ·rename_i e hu;cases hb;have PY:IR w M .dO v:=hl;cases PY;refine Yd.val (v:=.int .i64 0) ?_ rfl (IR.int _ _) hW;rw[ec];simp [builtin,Builtin.cap_,run_underlying hu,goInt]
     ·cases hb
    ·rename_i k p k' q;cases hb;obtain⟨v1,v2,rfl,e1,e2⟩:=hA.UM;have e1':IR w M (.int k p) v1:=e1;have e2':IR w M (.int k' q) v2:=e2;cases e1';cases e2';refine Yd.val (v:=.int k (zz p q)) ?_ rfl (IR.int _ _) hW;rw[ec];simp [builtin,Builtin.max_,Builtin.max2,List.foldlM,zz]
    ·rename_i k p k' q;cases hb;obtain⟨v1,v2,rfl,e1,e2⟩:=hA.UM;have e1':IR w M (.int k p) v1:=e1;have e2':IR w M (.int k' q) v2:=e2;cases e1';cases e2';refine Yd.val (v:=.int k (QlY p q)) ?_ rfl (IR.int _ _) hW;rw[ec];simp [builtin,Builtin.min_,Builtin.min2,List.foldlM,QlY]
    ·exact absurd rfl Rw
    ·exact absurd rfl Rw
    ·cases hb
 ·cases hf
theorem KR(hf:Av P h base g L o.op hs=some r)(dX:d_ r.ic)(hg:g)(hF:∀t,AR w M φ (L t) (a.tmps.getD t undef))(hW:Wd Γ φ M hD w)(gC:∀id ob,h id=some ob→hD id=some ob)
  (tY:∀id,base≤id→id<base+r.news.length→φ id=none∧hD id=none):Yd P Γ φ M hD w base r ((execOp a.eval o).run P w):=by
 cases ho:o.op with
 |move x=>rw[ho]at hf;exact TM dX hg hF hW (.inl ho) hf
 |assign x=>rw[ho]at hf;exact TM (h:=h) (hs:=hs) dX hg hF hW (.inr ho) (by simpa only[Av]using hf)
 |pick c x y=>exact Qbs dX hg hF hW ho hf
 |alloc e=>exact ZH dX hg hF hW ho hf tY
 |box e x=>exact QeB dX hg hF hW ho hf tY
 |build t ps=>exact ZJ dX hg hF hW ho hf
 |buildSlice t n ps=>exact QF dX hg hF hW ho hf tY
 |load t x=>exact Qbr ho hf dX hg hF hW gC
 |nilCheck x=>exact TN dX hg hF hW ho hf
 |binOp op t x y u =>
  rw[ho]at hf;simp only[Av]at hf;split at hf
  ·rename_i r1 h1;cases hf;exact ZI dX hg hF hW ho h1
  ·exact QeC dX hg hF hW ho hf
 |unOp u t x=>exact Qbt dX hg hF hW ho hf
 |convert s d x=>exact UC dX hg hF hW gC ho hf
 |makeFunc f first jW=>exact TL dX hg hF hW ho hf
 |makeSlice t x y=>exact RK dX hg hF hW ho hf tY
 |slice t x lo hi mx=>exact ZM dX hg hF hW ho hf
 |fieldAddr t x f=>exact RI dX hg hF hW ho hf
 |field t x f=>exact ZK dX hg hF hW ho hf
 |indexAddr t x i=>exact RJ dX hg hF hW ho hf
 |index t x i=>exact ZL dX hg hF hW ho hf
 |extract x i=>exact UD dX hg hF hW ho hf
 |call c =>
  cases hc:c.callee with
  |builtin b=>exact UB dX hg hF hW gC ho hc hf tY
  |value f=>rw[ho]at hf;simp only[Av,hc]at hf;cases hf
  |invoke x m=>rw[ho]at hf;simp only[Av,hc]at hf;cases hf
 |makeMap t q=>exact V4 dX hg hF hW gC tY (by rw[ho]at hf ⊢;exact hf)
 |lookup t x i q=>exact V4 dX hg hF hW gC tY (by rw[ho]at hf ⊢;exact hf)
 |_=>rw[ho]at hf;simp only[Av,WD]at hf;cases hf
end
end
end Go.Proofs.YtbilkblifgaflaaGreatDoor
