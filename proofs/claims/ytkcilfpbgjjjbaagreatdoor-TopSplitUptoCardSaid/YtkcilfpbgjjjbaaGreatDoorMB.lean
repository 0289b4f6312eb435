/- Part MB. -/
import Derived.Test.YtkcilfpbgjjjbaaGreatDoorMA
import Derived.IntWalk
import Derived.MapKept
import Derived.WideKeyRuns
set_option linter.unusedSimpArgs false
set_option linter.unusedVariables false
set_option linter.unusedSectionVars false
namespace Go.Proofs.YtkcilfpbgjjjbaaGreatDoor
section
open Go.RowKit
def NQ:Exit→Act→World→Prop:=fun _ _ _=>False
theorem Z0{P:Program}{o:Oper}{a:Act}{w:World}{K K':Act→World→Prop}{Q:Exit→Act→World→Prop}(h:∀a w,K a w→K' a w)(hh:o.wp P a w K NQ):o.wp P a w K' Q:=by
 unfold Oper.wp at *;generalize(execOp a.eval o).run P w=r at *;cases r with
 |ok nx w' =>
  cases nx <;> simp only[Oper.upon]at hh ⊢ <;>
   first
    |exact h _ _ hh
    | exact Calls.mono hh (fun e w'' he=>by
      cases e with
      |returned v=>exact h _ _ he
      |panicked c=>exact he.elim
      |outgrown=>obtain⟨_,_,hf⟩:=he;exact hf.elim)
    |exact Rows.mono hh (fun _ _ he=>h _ _ he)
 |halt x w'=>cases x <;> simp only[Oper.upon]at hh ⊢ <;> exact hh.elim
section
variable {α β γ : Type} {R R' : α → β → Prop}
theorem Rs.len:∀{xs:List α} {ys:List β},Rs R xs ys→xs.length=ys.length
 | [],[],_=>rfl
 |_ ::xs,_ ::ys,h=>by simp only[List.length_cons];rw[Rs.len h.2]
 | [],_ ::_,h=>h.elim
 |_ ::_,[],h=>h.elim
theorem Rs.get:∀{xs:List α} {ys:List β} {i:Nat} {x:α},Rs R xs ys→xs[i]?=some x→∃y,ys[i]?=some y∧R x y
 | [],_,_,_,_,h=>by simp at h
 |_ ::_,[],_,_,h,_=>h.elim
 |x ::xs,y ::ys,0,_,h,e=>by simp at e;subst e;exact⟨y,rfl,h.1⟩
 |x ::xs,y ::ys,i+1,_,h,e=>by
  obtain⟨z,hz,hr⟩:=Rs.get (i:=i) h.2 (by simpa using e)
  exact⟨z,by simpa using hz,hr⟩
theorem Rs.mono(hR:∀x y,R x y→R' x y):∀{xs:List α} {ys:List β},Rs R xs ys→Rs R' xs ys
 | [],[],_=>trivial
 |_ ::_,_ ::_,h=>⟨hR _ _ h.1,Rs.mono hR h.2⟩
 | [],_ ::_,h=>h.elim
 |_ ::_,[],h=>h.elim
theorem Rs.append:∀{xs xs':List α} {ys ys':List β},Rs R xs ys→Rs R xs' ys'→Rs R (xs++xs') (ys++ys')
 | [],_,[],_,_,h=>h
 |_ ::_,_,_ ::_,_,h,h'=>⟨h.1,Rs.append h.2 h'⟩
 | [],_,_ ::_,_,h,_=>h.elim
 |_ ::_,_,[],_,h,_=>h.elim
theorem Rs.take:∀(n:Nat) {xs:List α} {ys:List β},Rs R xs ys→Rs R (xs.take n) (ys.take n)
 |0,_,_,_=>by simp [Rs]
 |n+1,[],[],_=>by simp [Rs]
 |n+1,_ ::_,_ ::_,h=>⟨h.1,Rs.take n h.2⟩
 |_,[],_ ::_,h=>h.elim
 |_,_ ::_,[],h=>h.elim
theorem Rs.drop:∀(n:Nat) {xs:List α} {ys:List β},Rs R xs ys→Rs R (xs.drop n) (ys.drop n)
 |0,_,_,h=>h
 |n+1,[],[],_=>by simp [Rs]
 |n+1,_ ::_,_ ::_,h=>Rs.drop n h.2
 |_,[],_ ::_,h=>h.elim
 |_,_ ::_,[],h=>h.elim
theorem Rs.Qc7:∀{xs:List α} {ys:List β},xs.length=ys.length→(∀(i:Nat) (x:α) (y:β),xs[i]?=some x→ys[i]?=some y→R x y)→Rs R xs ys
 | [],[],_,_=>trivial
 |x ::xs,y ::ys,hl,h=>⟨h 0 x y rfl rfl,Rs.Qc7 (by simpa using hl) fun i a b ha hb=>h (i+1) a b (by simpa using ha) (by simpa using hb)⟩
 | [],_ ::_,hl,_=>by simp at hl
 |_ ::_,[],hl,_=>by simp at hl
theorem Rs.yc{f:γ→α}:∀{xs:List γ} {ys:List β},Rs (fun x y=>R (f x) y) xs ys→Rs R (xs.map f) ys
 | [],[],_=>trivial
 |_ ::_,_ ::_,h=>⟨h.1,Rs.yc h.2⟩
 | [],_ ::_,h=>h.elim
 |_ ::_,[],h=>h.elim
theorem Rs.imp_mem:∀{xs:List α} {ys:List β},(∀x∈xs,∀y,R x y→R' x y)→Rs R xs ys→Rs R' xs ys
 | [],[],_,_=>trivial
 |x ::_,_ ::_,hR,h=>⟨hR x (by simp) _ h.1,Rs.imp_mem (fun z hz=>hR z (by simp [hz])) h.2⟩
 | [],_ ::_,_,h=>h.elim
 |_ ::_,[],_,h=>h.elim
theorem bm:∀{a b:List Prop},c6 (a++b)↔c6 a∧c6 b
 | [],b=>by simp [c6]
 |p ::a,b=>by simp only[List.cons_append,c6];rw[bm];exact and_assoc.symm
end
structure Ex (w:World) (M:Nat→Prop) (φ:Pl) (w':World) (M':Nat→Prop) (φ':Pl):Prop where
 WL:∀b,M b→w'.heap[b]?=w.heap[b]?
 sub:∀b,M b→M' b
 pl:∀id p,φ id=some p→φ' id=some p
theorem Ex.refl(w:World)(M:Nat→Prop)(φ:Pl):Ex w M φ w M φ:=⟨fun _ _=>rfl,fun _ h=>h,fun _ _ h=>h⟩
section
variable {w w' : World} {M M' : Nat → Prop} {φ φ' : Pl}
theorem IR.mono(hb:∀b,M b→w'.heap[b]?=w.heap[b]?)(hM:∀b,M b→M' b){l:Lf}{v:Value}(h:IR w M l v):IR w' M' l v:=by
 induction h with
 |any v h=>exact .any v h
 |int k n=>exact .int k n
 |bool b=>exact .bool b
 |str s=>exact .str s
 |Mt=>exact .Mt
 |cB=>exact .cB
 |fn f=>exact .fn f
 |ip cells off b o vs hm hc _ ih=>exact .ip cells off b o vs (hM b hm) (fun i l hl=>(World.cell?_of_block (hb b hm)).trans (hc i l hl)) ih
 |OJ cl sz a cap h=>exact .OJ cl sz a cap h
 |sl cl sz rows b o cap vs hm hl Ee hs hc _ ih=>exact .sl cl sz rows b o cap vs (hM b hm) hl Ee hs (fun i c j l h1 h2=>(World.cell?_of_block (hb b hm)).trans (hc i c j l h1 h2)) ih
theorem IR.one{l:Lf}{v:Value}(h:IR w M l v):v.oneCell'=true:=by cases h <;> first|rfl|assumption
theorem uK.mono(he:Ex w M φ w' M' φ'){l:Lf}{v:Value}(h:uK w M φ l v):uK w' M' φ' l v:= by
  cases l <;> first
    |exact IR.mono he.WL he.sub h
    |(obtain⟨b,h1,h2⟩:= h;exact⟨b,he.pl _ _ h1,h2⟩)
    |(obtain⟨b,C,h1,h2⟩:= h;exact⟨b,C,he.pl _ _ h1,h2⟩)
    | (rcases h with ⟨b, C, h1, h2⟩ | ⟨h1, h2⟩
       · exact .inl ⟨b,C,he.pl _ _ h1,h2⟩
       · exact .inr ⟨he.pl _ _ h1,h2⟩)
theorem uK.one{l:Lf}{v:Value}(h:uK w M φ l v):v.oneCell'=true:=by
 cases l <;> first
  |exact IR.one h
  |(obtain⟨b,h1,rfl⟩:=h;rfl)
  |(obtain⟨b,C,h1,rfl⟩:=h;rfl)
  |(rcases h with⟨b,C,h1,rfl,_⟩|⟨h1,_,_,a,rfl⟩ <;> rfl)
theorem M8{l:Lf}{v:Value}(hn:TC l=false):LR w M φ l v=uK w M φ l v:=by
 cases l <;> first|rfl|cases hn
theorem LR.split{l:Lf}{v:Value}(h:LR w M φ l v):(TC l=false∧uK w M φ l v)∨∃f gP vs,l=.fn f gP∧v=.func f #[] (List.toArray vs)∧Rs (uK w M φ) gP vs:=by
 cases hf:TC l with
 |false=>rw[M8 hf]at h;exact .inl ⟨rfl,h⟩
 |true =>
  cases l <;> first|cases hf|skip
  obtain⟨vs,h1,h2⟩:=h;exact .inr ⟨_,_,vs,rfl,h1,h2⟩
theorem LR.mono(he:Ex w M φ w' M' φ'){l:Lf}{v:Value}(h:LR w M φ l v):LR w' M' φ' l v:=by
 rcases h.split with⟨hf,h0⟩|⟨f,gP,vs,rfl,rfl,h2⟩
 ·rw[M8 hf];exact uK.mono he h0
 ·exact⟨vs,rfl,h2.mono fun _ _ h=>uK.mono he h⟩
theorem LR.one{l:Lf}{v:Value}(h:LR w M φ l v):v.oneCell'=true:=by
 rcases h.split with⟨hf,h0⟩|⟨f,gP,vs,rfl,rfl,h2⟩
 ·exact uK.one h0
 ·rfl
theorem CR.mono(he:Ex w M φ w' M' φ'){c:Cm}{v:Value}(h:CR w M φ c v):CR w' M' φ' c v:=by
 cases c with
 |one l=>exact LR.mono he h
 |agg ls=>obtain⟨vs,h1,h2⟩:=h;exact⟨vs,h1,h2.mono fun _ _ h=>LR.mono he h⟩
theorem AR.mono(he:Ex w M φ w' M' φ'){c:AV}{v:Value}(h:AR w M φ c v):AR w' M' φ' c v:=by
 cases c with
 |cm c=>exact CR.mono he h
 |jx cs=>obtain⟨vs,h1,h2⟩:=h;exact⟨vs,h1,h2.mono fun _ _ h=>CR.mono he h⟩
 |gd p c=>exact⟨fun hp=>CR.mono he (h.1 hp),h.2⟩
 |Lz=>trivial
 |Xp=>exact h
 |vl u c=>exact⟨h.1,CR.mono he h.2⟩
theorem LR.NN{l:Lf}{v:Value}(hi:Ma l=true)(h:LR w M φ l v):IR w M l v:=by
 cases l <;> first|exact h|cases hi|skip
 rename_i f gP;cases gP with
 |cons x r=>cases hi
 |nil =>
  obtain⟨vs,rfl,h2⟩:=h;cases vs with
  |nil=>exact IR.fn f
  |cons y s=>exact h2.elim
theorem IR.lr{l:Lf}{v:Value}(h:IR w M l v):LR w M φ l v:=by
 cases h with
 |any v h=>exact IR.any v h
 |int k n=>exact IR.int k n
 |bool b=>exact IR.bool b
 |str s=>exact IR.str s
 |Mt=>exact IR.Mt
 |cB=>exact IR.cB
 |fn f=>exact⟨[],rfl,trivial⟩
 |ip cells off b o vs hm hc h=>exact IR.ip cells off b o vs hm hc h
 |OJ cl sz a cap h=>exact IR.OJ cl sz a cap h
 |sl cl sz rows b o cap vs hm hl Ee hs hc h=>exact IR.sl cl sz rows b o cap vs hm hl Ee hs hc h
theorem uK.lr{l:Lf}{v:Value}(h:uK w M φ l v):LR w M φ l v:=by
 cases hf:TC l with
 |false=>rw[M8 hf];exact h
 |true=>cases l <;> first|exact IR.lr h|cases hf
theorem CR.cells{c:Cm}{v:Value}(h:CR w M φ c v):Rs (LR w M φ) c.cells v.cells.toList:=by
 cases c with
 |one l =>
  have h1:=LR.one h;have:v.cells=#[v]:=by cases v <;> first|rfl|cases h1
  rw[this];exact⟨h,trivial⟩
 |agg ls=>obtain⟨vs,rfl,h2⟩:=h;simpa [Value.cells,Cm.cells]using h2
theorem Rs.Mi{ls:List Lf}{vs:List Value}(h:Rs (LR w M φ) ls vs):∀v∈vs,v.oneCell'=true:=by
 intro v hv;obtain⟨i,hi⟩:=List.mem_iff_getElem?.1 hv;have hl:=h.len;have jU:i<vs.length:=(List.getElem?_eq_some_iff.1 hi).1;obtain⟨y,hy,hr⟩:=h.get (List.getElem?_eq_getElem (show i<ls.length by omega))
 rw[hi]at hy;cases hy;exact LR.one hr
end
section
variable {w : World} {M : Nat → Prop} {φ : Pl} {L : Nat → AV} {a : Act}
theorem IQ{v:Value}{l:Lf}(h:ofConst v=some l):LR w M φ l v:=by
 unfold ofConst at h;split at h
 ·cases h;exact IR.int _ _
 ·cases h;exact IR.bool _
 ·cases h;exact IR.str _
 ·cases h;exact IR.Mt
 ·cases h;exact IR.cB
 ·cases h;exact IR.any _ rfl
 ·cases h;exact IR.any _ rfl
 ·rename_i f first gP;cases hc:(first.size == 0&&gP.size == 0)with
  |false=>rw[hc]at h;cases h
  |true =>
   rw[hc]at h;cases h;simp only[Bool.and_eq_true,beq_iff_eq]at hc;obtain⟨h1,h2⟩:=hc;obtain rfl:=Array.eq_empty_of_size_eq_zero h1;obtain rfl:=Array.eq_empty_of_size_eq_zero h2;exact⟨[],rfl,trivial⟩
 ·cases h
theorem F1:∀{vs:List Value} {ls:List Lf},CN vs=some ls→Rs (LR w M φ) ls vs
 | [],_,h=>by cases h;trivial
 |v ::vs,ls,h=>by
  simp only[CN]at h;split at h
  ·rename_i l X7 h1 h2;cases h;exact⟨IQ h1,F1 h2⟩
  ·cases h
theorem Xu{v:Value}{c:Cm}(h:Tc v=some c):CR w M φ c v:=by
 unfold Tc at h;split at h
 ·rename_i cs;cases h1:CN cs.toList with
  |none=>rw[h1]at h;cases h
  |some ls=>rw[h1]at h;cases h;exact⟨cs.toList,rfl,F1 h1⟩
 ·cases h1:ofConst v with
  |none=>rw[h1]at h;cases h
  |some l=>rw[h1]at h;cases h;exact IQ h1
theorem E6(hF:∀t,AR w M φ (L t) (a.tmps.getD t undef))(x:Operand):AR w M φ (wP L x) (a.eval x):=by
 cases x with
 |tmp t =>
  have h:=hF t;show AR w M φ (match L t with|.vl _ c=>.cm c|a=>a) (a.tmps.getD t undef)
  split
  ·rename_i e;rw[e]at h;exact h.2
  ·exact h
 |const v =>
  unfold wP
  dsimp only
  split
  ·rename_i c h;exact Xu h
  ·trivial
 |func f=>exact⟨[],rfl,trivial⟩
 |global g=>trivial
theorem Qes{g:Prop}{v:AV}{cv:Value}{c:Cm}{o:List Prop}(h:nX g v=some (c,o))(hv:AR w M φ v cv)(ho:c6 o)(hg:g):CR w M φ c cv:=by
 cases v with
 |cm c'=>cases h;exact hv
 |gd p c'=>cases h;exact hv.1 (ho.1 hg)
 |jx cs=>cases h
 |Lz=>cases h
 |Xp=>cases h
 |vl u c=>cases h
theorem b7{g:Prop}{x:Operand}{c:Cm}{o:List Prop}(hF:∀t,AR w M φ (L t) (a.tmps.getD t undef))(h:nX g (wP L x)=some (c,o))(ho:c6 o)(hg:g):CR w M φ c (a.eval x):=
 Qes h (E6 hF x) ho hg
theorem tz{g:Prop}(hF:∀t,AR w M φ (L t) (a.tmps.getD t undef))(hg:g):∀{xs:List Operand} {cs:List Cm} {o:List Prop},E8 L g xs=some (cs,o)→c6 o→Rs (CR w M φ) cs (xs.map a.eval)
 | [],_,_,h,_=>by cases h;trivial
 |x ::xs,cs,o,h,ho=>by
  simp only[E8]at h;split at h
  ·rename_i c o1 QR o2 h1 h2;cases h;rw[bm]at ho;exact⟨b7 hF h1 ho.1 hg,tz hF hg h2 ho.2⟩
  ·cases h
theorem G6{g:Prop}(hF:∀t,AR w M φ (L t) (a.tmps.getD t undef))(hg:g):∀{xs:List (Nat×Operand)} {cs:List (Nat×List Lf)} {o:List Prop},PZ L g xs=some (cs,o)→c6 o→
  Rs (fun(p:Nat×List Lf) (q:Nat×Value)=>p.1=q.1∧Rs (LR w M φ) p.2 q.2.cells.toList) cs (xs.map fun(i,x)=>(i,a.eval x))
 | [],_,_,h,_=>by cases h;trivial
 |(i,x) ::xs,cs,o,h,ho=>by
  simp only[PZ]at h;split at h
  ·rename_i c o1 QR o2 h1 h2;cases h;rw[bm]at ho;exact⟨⟨rfl,(b7 hF h1 ho.1 hg).cells⟩,G6 hF hg h2 ho.2⟩
  ·cases h
def Qi2(w:World)(M:Nat→Prop)(φ:Pl)(a:Act):Option Operand→Option Cm→Prop
 |none,none=>True
 |some x,some c=>CR w M φ c (a.eval x)
 |_,_=>False
theorem TZ{g:Prop}(hF:∀t,AR w M φ (L t) (a.tmps.getD t undef))(hg:g){x:Option Operand}{c:Option Cm}{o:List Prop}(h:Qc9 L g x=some (c,o))(ho:c6 o):Qi2 w M φ a x c:=by
 cases x with
 |none=>cases h;trivial
 |some x =>
  simp only[Qc9]at h;cases h1:nX g (wP L x)with
  |none=>rw[h1]at h;cases h
  |some p=>obtain⟨c',o'⟩:=p;rw[h1]at h;cases h;exact b7 hF h1 ho hg
end
section
variable {w w' : World} {M M' : Nat → Prop} {φ φ' : Pl} {Γ : bu} {h h' : Nat → Option Ob}
theorem OC.mono{id:Nat}{ob:Ob}(he:Ex w M φ w' M' φ')(hO:OC w M φ id ob)(hblk:∀b C,φ id=some (some (b,C))→w'.heap[b]?=w.heap[b]?):OC w' M' φ' id ob:=by
 obtain⟨h0,h1⟩:=hO;refine⟨h0,?_⟩;cases hφ:φ id with
 |none=>rw[hφ]at h1;exact h1.elim
 |some p =>
  rw[he.pl id p hφ];rw[hφ]at h1;cases p with
  |none=>exact h1
  |some bc =>
   obtain⟨b,C⟩:=bc;obtain⟨cur,g1,g2,g3,g4,g5,g6⟩:=h1;refine⟨cur,(hblk b C hφ).trans g1,g2,g3,g4,g5,fun i c hc=>⟨(g6 i c hc).1,fun j l hl=>?_⟩⟩
   obtain⟨v,hv,hr⟩:=(g6 i c hc).2 j l hl;refine⟨v,hv,?_⟩;split
   ·rename_i hb;rw[if_pos hb]at hr;exact LR.mono he hr
   ·rename_i hb;rw[if_neg hb]at hr;exact IR.mono he.WL he.sub hr
theorem zt.mono(hb:∀b,M b→w'.heap[b]?=w.heap[b]?)(hM:∀b,M b→M' b){row:List Lf}{e:MapEntry}(h:zt w M row e):zt w' M' row e:=by
 obtain⟨v,ks,h1,h2,h3⟩:=h;refine⟨v,ks,h1,h2.mono hb hM,?_⟩;rcases h3 with⟨k,h4,h5⟩|⟨h4,vs,h5,h6⟩
 ·exact .inl ⟨k,h4,h5.mono hb hM⟩
 ·exact .inr ⟨h4,vs,h5,h6.mono fun _ _ h=>h.mono hb hM⟩
theorem OR.mono{id:Nat}{ob:Ob}(he:Ex w M φ w' M' φ')(hO:OR w M φ id ob)(hblk:∀b C,φ id=some (some (b,C))→w'.heap[b]?=w.heap[b]?):OR w' M' φ' id ob:=by
 rcases hO with hO|⟨hb,rs,b,es,O_,h1,h2,h3,h4⟩
 ·exact .inl (hO.mono he hblk)
 ·exact .inr ⟨hb,rs,b,es,O_,h1,he.pl _ _ h2,(hblk b 1 h2).trans h3,h4.mono fun _ _ h=>zt.mono he.WL he.sub h⟩
theorem OR.oc{id:Nat}{ob:Ob}(hO:OR w M φ id ob)(h:ob.box=false∨∃c,ob.rows=[c]):OC w M φ id ob:=by
 rcases hO with hO|⟨hb,rs,b,es,O_,h1,-⟩
 ·exact hO
 ·rcases h with h|⟨c,h⟩
  ·rw[hb]at h;cases h
  ·rw[h1]at h;cases h
theorem OR.Qh_{id:Nat}{ob:Ob}(hO:OR w M φ id ob)(h:φ id=none):False:=by
 rcases hO with⟨-,hO⟩|⟨-,rs,b,es,O_,-,h2,-⟩
 ·rw[h]at hO;exact hO
 ·rw[h]at h2;cases h2
theorem OR.boxed{id:Nat}{ob:Ob}(hO:OR w M φ id ob)(hb:ob.box=true):∃b,φ id=some (some (b,1)):=by
 rcases hO with⟨-,hO⟩|⟨-,rs,b,es,O_,-,h2,-⟩
 ·cases hφ:φ id with
  |none=>rw[hφ]at hO;exact hO.elim
  |some p =>
   rw[hφ]at hO;cases p with
   |none=>rw[hO.2]at hb;cases hb
   |some bc =>
    obtain⟨b,C⟩:=bc;obtain⟨cur,q1,q2,q3,q4,q5,q6⟩:=hO;rw[q5 hb];exact⟨b,rfl⟩
 ·exact⟨b,h2⟩
theorem OC.Qgu{id:Nat}{ob:Ob}(hO:OC w M φ id ob)(hb:ob.box=true):isMap ob=false:=by
 have hO1:OR w M φ id ob:=.inl hO;obtain⟨b,hφ⟩:=hO1.boxed hb;obtain⟨_,hO⟩:=hO;rw[hφ]at hO;obtain⟨cur,g1,g2,g3,g4,g5,g6⟩:=hO;unfold isMap DM;split
 ·rename_i r hr;rw[hr]at g3;simp at g3
 ·rfl
theorem OR.ren{id WX:Nat}{ob:Ob}(hO:OR w M φ id ob)(e:φ WX=φ id):OR w M φ WX ob:=by
 rcases hO with⟨h0,hO⟩|⟨hb,rs,b,es,O_,h1,h2,h3⟩
 ·exact .inl ⟨h0,by rw[e];exact hO⟩
 ·exact .inr ⟨hb,rs,b,es,O_,h1,e.trans h2,h3⟩
theorem Wd.less(hW:Wd Γ φ M h w)(hs:∀id ob,h' id=some ob→h id=some ob):Wd Γ φ M h' w:=
 ⟨fun id ob e=>hW.fl id ob (hs id ob e),fun i j oi oj b Ci Cj hi hj=>hW.inj i j oi oj b Ci Cj (hs _ _ hi) (hs _ _ hj),hW.mlt,hW.m0,hW.ID,fun id ob b C e=>hW.own id ob b C (hs id ob e),hW.FI,hW.os,hW.tape,hW.output,hW.size,hW.EV,hW.tbw⟩
theorem Wd.tab(hW:Wd Γ φ M h w)(b:Nat)(cs:Array Value)(ht:(b,cs)∈Rv):M b∧b<w.heap.size∧∃t s,w.heap[b]?=some (.cells cs t s):=by
 obtain⟨h1,h2,h3,t,s,h4⟩:=hW.tbw b cs ht;have hm:=hW.m0 b h1;exact⟨hm,hW.mlt b hm,t,s,(hW.FI b h3 h2).trans h4⟩
theorem Wd.grow(hW:Wd Γ φ M h w)(hb:Below w.heap.size w w'):Wd Γ φ M h w':=by
 have he:Ex w M φ w' M φ:=⟨fun b hm=>hb.block b (hW.mlt b hm),fun _ h=>h,fun _ _ h=>h⟩
 exact⟨fun id ob e=>(hW.fl id ob e).mono he fun b C hφ=>hb.block b (hW.own id ob b C e hφ).2.1,hW.inj,fun b hm=>Nat.lt_of_lt_of_le (hW.mlt b hm) hb.size,hW.m0,hW.ID,
  fun id ob b C e hφ=>⟨(hW.own id ob b C e hφ).1,Nat.lt_of_lt_of_le (hW.own id ob b C e hφ).2.1 hb.size,(hW.own id ob b C e hφ).2.2⟩,
  fun b jU hn=>(hb.block b (Nat.lt_of_lt_of_le jU hW.size)).trans (hW.FI b jU hn),hb.os.trans hW.os,hb.tape.trans hW.tape,hb.output.trans hW.output,Nat.le_trans hW.size hb.size,hW.EV,hW.tbw⟩
theorem Wd.Oi(hW:Wd Γ φ M h w)(hb:Below w.heap.size w w'):Ex w M φ w' M φ:=⟨fun b hm=>hb.block b (hW.mlt b hm),fun _ h=>h,fun _ _ h=>h⟩
def GI(φ:Pl)(id:Nat)(p:Option (Nat×Nat)):Pl:=fun i=>if i=id then some p else φ i
theorem dP(φ:Pl)(id:Nat)(p:Option (Nat×Nat)):GI φ id p id=some p:=if_pos rfl
theorem qO{φ:Pl}{id i:Nat}(p:Option (Nat×Nat))(rR:i≠id):GI φ id p i=φ i:=if_neg rR
theorem sA{φ:Pl}{id:Nat}(p:Option (Nat×Nat))(hn:φ id=none):∀i q,φ i=some q→GI φ id p i=some q:=fun i q hq=>by
 rw[qO];· exact hq
 ·rintro rfl;rw[hn]at hq;cases hq
theorem Wd.new(hW:Wd Γ φ M h w){id:Nat}(ob:Ob){b C:Nat}(hφ:φ id=none)(hh:h id=none)(hb:Below w.heap.size w w')(hbs:w.heap.size≤b)(hbl:b<w'.heap.size)
  (hO:OR w' M (GI φ id (some (b,C))) id ob):Wd Γ (GI φ id (some (b,C))) M (fun i=>if i=id then some ob else h i) w':=by
 have qq:=hW.grow hb;have he:Ex w' M φ w' M (GI φ id (some (b,C))):=⟨fun _ _=>rfl,fun _ h=>h,sA _ hφ⟩
 have hpi:∀i o,h i=some o→i≠id:=fun i o e=>by rintro rfl;rw[hh]at e;cases e
 refine⟨fun i o e=>?_,fun i j oi oj c Ci Cj hi hj pi pj=>?_,qq.mlt,qq.m0,qq.ID,fun i o c C' e p=>?_,qq.FI,qq.os,qq.tape,qq.output,qq.size,fun p hp=>he.pl _ _ (hW.EV p hp),hW.tbw⟩
 ·by_cases hi:i=id
  ·subst hi;rw[if_pos rfl]at e;cases e;exact hO
  ·rw[if_neg hi]at e;exact(qq.fl i o e).mono he fun _ _ _=>rfl
 ·have key:∀{k:Nat} {o:Ob} {c Ck:Nat},k≠id→h k=some o→GI φ id (some (b,C)) k=some (some (c,Ck))→c<w.heap.size:=fun hk ho hp=>by
   rw[qO _ hk]at hp;exact(hW.own _ _ _ _ ho hp).2.1
  by_cases Pu:i=id <;> by_cases QC:j=id
  ·rw[Pu,QC]
  ·subst Pu;rw[dP]at pi;cases pi;rw[if_neg QC]at hj;have:=key QC hj pj;omega
  ·subst QC;rw[dP]at pj;cases pj;rw[if_neg Pu]at hi;have:=key Pu hi pi;omega
  ·rw[if_neg Pu]at hi;rw[if_neg QC]at hj;rw[qO _ Pu]at pi;rw[qO _ QC]at pj;exact hW.inj i j oi oj c Ci Cj hi hj pi pj
 ·by_cases hi:i=id
  ·subst hi;rw[dP]at p;cases p;exact⟨fun hm=>by have:=hW.mlt _ hm;omega,hbl,.inr (Nat.le_trans hW.size hbs)⟩
  ·rw[if_neg hi]at e;rw[qO _ hi]at p;exact qq.own i o c C' e p
theorem Wd.IM(hW:Wd Γ φ M h w){id:Nat}(ob:Ob)(hφ:φ id=none)(hh:h id=none)(hr:ob.rows=[])(pc:ob.box=false)(hs:0<ob.sz):
  Wd Γ (GI φ id none) M (fun i=>if i=id then some ob else h i) w:=by
 have he:Ex w M φ w M (GI φ id none):=⟨fun _ _=>rfl,fun _ h=>h,sA _ hφ⟩
 refine⟨fun i o e=>?_,fun i j oi oj c Ci Cj hi hj pi pj=>?_,hW.mlt,hW.m0,hW.ID,fun i o c C' e p=>?_,hW.FI,hW.os,hW.tape,hW.output,hW.size,fun p hp=>he.pl _ _ (hW.EV p hp),hW.tbw⟩
 ·by_cases hi:i=id
  ·subst hi;rw[if_pos rfl]at e;cases e;refine .inl ⟨hs,?_⟩;rw[dP];exact⟨hr,pc⟩
  ·rw[if_neg hi]at e;exact(hW.fl i o e).mono he fun _ _ _=>rfl
 ·by_cases Pu:i=id
  ·subst Pu;rw[dP]at pi;cases pi
  ·by_cases QC:j=id
   ·subst QC;rw[dP]at pj;cases pj
   ·rw[if_neg Pu]at hi;rw[if_neg QC]at hj;rw[qO _ Pu]at pi;rw[qO _ QC]at pj;exact hW.inj i j oi oj c Ci Cj hi hj pi pj
 ·by_cases hi:i=id
  ·subst hi;rw[dP]at p;cases p
  ·rw[if_neg hi]at e;rw[qO _ hi]at p;exact hW.own i o c C' e p
theorem Wd.QfC(hW:Wd Γ φ M h w){id:Nat}{ob ye:Ob}{b C:Nat}(hh:h id=some ob)(hφ:φ id=some (some (b,C)))(Ix:∀k,k≠b→w'.heap[k]?=w.heap[k]?)(j9:w'.heap.size=w.heap.size)
  (hos:w'.os=w.os) (htp:w'.tape=w.tape) (Iy:w'.output=w.output) (hO:OR w' M φ id ye):Wd Γ φ M (fun i=>if i=id then some ye else h i) w':=by
 obtain⟨hm,jU,Px⟩:=hW.own id ob b C hh hφ;have he:Ex w M φ w' M φ:=⟨fun c hc=>Ix c fun e=>hm (e▸hc),fun _ h=>h,fun _ _ h=>h⟩
 have Pz:∀i o,(fun i=>if i=id then some ye else h i) i=some o→∃o',h i=some o':=fun i o e=>by
  by_cases hi:i=id
  ·subst hi;exact⟨ob,hh⟩
  ·simp only[if_neg hi]at e;exact⟨o,e⟩
 refine⟨fun i o e=>?_,fun i j oi oj c Ci Cj hi hj pi pj=>?_,fun c hc=>by rw[j9];exact hW.mlt c hc,hW.m0,hW.ID,fun i o c C' e p=>?_,fun c hc hn=>?_,hos.trans hW.os,htp.trans hW.tape,Iy.trans hW.output,by rw[j9];exact hW.size,hW.EV,hW.tbw⟩
 ·by_cases hi:i=id
  ·subst hi;simp only[if_true]at e;cases e;exact hO
  ·simp only[if_neg hi]at e;exact(hW.fl i o e).mono he fun c C' hp=>Ix c fun hc=>hi (hW.inj i id o ob b C' C e hh (hc▸hp) hφ)
 ·obtain⟨oi',Pu⟩:=Pz i oi hi;obtain⟨oj',QC⟩:=Pz j oj hj;exact hW.inj i j oi' oj' c Ci Cj Pu QC pi pj
 ·obtain⟨o',ho'⟩:=Pz i o e;rw[j9];exact hW.own i o' c C' ho' p
 ·rw[Ix c fun e=>?_]
  ·exact hW.FI c hc hn
  ·subst e;rcases Px with h1|h1
   ·exact hn h1
   ·omega
end
end
section
open Go.RowKit
def Sv(h:Nat→Option Ob)(base:Nat)(news:List Ob):Nat→Option Ob:=fun id=>if base≤id∧id<base+news.length then news[id-base]? else h id
theorem rN(h:Nat→Option Ob)(base:Nat):Sv h base []=h:=by
 funext id;unfold Sv;rw[if_neg (fun h=>by have:=h.2;simp at this;omega)]
theorem T3(h:Nat→Option Ob)(base:Nat)(ob:Ob):Sv h base [ob]=fun i=>if i=base then some ob else h i:=by
 funext id;unfold Sv
 by_cases hi:id=base
 ·subst hi;simp
 ·rw[if_neg hi,if_neg (by simp only[List.length_singleton];omega)]
def Yd(P:Program)(Γ:bu)(φ:Pl)(M:Nat→Prop)(hD:Nat→Option Ob)(w:World)(base:Nat)(r:Lv)(run:Result Next):Prop:=
 ∃v w' φ',run=.ok (.value v) w'∧AR w' M φ' r.v v∧Wd Γ φ' M (Sv hD base r.news) w'∧(∀id p,φ id=some p→φ' id=some p)∧
  (∀id,φ' id≠none→φ id≠none∨(base≤id∧id<base+r.news.length))∧(∀b,M b→w'.heap[b]?=w.heap[b]?)
section
variable {P : Program} {Γ : bu} {φ : Pl} {M : Nat → Prop} {hD h : Nat → Option Ob} {w : World} {base : Nat} {L : Nat → AV} {a : Act} {g : Prop} {hs : List Hint} {r : Lv} {o : Oper}
theorem Yd.val{run:Result Next}{v:Value}(hr:run=.ok (.value v) w)(hn:r.news=[])(hv:AR w M φ r.v v)(hW:Wd Γ φ M hD w):Yd P Γ φ M hD w base r run:=
 ⟨v,w,φ,hr,hv,by rw[hn,rN];exact hW,fun _ _ h=>h,fun _ h=>.inl h,fun _ _=>rfl⟩
theorem Yd.grow{run:Result Next}{v:Value}{w':World}(hr:run=.ok (.value v) w')(hn:r.news=[])(hb:Below w.heap.size w w')(hv:AR w' M φ r.v v)(hW:Wd Γ φ M hD w):Yd P Γ φ M hD w base r run:=
 ⟨v,w',φ,hr,hv,by rw[hn,rN];exact hW.grow hb,fun _ _ h=>h,fun _ h=>.inl h,fun b hm=>hb.block b (hW.mlt b hm)⟩
theorem Yd.new{run:Result Next}{v:Value}{w':World}{ob:Ob}{b C:Nat}(hr:run=.ok (.value v) w')(hn:r.news=[ob])(hW:Wd Γ φ M hD w)(tg:∀id,base≤id→id<base+r.news.length→φ id=none∧hD id=none)
  (hb:Below w.heap.size w w') (hbs:w.heap.size≤b) (hbl:b<w'.heap.size) (hO:OR w' M (GI φ base (some (b,C))) base ob) (hv:AR w' M (GI φ base (some (b,C))) r.v v):Yd P Γ φ M hD w base r run:=by
 have hf:=tg base (Nat.le_refl _) (by rw[hn];simp)
 refine⟨v,w',GI φ base (some (b,C)),hr,hv,?_,sA _ hf.1,fun id hid=>?_,fun c hm=>hb.block c (hW.mlt c hm)⟩
 ·rw[hn,T3];exact hW.new ob hf.1 hf.2 hb hbs hbl hO
 ·by_cases hi:id=base
  ·exact .inr (by rw[hi,hn];simp)
  ·rw[qO _ hi]at hid;exact .inl hid
theorem Yd.IM{run:Result Next}{v:Value}{w':World}{ob:Ob}(hr:run=.ok (.value v) w')(hn:r.news=[ob])(hW:Wd Γ φ M hD w)(tg:∀id,base≤id→id<base+r.news.length→φ id=none∧hD id=none)
  (hb:Below w.heap.size w w') (h1:ob.rows=[]) (h2:ob.box=false) (h3:0<ob.sz) (hv:AR w' M (GI φ base none) r.v v):Yd P Γ φ M hD w base r run:=by
 have hf:=tg base (Nat.le_refl _) (by rw[hn];simp)
 refine⟨v,w',GI φ base none,hr,hv,?_,sA _ hf.1,fun id hid=>?_,fun c hm=>hb.block c (hW.mlt c hm)⟩
 ·rw[hn,T3];exact(hW.grow hb).IM ob hf.1 hf.2 h1 h2 h3
 ·by_cases hi:id=base
  ·exact .inr (by rw[hi,hn];simp)
  ·rw[qO _ hi]at hid;exact .inl hid
theorem qn(w:World)(o:Obj):Below w.heap.size w (w.alloc o):=(Below.refl _ _).alloc (Nat.le_refl _) o
theorem nM{t:TypeId}{n:Nat}(h:Ar P t=some n):∃i,P.info? t=some i∧i.size=n:=by
 unfold Ar at h;cases hi:P.info? t with
 |none=>rw[hi]at h;cases h
 |some i=>rw[hi]at h;cases h;exact⟨i,rfl,rfl⟩
theorem G_{t:TypeId}{b:Bool}(h:yL P t=some b):∃d,P.underlying t=some d∧d.isRow=b:=by
 unfold yL at h;cases hi:P.underlying t with
 |none=>rw[hi]at h;cases h
 |some d=>rw[hi]at h;cases h;exact⟨d,rfl,rfl⟩
theorem sD{t:TypeId}{z:List Lf}(h:GM P t=some z):∃i zv,P.info? t=some i∧i.zero=some zv∧zv.cells.size=i.size∧0<i.size∧Rs (LR w M φ) z zv.cells.toList∧z.length=i.size:=by
 unfold GM at h;split at h
 ·rename_i i hi;split at h
  ·rename_i zv hz;cases hc:(zv.cells.size == i.size&&!(i.size == 0))with
   |false=>rw[hc]at h;cases h
   |true =>
    rw[hc]at h;simp only[Bool.and_eq_true,beq_iff_eq,Bool.not_eq_true',beq_eq_false_iff_ne]at hc;have Jz:=F1 (w:=w) (M:=M) (φ:=φ) h;exact⟨i,zv,hi,hz,hc.1,by omega,Jz,by rw[Jz.len,←hc.1];simp⟩
  ·cases h
 ·cases h
theorem ir{t e:TypeId}(h:p9 P t=some e):P.underlying t=some (.slice e):=by
 unfold p9 at h;split at h
 ·rename_i e' he;cases h;exact he
 ·cases h
theorem CV{t:TypeId}{d:TypeDesc}(hu:P.underlying t=some d)(w:World):(isAgg t).run P w=.ok d.isRow w:=by
 unfold isAgg;rw[Sem.run_bind,run_underlying hu w];cases d <;> rfl
theorem run_sizeOf{t:TypeId}{i:TypeInfo}(hi:P.info? t=some i)(w:World):(sizeOf t).run P w=.ok i.size w:=by simp [sizeOf,typeInfo,hi]
theorem XE{R:Lf→Value→Prop}{b:Nat}:∀(ls:List Lf) (k:Nat),(∀(i:Nat) (l:Lf),ls[i]?=some l→∃v,w.cell? ⟨b,k+i,none⟩=some v∧R l v)→∃vs,Rs R ls vs∧w.rangeAt b k vs
 | [],_,_=>⟨[],trivial,fun j v h=>by simp at h⟩
 |l ::ls,k,h=>by
  obtain⟨v,hv,hr⟩:=h 0 l rfl;obtain⟨vs,h1,h2⟩:=XE ls (k+1) fun i l' hl=>by
   obtain⟨v,hv,hr⟩:=h (i+1) l' (by simpa using hl)
   exact⟨v,by rw[show k+1+i=k+(i+1) by omega];exact hv,hr⟩
  refine⟨v ::vs,⟨hr,h1⟩,fun j u hj=>?_⟩
  cases j with
  |zero=>simp at hj;subst hj;exact hv
  |succ j=>rw[show k+(j+1)=k+1+j by omega];exact h2 j u (by simpa using hj)
theorem DY{t:TypeId}{n:Nat}{Qd:Bool}{b k off:Nat}{cells:List Lf}{c:Cm}(ht:Ar P t=some n)(hr:yL P t=some Qd)(hp:tH Qd n off cells=some c)
  (hc:∀(i:Nat) (l:Lf),cells[i]?=some l→∃v,w.cell? ⟨b,k+i,none⟩=some v∧LR w M φ l v):∃v,(loadVar t ⟨b,k+off,none⟩).run P w=.ok v w∧CR w M φ c v:=by
 obtain⟨i,hi,j9⟩:=nM ht;obtain⟨d,hu,hd⟩:=G_ hr;unfold tH at hp;cases Qd with
 |true =>
  simp only[cond_true]at hp;cases hl:(((cells.drop off).take n).length == n)with
  |false=>rw[hl]at hp;cases hp
  |true =>
   rw[hl]at hp;cases hp;have EB:((cells.drop off).take n).length=n:=by simpa using hl
   obtain⟨vs,h1,h2⟩:=XE (w:=w) (R:=LR w M φ) (b:=b) ((cells.drop off).take n) (k+off) fun j l hj=>by
    have hj2:cells[off+j]?=some l:=by
     rw[List.getElem?_take]at hj;split at hj
     ·rw[List.getElem?_drop]at hj;exact hj
     ·cases hj
    obtain⟨v,hv,hr⟩:=hc _ _ hj2;exact⟨v,by rw[show k+off+j=k+(off+j) by omega];exact hv,hr⟩
   exact⟨_,run_loadVar_mid w b (k+off) t vs d h2 hu hd (by rw[hi,Option.map_some,j9,←h1.len,EB]),vs,rfl,h1⟩
 |false =>
  simp only[cond_false]at hp;cases hl:cells[off]? with
  |none=>rw[hl]at hp;cases hp
  |some l =>
   rw[hl]at hp;cases hp;obtain⟨v,hv,hr⟩:=hc _ _ hl;refine⟨v,?_,hr⟩;unfold loadVar;rw[Sem.run_bind,CV hu w,hd];simp [hv]
theorem OR.cell{id:Nat}{ob:Ob}{b C i:Nat}{c:List Lf}(hO:OR w M φ id ob)(hoc:ob.box=false∨∃c,ob.rows=[c])(hφ:φ id=some (some (b,C)))(hc:ob.rows[i]?=some c):
  ∀(j:Nat) (l:Lf),c[j]?=some l→∃v,w.cell? ⟨b,i*ob.sz+j,none⟩=some v∧(if ob.box then LR w M φ l v else IR w M l v):=by
 obtain⟨_,h1⟩:=hO.oc hoc;rw[hφ]at h1;obtain⟨cur,g1,g2,g3,g4,g5,g6⟩:=h1;intro j l hl;obtain⟨v,hv,hr⟩:=(g6 i c hc).2 j l hl;exact⟨v,by simp only[World.cell?,g1];simpa using hv,hr⟩
theorem OR.RI{id:Nat}{ob:Ob}{b C i:Nat}{c:List Lf}(hO:OR w M φ id ob)(hoc:ob.box=false∨∃c,ob.rows=[c])(hφ:φ id=some (some (b,C)))(hc:ob.rows[i]?=some c):
  ∀(j:Nat) (l:Lf),c[j]?=some l→∃v,w.cell? ⟨b,i*ob.sz+j,none⟩=some v∧LR w M φ l v:=fun j l hl=>by
 obtain⟨v,hv,hr⟩:=hO.cell hoc hφ hc j l hl;refine⟨v,hv,?_⟩;split at hr
 ·exact hr
 ·exact IR.lr hr
theorem YE{t:TypeId}{x:Operand}(ho:o.op=.load t x)(hf:yx P h base g L o.op hs=some r)(cR:c6 r.fl)(hg:g)(hF:∀t,AR w M φ (L t) (a.tmps.getD t undef))(hW:Wd Γ φ M hD w)
  (eD:∀id ob,h id=some ob→hD id=some ob):Yd P Γ φ M hD w base r ((execOp a.eval o).run P w):=by
 rw[ho]at hf;simp only[yx]at hf;have c8:∀v b k,a.eval x=.pointer (some ⟨b,k,none⟩)→(loadVar t ⟨b,k,none⟩).run P w=.ok v w→(execOp a.eval o).run P w=.ok (.value v) w:=fun v b k hx hl=>by
  simp [execOp,ho,Instr.loadAt,Instr.sureAddr,hx,hl]
 split at hf
 ·rename_i cells off o1 n Qd h1 h2 h3;cases hp:tH Qd n off cells with
  |none=>rw[hp]at hf;cases hf
  |some c =>
   rw[hp]at hf;cases hf;have hx:=b7 hF h1 cR hg;have By:IR w M (.ip cells off) (a.eval x):=hx;generalize hv:a.eval x=xv at By;cases By with
   |ip _ _ b k vs hm hc hr =>
    obtain⟨v,hl,XO⟩:=DY (M:=M) (φ:=φ) (b:=b) (k:=k) h2 h3 hp fun i l hl=>⟨_,hc i l hl,IR.lr (hr i l hl)⟩
    exact Yd.val (c8 v b _ hv hl) rfl XO hW
 ·rename_i id sz row off o1 n Qd h1 h2 h3;split at hf
  ·rename_i ob QhF;cases j9:(ob.sz == sz)with
   |false=>rw[j9]at hf;cases hf
   |true =>
    rw[j9]at hf;simp only[cond_true]at hf;have QmP:ob.sz=sz:=by simpa using j9
    have hO:=hW.fl id ob (eD id ob QhF);split at hf
    ·rename_i pc iL;cases xo:(row == 0)with
     |false=>rw[xo]at hf;cases hf
     |true =>
      rw[xo]at hf;have QmF:row=0:=by simpa using xo
      rename_i cells;cases hp:tH Qd n off cells with
      |none=>rw[hp]at hf;cases hf
      |some c =>
       rw[hp]at hf;cases hf;obtain⟨b,C,hφ,hv⟩:=(b7 hF h1 cR hg:uK w M φ (.op id sz row off) (a.eval x));obtain⟨v,hl,XO⟩:=DY (M:=M) (φ:=φ) (b:=b) (k:=row*sz) h2 h3 hp fun i l hl=>by
        have:=hO.RI (i:=0) (.inr ⟨_,iL⟩) hφ (by rw[iL];rfl) i l hl
        rw[QmF,Nat.zero_mul];rwa [Nat.zero_mul]at this
       exact Yd.val (c8 v b _ hv hl) rfl XO hW
    ·rename_i c0 fc pc;cases hp:tH Qd n off c0 with
     |none=>rw[hp]at hf;cases hf
     |some c =>
      rw[hp]at hf;cases hf;rw[bm]at cR;obtain⟨b,C,hφ,hv⟩:=(b7 hF h1 cR.1 hg:uK w M φ (.op id sz row off) (a.eval x));obtain⟨v,hl,XO⟩:=DY (M:=M) (φ:=φ) (b:=b) (k:=row*sz) h2 h3 hp fun i l hl=>by
       have:=hO.RI (i:=row) (.inl pc) hφ cR.2.1 i l hl;rwa [QmP]at this
      exact Yd.val (c8 v b _ hv hl) rfl XO hW
    ·cases hf
  ·cases hf
 ·cases hf
end
end
section
open Go.RowKit
section
variable {P : Program} {Γ : bu} {φ : Pl} {M : Nat → Prop} {hD h : Nat → Option Ob} {w : World} {base : Nat} {L : Nat → AV} {a : Act} {g : Prop} {hs : List Hint} {r : Lv} {o : Oper}
variable (cR : c6 r.fl) (hg : g) (hF : ∀ t, AR w M φ (L t) (a.tmps.getD t undef)) (hW : Wd Γ φ M hD w)
include cR hg hF hW
theorem Qm{x:Operand}(ho:o.op=.move x∨o.op=.assign x)(hf:yx P h base g L (.move x) hs=some r):Yd P Γ φ M hD w base r ((execOp a.eval o).run P w):=by
 have c8:(execOp a.eval o).run P w=.ok (.value (a.eval x)) w:=by rcases ho with ho|ho <;> simp [execOp,ho]
 have hx:=E6 hF x;simp only[yx]at hf;split at hf
 ·rename_i c h1;cases hf;rw[h1]at hx;exact Yd.val c8 rfl hx hW
 ·rename_i c h1;cases hf;rw[h1]at hx;exact Yd.val c8 rfl hx hW
 ·rename_i p c h1;cases hf;rw[h1]at hx;exact Yd.val c8 rfl (hx.1 (cR.1 hg)) hW
 ·cases hf
 ·rename_i h1;cases hf;rw[h1]at hx;exact Yd.val c8 rfl hx hW
 ·cases hf
theorem YF{c x y:Operand}(ho:o.op=.pick c x y)(hf:yx P h base g L o.op hs=some r):Yd P Γ φ M hD w base r ((execOp a.eval o).run P w):=by
 rw[ho]at hf;simp only[yx]at hf;have c8:∀b,a.eval c=.bool b→(execOp a.eval o).run P w=.ok (.value (if b then a.eval x else a.eval y)) w:=fun b hb=>by
  simp [execOp,ho,hb,asBool]
 split at hf
 ·rename_i bc o1 fc h1;split at hf
  ·rename_i bx oa by_ ob_ h2 h3;cases hf;simp only[bm]at cR;have hc:IR w M (.bool bc) (a.eval c):=b7 hF h1 cR.1.1 hg;generalize hv:a.eval c=cv at hc;cases hc;refine Yd.val (c8 _ hv) rfl ?_ hW;cases bc with
   |true=>exact(b7 hF h2 cR.1.2 ⟨hg,rfl⟩:CR w M φ (.one (.bool bx)) (a.eval x))
   |false=>exact(b7 hF h3 cR.2 ⟨hg,rfl⟩:CR w M φ (.one (.bool by_)) (a.eval y))
  ·cases hf
 ·rename_i bc o1 t fc h1;cases h2:nX g (wP L (cond t x y))with
  |none=>rw[h2]at hf;cases hf
  |some p =>
   obtain⟨cx,o2⟩:=p;rw[h2]at hf;cases hf;simp only[bm,c6]at cR;have hc:IR w M (.bool bc) (a.eval c):=b7 hF h1 cR.1.1 hg;generalize hv:a.eval c=cv at hc;cases hc;refine Yd.val (c8 _ hv) rfl ?_ hW;have h3:CR w M φ cx (a.eval (cond t x y)):=b7 hF h2 cR.2 hg;obtain rfl:=cR.1.2.1;cases bc <;> exact h3
 ·cases hf
theorem Xb{w':World}{e:TypeId}{ls:List Lf}{vs:Array Value}{id b:Nat}{φ':Pl}(hφ:φ' id=some (some (b,1)))(hb:w'.heap[b]?=some (.cells vs e))(hr:Rs (LR w' M φ') ls vs.toList)(h0:0<ls.length):OR w' M φ' id (HQ e ls):=by
 refine .inl ⟨h0,?_⟩;rw[hφ];refine⟨vs,hb,by rw[←Array.length_toList,←hr.len];simp [HQ],by simp [HQ],by decide,fun _=>rfl,fun i c hc=>?_⟩
 cases i with
 |zero =>
  simp [HQ]at hc;subst hc;refine⟨rfl,fun j l hl=>?_⟩
  obtain⟨v,hv,hlr⟩:=hr.get hl;exact⟨v,by rw[Nat.zero_mul,Nat.zero_add];simpa using hv,hlr⟩
 |succ i=>simp [HQ]at hc
theorem Gw{e:TypeId}{ls:List Lf}{v:Value}(hn:r.news=[HQ e ls])(hv:r.v=one (.op base ls.length 0 0))(h0:0<ls.length)(hr:Rs (LR w M φ) ls v.cells.toList)
  (c8:(execOp a.eval o).run P w=.ok (.value (.pointer (some ⟨w.heap.size,0,none⟩))) (w.alloc (.cells v.cells e))) (tg:∀id,base≤id→id<base+r.news.length→φ id=none∧hD id=none):
  Yd P Γ φ M hD w base r ((execOp a.eval o).run P w):=by
 have hf:=tg base (Nat.le_refl _) (by rw[hn];simp)
 have hb:=qn w (.cells v.cells e);have he:Ex w M φ (w.alloc (.cells v.cells e)) M (GI φ base (some (w.heap.size,1))):=⟨fun b hm=>hb.block b (hW.mlt b hm),fun _ h=>h,sA _ hf.1⟩
 refine Yd.new (b:=w.heap.size) (C:=1) c8 hn hW tg hb (Nat.le_refl _) (by simp) ?_ ?_
 ·exact Xb cR hg hF hW (dP _ _ _) (heap_alloc_new w _) (hr.mono fun _ _ h=>LR.mono he h) h0
 ·rw[hv];exact⟨w.heap.size,1,dP _ _ _,by simp⟩
theorem Wn{e:TypeId}(ho:o.op=.alloc e)(hf:yx P h base g L o.op hs=some r)(tg:∀id,base≤id→id<base+r.news.length→φ id=none∧hD id=none):Yd P Γ φ M hD w base r ((execOp a.eval o).run P w):=by
 rw[ho]at hf;simp only[yx]at hf;cases hz:GM P e with
 |none=>rw[hz]at hf;cases hf
 |some z =>
  rw[hz]at hf;cases hf;obtain⟨i,zv,hi,VA,PA,h0,Jz,hl⟩:=sD (w:=w) (M:=M) (φ:=φ) hz;refine Gw cR hg hF hW (v:=zv) rfl rfl (by omega) Jz ?_ tg
  simp [execOp,ho,Instr.alloc,zeroValue,typeInfo,hi,VA,newVar,newRow]
theorem Qa9{e:TypeId}{x:Operand}(ho:o.op=.box e x)(hf:yx P h base g L o.op hs=some r)(tg:∀id,base≤id→id<base+r.news.length→φ id=none∧hD id=none):Yd P Γ φ M hD w base r ((execOp a.eval o).run P w):=by
 rw[ho]at hf;simp only[yx]at hf;split at hf
 ·rename_i c o1 h1;cases hc:c.cells.isEmpty with
  |true=>rw[hc]at hf;cases hf
  |false =>
   rw[hc]at hf;cases hf;have hx:=(b7 hF h1 cR hg).cells;refine Gw cR hg hF hW (v:=a.eval x) rfl rfl (by rw[List.length_pos_iff];simpa using hc) hx ?_ tg
   simp [execOp,ho,Instr.box,newVar,newRow]
 ·cases hf
theorem Qn{x:Operand}(ho:o.op=.nilCheck x)(hf:yx P h base g L o.op hs=some r):Yd P Γ φ M hD w base r ((execOp a.eval o).run P w):=by
 rw[ho]at hf;simp only[yx]at hf;split at hf
 ·rename_i c off o1 h1;cases hf;have hx:IR w M (.ip c off) (a.eval x):=b7 hF h1 cR hg;generalize hv:a.eval x=xv at hx;have By:=hx;cases hx with
  |ip _ _ b k vs hm hc hr=>exact Yd.val (by simp [execOp,ho,hv]) rfl By hW
 ·rename_i id sz row off o1 h1;cases hf;have hx:uK w M φ (.op id sz row off) (a.eval x):=b7 hF h1 cR hg;obtain⟨b,C,hφ,hv⟩:=hx;exact Yd.val (by simp [execOp,ho,hv]) rfl ⟨b,C,hφ,rfl⟩ hW
 ·cases hf
theorem YG{u:UnOp}{t:TypeId}{x:Operand}(ho:o.op=.unOp u t x)(hf:yx P h base g L o.op hs=some r):Yd P Γ φ M hD w base r ((execOp a.eval o).run P w):=by
 rw[ho]at hf;simp only[yx]at hf;split at hf
 ·rename_i k n o1 h1;cases hf;have hx:IR w M (.int k n) (a.eval x):=b7 hF h1 cR hg;generalize hv:a.eval x=xv at hx;cases hx;exact Yd.val (v:=.int k (dd k 0 n)) (by simp [execOp,ho,hv,Op.unary,Op.intArith,dd]) rfl (IR.int _ _) hW
 ·rename_i b o1 h1;cases hf;have hx:IR w M (.bool b) (a.eval x):=b7 hF h1 cR hg;generalize hv:a.eval x=xv at hx;cases hx;exact Yd.val (v:=.bool (!b)) (by simp [execOp,ho,hv,Op.unary]) rfl (IR.bool _) hW
 ·cases hf
theorem Dg{t:TypeId}{f fo n:Nat}{b:Bool}(h:Oj P t f=some (fo,n,b)):∃fs fd,P.underlying t=some (.struct fs)∧fs[f]?=some fd∧fd.offset=fo∧Ar P fd.type=some n∧yL P fd.type=some b∧n≠0:=by
 unfold Oj at h;split at h
 ·rename_i fs hu;split at h
  ·rename_i fd L8;split at h
   ·rename_i n' b' h1 h2;cases hn:(n' == 0)with
    |true=>rw[hn]at h;cases h
    |false=>rw[hn]at h;cases h;exact⟨fs,fd,hu,L8,rfl,h1,h2,by simpa using hn⟩
   ·cases h
  ·cases h
 ·cases h
theorem N0{t:TypeId}{x:Operand}{f:Nat}(ho:o.op=.fieldAddr t x f)(hf:yx P h base g L o.op hs=some r):Yd P Γ φ M hD w base r ((execOp a.eval o).run P w):=by
 rw[ho]at hf;simp only[yx]at hf;split at hf
 ·rename_i fo n Qd cells off o1 h1 h2;cases hf;obtain⟨fs,fd,hu,L8,rfl,hn,hr,zO⟩:=Dg cR hg hF hW h1;obtain⟨i,hi,j9⟩:=nM hn;have hx:IR w M (.ip cells off) (a.eval x):=b7 hF h2 cR hg;generalize hv:a.eval x=xv at hx;cases hx with
  |ip _ _ b k vs hm hc Zl =>
   refine Yd.val (v:=.pointer (some ⟨b,k+(off+fd.offset),none⟩)) ?_ rfl (IR.ip cells _ b k vs hm hc Zl) hW;simp [execOp,ho,hv,Instr.fieldAt,run_underlying hu,L8,Instr.sureAddr,fieldPlace,run_sizeOf hi,j9,zO,Addr.add_mid,Nat.add_assoc]
 ·rename_i fo n Qd id sz row off o1 h1 h2;cases hf;obtain⟨fs,fd,hu,L8,rfl,hn,hr,zO⟩:=Dg cR hg hF hW h1;obtain⟨i,hi,j9⟩:=nM hn;have hx:uK w M φ (.op id sz row off) (a.eval x):=b7 hF h2 cR hg;obtain⟨b,C,hφ,hv⟩:=hx;refine Yd.val (v:=.pointer (some ⟨b,row*sz+(off+fd.offset),none⟩)) ?_ rfl ⟨b,C,hφ,rfl⟩ hW;simp [execOp,ho,hv,Instr.fieldAt,run_underlying hu,L8,Instr.sureAddr,fieldPlace,run_sizeOf hi,j9,zO,Addr.add_mid,Nat.add_assoc]
 ·cases hf
theorem ZF{t:TypeId}{n off:Nat}{Qd:Bool}{ls:List Lf}{vs:List Value}{c:Cm}(ht:Ar P t=some n)(hr:yL P t=some Qd)(hp:tH Qd n off ls=some c)(Jz:Rs (LR w M φ) ls vs):
  ∃v,(part t vs.toArray off).run P w=.ok v w∧CR w M φ c v:=by
 obtain⟨i,hi,j9⟩:=nM ht;obtain⟨d,hu,hd⟩:=G_ hr;unfold tH at hp;cases Qd with
 |true =>
  simp only[cond_true]at hp;cases hl:(((ls.drop off).take n).length == n)with
  |false=>rw[hl]at hp;cases hp
  |true =>
   rw[hl]at hp;cases hp;refine⟨.agg (vs.toArray.extract off (off+n)),?_,((vs.drop off).take n),?_,((Jz.drop off).take n)⟩
   ·unfold part;rw[Sem.run_bind,CV hu w,hd];simp [run_sizeOf hi,j9]
   ·congr 1;apply Array.ext';simp [List.extract_eq_take_drop]
 |false =>
  simp only[cond_false]at hp;cases hl:ls[off]? with
  |none=>rw[hl]at hp;cases hp
  |some l =>
   rw[hl]at hp;cases hp;obtain⟨v,hv,hlr⟩:=Jz.get hl;refine⟨v,?_,hlr⟩;unfold part;rw[Sem.run_bind,CV hu w,hd];simp [hv]
theorem Ws{t:TypeId}{x:Operand}{f:Nat}(ho:o.op=.field t x f)(hf:yx P h base g L o.op hs=some r):Yd P Γ φ M hD w base r ((execOp a.eval o).run P w):=by
 rw[ho]at hf;simp only[yx]at hf;split at hf
 ·rename_i fo n Qd cells o1 h1 h2;cases hp:tH Qd n fo cells with
  |none=>rw[hp]at hf;cases hf
  |some c =>
   rw[hp]at hf;cases hf;obtain⟨fs,fd,hu,L8,rfl,hn,hr,zO⟩:=Dg cR hg hF hW h1;obtain⟨vs,hv,Jz⟩:CR w M φ (.agg cells) (a.eval x):=b7 hF h2 cR hg;obtain⟨v,c8,hc⟩:=ZF cR hg hF hW hn hr hp Jz;refine Yd.val (v:=v) ?_ rfl hc hW;simp [execOp,ho,hv,Instr.field,run_underlying hu,L8,asAgg,c8]
 ·cases hf
theorem Rr{x:Operand}{i:Nat}(ho:o.op=.extract x i)(hf:yx P h base g L o.op hs=some r):Yd P Γ φ M hD w base r ((execOp a.eval o).run P w):=by
 rw[ho]at hf;simp only[yx]at hf;have hx:=E6 hF x;split at hf
 ·rename_i cs h1;rw[h1]at hx;obtain⟨vs,hv,Jz⟩:=hx;cases hc:cs[i]? with
  |none=>rw[hc]at hf;cases hf
  |some c =>
   rw[hc]at hf;cases hf;obtain⟨v,NL,hr⟩:=Jz.get hc;refine Yd.val (v:=v) ?_ rfl hr hW;simp [execOp,ho,hv,Instr.extract,NL]
 ·cases hf
theorem Qak{α:Type}{l:List α}{i:Int}{x:α}(h:bj l i=some x):0≤i∧l[i.toNat]?=some x:=by
 unfold bj at h;split at h
 ·exact⟨‹_›,h⟩
 ·cases h
theorem N1{t:TypeId}{x ix:Operand}(ho:o.op=.indexAddr t x ix)(hf:yx P h base g L o.op hs=some r):Yd P Γ φ M hD w base r ((execOp a.eval o).run P w):=by
 rw[ho]at hf;simp only[yx]at hf;split at hf
 ·rename_i e cl sz rows o1 k n o2 hu h1 h2;split at hf
  ·rename_i c fc;cases j9:(Ar P e == some sz)with
   |false=>rw[j9]at hf;cases hf
   |true =>
    rw[j9]at hf;cases hf;simp only[bm,c6]at cR;have hx:IR w M (.sl cl sz rows) (a.eval x):=b7 hF h1 cR.1.1 hg;have hi:IR w M (.int k n) (a.eval ix):=b7 hF h2 cR.1.2 hg;generalize hv:a.eval x=xv at hx;generalize NL:a.eval ix=iv at hi;cases hi;obtain⟨zO,pM⟩:=Qak (r:=⟨.Lz,[],[],[]⟩) trivial hg hF hW cR.2.1;obtain⟨i,hii,hsi⟩:=nM (by simpa using j9:Ar P e=some sz)
    have jU:=(List.getElem?_eq_some_iff.1 pM).1;cases hx with
    |OJ=>simp at pM
    |sl _ _ _ b k0 cap vs hm hl Ee Jy hc hr =>
     refine Yd.val (v:=.pointer (some ⟨b,k0+n.toNat*sz+0,none⟩)) ?_ rfl (IR.ip c 0 b (k0+n.toNat*sz) (vs n.toNat) hm (fun j l hj=>hc _ _ j l pM hj) (fun j l hj=>hr _ _ j l pM hj)) hW
     have RY:n<rows.length:=by omega
     simp [execOp,ho,hv,NL,Instr.indexAt,asIntOf,run_underlying hu,zO,RY,run_sizeOf hii,hsi,Addr.add_mid]
  ·cases hf
 ·rename_i e id sz off len o1 k n o2 hu h1 h2;cases j9:(Ar P e == some sz)with
  |false=>rw[j9]at hf;cases hf
  |true =>
   rw[j9]at hf;simp only[cond_true]at hf;have key:c6 (o1++o2)→0≤n→n<len→Yd P Γ φ M hD w base ⟨one (.op id sz (off+n.toNat) 0),[],[],[]⟩ ((execOp a.eval o).run P w):=fun cR zO RY=>by
    rw[bm]at cR;have hx:uK w M φ (.os id sz off len) (a.eval x):=b7 hF h1 cR.1 hg;have hi:IR w M (.int k n) (a.eval ix):=b7 hF h2 cR.2 hg;generalize NL:a.eval ix=iv at hi;cases hi;obtain⟨i,hii,hsi⟩:=nM (by simpa using j9:Ar P e=some sz)
    rcases hx with⟨b,C,hφ,hv,hle⟩|⟨_,_,h0,_⟩
    ·refine Yd.val (v:=.pointer (some ⟨b,(off+n.toNat)*sz+0,none⟩)) ?_ rfl ⟨b,C,hφ,rfl⟩ hW;simp [execOp,ho,hv,NL,Instr.indexAt,asIntOf,run_underlying hu,zO,RY,run_sizeOf hii,hsi,Addr.add_mid,Nat.add_mul]
    ·omega
   split at hf
   ·rename_i j fc;cases hf;rw[bm]at cR;obtain⟨zO,RY,_⟩:=cR.2;subst zO;exact key cR.1 (by omega) (by omega)
   ·cases hf;rw[bm]at cR;obtain⟨zO,RY,_⟩:=cR.2;exact key cR.1 zO RY
 ·rename_i e id len sz o1 k n o2 hu h1 h2;split at hf
  ·rename_i j fc;cases hc:(Ar P e == some sz&&Nat.blt j len)with
   |false=>rw[hc]at hf;cases hf
   |true =>
    rw[hc]at hf;cases hf;simp only[Bool.and_eq_true,Nat.blt_eq]at hc;obtain⟨j9,hjl⟩:=hc;simp only[bm,c6]at cR;have hx:uK w M φ (.bs id len sz) (a.eval x):=b7 hF h1 cR.1.1 hg;have hi:IR w M (.int k n) (a.eval ix):=b7 hF h2 cR.1.2 hg;obtain⟨hnj,-⟩:=cR.2;subst hnj;generalize NL:a.eval ix=iv at hi;cases hi;obtain⟨i,hii,hsi⟩:=nM (by simpa using j9:Ar P e=some sz)
    obtain⟨b,hφ,hv⟩:=hx;refine Yd.val (v:=.pointer (some ⟨b,0*(len*sz)+j*sz,none⟩)) ?_ rfl ⟨b,1,hφ,rfl⟩ hW;have h0:(0:Int)≤j:=by omega
    have h1:(j:Int)<len:=by omega
    simp [execOp,ho,hv,NL,Instr.indexAt,asIntOf,run_underlying hu,h0,h1,hjl,run_sizeOf hii,hsi,Addr.add_mid]
  ·cases hf
 ·rename_i len e cells off o1 k n o2 hu h1 h2;split at hf
  ·rename_i sz j9;cases RX:(!(len == 0))with
   |false=>rw[RX]at hf;cases hf
   |true =>
    rw[RX]at hf;cases hf;simp only[bm,c6]at cR;have hx:IR w M (.ip cells off) (a.eval x):=b7 hF h1 cR.1.1 hg;have hi:IR w M (.int k n) (a.eval ix):=b7 hF h2 cR.1.2 hg;generalize hv:a.eval x=xv at hx;generalize NL:a.eval ix=iv at hi;cases hi;obtain⟨zO,RY,_⟩:=cR.2;obtain⟨i,hii,hsi⟩:=nM j9;cases hx with
    |ip _ _ b k0 vs hm hc Zl =>
     refine Yd.val (v:=.pointer (some ⟨b,k0+(off+n.toNat*sz),none⟩)) ?_ rfl (IR.ip cells _ b k0 vs hm hc Zl) hW;simp [execOp,ho,hv,NL,Instr.indexAt,asIntOf,run_underlying hu,zO,RY,run_sizeOf hii,hsi,Addr.add_mid,Instr.sureAddr,Nat.add_assoc]
  ·cases hf
 ·rename_i len e id sz row off o1 k n o2 hu h1 h2;split at hf
  ·rename_i esz j9;cases RX:(!(len == 0))with
   |false=>rw[RX]at hf;cases hf
   |true =>
    rw[RX]at hf;simp only[cond_true]at hf;have key:c6 (o1++o2)→0≤n→n<len→Yd P Γ φ M hD w base ⟨one (.op id sz row (off+n.toNat*esz)),[],[],[]⟩ ((execOp a.eval o).run P w):=fun cR zO RY=>by
     rw[bm]at cR;have hx:uK w M φ (.op id sz row off) (a.eval x):=b7 hF h1 cR.1 hg;have hi:IR w M (.int k n) (a.eval ix):=b7 hF h2 cR.2 hg;generalize NL:a.eval ix=iv at hi;cases hi;obtain⟨i,hii,hsi⟩:=nM j9;obtain⟨b,C,hφ,hv⟩:=hx;refine Yd.val (v:=.pointer (some ⟨b,row*sz+(off+n.toNat*esz),none⟩)) ?_ rfl ⟨b,C,hφ,rfl⟩ hW;simp [execOp,ho,hv,NL,Instr.indexAt,asIntOf,run_underlying hu,zO,RY,run_sizeOf hii,hsi,Addr.add_mid,Instr.sureAddr,Nat.add_assoc]
    split at hf
    ·rename_i j fc;cases hf;rw[bm]at cR;obtain⟨zO,RY,_⟩:=cR.2;subst zO;exact key cR.1 (by omega) (by omega)
    ·cases hf;rw[bm]at cR;obtain⟨zO,RY,_⟩:=cR.2;exact key cR.1 zO RY
  ·cases hf
 ·cases hf
theorem Wt{t:TypeId}{x ix:Operand}(ho:o.op=.index t x ix)(hf:yx P h base g L o.op hs=some r):Yd P Γ φ M hD w base r ((execOp a.eval o).run P w):=by
 rw[ho]at hf;simp only[yx]at hf;split at hf
 ·rename_i s o1 k n o2 hu h1 h2;split at hf
  ·rename_i b fc;cases hf;simp only[bm,c6]at cR;have hx:IR w M (.str s) (a.eval x):=b7 hF h1 cR.1.1 hg;have hi:IR w M (.int k n) (a.eval ix):=b7 hF h2 cR.1.2 hg;generalize hv:a.eval x=xv at hx;generalize NL:a.eval ix=iv at hi;cases hi;cases hx;have hb:=cR.2.1;unfold Po at hb;split at hb
   ·rename_i h0;refine Yd.val (v:=.int .u8 (AX b)) ?_ rfl (IR.int _ _) hW;simp [execOp,ho,hv,NL,Instr.index,asIntOf,run_underlying hu,h0,hb,AX]
   ·cases hb
  ·cases hf
 ·rename_i len e cells o1 k n o2 hu h1 h2;split at hf
  ·rename_i sz Qd j9 hrw;cases hp:tH Qd sz (n.toNat*sz) cells with
   |none=>rw[hp]at hf;cases hf
   |some c =>
    rw[hp]at hf;cases hf;simp only[bm,c6]at cR;obtain⟨vs,hv,Jz⟩:CR w M φ (.agg cells) (a.eval x):=b7 hF h1 cR.1.1 hg;have hi:IR w M (.int k n) (a.eval ix):=b7 hF h2 cR.1.2 hg;generalize NL:a.eval ix=iv at hi;cases hi;obtain⟨zO,RY,_⟩:=cR.2;obtain⟨i,hii,hsi⟩:=nM j9;obtain⟨v,c8,hc⟩:=ZF (r:=⟨.Lz,[],[],[]⟩) trivial hg hF hW j9 hrw hp Jz;refine Yd.val (v:=v) ?_ rfl hc hW;simp [execOp,ho,hv,NL,Instr.index,asIntOf,run_underlying hu,zO,RY,run_sizeOf hii,hsi,c8]
  ·cases hf
 ·cases hf
omit cR hg hF hW in
theorem UY:∀{cs:List Cm} {ls:List Lf} {vs:List Value},YV cs=some ls→Rs (CR w M φ) cs vs→Rs (uK w M φ) ls vs
 | [],_,[],h,_=>by cases h;trivial
 | .one l ::cs,ls,v ::vs,h,hr=>by
  simp only[YV]at h;split at h
  ·rename_i X7 h1;cases hf:TC l with
   |true=>rw[hf]at h;cases h
   |false =>
    rw[hf]at h;cases h;exact⟨by have:=hr.1;rwa [CR,M8 hf]at this,UY h1 hr.2⟩
  ·cases h
 | .agg _ ::_,_,_,h,_=>by cases h
 | [],_,_ ::_,_,h=>h.elim
 |_ ::_,_,[],_,h=>h.elim
theorem Ql{f:Fn}{first gP:Array Operand}(ho:o.op=.makeFunc f first gP)(hf:yx P h base g L o.op hs=some r):Yd P Γ φ M hD w base r ((execOp a.eval o).run P w):=by
 rw[ho]at hf;simp only[yx]at hf;split at hf
 ·rename_i cs o1 h1;cases hfi:first.toList.isEmpty with
  |false=>rw[hfi]at hf;cases hf
  |true =>
   rw[hfi]at hf;simp only[cond_true]at hf;split at hf
   ·rename_i ls h2;cases hf;have Jz:=tz hF hg h1 cR;have hc:=UY h2 Jz;have Ql4:first=#[]:=by
     apply Array.ext';simpa using hfi
    subst Ql4;refine Yd.val (v:=.func f #[] (gP.toList.map a.eval).toArray) ?_ rfl ⟨_,rfl,hc⟩ hW;have he:gP.map a.eval=(gP.toList.map a.eval).toArray:=by apply Array.ext';simp
    simp [execOp,ho,Instr.makeFunc,he]
   ·cases hf
 ·cases hf
end
end
section
open Go.RowKit
section
variable {P : Program} {φ : Pl} {M : Nat → Prop} {w : World}
theorem Th{d:Nat}{t:TypeId}{u:TypeDesc}{x y:Lf}{vx vy:Value}{e:Bool}(hu:P.underlying t=some u)(h:Qb9 u x y=some e)(hx:LR w M φ x vx)(hy:LR w M φ y vy):
  (Op.equalIn (d+1) t vx vy).run P w=.ok e w:=by
 unfold Qb9 at h;split at h
 ·rename_i k0 k a k' b;by_cases hkk:k=k'
  ·subst hkk;simp only[decide_true,cond_true]at h;cases h;have By:IR w M (.int k a) vx:=hx;have WV:IR w M (.int k b) vy:=hy;cases By;cases WV;simp [Op.equalIn,run_underlying hu,cM]
  ·simp only[hkk,decide_false,cond_false]at h;cases h
 ·rename_i a b;cases h;have By:IR w M (.bool a) vx:=hx;have WV:IR w M (.bool b) vy:=hy;cases By;cases WV;simp [Op.equalIn,run_underlying hu,Im]
 ·rename_i a b;cases h;have By:IR w M (.str a) vx:=hx;have WV:IR w M (.str b) vy:=hy;cases By;cases WV;simp [Op.equalIn,run_underlying hu]
 ·cases h
theorem mP{t:TypeId}(hr:yL P t=some false){vs:Array Value}{k:Nat}{v:Value}(hv:vs[k]?=some v):(part t vs k).run P w=.ok v w:=by
 obtain⟨d,hu,hd⟩:=G_ hr;unfold part;rw[Sem.run_bind,CV hu w,hd];simp [hv]
theorem Vb{d:Nat}{vx vy:List Value}:∀(fs:List Field) (k:Nat) (us:List TypeDesc) (xs ys:List Lf) (e:Bool),Ve P k fs=some us→lV us xs ys=some e→Rs (LR w M φ) xs (vx.drop k)→Rs (LR w M φ) ys (vy.drop k)→
  (forIn fs ((none,()):Option Bool×Unit) fun f r=>(do
   if f.name≠"_" then do
    if(!(←Op.equalIn (d+1) f.type (←part f.type vx.toArray f.offset) (←part f.type vy.toArray f.offset)))=true then pure (ForInStep.done (some false,()))else pure (ForInStep.yield (none,()))
   else pure (ForInStep.yield (none,())):Sem (ForInStep (Option Bool×Unit)))).run P w=.ok (if e then none else some false,()) w
 | [],k,us,xs,ys,e,h1,h2,_,_=>by
  cases h1;cases xs <;> cases ys <;> simp [lV]at h2
  subst h2;simp
 |f ::fs,k,us,xs,ys,e,h1,h2,hx,hy=>by
  simp only[Ve]at h1;cases hc:(f.offset == k&&!(f.name == "_")&&(yL P f.type == some false))with
  |false=>rw[hc]at h1;cases h1
  |true =>
   rw[hc]at h1;simp only[cond_true]at h1;simp only[Bool.and_eq_true,beq_iff_eq,Bool.not_eq_true',beq_eq_false_iff_ne]at hc;obtain⟨⟨u1,HY⟩,pM⟩:=hc;split at h1
   ·rename_i u Lq hu E5;cases h1;cases xs with
    |nil=>simp [lV]at h2
    |cons x xs =>
     cases ys with
     |nil=>simp [lV]at h2
     |cons y ys =>
      simp only[lV]at h2;split at h2
      ·rename_i e1 e2 he1 L7;cases h2;obtain⟨v1,hv1,HZ⟩:=hx.get (i:=0) rfl;obtain⟨v2,NL,Vy⟩:=hy.get (i:=0) rfl;have hx1:Rs (LR w M φ) xs (vx.drop (k+1)):=by have:=hx.drop 1;simpa [List.drop_drop,Nat.add_comm]using this
       have hy1:Rs (LR w M φ) ys (vy.drop (k+1)):=by have:=hy.drop 1;simpa [List.drop_drop,Nat.add_comm]using this
       have ih:=Vb (d:=d) fs (k+1) Lq xs ys e2 E5 L7 hx1 hy1;have Vx:=mP (P:=P) (w:=w) pM (vs:=vx.toArray) (k:=f.offset) (v:=v1) (by rw[u1];simpa using hv1)
       have hp2:=mP (P:=P) (w:=w) pM (vs:=vy.toArray) (k:=f.offset) (v:=v2) (by rw[u1];simpa using NL)
       have heq:=Th (d:=d) hu he1 HZ Vy;rw[List.forIn_cons];cases e1 with
       |true=>simp [HY,Vx,hp2,heq]at ih ⊢;exact ih
       |false=>simp [HY,Vx,hp2,heq]
      ·cases h2
   ·cases h1
theorem Jx{t:TypeId}{n:Nat}(h:Ar P t=some n):(sizeOf t).run P w=.ok n w:=by
 unfold Ar at h;cases hi:P.info? t with
 |none=>rw[hi]at h;cases h
 |some i=>rw[hi]at h;cases h;simp [sizeOf,typeInfo,hi]
theorem Ng{d:Nat}{t e0:TypeId}{n:Nat}{u:TypeDesc}{xs ys:List Lf}{vx vy:List Value}{e:Bool}(hu:P.underlying t=some (.array n e0))(hue:P.underlying e0=some u)(pM:yL P e0=some false)(j9:Ar P e0=some 1)
  (he:lV (List.replicate n u) xs ys=some e) (hrx:Rs (LR w M φ) xs vx) (hry:Rs (LR w M φ) ys vy):(Op.equalIn (d+1+1) t (.agg vx.toArray) (.agg vy.toArray)).run P w=.ok e w:=by
 unfold Op.equalIn;simp only[Sem.run_bind,run_underlying hu,Result.andThen_ok,Jx j9];simp only[Std.Legacy.Range.forIn_eq_forIn_range',Std.Legacy.Range.size,Nat.sub_zero,Nat.add_one_sub_one,Nat.div_one];have key:∀(m k:Nat) (xs ys:List Lf) (e:Bool),lV (List.replicate m u) xs ys=some e→Rs (LR w M φ) xs (vx.drop k)→Rs (LR w M φ) ys (vy.drop k)→
   (forIn (List.range' k m) ((none,()):Option Bool×Unit) fun i r=>(do
    if(!(←Op.equalIn (d+1) e0 (←part e0 vx.toArray (i*1)) (←part e0 vy.toArray (i*1))))=true then pure (ForInStep.done (some false,()))else pure (ForInStep.yield (none,())):Sem (ForInStep (Option Bool×Unit)))).run P w=.ok (if e then none else some false,()) w:=by
  intro m;induction m with
  |zero =>
   intro k xs ys e h2 _ _;cases xs <;> cases ys <;> simp [lV]at h2
   subst h2;simp
  |succ m ih =>
   intro k xs ys e h2 hx hy;rw[List.replicate_succ]at h2;cases xs with
   |nil=>simp [lV]at h2
   |cons x xs =>
    cases ys with
    |nil=>simp [lV]at h2
    |cons y ys =>
     simp only[lV]at h2;split at h2
     ·rename_i e1 e2 he1 L7;cases h2;obtain⟨v1,hv1,HZ⟩:=hx.get (i:=0) rfl;obtain⟨v2,NL,Vy⟩:=hy.get (i:=0) rfl;have hx1:Rs (LR w M φ) xs (vx.drop (k+1)):=by have:=hx.drop 1;simpa [List.drop_drop,Nat.add_comm]using this
      have hy1:Rs (LR w M φ) ys (vy.drop (k+1)):=by have:=hy.drop 1;simpa [List.drop_drop,Nat.add_comm]using this
      have ih:=ih (k+1) xs ys e2 L7 hx1 hy1;have Vx:=mP (P:=P) (w:=w) pM (vs:=vx.toArray) (k:=k) (v:=v1) (by simpa using hv1)
      have hp2:=mP (P:=P) (w:=w) pM (vs:=vy.toArray) (k:=k) (v:=v2) (by simpa using NL)
      have heq:=Th (d:=d) hue he1 HZ Vy;rw[List.range'_succ,List.forIn_cons];cases e1 with
      |true=>simp [Vx,hp2,heq]at ih ⊢;exact ih
      |false=>simp [Vx,hp2,heq]
     ·cases h2
 have h3:=key n 0 xs ys e he hrx hry;refine Eq.trans (congrArg (fun z=>Result.andThen z _) h3) ?_
 cases e <;> simp
end
section
variable {P : Program} {Γ : bu} {φ : Pl} {M : Nat → Prop} {hD h : Nat → Option Ob} {w : World} {base : Nat} {L : Nat → AV} {a : Act} {g : Prop} {hs : List Hint} {r : Lv} {o : Oper}
theorem Fo{op:BinOp}{t:TypeId}{x y:Operand}{k k':IntKind}{p q:Int}:(eqGuard op t x y (.int k p) (.int k' q)).run P w=.ok () w:=by
 unfold eqGuard;split <;> simp
theorem Va{op:BinOp}{t:TypeId}{x y:Operand}{p q:ByteArray}:(eqGuard op t x y (.string p) (.string q)).run P w=.ok () w:=by
 unfold eqGuard;split <;> simp
theorem JU{op:BinOp}{t:TypeId}{x y:Operand}{p q:Bool}:(eqGuard op t x y (.bool p) (.bool q)).run P w=.ok () w:=by
 unfold eqGuard;split <;> simp
theorem AZ{op:BinOp}{t:TypeId}{x y:Operand}{p q:Array Value}(h:P.eqGuardType P.depth t=false):(eqGuard op t x y (.agg p) (.agg q)).run P w=.ok () w:=by
 unfold eqGuard;split <;> simp [h]
def lfV:Lf→Value
 | .int k n=>.int k n
 | .bool b=>.bool b
 | .str s=>.string s
 |_=>undef
theorem QbL{op:BinOp}{k:IntKind}{p q:Int}{t:TypeId}{l:Lf}{ob:List Prop}(h:QbK op k p q=some (l,ob))(ho:c6 ob):(binOp op t (.int k p) (.int k q)).run P w=.ok (lfV l) w∧LR w M φ l (lfV l):=by
 cases op <;> simp only[QbK]at h <;> first
  |(cases h;done)
  |(cases h;refine⟨?_,IR.int _ _⟩;simp [binOp,Op.intArith,lfV,aU,dd,oT];done)
  |(cases h;refine⟨?_,IR.int _ _⟩;have:=ho.1;simp [binOp,Op.intDiv,this,lfV,so,uJ];done)
  |(cases h;refine⟨?_,IR.int _ _⟩;simp [binOp,Op.intBits,lfV,JD,OE,QkG,y2];done)
  |(cases h;refine⟨?_,IR.bool _⟩;simp [binOp,Op.intCmp,lfV,cM,cr,bh,fT,dp,cD];done)
theorem QbN{op:BinOp}{p q:ByteArray}{t:TypeId}{l:Lf}{ob:List Prop}(h:QbM op p q = some (l,ob))(ho:c6 ob):(binOp op t (.string p) (.string q)).run P w = .ok (lfV l) w∧LR w M φ l (lfV l):= by
  cases op <;> simp only[QbM]at h <;> first
    |(cases h;done)
    | (cases h
       have h1:= ho.1;have: ¬(IntKind.i64.max <((p.size + q.size:Nat):Int)):= by
         have:IntKind.i64.max = 9223372036854775807:= by decide
         omega
       refine⟨?_,IR.str _⟩;simp only[binOp,Op.stringOp];rw[if_neg this];rfl)
    |(cases h;refine⟨?_,IR.bool _⟩;simp [binOp,Op.stringOp,lfV,E3,ltS];done)
theorem Wp(cR:c6 r.fl)(hg:g)(hF:∀t,AR w M φ (L t) (a.tmps.getD t undef))(hW:Wd Γ φ M hD w){op:BinOp}{t u:TypeId}{x y:Operand}(ho:o.op=.binOp op t x y u)(hf:XA P L g op t x y hs=some r):
  Yd P Γ φ M hD w base r ((execOp a.eval o).run P w):=by
 unfold XA at hf;have c8:∀v,(eqGuard op t x y (a.eval x) (a.eval y)).run P w=.ok () w→(binOp op t (a.eval x) (a.eval y)).run P w=.ok v w→(execOp a.eval o).run P w=.ok (.value v) w:=fun v h1 h2=>by
  simp [execOp,ho,h1,h2]
 split at hf
 ·rename_i cx o1 cy o2 h1 h2;cases hb:QgN P op t cx cy with
  |none=>rw[hb]at hf;cases hf
  |some p =>
   obtain⟨l,o3⟩:=p;rw[hb]at hf;cases hf;simp only[bm]at cR;have hx:=b7 hF h1 cR.1.1 hg;have hy:=b7 hF h2 cR.1.2 hg;unfold QgN at hb;split at hb
   ·rename_i k p k' q;have By:IR w M (.int k p) (a.eval x):=hx;have WV:IR w M (.int k' q) (a.eval y):=hy;generalize hvx:a.eval x=vx at By c8;generalize hvy:a.eval y=vy at WV c8;cases By;cases WV;split at hb
    ·cases hb;have h0:¬q<0:=by have:=cR.2.1;omega
     exact Yd.val (c8 (.int k (K2 k p q)) Fo (by simp [binOp,Op.shift,h0,K2])) rfl (IR.int _ _) hW
    ·cases hb;have h0:¬q<0:=by have:=cR.2.1;omega
     exact Yd.val (c8 (.int k (zd k p q)) Fo (by simp [binOp,Op.shift,h0,zd])) rfl (IR.int _ _) hW
    ·by_cases hk:k=k'
     ·subst hk;rw[if_pos rfl]at hb;obtain⟨hv,hr⟩:=QbL (P:=P) (w:=w) (M:=M) (φ:=φ) (t:=t) hb cR.2;exact Yd.val (c8 _ Fo hv) rfl hr hW
     ·rw[if_neg hk]at hb;cases hb
   ·rename_i p q;have By:IR w M (.str p) (a.eval x):=hx;have WV:IR w M (.str q) (a.eval y):=hy;generalize hvx:a.eval x=vx at By c8;generalize hvy:a.eval y=vy at WV c8;cases By;cases WV;obtain⟨hv,hr⟩:=QbN (P:=P) (w:=w) (M:=M) (φ:=φ) (t:=t) hb cR.2;exact Yd.val (c8 _ Va hv) rfl hr hW
   ·rename_i p q;have By:IR w M (.bool p) (a.eval x):=hx;have WV:IR w M (.bool q) (a.eval y):=hy;generalize hvx:a.eval x=vx at By c8;generalize hvy:a.eval y=vy at WV c8;cases By;cases WV;have heq:∀hu:P.underlying t=some .bool,(Op.equal t (.bool p) (.bool q)).run P w=.ok (Im p q) w:=fun hu=>by
     have key:∀d,(Op.equalIn (d+1) t (.bool p) (.bool q)).run P w=.ok (Im p q) w:=fun d=>by simp [Op.equalIn,run_underlying hu,Im]
     exact key 9999
    split at hb
    ·rename_i hu;cases hb;exact Yd.val (c8 (.bool (Im p q)) JU (by simp [binOp,heq hu])) rfl (IR.bool _) hW
    ·rename_i hu;cases hb;exact Yd.val (c8 (.bool (!Im p q)) JU (by simp [binOp,heq hu])) rfl (IR.bool _) hW
    ·cases hb
   ·rename_i xs ys;split at hb
    ·rename_i us E5;obtain⟨vx,hvx,hrx⟩:=hx;obtain⟨vy,hvy,hry⟩:=hy;rw[hvx,hvy]at c8;have Ni:∃fs,P.underlying t=some (.struct fs)∧P.stoodInHeld t=false∧P.eqGuardType P.depth t=false∧Ve P 0 fs.toList=some us:=by
      unfold QfP at E5;split at E5
      ·rename_i fs hu;cases hc:(!P.stoodInHeld t&&!P.eqGuardType P.depth t)with
       |false=>rw[hc]at E5;cases E5
       |true =>
        rw[hc]at E5;simp only[Bool.and_eq_true,Bool.not_eq_true']at hc;exact⟨fs,hu,hc.1,hc.2,E5⟩
      ·cases E5
     obtain⟨fs,hu,kK,heg,G1⟩:=Ni;have Qjv:∀d e,lV us xs ys=some e→(Op.equalIn (d+1+1) t (.agg vx.toArray) (.agg vy.toArray)).run P w=.ok e w:=fun d e he=>by
      have h3:=Vb (P:=P) (w:=w) (M:=M) (φ:=φ) (d:=d) fs.toList 0 us xs ys e G1 he hrx hry;rw[Array.forIn_toList]at h3;unfold Op.equalIn;simp only[Sem.run_bind,run_underlying hu,Result.andThen_ok,run_program,kK];simp only[Bool.false_eq_true,if_false,Sem.run_bind,Sem.run_pure,Result.andThen_ok];refine Eq.trans (congrArg (fun z=>Result.andThen z _) h3) ?_
      cases e <;> simp
     have heq:∀e,lV us xs ys=some e→(Op.equal t (.agg vx.toArray) (.agg vy.toArray)).run P w=.ok e w:=fun e he=>Qjv 9998 e he
     clear Qjv;split at hb
     ·rename_i e he;cases hb;exact Yd.val (c8 (.bool e) (AZ heg) (by simp [binOp,heq e he])) rfl (IR.bool _) hW
     ·rename_i e he;cases hb;exact Yd.val (c8 (.bool (!e)) (AZ heg) (by simp [binOp,heq e he])) rfl (IR.bool _) hW
     ·cases hb
    ·split at hb
     ·rename_i us E5;obtain⟨vx,hvx,hrx⟩:=hx;obtain⟨vy,hvy,hry⟩:=hy;rw[hvx,hvy]at c8;have Ni:∃n e u,P.underlying t=some (.array n e)∧P.eqGuardType P.depth t=false∧yL P e=some false∧Ar P e=some 1∧P.underlying e=some u∧us=List.replicate n u:=by
       unfold QfO at E5;split at E5
       ·rename_i n e hu;cases hc:(!P.eqGuardType P.depth t&&(yL P e == some false)&&(Ar P e == some 1))with
        |false=>rw[hc]at E5;cases E5
        |true =>
         rw[hc]at E5;simp only[Bool.and_eq_true,Bool.not_eq_true',beq_iff_eq]at hc;cases hue:P.underlying e with
         |none=>rw[hue]at E5;cases E5
         |some u=>rw[hue]at E5;cases E5;exact⟨n,e,u,hu,hc.1.1,hc.1.2,hc.2,hue,rfl⟩
       ·cases E5
      obtain⟨n,e0,u,hu,heg,pM,j9,hue,rfl⟩:=Ni;have heq:∀e,lV (List.replicate n u) xs ys=some e→(Op.equal t (.agg vx.toArray) (.agg vy.toArray)).run P w=.ok e w:=fun e he=>Ng (d:=9998) hu hue pM j9 he hrx hry
      split at hb
      ·rename_i e he;cases hb;exact Yd.val (c8 (.bool e) (AZ heg) (by simp [binOp,heq e he])) rfl (IR.bool _) hW
      ·rename_i e he;cases hb;exact Yd.val (c8 (.bool (!e)) (AZ heg) (by simp [binOp,heq e he])) rfl (IR.bool _) hW
      ·cases hb
     ·cases hb
   ·cases hb
 ·cases hf
end
end
section
open Go.RowKit
section
variable {α β : Type} {R : α → β → Prop}
theorem A4{sz:Nat}:∀{rows:List (List α)} {i j:Nat} {c:List α} {l:α},(∀c∈rows,c.length=sz)→rows[i]?=some c→c[j]?=some l→rows.flatten[i*sz+j]?=some l
 | [],_,_,_,_,_,h,_=>by simp at h
 |r ::rows,0,j,c,l,hs,h,hj=>by
  simp at h;subst h;rw[Nat.zero_mul,Nat.zero_add,List.flatten_cons,List.getElem?_append_left (List.getElem?_eq_some_iff.1 hj).1];exact hj
 |r ::rows,i+1,j,c,l,hs,h,hj=>by
  have hr:=hs r (by simp)
  rw[List.flatten_cons,List.getElem?_append_right (by rw[hr,Nat.add_mul];omega),hr,show(i+1)*sz+j-sz=i*sz+j by rw[Nat.add_mul];omega]
  exact A4 (fun c hc=>hs c (by simp [hc])) (by simpa using h) hj
theorem qp{sz:Nat}:∀{rows:List (List α)},(∀c∈rows,c.length=sz)→rows.flatten.length=rows.length*sz
 | [],_=>by simp
 |r ::rows,hs=>by
  rw[List.flatten_cons,List.length_append,hs r (by simp),qp fun c hc=>hs c (by simp [hc]),List.length_cons,Nat.add_mul];omega
theorem mem_row{rows:List (List α)}{sz:Nat}(h:∀(i:Nat) (c:List α),rows[i]?=some c→c.length=sz):∀c∈rows,c.length=sz:=fun c hc=>by
 obtain⟨i,hi⟩:=List.mem_iff_getElem?.1 hc;exact h i c hi
theorem GR{sz:Nat}:∀{n:Nat} {l:List Lf} {i:Nat} {c:List Lf},(chunk sz n l)[i]?=some c→i<n∧c=(l.drop (i*sz)).take sz
 |0,_,_,_,h=>by simp [chunk]at h
 |n+1,l,0,c,h=>by simp [chunk]at h;exact⟨by omega,by simp [h]⟩
 |n+1,l,i+1,c,h=>by
  simp only[chunk,List.getElem?_cons_succ]at h;obtain⟨h1,h2⟩:=GR h;exact⟨by omega,by rw[h2,List.drop_drop,Nat.add_mul,Nat.one_mul,Nat.add_comm]⟩
theorem GS{sz:Nat}:∀{n:Nat} {l:List Lf},(chunk sz n l).length=n
 |0,_=>rfl
 |n+1,l=>by simp [chunk,GS (n:=n)]
end
section
variable {P : Program} {w : World} {M : Nat → Prop} {φ : Pl}
theorem Vi(off:Nat):∀(vs:List Value) (k:Nat) (cs:Array Value),off+k+vs.length≤cs.size→
  ((vs.zipIdx k).foldl (fun(cs:Array Value) (x:Value×Nat)=>cs.setIfInBounds (off+x.2) x.1) cs).toList=cs.toList.take (off+k)++vs++cs.toList.drop (off+k+vs.length)
 | [],k,cs,_=>by simp
 |v ::vs,k,cs,h=>by
  simp only[List.zipIdx_cons,List.foldl_cons,List.length_cons]at h ⊢;rw[Vi off vs (k+1) _ (by simp;omega)]
  have jU:off+k<cs.toList.length:=by simpa using(by omega:off+k<cs.size)
  simp only[Array.toList_setIfInBounds];have e1:(cs.toList.set (off+k) v).take (off+(k+1))=cs.toList.take (off+k)++[v]:=by
   rw[show off+(k+1)=(off+k)+1 by omega,List.take_add_one,List.take_set_of_le (Nat.le_refl _),List.getElem?_set_self jU];rfl
  have e2:(cs.toList.set (off+k) v).drop (off+(k+1)+vs.length)=cs.toList.drop (off+k+(vs.length+1)):=by
   rw[List.drop_set_of_lt (by omega)];congr 1;omega
  rw[e1,e2];simp
theorem Tj{pl:Nat→Option (Nat×Nat)}:∀{cs:List (Nat×List Lf)} {vp:List (Nat×Value)} {z out:List Lf} {zc:Array Value},Nf pl z cs=some out→Rs (LR w M φ) z zc.toList→
  Rs (fun(p:Nat×List Lf) (q:Nat×Value)=>p.1=q.1∧Rs (LR w M φ) p.2 q.2.cells.toList) cs vp→∃oc,Instr.fill pl zc vp=some oc∧Rs (LR w M φ) out oc.toList
 | [],[],z,out,zc,h,hz,_=>by cases h;exact⟨zc,rfl,hz⟩
 |(i,ls) ::cs,(j,v) ::vp,z,out,zc,h,hz,hr=>by
  obtain⟨⟨rfl,hv⟩,QD⟩:=hr;simp only at hv;simp only[Nf]at h;split at h
  ·cases h
  ·rename_i off size hp;cases hc:(ls.length == size&&Nat.ble (off+size) z.length)with
   |false=>rw[hc]at h;cases h
   |true =>
    rw[hc]at h;simp only[cond_true]at h;simp only[Bool.and_eq_true,beq_iff_eq,Nat.ble_eq]at hc;have hvl:v.cells.size=size:=by rw[←Array.length_toList,←hv.len];exact hc.1
    have hzl:z.length=zc.size:=by rw[hz.len];simp
    have hf:=Vi off v.cells.toList 0 zc (by rw[Nat.add_zero,Array.length_toList];omega)
    have Ki:Rs (LR w M φ) (z.take off++ls++z.drop (off+size)) (zc.toList.take off++v.cells.toList++zc.toList.drop (off+size)):=((hz.take off).append hv).append (hz.drop _);have Qm0:v.cells.zipIdx.foldl (fun(cs:Array Value) (x:Value×Nat)=>cs.setIfInBounds (off+x.2) x.1) zc=(zc.toList.take off++v.cells.toList++zc.toList.drop (off+size)).toArray:=by
     apply Array.ext';rw[←Array.foldl_toList,Array.toList_zipIdx];rw[Nat.add_zero,Array.length_toList,hvl]at hf;simpa using hf
    obtain⟨oc,h1,h2⟩:=Tj (zc:=(zc.toList.take off++v.cells.toList++zc.toList.drop (off+size)).toArray) h (by simpa using Ki) QD
    refine⟨oc,?_,h2⟩;simp only[Instr.fill,hp];rw[if_neg (by simp;omega)]
    rw[←h1,←Qm0]
 | [],_ ::_,_,_,_,_,_,h=>h.elim
 |_ ::_,[],_,_,_,_,_,h=>h.elim
theorem Rs.flat{ls:List Lf}{vs:List Value}(h:Rs (LR w M φ) ls vs):∀n,Rs (LR w M φ) (List.replicate n ls).flatten (List.replicate n vs).flatten
 |0=>by simp [Rs]
 |n+1=>by simp only[List.replicate_succ,List.flatten_cons];exact h.append (Rs.flat h n)
theorem DZ(zc:Array Value)(n:Nat):((Array.range (n*zc.size)).map fun i=>zc[i % zc.size]!).toList=(List.replicate n zc.toList).flatten:=by
 rw[Array.toList_map,Array.toList_range];induction n with
 |zero=>simp
 |succ n ih =>
  rw[List.replicate_succ',List.flatten_append,←ih,Nat.add_mul,Nat.one_mul,List.range_add,List.map_append];congr 1;simp only[List.map_map,List.flatten_cons,List.flatten_nil,List.append_nil];apply List.ext_getElem?;intro k;rw[List.getElem?_map];rcases Nat.lt_or_ge k zc.size with hk|hk
  ·rw[List.getElem?_range hk];have:(n*zc.size+k) % zc.size=k:=by rw[Nat.mul_comm,Nat.mul_add_mod,Nat.mod_eq_of_lt hk]
   simp [this,hk]
  ·rw[List.getElem?_eq_none (by simpa using hk)];simp [hk]
theorem SV{w':World}{id b C:Nat}{φ':Pl}{e:TypeId}{sz:Nat}{rows:List (List Lf)}{vs:Array Value}(hφ:φ' id=some (some (b,C)))(hb:w'.heap[b]?=some (.cells vs e))(h0:0<sz)(hs:vs.size=C*sz)(hl:rows.length≤C)(hC:C≤maxLen)
  (hr:∀(i:Nat) (c:List Lf),rows[i]?=some c→c.length=sz∧∀(j:Nat) (l:Lf),c[j]?=some l→∃v,vs[i*sz+j]?=some v∧IR w' M l v):OR w' M φ' id ⟨false,sz,e,rows⟩:=by
 refine .inl ⟨h0,?_⟩;rw[hφ];exact⟨vs,hb,hs,hl,hC,fun h=>(by cases h),fun i c hc=>⟨(hr i c hc).1,fun j l hj=>by simpa using(hr i c hc).2 j l hj⟩⟩
end
section
variable {P : Program} {Γ : bu} {φ : Pl} {M : Nat → Prop} {hD h : Nat → Option Ob} {w : World} {base : Nat} {L : Nat → AV} {a : Act} {g : Prop} {hs : List Hint} {r : Lv} {o : Oper}
theorem Lp(parts:Array (Nat×Operand)):(parts.map fun(i,x)=>(i,a.eval x)).toList=parts.toList.map fun(i,x)=>(i,a.eval x):=by simp
theorem Wq(cR:c6 r.fl)(hg:g)(hF:∀t,AR w M φ (L t) (a.tmps.getD t undef))(hW:Wd Γ φ M hD w){t:TypeId}{parts:Array (Nat×Operand)}(ho:o.op=.build t parts)(hf:yx P h base g L o.op hs=some r):
  Yd P Γ φ M hD w base r ((execOp a.eval o).run P w):=by
 rw[ho]at hf;simp only[yx]at hf;split at hf
 ·rename_i z pl cs o1 hz Di Vv;cases G1:Nf pl z cs with
  |none=>rw[G1]at hf;cases hf
  |some out =>
   rw[G1]at hf;cases hf;obtain⟨i,zv,hi,VA,PA,h0,Jz,hl⟩:=sD (w:=w) (M:=M) (φ:=φ) hz;have hp:=G6 hF hg Vv cR;obtain⟨oc,h1,h2⟩:=Tj G1 Jz hp;refine Yd.val (v:=.agg oc) ?_ rfl ⟨oc.toList,by simp,h2⟩ hW
   have hb:P.built t (parts.toList.map fun(i,x)=>(i,a.eval x))=some oc:=by
    unfold Program.built;unfold placesOf at Di;split at Di
    ·rename_i n e hu;cases QB:P.info? e with
     |none=>rw[QB]at Di;cases Di
     |some ie=>rw[QB]at Di;cases Di;simp only[hi,hu,VA,QB];exact h1
    ·rename_i fs hu;cases hps:fs.toList.mapM (fun f=>(P.info? f.type).map fun i=>(f.offset,i.size))with
     |none=>rw[hps]at Di;cases Di
     |some ps =>
      rw[hps]at Di;cases Di;simp only[hi,hu,VA,hps];have:(fun x:Nat=>ps.toArray[x]?)=fun x:Nat=>ps[x]?:=by funext x;simp
      rw[this];exact h1
    ·cases Di
   have hr:=run_build (P:=P) w t (parts.map fun(i,x)=>(i,a.eval x)) oc (by rw[Lp];exact hb)
   simp [execOp,ho,hr]
 ·cases hf
theorem MO(cR:c6 r.fl)(hg:g)(hF:∀t,AR w M φ (L t) (a.tmps.getD t undef))(hW:Wd Γ φ M hD w){t:TypeId}{n:Nat}{parts:Array (Nat×Operand)}(ho:o.op=.buildSlice t n parts)(hf:yx P h base g L o.op hs=some r)
  (tg:∀id,base≤id→id<base+r.news.length→φ id=none∧hD id=none):Yd P Γ φ M hD w base r ((execOp a.eval o).run P w):=by
 rw[ho]at hf;simp only[yx]at hf;split at hf
 ·rename_i e he;have hu:=ir he;split at hf
  ·rename_i ie z cs o1 QB hz Vv;obtain⟨i,zv,hi,VA,PA,h0,Jz,hl⟩:=sD (w:=w) (M:=M) (φ:=φ) hz;obtain rfl:ie=i:=by rw[QB]at hi;exact Option.some.inj hi
   cases zO:(n == 0&&cs.isEmpty)with
   |true =>
    rw[zO]at hf;cases hf;simp only[Bool.and_eq_true,beq_iff_eq,List.isEmpty_iff]at zO;obtain⟨rfl,rfl⟩:=zO;have hp:=G6 hF hg Vv cR;have hpe:parts=#[]:=by
     have:=hp.len;apply Array.eq_empty_of_size_eq_zero;simpa using this.symm
    subst hpe;refine Yd.grow (v:=.slice (some ⟨w.heap.size,0,none⟩) 0 0) (w':=w.alloc (.cells #[] e)) ?_ rfl (qn w _) (IR.OJ true ie.size _ 0 fun _=>rfl) hW
    have hem:∀f:Nat→Value,(Array.range 0).map f=#[]:=fun f=>Array.eq_empty_of_size_eq_zero (by simp)
    simp [execOp,ho,Instr.buildSlice,run_underlying hu,run_sizeOf QB,Instr.fill,newRow,hem]
   |false =>
    rw[zO]at hf;simp only[cond_false]at hf;cases hc:(Nat.ble (n*ie.size) 4096&&!(n == 0))with
    |false=>rw[hc]at hf;cases hf
    |true =>
     rw[hc]at hf;simp only[cond_true]at hf;simp only[Bool.and_eq_true,Nat.ble_eq,Bool.not_eq_true',beq_eq_false_iff_ne]at hc;split at hf
     ·rename_i cells G1;have common:c6 o1→∃oc:Array Value,Rs (LR w M φ) cells oc.toList∧oc.size=n*ie.size∧(Instr.buildSlice t n (parts.map fun(i,x)=>(i,a.eval x))).run P w=.ok (.slice (some ⟨w.heap.size,0,none⟩) n n) (w.alloc (.cells oc e)):=by
       intro Pw;have hp:=G6 hF hg Vv Pw;have hz2:Rs (LR w M φ) (List.replicate n z).flatten ((Array.range (n*zv.cells.size)).map fun i=>zv.cells[i % zv.cells.size]!).toList:=by rw[DZ];exact Jz.flat n
       obtain⟨oc,h1,h2⟩:=Tj G1 hz2 hp;have Tx:oc.size=n*ie.size:=by
        have:=h2.len;rw[←Array.length_toList,←this];have Ql6:∀{cs:List (Nat×List Lf)} {z out:List Lf},Nf (fun i=>some (i*ie.size,ie.size)) z cs=some out→out.length=z.length:=by
         intro cs;induction cs with
         |nil=>intro z out h;cases h;rfl
         |cons c cs ih =>
          obtain⟨i,v⟩:=c;intro z out h;simp only[Nf]at h;cases hq:(v.length == ie.size&&Nat.ble (i*ie.size+ie.size) z.length)with
          |false=>rw[hq]at h;cases h
          |true =>
           rw[hq]at h;simp only[Bool.and_eq_true,beq_iff_eq,Nat.ble_eq]at hq;have:=ih h;rw[this];simp;omega
        rw[Ql6 G1,qp (sz:=ie.size) (fun c hc=>by rw[List.eq_of_mem_replicate hc];exact hl)];simp
       have c8:(Instr.buildSlice t n (parts.map fun(i,x)=>(i,a.eval x))).run P w=.ok (.slice (some ⟨w.heap.size,0,none⟩) n n) (w.alloc (.cells oc e)):=by
        refine run_buildSlice w t e n _ oc ie zv hu QB VA (by omega) (by have:n*ie.size≠0:=Nat.mul_ne_zero hc.2 (by omega);exact this) ?_
        rw[Lp,←PA];rw[←PA]at h1;exact h1
       exact⟨oc,h2,Tx,c8⟩
      cases XQ:cells.all Ma with
      |false =>
       rw[XQ]at hf;simp only[cond_false]at hf;split at hf
       ·cases hf;obtain⟨oc,h2,Tx,c8⟩:=common cR;rw[Nat.one_mul]at Tx;have hb:=qn w (.cells oc e);have hf0:=tg base (Nat.le_refl _) (by simp)
        have L7:Ex w M φ (w.alloc (.cells oc e)) M (GI φ base (some (w.heap.size,1))):=⟨fun b hm=>hb.block b (hW.mlt b hm),fun _ h=>h,sA _ hf0.1⟩
        have Ee:cells.length=ie.size:=by rw[h2.len];simpa using Tx
        refine Yd.new (b:=w.heap.size) (C:=1) (v:=.slice (some ⟨w.heap.size,0,none⟩) 1 1) (by simp [execOp,ho,c8]) rfl hW tg hb (Nat.le_refl _) (by simp) ?_ ?_
        ·exact Xb cR hg hF hW (dP _ _ _) (heap_alloc_new w _) (h2.mono fun _ _ h=>LR.mono L7 h) (by omega)
        ·exact .inl ⟨w.heap.size,1,dP _ _ _,by simp,by omega⟩
       ·cases hf
      |true =>
       rw[XQ]at hf;cases hf;obtain⟨oc,h2,Tx,c8⟩:=common cR;have hb:=qn w (.cells oc e);have hf0:=tg base (Nat.le_refl _) (by simp)
       have L7:Ex w M φ (w.alloc (.cells oc e)) M (GI φ base (some (w.heap.size,n))):=⟨fun b hm=>hb.block b (hW.mlt b hm),fun _ h=>h,sA _ hf0.1⟩
       refine Yd.new (b:=w.heap.size) (C:=n) (v:=.slice (some ⟨w.heap.size,0,none⟩) n n) (by simp [execOp,ho,c8]) rfl hW tg hb (Nat.le_refl _) (by simp) ?_ ?_
       ·refine SV (dP _ _ _) (heap_alloc_new w _) h0 Tx (by rw[GS];exact Nat.le_refl _) (by have:n≤n*ie.size:=Nat.le_mul_of_pos_right _ h0;simp only[maxLen];omega) fun i c Ay=>?_
        obtain⟨pq,rfl⟩:=GR Ay;have Ee:cells.length=n*ie.size:=by rw[h2.len];simpa using Tx
        have hle:(i+1)*ie.size≤n*ie.size:=Nat.mul_le_mul_right _ pq;rw[Nat.add_mul,Nat.one_mul]at hle;refine⟨by simp;omega,fun j l hj=>?_⟩
        have hj2:cells[i*ie.size+j]?=some l:=by
         rw[List.getElem?_take]at hj;split at hj
         ·rw[List.getElem?_drop]at hj;exact hj
         ·cases hj
        obtain⟨v,hv,hlr⟩:=h2.get hj2;refine⟨v,by simpa using hv,?_⟩
        exact(LR.NN (List.all_eq_true.1 XQ l (List.mem_of_getElem? hj2)) hlr).mono L7.WL L7.sub
       ·exact .inl ⟨w.heap.size,n,dP _ _ _,by simp,by omega⟩
     ·cases hf
  ·cases hf
 ·cases hf
end
end
section
open Go.RowKit
section
variable {P : Program} {Γ : bu} {φ : Pl} {M : Nat → Prop} {hD h : Nat → Option Ob} {w : World} {base : Nat} {L : Nat → AV} {a : Act} {g : Prop} {hs : List Hint} {r : Lv} {o : Oper}
theorem sr{R:Lf→Value→Prop}{b sz:Nat}:∀(rows:List (List Lf)) (k:Nat),(∀(i:Nat) (c:List Lf),rows[i]?=some c→c.length=sz)→
  (∀(i:Nat) (c:List Lf) (j:Nat) (l:Lf),rows[i]?=some c→c[j]?=some l→∃v,w.cell? ⟨b,k+i*sz+j,none⟩=some v∧R l v)→∃vs,Rs R rows.flatten vs∧w.rangeAt b k vs
 | [],k,_,_=>⟨[],trivial,fun j v h=>by simp at h⟩
 |r ::rows,k,hs,h=>by
  obtain⟨v1,h1,h2⟩:=XE (w:=w) (R:=R) (b:=b) r k fun j l hj=>by simpa using h 0 r j l rfl hj
  obtain⟨v2,h3,h4⟩:=sr rows (k+sz) (fun i c hc=>hs (i+1) c (by simpa using hc)) fun i c j l hc hj=>by
   obtain⟨v,hv,hr⟩:=h (i+1) c j l (by simpa using hc) hj
   exact⟨v,by rw[show k+sz+i*sz+j=k+(i+1)*sz+j by rw[Nat.add_mul];omega];exact hv,hr⟩
  have hl:v1.length=sz:=by rw[←h1.len];exact hs 0 r rfl
  refine⟨v1++v2,h1.append h3,fun j u hj=>?_⟩
  rcases Nat.lt_or_ge j v1.length with jU|QW
  ·rw[List.getElem?_append_left jU]at hj;exact h2 j u hj
  ·rw[List.getElem?_append_right QW]at hj;have:=h4 _ _ hj;rw[show k+j=k+sz+(j-v1.length) by omega];exact this
theorem Ur: ∀{z z':List Lf} {vs:List Value},YQ z z' = true→Rs (LR w M φ) z vs→Rs (IR w M) z' vs
  | [],[],[],_,_ => trivial
  | x :: xs, y :: ys, v :: vs, h, hr => by
    simp only[YQ,Bool.and_eq_true]at h;refine⟨?_,Ur h.2 hr.2⟩;have h1:= h.1;have hx:= hr.1;cases x <;> cases y <;> first
      |(cases h1;done)
      |skip
    · simp only[Bool.and_eq_true,decide_eq_true_eq,beq_iff_eq]at h1;obtain⟨rfl,rfl⟩:= h1;exact hx
    · simp only[beq_iff_eq]at h1;subst h1;exact hx
    · simp only[Bool.and_eq_true,beq_iff_eq]at h1;rename_i s1 s2;have e1:s1 = s2:= by
        obtain⟨h1,h2⟩:= h1;cases s1 with |mk d1 => cases s2 with |mk d2 =>
        have h3:d1.size = 0:= h1;have h4:d2.size = 0:= h2;rw[Array.eq_empty_of_size_eq_zero h3,Array.eq_empty_of_size_eq_zero h4]
      subst e1;exact hx
    · rename_i cl sz rows;cases cl <;> cases rows <;> first
        |(cases h1;done)
        | (have By : IR w M .cB v := hx
           cases By;exact IR.OJ false sz none 0 fun h => by cases h)
  | [],_ ::_,_,h,_ => by cases h
  |_ ::_,[],_,h,_ => by cases h
  | [],[],_ ::_,_,h => h.elim
  |_ ::_,_,[],_,h => h.elim
theorem N2(cR:c6 r.fl)(hg:g)(hF:∀t,AR w M φ (L t) (a.tmps.getD t undef))(hW:Wd Γ φ M hD w){t:TypeId}{x y:Operand}(ho:o.op=.makeSlice t x y)(hf:yx P h base g L o.op hs=some r)
  (tg:∀id,base≤id→id<base+r.news.length→φ id=none∧hD id=none):Yd P Γ φ M hD w base r ((execOp a.eval o).run P w):=by
 rw[ho]at hf;simp only[yx]at hf;split at hf
 ·rename_i e k n o1 k' m o2 z' R fc he h1 h2;split at hf
  ·rename_i ie z QB hz;cases TA:YQ z z' with
   |false=>rw[TA]at hf;cases hf
   |true =>
    rw[TA]at hf;cases hf;simp only[bm,c6]at cR;obtain⟨i,zv,hi,VA,PA,h0,Jz,hl⟩:=sD (w:=w) (M:=M) (φ:=φ) hz;obtain rfl:ie=i:=by rw[QB]at hi;exact Option.some.inj hi
    have hx:IR w M (.int k n) (a.eval x):=b7 hF h1 cR.1.1 hg;have hy:IR w M (.int k' m) (a.eval y):=b7 hF h2 cR.1.2 hg;generalize hvx:a.eval x=vx at hx;generalize hvy:a.eval y=vy at hy;cases hx;cases hy;obtain⟨zO,hnm,Qmk,hmb,hR,-⟩:=cR.2;have hu:=ir he;have hw1:IntKind.i64.wrap n=n:=IntWalk.i64_in n (by omega)
    have hw2:IntKind.i64.wrap m=m:=IntWalk.i64_in m (by omega)
    have hrz:=Ur TA Jz;have hzl:z'.length=ie.size:=by rw[hrz.len];simpa using PA
    let cur:Array Value:=(Array.range (m.toNat*ie.size)).map fun i=>zv.cells[i % zv.cells.size]!
    have Kh:cur.toList=(List.replicate m.toNat zv.cells.toList).flatten:=by show((Array.range (m.toNat*ie.size)).map _).toList=_;rw[←PA];exact DZ _ _
    have Vv:cur.size=m.toNat*ie.size:=by show((Array.range (m.toNat*ie.size)).map _).size=_;simp
    have c8:(execOp a.eval o).run P w=.ok (.value (.slice (some ⟨w.heap.size,0,none⟩) n.toNat m.toNat)) (w.alloc (.cells cur e)):=by
     have Oo:¬(281474976710656<(ie.bytes:Int)*m):=by omega
     have c1:¬(m<0):=by omega
     have c2:¬(n<0):=by omega
     have c3:¬(m<n):=by omega
     by_cases WW:m.toNat*ie.size=0
     ·have hem:∀f:Nat→Value,(Array.range (m.toNat*ie.size)).map f=#[]:=fun f=>Array.eq_empty_of_size_eq_zero (by simp [WW])
      have Qco:cur=#[]:=hem _;have Qhq:∀f:Nat→Value,(Array.range 0).map f=#[]:=fun f=>Array.eq_empty_of_size_eq_zero (by simp)
      simp [execOp,ho,hvx,hvy,Instr.makeSlice,run_underlying hu,asInt,asIntOf,typeInfo,QB,hw1,hw2,Oo,c1,c2,c3,run_sizeOf QB,newRow,Qco,Qhq,WW]
     ·simp [execOp,ho,hvx,hvy,Instr.makeSlice,run_underlying hu,asInt,asIntOf,typeInfo,QB,hw1,hw2,Oo,c1,c2,c3,run_sizeOf QB,zeroValue,VA,newRow,WW];rfl
    have hf0:=tg base (Nat.le_refl _) (by simp)
    have hb:=qn w (.cells cur e);have L7:Ex w M φ (w.alloc (.cells cur e)) M (GI φ base (some (w.heap.size,m.toNat))):=⟨fun b hm=>hb.block b (hW.mlt b hm),fun _ h=>h,sA _ hf0.1⟩
    have NI:R.length=n.toNat:=by rw[←hR];simp
    refine Yd.new (b:=w.heap.size) (C:=m.toNat) c8 rfl hW tg hb (Nat.le_refl _) (by simp) ?_ ?_
    ·refine SV (dP _ _ _) (heap_alloc_new w _) h0 Vv (by omega) (by simp only[maxLen];omega) fun i c hc=>?_
     rw[←hR]at hc;have jU:=(List.getElem?_eq_some_iff.1 hc).1;simp only[List.length_replicate]at jU;have hcz:c=z':=by
      rw[List.getElem?_replicate,if_pos jU]at hc;exact(Option.some.inj hc).symm
     subst hcz;refine⟨hzl,fun j l hj=>?_⟩
     obtain⟨v,hv,hlr⟩:=hrz.get hj;refine⟨v,?_,hlr.mono L7.WL L7.sub⟩;rw[←Array.getElem?_toList,Kh];exact A4 (sz:=ie.size) (rows:=List.replicate m.toNat zv.cells.toList) (fun c hc=>by rw[List.eq_of_mem_replicate hc];simpa using PA) (by rw[List.getElem?_replicate,if_pos (by omega)]) hv
    ·exact .inl ⟨w.heap.size,m.toNat,dP _ _ _,by rw[NI];simp,by omega⟩
  ·cases hf
 ·rename_i e k n o1 k' m o2 j fc he h1 h2;split at hf
  ·rename_i ie z QB hz;cases TA:(!(j == 0)&&Nat.ble (ie.bytes*j) 4096&&Nat.ble j 4096)with
   |false=>rw[TA]at hf;cases hf
   |true =>
    rw[TA]at hf;cases hf;simp only[Bool.and_eq_true,Bool.not_eq_true',beq_eq_false_iff_ne,Nat.ble_eq]at TA;simp only[bm,c6]at cR;obtain⟨i,zv,hi,VA,PA,h0,Jz,hl⟩:=sD (w:=w) (M:=M) (φ:=φ) hz;obtain rfl:ie=i:=by rw[QB]at hi;exact Option.some.inj hi
    have hx:IR w M (.int k n) (a.eval x):=b7 hF h1 cR.1.1 hg;have hy:IR w M (.int k' m) (a.eval y):=b7 hF h2 cR.1.2 hg;generalize hvx:a.eval x=vx at hx;generalize hvy:a.eval y=vy at hy;cases hx;cases hy;obtain⟨hnj,hmj,-⟩:=cR.2;have zO:0≤n:=by omega
    have hnm:n≤m:=by omega
    have Qmk:m≤9223372036854775807:=by omega
    have hmb:(ie.bytes:Int)*m≤140737488355328:=by rw[hmj];have:=TA.1.2;rw[←Int.natCast_mul];omega
    have hu:=ir he;have hw1:IntKind.i64.wrap n=n:=IntWalk.i64_in n (by omega)
    have hw2:IntKind.i64.wrap m=m:=IntWalk.i64_in m (by omega)
    let cur:Array Value:=(Array.range (m.toNat*ie.size)).map fun i=>zv.cells[i % zv.cells.size]!
    have Kh:cur.toList=(List.replicate m.toNat zv.cells.toList).flatten:=by show((Array.range (m.toNat*ie.size)).map _).toList=_;rw[←PA];exact DZ _ _
    have Vv:cur.size=m.toNat*ie.size:=by show((Array.range (m.toNat*ie.size)).map _).size=_;simp
    have c8:(execOp a.eval o).run P w=.ok (.value (.slice (some ⟨w.heap.size,0,none⟩) n.toNat m.toNat)) (w.alloc (.cells cur e)):=by
     have Oo:¬(281474976710656<(ie.bytes:Int)*m):=by omega
     have c1:¬(m<0):=by omega
     have c2:¬(n<0):=by omega
     have c3:¬(m<n):=by omega
     by_cases WW:m.toNat*ie.size=0
     ·have hem:∀f:Nat→Value,(Array.range (m.toNat*ie.size)).map f=#[]:=fun f=>Array.eq_empty_of_size_eq_zero (by simp [WW])
      have Qco:cur=#[]:=hem _;have Qhq:∀f:Nat→Value,(Array.range 0).map f=#[]:=fun f=>Array.eq_empty_of_size_eq_zero (by simp)
      simp [execOp,ho,hvx,hvy,Instr.makeSlice,run_underlying hu,asInt,asIntOf,typeInfo,QB,hw1,hw2,Oo,c1,c2,c3,run_sizeOf QB,newRow,Qco,Qhq,WW]
     ·simp [execOp,ho,hvx,hvy,Instr.makeSlice,run_underlying hu,asInt,asIntOf,typeInfo,QB,hw1,hw2,Oo,c1,c2,c3,run_sizeOf QB,zeroValue,VA,newRow,WW];rfl
    have hf0:=tg base (Nat.le_refl _) (by simp)
    have hb:=qn w (.cells cur e);have L7:Ex w M φ (w.alloc (.cells cur e)) M (GI φ base (some (w.heap.size,1))):=⟨fun b hm=>hb.block b (hW.mlt b hm),fun _ h=>h,sA _ hf0.1⟩
    have hmt:m.toNat=j:=by omega
    have hnt:n.toNat=j:=by omega
    rw[hnt,hmt]at c8;rw[hmt]at Kh;have hrf:=Jz.flat j;rw[←Kh]at hrf;refine Yd.new (b:=w.heap.size) (C:=1) c8 rfl hW tg hb (Nat.le_refl _) (by simp) ?_ ?_
    ·refine Xb (r:=⟨.Lz,[],[],[]⟩) trivial hg hF hW (dP _ _ _) (heap_alloc_new w _) (hrf.mono fun _ _ h=>LR.mono L7 h) ?_
     rw[qp (sz:=ie.size) (fun c hc=>by rw[List.eq_of_mem_replicate hc];exact hl),List.length_replicate]
     exact Nat.mul_pos (by omega) h0
    ·exact⟨w.heap.size,dP _ _ _,rfl⟩
  ·cases hf
 ·cases hf
theorem y3{x:Option Operand}{c:Option Cm}{q:Option Int}(hc:Qi2 w M φ a x c)(hb:QbT c=some q):(x=none∧q=none)∨∃y k n,x=some y∧q=some n∧a.eval y=.int k n:=by
 cases x with
 |none =>
  cases c with
  |none=>cases hb;exact .inl ⟨rfl,rfl⟩
  |some c=>exact hc.elim
 |some x =>
  cases c with
  |none=>exact hc.elim
  |some c =>
   unfold QbT at hb;split at hb
   ·rename_i h;cases h
   ·rename_i k n h;cases h;cases hb;have hx:IR w M (.int k n) (a.eval x):=hc;generalize hv:a.eval x=xv at hx;cases hx;exact .inr ⟨x,k,n,rfl,rfl,hv⟩
   ·cases hb
theorem xB{Zq:Bool}{len cap:Nat}{lo hi mx:Option Value}{ql qh qm:Option Int}(hl:(lo=none∧ql=none)∨∃k n,lo=some (.int k n)∧ql=some n)(hh:(hi=none∧qh=none)∨∃k n,hi=some (.int k n)∧qh=some n)
  (hm:(mx=none∧qm=none)∨∃k n,mx=some (.int k n)∧qm=some n) (hmh:qm.isSome→qh.isSome) (h1:0≤ql.getD 0) (h2:ql.getD 0≤qh.getD len) (h3:qh.getD len≤qm.getD cap) (h4:qm.getD cap≤cap) (h5:(len:Int)≤cap):
  (Instr.sliceBounds Zq len cap lo hi mx).run P w=.ok ((ql.getD 0).toNat,(qh.getD len).toNat,(qm.getD cap).toNat) w:=by
 have hb:∀(k:IntKind) (n:Int) (y:Nat) (code:BoundsCode),0≤n→n≤(y:Int)→(Instr.sliceBound (.int k n) y code).run P w=.ok n.toNat w:=fun k n y code e1 e2=>by
  simp [Instr.sliceBound,asIntOf,e1,e2]
 unfold Instr.sliceBounds;rcases hm with⟨rfl,rfl⟩|⟨km,m,rfl,rfl⟩
 ·rcases hh with⟨rfl,rfl⟩|⟨kh,n,rfl,rfl⟩
  ·rcases hl with⟨rfl,rfl⟩|⟨kl,l,rfl,rfl⟩
   ·simp
   ·simp only[Option.getD_some,Option.getD_none]at h1 h2 h3 h4 ⊢;simp [hb kl l len _ h1 h2]
  ·rcases hl with⟨rfl,rfl⟩|⟨kl,l,rfl,rfl⟩
   ·simp only[Option.getD_some,Option.getD_none]at h1 h2 h3 h4 ⊢;simp [hb kh n cap _ h2 h3]
   ·simp only[Option.getD_some,Option.getD_none]at h1 h2 h3 h4 ⊢;simp [hb kh n cap _ (by omega) h3,hb kl l n.toNat _ h1 (by omega)]
 ·rcases hh with⟨rfl,rfl⟩|⟨kh,n,rfl,rfl⟩
  ·have:=hmh rfl;cases this
  ·rcases hl with⟨rfl,rfl⟩|⟨kl,l,rfl,rfl⟩
   ·simp only[Option.getD_some,Option.getD_none]at h1 h2 h3 h4 ⊢;simp [hb km m cap _ (by omega) h4,hb kh n m.toNat _ h2 (by omega)]
   ·simp only[Option.getD_some,Option.getD_none]at h1 h2 h3 h4 ⊢;simp [hb km m cap _ (by omega) h4,hb kh n m.toNat _ (by omega) (by omega),hb kl l n.toNat _ h1 (by omega)]
theorem Wm{t:TypeId}{s:ByteArray}{lo hi:Option Value}{l hh m:Nat}(hu:P.underlying t=some .string)(hb:(Instr.sliceBounds false s.size s.size lo hi none).run P w=.ok (l,hh,m) w):(Instr.sliceAt t (.string s) lo hi none).run P w=.ok (.string (s.extract l hh)) w:=by
 simp [Instr.sliceAt,run_underlying hu,Instr.slice,hb]
theorem Ah{t e:TypeId}{A:Option Addr}{len cap:Nat}{lo hi mx:Option Value}{l hh m:Nat}{i:TypeInfo}(hu:P.underlying t=some (.slice e))(hi2:P.info? e=some i)(hb:(Instr.sliceBounds true len cap lo hi mx).run P w=.ok (l,hh,m) w):
  (Instr.sliceAt t (.slice A len cap) lo hi mx).run P w=.ok (.slice (if m=l then A else A.map (·.add (l*i.size))) (hh-l) (m-l)) w:=by
 simp [Instr.sliceAt,run_underlying hu,Instr.slice,hb,run_sizeOf hi2]
theorem Wu(cR:c6 r.fl)(hg:g)(hF:∀t,AR w M φ (L t) (a.tmps.getD t undef))(hW:Wd Γ φ M hD w){t:TypeId}{x:Operand}{lo hi mx:Option Operand}(ho:o.op=.slice t x lo hi mx)(hf:yx P h base g L o.op hs=some r):
  Yd P Γ φ M hD w base r ((execOp a.eval o).run P w):=by
 rw[ho]at hf;simp only[yx]at hf;have c8:∀v,(Instr.sliceAt t (a.eval x) (lo.map a.eval) (hi.map a.eval) (mx.map a.eval)).run P w=.ok v w→(execOp a.eval o).run P w=.ok (.value v) w:=fun v hv=>by simp [execOp,ho,hv]
 split at hf
 ·rename_i c o0 lo' o1 Pu o2 mx' o3 h0 h1 h2 h3;cases RV:Pk P h t c lo' Pu mx' hs with
  |none=>rw[RV]at hf;cases hf
  |some r0 =>
   rw[RV]at hf;cases hf;simp only[bm]at cR;obtain⟨⟨⟨⟨p0,p1⟩,p2⟩,p3⟩,p4⟩:=cR;have hx:=b7 hF h0 p0 hg;have e1:=TZ hF hg h1 p1;have e2:=TZ hF hg h2 p2;have e3:=TZ hF hg h3 p3;have conv:∀{x:Option Operand} {q:Option Int},((x=none∧q=none)∨∃y k n,x=some y∧q=some n∧a.eval y=.int k n)→((x.map a.eval=none∧q=none)∨∃k n,x.map a.eval=some (.int k n)∧q=some n):=fun hh=>by
    rcases hh with⟨rfl,rfl⟩|⟨y,k,n,rfl,rfl,e⟩
    ·exact .inl ⟨rfl,rfl⟩
    ·exact .inr ⟨k,n,by simp [e],rfl⟩
   unfold Pk at RV;split at RV
   ·rename_i s ql qh Oo Oq hb3;split at RV
    ·rename_i hu;cases RV;obtain⟨q1,q2,q3,-⟩:=p4;have By:IR w M (.str s) (a.eval x):=hx;generalize hv:a.eval x=xv at By c8;cases By;have c1:=conv (y3 e1 Oo);have c2:=conv (y3 e2 Oq);have c3:=conv (y3 e3 hb3);have hmx:mx.map a.eval=none:=by rcases c3 with⟨h,_⟩|⟨k,n,_,h⟩;exact h;cases h
     simp only[hmx]at c8;refine Yd.val (c8 _ (Wm hu (xB (qm:=none) c1 c2 (.inl ⟨rfl,rfl⟩) (fun h=>by cases h) q1 q2 q3 (Int.le_refl _) (Int.le_refl _)))) rfl (IR.str _) hW
    ·cases RV
   ·rename_i ql qh Oo Oq hb3;split at RV
    ·rename_i e he;cases hts:Ar P e with
     |none=>rw[hts]at RV;cases RV
     |some sz =>
      rw[hts]at RV;cases RV;obtain⟨q1,q2,q3,-⟩:=p4;obtain⟨i,hi,_⟩:=nM hts;have hu:=ir he;have By:IR w M .cB (a.eval x):=hx;generalize hv:a.eval x=xv at By c8;cases By;have c1:=conv (y3 e1 Oo);have c2:=conv (y3 e2 Oq);have c3:=conv (y3 e3 hb3);have hmx:mx.map a.eval=none:=by rcases c3 with⟨h,_⟩|⟨k,n,_,h⟩;exact h;cases h
      simp only[hmx]at c8;have WR:(ql.getD 0).toNat=0:=by omega
      have hhi:(qh.getD 0).toNat=0:=by omega
      have Uy:=Ah (A:=none) hu hi (xB (P:=P) (w:=w) (Zq:=true) (len:=0) (cap:=0) (qm:=none) c1 c2 (.inl ⟨rfl,rfl⟩) (fun h=>by cases h) q1 (by simpa using q2) (by simpa using q3) (by simp) (by simp))
      refine Yd.val (c8 _ Uy) rfl ?_ hW;simp only[Option.map_none,ite_self];have z1:(qh.getD ((0:Nat):Int)).toNat-(ql.getD 0).toNat=0:=by simp only[Int.natCast_zero];omega
      have z2:((none:Option Int).getD ((0:Nat):Int)).toNat-(ql.getD 0).toNat=0:=by simp
      rw[z1,z2];exact IR.cB
    ·cases RV
   ·rename_i cl sz rows ql qh qm Oo Oq hb3;split at RV
    ·rename_i e R fc he;cases j9:(Ar P e == some sz||rows.isEmpty&&(Ar P e).isSome)with
     |false=>rw[j9]at RV;cases RV
     |true =>
      rw[j9]at RV;cases RV;simp only[bm,c6]at p4;obtain⟨pm,q1,q2,q3,q4,q5,hR,-⟩:=p4;have hu:=ir he;have c1:=conv (y3 e1 Oo);have c2:=conv (y3 e2 Oq);have c3:=conv (y3 e3 hb3);have hmh:qm.isSome→qh.isSome:=fun hs=>by
       cases qm with
       |none=>cases hs
       |some m=>cases qh with
        |none=>exact pm.1.elim
        |some n=>rfl
      have Qaw:∀m,qm=some m→qh=some m:=fun m hm=>by
       subst hm;cases qh with
       |none=>exact pm.1.elim
       |some n=>have:m=n:=pm.1;rw[this]
      -- Qu value and its cells
      have RW:∃i,P.info? e=some i∧(rows≠[]→i.size=sz):=by
       simp only[Bool.or_eq_true,beq_iff_eq]at j9;rcases j9 with j9|j9
       ·obtain⟨i,hi,hs⟩:=nM j9;exact⟨i,hi,fun _=>hs⟩
       ·simp only[Bool.and_eq_true,List.isEmpty_iff,Option.isSome_iff_exists]at j9;obtain⟨he0,n,hn⟩:=j9;obtain⟨i,hi,_⟩:=nM hn;exact⟨i,hi,fun h=>absurd he0 h⟩
      obtain⟨i,hi,his⟩:=RW;have By:IR w M (.sl cl sz rows) (a.eval x):=hx;have hlen:R.length=(qh.getD rows.length).toNat-(ql.getD 0).toNat:=by
       rw[←hR];simp;omega
      generalize hv:a.eval x=xv at By c8;cases By with
      |OJ _ _ A cap XM =>
       simp only[List.length_nil,Int.natCast_zero]at q1 q2 q3 q4 q5 hlen hR;have Vq:R=[]:=by rw[←hR];simp
       subst Vq;have Tr:∀m,qm=some m→m=0:=fun m hm=>by rw[hm]at q4 q5;simp only[Option.getD_some]at q4 q5;rw[Qaw m hm]at q2 q3;simp only[Option.getD_some]at q2 q3;omega
       have hh0:qh.getD 0=0:=by omega
       refine Yd.val (c8 _ (Ah hu hi (xB c1 c2 c3 hmh q1 (by simpa using q2) (by
        cases qm with
        |none=>simp only[Option.getD_none];simp only[Int.natCast_zero];omega
        |some m=>have:=Tr m rfl;subst this;simp only[Option.getD_some];simp only[Int.natCast_zero];omega) (by
        cases qm with
        |none=>simp
        |some m=>have:=Tr m rfl;subst this;simp) (by simp)))) rfl ?_ hW
       have WR:(ql.getD 0).toNat=0:=by omega
       have hhi:(qh.getD ((0:Nat):Int)).toNat=0:=by simp only[Int.natCast_zero];omega
       rw[WR,hhi];refine IR.OJ _ sz _ _ fun Ee=>?_
       cases qm with
       |some m=>have:=Tr m rfl;subst this;rfl
       |none =>
        simp only[Option.isSome_none,Bool.false_or,Bool.and_eq_true]at Ee;rw[XM Ee.1];rfl
      |sl _ _ _ b k cap vs hm hlc Ee Jy hcc Zl =>
       have hhl:(qh.getD rows.length)≤rows.length:=q3;refine Yd.val (c8 _ (Ah hu hi (xB c1 c2 c3 hmh q1 q2 (by
        cases qm with
        |none=>simp only[Option.getD_none];omega
        |some m=>rw[Qaw m rfl];simp) (by
        cases qm with
        |none=>simp
        |some m=>simp only[Option.getD_some]at q5 ⊢;omega) (by omega)))) rfl ?_ hW
       by_cases Vq:R=[]
       ·subst Vq;simp only[List.length_nil]at hlen;have:(qh.getD rows.length).toNat-(ql.getD 0).toNat=0:=hlen.symm;rw[this];refine IR.OJ _ sz _ _ fun XN=>?_
        cases qm with
        |some m=>rw[Qaw m rfl]at this q2;simp only[Option.getD_some]at this q2 ⊢;omega
        |none =>
         simp only[Option.isSome_none,Bool.false_or,Bool.and_eq_true,Option.isNone_iff_eq_none]at XN;rw[XN.2]at this;have h9:=Ee XN.1;simp only[Option.getD_none]at this ⊢;omega
       ·have Qf2:0<R.length:=List.length_pos_iff.2 Vq;have rR:¬((qm.getD cap).toNat=(ql.getD 0).toNat):=by
         cases qm with
         |none=>simp only[Option.getD_none];omega
         |some m=>rw[Qaw m rfl]at hlen;simp only[Option.getD_some]at hlen ⊢;omega
        have QmI:rows≠[]:=fun e=>by subst e;rw[←hR]at Qf2;simp at Qf2
        rw[if_neg rR,his QmI,Option.map_some,Addr.add_mid,←hlen];have Qcr:∀(i:Nat) (c:List Lf),R[i]?=some c→rows[(ql.getD 0).toNat+i]?=some c:=fun i c hc=>by
         rw[←hR,List.getElem?_take]at hc;split at hc
         ·rw[List.getElem?_drop]at hc;exact hc
         ·cases hc
        refine IR.sl _ sz R b _ _ (fun i j=>vs ((ql.getD 0).toNat+i) j) hm ?_ ?_ (fun i c hc=>Jy _ c (Qcr i c hc)) (fun i c j l hc hj=>?_) (fun i c j l hc hj=>Zl _ c j l (Qcr i c hc) hj)
        ·cases qm with
         |none=>simp only[Option.getD_none];omega
         |some m=>rw[Qaw m rfl]at hlen;simp only[Option.getD_some]at hlen ⊢;omega
        ·intro XN;cases qm with
         |some m=>rw[Qaw m rfl]at hlen;simp only[Option.getD_some]at hlen ⊢;omega
         |none =>
          simp only[Option.isSome_none,Bool.false_or,Bool.and_eq_true,Option.isNone_iff_eq_none]at XN;have h9:=Ee XN.1;rw[XN.2]at hlen;simp only[Option.getD_none]at hlen ⊢;omega
        ·have:=hcc _ c j l (Qcr i c hc) hj;rw[show k+(ql.getD 0).toNat*sz+i*sz+j=k+((ql.getD 0).toNat+i)*sz+j by rw[Nat.add_mul];omega]
         exact this
    ·cases RV
   ·cases RV
 ·cases hf
end
end
section
open Go.RowKit
section
variable {P : Program} {Γ : bu} {φ : Pl} {M : Nat → Prop} {hD h : Nat → Option Ob} {w : World} {base : Nat} {L : Nat → AV} {a : Act} {g : Prop} {hs : List Hint} {r : Lv} {o : Oper}
theorem MH{l:Lf}{v:Value}{sz size:Nat}{rows:List (List Lf)}{ob:List Prop}{tx e':TypeId}(hW:Wd Γ φ M hD w)(eD:∀id ob,h id=some ob→hD id=some ob)(hk:P.underlying tx=some (.slice e'))(hr:rowsOf h l=some (sz,rows,ob))(ho:c6 ob)
  (hs:sz=size∨rows=[]) (hv:LR w M φ l v) (hIR:∀id W6 off len b C,l=.os id W6 off len→φ id=some (some (b,C))→∀c∈rows,∀x∈c,∀u,IR w M x u→IR w M x u):
  ∃news,Src P size tx v rows.length news w∧Rs (IR w M) rows.flatten news∧(∀(i:Nat) (c:List Lf),rows[i]?=some c→c.length=size):=by
 have zP:∀{c:Nat} {A:Option Addr},∃news,Src P size tx (.slice A 0 c) 0 news w∧Rs (IR w M) ([]:List Lf) news:=fun{c A}=>by
  cases A with
  |none=>exact⟨[],Src.ofNil w hk c,trivial⟩
  |some A=>exact⟨[],Src.ofSlice w hk A 0 c [] (by simp) (fun j u h=>by simp at h) (fun u h=>by simp at h),trivial⟩
 cases l with
 |cB =>
  simp only[rowsOf]at hr;cases hr;have L_:IR w M .cB v:=hv;cases L_;obtain⟨news,h1,h2⟩:=zP (c:=0) (A:=none);exact⟨news,h1,h2,fun i c h=>by simp at h⟩
 |sl cl s rs =>
  simp only[rowsOf]at hr;cases hr;have L_:IR w M (.sl cl sz rows) v:=hv;cases L_ with
  |OJ _ _ A cap _=>obtain⟨news,h1,h2⟩:=zP (c:=cap) (A:=A);exact⟨news,h1,h2,fun i c h=>by simp at h⟩
  |sl _ _ _ b k cap vs hm hlc Ee Jy hcc Zl =>
   by_cases rR:rows=[]
   ·subst rR;obtain⟨news,h1,h2⟩:=zP (c:=cap) (A:=some ⟨b,k,none⟩);exact⟨news,h1,h2,fun i c h=>by simp at h⟩
   ·obtain rfl:sz=size:=hs.resolve_right rR;obtain⟨news,h1,h2⟩:=sr (R:=IR w M) (b:=b) (sz:=sz) rows k Jy fun i c j l h1 h2=>⟨_,hcc i c j l h1 h2,Zl i c j l h1 h2⟩
    refine⟨news,Src.ofSlice w hk ⟨b,k,none⟩ rows.length cap news ?_ (fun j u hj=>by rw[Addr.add_mid];exact h2 j u hj) ?_,h1,Jy⟩
    ·rw[←h1.len,qp (mem_row Jy)]
    ·exact Rs.Mi (φ:=φ) (h1.mono fun _ _ h=>IR.lr h)
 |os id s off len =>
  simp only[rowsOf]at hr;split at hr
  ·rename_i o1 Pw;cases hc:(off == 0&&!o1.box&&o1.sz == s)with
   |false=>rw[hc]at hr;cases hr
   |true =>
    rw[hc]at hr;cases hr;simp only[Bool.and_eq_true,beq_iff_eq,Bool.not_eq_true']at hc;obtain⟨⟨rfl,pc⟩,j9⟩:=hc;have hO:=hW.fl id o1 (eD id o1 Pw);have hlen:=ho.1;have L_:uK w M φ (.os id sz 0 len) v:=hv;rcases L_ with⟨b,C,hφ,rfl,hle⟩|⟨hφ,_,rfl,A,rfl⟩
    ·have L5:=fun i c (hc:o1.rows[i]?=some c)=>hO.cell (.inl pc) hφ hc
     have Ux:∀(i:Nat) (c:List Lf),o1.rows[i]?=some c→c.length=sz:=fun i c hc=>by
      obtain⟨_,h1⟩:=hO.oc (.inl pc);rw[hφ]at h1;obtain⟨cur,_,_,_,_,_,g6⟩:=h1;rw[(g6 i c hc).1,j9]
     by_cases rR:o1.rows=[]
     ·have RX:len=0:=by rw[←hlen,rR];rfl
      rw[rR,RX];obtain⟨news,h1,h2⟩:=zP (c:=C-0) (A:=some ⟨b,0*sz,none⟩);exact⟨news,h1,h2,fun i c h=>by simp at h⟩
     ·obtain rfl:sz=size:=hs.resolve_right rR;obtain⟨news,h1,h2⟩:=sr (R:=IR w M) (b:=b) (sz:=sz) o1.rows 0 Ux fun i c j l hc hj=>by
       obtain⟨v,hv,hr⟩:=L5 i c hc j l hj;rw[pc]at hr;exact⟨v,by rw[Nat.zero_add,←j9];exact hv,by simpa using hr⟩
      refine⟨news,?_,h1,Ux⟩;rw[hlen,Nat.zero_mul];refine Src.ofSlice w hk ⟨b,0,none⟩ len (C-0) news ?_ (fun j u hj=>by rw[Addr.add_mid];exact h2 j u hj) ?_
      ·rw[←h1.len,qp (mem_row Ux),hlen]
      ·exact Rs.Mi (φ:=φ) (h1.mono fun _ _ h=>IR.lr h)
    ·have xo:o1.rows=[]:=List.eq_nil_of_length_eq_zero hlen;rw[xo];obtain⟨news,h1,h2⟩:=zP (c:=0) (A:=A);exact⟨news,h1,h2,fun i c h=>by simp at h⟩
  ·cases hr
 |_=>simp only[rowsOf]at hr;cases hr
theorem Qa5{l:Lf}{v:Value}{sz size:Nat}{rows:List (List Lf)}{ob:List Prop}(hW:Wd Γ φ M hD w)(hr:rowsOf hD l=some (sz,rows,ob))(ho:c6 ob)(hs:sz=size∨rows=[])(hv:LR w M φ l v):
  ∃news,Rs (IR w M) rows.flatten news∧(∀(i:Nat) (c:List Lf),rows[i]?=some c→c.length=size)∧∃A cap,v=.slice A rows.length cap∧(rows≠[]→∃ad,A=some ad∧∀j u,news[j]?=some u→w.cell? (ad.add j)=some u):=by
 have zP:∀{c:Nat} {A:Option Addr},∃news,Rs (IR w M) ([]:List (List Lf)).flatten news∧(∀(i:Nat) (c:List Lf),([]:List (List Lf))[i]?=some c→c.length=size)∧∃A' cap,Value.slice A 0 c=.slice A' ([]:List (List Lf)).length cap∧(([]:List (List Lf))≠[]→∃ad,A'=some ad∧∀j u,news[j]?=some u→w.cell? (ad.add j)=some u):=fun{c A} =>
  ⟨[],trivial,fun i c h=>by simp at h,A,c,rfl,fun h=>absurd rfl h⟩
 cases l with
 |cB =>
  simp only[rowsOf]at hr;cases hr;have L_:IR w M .cB v:=hv;cases L_;exact zP
 |sl cl s rs =>
  simp only[rowsOf]at hr;cases hr;have L_:IR w M (.sl cl sz rows) v:=hv;cases L_ with
  |OJ _ _ A cap _=>exact zP
  |sl _ _ _ b k cap vs hm hlc Ee Jy hcc Zl =>
   by_cases rR:rows=[]
   ·subst rR;exact zP
   ·obtain rfl:sz=size:=hs.resolve_right rR;obtain⟨news,h1,h2⟩:=sr (R:=IR w M) (b:=b) (sz:=sz) rows k Jy fun i c j l h1 h2=>⟨_,hcc i c j l h1 h2,Zl i c j l h1 h2⟩
    exact⟨news,h1,Jy,_,cap,rfl,fun _=>⟨⟨b,k,none⟩,rfl,fun j u hj=>by rw[Addr.add_mid];exact h2 j u hj⟩⟩
 |os id s off len =>
  simp only[rowsOf]at hr;split at hr
  ·rename_i o1 Pw;cases hc:(off == 0&&!o1.box&&o1.sz == s)with
   |false=>rw[hc]at hr;cases hr
   |true =>
    rw[hc]at hr;cases hr;simp only[Bool.and_eq_true,beq_iff_eq,Bool.not_eq_true']at hc;obtain⟨⟨rfl,pc⟩,j9⟩:=hc;have hO:=hW.fl id o1 Pw;have hlen:=ho.1;have L_:uK w M φ (.os id sz 0 len) v:=hv;rcases L_ with⟨b,C,hφ,rfl,hle⟩|⟨hφ,_,rfl,A,rfl⟩
    ·have L5:=fun i c (hc:o1.rows[i]?=some c)=>hO.cell (.inl pc) hφ hc
     have Ux:∀(i:Nat) (c:List Lf),o1.rows[i]?=some c→c.length=sz:=fun i c hc=>by
      obtain⟨_,h1⟩:=hO.oc (.inl pc);rw[hφ]at h1;obtain⟨cur,_,_,_,_,_,g6⟩:=h1;rw[(g6 i c hc).1,j9]
     by_cases rR:o1.rows=[]
     ·have RX:len=0:=by rw[←hlen,rR];rfl
      rw[rR,RX];exact zP
     ·obtain rfl:sz=size:=hs.resolve_right rR;obtain⟨news,h1,h2⟩:=sr (R:=IR w M) (b:=b) (sz:=sz) o1.rows 0 Ux fun i c j l hc hj=>by
       obtain⟨v,hv,hr⟩:=L5 i c hc j l hj;rw[pc]at hr;exact⟨v,by rw[Nat.zero_add,←j9];exact hv,by simpa using hr⟩
      refine⟨news,h1,Ux,_,C-0,by rw[hlen],fun _=>⟨⟨b,0*sz,none⟩,rfl,fun j u hj=>?_⟩⟩
      rw[Nat.zero_mul,Addr.add_mid];exact h2 j u hj
    ·have xo:o1.rows=[]:=List.eq_nil_of_length_eq_zero hlen;rw[xo];exact zP
  ·cases hr
 |_=>simp only[rowsOf]at hr;cases hr
theorem slice_form{l:Lf}{v:Value}{sz:Nat}{rows:List (List Lf)}{ob:List Prop}(hr:rowsOf h l=some (sz,rows,ob))(hv:LR w M φ l v):∃A n c,v=.slice A n c:=by
 cases l with
 |cB=>cases(hv:IR w M .cB v);exact⟨_,_,_,rfl⟩
 |sl cl s rs=>cases(hv:IR w M (.sl cl s rs) v) <;> exact⟨_,_,_,rfl⟩
 |os id s off len =>
  rcases(hv:uK w M φ (.os id s off len) v)with⟨b,C,h1,h2,h3⟩|⟨h1,h2,h3,x,h4⟩
  ·exact⟨_,_,_,h2⟩
  ·exact⟨_,_,_,h4⟩
 |_=>simp only[rowsOf]at hr;cases hr
theorem YC{l:Lf}{v:Value}{sz:Nat}{rows:List (List Lf)}{ob:List Prop}(hr:rowsOf h l=some (sz,rows,ob))(ho:c6 ob)(rR:rows≠[])(hv:LR w M φ l v):∃A n c,v=.slice (some A) n c:=by
 cases l with
 |cB=>simp only[rowsOf]at hr;cases hr;exact absurd rfl rR
 |sl cl s rs =>
  simp only[rowsOf]at hr;cases hr;cases(hv:IR w M (.sl cl sz rows) v)with
  |OJ=>exact absurd rfl rR
  |sl=>exact⟨_,_,_,rfl⟩
 |os id s off len =>
  simp only[rowsOf]at hr;split at hr
  ·rename_i o1 Pw;cases hc:(off == 0&&!o1.box&&o1.sz == s)with
   |false=>rw[hc]at hr;cases hr
   |true =>
    rw[hc]at hr;cases hr;rcases(hv:uK w M φ (.os id sz off len) v)with⟨b,C,h1,h2,h3⟩|⟨h1,h2,h3,x,h4⟩
    ·exact⟨_,_,_,h2⟩
    ·have:=ho.1;rw[h3]at this;exact absurd (List.eq_nil_of_length_eq_zero this) rR
  ·cases hr
 |_=>simp only[rowsOf]at hr;cases hr
theorem Qa_(cR:c6 r.fl)(hg:g)(hF:∀t,AR w M φ (L t) (a.tmps.getD t undef))(hW:Wd Γ φ M hD w){op:BinOp}{t u:TypeId}{x y:Operand}(ho:o.op=.binOp op t x y u)(hf:XB P h L g op t x y hs=some r):
  Yd P Γ φ M hD w base r ((execOp a.eval o).run P w):=by
 unfold XB at hf;split at hf
 ·rename_i l o1 o2 e h1 h2 ht;have c8:∀A n c,a.eval x=.slice A n c→a.eval y=.slice none 0 0→(execOp a.eval o).run P w=.ok (.value (.bool A.isNone)) w:=fun A n c hx hy=>by
   have hq:(Op.equal t (.slice A n c) (.slice none 0 0)).run P w=.ok A.isNone w:=by
    obtain⟨d,hd⟩:∃d,Op.maxDepth=d+1:=⟨Op.maxDepth-1,rfl⟩;unfold Op.equal;rw[hd];cases A <;> simp [Op.equalIn,run_underlying ht]
   simp [execOp,ho,hx,hy,eqGuard,binOp,hq]
  split at hf
  ·rename_i p fc hr;cases hf;rw[bm]at cR;have hx:LR w M φ l (a.eval x):=b7 hF h1 cR.1 hg;have hy:IR w M .cB (a.eval y):=b7 hF h2 cR.2 hg;obtain⟨sz,rows,ob⟩:=p;obtain⟨A,n,c,hv⟩:=slice_form hr hx;have hyv:a.eval y=.slice none 0 0:=by generalize a.eval y=q at hy;cases hy;rfl
   exact Yd.val (c8 A n c hv hyv) rfl ⟨_,rfl⟩ hW
  ·rename_i sz rows o3 fc hr;cases hf;simp only[bm]at cR;obtain⟨⟨⟨p1,p2⟩,p3⟩,rR,-⟩:=cR;have hx:LR w M φ l (a.eval x):=b7 hF h1 p1 hg;have hy:IR w M .cB (a.eval y):=b7 hF h2 p2 hg;obtain⟨A,n,c,hv⟩:=YC hr p3 rR hx;have hyv:a.eval y=.slice none 0 0:=by generalize a.eval y=q at hy;cases hy;rfl
   exact Yd.val (c8 (some A) n c hv hyv) rfl (IR.bool _) hW
  ·cases hf
 ·cases hf
theorem Kd:∀(ns:List Int) (s:ByteArray),ns.foldl (fun r n=>r.push (UInt8.ofNat n.toNat)) s=⟨s.data++(ns.map fun n=>UInt8.ofNat n.toNat).toArray⟩
 | [],s=>by simp
 |n ::ns,s=>by
  rw[List.foldl_cons,Kd ns];simp [ByteArray.push]
theorem R1:∀{J:List Int} {news:List Value},Rs (IR w M) (J.map fun n=>[Lf.int .u8 n]).flatten news→news=J.map (Value.int .u8)
 | [],[],_=>rfl
 | [],_ ::_,h=>h.elim
 |n ::J,[],h=>h.elim
 |n ::J,v ::vs,h=>by
  cases h.1;rw[R1 h.2];rfl
theorem Rq{s d:TypeId}{x:Operand}(cR:c6 r.fl)(hg:g)(hF:∀t,AR w M φ (L t) (a.tmps.getD t undef))(hW:Wd Γ φ M hD w)(eD:∀id ob,h id=some ob→hD id=some ob)(ho:o.op=.convert s d x)(hf:yx P h base g L o.op hs=some r):Yd P Γ φ M hD w base r ((execOp a.eval o).run P w):=by
 rw[ho]at hf;simp only[yx]at hf;split at hf
 ·rename_i d1 k k' n o1 h1 h2 h3;cases hf;have hx:IR w M (.int k' n) (a.eval x):=b7 hF h3 cR hg;generalize hv:a.eval x=xv at hx;cases hx;refine Yd.val (v:=.int k (Ax k n)) ?_ rfl (IR.int _ _) hW;simp [execOp,ho,hv,convert,run_underlying h1,run_underlying h2,Conv.intToInt,Ax]
 ·rename_i d1 k' n o1 h1 h2 h3;cases hf;have hx:IR w M (.int k' n) (a.eval x):=b7 hF h3 cR hg;generalize hv:a.eval x=xv at hx;cases hx;refine Yd.val (v:=.string (Ej n)) ?_ rfl (IR.str _) hW;simp [execOp,ho,hv,convert,run_underlying h1,run_underlying h2,Conv.intToString,Ej]
 ·rename_i d1 s1 o1 h1 h2 h3;cases hf;have hx:IR w M (.str s1) (a.eval x):=b7 hF h3 cR hg;generalize hv:a.eval x=xv at hx;cases hx;refine Yd.val (v:=.string s1) ?_ rfl (IR.str _) hW;simp [execOp,ho,hv,convert,run_underlying h1,run_underlying h2]
 ·rename_i e l o1 J fc n1 n2 h1 h2 h3;split at hf
  ·rename_i sz rows o2 h4 h5;cases hc:(sz == 1||rows.isEmpty)with
   |false=>rw[hc]at hf;cases hf
   |true =>
    rw[hc]at hf;cases hf;simp only[bm]at cR;obtain⟨⟨Pw,ho2⟩,iL,-⟩:=cR;have hx:LR w M φ l (a.eval x):=b7 hF h3 Pw hg;have Ty:sz=1∨rows=[]:=by
     rw[Bool.or_eq_true]at hc;exact hc.imp (fun h=>by simpa using h) (fun h=>by simpa using h)
    obtain⟨news,EC,hnr,-⟩:=MH (size:=1) hW eD h1 h5 ho2 Ty hx (fun _ _ _ _ _ _ _ _ _ _ _ _ _ h=>h)
    obtain⟨A,n,c,hv⟩:=slice_form h5 hx;rw[hv]at EC;rw[iL]at hnr;have QjP:=R1 hnr;subst QjP;refine Yd.val (v:=.string (xf J)) ?_ rfl (IR.str _) hW;have hfc:=EC.cells;have hlen:n=rows.length:=by
     have:=EC.len w;simpa [Builtin.lenOf]using this
    have key:(Conv.bytesToString (.slice A n c)).run P w=.ok (.string (xf J)) w:=by
     cases A with
     |none =>
      have:J=[]:=by
       have h6:(Builtin.firstCells 1 rows.length (.slice none n c)).run P w=.ok #[] w:=rfl;rw[h6]at hfc;have h7:=(Result.ok.inj hfc).1;cases J with
       |nil=>rfl
       |cons a b=>simp at h7
      subst this;rfl
     |some A =>
      have h6:(loadCells A n).run P w=.ok (J.map (Value.int .u8)).toArray w:=by
       rw[hlen];have h7:Builtin.firstCells 1 rows.length (.slice (some A) n c)=loadCells A (rows.length*1):=rfl;rw[h7,Nat.mul_one]at hfc;exact hfc
      rw[run_bytesToString w A n c J h6,Kd];simp [xf,ByteArray.empty,ByteArray.emptyWithCapacity];rfl
    simp only[execOp,ho,hv,Sem.run_bind,run_convert_bytes_string w s d e A n c h1 h4 h2,key];simp [Sem.run_pure]
  ·cases hf
 ·cases hf
theorem Ei{t tx ty e:TypeId}{i:TypeInfo}{A:Option Addr}{n c:Nat}{x:Value}{news:List Value}(ht:P.underlying t=some (.slice e))(hi:P.info? e=some i)(hs:Src P i.size tx x 0 news w)(hle:n≤c):
  (Builtin.append_ #[t,tx] ty #[.slice A n c,x]).run P w=.ok (.slice A n c) w:=by
 have hn:news=[]:=List.eq_nil_of_length_eq_zero (by simpa using hs.newsLen)
 subst hn;have h1:=hs.cells;rcases hs.kind with⟨e',hk⟩|hk <;> cases A <;> simp [Builtin.append_,run_underlying ht,run_underlying hk,sizeOf,typeInfo,hi,hs.len,hle,h1,storeCells]
theorem Xc{w':World}{id b C:Nat}{φ':Pl}{e:TypeId}{sz:Nat}{rows:List (List Lf)}{vs rest:List Value}(hφ:φ' id=some (some (b,C)))(hb:w'.heap[b]?=some (.cells (vs++rest).toArray e))(h0:0<sz)(hs:(vs++rest).length=C*sz)(hl:rows.length≤C)(hC:C≤maxLen)
  (Jy:∀(i:Nat) (c:List Lf),rows[i]?=some c→c.length=sz) (hr:Rs (IR w' M) rows.flatten vs):OR w' M φ' id ⟨false,sz,e,rows⟩:=
 SV hφ hb h0 (by simpa using hs) hl hC fun i c hc=>⟨Jy i c hc,fun j l hj=>by
  obtain⟨v,hv,hlr⟩:=hr.get (A4 (mem_row Jy) hc hj);refine⟨v,?_,hlr⟩;rw[List.getElem?_toArray,List.getElem?_append_left (List.getElem?_eq_some_iff.1 hv).1];exact hv⟩
theorem B2(z:Array Value)(n:Nat):(Builtin.zeroCells z n).toList.length=n*z.size:=by
 rw[Array.length_toList,size_zeroCells]
theorem L1{t tx ty e:TypeId}{i:TypeInfo}{z x:Value}{A:Option Addr}{n c k:Nat}{o5 news:List Value}{rows:List (List Lf)}{id:Nat}(hW:Wd Γ φ M hD w)(ht:P.underlying t=some (.slice e))(hi:P.info? e=some i)(hz:i.zero=some z)(PA:z.cells.size=i.size)(h0:0<i.size)
  (hold:(Builtin.firstCells i.size n (.slice A n c)).run P w.drew=.ok o5.toArray w.drew) (hs:Src P i.size tx x k news w) (jU:c<n+k) (Vp:n+k≤9223372036854775807) (XK:(n+k)*i.bytes≤140737488355328)
  (Qcx:o5.length=n*i.size) (Ux:rows.length=n+k) (Jy:∀(j:Nat) (c:List Lf),rows[j]?=some c→c.length=i.size) (hR:Rs (IR w M) rows.flatten (o5++news)) (hφ:φ id=none):
  ∃C w',(Builtin.append_ #[t,tx] ty #[.slice A n c,x]).run P w=.ok (.slice (some ⟨w.heap.size,0,none⟩) (n+k) C) w'∧Below w.heap.size w w'∧w.heap.size<w'.heap.size∧n+k≤C∧OR w' M (GI φ id (some (w.heap.size,C))) id ⟨false,i.size,e,rows⟩:=by
 have c8:=run_append_grow_src (P:=P) w t tx ty e i z ht hi hz A n c o5 hold x k news hs jU (by omega) (growslice_fits jU XK)
 have QW:=grownCap_ge w (n+k) c e;have hle:=grownCap_le_maxLen w (n+k) c e (by simp only[maxLen];omega)
 have hb:Below w.heap.size w (w.drew.alloc (.cells ((o5++news).toArray++Builtin.zeroCells z.cells (grownCap w (n+k) c e-(n+k))) e)):=((Below.refl _ _).drew).alloc (Nat.le_refl _) _;have he:Ex w M φ (w.drew.alloc (.cells ((o5++news).toArray++Builtin.zeroCells z.cells (grownCap w (n+k) c e-(n+k))) e)) M φ:=hW.Oi hb;refine⟨grownCap w (n+k) c e,_,c8,hb,by simp,QW,?_⟩
 have heq:((o5++news).toArray++Builtin.zeroCells z.cells (grownCap w (n+k) c e-(n+k)))=((o5++news)++(Builtin.zeroCells z.cells (grownCap w (n+k) c e-(n+k))).toList).toArray:=by apply Array.ext';simp
 refine Xc (vs:=o5++news) (rest:=(Builtin.zeroCells z.cells (grownCap w (n+k) c e-(n+k))).toList) (dP _ _ _) ?_ h0 ?_ (by omega) hle Jy (hR.mono fun _ _ h=>h.mono he.WL he.sub)
 ·rw[←heq];exact heap_alloc_new w.drew _
 ·rw[List.length_append,List.length_append,Qcx,hs.newsLen,B2,PA,←Nat.add_mul,←Nat.add_mul];congr 1;omega
theorem MN(hg:g)(hW:Wd Γ φ M hD w)(eD:∀id ob,h id=some ob→hD id=some ob){d x:Lf}{vd vx:Value}{t ty:TypeId}{r:Lv}{tys:List TypeId}{run:Result Next}(hf:Xz P h base d x t (tys.headD 0) hs=some r)(cR:c6 r.fl)
  (hd:LR w M φ d vd) (hx:LR w M φ x vx) (c8:∀v w',(Builtin.append_ #[t,tys.headD 0] ty #[vd,vx]).run P w=.ok v w'→run=.ok (.value v) w') (tg:∀id,base≤id→id<base+r.news.length→φ id=none∧hD id=none):
  Yd P Γ φ M hD w base r run:=by
 simp only[Xz]at hf;split at hf
 ·rename_i e he;have ht:=ir he;split at hf
  ·rename_i i sz new o1 z hi hro hz;cases hc:(t == tys.headD 0&&(sz == i.size||new.isEmpty))with
   |false=>rw[hc]at hf;cases hf
   |true =>
    rw[hc]at hf;simp only[cond_true]at hf;simp only[Bool.and_eq_true,Bool.or_eq_true,beq_iff_eq,List.isEmpty_iff]at hc;obtain⟨htt,j9⟩:=hc;rw[←htt]at c8;obtain⟨i2,zv,hi2,VA,PA,h0,Jz,hl⟩:=sD (w:=w) (M:=M) (φ:=φ) hz;obtain rfl:i=i2:=by rw[hi]at hi2;exact Option.some.inj hi2
    have core:∀{A:Option Addr} {n c:Nat} {o5:List Value} {rows R:List (List Lf)},vd=.slice A n c→(c=n)→(rows=[]→n=0)→c6 o1→rows++new=R→(new≠[]∨rows=[])→R.length*i.bytes≤140737488355328→R.length≤9223372036854775807→
      rows.length=n→(Builtin.firstCells i.size n (.slice A n c)).run P w.drew=.ok o5.toArray w.drew→o5.length=n*i.size→(∀(j:Nat) (c:List Lf),rows[j]?=some c→c.length=i.size)→Rs (IR w M) rows.flatten o5→
      r.v=one (.os base i.size 0 R.length)→r.news=[⟨false,i.size,e,R⟩]→Yd P Γ φ M hD w base r run:=by
     intro A n c o5 rows R hvd hcn WT Vx hR rR XK Vp Ux hold Qcx Jy hRs hrv QeQ;subst hvd hcn;obtain⟨news,EC,hnr,hnl⟩:=MH (size:=i.size) hW eD ht hro Vx j9 hx (fun _ _ _ _ _ _ _ _ _ _ _ _ _ h=>h)
     have NI:R.length=c+new.length:=by rw[←hR,List.length_append,Ux]
     by_cases zO:new.length=0
     ·have Ki:new=[]:=List.eq_nil_of_length_eq_zero zO;have xo:rows=[]:=rR.resolve_left (fun h=>h Ki)
      have hc0:=WT xo;subst hc0;rw[zO]at EC;have Vq:R=[]:=by rw[←hR,xo,Ki];rfl
      have hf0:=tg base (Nat.le_refl _) (by rw[QeQ];simp)
      refine Yd.IM (c8 _ _ (Ei ht hi EC (Nat.le_refl _))) QeQ hW tg (Below.refl _ _) Vq rfl h0 ?_
      rw[hrv,Vq];exact .inr ⟨dP _ _ _,rfl,rfl,A,rfl⟩
     ·have hf0:=tg base (Nat.le_refl _) (by rw[QeQ];simp)
      obtain⟨C,w',FF,hb,jU,hle,hO⟩:=L1 (id:=base) (rows:=R) (ty:=ty) hW ht hi VA PA h0 hold EC (by omega) (by omega) (by rw[←NI];exact XK) Qcx NI (fun j c hj=>by
       rw[←hR]at hj;rcases Nat.lt_or_ge j rows.length with h|h
       ·rw[List.getElem?_append_left h]at hj;exact Jy j c hj
       ·rw[List.getElem?_append_right h]at hj;exact hnl _ c hj) (by rw[←hR,List.flatten_append];exact hRs.append hnr) hf0.1
      refine Yd.new (c8 _ _ FF) QeQ hW tg hb (Nat.le_refl _) jU hO ?_
      rw[hrv];exact .inl ⟨w.heap.size,C,dP _ _ _,by rw[NI];simp,by omega⟩
    split at hf
    ·rename_i R fc;cases hf;simp only[bm,c6]at cR;obtain⟨p1,hR,XK,Vp,-⟩:=cR;have hd':IR w M .cB vd:=hd;cases hd';exact core (rows:=[]) (o5:=[]) rfl rfl (fun _=>rfl) p1 hR (.inr rfl) XK Vp rfl (run_firstCells_none w.drew _ _ _ _) (by simp) (fun j c h=>by simp at h) trivial rfl rfl
    ·rename_i W6 rows R fc;cases Ay:(W6 == i.size||rows.isEmpty)with
     |false=>rw[Ay]at hf;cases hf
     |true =>
      rw[Ay]at hf;cases hf;simp only[Bool.or_eq_true,beq_iff_eq,List.isEmpty_iff]at Ay;simp only[bm,c6]at cR;obtain⟨⟨p1,pR⟩,XK,Vp,-⟩:=cR;have hd':IR w M (.sl true W6 rows) vd:=hd;have hRR:rows++new=R∧(new≠[]∨rows=[]):=⟨pR.1,(Classical.em (new=[])).symm.imp id pR.2.1⟩;cases hd' with
      |OJ _ _ A cap Ee =>
       obtain rfl:=Ee rfl;refine core (rows:=[]) (o5:=[]) rfl rfl (fun _=>rfl) p1 hRR.1 (.inr rfl) XK Vp rfl ?_ (by simp) (fun j c h=>by simp at h) trivial rfl rfl
       cases A <;> simp [Builtin.firstCells,loadCells,loadCellsFrom]
      |sl _ _ _ b k cap vs hm hlc Ee Jy hcc Zl =>
       have Tr:=Ee rfl;obtain⟨o5,g1,g2⟩:=sr (R:=IR w M) (b:=b) (sz:=W6) rows k Jy fun i c j l h1 h2=>⟨_,hcc i c j l h1 h2,Zl i c j l h1 h2⟩
       have Tx:o5.length=rows.length*i.size:=by
        rw[←g1.len,qp (mem_row Jy)];rcases Ay with h|h
        ·rw[h]
        ·rw[h];simp
       refine core (rows:=rows) (o5:=o5) rfl Tr (fun h=>by rw[h];rfl) p1 hRR.1 hRR.2 XK Vp rfl ?_ Tx (fun j c hj=>?_) g1 rfl rfl
       ·exact run_firstCells_some w.drew i.size rows.length ⟨b,k,none⟩ _ cap o5 Tx (fun j v hj=>by rw[Addr.add_mid];exact g2 j v hj)
       ·rw[Jy j c hj];rcases Ay with h|h
        ·exact h
        ·rw[h]at hj;simp at hj
    ·cases hf
  ·cases hf
 ·cases hf
theorem MI(w:World){t tx ty e:TypeId}{kx:IntKind}{i:TypeInfo}{z:Value}{n:Int}(ht:P.underlying t=some (.slice e))(hx:P.underlying tx=some (.int kx))(hi:P.info? e=some i)(hz:i.zero=some z)(PA:z.cells.size=i.size)(h0:0<i.size)(hn:0≤n)(Vp:n≤9223372036854775807)(XK:(i.bytes:Int)*n≤140737488355328):
  (Builtin.append_ #[t,tx] ty #[.slice none 0 0,.int .i64 n]).run P w=if n.toNat=0 then .ok (.slice none 0 0) w else
   .ok (.slice (some ⟨w.heap.size,0,none⟩) n.toNat (grownCap w n.toNat 0 e)) (w.drew.alloc (.cells (Builtin.zeroCells z.cells n.toNat++Builtin.zeroCells z.cells (grownCap w n.toNat 0 e-n.toNat)) e)):=by
 have hw:IntKind.i64.wrap n=n:=IntWalk.i64_in n (by omega)
 have c1:¬(n<0):=by omega
 have Oo:¬(281474976710656<n*(i.bytes:Int)):=by rw[Int.mul_comm];omega
 by_cases WW:n.toNat=0
 ·have e0:n=0:=by omega
  subst e0;rw[if_pos (by decide)]
  have h1:IntKind.i64.wrap 0=0:=hw;simp [Builtin.append_,run_underlying ht,run_underlying hx,sizeOf,typeInfo,hi,asInt,asIntOf,h1]
 ·rw[if_neg WW];have jU:0<n.toNat:=Nat.pos_of_ne_zero WW;have j9:¬(i.size=0):=by omega
  have Qls:¬(9223372036854775807<n):=by omega
  have hbn:n.toNat*i.bytes≤140737488355328:=by
   have:((n.toNat*i.bytes:Nat):Int)≤140737488355328:=by
    rw[Int.natCast_mul,Int.toNat_of_nonneg hn,Int.mul_comm];exact XK
   omega
  have L9:Builtin.nextslicecap n.toNat 0*i.bytes≤281474976710656:=growslice_fits jU hbn;have Qlr:¬(281474976710656<Builtin.nextslicecap n.toNat 0*i.bytes):=by omega
  have hm:max n 0=n:=by omega
  have hle:¬n≤0:=by omega
  have hmul:¬(n.toNat*i.size=0):=Nat.ne_of_gt (Nat.mul_pos jU h0);simp [hle,hmul,Builtin.append_,run_underlying ht,run_underlying hx,sizeOf,typeInfo,zeroValue,hi,hz,asInt,asIntOf,hw,c1,Oo,WW,j9,Qls,Qlr,hm,jU,Question.forced,newRow,grownCap,Builtin.firstCells]
theorem Jc(hg:g)(hW:Wd Γ φ M hD w){vd vx:Value}{k:IntKind}{n:Int}{t tx ty:TypeId}{r:Lv}{run:Result Next}(hf:xm P h base .append [.one .cB,.one (.int k n)] [t,tx] hs=some r)(cR:c6 r.fl)
  (hd:LR w M φ .cB vd) (hx:LR w M φ (.int k n) vx) (c8:∀v w',(Builtin.append_ #[t,tx] ty #[vd,vx]).run P w=.ok v w'→run=.ok (.value v) w') (tg:∀id,base≤id→id<base+r.news.length→φ id=none∧hD id=none):
  Yd P Γ φ M hD w base r run:=by
 simp only[xm]at hf;split at hf
 ·rename_i e kx z' R fc he hux;split at hf
  ·rename_i ie z QB hz;cases TA:(YQ z z'&&decide (k=.i64))with
   |false=>rw[TA]at hf;cases hf
   |true =>
    rw[TA]at hf;cases hf;simp only[Bool.and_eq_true,decide_eq_true_iff]at TA;obtain⟨TA,rfl⟩:=TA;simp only[c6]at cR;obtain⟨zO,Vp,XK,hR,-⟩:=cR;obtain⟨i,zv,hi,VA,PA,h0,Jz,hl⟩:=sD (w:=w) (M:=M) (φ:=φ) hz;obtain rfl:ie=i:=by rw[QB]at hi;exact Option.some.inj hi
    have hu:=ir he;have hd':IR w M .cB vd:=hd;have By:IR w M (.int .i64 n) vx:=hx;cases hd';cases By;have NK:=MI (P:=P) w (ty:=ty) hu hux QB VA PA h0 zO Vp XK;have NI:R.length=n.toNat:=by rw[←hR];simp
    have hf0:=tg base (Nat.le_refl _) (by simp)
    by_cases WW:n.toNat=0
    ·rw[if_pos WW]at NK;have Vq:R=[]:=List.eq_nil_of_length_eq_zero (by omega)
     refine Yd.IM (c8 _ _ NK) rfl hW tg (Below.refl _ _) Vq rfl h0 ?_
     subst Vq;exact .inr ⟨dP _ _ _,rfl,rfl,none,rfl⟩
    ·rw[if_neg WW]at NK;have hrz:=Ur TA Jz;have hzl:z'.length=ie.size:=by rw[hrz.len];simpa using PA
     have QW:=grownCap_ge w n.toNat 0 e;have hle:=grownCap_le_maxLen w n.toNat 0 e (by simp only[maxLen];omega)
     generalize hC:grownCap w n.toNat 0 e=C at *;have hb:Below w.heap.size w (w.drew.alloc (.cells (Builtin.zeroCells zv.cells n.toNat++Builtin.zeroCells zv.cells (C-n.toNat)) e)):=((Below.refl _ _).drew).alloc (Nat.le_refl _) _;have L7:Ex w M φ (w.drew.alloc (.cells (Builtin.zeroCells zv.cells n.toNat++Builtin.zeroCells zv.cells (C-n.toNat)) e)) M (GI φ base (some (w.heap.size,C))):=⟨fun b hm=>hb.block b (hW.mlt b hm),fun _ h=>h,sA _ hf0.1⟩
     have hzc:(Builtin.zeroCells zv.cells n.toNat).toList=(List.replicate n.toNat zv.cells.toList).flatten:=DZ _ _;refine Yd.new (b:=w.heap.size) (C:=C) (c8 _ _ NK) rfl hW tg hb (Nat.le_refl _) (by simp) ?_ ?_
     ·refine SV (dP _ _ _) (heap_alloc_new w.drew _) h0 ?_ (by omega) hle fun i c hc=>?_
      ·rw[Array.size_append,←Array.length_toList,←Array.length_toList,B2,B2,PA,←Nat.add_mul];congr 1;omega
      ·rw[←hR]at hc;have jU:=(List.getElem?_eq_some_iff.1 hc).1;simp only[List.length_replicate]at jU;have hcz:c=z':=by
        rw[List.getElem?_replicate,if_pos jU]at hc;exact(Option.some.inj hc).symm
       subst hcz;refine⟨hzl,fun j l hj=>?_⟩
       obtain⟨v,hv,hlr⟩:=hrz.get hj;refine⟨v,?_,hlr.mono L7.WL L7.sub⟩;have G1:=A4 (sz:=ie.size) (rows:=List.replicate n.toNat zv.cells.toList) (i:=i) (j:=j) (fun c hc=>by rw[List.eq_of_mem_replicate hc];simpa using PA) (by rw[List.getElem?_replicate,if_pos (by omega)]) hv
       rw[←hzc]at G1;rw[←Array.getElem?_toList,Array.toList_append,List.getElem?_append_left (List.getElem?_eq_some_iff.1 G1).1];exact G1
     ·exact .inl ⟨w.heap.size,C,dP _ _ _,by rw[NI];simp,by omega⟩
  ·cases hf
 ·cases hf
end
end
section
open Go.RowKit Go.MapKept
section
variable {P : Program} {Γ : bu} {φ : Pl} {M : Nat → Prop} {hD h : Nat → Option Ob} {w : World} {base : Nat} {L : Nat → AV} {a : Act} {g : Prop} {hs : List Hint} {r : Lv} {o : Oper}
theorem QaG{kt:TypeId}{k:Lf}{kv:Value}(h:FK P kt k=true)(hk:LR w M φ k kv):∃d,P.underlying kt=some d∧IsKey d kv:=by
 cases k with
 |int q n =>
  simp only[FK]at h;split at h
  ·rename_i q' hu;cases(hk:IR w M (.int q n) kv);exact⟨_,hu,by simpa [IsKey]using h⟩
  ·cases h
 |str s =>
  simp only[FK]at h;split at h
  ·rename_i hu;cases(hk:IR w M (.str s) kv);exact⟨_,hu,trivial⟩
  ·cases h
 |_=>simp only[FK]at h;cases h
theorem XY{kt:TypeId}{k:Lf}{kv:Value}(h:FK P kt k=true)(hk:LR w M φ k kv):IR w M k kv:=by
 cases k with
 |int q n=>exact hk
 |str s=>exact hk
 |_=>simp only[FK]at h;cases h
theorem Mb{k k':Lf}{kv kv':Value}{b:Bool}{d:TypeDesc}(h:kEq k k'=some b)(hk:IR w M k kv)(rS:IR w M k' kv')(hd:IsKey d kv):Instr.sameNow d kv kv'=some b∧(b=true→kv'=kv):=by
 unfold kEq at h;split at h
 ·rename_i q x q' y;cases hk;cases rS;by_cases hq:q=q'
  ·subst hq;rw[if_pos rfl]at h;cases h;cases d <;> simp [IsKey]at hd
   subst hd;refine⟨by simp [Instr.sameNow],fun e=>?_⟩
   have:x=y:=by simpa using e
   rw[this]
  ·rw[if_neg hq]at h;cases h
 ·rename_i x y;cases hk;cases rS;cases h;cases d <;> simp [IsKey]at hd
  refine⟨by simp [Instr.sameNow],fun e=>?_⟩
  have:x=y:=(bytes_beq x y).1 e;rw[this]
 ·cases h
theorem Cq{k:Lf}{Kn:List Lf}{b:Bool}{kv:Value}(h:sK [k] Kn=some b)(hk:KyR w M Kn kv):∃k' c,Kn=[k']∧kEq k k'=some c∧b=c∧IR w M k' kv:=by
 cases Kn with
 |nil=>simp [sK]at h
 |cons k' r =>
  cases r with
  |nil =>
   simp only[sK]at h;split at h
   ·rename_i a c h1 h2;cases h2;cases h;rcases hk with⟨q,hq,hr⟩|⟨h2,_⟩
    ·cases hq;exact⟨k',a,rfl,h1,by simp,hr⟩
    ·simp at h2
   ·cases h
  |cons x r =>
   simp only[sK]at h;split at h
   ·rename_i a c h1 h2;cases h2
   ·cases h
theorem Nn:∀{us:List TypeDesc} {ks:List Lf} {vs:List Value},cj us ks=true→Rs (LR w M φ) ks vs→Rs (IR w M) ks vs
 |_,[],[],_,_=>trivial
 |u ::us,k ::ks,v ::vs,hf,h=>by
  have key:IR w M k v∧cj us ks=true:=by
   cases u with
   |int q =>
    cases k with
    |int q1 x =>
     simp only[cj,Bool.and_eq_true]at hf;exact⟨h.1,hf.2⟩
    |_=>simp [cj]at hf
   |string =>
    cases k with
    |str x =>
     simp only[cj]at hf;exact⟨h.1,hf⟩
    |_=>simp [cj]at hf
   |_=>simp [cj]at hf
  exact⟨key.1,Nn key.2 h.2⟩
 | [],_ ::_,_,hf,_=>by simp [cj]at hf
 |_,[],_ ::_,_,h=>h.elim
 |_,_ ::_,[],_,h=>h.elim
theorem VR{k z v:Lf}{kv:Value}{d:TypeDesc}(hk:IR w M k kv)(hd:IsKey d kv):∀{rs:List (List Lf)} {es:List MapEntry} {i:Nat},Rs (zt w M) rs es→CI rs [k] z=some v→
  ∃r,Instr.findNow d kv es i=some r∧((r=none∧v=z)∨∃j u,r=some (j,u)∧IR w M v u)
 | [],[],i,_,h=>by
  simp only[CI]at h;cases h;exact⟨none,rfl,.inl ⟨rfl,rfl⟩⟩
 |_ ::rs,e ::es,i,hr,h=>by
  obtain⟨⟨v',Kn,rfl,h1,h2⟩,h3⟩:=hr;simp only[CI]at h;split at h
  ·rename_i hq;cases h;obtain⟨k',b,rfl,hb,rfl,rS⟩:=Cq hq h2;exact⟨some (i,e.val),by simp [Instr.findNow,(Mb hb hk rS hd).1],.inr ⟨i,e.val,rfl,h1⟩⟩
  ·rename_i hq;obtain⟨k',b,rfl,hb,rfl,rS⟩:=Cq hq h2;have hs:=(Mb hb hk rS hd).1;have e1:Instr.findNow d kv (e ::es) i=Instr.findNow d kv es (i+1):=by simp [Instr.findNow,hs]
   rw[e1];exact VR hk hd h3 h
  ·cases h
 | [],_ ::_,_,hr,_=>hr.elim
 |_ ::_,[],_,hr,_=>hr.elim
theorem VS{k:Lf}{kv:Value}{d:TypeDesc}{b:Bool}(hk:IR w M k kv)(hd:IsKey d kv):∀{rs:List (List Lf)} {es:List MapEntry} {i:Nat},Rs (zt w M) rs es→FV rs [k]=some b→
  ∃r,Instr.findNow d kv es i=some r∧b=r.isSome
 | [],[],i,_,h=>by
  simp only[FV]at h;cases h;exact⟨none,rfl,rfl⟩
 |_ ::rs,e ::es,i,hr,h=>by
  obtain⟨⟨v',Kn,rfl,h1,h2⟩,h3⟩:=hr;simp only[FV]at h;split at h
  ·rename_i hq;cases h;obtain⟨k',b,rfl,hb,rfl,rS⟩:=Cq hq h2;exact⟨some (i,e.val),by simp [Instr.findNow,(Mb hb hk rS hd).1],rfl⟩
  ·rename_i hq;obtain⟨k',b,rfl,hb,rfl,rS⟩:=Cq hq h2;have hs:=(Mb hb hk rS hd).1;have e1:Instr.findNow d kv (e ::es) i=Instr.findNow d kv es (i+1):=by simp [Instr.findNow,hs]
   rw[e1];exact VS hk hd h3 h
  ·cases h
 | [],_ ::_,_,hr,_=>hr.elim
 |_ ::_,[],_,hr,_=>hr.elim
theorem VT{k v:Lf}{kv vv:Value}{d:TypeDesc}(hk:IR w M k kv)(hv:IR w M v vv)(hd:IsKey d kv):∀{rs R:List (List Lf)} {es:List MapEntry} {i:Nat},Rs (zt w M) rs es→zZ rs [k] v=some R→
  (Instr.findNow d kv es i=some none∧∀b,Rs (zt w M) R (es++[⟨kv,vv,b⟩]))∨
  ∃j u e,Instr.findNow d kv es i=some (some (i+j,u))∧es[j]?=some e∧e.key=kv∧Rs (zt w M) R (es.set j {e with key:=kv,val:=vv})
 | [],R,[],i,_,h=>by
  simp only[zZ]at h;cases h;exact .inl ⟨rfl,fun b=>⟨⟨v,[k],rfl,hv,.inl ⟨k,rfl,hk⟩⟩,trivial⟩⟩
 |_ ::rs,R,e ::es,i,hr,h=>by
  obtain⟨⟨v',Kn,rfl,h1,h2⟩,h3⟩:=hr;simp only[zZ]at h;split at h
  ·rename_i hq;cases h;obtain⟨k',b,rfl,hb,rfl,rS⟩:=Cq hq h2;obtain⟨g1,g2⟩:=Mb hb hk rS hd;exact .inr ⟨0,e.val,e,by simp [Instr.findNow,g1],rfl,g2 rfl,⟨v,[k],rfl,hv,.inl ⟨k,rfl,hk⟩⟩,h3⟩
  ·rename_i hq;obtain⟨k',b,rfl,hb,rfl,rS⟩:=Cq hq h2;have hs:=(Mb hb hk rS hd).1;have e1:Instr.findNow d kv (e ::es) i=Instr.findNow d kv es (i+1):=by simp [Instr.findNow,hs]
   rw[e1];cases hp:zZ rs [k] v with
   |none=>rw[hp]at h;cases h
   |some R' =>
    rw[hp]at h;cases h;rcases VT hk hv hd (i:=i+1) h3 hp with⟨q1,q2⟩|⟨j,u,e',q1,q2,q3,q4⟩
    ·exact .inl ⟨q1,fun b=>⟨⟨v',[k'],rfl,h1,.inl ⟨k',rfl,rS⟩⟩,q2 b⟩⟩
    ·exact .inr ⟨j+1,u,e',by rw[q1,show i+1+j=i+(j+1) by omega],by simpa using q2,q3,⟨v',[k'],rfl,h1,.inl ⟨k',rfl,rS⟩⟩,q4⟩
  ·cases h
 | [],_,_ ::_,_,hr,_=>hr.elim
 |_ ::_,_,[],_,hr,_=>hr.elim
theorem Dk:∀{us:List TypeDesc} {ks Kn:List Lf} {b:Bool},cj us ks=true→sK ks Kn=some b→lV us ks Kn=some b
 | [],[],[],b,_,h=>h
 |u ::us,k ::ks,k' ::Kn,b,hf,h=>by
  simp only[sK]at h;split at h
  ·rename_i a c h1 h2;cases h;have key:Qb9 u k k'=some a∧cj us ks=true:=by
    cases u with
    |int q =>
     cases k with
     |int q1 x =>
      simp only[cj,Bool.and_eq_true,decide_eq_true_eq]at hf;cases k' with
      |int q2 y =>
       simp only[kEq]at h1;by_cases hq:q1=q2
       ·rw[if_pos hq]at h1;cases h1;exact⟨by simp [Qb9,hq,cM],hf.2⟩
       ·rw[if_neg hq]at h1;cases h1
      |_=>simp [kEq]at h1
     |_=>simp [cj]at hf
    |string =>
     cases k with
     |str x =>
      simp only[cj]at hf;cases k' with
      |str y=>simp only[kEq]at h1;cases h1;exact⟨rfl,hf⟩
      |_=>simp [kEq]at h1
     |_=>simp [cj]at hf
    |_=>simp [cj]at hf
   simp only[lV,key.1,Dk key.2 h2]
  ·cases h
 | [],_ ::_,_,_,hf,_=>by simp [cj]at hf
 |_ ::_,[],_,_,hf,_=>by simp [cj]at hf
 | [],[],_ ::_,_,_,h=>by simp [sK]at h
 |_ ::_,_ ::_,[],_,_,h=>by simp [sK]at h
theorem Kl:∀{ks Kn:List Lf} {b:Bool},sK ks Kn=some b→ks.length=Kn.length
 | [],[],_,_=>rfl
 |k ::ks,k' ::Kn,b,h=>by
  simp only[sK]at h;split at h
  ·rename_i h1 h2;simp [Kl h2]
  ·cases h
 | [],_ ::_,_,h=>by simp [sK]at h
 |_ ::_,[],_,h=>by simp [sK]at h
theorem R3:∀{us:List TypeDesc} {ks Kn:List Lf} {vs vs':List Value},cj us ks=true→sK ks Kn=some true→Rs (IR w M) ks vs→Rs (IR w M) Kn vs'→vs'=vs
 | [],[],[],vs,vs',_,_,h1,h2=>by
  cases vs with
  |nil=>cases vs' with
   |nil=>rfl
   |cons _ _=>exact h2.elim
  |cons _ _=>exact h1.elim
 |u ::us,k ::ks,k' ::Kn,vs,vs',hf,h,h1,h2=>by
  cases vs with
  |nil=>exact h1.elim
  |cons v vs =>
   cases vs' with
   |nil=>exact h2.elim
   |cons v' vs' =>
    simp only[sK]at h;split at h
    ·rename_i a c e1 e2;have hac:a=true∧c=true:=by simpa using h
     obtain⟨rfl,rfl⟩:=hac;have key:v'=v∧cj us ks=true:=by
      cases u with
      |int q =>
       cases k with
       |int q1 x =>
        simp only[cj,Bool.and_eq_true,decide_eq_true_eq]at hf;cases k' with
        |int q2 y =>
         simp only[kEq]at e1;by_cases hq:q1=q2
         ·rw[if_pos hq]at e1;have hxy:x=y:=by simpa using e1
          have g1:IR w M (.int q1 x) v:=h1.1;have g2:IR w M (.int q2 y) v':=h2.1;cases g1;cases g2;exact⟨by rw[hq,hxy],hf.2⟩
         ·rw[if_neg hq]at e1;cases e1
        |_=>simp [kEq]at e1
       |_=>simp [cj]at hf
      |string =>
       cases k with
       |str x =>
        simp only[cj]at hf;cases k' with
        |str y =>
         simp only[kEq]at e1;have hxy:x=y:=(bytes_beq x y).1 (by simpa using e1)
         have g1:IR w M (.str x) v:=h1.1;have g2:IR w M (.str y) v':=h2.1;cases g1;cases g2;exact⟨by rw[hxy],hf⟩
        |_=>simp [kEq]at e1
       |_=>simp [cj]at hf
      |_=>simp [cj]at hf
     rw[key.1,R3 key.2 e2 h1.2 h2.2]
    ·cases h
 | [],_ ::_,_,_,_,hf,_,_,_=>by simp [cj]at hf
 |_ ::_,[],_,_,_,hf,_,_,_=>by simp [cj]at hf
 | [],[],_ ::_,_,_,_,h,_,_=>by simp [sK]at h
 |_ ::_,_ ::_,[],_,_,_,h,_,_=>by simp [sK]at h
theorem Km{n:Nat}:∀{us:List TypeDesc} {ks:List Lf} {vs:List Value},cj us ks=true→Rs (IR w M) ks vs→((vs.zip vs).all fun(x,y)=>Instr.sameBits n x y)=true
 | [],[],vs,_,h1=>by
  cases vs with
  |nil=>rfl
  |cons _ _=>exact h1.elim
 |u ::us,k ::ks,vs,hf,h1=>by
  cases vs with
  |nil=>exact h1.elim
  |cons v vs =>
   have key:Instr.sameBits n v v=true∧cj us ks=true:=by
    cases u with
    |int q =>
     cases k with
     |int q1 x =>
      simp only[cj,Bool.and_eq_true,decide_eq_true_eq]at hf;have g1:IR w M (.int q1 x) v:=h1.1;cases g1;exact⟨by cases n <;> simp [Instr.sameBits],hf.2⟩
     |_=>simp [cj]at hf
    |string =>
     cases k with
     |str x =>
      simp only[cj]at hf;have g1:IR w M (.str x) v:=h1.1;cases g1;exact⟨by cases n <;> simp [Instr.sameBits,bytes_beq],hf⟩
     |_=>simp [cj]at hf
    |_=>simp [cj]at hf
   have ih:=Km (n:=n) key.2 h1.2;simp only[List.zip_cons_cons,List.all_cons,key.1,ih,Bool.and_self]
 | [],_ ::_,_,hf,_=>by simp [cj]at hf
 |_ ::_,[],_,hf,_=>by simp [cj]at hf
theorem D2{t:TypeId}{n:Nat}(hr:yL P t=some true)(hs:Ar P t=some n)(vs:List Value)(k:Nat):(part t vs.toArray k).run P w=.ok (.agg ((vs.drop k).take n).toArray) w:=by
 obtain⟨d,hu,hd⟩:=G_ hr;unfold part;rw[Sem.run_bind,CV hu w,hd];simp [Jx hs,List.extract_toArray,List.extract_eq_take_drop]
theorem Nc:∀{us Lq:List TypeDesc} {xs ys:List Lf} {e:Bool},lV (us++Lq) xs ys=some e→∃e1 e2,lV us (xs.take us.length) (ys.take us.length)=some e1∧lV Lq (xs.drop us.length) (ys.drop us.length)=some e2∧e=(e1&&e2)
 | [],Lq,xs,ys,e,h=>⟨true,e,by simp [lV],by simpa using h,by simp⟩
 |u ::us,Lq,xs,ys,e,h=>by
  cases xs with
  |nil=>simp [lV]at h
  |cons x xs =>
   cases ys with
   |nil=>simp [lV]at h
   |cons y ys =>
    simp only[List.cons_append,lV]at h;split at h
    ·rename_i a c h1 h2;cases h;obtain⟨e1,e2,g1,g2,rfl⟩:=Nc h2;exact⟨a&&e1,e2,by simp [lV,h1,g1],by simpa using g2,by rw[Bool.and_assoc]⟩
    ·cases h
theorem H2:∀{us Lq:List TypeDesc} {ks:List Lf},cj (us++Lq) ks=true→cj us (ks.take us.length)=true∧cj Lq (ks.drop us.length)=true
 | [],Lq,ks,h=>⟨by simp [cj],by simpa using h⟩
 |u ::us,Lq,ks,h=>by
  cases ks with
  |nil=>cases u <;> simp [cj]at h
  |cons k ks =>
   have key:∃c:Bool,c=true∧cj (u ::(us++Lq)) (k ::ks)=(c&&cj (us++Lq) ks)∧cj (u ::us) (k ::ks.take us.length)=(c&&cj us (ks.take us.length)):=by
    cases u with
    |int q =>
     cases k with
     |int q1 x =>
      have h':=h;simp only[List.cons_append,cj,Bool.and_eq_true]at h';exact⟨decide (q=q1),h'.1,by simp only[cj],by simp only[cj]⟩
     |_=>simp [cj]at h
    |string =>
     cases k with
     |str x=>exact⟨true,rfl,by simp only[cj,Bool.true_and],by simp only[cj,Bool.true_and]⟩
     |_=>simp [cj]at h
    |_=>simp [cj]at h
   obtain⟨c,rfl,e1,e2⟩:=key;rw[List.cons_append,e1,Bool.true_and]at h;obtain⟨g1,g2⟩:=H2 h;exact⟨by simp only[List.length_cons,List.take_succ_cons];rw[e2,g1];rfl,by simpa using g2⟩
theorem Bf{em:Bool}{n:Nat}{t:TypeId}{u:TypeDesc}{us:List TypeDesc}{x:Lf}{ks:List Lf}{v:Value}(hu:P.underlying t=some u)(hf:cj (u ::us) (x ::ks)=true)(hr:LR w M φ x v):
  (Instr.checkKey em (n+1) t v).run P w=.ok () w∧cj us ks=true:=by
 cases u with
 |int q =>
  cases x with
  |int q1 y =>
   simp only[cj,Bool.and_eq_true,decide_eq_true_eq]at hf;have g1:IR w M (.int q1 y) v:=hr;cases g1;exact⟨by simp [Instr.checkKey,run_underlying hu],hf.2⟩
  |_=>simp [cj]at hf
 |string =>
  cases x with
  |str y =>
   simp only[cj]at hf;have g1:IR w M (.str y) v:=hr;cases g1;exact⟨by simp [Instr.checkKey,run_underlying hu],hf⟩
  |_=>simp [cj]at hf
 |_=>simp [cj]at hf
theorem MJ{em:Bool}{d:Nat}{t e0:TypeId}{n:Nat}{u:TypeDesc}{ks:List Lf}{vs:List Value}(hu:P.underlying t=some (.array n e0))(hue:P.underlying e0=some u)(pM:yL P e0=some false)(j9:Ar P e0=some 1)
  (hf:cj (List.replicate n u) ks=true) (hr:Rs (LR w M φ) ks vs):(Instr.checkKey em (d+2) t (.agg vs.toArray)).run P w=.ok () w:=by
 rw[Instr.checkKey];simp only[Sem.run_bind,run_underlying hu,Result.andThen_ok];simp only[Std.Legacy.Range.forIn_eq_forIn_range',Std.Legacy.Range.size,Nat.sub_zero,Nat.add_one_sub_one,Nat.div_one];have xo:Rs (LR w M φ) ks (vs.drop 0):=hr;clear hr hu;generalize 0=k at xo ⊢;induction n generalizing k ks with
 |zero=>simp
 |succ m ih =>
  rw[List.replicate_succ]at hf;cases ks with
  |nil=>cases u <;> simp [cj]at hf
  |cons x ks =>
   obtain⟨v1,hv1,HZ⟩:=xo.get (i:=0) rfl;have Vy:Rs (LR w M φ) ks (vs.drop (k+1)):=by have:=xo.drop 1;simpa [List.drop_drop,Nat.add_comm]using this
   have hp:=mP (P:=P) (w:=w) pM (vs:=vs.toArray) (k:=k) (v:=v1) (by simpa using hv1)
   have key:=Bf (em:=em) (n:=d) hue hf HZ;rw[List.range'_succ,List.forIn_cons];simp only[Sem.run_bind,Result.andThen_ok,Jx j9,Nat.mul_one,hp,key.1,Sem.run_pure];exact ih key.2 (k+1) Vy
theorem Pg{k:Nat}{f:Field}{fs:List Field}{us:List TypeDesc}(h:yQ P k (f ::fs) = some us):f.offset = k∧f.name≠"_"∧
    ((∃ u Lq, yL P f.type = some false ∧ P.underlying f.type = some u ∧ us = u :: Lq ∧ yQ P (k + 1) fs = some Lq) ∨
     ∃n e u Lq,yL P f.type = some true∧P.underlying f.type = some (.array n e)∧yL P e = some false∧Ar P e = some 1∧Ar P f.type = some n∧P.underlying e = some u∧us = List.replicate n u ++ Lq∧yQ P (k + n) fs = some Lq):= by
  simp only[yQ]at h;cases hc:(f.offset == k && !(f.name == "_"))with
  |false => rw[hc]at h;cases h
  | true =>
    rw[hc]at h;simp only[cond_true]at h;simp only[Bool.and_eq_true,beq_iff_eq,Bool.not_eq_true',beq_eq_false_iff_ne]at hc;refine⟨hc.1,hc.2, ?_⟩;split at h
    · rename_i u h1 h2;cases hq:yQ P (k + 1) fs with
      |none => rw[hq]at h;cases h
      |some Lq => rw[hq]at h;cases h;exact .inl ⟨u,Lq,h1,h2,rfl,rfl⟩
    · rename_i n e h1 h2;cases hd:((yL P e == some false) && (Ar P e == some 1) && (Ar P f.type == some n))with
      |false => rw[hd]at h;cases h
      | true =>
        rw[hd]at h;simp only[cond_true]at h;simp only[Bool.and_eq_true,beq_iff_eq]at hd;split at h
        · rename_i u hu;cases hq:yQ P (k + n) fs with
          |none => rw[hq]at h;cases h
          |some Lq => rw[hq]at h;cases h;exact .inr ⟨n,e,u,Lq,h1,h2,hd.1.1,hd.1.2,hd.2,hu,rfl,hq⟩
        · cases h
    · cases h
theorem KV{em:Bool}{n:Nat}{t:TypeId}{fs:Array Field}{us:List TypeDesc}{ks:List Lf}{vs:List Value}(hu:P.underlying t=some (.struct fs))(G1:yQ P 0 fs.toList=some us)(hf:cj us ks=true)(hr:Rs (LR w M φ) ks vs):
  (Instr.checkKey em (n+3) t (.agg vs.toArray)).run P w=.ok () w:=by
 rw[Instr.checkKey];simp only[Sem.run_bind,run_underlying hu,Result.andThen_ok];rw[←Array.forIn_toList];generalize fs.toList=L at G1;have xo:Rs (LR w M φ) ks (vs.drop 0):=hr;clear hr hu;generalize 0=k at G1 xo;induction L generalizing k us ks with
 |nil=>simp
 |cons f L ih =>
  obtain⟨u1,HY,h⟩:=Pg G1;rcases h with⟨u,Lq,pM,hu,rfl,E5⟩|⟨m,e,u,Lq,pM,hu,he1,L7,j9,hue,rfl,E5⟩
  ·cases ks with
   |nil=>cases u <;> simp [cj]at hf
   |cons x ks =>
    obtain⟨v1,hv1,HZ⟩:=xo.get (i:=0) rfl;have Vy:Rs (LR w M φ) ks (vs.drop (k+1)):=by have:=xo.drop 1;simpa [List.drop_drop,Nat.add_comm]using this
    have hp:=mP (P:=P) (w:=w) pM (vs:=vs.toArray) (k:=f.offset) (v:=v1) (by rw[u1];simpa using hv1)
    have key:=Bf (em:=em) (n:=n+1) hu hf HZ;simp only[List.forIn_cons,Sem.run_bind,HY,ne_eq,not_false_eq_true,if_true,Result.andThen_ok,hp,key.1,Sem.run_pure];exact ih key.2 (k+1) E5 Vy
  ·obtain⟨f1,f2⟩:=H2 hf;rw[List.length_replicate]at f1 f2;have hp:=D2 (P:=P) (w:=w) pM j9 vs f.offset;rw[u1]at hp;have HZ:Rs (LR w M φ) (ks.take m) ((vs.drop k).take m):=xo.take m;have Vy:Rs (LR w M φ) (ks.drop m) (vs.drop (k+m)):=by have:=xo.drop m;simpa [List.drop_drop,Nat.add_comm]using this
   have key:=MJ (em:=em) (d:=n) hu hue he1 L7 f1 HZ;simp only[List.forIn_cons,Sem.run_bind,HY,ne_eq,not_false_eq_true,if_true,Result.andThen_ok,u1,hp,key,Sem.run_pure];exact ih f2 (k+m) E5 Vy
theorem LS{d:Nat}{vx vy:List Value}:∀(fs:List Field) (k:Nat) (us:List TypeDesc) (xs ys:List Lf) (e:Bool),yQ P k fs=some us→lV us xs ys=some e→Rs (LR w M φ) xs (vx.drop k)→Rs (LR w M φ) ys (vy.drop k)→
  (forIn fs ((none,()):Option Bool×Unit) fun f r=>(do
   if f.name≠"_" then do
    if(!(←Op.equalIn (d+1+1) f.type (←part f.type vx.toArray f.offset) (←part f.type vy.toArray f.offset)))=true then pure (ForInStep.done (some false,()))else pure (ForInStep.yield (none,()))
   else pure (ForInStep.yield (none,())):Sem (ForInStep (Option Bool×Unit)))).run P w=.ok (if e then none else some false,()) w
 | [],k,us,xs,ys,e,h1,h2,_,_=>by
  cases h1;cases xs <;> cases ys <;> simp [lV]at h2
  subst h2;simp
 |f ::fs,k,us,xs,ys,e,h1,h2,hx,hy=>by
  obtain⟨u1,HY,h⟩:=Pg h1;rcases h with⟨u,Lq,pM,hu,rfl,E5⟩|⟨m,e0,u,Lq,pM,hu,he1,L7,j9,hue,rfl,E5⟩
  ·cases xs with
   |nil=>simp [lV]at h2
   |cons x xs =>
    cases ys with
    |nil=>simp [lV]at h2
    |cons y ys =>
     simp only[lV]at h2;split at h2
     ·rename_i e1 e2 he1 L7;cases h2;obtain⟨v1,hv1,HZ⟩:=hx.get (i:=0) rfl;obtain⟨v2,NL,Vy⟩:=hy.get (i:=0) rfl;have hx1:Rs (LR w M φ) xs (vx.drop (k+1)):=by have:=hx.drop 1;simpa [List.drop_drop,Nat.add_comm]using this
      have hy1:Rs (LR w M φ) ys (vy.drop (k+1)):=by have:=hy.drop 1;simpa [List.drop_drop,Nat.add_comm]using this
      have ih:=LS (d:=d) fs (k+1) Lq xs ys e2 E5 L7 hx1 hy1;have Vx:=mP (P:=P) (w:=w) pM (vs:=vx.toArray) (k:=f.offset) (v:=v1) (by rw[u1];simpa using hv1)
      have hp2:=mP (P:=P) (w:=w) pM (vs:=vy.toArray) (k:=f.offset) (v:=v2) (by rw[u1];simpa using NL)
      have heq:=Th (d:=d+1) hu he1 HZ Vy;rw[List.forIn_cons];cases e1 with
      |true=>simp [HY,Vx,hp2,heq]at ih ⊢;exact ih
      |false=>simp [HY,Vx,hp2,heq]
     ·cases h2
  ·obtain⟨e1,e2,g1,g2,rfl⟩:=Nc h2;rw[List.length_replicate]at g1 g2;have hx1:Rs (LR w M φ) (xs.drop m) (vx.drop (k+m)):=by have:=hx.drop m;simpa [List.drop_drop,Nat.add_comm]using this
   have hy1:Rs (LR w M φ) (ys.drop m) (vy.drop (k+m)):=by have:=hy.drop m;simpa [List.drop_drop,Nat.add_comm]using this
   have ih:=LS (d:=d) fs (k+m) Lq (xs.drop m) (ys.drop m) e2 E5 g2 hx1 hy1;have Vx:=D2 (P:=P) (w:=w) pM j9 vx f.offset;have hp2:=D2 (P:=P) (w:=w) pM j9 vy f.offset;have heq:=Ng (d:=d) hu hue he1 L7 g1 (hx.take m) (hy.take m);rw[u1]at Vx hp2;rw[List.forIn_cons];cases e1 with
   |true=>simp [HY,Vx,hp2,heq,u1]at ih ⊢;exact ih
   |false=>simp [HY,Vx,hp2,heq,u1]
theorem Iq{d:Nat}{t:TypeId}{fs:Array Field}{us:List TypeDesc}{xs ys:List Lf}{vx vy:List Value}{e:Bool}(hu:P.underlying t=some (.struct fs))(kK:P.stoodInHeld t=false)(G1:yQ P 0 fs.toList=some us)
  (he:lV us xs ys=some e) (hrx:Rs (LR w M φ) xs vx) (hry:Rs (LR w M φ) ys vy):(Op.equalIn (d+1+1+1) t (.agg vx.toArray) (.agg vy.toArray)).run P w=.ok e w:=by
 have h3:=LS (P:=P) (w:=w) (M:=M) (φ:=φ) (d:=d) fs.toList 0 us xs ys e G1 he hrx hry;rw[Array.forIn_toList]at h3;unfold Op.equalIn;simp only[Sem.run_bind,run_underlying hu,Result.andThen_ok,run_program,kK];simp only[Bool.false_eq_true,if_false,Sem.run_bind,Sem.run_pure,Result.andThen_ok];refine Eq.trans (congrArg (fun z=>Result.andThen z _) h3) ?_
 cases e <;> simp
theorem Sf{t:TypeId}{fs:Array Field}{us:List TypeDesc}{ks:List Lf}{z v:Lf}{vs:List Value}(hu:P.underlying t=some (.struct fs))(kK:P.stoodInHeld t=false)(G1:yQ P 0 fs.toList=some us)(hf:cj us ks=true)
  (h2:2≤ks.length) (hr:Rs (IR w M) ks vs):∀{rs:List (List Lf)} {es:List MapEntry} {i:Nat},Rs (zt w M) rs es→CI rs ks z=some v→
  ∃r,(Instr.findAsking t (.agg vs.toArray) es i).run P w=.ok r w∧((r=none∧v=z)∨∃j u,r=some (j,u)∧IR w M v u)
 | [],[],i,_,h=>by
  simp only[CI]at h;cases h;exact⟨none,by simp [Instr.findAsking],.inl ⟨rfl,rfl⟩⟩
 |_ ::rs,e ::es,i,hre,h=>by
  obtain⟨⟨v',Kn,rfl,g1,g2⟩,g3⟩:=hre;have QY:∀{b:Bool},sK ks Kn=some b→(Op.equal t (.agg vs.toArray) e.key).run P w=.ok b w:=by
   intro b hb;rcases g2 with⟨k,rfl,_⟩|⟨_,vs',rS,QD⟩
   ·have:=Kl hb;simp at this;omega
   ·rw[rS];exact Iq (M:=M) (φ:=fun _=>none) (d:=9997) hu kK G1 (Dk hf hb) (Rs.mono (fun _ _ h=>IR.lr h) hr) (Rs.mono (fun _ _ h=>IR.lr h) QD)
  simp only[CI]at h;split at h
  ·rename_i hq;cases h;exact⟨some (i,e.val),by simp [Instr.findAsking,QY hq],.inr ⟨i,e.val,rfl,g1⟩⟩
  ·rename_i hq;obtain⟨r,q1,q2⟩:=Sf hu kK G1 hf h2 hr (i:=i+1) g3 h;exact⟨r,by simp [Instr.findAsking,QY hq,q1],q2⟩
  ·cases h
 | [],_ ::_,_,hr,_=>hr.elim
 |_ ::_,[],_,hr,_=>hr.elim
theorem Sg{t:TypeId}{fs:Array Field}{us:List TypeDesc}{ks:List Lf}{b:Bool}{vs:List Value}(hu:P.underlying t=some (.struct fs))(kK:P.stoodInHeld t=false)(G1:yQ P 0 fs.toList=some us)(hf:cj us ks=true)
  (h2:2≤ks.length) (hr:Rs (IR w M) ks vs):∀{rs:List (List Lf)} {es:List MapEntry} {i:Nat},Rs (zt w M) rs es→FV rs ks=some b→
  ∃r,(Instr.findAsking t (.agg vs.toArray) es i).run P w=.ok r w∧b=r.isSome
 | [],[],i,_,h=>by
  simp only[FV]at h;cases h;exact⟨none,by simp [Instr.findAsking],rfl⟩
 |_ ::rs,e ::es,i,hre,h=>by
  obtain⟨⟨v',Kn,rfl,g1,g2⟩,g3⟩:=hre;have QY:∀{b:Bool},sK ks Kn=some b→(Op.equal t (.agg vs.toArray) e.key).run P w=.ok b w:=by
   intro b hb;rcases g2 with⟨k,rfl,_⟩|⟨_,vs',rS,QD⟩
   ·have:=Kl hb;simp at this;omega
   ·rw[rS];exact Iq (M:=M) (φ:=fun _=>none) (d:=9997) hu kK G1 (Dk hf hb) (Rs.mono (fun _ _ h=>IR.lr h) hr) (Rs.mono (fun _ _ h=>IR.lr h) QD)
  simp only[FV]at h;split at h
  ·rename_i hq;cases h;exact⟨some (i,e.val),by simp [Instr.findAsking,QY hq],rfl⟩
  ·rename_i hq;obtain⟨r,q1,q2⟩:=Sg hu kK G1 hf h2 hr (i:=i+1) g3 h;exact⟨r,by simp [Instr.findAsking,QY hq,q1],q2⟩
  ·cases h
 | [],_ ::_,_,hr,_=>hr.elim
 |_ ::_,[],_,hr,_=>hr.elim
theorem Sh{t:TypeId}{fs:Array Field}{us:List TypeDesc}{ks:List Lf}{v:Lf}{vs:List Value}{vv:Value}(hu:P.underlying t=some (.struct fs))(kK:P.stoodInHeld t=false)(G1:yQ P 0 fs.toList=some us)(hf:cj us ks=true)
  (h2:2≤ks.length) (hr:Rs (IR w M) ks vs) (hv:IR w M v vv):∀{rs R:List (List Lf)} {es:List MapEntry} {i:Nat},Rs (zt w M) rs es→zZ rs ks v=some R→
  ((Instr.findAsking t (.agg vs.toArray) es i).run P w=.ok none w∧∀b,Rs (zt w M) R (es++[⟨.agg vs.toArray,vv,b⟩]))∨
  ∃j u e,(Instr.findAsking t (.agg vs.toArray) es i).run P w=.ok (some (i+j,u)) w∧es[j]?=some e∧e.key=.agg vs.toArray∧Rs (zt w M) R (es.set j {e with key:=.agg vs.toArray,val:=vv})
 | [],R,[],i,_,h=>by
  simp only[zZ]at h;cases h;exact .inl ⟨by simp [Instr.findAsking],fun b=>⟨⟨v,ks,rfl,hv,.inr ⟨h2,vs,rfl,hr⟩⟩,trivial⟩⟩
 |_ ::rs,R,e ::es,i,hre,h=>by
  obtain⟨⟨v',Kn,rfl,g1,g2⟩,g3⟩:=hre;have QY:∀{b:Bool},sK ks Kn=some b→(Op.equal t (.agg vs.toArray) e.key).run P w=.ok b w∧(b=true→e.key=.agg vs.toArray):=by
   intro b hb;rcases g2 with⟨k,rfl,_⟩|⟨_,vs',rS,QD⟩
   ·have:=Kl hb;simp at this;omega
   ·rw[rS];exact⟨Iq (M:=M) (φ:=fun _=>none) (d:=9997) hu kK G1 (Dk hf hb) (Rs.mono (fun _ _ h=>IR.lr h) hr) (Rs.mono (fun _ _ h=>IR.lr h) QD),fun QA=>by subst QA;rw[R3 hf hb hr QD]⟩
  simp only[zZ]at h;split at h
  ·rename_i hq;cases h;exact .inr ⟨0,e.val,e,by simp [Instr.findAsking,(QY hq).1],rfl,(QY hq).2 rfl,⟨v,ks,rfl,hv,.inr ⟨h2,vs,rfl,hr⟩⟩,g3⟩
  ·rename_i hq;cases hp:zZ rs ks v with
   |none=>rw[hp]at h;cases h
   |some R' =>
    rw[hp]at h;cases h;rcases Sh hu kK G1 hf h2 hr hv (i:=i+1) g3 hp with⟨q1,q2⟩|⟨j,u,e',q1,q2,q3,q4⟩
    ·exact .inl ⟨by simp [Instr.findAsking,(QY hq).1,q1],fun b=>⟨⟨v',Kn,rfl,g1,g2⟩,q2 b⟩⟩
    ·exact .inr ⟨j+1,u,e',by simp [Instr.findAsking,(QY hq).1,q1];omega,by simpa using q2,q3,⟨v',Kn,rfl,g1,g2⟩,q4⟩
  ·cases h
 | [],_,_ ::_,_,hr,_=>hr.elim
 |_ ::_,_,[],_,hr,_=>hr.elim
structure Qd6 (P:Program) (w:World) (M:Nat→Prop) (kt:TypeId) (ks:List Lf) (kv:Value):Prop where
 check:∀em,(Instr.checkKey em 10000 kt kv).run P w=.ok () w
 stays:(Instr.keyThatStays kv kv).run P w=.ok kv w
 get:∀{rs:List (List Lf)} {es:List MapEntry} {z v:Lf},Rs (zt w M) rs es→CI rs ks z=some v→∃r,(Instr.findKey kt kv es).run P w=.ok r w∧((r=none∧v=z)∨∃j u,r=some (j,u)∧IR w M v u)
 has:∀{rs:List (List Lf)} {es:List MapEntry} {b:Bool},Rs (zt w M) rs es→FV rs ks=some b→∃r,(Instr.findKey kt kv es).run P w=.ok r w∧b=r.isSome
 put:∀{rs R:List (List Lf)} {es:List MapEntry} {v:Lf} {vv:Value},IR w M v vv→Rs (zt w M) rs es→zZ rs ks v=some R→
  ((Instr.findKey kt kv es).run P w=.ok none w∧∀b,Rs (zt w M) R (es++[⟨kv,vv,b⟩]))∨
  ∃j u e,(Instr.findKey kt kv es).run P w=.ok (some (j,u)) w∧es[j]?=some e∧e.key=kv∧Rs (zt w M) R (es.set j {e with key:=kv,val:=vv})
theorem PF{kt:TypeId}{kc:Cm}{kv:Value}(h:FJ P kt kc=true)(hk:CR w M φ kc kv):Qd6 P w M kt kc.cells kv:=by
 cases kc with
 |one k =>
  have h':FK P kt k=true:=h;have Vw:LR w M φ k kv:=hk;obtain⟨d,hd,hkd⟩:=QaG h' Vw;have hi:=XY h' Vw;refine⟨fun em=>Go.MapKept.run_checkKey hd hkd em 9999,Go.MapKept.run_keyThatStays hkd,fun hr hg=>?_,fun hr hg=>?_,fun hv hr hg=>?_⟩
  ·obtain⟨r,q1,q2⟩:=VR hi hkd (i:=0) hr hg;exact⟨r,Go.MapKept.run_findKey hd q1,q2⟩
  ·obtain⟨r,q1,q2⟩:=VS hi hkd (i:=0) hr hg;exact⟨r,Go.MapKept.run_findKey hd q1,q2⟩
  ·rcases VT hi hv hkd (i:=0) hr hg with⟨q1,q2⟩|⟨j,u,e,q1,q2,q3,q4⟩
   ·exact .inl ⟨Go.MapKept.run_findKey hd q1,q2⟩
   ·rw[Nat.zero_add]at q1;exact .inr ⟨j,u,e,Go.MapKept.run_findKey hd q1,q2,q3,q4⟩
 |agg ks =>
  simp only[FJ,Bool.and_eq_true]at h;obtain⟨h2,h3⟩:=h;have h2':2≤ks.length:=Nat.le_of_ble_eq_true h2;split at h3
  ·rename_i us E5;have Ni:∃fs,P.underlying kt=some (.struct fs)∧P.stoodInHeld kt=false∧yQ P 0 fs.toList=some us:=by
    unfold Qcb at E5;split at E5
    ·rename_i fs hu;cases hc:(!P.stoodInHeld kt)with
     |false=>rw[hc]at E5;cases E5
     |true =>
      rw[hc]at E5;simp only[Bool.not_eq_true']at hc;exact⟨fs,hu,hc,E5⟩
    ·cases E5
   obtain⟨fs,hu,kK,G1⟩:=Ni;obtain⟨vs,rfl,hr⟩:=hk;have hri:Rs (IR w M) ks vs:=Nn h3 hr;have hfk:∀es:List MapEntry,(Instr.findKey kt (.agg vs.toArray) es).run P w=(Instr.findAsking kt (.agg vs.toArray) es).run P w:=fun es=>run_findKey_eq w (by rw[hu]) _ es
   refine⟨fun em=>KV (n:=9997) hu G1 h3 hr,?_,fun hre hg=>?_,fun hre hg=>?_,fun hv hre hg=>?_⟩
   ·unfold Instr.keyThatStays;have:Instr.sameBits 10000 (.agg vs.toArray) (.agg vs.toArray)=true:=by
     simp only[Instr.sameBits,beq_self_eq_true,Bool.true_and];exact Km (n:=9999) h3 hri
    rw[if_pos this];rfl
   ·rw[hfk];exact Sf hu kK G1 h3 h2' hri hre hg
   ·rw[hfk];exact Sg hu kK G1 h3 h2' hri hre hg
   ·rw[hfk];rcases Sh hu kK G1 h3 h2' hri hv (i:=0) hre hg with q|⟨j,u,e,q1,q2,q3,q4⟩
    ·exact .inl q
    ·rw[Nat.zero_add]at q1;exact .inr ⟨j,u,e,q1,q2,q3,q4⟩
  ·cases h3
theorem IC{id:Nat}{ob:Ob}{rs:List (List Lf)}(hO:OR w M φ id ob)(hm:DM ob.rows=some rs)(pc:ob.box=true):∃b es O_,φ id=some (some (b,1))∧w.heap[b]?=some (.map es O_)∧Rs (zt w M) rs es.toList∧ob.rows=[] :: [] ::rs:=by
 rcases hO with⟨h0,hO⟩|hO
 ·exfalso;obtain⟨b,hφ⟩:=(show OR w M φ id ob from .inl ⟨h0,hO⟩).boxed pc;rw[hφ]at hO;obtain⟨cur,g1,g2,g3,g4,g5,g6⟩:=hO;unfold DM at hm;split at hm
  ·rename_i r hr;rw[hr]at g3;simp at g3
  ·cases hm
 ·obtain⟨-,rs',b,es,O_,h1,h2,h3,h4⟩:=hO;rw[h1]at hm;cases hm;exact⟨b,es,O_,h2,h3,h4,h1⟩
theorem WK{t:TypeId}{z:Lf}(h:zeroV P t=some z):∃zv,(∀w,(zeroValue t).run P w=.ok zv w)∧LR w M φ z zv:=by
 unfold zeroV at h;split at h
 ·rename_i i hi;split at h
  ·rename_i zv hz;exact⟨zv,fun w=>by simp [zeroValue,typeInfo,hi,hz],IQ h⟩
  ·cases h
 ·cases h
theorem SJ(cR:c6 r.fl)(hg:g)(hF:∀t,AR w M φ (L t) (a.tmps.getD t undef))(hW:Wd Γ φ M hD w)(eD:∀id ob,h id=some ob→hD id=some ob)
  (tg:∀id,base≤id→id<base+r.news.length→φ id=none∧hD id=none) (hf:Tn P h base g L o.op hs=some r):Yd P Γ φ M hD w base r ((execOp a.eval o).run P w):=by
 unfold Tn at hf;split at hf
 ·rename_i t ho;split at hf
  ·rename_i kt vt hu;cases hf;have hf0:=tg base (Nat.le_refl _) (by simp)
   have hb:=qn w (.map #[] 0);refine Yd.new (v:=.map (some w.heap.size)) (w':=w.alloc (.map #[] 0)) (b:=w.heap.size) (C:=1) ?_ rfl hW tg hb (Nat.le_refl _) (by simp) ?_ ⟨w.heap.size,dP _ _ _,rfl⟩
   ·simp [execOp,ho,Instr.makeMap]
   ·exact .inr ⟨rfl,[],w.heap.size,#[],0,rfl,dP _ _ _,(heap_alloc w _).1,trivial⟩
  ·cases hf
 ·rename_i t x i ho;split at hf
  ·rename_i kt vt id o1 k o2 v fc hu h1 h2;split at hf
   ·rename_i ob z hid hz;split at hf
    ·rename_i rs hm;cases hc:(ob.box&&FJ P kt k)with
     |false=>rw[hc]at hf;cases hf
     |true =>
      rw[hc]at hf;cases hf;rw[Bool.and_eq_true]at hc;simp only[bm,c6]at cR;obtain⟨b,hφ,hv⟩:uK w M φ (.mp id) (a.eval x):=b7 hF h1 cR.1.1 hg;have hk:CR w M φ k (a.eval i):=b7 hF h2 cR.1.2 hg;have Uv:=PF hc.2 hk;obtain⟨b',es,O_,g1,g2,g3,-⟩:=IC (hW.fl id ob (eD id ob hid)) hm hc.1;rw[hφ]at g1;cases g1;obtain⟨zv,hz1,hz2⟩:=WK (M:=M) (φ:=φ) (w:=w) hz;have hck:=Uv.check es.isEmpty;obtain⟨r,q1,q2⟩:=Uv.get g3 cR.2.1;rcases q2 with⟨rfl,rfl⟩|⟨j,u,rfl,q2⟩
      ·refine Yd.val (v:=zv) ?_ rfl hz2 hW;simp [execOp,ho,hv,Instr.lookup,run_underlying hu,Go.MapKept.run_getObj_map g2,hck,q1,hz1,Result.andThen]
      ·refine Yd.val (v:=u) ?_ rfl (IR.lr q2:LR w M φ v u) hW;simp [execOp,ho,hv,Instr.lookup,run_underlying hu,Go.MapKept.run_getObj_map g2,hck,q1,Result.andThen]
    ·cases hf
   ·cases hf
  ·cases hf
 ·rename_i t x i ho;split at hf
  ·rename_i kt vt id o1 k o2 v bb fc hu h1 h2;split at hf
   ·rename_i ob z hid hz;split at hf
    ·rename_i rs hm;cases hc:(ob.box&&FJ P kt k)with
     |false=>rw[hc]at hf;cases hf
     |true =>
      rw[hc]at hf;cases hf;rw[Bool.and_eq_true]at hc;simp only[bm,c6]at cR;obtain⟨b,hφ,hv⟩:uK w M φ (.mp id) (a.eval x):=b7 hF h1 cR.1.1 hg;have hk:CR w M φ k (a.eval i):=b7 hF h2 cR.1.2 hg;have Uv:=PF hc.2 hk;obtain⟨b',es,O_,g1,g2,g3,-⟩:=IC (hW.fl id ob (eD id ob hid)) hm hc.1;rw[hφ]at g1;cases g1;obtain⟨zv,hz1,hz2⟩:=WK (M:=M) (φ:=φ) (w:=w) hz;have hck:=Uv.check es.isEmpty;obtain⟨r,q1,q2⟩:=Uv.get g3 cR.2.1;obtain⟨r',q1',q3⟩:=Uv.has g3 cR.2.2.1;obtain rfl:r=r':=by rw[q1]at q1';cases q1';rfl
      subst q3;rcases q2 with⟨rfl,rfl⟩|⟨j,u,rfl,q2⟩
      ·refine Yd.val (v:=.tuple #[zv,.bool false]) ?_ rfl ⟨[zv,.bool false],rfl,hz2,IR.bool _,trivial⟩ hW;simp [execOp,ho,hv,Instr.lookup,run_underlying hu,Go.MapKept.run_getObj_map g2,hck,q1,hz1,Result.andThen]
      ·refine Yd.val (v:=.tuple #[u,.bool true]) ?_ rfl ⟨[u,.bool true],rfl,(IR.lr q2:LR w M φ v u),IR.bool _,trivial⟩ hW;simp [execOp,ho,hv,Instr.lookup,run_underlying hu,Go.MapKept.run_getObj_map g2,hck,q1,Result.andThen]
    ·cases hf
   ·cases hf
  ·cases hf
 ·cases hf
end
end
section
open Go.RowKit
section
variable {P : Program} {Γ : bu} {φ : Pl} {M : Nat → Prop} {hD h : Nat → Option Ob} {w : World} {base : Nat} {L : Nat → AV} {a : Act} {g : Prop} {hs : List Hint} {r : Lv} {o : Oper}
theorem Ga{c:Call}{b:Builtin}(ho:o.op=.call c)(hc:c.callee=.builtin b):∃cn,(execOp a.eval o).run P w=(builtin b c.argTypes o.type cn (c.args.map a.eval)).run P w:=by
 refine⟨c.args.map fun|.const _=>true|_=>false,?_⟩
 simp only[execOp,ho,resolve,hc,Sem.run_bind,Sem.run_pure,Result.andThen_ok,invoke];rfl
theorem Rs.RE{c1 c2:Cm}{vs:List Value}(h:Rs (CR w M φ) [c1,c2] vs):∃v1 v2,vs=[v1,v2]∧CR w M φ c1 v1∧CR w M φ c2 v2:=by
 match vs,h with
 | [v1,v2],h=>exact⟨v1,v2,rfl,h.1,h.2.1⟩
theorem Rs.QfM{c1:Cm}{vs:List Value}(h:Rs (CR w M φ) [c1] vs):∃v1,vs=[v1]∧CR w M φ c1 v1:=by
 match vs,h with
 | [v1],h=>exact⟨v1,rfl,h.1⟩
theorem Rp(cR:c6 r.fl)(hg:g)(hF:∀t,AR w M φ (L t) (a.tmps.getD t undef))(hW:Wd Γ φ M hD w)(eD:∀id ob,h id=some ob→hD id=some ob){c:Call}{b:Builtin}(ho:o.op=.call c)(hc:c.callee=.builtin b)(hf:yx P h base g L o.op hs=some r)
  (tg:∀id,base≤id→id<base+r.news.length→φ id=none∧hD id=none):Yd P Γ φ M hD w base r ((execOp a.eval o).run P w):=by
 rw[ho]at hf;simp only[yx,hc]at hf;split at hf
 ·rename_i args o1 h1;cases hb:xm P h base b args c.argTypes.toList hs with
  |none=>rw[hb]at hf;cases hf
  |some r0 =>
   rw[hb]at hf;cases hf;simp only[bm]at cR;have hA:=tz hF hg h1 cR.1;have yR:c.args.map a.eval=(c.args.toList.map a.eval).toArray:=by apply Array.ext';simp
   have QcD:c.argTypes=c.argTypes.toList.toArray:=by simp
   obtain⟨cn,c8⟩:=Ga (P:=P) (w:=w) (a:=a) ho hc;rw[yR,QcD]at c8;generalize hvs:c.args.toList.map a.eval=vs at hA c8;generalize htt:c.argTypes.toList=tys at hb c8;have key:∀r1:Lv,r1=r0→Yd P Γ φ M hD w base r0 ((execOp a.eval o).run P w)→Yd P Γ φ M hD w base ⟨r0.v,r0.news,o1++r0.fl,r0.hs⟩ ((execOp a.eval o).run P w):=fun _ _ h=>h
   refine key r0 rfl ?_
   by_cases NK:b=.append
   ·subst NK;have WO:=hb;unfold xm at WO;split at WO
    all_goals first|(rename_i hq;cases hq;done)|skip
    ·rename_i kx n t t' _;obtain⟨vd,vx,rfl,hd,hx⟩:=hA.RE;refine Jc (h:=h) (ty:=o.type) hg hW hb cR.2 hd hx (fun v w' hr=>?_) tg
     rw[c8];simp only[builtin,Sem.run_bind];have QD:(Builtin.append_ #[t,t'] o.type #[vd,vx]).run P w=.ok v w':=hr;rw[show [t,t'].toArray=#[t,t']from rfl,show [vd,vx].toArray=#[vd,vx]from rfl,QD];rfl
    ·rename_i d x t t' _ _;obtain⟨vd,vx,rfl,hd,hx⟩:=hA.RE;refine MN (h:=h) (tys:=[t']) (ty:=o.type) hg hW eD WO cR.2 hd hx (fun v w' hr=>?_) tg
     rw[c8];simp only[builtin,Sem.run_bind];have QD:(Builtin.append_ #[t,t'] o.type #[vd,vx]).run P w=.ok v w':=hr;rw[show [t,t'].toArray=#[t,t']from rfl,show [vd,vx].toArray=#[vd,vx]from rfl,QD];rfl
    ·cases WO
   ·unfold xm at hb;split at hb
    ·rename_i l t;obtain⟨v,rfl,hl⟩:=hA.QfM;have fin:∀n:Int,(Builtin.len_ #[t] o.type #[v]).run P w=.ok (.int .i64 n) w→r0.v=one (.int .i64 n)→r0.news=[]→Yd P Γ φ M hD w base r0 ((execOp a.eval o).run P w):=fun n h1 h2 h3=>by
      refine Yd.val (v:=.int .i64 n) ?_ h3 (by rw[h2];exact IR.int _ _) hW
      rw[c8];simp only[builtin,Sem.run_bind];rw[show [t].toArray=#[t]from rfl,show [v].toArray=#[v]from rfl,h1];rfl
     split at hb
     ·rename_i s hu;cases hb;have EB:IR w M (.str s) v:=hl;cases EB;exact fin _ (by simp [Builtin.len_,run_underlying hu,goInt,fG]) rfl rfl
     ·rename_i e hu;cases hb;have EB:IR w M .cB v:=hl;cases EB;exact fin _ (by simp [Builtin.len_,run_underlying hu,goInt]) rfl rfl
     ·rename_i id len sz e hu;cases hb;have EB:uK w M φ (.bs id len sz) v:=hl;obtain⟨b,hφ,rfl⟩:=EB;exact fin _ (by simp [Builtin.len_,run_underlying hu,goInt]) rfl rfl
     ·rename_i id sz off len e hu;split at hb
      ·rename_i n fc;cases hb;obtain⟨rfl,-⟩:=cR.2;have EB:uK w M φ (.os id sz off len) v:=hl;rcases EB with⟨b,C,hφ,rfl,hle⟩|⟨hφ,_,rfl,A,rfl⟩
       ·exact fin _ (by simp [Builtin.len_,run_underlying hu,goInt]) rfl rfl
       ·exact fin _ (by simp [Builtin.len_,run_underlying hu,goInt]) rfl rfl
      ·cases hb
     ·rename_i cl sz rows e hu;split at hb
      ·rename_i n fc;cases hb;obtain⟨rfl,-⟩:=cR.2;have EB:IR w M (.sl cl sz rows) v:=hl;cases EB with
       |OJ=>exact fin _ (by simp [Builtin.len_,run_underlying hu,goInt]) rfl rfl
       |sl=>exact fin _ (by simp [Builtin.len_,run_underlying hu,goInt]) rfl rfl
      ·cases hb
     ·cases hb
    ·rename_i t;obtain⟨v,rfl,hl⟩:=hA.QfM;split at hb
     ·rename_i e hu;cases hb;have EB:IR w M .cB v:=hl;cases EB;refine Yd.val (v:=.int .i64 0) ?_ rfl (IR.int _ _) hW;rw[c8];simp [builtin,Builtin.cap_,run_underlying hu,goInt]
     ·cases hb
    ·rename_i k p k' q;cases hb;obtain⟨v1,v2,rfl,e1,e2⟩:=hA.RE;have e1':IR w M (.int k p) v1:=e1;have e2':IR w M (.int k' q) v2:=e2;cases e1';cases e2';refine Yd.val (v:=.int k (we p q)) ?_ rfl (IR.int _ _) hW;rw[c8];simp [builtin,Builtin.max_,Builtin.max2,List.foldlM,we]
    ·rename_i k p k' q;cases hb;obtain⟨v1,v2,rfl,e1,e2⟩:=hA.RE;have e1':IR w M (.int k p) v1:=e1;have e2':IR w M (.int k' q) v2:=e2;cases e1';cases e2';refine Yd.val (v:=.int k (QhZ p q)) ?_ rfl (IR.int _ _) hW;rw[c8];simp [builtin,Builtin.min_,Builtin.min2,List.foldlM,QhZ]
    ·exact absurd rfl NK
    ·exact absurd rfl NK
    ·cases hb
 ·cases hf
theorem GY(hf:yx P h base g L o.op hs=some r)(cR:c6 r.fl)(hg:g)(hF:∀t,AR w M φ (L t) (a.tmps.getD t undef))(hW:Wd Γ φ M hD w)(eD:∀id ob,h id=some ob→hD id=some ob)
  (tg:∀id,base≤id→id<base+r.news.length→φ id=none∧hD id=none):Yd P Γ φ M hD w base r ((execOp a.eval o).run P w):=by
 cases ho:o.op with
 |move x=>rw[ho]at hf;exact Qm cR hg hF hW (.inl ho) hf
 |assign x=>rw[ho]at hf;exact Qm (h:=h) (hs:=hs) cR hg hF hW (.inr ho) (by simpa only[yx]using hf)
 |pick c x y=>exact YF cR hg hF hW ho hf
 |alloc e=>exact Wn cR hg hF hW ho hf tg
 |box e x=>exact Qa9 cR hg hF hW ho hf tg
 |build t ps=>exact Wq cR hg hF hW ho hf
 |buildSlice t n ps=>exact MO cR hg hF hW ho hf tg
 |load t x=>exact YE ho hf cR hg hF hW eD
 |nilCheck x=>exact Qn cR hg hF hW ho hf
 |binOp op t x y u =>
  rw[ho]at hf;simp only[yx]at hf;split at hf
  ·rename_i r1 h1;cases hf;exact Wp cR hg hF hW ho h1
  ·exact Qa_ cR hg hF hW ho hf
 |unOp u t x=>exact YG cR hg hF hW ho hf
 |convert s d x=>exact Rq cR hg hF hW eD ho hf
 |makeFunc f first gP=>exact Ql cR hg hF hW ho hf
 |makeSlice t x y=>exact N2 cR hg hF hW ho hf tg
 |slice t x lo hi mx=>exact Wu cR hg hF hW ho hf
 |fieldAddr t x f=>exact N0 cR hg hF hW ho hf
 |field t x f=>exact Ws cR hg hF hW ho hf
 |indexAddr t x i=>exact N1 cR hg hF hW ho hf
 |index t x i=>exact Wt cR hg hF hW ho hf
 |extract x i=>exact Rr cR hg hF hW ho hf
 |call c =>
  cases hc:c.callee with
  |builtin b=>exact Rp cR hg hF hW eD ho hc hf tg
  |value f=>rw[ho]at hf;simp only[yx,hc]at hf;cases hf
  |invoke x m=>rw[ho]at hf;simp only[yx,hc]at hf;cases hf
 |makeMap t q=>exact SJ cR hg hF hW eD tg (by rw[ho]at hf ⊢;exact hf)
 |lookup t x i q=>exact SJ cR hg hF hW eD tg (by rw[ho]at hf ⊢;exact hf)
 |_=>rw[ho]at hf;simp only[yx,Tn]at hf;cases hf
end
end
end Go.Proofs.YtkcilfpbgjjjbaaGreatDoor
