/- Part MC. -/
import Derived.Test.YtbilkblifgaflaaGreatDoorMB
import Derived.Test.YtbilkblifgaflaaGreatDoorMA
import Derived.Test.YtbilkblifgaflaaGreatDoorML
import Derived.Deep.Slices
import Derived.ChangeArms
import Derived.OpenShut
import Derived.WideShapes
set_option linter.unusedSimpArgs false
set_option linter.unusedVariables false
set_option linter.unusedSectionVars false
namespace Go.Proofs.YtbilkblifgaflaaGreatDoor
section
open Go.RowKit
section
variable {P : Program} {Γ : a5} {φ φ2 : Pl} {M : Nat → Prop} {w : World} {a : Act} {m : Nat → Option Nat}
theorem E8:∀{l:List Nat} {k id j:Nat},posOf l k id=some j→k≤j∧l[j-k]?=some id
 | [],_,_,_,h=>by cases h
 |x ::r,k,id,j,h=>by
  simp only[posOf]at h;cases hx:(x == id)with
  |true =>
   rw[hx]at h;cases h;have:x=id:=by simpa using hx
   subst this;exact⟨Nat.le_refl _,by simp⟩
  |false =>
   rw[hx]at h;obtain⟨h1,h2⟩:=E8 (l:=r) (k:=k+1) h;refine⟨by omega,?_⟩
   rw[show j-k=(j-(k+1))+1 by omega];simpa using h2
theorem RD(hm:∀id k p,m id=some k→φ id=some p→φ2 k=some p){l:Lf}{v:Value}(h:tC w M φ l v):tC w M φ2 (M4 m l) v:=by
 cases l with
 |op id sz row off =>
  obtain⟨b,C,h1,h2⟩:=h;simp only[M4];cases hh:m id with
  |none=>subst h2;exact IR.any _ rfl
  |some k=>exact⟨b,C,hm id k _ hh h1,h2⟩
 |os id sz off len =>
  simp only[M4];cases hh:m id with
  |none =>
   rcases h with⟨b,C,h1,h2,h3⟩|⟨h1,h2,h3,x,h4⟩
   ·subst h2;exact IR.any _ rfl
   ·subst h4;exact IR.any _ rfl
  |some k =>
   rcases h with⟨b,C,h1,h2⟩|⟨h1,h2⟩
   ·exact .inl ⟨b,C,hm id k _ hh h1,h2⟩
   ·exact .inr ⟨hm id k _ hh h1,h2⟩
 |fn f gE=>cases(h:IR w M (.fn f gE) v);exact IR.any _ rfl
 |mp id =>
  obtain⟨b,h1,h2⟩:=h;simp only[M4];cases hh:m id with
  |none=>subst h2;exact IR.any _ rfl
  |some k=>exact⟨b,hm id k _ hh h1,h2⟩
 |_=>exact h
theorem Sk:∀{l:Lf},MH (M4 m l)=false:=by
 intro l;cases l <;> simp only[M4] <;>(try split) <;> rfl
theorem M5(hm:∀id k p,m id=some k→φ id=some p→φ2 k=some p){l:Lf}{v:Value}(h:LR w M φ l v):LR w M φ2 (SI m l) v:=by
 rcases LR.split h with⟨h1,h2⟩|⟨f,gE,vs,rfl,rfl,h3⟩
 ·have:SI m l=M4 m l:=by cases l <;> first|rfl|cases h1
  rw[this,Ic Sk];exact RD hm h2
 ·exact⟨vs,rfl,Rs.uD (Rs.mono (fun _ _ h=>RD hm h) h3)⟩
theorem GR(hm:∀id k p,m id=some k→φ id=some p→φ2 k=some p){c:Cm}{v:Value}(h:CR w M φ c v):CR w M φ2 (Qn m c) v:=by
 cases c with
 |one l=>exact M5 hm h
 |agg ls=>obtain⟨vs,h1,h2⟩:=h;exact⟨vs,h1,Rs.uD (Rs.mono (fun _ _ h=>M5 hm h) h2)⟩
theorem GQ(hm:∀id k p,m id=some k→φ id=some p→φ2 k=some p){c:AV}{v:Value}(h:AR w M φ c v):AR w M φ2 (GP m c) v:=by
 cases c with
 |cm c=>exact GR hm h
 |pX cs=>obtain⟨vs,h1,h2⟩:=h;exact⟨vs,h1,Rs.uD (Rs.mono (fun _ _ h=>GR hm h) h2)⟩
 |gd p c=>exact⟨fun hp=>GR hm (h.1 hp),h.2⟩
 |Iy=>trivial
 |Px=>exact h
 |vl u c=>exact⟨h.1,GR hm h.2⟩
theorem LY{ob:Ob}:(g0 m ob).box=ob.box:=by
 unfold g0;cases hb:(ob.box&&!isMap ob)
 ·rfl
 ·rfl
theorem UG(hm:∀id k p,m id=some k→φ id=some p→φ2 k=some p){i j:Nat}{ob:Ob}(he:φ2 i=φ j)(hO:OC w M φ j ob):OC w M φ2 i (g0 m ob):=by
 have jM:(g0 m ob).sz=ob.sz:=by unfold g0;cases(ob.box&&!isMap ob) <;> rfl
 have Qbw:(g0 m ob).Et=ob.Et:=by unfold g0;cases(ob.box&&!isMap ob) <;> rfl
 have TP:(g0 m ob).box=ob.box:=LY;have hlen:(g0 m ob).rows.length=ob.rows.length:=by unfold g0;cases(ob.box&&!isMap ob) <;> simp
 have hnm:=hO.Xg;obtain⟨h0,h1⟩:=hO;refine⟨by rw[jM];exact h0,?_⟩
 rw[he]
 revert h1
 cases φ j with
 |none=>exact id
 |some p=>cases p with
  |none =>
   rintro⟨h2,h3⟩;refine⟨?_,by rw[TP];exact h3⟩
   unfold g0;rw[h3];exact h2
  |some q =>
   obtain⟨b,C⟩:=q;rintro⟨cur,g1,g2,g3,g4,g5,g6⟩;refine⟨cur,by rw[Qbw];exact g1,by rw[jM];exact g2,by rw[hlen];exact g3,g4,by rw[TP];exact g5,fun i c hc=>?_⟩
   rw[jM,TP];cases nQ:ob.box with
   |false =>
    have e:g0 m ob=ob:=by unfold g0;rw[nQ];rfl
    rw[e]at hc;have:=g6 i c hc;rw[nQ]at this;exact this
   |true =>
    have e:(g0 m ob).rows=ob.rows.map fun c=>c.map (SI m):=by unfold g0;rw[nQ,hnm nQ];rfl
    rw[e,List.getElem?_map]at hc;cases Zl:ob.rows[i]? with
    |none=>rw[Zl]at hc;cases hc
    |some c0 =>
     rw[Zl]at hc;cases hc;obtain⟨g7,g8⟩:=g6 i c0 Zl;refine⟨by rw[List.length_map];exact g7,fun j l hl=>?_⟩
     rw[List.getElem?_map]at hl;cases Mx:c0[j]? with
     |none=>rw[Mx]at hl;cases hl
     |some l0 =>
      rw[Mx]at hl;cases hl;obtain⟨v,hv,hr⟩:=g8 j l0 Mx;rw[nQ,if_pos rfl]at hr;exact⟨v,hv,by rw[if_pos rfl];exact M5 hm hr⟩
theorem CJ(hm:∀id k p,m id=some k→φ id=some p→φ2 k=some p){i j:Nat}{ob:Ob}(he:φ2 i=φ j)(hO:OR w M φ j ob):OR w M φ2 i (g0 m ob):=by
 rcases hO with hO|⟨hb,rs,b,es,KC,h1,h2,h3,h4⟩
 ·exact .inl (UG hm he hO)
 ·have e:g0 m ob=ob:=by unfold g0 isMap;rw[h1];cases ob.box <;> rfl
  rw[e];exact .inr ⟨hb,rs,b,es,KC,h1,he.trans h2,h3,h4⟩
end
end
section
open Go.RowKit
section
variable {P : Program} {Γ : a5} {φ φ' : Pl} {M M' : Nat → Prop} {hD h : Nat → Option Ob} {w w' : World} {base : Nat} {L : Nat → AV} {a : Act} {g : Prop} {hs : List Hint} {r : G_} {o : Oper}
theorem tC.free{l:Lf}{v:Value}(hf:QR l=true)(h:tC w M φ l v):tC w M φ' l v:=by
 cases l <;> first|exact h|cases hf
theorem LR.free{l:Lf}{v:Value}(hf:TI l=true)(h:LR w M φ l v):LR w M φ' l v:=by
 rcases h.split with⟨hn,h0⟩|⟨f,gE,vs,rfl,rfl,h2⟩
 ·rw[Ic hn];refine tC.free ?_ h0;cases l <;> first|exact hf|cases hn
 ·have YN:gE.all QR=true:=hf;exact⟨vs,rfl,h2.imp_mem fun x hx y h=>tC.free (List.all_eq_true.1 YN x hx) h⟩
theorem CR.free{c:Cm}{v:Value}(hf:JL c=true)(h:CR w M φ c v):CR w M φ' c v:=by
 cases c with
 |one l=>exact LR.free hf h
 |agg ls =>
  obtain⟨vs,h1,h2⟩:=h;exact⟨vs,h1,h2.imp_mem fun x hx y h=>LR.free (List.all_eq_true.1 hf x hx) h⟩
theorem AR.free{c:AV}{v:Value}(hf:PI c=true)(h:AR w M φ c v):AR w M φ' c v:=by
 cases c with
 |cm c=>exact CR.free hf h
 |pX cs =>
  obtain⟨vs,h1,h2⟩:=h;exact⟨vs,h1,h2.imp_mem fun x hx y h=>CR.free (List.all_eq_true.1 hf x hx) h⟩
 |gd p c=>cases hf
 |Iy=>trivial
 |Px=>exact h
 |vl u c=>cases hf
theorem LR.plain{l:Lf}{v:Value}(hf:Qk l = true)(h:LR w M φ l v):LR w' M' φ' l v:= by
  cases l <;> first
    |(cases hf;done)
    | (have h' : IR w M _ v := h
       cases h'
       first |exact IR.int _ _ |exact IR.bool _ |exact IR.str _ |exact IR.any _ (by assumption))
theorem CR.plain{c:Cm}{v:Value}(hf:MY c=true)(h:CR w M φ c v):CR w' M' φ' c v:=by
 cases c with
 |one l=>exact LR.plain hf h
 |agg ls =>
  obtain⟨vs,h1,h2⟩:=h;exact⟨vs,h1,h2.imp_mem fun x hx y h=>LR.plain (List.all_eq_true.1 hf x hx) h⟩
theorem AR.plain{c:AV}{v:Value}(hf:MX c=true)(h:AR w M φ c v):AR w' M' φ' c v:=by
 cases c with
 |cm c=>exact CR.plain hf h
 |pX cs =>
  obtain⟨vs,h1,h2⟩:=h;exact⟨vs,h1,h2.imp_mem fun x hx y h=>CR.plain (List.all_eq_true.1 hf x hx) h⟩
 |gd p c=>cases hf
 |Iy=>cases hf
 |Px=>cases hf
 |vl u c=>cases hf
def pK(M:Nat→Prop)(φ:Pl)(hD:Nat→Option Ob):Nat→Prop:=fun b=>M b∨∃id ob C,hD id=some ob∧φ id=some (some (b,C))
theorem pK.sub:∀b,M b→pK M φ hD b:=fun _ h=>.inl h
theorem Sp(hW:Wd Γ φ M hD w)(ef:∀id ob,h id=some ob→hD id=some ob){l l':Lf}{v:Value}{ob:List Prop}(hl:P9 h l=some (l',ob))(ho:cA ob)(hv:LR w M φ l v):IR w (pK M φ hD) l' v:=by
 have JU:∀{l:Lf},IR w M l v→IR w (pK M φ hD) l v:=fun h=>h.mono (fun _ _=>rfl) pK.sub
 cases l with
 |os id sz off len =>
  simp only[P9]at hl;split at hl
  ·rename_i o1 Im;cases hc:(off == 0&&!o1.box&&o1.sz == sz)with
   |false=>rw[hc]at hl;cases hl
   |true =>
    rw[hc]at hl;cases hl;simp only[Bool.and_eq_true,beq_iff_eq,Bool.not_eq_true']at hc;obtain⟨⟨rfl,nQ⟩,jM⟩:=hc;obtain⟨hlen,-⟩:=ho;have hO:=hW.e9 id o1 (ef id o1 Im);rcases(hv:tC w M φ (.os id sz 0 len) v)with⟨b,C,hφ,rfl,hle⟩|⟨hφ,_,rfl,A,rfl⟩
    ·obtain⟨h0,h1⟩:=hO.oc (.inl nQ);rw[hφ]at h1;obtain⟨cur,g1,g2,g3,g4,g5,g6⟩:=h1;have my:∀(i:Nat) (c:List Lf) (j:Nat) (l:Lf),o1.rows[i]?=some c→c[j]?=some l→w.cell? ⟨b,0*sz+i*sz+j,none⟩=some ((cur[i*sz+j]?).getD undef)∧IR w (pK M φ hD) l ((cur[i*sz+j]?).getD undef):=fun i c j l hc hj=>by
      obtain⟨u,hu,hr⟩:=(g6 i c hc).2 j l hj;rw[nQ]at hr;rw[jM]at hu;refine⟨?_,by rw[hu];exact IR.mono (fun _ _=>rfl) pK.sub (by simpa using hr)⟩
      simp only[World.cell?,g1,Nat.zero_mul,Nat.zero_add];simp [hu]
     have key:IR w (pK M φ hD) (.sl false sz o1.rows) (.slice (some ⟨b,0*sz,none⟩) o1.rows.length (C-0)):=
      IR.sl false sz o1.rows b (0*sz) (C-0) (fun i j=>(cur[i*sz+j]?).getD undef) (.inr ⟨id,o1,C,ef id o1 Im,hφ⟩) (by omega) (fun h=>by cases h) (fun i c hc=>by rw[(g6 i c hc).1,jM]) (fun i c j l hc hj=>(my i c j l hc hj).1) (fun i c j l hc hj=>(my i c j l hc hj).2)
     rw[hlen]at key;exact key
    ·have DG:o1.rows=[]:=List.eq_nil_of_length_eq_zero hlen;rw[DG];exact(IR.Ko false sz A 0 fun h=>by cases h)
  ·cases hl
 |op id sz row off=>cases hl
 |fn f gE=>cases hl
 |mp id=>cases hl
 |any=>cases hl;exact JU hv
 |int k n=>cases hl;exact JU hv
 |bool b=>cases hl;exact JU hv
 |str s=>cases hl;exact JU hv
 |K2=>cases hl;exact JU hv
 |cM=>cases hl;exact JU hv
 |ip c off=>cases hl;exact JU hv
 |sl cl sz rows=>cases hl;exact JU hv
theorem ET(hW:Wd Γ φ M hD w)(ef:∀id ob,h id=some ob→hD id=some ob):∀{ls Qb:List Lf} {ob:List Prop},xL h ls=some (Qb,ob)→cA ob→Qb.length=ls.length∧∀(j:Nat) (l':Lf),Qb[j]?=some l'→∃l,ls[j]?=some l∧∀v,LR w M φ l v→IR w (pK M φ hD) l' v
 | [],_,_,hl,_=>by cases hl;exact⟨rfl,fun j l' hj=>by simp at hj⟩
 |l ::ls,Qb,ob,hl,ho=>by
  simp only[xL]at hl;split at hl
  ·rename_i x o1 xs o2 h1 h2;cases hl;rw[a0]at ho;obtain⟨g1,g2⟩:=ET hW ef h2 ho.2;refine⟨by simp [g1],fun j l' hj=>?_⟩
   cases j with
   |zero=>simp at hj;subst hj;exact⟨l,rfl,fun v hv=>Sp hW ef h1 ho.1 hv⟩
   |succ j=>exact g2 j l' (by simpa using hj)
  ·cases hl
theorem Ot(hW:Wd Γ φ M hD w)(ef:∀id ob,h id=some ob→hD id=some ob){l l':Lf}{v:Value}{ob:List Prop}(hl:Iu h l=some (l',ob))(ho:cA ob)(hv:LR w M φ l v):LR w (pK M φ hD) φ' l' v:=by
 have JU:∀{l:Lf},IR w M l v→LR w (pK M φ hD) φ' l v:=fun h=>IR.lr (h.mono (fun _ _=>rfl) pK.sub)
 cases l with
 |os id sz off len =>
  simp only[Iu]at hl;split at hl
  ·rename_i o1 Im;cases hc:(off == 0&&!o1.box&&o1.sz == sz)with
   |false =>
    rw[hc]at hl;simp only[cond_false]at hl;cases I9:(off == 0&&o1.box&&o1.sz == sz)with
    |false=>rw[I9]at hl;cases hl
    |true =>
     rw[I9]at hl;simp only[cond_true]at hl;simp only[Bool.and_eq_true,beq_iff_eq]at I9;obtain⟨⟨rfl,nQ⟩,jM⟩:=I9;unfold MK at hl;split at hl
     ·rename_i cells iF;cases DF:xL h cells with
      |none=>rw[DF]at hl;cases hl
      |some p =>
       obtain⟨c',o2⟩:=p;rw[DF]at hl;cases hl;obtain⟨hlen,ZJ⟩:=ho;have hO:=hW.e9 id o1 (ef id o1 Im);obtain⟨bb,hbb⟩:=hO.boxed nQ;obtain⟨g1,g2⟩:=ET hW ef DF ZJ;rcases(hv:tC w M φ (.os id sz 0 len) v)with⟨b,C,hφ,rfl,hle⟩|⟨hφ,_⟩
       ·rw[hbb]at hφ;cases hφ;obtain⟨h0,h1⟩:=hO.oc (.inr ⟨_,iF⟩);rw[hbb]at h1;obtain⟨cur,k1,k2,k3,k4,k5,k6⟩:=h1;have k7:=k6 0 cells (by rw[iF];rfl)
        have my:∀(j:Nat) (l':Lf),c'[j]?=some l'→∃u,w.cell? ⟨bb,0*sz+0*sz+j,none⟩=some u∧IR w (pK M φ hD) l' u:=fun j l' hj=>by
         obtain⟨l,YQ,WV⟩:=g2 j l' hj;obtain⟨u,hu,hr⟩:=k7.2 j l YQ;rw[nQ,if_pos rfl]at hr;refine⟨u,?_,WV u hr⟩;rw[Nat.zero_mul,Nat.zero_add]at hu;simp only[World.cell?,k1,Nat.zero_mul,Nat.zero_add];simpa using hu
        have key:IR w (pK M φ hD) (.sl false sz [c']) (.slice (some ⟨bb,0*sz,none⟩) ([c']:List (List Lf)).length (1-0)):=by
         refine IR.sl false sz [c'] bb (0*sz) (1-0) (fun i j=>(w.cell? ⟨bb,0*sz+i*sz+j,none⟩).getD undef) (.inr ⟨id,o1,1,ef id o1 Im,hbb⟩) (by simp) (fun h=>by cases h) (fun i c hc=>?_) (fun i c j l hc hj=>?_) (fun i c j l hc hj=>?_)
         ·cases i with
          |zero=>simp at hc;subst hc;rw[g1,k7.1,jM]
          |succ i=>simp at hc
         ·cases i with
          |zero =>
           simp at hc;subst hc;obtain⟨u,hu,hr⟩:=my j l hj;rw[hu];rfl
          |succ i=>simp at hc
         ·cases i with
          |zero =>
           simp at hc;subst hc;obtain⟨u,hu,hr⟩:=my j l hj;rw[hu];exact hr
          |succ i=>simp at hc
        rw[←hlen];exact IR.lr key
       ·rw[hbb]at hφ;cases hφ
     ·cases hl
   |true =>
    rw[hc]at hl;cases hl;simp only[Bool.and_eq_true,beq_iff_eq,Bool.not_eq_true']at hc;obtain⟨⟨rfl,nQ⟩,jM⟩:=hc;obtain⟨hlen,-⟩:=ho;have hO:=hW.e9 id o1 (ef id o1 Im);rcases(hv:tC w M φ (.os id sz 0 len) v)with⟨b,C,hφ,rfl,hle⟩|⟨hφ,_,rfl,A,rfl⟩
    ·obtain⟨h0,h1⟩:=hO.oc (.inl nQ);rw[hφ]at h1;obtain⟨cur,g1,g2,g3,g4,g5,g6⟩:=h1;have my:∀(i:Nat) (c:List Lf) (j:Nat) (l:Lf),o1.rows[i]?=some c→c[j]?=some l→w.cell? ⟨b,0*sz+i*sz+j,none⟩=some ((cur[i*sz+j]?).getD undef)∧IR w (pK M φ hD) l ((cur[i*sz+j]?).getD undef):=fun i c j l hc hj=>by
      obtain⟨u,hu,hr⟩:=(g6 i c hc).2 j l hj;rw[nQ]at hr;rw[jM]at hu;refine⟨?_,by rw[hu];exact IR.mono (fun _ _=>rfl) pK.sub (by simpa using hr)⟩
      simp only[World.cell?,g1,Nat.zero_mul,Nat.zero_add];simp [hu]
     have key:IR w (pK M φ hD) (.sl false sz o1.rows) (.slice (some ⟨b,0*sz,none⟩) o1.rows.length (C-0)):=
      IR.sl false sz o1.rows b (0*sz) (C-0) (fun i j=>(cur[i*sz+j]?).getD undef) (.inr ⟨id,o1,C,ef id o1 Im,hφ⟩) (by omega) (fun h=>by cases h) (fun i c hc=>by rw[(g6 i c hc).1,jM]) (fun i c j l hc hj=>(my i c j l hc hj).1) (fun i c j l hc hj=>(my i c j l hc hj).2)
     rw[hlen]at key;exact IR.lr key
    ·have DG:o1.rows=[]:=List.eq_nil_of_length_eq_zero hlen;rw[DG];exact IR.lr (IR.Ko false sz A 0 fun h=>by cases h)
  ·cases hl
 |op id sz row off =>
  simp only[Iu]at hl;split at hl
  ·rename_i o1 Im;cases hc:(o1.box&&row == 0)with
   |false=>rw[hc]at hl;cases hl
   |true =>
    rw[hc]at hl;simp only[cond_true]at hl;simp only[Bool.and_eq_true,beq_iff_eq]at hc;obtain⟨nQ,rfl⟩:=hc;split at hl
    ·rename_i cells iF;cases hi:cells.all JV with
     |false=>rw[hi]at hl;cases hl
     |true =>
      rw[hi]at hl;cases hl;have hO:=hW.e9 id o1 (ef id o1 Im);obtain⟨b,C,hφ,rfl⟩:=(hv:tC w M φ (.op id sz 0 off) v);have my:∀(j:Nat) (l:Lf),cells[j]?=some l→∃u,w.cell? ⟨b,0+j,none⟩=some u∧IR w M l u:=fun j l hj=>by
       obtain⟨u,hu,hr⟩:=hO.Li (i:=0) (.inr ⟨_,iF⟩) hφ (by rw[iF];rfl) j l hj
       exact⟨u,by rw[Nat.zero_mul]at hu;exact hu,LR.JU (List.all_eq_true.1 hi l (List.mem_of_getElem? hj)) hr⟩
      have key:IR w (pK M φ hD) (.ip cells off) (.pointer (some ⟨b,0+off,none⟩)):=by
       refine IR.ip cells off b 0 (fun i=>(w.cell? ⟨b,0+i,none⟩).getD undef) (.inr ⟨id,o1,C,ef id o1 Im,hφ⟩) (fun i l hl=>?_) (fun i l hl=>?_)
       ·obtain⟨u,hu,hr⟩:=my i l hl;simp only[hu,Option.getD_some]
       ·obtain⟨u,hu,hr⟩:=my i l hl;simp only[hu,Option.getD_some];exact hr.mono (fun _ _=>rfl) pK.sub
      rw[show 0*sz+off=0+off by rw[Nat.zero_mul]]
      exact IR.lr key
    ·cases hl
  ·cases hl
 |fn f gE=>cases hl
 |mp id=>cases hl
 |any=>cases hl;exact JU hv
 |int k n=>cases hl;exact JU hv
 |bool b=>cases hl;exact JU hv
 |str s=>cases hl;exact JU hv
 |K2=>cases hl;exact JU hv
 |cM=>cases hl;exact JU hv
 |ip c off=>cases hl;exact JU hv
 |sl cl sz rows=>cases hl;exact JU hv
theorem Uo{l l':Lf}{ob:List Prop}(hl:Iu h l=some (l',ob)):MH l=false∧MH l'=false:=by
 have mF:∀{c:Bool} {x:Option (Lf×List Prop)},(bif c then x else none)=some (l',ob)→x=some (l',ob):=by
  intro c x hc;cases c
  ·cases hc
  ·exact hc
 cases l with
 |os id sz off len =>
  simp only[Iu]at hl;split at hl
  ·rename_i o1 Im;cases hc:(off == 0&&!o1.box&&o1.sz == sz)with
   |true=>rw[hc]at hl;cases hl;exact⟨rfl,rfl⟩
   |false =>
    rw[hc]at hl;have h1:=mF hl;unfold MK at h1;split at h1
    ·rename_i cells iF;cases DF:xL h cells with
     |none=>rw[DF]at h1;cases h1
     |some p=>rw[DF]at h1;cases h1;exact⟨rfl,rfl⟩
    ·cases h1
  ·cases hl
 |op id sz row off =>
  simp only[Iu]at hl;split at hl
  ·have h1:=mF hl;split at h1
   ·cases mF h1;exact⟨rfl,rfl⟩
   ·cases h1
  ·cases hl
 |fn f gE=>cases hl
 |mp id=>cases hl
 |_=>cases hl;exact⟨rfl,rfl⟩
theorem LB(hW:Wd Γ φ M hD w)(ef:∀id ob,h id=some ob→hD id=some ob):∀{ls Qb:List Lf} {vs:List Value} {ob:List Prop},J1 h ls=some (Qb,ob)→cA ob→Rs (tC w M φ) ls vs→Rs (tC w (pK M φ hD) φ') Qb vs
 | [],_,[],_,hl,_,_=>by cases hl;trivial
 |l ::ls,Qb,v ::vs,ob,hl,ho,hr=>by
  simp only[J1]at hl;split at hl
  ·rename_i x o1 xs o2 h1 h2;cases hl;rw[a0]at ho;obtain⟨n1,n2⟩:=Uo h1;refine⟨?_,LB hW ef h2 ho.2 hr.2⟩;rw[←Ic n2];exact Ot hW ef h1 ho.1 (by rw[Ic n1];exact hr.1)
  ·cases hl
 | [],_,_ ::_,_,_,_,h=>h.elim
 |_ ::_,_,[],_,_,_,h=>h.elim
theorem J3(hW:Wd Γ φ M hD w)(ef:∀id ob,h id=some ob→hD id=some ob){l l':Lf}{v:Value}{ob:List Prop}(hl:J2 h l=some (l',ob))(ho:cA ob)(hv:LR w M φ l v):LR w (pK M φ hD) φ' l' v:=by
 cases l with
 |fn f gE =>
  simp only[J2]at hl;cases h1:J1 h gE with
  |none=>rw[h1]at hl;cases hl
  |some p =>
   obtain⟨x,o1⟩:=p;rw[h1]at hl;cases hl;obtain⟨vs,e,hr⟩:=hv;exact⟨vs,e,LB hW ef h1 ho hr⟩
 |_=>exact Ot hW ef (by simpa only[J2]using hl) ho hv
theorem HF(hW:Wd Γ φ M hD w)(ef:∀id ob,h id=some ob→hD id=some ob):∀{ls Qb:List Lf} {vs:List Value} {ob:List Prop},EU h ls=some (Qb,ob)→cA ob→Rs (LR w M φ) ls vs→Rs (LR w (pK M φ hD) φ') Qb vs
 | [],_,[],_,hl,_,_=>by cases hl;trivial
 |l ::ls,Qb,v ::vs,ob,hl,ho,hr=>by
  simp only[EU]at hl;split at hl
  ·rename_i x o1 xs o2 h1 h2;cases hl;rw[a0]at ho;exact⟨J3 hW ef h1 ho.1 hr.1,HF hW ef h2 ho.2 hr.2⟩
  ·cases hl
 | [],_,_ ::_,_,_,_,h=>h.elim
 |_ ::_,_,[],_,_,_,h=>h.elim
theorem Up(hW:Wd Γ φ M hD w)(ef:∀id ob,h id=some ob→hD id=some ob){c c':Cm}{v:Value}{ob:List Prop}(hl:Rj h c=some (c',ob))(ho:cA ob)(hv:CR w M φ c v):CR w (pK M φ hD) φ' c' v:=by
 cases c with
 |one l =>
  simp only[Rj]at hl;cases h1:J2 h l with
  |none=>rw[h1]at hl;cases hl
  |some p=>obtain⟨x,o1⟩:=p;rw[h1]at hl;cases hl;exact J3 hW ef h1 ho hv
 |agg ls =>
  simp only[Rj]at hl;cases h1:EU h ls with
  |none=>rw[h1]at hl;cases hl
  |some p =>
   obtain⟨x,o1⟩:=p;rw[h1]at hl;cases hl;obtain⟨vs,e,hr⟩:=hv;exact⟨vs,e,HF hW ef h1 ho hr⟩
theorem LC(hW:Wd Γ φ M hD w)(ef:∀id ob,h id=some ob→hD id=some ob):∀{cs KR:List Cm} {vs:List Value} {ob:List Prop},ML h cs=some (KR,ob)→cA ob→Rs (CR w M φ) cs vs→Rs (CR w (pK M φ hD) φ') KR vs
 | [],_,[],_,hl,_,_=>by cases hl;trivial
 |l ::ls,Qb,v ::vs,ob,hl,ho,hr=>by
  simp only[ML]at hl;split at hl
  ·rename_i x o1 xs o2 h1 h2;cases hl;rw[a0]at ho;exact⟨Up hW ef h1 ho.1 hr.1,LC hW ef h2 ho.2 hr.2⟩
  ·cases hl
 | [],_,_ ::_,_,_,_,h=>h.elim
 |_ ::_,_,[],_,_,_,h=>h.elim
theorem Kj{c:Call}{f:Operand}{k:FuncId}{gE:List Value}(ho:o.op=.call c)(hc:c.callee=.value f)(hf:a.eval f=.func (.func k) #[] gE.toArray)(hk:Mk P k=true):
  (execOp a.eval o).run P w=.ok (.enter k (c.args.toList.map a.eval++gE).toArray) w:=by
 unfold Mk at hk;split at hk
 ·rename_i fn XR;simp only[Bool.and_eq_true,Bool.not_eq_true']at hk;have hb:¬fn.body=none:=fun e=>by rw[e]at hk;cases hk.2
  have ux:¬fn.name="runtime.NumGoroutine":=by simpa using hk.1
  have he:c.args.map a.eval++gE.toArray=(c.args.toList.map a.eval++gE).toArray:=by apply Array.ext';simp
  simp [execOp,ho,resolve,hc,hf,Deferred.ofValue,invoke,callFunc,XR,ux,hb,he]
 ·cases hk
theorem Wd.Xf(hW:Wd Γ φ M hD w)(ef:∀b,M b→M' b)(IK:∀b,M' b→M b∨(Γ.w0.heap.size≤b∧b<w.heap.size∧∀id ob C,hD id=some ob→φ id≠some (some (b,C)))):Wd Γ φ M' hD w:=by
 have he:Ex w M φ w M' φ:=⟨fun _ _=>rfl,ef,fun _ _ h=>h⟩
 refine⟨fun id ob e=>(hW.e9 id ob e).mono he fun _ _ _=>rfl,hW.inj,fun b hb=>?_,fun b hb=>ef b (hW.m0 b hb),fun b hb=>?_,fun id ob b C e p=>⟨fun hb=>?_,(hW.own id ob b C e p).2⟩,hW.Ce,hW.os,hW.tape,hW.output,hW.size,hW.zA,hW.Te⟩
 ·rcases IK b hb with h|h
  ·exact hW.mlt b h
  ·exact h.2.1
 ·rcases IK b hb with h|h
  ·exact hW.Gu b h
  ·exact .inr (.inr h.1)
 ·rcases IK b hb with h|h
  ·exact(hW.own id ob b C e p).1 h
  ·exact h.2.2 id ob C e p
theorem RP(hM:∀b,M b→b<w.heap.size)(ht:∀b cs,Wp=some (b,cs)→M b∧b<w.heap.size∧∃t s,w.heap[b]?=some (.cells cs t s)):Wd ⟨w,fun b=>∃id C,id<([]:List Ob).length∧(fun _=>none:Pl) id=some (some (b,C)),M,sH (fun _=>none) 0 []⟩ (fun _=>none) M (fun id=>([]:List Ob)[id]?) w:=
 ⟨fun id ob e=>by simp at e,fun i j oi oj b Ci Cj hi=>by simp at hi,hM,fun _ h=>h,fun _ h=>.inl h,fun id ob b C e=>by simp at e,fun _ _ _=>rfl,rfl,rfl,rfl,Nat.le_refl _,fun p hp=>by simp [sH]at hp,fun b cs h=>⟨(ht b cs h).1,fun⟨id,C,hc,_⟩=>by simp at hc,(ht b cs h).2⟩⟩
theorem BR{c:Call}(ho:o.op=.call c)(hf:Jv P h L c hs=some r)(cF:cA r.e9)(hF:∀t,AR w M φ (L t) (a.tmps.getD t undef))(hW:Wd Γ φ M hD w)(ef:∀id ob,h id=some ob→hD id=some ob){K:Act→World→Prop}
  (hK:∀v w' M',AR w' M' φ r.v v→Wd Γ φ M' hD w'→Ex w M φ w' M' φ→K (a.put o.dst v) w'):r.news=[]∧o.wp P a w K NQ:=by
 unfold Jv at hf;split at hf
 ·rename_i f Zm;split at hf
  ·rename_i k gE ve o1 r0 gR h1 h2;have WU:AR w M φ (uP L f) (a.eval f):=EE hF f;rw[h1]at WU;obtain⟨Vm,Zq,Sc⟩:LR w M φ (.fn (.func k) gE) (a.eval f):=WU;have Lu:Rs (CR w M φ) (gE.map Cm.one) Vm:=by
    refine Rs.uD (Sc.imp_mem fun x hx y h=>?_)
    exact tC.lr h
   -- Qv Y8 own say
   have go:∀{Lc:List Cm} {M0:Nat→Prop} {r1:AV},dd P k Lc [] r1 []→(∀b,M0 b→b<w.heap.size)→(∀b,M b→M0 b)→Rs (CR w M0 (fun _=>none)) Lc (c.args.toList.map a.eval++Vm)→
     (∀v w' M',Below w.heap.size w w'→AR w' M' (fun _=>none) r1 v→(∀b,M0 b→M' b)→(∀b,M' b→M0 b∨(w.heap.size≤b∧b<w'.heap.size))→K (a.put o.dst v) w')→o.wp P a w K NQ:=by
    intro Lc M0 r1 hA hM hMM AM hk;unfold Oper.wp;rw[Kj ho Zm Zq hA.1];show Calls P k _ w _;refine(hA.2 w (fun _=>none) M0 _ (RP hM fun b cs h=>⟨hMM b (hW.Xs b cs h).1,(hW.Xs b cs h).2⟩) (fun _ _=>rfl) AM).mono ?_
    rintro e w' ⟨v,φ',M',rfl,hr,mw,PV⟩;have hφn:φ'=fun _=>none:=funext fun id=>PV id (Nat.zero_le _)
    subst hφn;have Gi:Below w.heap.size w w':=⟨mw.os,mw.tape,mw.output,mw.size,fun b hb=>mw.Ce b hb fun⟨id,C,h,_⟩=>by simp at h⟩
    refine hk v w' M' Gi hr mw.m0 fun b hb=>?_
    rcases mw.Gu b hb with h|⟨id,C,h,_⟩|h
    ·exact .inl h
    ·simp at h
    ·exact .inr ⟨h,mw.mlt b hb⟩
   cases Oi:(ve++gE.map Cm.one).all JL with
   |true =>
    rw[Oi]at hf;simp only[cond_true]at hf;cases pM:PI r0 with
    |false=>rw[pM]at hf;cases hf
    |true =>
     rw[pM]at hf;cases hf;simp only[a0,cA]at cF;refine⟨rfl,go cF.2.1 (fun b hb=>hW.mlt b hb) (fun _ h=>h) ?_ ?_⟩
     ·exact((rq hF trivial h2 cF.1).append Lu).imp_mem fun x hx y h=>CR.free (List.all_eq_true.1 Oi x hx) h
     ·intro v w' M' Gi hr KG Rc;refine hK v w' M' (AR.free pM hr) ((hW.grow Gi).Xf KG fun b hb=>?_) ⟨fun b hb=>Gi.block b (hW.mlt b hb),KG,fun _ _ h=>h⟩
      rcases Rc b hb with h|h
      ·exact .inl h
      ·exact .inr ⟨Nat.le_trans hW.size h.1,h.2,fun id ob C e p=>by have:=(hW.own id ob b C e p).2.1;omega⟩
   |false =>
    rw[Oi]at hf;simp only[cond_false]at hf;split at hf
    ·rename_i Lc o2 h3;cases A6:MX r0 with
     |false=>rw[A6]at hf;cases hf
     |true =>
      rw[A6]at hf;cases hf;simp only[a0,cA]at cF;refine⟨rfl,go (M0:=pK M φ hD) cF.2.1 ?_ (fun _ h=>.inl h) (LC hW ef h3 cF.1.2 ((rq hF trivial h2 cF.1.1).append Lu)) ?_⟩
      ·rintro b (h|⟨id,ob,C,e,p⟩)
       ·exact hW.mlt b h
       ·exact(hW.own id ob b C e p).2.1
      ·intro v w' M' Gi hr KG Rc;exact hK v w' M (AR.plain A6 hr) (hW.grow Gi) (hW.I5 Gi)
    ·cases hf
  ·cases hf
 ·cases hf
theorem EF:∀{out:List (Option Ob)} {e9:List Ob},La out=some e9→out=e9.map some
 | [],_,h=>by cases h;rfl
 |some o ::r,e9,h=>by
  simp only[La]at h;cases hr:La r with
  |none=>rw[hr]at h;cases h
  |some os=>rw[hr]at h;cases h;rw[EF hr];rfl
 |none ::_,_,h=>by cases h
theorem KP{c:Call}(ho:o.op=.call c)(hf:Ml P base L c hs=some r)(cF:cA r.e9)(hF:∀t,AR w M φ (L t) (a.tmps.getD t undef))(hW:Wd Γ φ M hD w)
  (pM:∀id,base≤id→id<base+r.news.length→φ id=none∧hD id=none) {K:Act→World→Prop}
  (hK:∀v w' φ' M',AR w' M' φ' r.v v→Wd Γ φ' M' (LO hD base r.news) w'→Ex w M φ w' M' φ'→(∀id,φ' id≠none→φ id≠none∨(base≤id∧id<base+r.news.length))→K (a.put o.dst v) w'):o.wp P a w K NQ:=by
 unfold Ml at hf;split at hf
 ·rename_i f Zm;split at hf
  ·rename_i k gE ve o1 r0 out gR h1 h2;split at hf
   ·rename_i e9 QbU;cases hc:((ve++gE.map Cm.one).all JL&&e9.all (fun o=>!o.box))with
    |false=>rw[hc]at hf;cases hf
    |true =>
     rw[hc]at hf;cases hf;rw[Bool.and_eq_true]at hc;obtain⟨Oi,TP⟩:=hc;have Hw:=EF QbU;subst Hw;simp only[a0,cA]at cF;have WU:AR w M φ (uP L f) (a.eval f):=EE hF f;rw[h1]at WU;obtain⟨Vm,Zq,Sc⟩:LR w M φ (.fn (.func k) gE) (a.eval f):=WU;have Lu:Rs (CR w M φ) (gE.map Cm.one) Vm:=by
      refine Rs.uD (Sc.imp_mem fun x hx y h=>?_)
      exact tC.lr h
     have AM:Rs (CR w M (fun _=>none)) (ve++gE.map Cm.one) (c.args.toList.map a.eval++Vm):=((rq hF trivial h2 cF.1).append Lu).imp_mem fun x hx y h=>CR.free (List.all_eq_true.1 Oi x hx) h
     unfold Oper.wp;rw[Kj ho Zm Zq cF.2.1.1];show Calls P k _ w _;refine(cF.2.1.2 w (fun _=>none) M _ (RP hW.mlt hW.Xs) (fun _ _=>rfl) AM).mono ?_
     rintro e w' ⟨v,φ',M',rfl,hr,mw,PV⟩;rw[List.length_map]at PV;have U4:∀i,hl (e9.map some) i=e9[i]?:=fun i=>by unfold hl;rw[List.getElem?_map];cases e9[i]? <;> rfl
     have Gi:Below w.heap.size w w':=⟨mw.os,mw.tape,mw.output,mw.size,fun b hb=>mw.Ce b hb fun⟨id,C,h,_⟩=>by simp at h⟩
     have KG:∀b,M b→M' b:=mw.m0;have Rc:∀b,M' b→M b∨w.heap.size≤b:=fun b hb=>by
      rcases mw.Gu b hb with h|⟨id,C,h,_⟩|h
      ·exact .inl h
      ·simp at h
      ·exact .inr h
     have TN:Wd Γ φ M' hD w':=(hW.grow Gi).Xf KG fun b hb=>by
      rcases Rc b hb with h|h
      ·exact .inl h
      ·exact .inr ⟨Nat.le_trans hW.size h,mw.mlt b hb,fun id ob C e p=>by have:=(hW.own id ob b C e p).2.1;omega⟩
     have Ol:∀i ob b C,e9[i]?=some ob→φ' i=some (some (b,C))→¬M' b∧b<w'.heap.size∧w.heap.size≤b:=fun i ob b C h p=>by
      obtain⟨g1,g2,g3⟩:=mw.own i ob b C ((U4 i).trans h) p;refine⟨g1,g2,?_⟩;rcases g3 with⟨id,C,h,_⟩|h
      ·simp at h
      ·exact h
     let φ2:Pl:=fun i=>if base≤i∧i<base+e9.length then φ' (i-base)else φ i
     have y3:∀i,base≤i→i<base+e9.length→φ2 i=φ' (i-base):=fun i h1 h2=>if_pos ⟨h1,h2⟩
     have Hw:∀i,¬(base≤i∧i<base+e9.length)→φ2 i=φ i:=fun i h=>if_neg h
     have A6:∀i p,φ i=some p→φ2 i=some p:=fun i p h=>by
      by_cases hi:base≤i∧i<base+e9.length
      ·rw[(pM i hi.1 hi.2).1]at h;cases h
      ·rw[Hw i hi];exact h
     have hm:∀id k p,(some (base+id):Option Nat)=some k→φ' id=some p→φ2 k=some p:=fun id k p h hp=>by
      cases h;have m9:id<e9.length:=by
       rcases Nat.lt_or_ge id e9.length with h|h
       ·exact h
       ·rw[PV id h]at hp;cases hp
      rw[y3 _ (by omega) (by omega),show base+id-base=id by omega];exact hp
     have he:Ex w' M' φ w' M' φ2:=⟨fun _ _=>rfl,fun _ h=>h,A6⟩
     refine hK v w' φ2 M' (GQ hm hr) ?_ ⟨fun b hb=>Gi.block b (hW.mlt b hb),KG,A6⟩ fun i hi=>?_
     ·have VQ:∀{i ob},LO hD base e9 i=some ob→(base≤i∧i<base+e9.length∧e9[i-base]?=some ob)∨(¬(base≤i∧i<base+e9.length)∧hD i=some ob):=fun{i ob} h=>by
       unfold LO at h;split at h
       ·rename_i hi;exact .inl ⟨hi.1,hi.2,h⟩
       ·rename_i hi;exact .inr ⟨hi,h⟩
      refine⟨fun i ob h=>?_,fun i j oi oj b Ci Cj h1 h2 h3 h4=>?_,mw.mlt,fun b hb=>KG b (hW.m0 b hb),fun b hb=>?_,fun i ob b C h1 h2=>?_,TN.Ce,TN.os,TN.tape,TN.output,TN.size,fun p hp=>A6 _ _ (hW.zA p hp),hW.Te⟩
      ·rcases VQ h with⟨g1,g2,g3⟩|⟨g1,g2⟩
       ·have hb:ob.box=false:=by simpa using List.all_eq_true.1 TP ob (List.mem_of_getElem? g3)
        have:=CJ (m:=fun j=>some (base+j)) (φ2:=φ2) (i:=i) (j:=i-base) hm (y3 i g1 g2) (mw.e9 (i-base) ob ((U4 _).trans g3))
        have e:g0 (fun j=>some (base+j)) ob=ob:=by unfold g0;rw[hb];rfl
        rw[e]at this;exact this
       ·exact(TN.e9 i ob g2).mono he fun _ _ _=>rfl
      ·rcases VQ h1 with⟨g1,g2,g3⟩|⟨g1,g2⟩ <;> rcases VQ h2 with⟨k1,k2,k3⟩|⟨k1,k2⟩
       ·rw[y3 i g1 g2]at h3;rw[y3 j k1 k2]at h4;have:=mw.inj (i-base) (j-base) oi oj b Ci Cj ((U4 _).trans g3) ((U4 _).trans k3) h3 h4;omega
       ·rw[y3 i g1 g2]at h3;rw[Hw j k1]at h4;have:=(Ol _ _ _ _ g3 h3).2.2;have:=(hW.own _ _ _ _ k2 h4).2.1;omega
       ·rw[Hw i g1]at h3;rw[y3 j k1 k2]at h4;have:=(Ol _ _ _ _ k3 h4).2.2;have:=(hW.own _ _ _ _ g2 h3).2.1;omega
       ·rw[Hw i g1]at h3;rw[Hw j k1]at h4;exact TN.inj i j oi oj b Ci Cj g2 k2 h3 h4
      ·rcases Rc b hb with h|h
       ·exact hW.Gu b h
       ·exact .inr (.inr (Nat.le_trans hW.size h))
      ·rcases VQ h1 with⟨g1,g2,g3⟩|⟨g1,g2⟩
       ·rw[y3 i g1 g2]at h2;obtain⟨k1,k2,k3⟩:=Ol _ _ _ _ g3 h2;exact⟨k1,k2,.inr (Nat.le_trans hW.size k3)⟩
       ·rw[Hw i g1]at h2;exact TN.own i ob b C g2 h2
     ·by_cases h:base≤i∧i<base+e9.length
      ·exact .inr h
      ·rw[Hw i h]at hi;exact .inl hi
   ·cases hf
  ·cases hf
 ·cases hf
theorem Hk(hf:YB P h base L o.op hs=some r)(cF:cA r.e9)(hF:∀t,AR w M φ (L t) (a.tmps.getD t undef))(hW:Wd Γ φ M hD w)(ef:∀id ob,h id=some ob→hD id=some ob)
  (pM:∀id,base≤id→id<base+r.news.length→φ id=none∧hD id=none) {K:Act→World→Prop}
  (hK:∀v w' φ' M',AR w' M' φ' r.v v→Wd Γ φ' M' (LO hD base r.news) w'→Ex w M φ w' M' φ'→(∀id,φ' id≠none→φ id≠none∨(base≤id∧id<base+r.news.length))→K (a.put o.dst v) w'):o.wp P a w K NQ:=by
 unfold YB at hf;split at hf
 ·rename_i r0 h1;cases hf;obtain⟨v,w',φ',c6,hr,mw,hp,hn,hb⟩:=Dk h1 cF trivial hF hW ef pM;unfold Oper.wp;rw[c6];exact hK v w' φ' M hr mw ⟨hb,fun _ h=>h,hp⟩ hn
 ·split at hf
  ·rename_i c hc;split at hf
   ·rename_i r1 hf1;cases hf;obtain⟨hn,-⟩:=BR (K:=fun _ _=>True) hc hf1 cF hF hW ef (fun _ _ _ _ _ _=>trivial)
    refine(BR hc hf1 cF hF hW ef fun v w' M' hr mw he=>?_).2
    exact hK v w' φ M' hr (by rw[hn,sI];exact mw) he fun _ h=>.inl h
   ·exact KP hc hf cF hF hW pM hK
  ·cases hf
end
end
section
open Go.RowKit
section
variable {P : Program} {Γ : a5} {φ φ' : Pl} {M M' : Nat → Prop} {h : Nat → Option Ob} {w w' : World} {a : Act} {hs : List Hint} {o : Oper} {H : List (Option Ob)} {L : List (Nat × AV)}
theorem qJ{α:Type}{l vs:List α}{p:Nat}(hp:p+vs.length≤l.length)(k:Nat):(l.take p++vs++l.drop (p+vs.length))[k]?=if k<p then l[k]? else if k<p+vs.length then vs[k-p]? else l[k]?:=by
 by_cases h1:k<p
 ·rw[if_pos h1,List.append_assoc,List.getElem?_append_left (by simp;omega),List.getElem?_take,if_pos h1]
 ·rw[if_neg h1];by_cases h2:k<p+vs.length
  ·rw[if_pos h2,List.getElem?_append_left (by simp;omega),List.getElem?_append_right (by simp;omega)]
   congr 1;simp;omega
  ·rw[if_neg h2,List.getElem?_append_right (by simp;omega),List.getElem?_drop]
   congr 1;simp;omega
theorem wi{id:Nat}{x:Option Ob}{i:Nat}(ux:i≠id):hl (H.set id x) i=hl H i:=by
 unfold hl;rw[List.getElem?_set_ne (Ne.symm ux)]
theorem jT{id:Nat}{ob:Ob}(e:hl H id=some ob):id<H.length:=by
 unfold hl at e;rcases Nat.lt_or_ge id H.length with h|h
 ·exact h
 ·rw[List.getElem?_eq_none h]at e;cases e
theorem qT{id:Nat}{x:Option Ob}(m9:id<H.length):hl (H.set id x) id=x:=by
 unfold hl;rw[List.getElem?_set_self m9];rfl
theorem MA{id:Nat}{ob:Ob}(m9:id<H.length):hl (H.set id (some ob))=fun i=>if i=id then some ob else hl H i:=by
 funext i
 by_cases hi:i=id
 ·subst hi;rw[if_pos rfl,qT m9]
 ·rw[if_neg hi,wi hi]
theorem MC{x:Option Ob}:hl (H++[x])=fun i=>if i=H.length then x else hl H i:=by
 funext i
 unfold hl;by_cases hi:i=H.length
 ·subst hi;rw[if_pos rfl,List.getElem?_append_right (Nat.le_refl _)];simp
 ·rw[if_neg hi];rcases Nat.lt_or_ge i H.length with h|h
  ·rw[List.getElem?_append_left h]
  ·rw[List.getElem?_eq_none (by simp;omega),List.getElem?_eq_none h]
theorem Wd.write(hW:Wd Γ φ M h w){id:Nat}{ob xj:Ob}{b C:Nat}{cur new:Array Value}(hh:h id=some ob)(hφ:φ id=some (some (b,C)))(VK:w.heap[b]?=some (.cells cur ob.Et (0,0)))(hO:OR (w.setRow b new) M φ id xj):
  Wd Γ φ M (fun i=>if i=id then some xj else h i) (w.setRow b new)∧Ex w M φ (w.setRow b new) M φ:=by
 obtain⟨hm,m9,Ol⟩:=hW.own id ob b C hh hφ;exact⟨hW.Ww hh hφ (fun k hk=>setRow_other w b k new hk) (by simp) rfl rfl rfl hO,fun c hc=>setRow_other w b c new fun e=>hm (e▸hc),fun _ h=>h,fun _ _ h=>h⟩
theorem Wd.move(hW:Wd Γ φ M h w){id Pm:Nat}{ob:Ob}{p:Option (Nat×Nat)}(hh:h id=some ob)(hφ:φ id=some p)(PV:φ Pm=none)(S5:h Pm=none):Wd Γ (DA φ Pm p) M (fun i=>if i=Pm then some ob else if i=id then none else h i) w:=by
 have ux:id≠Pm:=fun e=>by subst e;rw[hh]at S5;cases S5
 have he:Ex w M φ w M (DA φ Pm p):=⟨fun _ _=>rfl,fun _ h=>h,pY _ PV⟩
 have key:∀i o,(fun i=>if i=Pm then some ob else if i=id then none else h i) i=some o→(i=Pm∧o=ob)∨(i≠Pm∧i≠id∧h i=some o):=fun i o e=>by
  by_cases h1:i=Pm
  ·simp only[if_pos h1]at e;exact .inl ⟨h1,(Option.some.inj e).symm⟩
  ·simp only[if_neg h1]at e;by_cases h2:i=id
   ·rw[if_pos h2]at e;cases e
   ·rw[if_neg h2]at e;exact .inr ⟨h1,h2,e⟩
 refine⟨fun i o e=>?_,fun i j oi oj b Ci Cj hi hj pi pj=>?_,hW.mlt,hW.m0,hW.Gu,fun i o b C e q=>?_,hW.Ce,hW.os,hW.tape,hW.output,hW.size,fun q hq=>he.pl _ _ (hW.zA q hq),hW.Te⟩
 ·rcases key i o e with⟨rfl,rfl⟩|⟨h1,h2,h3⟩
  ·refine((hW.e9 id o hh).mono he fun _ _ _=>rfl).ren ?_
   rw[dJ,nM _ ux,hφ]
  ·exact(hW.e9 i o h3).mono he fun _ _ _=>rfl
 ·rcases key i oi hi with⟨rfl,rfl⟩|⟨h1,h2,h3⟩ <;> rcases key j oj hj with⟨rfl,rfl⟩|⟨g1,g2,g3⟩
  ·rfl
  ·rw[dJ]at pi;rw[nM _ g1]at pj;cases pi;exact absurd (hW.inj id j _ oj b Ci Cj hh g3 hφ pj).symm g2
  ·rw[dJ]at pj;rw[nM _ h1]at pi;cases pj;exact absurd (hW.inj i id oi _ b Ci Cj h3 hh pi hφ) h2
  ·rw[nM _ h1]at pi;rw[nM _ g1]at pj;exact hW.inj i j oi oj b Ci Cj h3 g3 pi pj
 ·rcases key i o e with⟨rfl,rfl⟩|⟨h1,h2,h3⟩
  ·rw[dJ]at q;cases q;exact hW.own id o b C hh hφ
  ·rw[nM _ h1]at q;exact hW.own i o b C h3 q
def Md(Γ:a5)(φ:Pl)(M:Nat→Prop)(w:World)(r:Y2)(v:Value)(w':World):Prop:=
 ∃φ',AR w' M φ' r.v v∧Wd Γ φ' M (hl r.H) w'∧Ex w M φ w' M φ'∧(∀id,r.H.length≤id→φ' id=none)
theorem ye{t:TypeId}{n b p:Nat}{e:TypeId}{v:Value}{cur:Array Value}(ht:Dd P t=some n)(hn:v.cells.size=n)(hg:w.heap[b]?=some (.cells cur e (0,0)))(IJ:p+n≤cur.size)(h1:∀u∈v.cells.toList,u.oneCell'=true):
  (storeVar t ⟨b,p,none⟩ v).run P w=.ok () (w.setRow b (cur.toList.take p++v.cells.toList++cur.toList.drop (p+v.cells.toList.length)).toArray):=by
 obtain⟨i,hi,jM⟩:=mn ht;have pk:=run_storeCells_at P b p e v.cells.toList 0 cur w hg (by rw[Array.length_toList,hn];omega) h1
 simp only[Nat.add_zero]at pk;simp only[storeVar,Sem.run_bind,run_sizeOf hi,Result.andThen_ok,hn,jM];rw[if_neg (by simp)]
 exact pk
theorem O7{r:Y2}(hW:Wd Γ φ M (hl H) w)(hF: ∀t,AR w M φ (look L t) (a.tmps.getD t undef))(hφ: ∀id,H.length≤id→φ id = none){t:TypeId}{x y:Operand}(ho:o.op = .store t x y)(hf:Xe P H (look L) o.op hs = some r)(cF:cA r.e9):
    ∃w',(execOp a.eval o).run P w = .ok .skip w'∧Md Γ φ M w r undef w':= by
  rw[ho]at hf;simp only[Xe]at hf;split at hf
  · rename_i id sz row off o1 c o2 n h1 h2 ht;split at hf
    · rename_i ob hid;cases hc:(ob.sz == sz && n == c.cells.length)with
      |false => rw[hc]at hf;cases hf
      | true =>
        rw[hc]at hf;simp only[cond_true]at hf;simp only[Bool.and_eq_true,beq_iff_eq]at hc;obtain⟨jM,hn⟩:= hc;have m9:= jT hid;have hO:= hW.e9 id ob hid
        -- Qv Mm part, for Qaw Qv new rows are
        have go:(ob.box = false∨∃c,ob.rows = [c])→cA o1→cA o2→∀R:List (List Lf),(∀{b C:Nat} {cur:Array Value} {w':World},φ id = some (some (b,C))→w.heap[b]? = some (.cells cur ob.Et (0,0))→cur.size = C * ob.sz→ob.rows.length≤C→
              (∀i c,ob.rows[i]? = some c→c.length = ob.sz∧∀j l,c[j]? = some l→∃v,cur[i * ob.sz + j]? = some v∧(if ob.box then LR w M φ l v else IR w M l v))→Rs (LR w M φ) c.cells (a.eval y).cells.toList→Ex w M φ w' M φ→
              row * sz + off + n≤cur.size∧R.length≤C∧∀(i:Nat) (d:List Lf),R[i]? = some d→d.length = ob.sz∧∀(j:Nat) (l:Lf),d[j]? = some l→∃v,(cur.toList.take (row * sz + off) ++(a.eval y).cells.toList ++ cur.toList.drop (row * sz + off +(a.eval y).cells.toList.length))[i * ob.sz + j]? = some v∧(if ob.box then LR w' M φ l v else IR w' M l v))→
            ∃w',(execOp a.eval o).run P w = .ok .skip w'∧∃φ',Wd Γ φ' M (hl (H.set id (some {ob with rows:= R}))) w'∧Ex w M φ w' M φ'∧(∀id,H.length≤id→φ' id = none):= by
          intro ZK p1 p2 R key;obtain⟨b,C,Ca,hv⟩:tC w M φ (.op id sz row off) (a.eval x):= bQ hF h1 p1 trivial;have hy:=(bQ hF h2 p2 trivial).cells;obtain⟨h0,Of⟩:= hO.oc ZK;rw[Ca]at Of;obtain⟨cur,g1,g2,g3,g4,g5,g6⟩:= Of;obtain⟨hm,Qbm,Ol⟩:= hW.own id ob b C hid Ca;have DE:(a.eval y).cells.size = n:= by rw[←Array.length_toList,←hy.len,hn]
          have hex: ∀new,Ex w M φ (w.setRow b new) M φ:= fun new =>⟨fun c hc => setRow_other w b c new fun e => hm (e▸hc),fun _ h => h,fun _ _ h => h⟩
          obtain⟨IJ,hRC,Hv⟩:= key Ca g1 g2 g3 g6 hy (hex (cur.toList.take (row * sz + off) ++(a.eval y).cells.toList ++ cur.toList.drop (row * sz + off +(a.eval y).cells.toList.length)).toArray);have c6:= ye (P:= P) ht DE g1 IJ (Rs.J4 hy);refine⟨w.setRow b (cur.toList.take (row * sz + off) ++(a.eval y).cells.toList ++ cur.toList.drop (row * sz + off +(a.eval y).cells.toList.length)).toArray,by simp only[execOp,ho,hv,Instr.storeAt,Instr.sureAddr,Sem.run_bind,Sem.run_pure,Result.andThen_ok,c6],φ, ?_⟩
          have VF:OR (w.setRow b (cur.toList.take (row * sz + off) ++(a.eval y).cells.toList ++ cur.toList.drop (row * sz + off +(a.eval y).cells.toList.length)).toArray) M φ id {ob with rows:= R}:= by
            refine .inl ⟨h0, ?_⟩;rw[Ca];refine⟨_,setRow_heap w b cur _ ob.Et (0,0) g1, ?_,hRC,g4,g5,fun i c hc =>⟨(Hv i c hc).1,fun j l hj => ?_⟩⟩
            · rw[←g2];simp;omega
            · obtain⟨v,hv,hr⟩:=(Hv i c hc).2 j l hj;exact⟨v,by rw[List.getElem?_toArray];exact hv,hr⟩
          obtain⟨q1,q2⟩:= hW.write hid Ca g1 VF;rw[MA m9];exact⟨q1,q2,hφ⟩
        split at hf
        · rename_i nQ iF;rename_i cells;cases I9:(row == 0 && Nat.ble (off + n) cells.length)with
          |false => rw[I9]at hf;cases hf
          | true =>
            rw[I9]at hf;cases hf;simp only[Bool.and_eq_true,beq_iff_eq,Nat.ble_eq]at I9;obtain⟨rfl,IJ⟩:= I9;simp only[a0]at cF;obtain⟨w',c6,φ',q1,q2,q3⟩:= go (.inr ⟨_,iF⟩) cF.1 cF.2 [cells.take off ++ c.cells ++ cells.drop (off + n)] (fun{b C cur w'} Ca g1 g2 g3 g6 hy hex => by
              have DE:cells.length = ob.sz:=(g6 0 cells (by rw[iF];rfl)).1
              have hC:1≤C:= by rw[iF]at g3;simpa using g3
              have hle:ob.sz≤cur.size:= by rw[g2];exact Nat.le_mul_of_pos_left _ hC
              have hvl:= hy.len;have TR:cur.toList.length = cur.size:= Array.length_toList;refine⟨by rw[Nat.zero_mul];omega,by simpa using hC,fun i d hd => ?_⟩
              cases i with
              |succ i => simp at hd
              | zero =>
                obtain rfl:= Option.some.inj (show some _ = some d from hd);refine⟨by simp;omega,fun j l hj => ?_⟩
                have h3:= qJ (l:= cells) (vs:= c.cells) (p:= off) (by omega) j
                rw[hn]at hj;rw[h3]at hj;rw[Nat.zero_mul,Nat.zero_add,Nat.zero_mul,Nat.zero_add,qJ (by omega)]
                have OF: ∀l,cells[j]? = some l→∃v,cur.toList[j]? = some v∧(if ob.box = true then LR w' M φ l v else IR w' M l v):= fun l hl => by
                  obtain⟨v,hv,hr⟩:=(g6 0 cells (by rw[iF];rfl)).2 j l hl
                  rw[Nat.zero_mul,Nat.zero_add]at hv;rw[if_pos nQ]at hr;exact⟨v,by simpa using hv,by rw[if_pos nQ];exact hr.mono hex⟩
                by_cases j1:j < off
                · rw[if_pos j1]at hj ⊢;exact OF l hj
                · rw[if_neg j1]at hj ⊢;by_cases j2:j < off + c.cells.length
                  · rw[if_pos j2]at hj;rw[if_pos (by omega)]
                    obtain⟨v,hv,hr⟩:= hy.get hj;exact⟨v,hv,by rw[if_pos nQ];exact hr.mono hex⟩
                  · rw[if_neg j2]at hj;rw[if_neg (by omega)]
                    exact OF l hj)
            exact⟨w',c6,φ',trivial,q1,q2,fun id hid => q3 id (by simpa using hid)⟩
        · rename_i OF R gR nQ;cases I9:(Nat.ble (off + n) OF.length && c.cells.all JV)with
          |false => rw[I9]at hf;cases hf
          | true =>
            rw[I9]at hf;cases hf;simp only[Bool.and_eq_true,Nat.ble_eq]at I9;obtain⟨IJ,TW⟩:= I9;simp only[a0,cA]at cF;obtain⟨⟨p1,p2⟩,zN,hR, -⟩:= cF;obtain⟨w',c6,φ',q1,q2,q3⟩:= go (.inl nQ) p1 p2 R (fun{b C cur w'} Ca g1 g2 g3 g6 hy hex => by
              have Sg:OF.length = ob.sz:=(g6 row OF zN).1;have Qb7:=(List.getElem?_eq_some_iff.1 zN).1;have hle:(row + 1) * ob.sz≤cur.size:= by rw[g2];exact Nat.mul_le_mul_right _ (by omega)
              rw[Nat.add_mul,Nat.one_mul]at hle;have hvl:= hy.len;have TR:cur.toList.length = cur.size:= Array.length_toList;subst jM;refine⟨by omega,by rw[←hR];simpa using g3,fun i d hd => ?_⟩
              have V9: ∀i (d:List Lf) j l,ob.rows[i]? = some d→d[j]? = some l→∃v,cur.toList[i * ob.sz + j]? = some v∧(if ob.box = true then LR w' M φ l v else IR w' M l v):= fun i d j l hd hl => by
                obtain⟨v,hv,hr⟩:=(g6 i d hd).2 j l hl;rw[nQ]at hr;exact⟨v,by simpa using hv,by rw[nQ];exact IR.mono hex.RT hex.sub (by simpa using hr)⟩
              by_cases hi:i = row
              · subst hi;rw[←hR,List.getElem?_set_self Qb7]at hd;obtain rfl:= Option.some.inj hd;refine⟨by simp;omega,fun j l hj => ?_⟩
                rw[hn,qJ (by omega)]at hj
                rw[qJ (by omega)]
                by_cases j1:j < off
                · rw[if_pos j1]at hj;rw[if_pos (by omega)];exact V9 i OF j l zN hj
                · rw[if_neg j1]at hj;rw[if_neg (by omega)]
                  by_cases j2:j < off + c.cells.length
                  · rw[if_pos j2]at hj;rw[if_pos (by omega)]
                    obtain⟨v,hv,hr⟩:= hy.get hj;refine⟨v,by rw[show i * ob.sz + j - (i * ob.sz + off) = j - off by omega];exact hv, ?_⟩
                    rw[nQ];exact IR.mono hex.RT hex.sub (LR.JU (List.all_eq_true.1 TW l (List.mem_of_getElem? hj)) hr)
                  · rw[if_neg j2]at hj;rw[if_neg (by omega)];exact V9 i OF j l zN hj
              · rw[←hR,List.getElem?_set_ne (Ne.symm hi)]at hd;have hdl:=(g6 i d hd).1;refine⟨hdl,fun j l hj => ?_⟩
                have hjl:=(List.getElem?_eq_some_iff.1 hj).1;rw[qJ (by omega)]
                rcases Nat.lt_or_ge i row with h5 |h5
                · have:(i + 1) * ob.sz≤row * ob.sz:= Nat.mul_le_mul_right _ h5;rw[Nat.add_mul,Nat.one_mul]at this;rw[if_pos (by omega)];exact V9 i d j l hd hj
                · have:(row + 1) * ob.sz≤i * ob.sz:= Nat.mul_le_mul_right _ (by omega)
                  rw[Nat.add_mul,Nat.one_mul]at this;rw[if_neg (by omega),if_neg (by omega)];exact V9 i d j l hd hj)
            exact⟨w',c6,φ',trivial,q1,q2,fun id hid => q3 id (by simpa using hid)⟩
        · cases hf
    · cases hf
  · cases hf
end
end
section
open Go.RowKit
section
variable {P : Program} {Γ : a5} {φ φ' : Pl} {M M' : Nat → Prop} {h : Nat → Option Ob} {w w' : World} {a : Act} {hs : List Hint} {o : Oper} {H : List (Option Ob)} {L : List (Nat × AV)}
theorem D6{t tx ty e:TypeId}{i:TypeInfo}{b n C k:Nat}{cur:Array Value}{x:Value}{news:List Value}(ht:P.underlying t=some (.slice e))(hi:P.info? e=some i)(hs:Src P i.size tx x k news w)(Ra:n+k≤C)
  (hg:w.heap[b]?=some (.cells cur e (0,0))) (IJ:n*i.size+news.length≤cur.size):
  (Builtin.append_ #[t,tx] ty #[.slice (some ⟨b,0,none⟩) n C,x]).run P w=.ok (.slice (some ⟨b,0,none⟩) (n+k) C) (w.setRow b (cur.toList.take (n*i.size)++news++cur.toList.drop (n*i.size+news.length)).toArray):=by
 have pk:=run_storeCells_at P b (n*i.size) e news 0 cur w hg (by simpa using IJ) hs.one
 simp only[Nat.add_zero]at pk;rcases hs.kind with⟨e',hk⟩|hk <;> simp [Builtin.append_,run_underlying ht,run_underlying hk,sizeOf,typeInfo,hi,hs.len,Ra,hs.cells,Addr.add_lit,pk]
def Wo(Γ:a5)(φ:Pl)(M:Nat→Prop)(hD:Nat→Option Ob)(base:Nat)(w:World)(r:Wr)(v:Value)(w':World):Prop:=
 ∃φ' M',AR w' M' φ' r.v v∧Wd Γ φ' M' (LO (Ib hD r.uO) base r.news) w'∧Ex w M φ w' M' φ'∧(∀id,φ' id≠none→φ id≠none∨(base≤id∧id<base+r.news.length))
theorem UR{id i:Nat}{p:Option (Nat×Nat)}(h:DA φ id p i≠none):φ i≠none∨i=id:=by
 by_cases hi:i=id
 ·exact .inr hi
 ·rw[nM _ hi]at h;exact .inl h
theorem Ka{hD:Nat→Option Ob}{id base:Nat}{ob:Ob}:LO (Ib hD [(id,none)]) base [ob]=fun i=>if i=base then some ob else if i=id then none else hD i:=by
 rw[MZ]
 funext i
 by_cases h:i=base
 ·rw[if_pos h,if_pos h]
 ·rw[if_neg h,if_neg h];unfold Ib;simp only[nO];by_cases h2:i=id
  ·subst h2;simp
  ·have:(id == i)=false:=by simpa using fun e:id=i=>h2 e.symm
   rw[if_neg h2,this];rfl
theorem OH{id:Nat}{ob:Ob}{b C:Nat}{cur:Array Value}(nQ:ob.box=false)(VK:w.heap[b]?=some (.cells cur ob.Et (0,0)))
  (g6:∀i c,ob.rows[i]?=some c→c.length=ob.sz∧∀j l,c[j]?=some l→∃v,cur[i*ob.sz+j]?=some v∧(if ob.box then LR w M φ l v else IR w M l v)):
  ∃mu,Rs (IR w M) ob.rows.flatten mu∧w.rangeAt b 0 mu∧mu.length=ob.rows.length*ob.sz:=by
 obtain⟨mu,h1,h2⟩:=pa (w:=w) (R:=IR w M) (b:=b) (sz:=ob.sz) ob.rows 0 (fun i c hc=>(g6 i c hc).1) fun i c j l hc hj=>by
  obtain⟨v,hv,hr⟩:=(g6 i c hc).2 j l hj;rw[nQ]at hr;exact⟨v,by simp only[World.cell?,VK,Nat.zero_add];simpa using hv,by simpa using hr⟩
 exact⟨mu,h1,h2,by rw[←h1.len,oU (mem_row fun i c hc=>(g6 i c hc).1)]⟩
theorem K7{hD:Nat→Option Ob}{L:Nat→AV}{base:Nat}{r:Wr}(hW:Wd Γ φ M hD w)(ef:∀id ob,h id=some ob→hD id=some ob)(hF:∀t,AR w M φ (L t) (a.tmps.getD t undef))(pM:∀id,base≤id→id<base+r.news.length→φ id=none∧hD id=none){c:Call}(ho:o.op=.call c)(hc:c.callee=.builtin .append)(hf:Jh P h base L c hs=some r)(cF:cA r.e9):
  ∃v w',(execOp a.eval o).run P w=.ok (.value v) w'∧Wo Γ φ M hD base w r v w':=by
 unfold Jh at hf;split at hf
 ·rename_i id sz off len x o1 t t' R gR AM Ua;split at hf
  ·rename_i e ob Po new o2 he hid W5;split at hf
   ·rename_i i z hi hz;generalize Sb:(t == t'&&off == 0&&sz == i.size&&ob.sz == sz&&!ob.box&&ob.Et == e&&(Po == sz||new.isEmpty)&&!Na id x)=cc at hf;cases cc with
    |false=>cases hf
    |true =>
     cases hf;simp only[Bool.and_eq_true,beq_iff_eq,Bool.or_eq_true,Bool.not_eq_true',List.isEmpty_iff]at Sb;obtain⟨⟨⟨⟨⟨⟨⟨rfl,rfl⟩,rfl⟩,jM⟩,nQ⟩,rfl⟩,IK⟩,Qca⟩:=Sb;simp only[a0,cA]at cF;obtain⟨⟨p1,p2⟩,hlen,hR,PO,Lt,-⟩:=cF;have ht:=iN he;obtain⟨i2,zv,U5,PU,KY,h0,IL,Z3⟩:=qM (w:=w) (M:=M) (φ:=φ) hz;obtain rfl:i=i2:=by rw[hi]at U5;exact Option.some.inj U5
     have hA:=rq hF trivial AM p1;obtain⟨vd,vx,hvs,hd,hx⟩:=hA.Ld;obtain⟨cn,c6⟩:=CP (P:=P) (w:=w) (a:=a) ho hc;have PN:c.args.map a.eval=#[vd,vx]:=by apply Array.ext';simp [←hvs]
     have Ub:c.argTypes=#[t,t]:=by apply Array.ext';simp [Ua]
     rw[PN,Ub]at c6;have B_:∀v w',(Builtin.append_ #[t,t] o.type #[vd,vx]).run P w=.ok v w'→(execOp a.eval o).run P w=.ok (.value v) w':=fun v w' hh=>by
      rw[c6];simp only[builtin,Sem.run_bind,hh];rfl
     obtain⟨news,A7,S6,W1⟩:=HW (size:=i.size) hW ef ht W5 p2 IK (hx:LR w M φ x vx) (fun _ _ _ _ _ _ _ _ _ _ _ _ _ h=>h)
     replace hid:=ef _ _ hid;have hO:=hW.e9 id ob hid;have Nr:R.length=len+new.length:=by rw[←hR,List.length_append,hlen]
     obtain⟨Nt,S5⟩:=pM base (Nat.le_refl _) (by simp)
     have ux:id≠base:=fun e=>by rw[e,S5]at hid;cases hid
     have Gk:∀(p:Option (Nat×Nat)) (k:Nat),DA φ base p k≠none→φ k≠none∨(base≤k∧k<base+1):=fun p k hk=>by
      rcases UR hk with h|rfl
      ·exact .inl h
      ·exact .inr ⟨Nat.le_refl _,by omega⟩
     rcases(hd:tC w M φ (.os id i.size 0 len) vd)with⟨b,C,Ca,rfl,hle⟩|⟨Ca,_,rfl,A,rfl⟩
     ·obtain⟨T5,Of⟩:=hO.oc (.inl nQ);rw[Ca]at Of;obtain⟨cur,g1,g2,g3,g4,g5,g6⟩:=Of;obtain⟨mu,q1,q2,q3⟩:=OH (id:=id) (C:=C) nQ g1 g6;have ME:∀(i:Nat) (c:List Lf),ob.rows[i]?=some c→c.length=ob.sz:=fun i c hc=>(g6 i c hc).1
      rw[Nat.zero_mul,Nat.sub_zero]at B_;have hRr:∀(j:Nat) (c:List Lf),R[j]?=some c→c.length=i.size:=fun j c hj=>by
       rw[←hR]at hj;rcases Nat.lt_or_ge j ob.rows.length with h|h
       ·rw[List.getElem?_append_left h]at hj;rw[←jM];exact ME j c hj
       ·rw[List.getElem?_append_right h]at hj;exact W1 _ c hj
      by_cases Ra:len+new.length≤C
      ·have IJ:len*i.size+news.length≤cur.size:=by rw[A7.newsLen,g2,jM,←Nat.add_mul];exact Nat.mul_le_mul_right _ Ra
       have KU:=D6 (P:=P) (ty:=o.type) ht hi A7 Ra g1 IJ;have hex:Ex w M φ (w.setRow b (cur.toList.take (len*i.size)++news++cur.toList.drop (len*i.size+news.length)).toArray) M φ:=by
        obtain⟨hm,_,_⟩:=hW.own id ob b C hid Ca;exact⟨fun c hc=>setRow_other w b c _ fun e=>hm (e▸hc),fun _ h=>h,fun _ _ h=>h⟩
       have T_:cur.toList.take (len*i.size)=mu:=by
        apply List.ext_getElem?;intro k;rw[List.getElem?_take];have Sg:mu.length=len*i.size:=by rw[q3,hlen,jM]
        by_cases hk:k<len*i.size
        ·rw[if_pos hk];have:=q2 k _ (List.getElem?_eq_getElem (show k<mu.length by omega))
         simp only[World.cell?,g1,Nat.zero_add]at this;rw[List.getElem?_eq_getElem (show k<mu.length by omega)]
         simpa using this
        ·rw[if_neg hk,List.getElem?_eq_none (by omega)]
       have VF:OR (w.setRow b (cur.toList.take (len*i.size)++news++cur.toList.drop (len*i.size+news.length)).toArray) M φ id ⟨false,i.size,ob.Et,R⟩:=by
        refine Pr (vs:=mu++news) (rest:=cur.toList.drop (len*i.size+news.length)) Ca ?_ h0 ?_ (by omega) g4 hRr ?_
        ·rw[T_] ;exact setRow_heap w b cur _ ob.Et (0,0) g1
        ·have h1:mu.length=len*i.size:=by rw[q3,hlen,jM]
         have h2:cur.size=C*i.size:=by rw[g2,jM]
         simp;omega
        ·rw[←hR,List.flatten_append];exact(q1.append S6).mono fun _ _ h=>h.mono hex.RT hex.sub
       obtain⟨w1,w2⟩:=hW.write hid Ca g1 VF;have hmv:=w1.move (id:=id) (Pm:=base) (ob:=⟨false,i.size,ob.Et,R⟩) (p:=some (b,C)) (if_pos rfl) Ca Nt (by rw[if_neg (Ne.symm ux)];exact S5)
       refine⟨_,_,B_ _ _ KU,DA φ base (some (b,C)),M,?_,?_,⟨w2.RT,w2.sub,pY _ Nt⟩,Gk _⟩
       ·exact .inl ⟨b,C,dJ _ _ _,by rw[Nr];simp,by omega⟩
       ·refine hmv.less fun k xj hk=>?_
        rw[Ka]at hk;dsimp only at hk ⊢;by_cases h1:k=base
        ·rw[if_pos h1]at hk ⊢;exact hk
        ·rw[if_neg h1]at hk ⊢;by_cases h2:k=id
         ·rw[if_pos h2]at hk;cases hk
         ·rw[if_neg h2]at hk;rw[if_neg h2];simpa only[if_neg h2]using hk
      ·have hold:(Builtin.firstCells i.size len (.slice (some ⟨b,0,none⟩) len C)).run P w.drew=.ok mu.toArray w.drew:=
        run_firstCells_some w.drew i.size len ⟨b,0,none⟩ len C mu (by rw[q3,hlen,jM]) (fun j v hj=>by rw[Addr.add_mid];exact q2 j v hj)
       obtain⟨C',w',KU,hb,TZ,QbH,VF⟩:=Ht (id:=base) (rows:=R) (ty:=o.type) hW ht hi PU KY h0 hold A7 (by omega) (by omega) (by rw[←Nr];exact PO) (by rw[q3,hlen,jM]) Nr hRr (by rw[←hR,List.flatten_append];exact q1.append S6) Nt
       have hN:=hW.new (⟨false,i.size,ob.Et,R⟩:Ob) Nt S5 hb (Nat.le_refl _) TZ VF;refine⟨_,_,B_ _ _ KU,DA φ base (some (w.heap.size,C')),M,?_,?_,⟨fun c hc=>hb.block c (hW.mlt c hc),fun _ h=>h,pY _ Nt⟩,Gk _⟩
       ·exact .inl ⟨w.heap.size,C',dJ _ _ _,by rw[Nr];simp,by omega⟩
       ·refine hN.less fun k xj hk=>?_
        rw[Ka]at hk;dsimp only at hk ⊢;by_cases h1:k=base
        ·rw[if_pos h1]at hk ⊢;exact hk
        ·rw[if_neg h1]at hk ⊢;by_cases h2:k=id
         ·rw[if_pos h2]at hk;cases hk
         ·rw[if_neg h2]at hk;exact hk
     ·have DG:ob.rows=[]:=List.eq_nil_of_length_eq_zero hlen;have WZ:∀(p:Option (Nat×Nat)) (w':World),Wd Γ (DA φ base p) M (fun k=>if k=base then some ⟨false,i.size,ob.Et,R⟩else hD k) w'→Wd Γ (DA φ base p) M (LO (Ib hD [(id,none)]) base [⟨false,i.size,ob.Et,R⟩]) w':=fun p w' hN=>by
       refine hN.less fun k xj hk=>?_
       rw[Ka]at hk;dsimp only at hk ⊢;by_cases h1:k=base
       ·rw[if_pos h1]at hk ⊢;exact hk
       ·rw[if_neg h1]at hk ⊢;by_cases h2:k=id
        ·rw[if_pos h2]at hk;cases hk
        ·rw[if_neg h2]at hk;exact hk
      by_cases AN:new.length=0
      ·have ZF:new=[]:=List.eq_nil_of_length_eq_zero AN;have Og:R=[]:=by rw[←hR,DG,ZF];rfl
       rw[AN]at A7;have KU:=AW (P:=P) (ty:=o.type) (A:=A) (n:=0) (c:=0) ht hi A7 (Nat.le_refl _);refine⟨_,_,B_ _ _ KU,DA φ base none,M,?_,WZ none w (hW.E2 (⟨false,i.size,ob.Et,R⟩:Ob) Nt S5 Og rfl h0),⟨fun _ _=>rfl,fun _ h=>h,pY _ Nt⟩,Gk none⟩
       exact .inr ⟨dJ _ _ _,rfl,by rw[Og];rfl,A,rfl⟩
      ·have hold:(Builtin.firstCells i.size 0 (.slice A 0 0)).run P w.drew=.ok ([]:List Value).toArray w.drew:=by cases A <;> simp [Builtin.firstCells,loadCells,loadCellsFrom]
       obtain⟨C',w',KU,hb,TZ,QbH,VF⟩:=Ht (id:=base) (rows:=R) (ty:=o.type) hW ht hi PU KY h0 hold A7 (by omega) (by omega) (by rw[←Nr];exact PO) (by simp) Nr (fun j c hj=>by rw[←hR,DG]at hj;exact W1 j c (by simpa using hj)) (by rw[←hR,DG];simpa using S6) Nt
       refine⟨_,_,B_ _ _ KU,DA φ base (some (w.heap.size,C')),M,?_,WZ _ w' (hW.new (⟨false,i.size,ob.Et,R⟩:Ob) Nt S5 hb (Nat.le_refl _) TZ VF),⟨fun c hc=>hb.block c (hW.mlt c hc),fun _ h=>h,pY _ Nt⟩,Gk _⟩
       exact .inl ⟨w.heap.size,C',dJ _ _ _,by rw[Nr];simp,by omega⟩
   ·cases hf
  ·cases hf
 ·cases hf
theorem M_{t ty e et:TypeId}{i:TypeInfo}{b len C k cap n:Nat}{A:Option Addr}{cur:Array Value}{cs:List Value}(ht:P.underlying t=some (.slice e))(hi:P.info? e=some i)(hg:w.heap[b]?=some (.cells cur et (0,0)))(hn:Nat.min k len=n)
  (A7:(Builtin.firstCells i.size n (.slice A k cap)).run P w=.ok cs.toArray w) (IJ:cs.length≤cur.size) (h1:∀u∈cs,u.oneCell'=true):
  (Builtin.copy_ #[t,t] ty #[.slice (some ⟨b,0,none⟩) len C,.slice A k cap]).run P w=.ok (goInt n) (w.setRow b (cs++cur.toList.drop cs.length).toArray):=by
 have pk:=run_storeCells_at P b 0 et cs 0 cur w hg (by simpa using IJ) h1
 simp only[Nat.add_zero,List.take_zero,List.nil_append,Nat.zero_add]at pk;simp [Builtin.copy_,run_underlying ht,Builtin.lenOf,sizeOf,typeInfo,hi,hn,A7,pk]
theorem GX{t ty e:TypeId}{i:TypeInfo}{k cap:Nat}{A B:Option Addr}(ht:P.underlying t=some (.slice e))(hi:P.info? e=some i):
  (Builtin.copy_ #[t,t] ty #[.slice B 0 0,.slice A k cap]).run P w=.ok (goInt 0) w:=by
 have hm:Nat.min k 0=0:=Nat.min_zero k;have hf:(Builtin.firstCells i.size 0 (.slice A k cap)).run P w=.ok #[] w:=by cases A <;> simp [Builtin.firstCells,loadCells,loadCellsFrom]
 cases B <;> simp [Builtin.copy_,run_underlying ht,Builtin.lenOf,sizeOf,typeInfo,hi,hm,hf,storeCells]
theorem F9{α:Type}{sz:Nat}:∀{rows:List (List α)} (n:Nat),(∀c∈rows,c.length=sz)→(rows.take n).flatten=rows.flatten.take (n*sz)
 | [],n,_=>by simp
 |c ::r,0,_=>by simp
 |c ::r,n+1,h=>by
  have hc:=h c (by simp)
  rw[List.take_succ_cons,List.flatten_cons,List.flatten_cons,F9 n (fun d hd=>h d (by simp [hd])),List.take_append,hc,Nat.add_mul,Nat.one_mul,Nat.add_sub_cancel,List.take_of_length_le (show c.length≤n*sz+sz by omega)]
theorem F8{α:Type}{sz:Nat}:∀{rows:List (List α)} (n:Nat),(∀c∈rows,c.length=sz)→(rows.drop n).flatten=rows.flatten.drop (n*sz)
 | [],n,_=>by simp
 |c ::r,0,_=>by simp
 |c ::r,n+1,h=>by
  have hc:=h c (by simp)
  rw[List.drop_succ_cons,List.flatten_cons,F8 n (fun d hd=>h d (by simp [hd])),List.drop_append,hc,Nat.add_mul,Nat.one_mul,Nat.add_sub_cancel,List.drop_of_length_le (show c.length≤n*sz+sz by omega),List.nil_append]
theorem Ks{r:Y2}(hW:Wd Γ φ M (hl H) w)(hF:∀t,AR w M φ (look L t) (a.tmps.getD t undef))(hφ:∀id,H.length≤id→φ id=none){c:Call}(ho:o.op=.call c)(hc:c.callee=.builtin .copy)(hf:Xe P H (look L) o.op hs=some r)(cF:cA r.e9):
  ∃v w',(execOp a.eval o).run P w=.ok (.value v) w'∧Md Γ φ M w r v w':=by
 rw[ho]at hf;simp only[Xe,hc]at hf;split at hf
 ·rename_i id sz off len x o1 t t' R n gR AM Ua;split at hf
  ·rename_i e ob Po new o2 he hid W5;split at hf
   ·rename_i i hi;generalize Sb:(t == t'&&off == 0&&sz == i.size&&ob.sz == sz&&!ob.box&&(Po == sz||new.isEmpty)&&!Na id x)=cc at hf;cases cc with
    |false=>cases hf
    |true =>
     cases hf;simp only[Bool.and_eq_true,beq_iff_eq,Bool.or_eq_true,Bool.not_eq_true',List.isEmpty_iff]at Sb;obtain⟨⟨⟨⟨⟨⟨rfl,rfl⟩,rfl⟩,jM⟩,nQ⟩,IK⟩,Qca⟩:=Sb;simp only[a0,cA]at cF;obtain⟨⟨p1,p2⟩,hlen,XX,hR,-⟩:=cF;have ht:=iN he;have hA:=rq hF trivial AM p1;obtain⟨vd,vx,hvs,hd,hx⟩:=hA.Ld;obtain⟨cn,c6⟩:=CP (P:=P) (w:=w) (a:=a) ho hc;have PN:c.args.map a.eval=#[vd,vx]:=by apply Array.ext';simp [←hvs]
     have Ub:c.argTypes=#[t,t]:=by apply Array.ext';simp [Ua]
     rw[PN,Ub]at c6;have B_:∀v w',(Builtin.copy_ #[t,t] o.type #[vd,vx]).run P w=.ok v w'→(execOp a.eval o).run P w=.ok (.value v) w':=fun v w' hh=>by
      rw[c6];simp only[builtin,Sem.run_bind,hh];rfl
     obtain⟨news,S6,W1,A,cap,rfl,had⟩:=SL (size:=i.size) hW W5 p2 IK (hx:LR w M φ x vx);have m9:=jT hid;have hO:=hW.e9 id ob hid;have hO0:=hO;have VW:AR w M φ (one (.int .i64 n)) (goInt n):=IR.int _ _;rcases(hd:tC w M φ (.os id i.size 0 len) vd)with⟨b,C,Ca,rfl,hle⟩|⟨Ca,_,rfl,B,rfl⟩
     ·obtain⟨T5,Of⟩:=hO.oc (.inl nQ);rw[Ca]at Of;obtain⟨cur,g1,g2,g3,g4,g5,g6⟩:=Of;obtain⟨mu,q1,q2,q3⟩:=OH (id:=id) (C:=C) nQ g1 g6;have ME:∀(i:Nat) (c:List Lf),ob.rows[i]?=some c→c.length=ob.sz:=fun i c hc=>(g6 i c hc).1
      rw[Nat.zero_mul,Nat.sub_zero]at B_;have XZ:n≤new.length:=by omega
      have VP:n≤ob.rows.length:=by omega
      -- Qv cells Ws are copied
      have QbQ:=oU (mem_row W1);have ZH:news.length=new.length*i.size:=by rw[←S6.len,QbQ]
      have DE:(news.take (n*i.size)).length=n*i.size:=by
       rw[List.length_take,ZH];exact Nat.min_eq_left (Nat.mul_le_mul_right _ XZ)
      have X1:∀u∈news.take (n*i.size),u.oneCell'=true:=fun u hu=>Rs.J4 (φ:=φ) (S6.mono fun _ _ h=>IR.lr h) u (List.mem_of_mem_take hu)
      have A7:(Builtin.firstCells i.size n (.slice A new.length cap)).run P w=.ok (news.take (n*i.size)).toArray w:=by
       by_cases AN:new=[]
       ·have Q7:n=0:=by rw[AN]at XZ;simpa using XZ
        rw[Q7,Nat.zero_mul,List.take_zero];cases A <;> simp [Builtin.firstCells,loadCells,loadCellsFrom]
       ·obtain⟨ad,rfl,my⟩:=had AN;have:=run_loadCells_list (P:=P) (w:=w) ad (news.take (n*i.size)) (fun j v hj=>by
         rw[List.getElem?_take]at hj;split at hj
         ·exact my j v hj
         ·cases hj)
        rw[DE]at this;simpa [Builtin.firstCells]using this
      have Qbo:n*i.size≤cur.size:=by rw[g2,jM];exact Nat.mul_le_mul_right _ (by omega)
      have KU:=M_ (P:=P) (ty:=o.type) (len:=len) (C:=C) ht hi g1 (show Nat.min new.length len=n by rw[←hlen];exact XX) A7 (by rw[DE];exact Qbo) X1
      rw[DE]at KU;have hex:Ex w M φ (w.setRow b (news.take (n*i.size)++cur.toList.drop (n*i.size)).toArray) M φ:=by
       obtain⟨hm,_,_⟩:=hW.own id ob b C hid Ca;exact⟨fun c hc=>setRow_other w b c _ fun e=>hm (e▸hc),fun _ h=>h,fun _ _ h=>h⟩
      have T_:cur.toList.take (len*i.size)=mu:=by
       apply List.ext_getElem?;intro k;rw[List.getElem?_take];have Sg:mu.length=len*i.size:=by rw[q3,hlen,jM]
       by_cases hk:k<len*i.size
       ·rw[if_pos hk];have:=q2 k _ (List.getElem?_eq_getElem (show k<mu.length by omega))
        simp only[World.cell?,g1,Nat.zero_add]at this;rw[List.getElem?_eq_getElem (show k<mu.length by omega)]
        simpa using this
       ·rw[if_neg hk,List.getElem?_eq_none (by omega)]
      have Nr:R.length=len:=by rw[←hR,List.length_append,List.length_take,List.length_drop];omega
      have hRr:∀(j:Nat) (c:List Lf),R[j]?=some c→c.length=ob.sz:=fun j c hj=>by
       rw[←hR]at hj;rcases Nat.lt_or_ge j (new.take n).length with h|h
       ·rw[List.getElem?_append_left h,List.getElem?_take]at hj;split at hj
        ·rw[jM];exact W1 j c hj
        ·cases hj
       ·rw[List.getElem?_append_right h,List.getElem?_drop]at hj;exact ME _ c hj
      have VF:OR (w.setRow b (news.take (n*i.size)++cur.toList.drop (n*i.size)).toArray) M φ id {ob with rows:=R}:=by
       have key:({ob with rows:=R}:Ob)=⟨false,ob.sz,ob.Et,R⟩:=by rw[←nQ]
       have hdr:cur.toList.drop (n*i.size)=mu.drop (n*i.size)++cur.toList.drop (len*i.size):=by
        rw[←T_,←List.drop_append_of_le_length (by rw[List.length_take];have h1:n*i.size≤len*i.size:=Nat.mul_le_mul_right _ (by omega);have h2:cur.toList.length=cur.size:=Array.length_toList;omega),List.take_append_drop]
       rw[key];refine Pr (vs:=news.take (n*i.size)++mu.drop (n*i.size)) (rest:=cur.toList.drop (len*i.size)) Ca ?_ T5 ?_ (by omega) g4 hRr ?_
       ·rw[List.append_assoc,←hdr];exact setRow_heap w b cur _ ob.Et (0,0) g1
       ·rw[List.append_assoc,←hdr,List.length_append,DE,List.length_drop,Array.length_toList,←g2];omega
       ·rw[←hR,List.flatten_append,F9 n (mem_row W1),F8 n (mem_row ME),jM];exact((S6.take _).append (q1.drop _)).mono fun _ _ h=>h.mono hex.RT hex.sub
      obtain⟨w1,w2⟩:=hW.write hid Ca g1 VF;refine⟨_,_,B_ _ _ KU,φ,IR.int _ _,?_,w2,fun k hk=>hφ k (by simpa using hk)⟩
      rw[MA m9];exact w1
     ·have DG:ob.rows=[]:=List.eq_nil_of_length_eq_zero hlen;have AN:n=0:=by rw[DG]at XX;simpa using XX.symm
      subst AN;have Og:R=[]:=by rw[←hR,DG];simp
      have KU:=GX (P:=P) (w:=w) (ty:=o.type) (k:=new.length) (cap:=cap) (A:=A) (B:=B) ht hi;refine⟨_,_,B_ _ _ KU,φ,IR.int _ _,?_,⟨fun _ _=>rfl,fun _ h=>h,fun _ _ h=>h⟩,fun k hk=>hφ k (by simpa using hk)⟩
      have T6:hl (H.set id (some {ob with rows:=R}))=hl H:=by
       rw[MA m9,Og,←DG]
       funext k
       by_cases hk:k=id
       ·rw[if_pos hk,hk,hid]
       ·rw[if_neg hk]
      rw[T6];exact hW
   ·cases hf
  ·cases hf
 ·cases hf
end
end
section
open Go.RowKit
section
variable {P : Program} {Γ : a5} {φ φ' : Pl} {M M' : Nat → Prop} {h hD : Nat → Option Ob} {w w' : World} {a : Act} {hs : List Hint} {o : Oper} {L : Nat → AV} {base : Nat} {r : Wr}
theorem E7:∀{ids:List Nat} {e9:List Ob},Rw h ids=some e9→e9.length=ids.length∧∀(j i:Nat),ids[j]?=some i→∃ob,e9[j]?=some ob∧h i=some ob
 | [],_,e=>by cases e;exact⟨rfl,fun j i hj=>by simp at hj⟩
 |x ::ids,e9,e=>by
  simp only[Rw]at e;split at e
  ·rename_i ob os h1 h2;cases e;obtain⟨g1,g2⟩:=E7 h2;refine⟨by simp [g1],fun j i hj=>?_⟩
   cases j with
   |zero=>simp at hj;subst hj;exact⟨ob,rfl,h1⟩
   |succ j=>exact g2 j i (by simpa using hj)
  ·cases e
theorem Rp:∀{e9:List Ob},ze e9≤e9.length
 | []=>Nat.le_refl _
 |o ::r=>by
  simp only[ze];cases o.box
  ·simp
  ·have:=Rp (e9:=r);simp only[cond_true,List.length_cons];omega
theorem Rq:∀{e9:List Ob} {j:Nat} {o:Ob},j<ze e9→e9[j]?=some o→o.box=true
 | [],j,_,h,_=>by simp [ze]at h
 |x ::r,j,o,h,e=>by
  simp only[ze]at h;cases hx:x.box with
  |false=>rw[hx]at h;simp at h
  |true =>
   rw[hx]at h;simp only[cond_true]at h;cases j with
   |zero=>simp at e;subst e;exact hx
   |succ j=>exact Rq (e9:=r) (j:=j) (by omega) (by simpa using e)
theorem LN{φ:Pl}:∀{l:List Ob} {i:Nat} {p:Nat×Nat},p∈sH φ i l→∃(j:Nat) (ob:Ob) (C:Nat),p.1=i+j∧l[j]?=some ob∧ob.box=true∧φ (i+j)=some (some (p.2,C))
 | [],_,_,h=>by cases h
 |o ::r,i,p,h=>by
  simp only[sH,List.mem_append]at h;rcases h with h|h
  ·split at h
   ·rename_i b C hb hφ;simp only[List.mem_singleton]at h;subst h;exact⟨0,o,C,rfl,rfl,hb,hφ⟩
   ·cases h
  ·obtain⟨j,ob,C,h1,h2,h3,h4⟩:=LN h;exact⟨j+1,ob,C,by omega,by simpa using h2,h3,by rw[show i+(j+1)=i+1+j by omega];exact h4⟩
theorem OJ{φ:Pl}:∀{l:List Ob} {i j:Nat} {ob:Ob} {b C:Nat},l[j]?=some ob→ob.box=true→φ (i+j)=some (some (b,C))→(i+j,b)∈sH φ i l
 | [],_,_,_,_,_,h,_,_=>by simp at h
 |o ::r,i,j,ob,b,C,h,hb,hφ=>by
  simp only[sH,List.mem_append];cases j with
  |zero =>
   simp at h;subst h;left;rw[hb];rw[Nat.add_zero]at hφ ⊢;rw[hφ];simp
  |succ j =>
   right;have:=OJ (l:=r) (i:=i+1) (j:=j) (by simpa using h) hb (by rw[show i+1+j=i+(j+1) by omega];exact hφ)
   rw[show i+1+j=i+(j+1) by omega]at this;exact this
theorem LL:∀{l:List Nat} {i j x:Nat},wT l=true→l[i]?=some x→l[j]?=some x→i=j
 | [],_,_,_,_,h,_=>by simp at h
 |y ::l,i,j,x,hn,hi,hj=>by
  simp only[wT,Bool.and_eq_true,Bool.not_eq_true']at hn;have hy:∀k,l[k]?≠some y:=fun k e=>by
   have h1:=hn.1;rw[←Bool.not_eq_true,List.contains_iff_mem]at h1;exact h1 (List.mem_of_getElem? e)
  cases i with
  |zero =>
   cases j with
   |zero=>rfl
   |succ j=>simp at hi hj;subst hi;exact absurd hj (hy j)
  |succ i =>
   cases j with
   |zero=>simp at hi hj;subst hj;exact absurd hi (hy i)
   |succ j=>exact congrArg (·+1) (LL hn.2 (by simpa using hi) (by simpa using hj))
theorem Ms{a b:List (Nat×Option Ob)}{id:Nat}:nO (a++b) id=match nO a id with
  |some o=>some o
  |none=>nO b id:=by
 induction a with
 |nil=>rfl
 |cons x a ih =>
  obtain⟨u,o⟩:=x;simp only[List.cons_append,nO];cases(u == id)with
  |true=>rfl
  |false=>exact ih
theorem JG{id:Nat}:∀{ids:List Nat},nO (NW ids) id=if id∈ids then some none else none
 | []=>rfl
 |x ::ids=>by
  show(bif x == id then some none else nO (NW ids) id)=_;rw[JG];by_cases hx:x=id
  ·subst hx;simp
  ·have:(x == id)=false:=by simpa using hx
   rw[this];have xi:¬id=x:=fun e=>hx e.symm
   simp [xi]
theorem Lp{m:Nat→Option Nat}{id:Nat}{o:Option Ob}:∀{ids:List Nat} {e9:List Ob},nO (KO m ids e9) id=some o→∃(j:Nat) (ob:Ob),ids[j]?=some id∧e9[j]?=some ob∧o=some (g0 m ob)
 | [],_,h=>by cases h
 |_ ::_,[],h=>by cases h
 |x ::ids,y ::e9,h=>by
  simp only[KO,nO]at h;cases hx:(x == id)with
  |true =>
   rw[hx]at h;cases h;exact⟨0,y,by simpa using hx,rfl,rfl⟩
  |false =>
   rw[hx]at h;obtain⟨j,ob,h1,h2,h3⟩:=Lp (ids:=ids) (e9:=e9) h;exact⟨j+1,ob,by simpa using h1,by simpa using h2,h3⟩
theorem B4{m:Nat→Option Nat}{id:Nat}:∀{ids:List Nat} {e9:List Ob},ids.length≤e9.length→nO (KO m ids e9) id=none→id ∉ ids
 | [],_,_,_=>by simp
 |_ ::_,[],h,_=>by simp at h
 |x ::ids,y ::e9,hl,h=>by
  simp only[KO,nO]at h;cases hx:(x == id)with
  |true=>rw[hx]at h;cases h
  |false =>
   rw[hx]at h;have:=B4 (ids:=ids) (e9:=e9) (by simpa using hl) h
   have xi:¬id=x:=fun e=>by simp [e]at hx
   simp [xi,this]
theorem Pb{c:Call}(ho:o.op=.call c)(hf:RO P h base L c hs=some r)(cF:cA r.e9)(hF:∀t,AR w M φ (L t) (a.tmps.getD t undef))(hW:Wd Γ φ M hD w)(ef:∀id ob,h id=some ob→hD id=some ob)
  (pM:∀id,base≤id→id<base+r.news.length→φ id=none∧hD id=none) {K:Act→World→Prop}
  (hK:∀v w',Wo Γ φ M hD base w r v w'→K (a.put o.dst v) w'):o.wp P a w K NQ:=by
 unfold RO at hf;split at hf
 ·rename_i f Zm;split at hf
  ·rename_i k gE ve o1 ids r0 out gR h1 h2;split at hf
   ·rename_i sC sD hp0 U6;cases hc:(wT ids&&Nat.ble (ze sC) sD.length&&((sC.drop (ze sC)).all (fun x=>!x.box)&&(sD.take (ze sC)).all (fun x=>x.box)))with
    |false=>rw[hc]at hf;cases hf
    |true =>
     rw[hc]at hf;cases hf;simp only[Bool.and_eq_true,Nat.ble_eq]at hc;obtain⟨⟨XY,hnb⟩,-,-⟩:=hc;have Hw:=EF U6;subst Hw;obtain⟨Mx,U7⟩:=E7 hp0;have QeK:=Rp (e9:=sC);generalize QbN:ze sC=nb at *;simp only[a0,cA]at cF;have WU:AR w M φ (uP L f) (a.eval f):=EE hF f;rw[h1]at WU;obtain⟨Vm,Zq,Sc⟩:LR w M φ (.fn (.func k) gE) (a.eval f):=WU;have Lu:Rs (CR w M φ) (gE.map Cm.one) Vm:=by
      refine Rs.uD (Sc.imp_mem fun x hx y h=>?_)
      exact tC.lr h
     have XL:Rs (CR w M φ) (ve++gE.map Cm.one) (c.args.toList.map a.eval++Vm):=(rq hF trivial h2 cF.1).append Lu
     -- WD Qv callee is handed
     let φc:Pl:=fun j=>match ids[j]? with
      |some i=>φ i
      |none=>none
     have W7:∀j i,ids[j]?=some i→φc j=φ i:=fun j i hj=>by simp only[φc,hj]
     have Qcg:∀j,ids.length≤j→φc j=none:=fun j hj=>by simp only[φc,List.getElem?_eq_none hj]
     have T1:∀j ob,(sC.map (g0 (posOf ids 0)))[j]?=some ob→∃i Iv,ids[j]?=some i∧sC[j]?=some Iv∧ob=g0 (posOf ids 0) Iv∧hD i=some Iv:=fun j ob hj=>by
      rw[List.getElem?_map]at hj;cases ZI:sC[j]? with
      |none=>rw[ZI]at hj;cases hj
      |some Iv =>
       rw[ZI]at hj;cases hj;have m9:j<ids.length:=by rw[←Mx];exact(List.getElem?_eq_some_iff.1 ZI).1
       obtain⟨KI,g1,g2⟩:=U7 j ids[j] (List.getElem?_eq_getElem m9);rw[ZI]at g1;cases g1;exact⟨ids[j],Iv,List.getElem?_eq_getElem m9,ZI,rfl,ef _ _ g2⟩
     have hmc:∀id k p,posOf ids 0 id=some k→φ id=some p→φc k=some p:=fun id k p hk hp=>by
      obtain⟨-,g⟩:=E8 hk;rw[Nat.sub_zero]at g;rw[W7 k id g];exact hp
     have WY:(sC.map (g0 (posOf ids 0))).length=ids.length:=by rw[List.length_map,Mx]
     have Q9:∀b,(∃id C,id<(sC.map (g0 (posOf ids 0))).length∧φc id=some (some (b,C)))→∃i ob C,i∈ids∧hD i=some ob∧φ i=some (some (b,C)):=fun b ⟨j,C,hj,hφj⟩=>by
      have Ns:j<ids.length:=by rw[←WY];exact hj
      obtain⟨KI,g1,g2⟩:=U7 j ids[j] (List.getElem?_eq_getElem Ns);rw[W7 j _ (List.getElem?_eq_getElem Ns)]at hφj;exact⟨ids[j],KI,C,List.getElem_mem Ns,ef _ _ g2,hφj⟩
     have hWc:Wd ⟨w,fun b=>∃id C,id<(sC.map (g0 (posOf ids 0))).length∧φc id=some (some (b,C)),M,sH φc 0 (sC.map (g0 (posOf ids 0)))⟩ φc M (fun id=>(sC.map (g0 (posOf ids 0)))[id]?) w:=by
      refine⟨fun j ob e=>?_,fun i j oi oj b Ci Cj ei ej pi pj=>?_,hW.mlt,fun _ h=>h,fun _ h=>.inl h,fun j ob b C e p=>?_,fun _ _ _=>rfl,rfl,rfl,rfl,Nat.le_refl _,fun p hp=>?_,fun b cs ht=>⟨(hW.Xs b cs ht).1,fun ho=>by obtain⟨i,ob,C,_,g2,g3⟩:=Q9 b ho;exact(hW.own i ob b C g2 g3).1 (hW.Xs b cs ht).1,(hW.Xs b cs ht).2⟩⟩
      ·obtain⟨i,Iv,g1,g2,rfl,g4⟩:=T1 j ob e;exact CJ hmc (W7 j i g1) (hW.e9 i Iv g4)
      ·obtain⟨ii,oi0,g1,-,-,g4⟩:=T1 i oi ei;obtain⟨jj,oj0,k1,-,-,k4⟩:=T1 j oj ej;rw[W7 i ii g1]at pi;rw[W7 j jj k1]at pj;have:=hW.inj ii jj oi0 oj0 b Ci Cj g4 k4 pi pj;subst this;exact LL XY g1 k1
      ·obtain⟨i,Iv,g1,g2,-,g4⟩:=T1 j ob e;have p':=p;rw[W7 j i g1]at p;obtain⟨q1,q2,q3⟩:=hW.own i Iv b C g4 p;exact⟨q1,q2,.inl ⟨j,C,(List.getElem?_eq_some_iff.1 e).1,p'⟩⟩
      ·obtain⟨j,ob,C,e1,e2,e3,e4⟩:=LN hp;rw[Nat.zero_add]at e1 e4;obtain⟨i,Iv,g1,g2,rfl,g4⟩:=T1 j ob e2;rw[e1,e4];obtain⟨b1,q1⟩:=(CJ hmc (W7 j i g1) (hW.e9 i Iv g4)).boxed e3;rw[e4]at q1;cases q1;rfl
     have AM:Rs (CR w M φc) ((ve++gE.map Cm.one).map (Qn (posOf ids 0))) (c.args.toList.map a.eval++Vm):=Rs.uD (XL.mono fun _ _ h=>GR hmc h)
     unfold Oper.wp;rw[Kj ho Zm Zq cF.2.1.1];show Calls P k _ w _;refine(cF.2.1.2 w φc M _ hWc (fun id hid=>Qcg id (by rw[←WY];exact hid)) AM).mono ?_
     rintro e w' ⟨v,φ',M',rfl,hr,mw,PV⟩;rw[List.length_map]at PV;have U4:∀i,hl (sD.map some) i=sD[i]?:=fun i=>by unfold hl;rw[List.getElem?_map];cases sD[i]? <;> rfl
     refine hK v w' ?_
     have hnw:((sD.drop nb).map (g0 (pV ids nb base))).length=sD.length-nb:=by simp
     simp only[hnw]at pM
     -- where Qv boxes lie
     have nQ:∀j i,j<nb→ids[j]?=some i→∃b,φ i=some (some (b,1))∧φ' j=some (some (b,1)):=fun j i hj hi=>by
      obtain⟨Iv,g1,g2⟩:=U7 j i hi;have hb0:Iv.box=true:=Rq (by rw[QbN];exact hj) g1
      obtain⟨b,Ca⟩:=(hW.e9 i Iv (ef _ _ g2)).boxed hb0;refine⟨b,Ca,?_⟩;have hm0:(sC.map (g0 (posOf ids 0)))[j]?=some (g0 (posOf ids 0) Iv):=by rw[List.getElem?_map,g1];rfl
      have:=mw.zA (0+j,b) (OJ (C:=1) hm0 (by rw[LY];exact hb0) (by rw[Nat.zero_add,W7 j i hi,Ca]))
      rw[Nat.zero_add]at this;exact this
     let φ2:Pl:=fun i=>if base≤i∧i<base+(sD.length-nb)then φ' (nb+(i-base))else φ i
     have y3:∀i,base≤i→i<base+(sD.length-nb)→φ2 i=φ' (nb+(i-base)):=fun i h1 h2=>if_pos ⟨h1,h2⟩
     have Io:∀i,¬(base≤i∧i<base+(sD.length-nb))→φ2 i=φ i:=fun i h=>if_neg h
     have A6:∀i p,φ i=some p→φ2 i=some p:=fun i p h=>by
      by_cases hi:base≤i∧i<base+(sD.length-nb)
      ·rw[(pM i hi.1 hi.2).1]at h;cases h
      ·rw[Io i hi];exact h
     have YS:∀id k p,pV ids nb base id=some k→φ' id=some p→φ2 k=some p:=fun id k p hk hp=>by
      unfold pV at hk;cases m9:Nat.blt id nb with
      |true =>
       rw[m9]at hk;have TZ:id<nb:=Nat.le_of_ble_eq_true m9;obtain⟨b,g1,g2⟩:=nQ id k TZ hk;rw[g2]at hp;cases hp;exact A6 _ _ g1
      |false =>
       rw[m9]at hk;cases hk;have U3:¬id<nb:=fun h=>by
        have:Nat.blt id nb=true:=Nat.ble_eq_true_of_le h;rw[m9]at this;cases this
       have hid:id<sD.length:=by
        rcases Nat.lt_or_ge id sD.length with h|h
        ·exact h
        ·rw[PV id h]at hp;cases hp
       rw[y3 _ (by omega) (by omega),show nb+(base+(id-nb)-base)=id by omega];exact hp
     -- blocks Ws Qv callee was not handed
     have Ok:∀b,b<w.heap.size→(∀i ob C,i∈ids→hD i=some ob→φ i≠some (some (b,C)))→w'.heap[b]?=w.heap[b]?:=fun b hb hn=>mw.Ce b hb fun h=>by
      obtain⟨i,ob,C,g1,g2,g3⟩:=Q9 b h;exact hn i ob C g1 g2 g3
     have hMk:∀b,M b→w'.heap[b]?=w.heap[b]?:=fun b hb=>Ok b (hW.mlt b hb) fun i ob C g1 g2 g3=>(hW.own i ob b C g2 g3).1 hb
     have hex:Ex w M φ w' M' φ2:=⟨hMk,mw.m0,A6⟩;have jM:w.heap.size≤w'.heap.size:=mw.size;have YR:∀b,M' b→M b∨(∃i ob C,i∈ids∧hD i=some ob∧φ i=some (some (b,C)))∨w.heap.size≤b:=fun b hb=>by
      rcases mw.Gu b hb with h|h|h
      ·exact .inl h
      ·exact .inr (.inl (Q9 b h))
      ·exact .inr (.inr h)
     have T4:∀jj ob b C,sD[jj]?=some ob→φ' jj=some (some (b,C))→¬M' b∧b<w'.heap.size∧((∃i ob C,i∈ids∧hD i=some ob∧φ i=some (some (b,C)))∨w.heap.size≤b):=fun jj ob b C e p=>by
      obtain⟨g1,g2,g3⟩:=mw.own jj ob b C ((U4 jj).trans e) p;refine⟨g1,g2,?_⟩;rcases g3 with h|h
      ·exact .inl (Q9 b h)
      ·exact .inr h
     -- Qv objects Ws are there
     have QbJ:(ids.take nb).length≤(sD.take nb).length:=by simp;omega
     have key:∀i ob,LO (Ib hD (KO (pV ids nb base) (ids.take nb) (sD.take nb)++NW (ids.drop nb))) base ((sD.drop nb).map (g0 (pV ids nb base))) i=some ob→
       (∃jj KI,sD[jj]?=some KI∧ob=g0 (pV ids nb base) KI∧φ2 i=φ' jj∧(∀i',pV ids nb base jj=some i'→i'=i)∧(pV ids nb base jj=some i))∨(¬(base≤i∧i<base+(sD.length-nb))∧i ∉ ids∧hD i=some ob):=fun i ob e=>by
      unfold LO at e;rw[hnw]at e;by_cases hi:base≤i∧i<base+(sD.length-nb)
      ·rw[if_pos hi,List.getElem?_map,List.getElem?_drop]at e;cases h3:sD[nb+(i-base)]? with
       |none=>rw[h3]at e;cases e
       |some KI =>
        rw[h3]at e;cases e;have hid:pV ids nb base (nb+(i-base))=some i:=by
         unfold pV;have:Nat.blt (nb+(i-base)) nb=false:=by rw[←Bool.not_eq_true];intro h;have:=Nat.le_of_ble_eq_true h;omega
         rw[this];simp only[cond_false];congr 1;omega
        exact .inl ⟨nb+(i-base),KI,h3,rfl,y3 i hi.1 hi.2,fun i' h=>by rw[hid]at h;exact(Option.some.inj h).symm,hid⟩
      ·rw[if_neg hi]at e;unfold Ib at e;rw[Ms]at e;cases h3:nO (KO (pV ids nb base) (ids.take nb) (sD.take nb)) i with
       |some ov =>
        rw[h3]at e;simp only at e;obtain⟨j,KI,g1,g2,g3⟩:=Lp h3;rw[e]at g3;cases g3;rw[List.getElem?_take]at g1 g2;have hj:j<nb:=by
         rcases Nat.lt_or_ge j nb with h|h
         ·exact h
         ·rw[if_neg (by omega)]at g1;cases g1
        rw[if_pos hj]at g1 g2;obtain⟨b,q1,q2⟩:=nQ j i hj g1;have hid:pV ids nb base j=some i:=by
         unfold pV;have:Nat.blt j nb=true:=Nat.ble_eq_true_of_le hj;rw[this];exact g1
        exact .inl ⟨j,KI,g2,rfl,by rw[Io i hi,q1,q2],fun i' h=>by rw[hid]at h;exact(Option.some.inj h).symm,hid⟩
       |none =>
        rw[h3]at e;simp only[JG]at e;have n1:=B4 QbJ h3;by_cases hd:i∈ids.drop nb
        ·rw[if_pos hd]at e;cases e
        ·rw[if_neg hd]at e;refine .inr ⟨hi,fun hm=>?_,e⟩
         rw[←List.take_append_drop nb ids,List.mem_append]at hm;rcases hm with h|h
         ·exact n1 h
         ·exact hd h
     have hold:∀i ob b C,i ∉ ids→hD i=some ob→φ i=some (some (b,C))→w'.heap[b]?=w.heap[b]?:=fun i ob b C hi e p=>Ok b (hW.own i ob b C e p).2.1 fun i2 Ux C2 g1 g2 g3=>hi (by rw[hW.inj i i2 ob Ux b C C2 e g2 p g3];exact g1)
     refine⟨φ2,M',GQ YS hr,?_,hex,fun i hi=>?_⟩
     ·refine⟨fun i ob e=>?_,fun i j oi oj b Ci Cj ei ej pi pj=>?_,mw.mlt,fun b hb=>mw.m0 b (hW.m0 b hb),fun b hb=>?_,fun i ob b C e p=>?_,fun b hb hn=>?_,mw.os.trans hW.os,mw.tape.trans hW.tape,mw.output.trans hW.output,Nat.le_trans hW.size jM,fun p hp=>A6 _ _ (hW.zA p hp),hW.Te⟩
      ·rcases key i ob e with⟨jj,KI,g1,rfl,g3,-,-⟩|⟨g1,g2,g3⟩
       ·exact CJ YS g3 (mw.e9 jj KI ((U4 jj).trans g1))
       ·exact(hW.e9 i ob g3).mono hex fun b C p=>hold i ob b C g2 g3 p
      ·rcases key i oi ei with⟨ii,oi1,g1,-,g3,g4,g5⟩|⟨g1,g2,g3⟩ <;> rcases key j oj ej with⟨jj,oj1,k1,-,k3,k4,k5⟩|⟨k1,k2,k3⟩
       ·rw[g3]at pi;rw[k3]at pj;have:=mw.inj ii jj oi1 oj1 b Ci Cj ((U4 ii).trans g1) ((U4 jj).trans k1) pi pj;subst this;exact k4 i g5
       ·exfalso;rw[g3]at pi;rw[Io j k1]at pj;have m9:=(hW.own j oj b Cj k3 pj).2.1;rcases(T4 ii oi1 b Ci g1 pi).2.2 with⟨i2,Ux,C2,q1,q2,q3⟩|h
        ·exact k2 (by rw[hW.inj j i2 oj Ux b Cj C2 k3 q2 pj q3];exact q1)
        ·omega
       ·exfalso;rw[k3]at pj;rw[Io i g1]at pi;have m9:=(hW.own i oi b Ci g3 pi).2.1;rcases(T4 jj oj1 b Cj k1 pj).2.2 with⟨i2,Ux,C2,q1,q2,q3⟩|h
        ·exact g2 (by rw[hW.inj i i2 oi Ux b Ci C2 g3 q2 pi q3];exact q1)
        ·omega
       ·rw[Io i g1]at pi;rw[Io j k1]at pj;exact hW.inj i j oi oj b Ci Cj g3 k3 pi pj
      ·rcases YR b hb with h|⟨i,ob,C,g1,g2,g3⟩|h
       ·exact hW.Gu b h
       ·exact .inr (hW.own i ob b C g2 g3).2.2
       ·exact .inr (.inr (Nat.le_trans hW.size h))
      ·rcases key i ob e with⟨jj,KI,g1,-,g3,-,-⟩|⟨g1,g2,g3⟩
       ·rw[g3]at p;obtain⟨q1,q2,q3⟩:=T4 jj KI b C g1 p;refine⟨q1,q2,?_⟩;rcases q3 with⟨i2,Ux,C2,s1,s2,s3⟩|h
        ·exact(hW.own i2 Ux b C2 s2 s3).2.2
        ·exact .inr (Nat.le_trans hW.size h)
       ·rw[Io i g1]at p;obtain⟨q1,q2,q3⟩:=hW.own i ob b C g3 p;refine⟨fun hb=>?_,Nat.lt_of_lt_of_le q2 jM,q3⟩
        rcases YR b hb with h|⟨i2,Ux,C2,s1,s2,s3⟩|h
        ·exact q1 h
        ·exact g2 (by rw[hW.inj i i2 ob Ux b C C2 g3 s2 p s3];exact s1)
        ·omega
      ·refine(Ok b (Nat.lt_of_lt_of_le hb hW.size) fun i ob C g1 g2 g3=>?_).trans (hW.Ce b hb hn)
       rcases(hW.own i ob b C g2 g3).2.2 with h|h
       ·exact hn h
       ·omega
     ·by_cases h:base≤i∧i<base+(sD.length-nb)
      ·right;rw[hnw];exact h
      ·rw[Io i h]at hi;exact .inl hi
   ·cases hf
  ·cases hf
 ·cases hf
theorem G9{id:Nat}{ob:Option Ob}:Ib hD [(id,ob)]=fun i=>if i=id then ob else hD i:=by
 funext i
 unfold Ib;simp only[nO];by_cases h2:i=id
 ·subst h2;simp
 ·have:(id == i)=false:=by simpa using fun e:id=i=>h2 e.symm
  rw[if_neg h2,this];rfl
theorem Nm{t:TypeId}{x y:Operand}(S7:o.op=.store t x y)(hf:Nl P h L t x y hs=some r)(cF:cA r.e9)(hF:∀t,AR w M φ (L t) (a.tmps.getD t undef))(hW:Wd Γ φ M hD w)(ef:∀id ob,h id=some ob→hD id=some ob):
  ∃w',(execOp a.eval o).run P w=.ok .skip w'∧Wo Γ φ M hD base w r undef w':=by
 unfold Nl at hf
 ·split at hf
  ·rename_i id sz row off o1 c o2 n h1 h2 ht;split at hf
   ·rename_i ob hid;split at hf
    ·rename_i cells nQ iF;cases hc:(ob.sz == sz&&n == c.cells.length&&(row == 0&&Nat.ble (off+n) cells.length))with
     |false=>rw[hc]at hf;cases hf
     |true =>
      rw[hc]at hf;cases hf;simp only[Bool.and_eq_true,beq_iff_eq,Nat.ble_eq]at hc;obtain⟨⟨jM,hn⟩,rfl,IJ⟩:=hc;rw[a0]at cF;have hO:=hW.e9 id ob (ef id ob hid);obtain⟨b,C,Ca,hv⟩:tC w M φ (.op id sz 0 off) (a.eval x):=bQ hF h1 cF.1 trivial;have hy:=(bQ hF h2 cF.2 trivial).cells;obtain⟨h0,Of⟩:=hO.oc (.inr ⟨_,iF⟩);rw[Ca]at Of;obtain⟨cur,g1,g2,g3,g4,g5,g6⟩:=Of;obtain⟨hm,Qbm,Ol⟩:=hW.own id ob b C (ef id ob hid) Ca;have TR:(a.eval y).cells.size=n:=by rw[←Array.length_toList,←hy.len,hn]
      have hex:∀new,Ex w M φ (w.setRow b new) M φ:=fun new=>⟨fun c hc=>setRow_other w b c new fun e=>hm (e▸hc),fun _ h=>h,fun _ _ h=>h⟩
      have DE:cells.length=ob.sz:=(g6 0 cells (by rw[iF];rfl)).1
      have hC:1≤C:=by rw[iF]at g3;simpa using g3
      have hle:ob.sz≤cur.size:=by rw[g2];exact Nat.le_mul_of_pos_left _ hC
      have hvl:=hy.len;have Qew:cur.toList.length=cur.size:=Array.length_toList;have c6:=ye (P:=P) (p:=0*sz+off) ht TR g1 (by rw[Nat.zero_mul];omega) (Rs.J4 hy)
      refine⟨w.setRow b (cur.toList.take (0*sz+off)++(a.eval y).cells.toList++cur.toList.drop (0*sz+off+(a.eval y).cells.toList.length)).toArray,by simp only[execOp,S7,hv,Instr.storeAt,Instr.sureAddr,Sem.run_bind,Sem.run_pure,Result.andThen_ok,c6],?_⟩
      suffices hs:Wd Γ φ M (fun i=>if i=id then some {ob with rows:=[cells.take off++c.cells++cells.drop (off+n)]}else hD i) (w.setRow b (cur.toList.take (0*sz+off)++(a.eval y).cells.toList++cur.toList.drop (0*sz+off+(a.eval y).cells.toList.length)).toArray)∧Ex w M φ (w.setRow b (cur.toList.take (0*sz+off)++(a.eval y).cells.toList++cur.toList.drop (0*sz+off+(a.eval y).cells.toList.length)).toArray) M φ by
       exact⟨φ,M,trivial,by rw[sI,G9];exact hs.1,hs.2,fun _ h=>.inl h⟩
      refine hW.write (xj:={ob with rows:=[cells.take off++c.cells++cells.drop (off+n)]}) (ef id ob hid) Ca g1 (.inl ⟨h0,?_⟩);rw[Ca];refine⟨_,setRow_heap w b cur _ ob.Et (0,0) g1,?_,by simpa using hC,g4,g5,fun i d hd=>?_⟩
      ·rw[←g2];simp;omega
      ·cases i with
       |succ i=>simp at hd
       |zero =>
        obtain rfl:=Option.some.inj (show some _=some d from hd);refine⟨by simp;omega,fun j l hj=>?_⟩
        have h3:=qJ (l:=cells) (vs:=c.cells) (p:=off) (by omega) j
        rw[hn]at hj;rw[h3]at hj;rw[List.getElem?_toArray,Nat.zero_mul,Nat.zero_add,Nat.zero_mul,Nat.zero_add,qJ (by omega)]
        have OF:∀l,cells[j]?=some l→∃v,cur.toList[j]?=some v∧(if ob.box=true then LR (w.setRow b (cur.toList.take off++(a.eval y).cells.toList++cur.toList.drop (off+(a.eval y).cells.toList.length)).toArray) M φ l v else IR (w.setRow b (cur.toList.take off++(a.eval y).cells.toList++cur.toList.drop (off+(a.eval y).cells.toList.length)).toArray) M l v):=fun l hl=>by
         obtain⟨v,hv,hr⟩:=(g6 0 cells (by rw[iF];rfl)).2 j l hl
         rw[Nat.zero_mul,Nat.zero_add]at hv;rw[if_pos nQ]at hr;exact⟨v,by simpa using hv,by rw[if_pos nQ];exact hr.mono (hex _)⟩
        by_cases j1:j<off
        ·rw[if_pos j1]at hj ⊢;exact OF l hj
        ·rw[if_neg j1]at hj ⊢;by_cases j2:j<off+c.cells.length
         ·rw[if_pos j2]at hj;rw[if_pos (by omega)]
          obtain⟨v,hv,hr⟩:=hy.get hj;exact⟨v,hv,by rw[if_pos nQ];exact hr.mono (hex _)⟩
         ·rw[if_neg j2]at hj;rw[if_neg (by omega)]
          exact OF l hj
    ·cases hf
   ·cases hf
  ·cases hf
theorem QA{t:TypeId}{m k v:Operand}(S7:o.op=.mapUpdate t m k v)(hf:WB P h L t m k v hs=some r)(cF:cA r.e9)(hF:∀t,AR w M φ (L t) (a.tmps.getD t undef))(hW:Wd Γ φ M hD w)(ef:∀id ob,h id=some ob→hD id=some ob):
  ∃w',(execOp a.eval o).run P w=.ok .skip w'∧Wo Γ φ M hD base w r undef w':=by
 unfold WB at hf;split at hf
 ·rename_i kt vt id o1 kl o2 vl o3 R gR hu h1 h2 h3;split at hf
  ·rename_i ob hid;split at hf
   ·rename_i rs hm;cases hc:(ob.box&&JV vl&&Hy P kt kl)with
    |false=>rw[hc]at hf;cases hf
    |true =>
     rw[hc]at hf;cases hf;simp only[Bool.and_eq_true]at hc;simp only[a0,cA]at cF;obtain⟨b,hφ,hv⟩:tC w M φ (.mp id) (a.eval m):=bQ hF h1 cF.1.1.1 trivial;have hk:CR w M φ kl (a.eval k):=bQ hF h2 cF.1.1.2 trivial;have hx:LR w M φ vl (a.eval v):=bQ hF h3 cF.1.2 trivial;have YP:=Oq hc.2 hk;have XU:=ef id ob hid;obtain⟨b',es,KC,g1,g2,g3,g4⟩:=J5 (hW.e9 id ob XU) hm hc.1.1;rw[hφ]at g1;cases g1;have Zn:=YP.check false
     -- Qv map as it is left
     have key:∀(YC:Array MapEntry) (TA:Nat),Rs (yT w M) R YC.toList→(execOp a.eval o).run P w=.ok .skip {w with heap:=w.heap.setIfInBounds b (.map YC TA)}→
       ∃w',(execOp a.eval o).run P w=.ok .skip w'∧Wo Γ φ M hD base w ⟨.Iy,[(id,some {ob with rows:=[] :: [] ::R})],[],o1++o2++o3++[wO rs kl.cells vl=some R],gR⟩ undef w':=fun YC TA hR c6=>by
      obtain⟨k1,k2⟩:=Go.MapKept.heap_set (o':=.map YC TA) g2;have hm0:=(hW.own id ob b 1 XU hφ).1;have hex:Ex w M φ {w with heap:=w.heap.setIfInBounds b (.map YC TA)} M φ:=⟨fun c hc=>k2 c fun e=>hm0 (e▸hc),fun _ h=>h,fun _ _ h=>h⟩
      refine⟨_,c6,φ,M,trivial,?_,hex,fun _ h=>.inl h⟩
      rw[sI,G9];exact hW.Ww XU hφ (fun c hc=>k2 c hc) (by simp) rfl rfl rfl (.inr ⟨hc.1.1,R,b,YC,TA,rfl,hφ,k1,hR.mono fun _ _ h=>yT.mono hex.RT hex.sub h⟩)
     rcases YP.put (LR.JU hc.1.2 hx) g3 cF.2.1 with⟨q1,q2⟩|⟨j,u,e,q1,q2,q3,q4⟩
     ·refine key (es.push {key:=a.eval k,val:=a.eval v,born:=KC}) (KC+1) (by rw[Array.toList_push];exact q2 KC) ?_
      simp [execOp,S7,hv,Instr.mapUpdate,run_underlying hu,Go.MapKept.run_getObj_map g2,Zn,q1,Go.MapKept.run_setObj_map _ g2,Result.andThen]
     ·have hej:es[j]?=some e:=by rw[←Array.getElem?_toList];exact q2
      have pk:=YP.stays;refine key (es.modify j fun e=>{e with key:=a.eval k,val:=a.eval v}) KC ?_ ?_
      ·have:(es.modify j fun e=>{e with key:=a.eval k,val:=a.eval v}).toList=es.toList.set j {e with key:=a.eval k,val:=a.eval v}:=by
        apply List.ext_getElem?;intro i;rw[Array.getElem?_toList,Array.getElem?_modify,List.getElem?_set];by_cases Zy:j=i
        ·subst Zy;have m9:=(List.getElem?_eq_some_iff.1 q2).1;have ZD:j<es.size:=by simpa using m9
         have Pg:es[j]=e:=by rw[Array.getElem?_eq_getElem ZD]at hej;exact Option.some.inj hej
         simp [ZD,Pg]
        ·simp [Zy]
       rw[this];exact q4
      ·have hkk:(((es[j]?).map (·.key)).getD (a.eval k))=a.eval k:=by rw[hej];exact q3
       simp only[Option.map]at hkk;simp [execOp,S7,hv,Instr.mapUpdate,run_underlying hu,Go.MapKept.run_getObj_map g2,Zn,q1,Result.andThen];rw[hej];simp [q3,pk,Go.MapKept.run_setObj_map _ g2,Result.andThen]
   ·cases hf
  ·cases hf
 ·cases hf
theorem Qz{t:TypeId}{x hi:Operand}(S7:o.op=.slice t x none (some hi) none)(hf:WA P h L t x hi hs=some r)(cF:cA r.e9)(hF:∀t,AR w M φ (L t) (a.tmps.getD t undef))(hW:Wd Γ φ M hD w)(ef:∀id ob,h id=some ob→hD id=some ob):
  ∃v,(execOp a.eval o).run P w=.ok (.value v) w∧Wo Γ φ M hD base w r v w:=by
 unfold WA at hf;split at hf
 ·rename_i id sz off len o1 kd n o2 e R gR h1 h2 he;split at hf
  ·rename_i ob hid;cases hc:(off == 0&&ob.sz == sz&&!ob.box&&Dd P e == some sz)with
   |false=>rw[hc]at hf;cases hf
   |true =>
    rw[hc]at hf;cases hf;simp only[Bool.and_eq_true,beq_iff_eq,Bool.not_eq_true']at hc;obtain⟨⟨⟨rfl,jM⟩,nQ⟩,ZT⟩:=hc;simp only[a0,cA]at cF;obtain⟨⟨p1,p2⟩,hlen,AN,Q7,hR,-⟩:=cF;have hu:=iN he;obtain⟨i,U5,his⟩:=mn ZT;have hx:tC w M φ (.os id sz 0 len) (a.eval x):=bQ hF h1 p1 trivial;have hh:IR w M (.int kd n) (a.eval hi):=bQ hF h2 p2 trivial;generalize KX:a.eval hi=hv at hh;cases hh;replace hid:=ef _ _ hid;have hO:=hW.e9 id ob hid;have Nr:R.length=n.toNat:=by rw[←hR,List.length_take];omega
    have c6:∀v,(Instr.sliceAt t (a.eval x) none (some (.int kd n)) none).run P w=.ok v w→(execOp a.eval o).run P w=.ok (.value v) w:=fun v hv=>by simp [execOp,S7,KX,hv]
    have hex:Ex w M φ w M φ:=⟨fun _ _=>rfl,fun _ h=>h,fun _ _ h=>h⟩
    rcases hx with⟨b,C,Ca,hv,hle⟩|⟨Ca,_,Mx,A,hv⟩
    ·rw[hv]at c6;obtain⟨T5,Of⟩:=hO.oc (.inl nQ);rw[Ca]at Of;obtain⟨cur,g1,g2,g3,g4,g5,g6⟩:=Of;have hb:=tZ (P:=P) (w:=w) (isS:=true) (len:=len) (cap:=C-0) (lo:=none) (hi:=some (.int kd n)) (mx:=none) (ql:=none) (qh:=some n) (qm:=none) (.inl ⟨rfl,rfl⟩) (.inr ⟨kd,n,rfl,rfl⟩) (.inl ⟨rfl,rfl⟩) (fun h=>by cases h) (by simp) (by simpa using AN) (by simp only[Option.getD_some,Option.getD_none];omega) (by simp) (by omega)
     have Pk:=c6 _ (xc hu U5 hb);refine⟨_,Pk,φ,M,?_,?_,hex,fun _ h=>.inl h⟩
     ·refine .inl ⟨b,C,Ca,?_,by omega⟩
      have z0:((none:Option Int).getD 0).toNat=0:=rfl;have z1:((some n).getD (len:Int)).toNat=R.length:=by simp [Nr]
      have z2:((none:Option Int).getD ((C-0:Nat):Int)).toNat=C:=by simp
      rw[z0,z1,z2];simp only[Nat.sub_zero,Nat.zero_mul,Option.map_some];split <;> simp [Addr.add_mid]
     ·rw[sI,G9];refine hW.Ww hid Ca (fun _ _=>rfl) rfl rfl rfl rfl (.inl ⟨T5,?_⟩)
      rw[Ca];refine⟨cur,g1,g2,by simp only;omega,g4,g5,fun j c hc=>g6 j c ?_⟩
      simp only at hc;rw[←hR,List.getElem?_take]at hc;split at hc
      ·exact hc
      ·cases hc
    ·rw[hv]at c6;have DG:ob.rows=[]:=List.eq_nil_of_length_eq_zero (by omega)
     have hn:n=0:=by rw[DG]at Q7;simp only[List.length_nil,Int.natCast_zero]at Q7;omega
     have Og:R=[]:=by rw[←hR,DG];simp
     subst Og;have hb:=tZ (P:=P) (w:=w) (isS:=true) (len:=0) (cap:=0) (lo:=none) (hi:=some (.int kd n)) (mx:=none) (ql:=none) (qh:=some n) (qm:=none) (.inl ⟨rfl,rfl⟩) (.inr ⟨kd,n,rfl,rfl⟩) (.inl ⟨rfl,rfl⟩) (fun h=>by cases h) (by simp) (by simpa using AN) (by simp only[Option.getD_some,Option.getD_none];omega) (by simp) (by omega)
     have Pk:=c6 _ (xc hu U5 hb);refine⟨_,Pk,φ,M,?_,?_,hex,fun _ h=>.inl h⟩
     ·subst hn;exact .inr ⟨Ca,rfl,rfl,A,rfl⟩
     ·rw[sI,G9];have:(fun i=>if i=id then some {ob with rows:=[]}else hD i)=hD:=by
       funext i
       by_cases hi:i=id
       ·subst hi;rw[if_pos rfl,hid];cases ob;simp only at DG;rw[DG]
       ·rw[if_neg hi]
      rw[this];exact hW
  ·cases hf
 ·cases hf
theorem L_(hf:Tf P h base L o.op hs=some r)(cF:cA r.e9)(hF:∀t,AR w M φ (L t) (a.tmps.getD t undef))(hW:Wd Γ φ M hD w)(ef:∀id ob,h id=some ob→hD id=some ob)
  (pM:∀id,base≤id→id<base+r.news.length→φ id=none∧hD id=none) {K:Act→World→Prop}
  (hK:∀v w',Wo Γ φ M hD base w r v w'→K (a.put o.dst v) w'):o.wp P a w K NQ:=by
 cases ho:o.op with
 |store t x y =>
  rw[ho]at hf;obtain⟨w',c6,hm⟩:=Nm (base:=base) ho hf cF hF hW ef;unfold Oper.wp;rw[c6];exact hK undef w' hm
 |mapUpdate t m k v =>
  rw[ho]at hf;obtain⟨w',c6,hm⟩:=QA (base:=base) ho hf cF hF hW ef;unfold Oper.wp;rw[c6];exact hK undef w' hm
 |slice t x lo hi mx =>
  rw[ho]at hf;cases lo with
  |some _=>simp only[Tf]at hf;cases hf
  |none =>
   cases hi with
   |none=>simp only[Tf]at hf;cases hf
   |some hi =>
    cases mx with
    |some _=>simp only[Tf]at hf;cases hf
    |none =>
     simp only[Tf]at hf;obtain⟨v,c6,hm⟩:=Qz (base:=base) ho hf cF hF hW ef;unfold Oper.wp;rw[c6];exact hK v w hm
 |call c =>
  rw[ho]at hf;simp only[Tf]at hf;split at hf
  ·rename_i hc;obtain⟨v,w',c6,hm⟩:=K7 hW ef hF pM ho hc hf cF;unfold Oper.wp;rw[c6];exact hK v w' hm
  ·exact Pb ho hf cF hF hW ef pM hK
 |_=>rw[ho]at hf;simp only[Tf]at hf;cases hf
theorem KB{op:Op}(hf:Tf P h base L op hs=some r):∀u∈r.uO,∃ob,h u.1=some ob:=by
 unfold Tf at hf;split at hf
 ·rename_i t x y;unfold Nl at hf;split at hf
  ·split at hf
   ·rename_i ob hid;split at hf
    ·have mF:∀{c:Bool} {x:Option Wr},(bif c then x else none)=some r→x=some r:=by
      intro c x hc;cases c
      ·cases hc
      ·exact hc
     cases mF hf;intro u hu;simp only[List.mem_singleton]at hu;subst hu;exact⟨ob,hid⟩
    ·cases hf
   ·cases hf
  ·cases hf
 ·unfold WB at hf;split at hf
  ·split at hf
   ·rename_i ob hid;split at hf
    ·have mF:∀{c:Bool} {x:Option Wr},(bif c then x else none)=some r→x=some r:=by
      intro c x hc;cases c
      ·cases hc
      ·exact hc
     cases mF hf;intro u hu;simp only[List.mem_singleton]at hu;subst hu;exact⟨ob,hid⟩
    ·cases hf
   ·cases hf
  ·cases hf
 ·unfold WA at hf;split at hf
  ·split at hf
   ·rename_i ob hid;have mF:∀{c:Bool} {x:Option Wr},(bif c then x else none)=some r→x=some r:=by
     intro c x hc;cases c
     ·cases hc
     ·exact hc
    cases mF hf;intro u hu;simp only[List.mem_singleton]at hu;subst hu;exact⟨ob,hid⟩
   ·cases hf
  ·cases hf
 ·rename_i c;split at hf
  ·unfold Jh at hf;split at hf
   ·split at hf
    ·rename_i e ob Po new o2 he hid W5;split at hf
     ·have mF:∀{c:Bool} {x:Option Wr},(bif c then x else none)=some r→x=some r:=by
       intro c x hc;cases c
       ·cases hc
       ·exact hc
      cases mF hf;intro u hu;simp only[List.mem_singleton]at hu;subst hu;exact⟨ob,hid⟩
     ·cases hf
    ·cases hf
   ·cases hf
  ·unfold RO at hf;split at hf
   ·split at hf
    ·split at hf
     ·rename_i sC sD hp0 U6;have mF:∀{c:Bool} {x:Option Wr},(bif c then x else none)=some r→x=some r:=by
       intro c x hc;cases c
       ·cases hc
       ·exact hc
      cases mF hf;obtain⟨-,U7⟩:=E7 hp0;have MD:∀i,i∈(‹List Nat›:List Nat)→True:=fun _ _=>trivial
      intro u hu;simp only[List.mem_append]at hu;have y3:∀i,i∈_→∃ob,h i=some ob:=fun i hi=>by
       obtain⟨j,hj⟩:=List.mem_iff_getElem?.1 hi;obtain⟨ob,-,g⟩:=U7 j i hj;exact⟨ob,g⟩
      rcases hu with hu|hu
      ·refine y3 _ ?_
       have key:∀{m:Nat→Option Nat} {is:List Nat} {os:List Ob},u∈KO m is os→u.1∈is:=by
        intro m is;induction is with
        |nil=>intro os h;cases h
        |cons x is ih =>
         intro os h;cases os with
         |nil=>cases h
         |cons y os =>
          simp only[KO,List.mem_cons]at h;rcases h with rfl|h
          ·simp
          ·exact List.mem_cons_of_mem _ (ih h)
       exact List.mem_of_mem_take (key hu)
      ·unfold NW at hu;obtain⟨i,hi,rfl⟩:=List.mem_map.1 hu;exact y3 _ (List.mem_of_mem_drop hi)
     ·cases hf
    ·cases hf
   ·cases hf
 ·cases hf
end
end
section
open Go.RowKit
section
variable {P : Program} {Γ : a5} {φ φ' : Pl} {M M' : Nat → Prop} {h : Nat → Option Ob} {w w' : World} {a : Act} {hs : List Hint} {o : Oper} {H : List (Option Ob)} {L : List (Nat × AV)}
theorem Ss{r:Y2}(hW:Wd Γ φ M (hl H) w)(hF:∀t,AR w M φ (look L t) (a.tmps.getD t undef))(hφ:∀id,H.length≤id→φ id=none)(hf:Xe P H (look L) o.op hs=some r)(cF:cA r.e9){K:Act→World→Prop}
  (hK:∀v w',Md Γ φ M w r v w'→K (a.put o.dst v) w'):o.wp P a w K NQ:=by
 cases ho:o.op with
 |store t x y =>
  obtain⟨w',c6,hm⟩:=O7 hW hF hφ ho hf cF;unfold Oper.wp;rw[c6];exact hK undef w' hm
 |call c =>
  have YN:=hf;rw[ho]at YN;simp only[Xe]at YN;split at YN
  ·rename_i hc;obtain⟨v,w',c6,hm⟩:=Ks hW hF hφ ho hc hf cF;unfold Oper.wp;rw[c6];exact hK v w' hm
  ·cases YN
 |_=>rw[ho]at hf;simp only[Xe]at hf;cases hf
def Y4(Γ:a5)(σ:SS)(tm:Array Value)(w:World)(φ:Pl)(M:Nat→Prop):Prop:=
 (∀t,AR w M φ (look σ.L t) (tm.getD t undef))∧Wd Γ φ M (hl σ.H) w∧(∀id,σ.H.length≤id→φ id=none)
section
variable {f : Lf → Lf × List Prop} (hf : ∀ l v, LR w M φ l v → cA (f l).2 → LR w M' φ (f l).1 v)
include hf
theorem QV:∀{ls:List Lf} {vs:List Value},Rs (LR w M φ) ls vs→cA (y2 f ls).2→Rs (LR w M' φ) (y2 f ls).1 vs
 | [],[],_,_=>trivial
 |l ::ls,v ::vs,h,ho=>by
  simp only[y2,a0]at ho ⊢;exact⟨hf l v h.1 ho.1,QV h.2 ho.2⟩
 | [],_ ::_,h,_=>h.elim
 |_ ::_,[],h,_=>h.elim
theorem TJ{c:Cm}{v:Value}(h:CR w M φ c v)(ho:cA (YE f c).2):CR w M' φ (YE f c).1 v:=by
 cases c with
 |one l=>exact hf l v h ho
 |agg ls=>obtain⟨vs,e,hr⟩:=h;exact⟨vs,e,QV hf hr ho⟩
theorem QU:∀{ls:List Cm} {vs:List Value},Rs (CR w M φ) ls vs→cA (PL f ls).2→Rs (CR w M' φ) (PL f ls).1 vs
 | [],[],_,_=>trivial
 |l ::ls,v ::vs,h,ho=>by
  simp only[PL,a0]at ho ⊢;exact⟨TJ hf h.1 ho.1,QU h.2 ho.2⟩
 | [],_ ::_,h,_=>h.elim
 |_ ::_,[],h,_=>h.elim
theorem Vw(he:Ex w M φ w M' φ){c:AV}{v:Value}(h:AR w M φ c v)(ho:cA (R5 f c).2):AR w M' φ (R5 f c).1 v:=by
 cases c with
 |cm c=>exact TJ hf h ho
 |pX cs=>obtain⟨vs,e,hr⟩:=h;exact⟨vs,e,QU hf hr ho⟩
 |gd p c=>exact AR.mono he (c:=.gd p c) h
 |Iy=>trivial
 |Px=>exact h
 |vl u c=>exact AR.mono he (c:=.vl u c) h
omit hf in
theorem Rl(f:Lf→Lf×List Prop)(t:Nat):∀L:List (Nat×AV),look (ph f L).1 t=(R5 f (look L t)).1∧(cA (ph f L).2→cA (R5 f (look L t)).2)
 | []=>⟨rfl,fun _=>trivial⟩
 |(k,v) ::L=>by
  obtain⟨h1,h2⟩:=Rl f t L;simp only[ph,look,a0];cases hk:(k == t)with
  |true=>exact⟨rfl,fun h=>h.1⟩
  |false=>exact⟨h1,fun h=>h2 h.2⟩
theorem EM(he:Ex w M φ w M' φ){tm:Array Value}{L:List (Nat×AV)}(h:∀t,AR w M φ (look L t) (tm.getD t undef))(ho:cA (ph f L).2):∀t,AR w M' φ (look (ph f L).1 t) (tm.getD t undef):=fun t=>by
 obtain⟨h1,h2⟩:=Rl f t L;rw[h1];exact Vw hf he (h t) (h2 ho)
omit hf in
theorem N9:∀{ls:List Lf},(y2 f ls).1.length=ls.length
 | []=>rfl
 |l ::ls=>by simp [y2,N9 (ls:=ls)]
omit hf in
theorem N8:∀{ls:List Lf} {j:Nat} {l':Lf},(y2 f ls).1[j]?=some l'→∃l,ls[j]?=some l∧l'=(f l).1∧(cA (y2 f ls).2→cA (f l).2)
 | [],_,_,h=>by simp [y2]at h
 |l ::ls,0,l',h=>by simp [y2]at h;exact⟨l,rfl,h.symm,fun ho=>by simp only[y2,a0]at ho;exact ho.1⟩
 |l ::ls,j+1,l',h=>by
  obtain⟨x,h1,h2,h3⟩:=N8 (ls:=ls) (j:=j) (l':=l') (by simpa [y2]using h)
  exact⟨x,by simpa using h1,h2,fun ho=>h3 (by simp only[y2,a0]at ho;exact ho.2)⟩
omit hf in
theorem JR:∀{rs:List (List Lf)} {i:Nat} {c':List Lf},(tJ f rs).1[i]?=some c'→∃c,rs[i]?=some c∧c'=(y2 f c).1∧(cA (tJ f rs).2→cA (y2 f c).2)
 | [],_,_,h=>by simp [tJ]at h
 |r ::rs,0,c',h=>by simp [tJ]at h;exact⟨r,rfl,h.symm,fun ho=>by simp only[tJ,a0]at ho;exact ho.1⟩
 |r ::rs,i+1,c',h=>by
  obtain⟨x,h1,h2,h3⟩:=JR (rs:=rs) (i:=i) (c':=c') (by simpa [tJ]using h)
  exact⟨x,by simpa using h1,h2,fun ho=>h3 (by simp only[tJ,a0]at ho;exact ho.2)⟩
omit hf in
theorem JS:∀{rs:List (List Lf)},(tJ f rs).1.length=rs.length
 | []=>rfl
 |r ::rs=>by simp [tJ,JS (rs:=rs)]
omit hf in
theorem WW:∀{H:List (Option Ob)} {id:Nat},hl (Np f H).1 id=(Mu f (hl H id)).1∧(cA (Np f H).2→cA (Mu f (hl H id)).2)
 | [],id=>⟨by simp [Np,hl,Mu],fun _=>by simp [hl,Mu,cA]⟩
 |x ::H,0=>by
  simp only[Np,a0];exact⟨by simp [hl],fun h=>by simpa [hl]using h.1⟩
 |x ::H,id+1=>by
  obtain⟨h1,h2⟩:=WW (H:=H) (id:=id);simp only[Np,a0];exact⟨by simpa [hl]using h1,fun h=>by simpa [hl]using h2 h.2⟩
omit hf in
theorem I8:∀{H:List (Option Ob)},(Np f H).1.length=H.length
 | []=>rfl
 |x ::H=>by simp [Np,I8 (H:=H)]
theorem Vx(he:Ex w M φ w M' φ){id:Nat}{ob xj:Ob}(hO:OR w M φ id ob)(hg:(Mu f (some ob)).1=some xj)(ho:cA (Mu f (some ob)).2):OR w M' φ id xj∧xj.box=ob.box:=by
 unfold Mu at hg ho;rcases hO with hO|⟨hb,rs,b,es,KC,h1,h2⟩
 rotate_left
 ·have hm:isMap ob=true:=by unfold isMap;rw[h1];rfl
  simp only[hb,hm,Bool.not_true,Bool.and_false,cond_false]at hg;cases hg;exact⟨OR.mono he (.inr ⟨hb,rs,b,es,KC,h1,h2⟩) fun _ _ _=>rfl,rfl⟩
 cases hb:ob.box with
 |false=>simp only[hb,Bool.false_and,cond_false]at hg;cases hg;exact⟨OR.mono he (.inl hO) fun _ _ _=>rfl,hb⟩
 |true =>
  have hm:=hO.Xg hb;simp only[hb,hm,Bool.not_false,Bool.and_true,cond_true]at hg ho;cases hg;refine⟨?_,rfl⟩;obtain⟨h0,h1⟩:=hO;refine .inl ⟨h0,?_⟩;cases hφ:φ id with
  |none=>rw[hφ]at h1;exact h1.elim
  |some p =>
   rw[hφ]at h1;cases p with
   |none=>rw[hb]at h1;cases h1.2
   |some bc =>
    obtain⟨b,C⟩:=bc;obtain⟨cur,g1,g2,g3,g4,g5,g6⟩:=h1;refine⟨cur,g1,g2,by rw[JS];exact g3,g4,fun _=>g5 hb,fun i c' hc=>?_⟩
    obtain⟨c,hc1,rfl,I9⟩:=JR hc;refine⟨by rw[N9];exact(g6 i c hc1).1,fun j l' hj=>?_⟩
    obtain⟨l,YQ,rfl,WV⟩:=N8 hj;obtain⟨v,hv,hr⟩:=(g6 i c hc1).2 j l YQ;rw[if_pos hb]at hr;exact⟨v,hv,by show(if true=true then _ else _);rw[if_pos rfl];exact hf l v hr (WV (I9 ho))⟩
theorem XI(he:Ex w M φ w M' φ)(hW:Wd Γ φ M (hl H) w)(ho:cA (Np f H).2)(hm:∀b,M' b→M b∨(b<w.heap.size∧(Γ.UA b∨Γ.w0.heap.size≤b)∧∀id ob C,hl H id=some ob→φ id≠some (some (b,C)))):Wd Γ φ M' (hl (Np f H).1) w:=by
 have back:∀id xj,hl (Np f H).1 id=some xj→∃ob,hl H id=some ob∧OR w M' φ id xj:=fun id xj e=>by
  obtain⟨h1,h2⟩:=WW (f:=f) (H:=H) (id:=id);rw[h1]at e;cases hh:hl H id with
  |none=>rw[hh]at e;cases e
  |some ob =>
   rw[hh]at e h2;exact⟨ob,rfl,(Vx hf he (hW.e9 id ob hh) e (h2 ho)).1⟩
 refine⟨fun id xj e=>(back id xj e).choose_spec.2,fun i j oi oj b Ci Cj hi hj=>hW.inj i j _ _ b Ci Cj (back i oi hi).choose_spec.1 (back j oj hj).choose_spec.1,fun b hb=>?_,fun b hb=>he.sub b (hW.m0 b hb),fun b hb=>?_,fun id xj b C e p=>?_,hW.Ce,hW.os,hW.tape,hW.output,hW.size,hW.zA,hW.Te⟩
 ·rcases hm b hb with h|h
  ·exact hW.mlt b h
  ·exact h.1
 ·rcases hm b hb with h|h
  ·exact hW.Gu b h
  ·exact .inr h.2.1
 ·obtain⟨ob,Im,-⟩:=back id xj e;have:=hW.own id ob b C Im p;refine⟨fun hb=>?_,this.2⟩
  rcases hm b hb with h|h
  ·exact this.1 h
  ·exact h.2.2 id ob C Im p
end
theorem Yr{M2:Nat→Prop}{id sz len:Nat}{ob:Ob}{v:Value}(hO:OR w M φ id ob)(nQ:ob.box=false)(jM:ob.sz=sz)(hlen:ob.rows.length=len)(hv:tC w M φ (.os id sz 0 len) v)(hM:∀b,M b→M2 b)(XJ:∀b C,φ id=some (some (b,C))→M2 b):
  IR w M2 (.sl false sz ob.rows) v:=by
 rcases hv with⟨b,C,hφ,rfl,hle⟩|⟨hφ,_,rfl,A,rfl⟩
 ·obtain⟨h0,h1⟩:=hO.oc (.inl nQ);rw[hφ]at h1;obtain⟨cur,g1,g2,g3,g4,g5,g6⟩:=h1;have my:∀(i:Nat) (c:List Lf) (j:Nat) (l:Lf),ob.rows[i]?=some c→c[j]?=some l→w.cell? ⟨b,0*sz+i*sz+j,none⟩=some ((cur[i*sz+j]?).getD undef)∧IR w M2 l ((cur[i*sz+j]?).getD undef):=fun i c j l hc hj=>by
   obtain⟨u,hu,hr⟩:=(g6 i c hc).2 j l hj;rw[nQ]at hr;rw[jM]at hu;refine⟨?_,by rw[hu];exact IR.mono (fun _ _=>rfl) hM (by simpa using hr)⟩
   simp only[World.cell?,g1,Nat.zero_mul,Nat.zero_add];simp [hu]
  have key:IR w M2 (.sl false sz ob.rows) (.slice (some ⟨b,0*sz,none⟩) ob.rows.length (C-0)):=
   IR.sl false sz ob.rows b (0*sz) (C-0) (fun i j=>(cur[i*sz+j]?).getD undef) (XJ b C hφ) (by omega) (fun h=>by cases h) (fun i c hc=>by rw[(g6 i c hc).1,jM]) (fun i c j l hc hj=>(my i c j l hc hj).1) (fun i c j l hc hj=>(my i c j l hc hj).2)
  rw[hlen]at key;exact key
 ·have DG:ob.rows=[]:=List.eq_nil_of_length_eq_zero hlen;rw[DG];exact IR.Ko false sz A 0 fun h=>by cases h
theorem QC{sz:Nat}{l l':Lf}{v:Value}(h:Yz sz l=some l')(hv:LR w M φ l v):LR w M φ l' v:=by
 unfold Yz at h;split at h
 ·cases h;have KH:IR w M .cM v:=hv;cases KH;exact IR.lr (IR.Ko false sz none 0 fun h=>by cases h)
 ·rename_i cl s rows;cases h;have KH:IR w M (.sl cl s rows) v:=hv;cases KH with
  |Ko _ _ A cap _=>exact IR.lr (IR.Ko false s A cap fun h=>by cases h)
  |sl _ _ _ b k cap vs hm hl DE DF hc hr=>exact IR.lr (IR.sl false s rows b k cap vs hm hl (fun h=>by cases h) DF hc hr)
 ·cases h
theorem Rs.set{R:Lf→Value→Prop}:∀{ls:List Lf} {vs:List Value} {k:Nat} {l':Lf},Rs R ls vs→(∀v,vs[k]?=some v→R l' v)→Rs R (ls.set k l') vs
 | [],[],_,_,_,_=>trivial
 |l ::ls,v ::vs,0,l',h,hk=>⟨hk v rfl,h.2⟩
 |l ::ls,v ::vs,k+1,l',h,hk=>⟨h.1,Rs.set h.2 fun u hu=>hk u (by simpa using hu)⟩
 | [],_ ::_,_,_,h,_=>h.elim
 |_ ::_,[],_,_,h,_=>h.elim
theorem Yy{k sz:Nat}{c c':Cm}{v:Value}(h:wkC k sz c=some c')(hv:CR w M φ c v):CR w M φ c' v:=by
 cases c with
 |one l =>
  simp only[wkC]at h;cases hk:(k == 0)with
  |false=>rw[hk]at h;cases h
  |true =>
   rw[hk]at h;simp only[cond_true]at h;cases hl:Yz sz l with
   |none=>rw[hl]at h;cases h
   |some l'=>rw[hl]at h;cases h;exact QC hl hv
 |agg ls =>
  simp only[wkC]at h;split at h
  ·rename_i l hk;cases hl:Yz sz l with
   |none=>rw[hl]at h;cases h
   |some l' =>
    rw[hl]at h;cases h;obtain⟨vs,e,hr⟩:=hv;refine⟨vs,e,Rs.set hr fun u hu=>?_⟩
    obtain⟨u',U9,Lx⟩:=hr.get hk;rw[hu]at U9;cases U9;exact QC hl Lx
  ·cases h
theorem NN{id k:Nat}{ob:Ob}{cells:List Lf}{l l':Lf}(hW:Wd Γ φ M (hl H) w)(hid:hl H id=some ob)(nQ:ob.box=true)(iF:ob.rows=[cells])(hk:cells[k]?=some l)(Il:∀v,LR w M φ l v→LR w M φ l' v):
  Wd Γ φ M (hl (H.set id (some {ob with rows:=[cells.set k l']}))) w:=by
 have hO:=hW.e9 id ob hid;obtain⟨h0,h1⟩:=hO.oc (.inr ⟨_,iF⟩);cases hφ:φ id with
 |none=>rw[hφ]at h1;exact h1.elim
 |some p =>
  cases p with
  |none=>rw[hφ,nQ]at h1;cases h1.2
  |some bc =>
   obtain⟨b,C⟩:=bc;rw[hφ]at h1;obtain⟨cur,g1,g2,g3,g4,g5,g6⟩:=h1;rw[MA (jT hid)];refine hW.Ww hid hφ (fun _ _=>rfl) rfl rfl rfl rfl (.inl ⟨h0,?_⟩)
   rw[hφ];refine⟨cur,g1,g2,by rw[iF]at g3;simpa using g3,g4,g5,fun i c hc=>?_⟩
   cases i with
   |succ i=>simp at hc
   |zero =>
    obtain rfl:=Option.some.inj (show some _=some c from hc);have h6:=g6 0 cells (by rw[iF];rfl)
    refine⟨by rw[List.length_set];exact h6.1,fun j x hj=>?_⟩
    by_cases hjk:j=k
    ·subst hjk;have m9:=(List.getElem?_eq_some_iff.1 hk).1;rw[List.getElem?_set_self m9]at hj;cases hj;obtain⟨v,hv,hr⟩:=h6.2 j l hk;rw[if_pos nQ]at hr;exact⟨v,hv,by rw[if_pos nQ];exact Il v hr⟩
    ·rw[List.getElem?_set_ne (Ne.symm hjk)]at hj;exact h6.2 j x hj
theorem HG{t:Nat}{v:AV}{L:List (Nat×AV)}{tm:Array Value}(h:∀t,AR w M φ (look L t) (tm.getD t undef))(hv:AR w M φ v (tm.getD t undef)):∀u,AR w M φ (look ((t,v) ::L) u) (tm.getD u undef):=fun u=>by
 simp only[look];cases hk:(t == u)with
 |true=>simp only[beq_iff_eq]at hk;subst hk;exact hv
 |false=>exact h u
theorem l_{tm:Array Value}:∀{hs gR:List Hint} {σ σ':SS} {ob:List Prop} {φ:Pl} {M:Nat→Prop},ghost hs σ=some (σ',ob,gR)→cA ob→Y4 Γ σ tm w φ M→σ'.N=σ.N∧∃φ' M',Y4 Γ σ' tm w φ' M'
 | [],_,σ,_,_,φ,M,hg,_,hS=>by simp only[ghost]at hg;cases hg;exact⟨rfl,φ,M,hS⟩
 |x ::hs,gR,σ,σ',ob,φ,M,hg,ho,hS=>by
  obtain⟨hF,hW,hφ⟩:=hS;cases x with
  |wait n =>
   cases n with
   |zero=>simp only[ghost]at hg;exact l_ hg ho ⟨hF,hW,hφ⟩
   |succ n=>simp only[ghost]at hg;cases hg;exact⟨rfl,φ,M,hF,hW,hφ⟩
  |iY id =>
   simp only[ghost]at hg;split at hg
   ·rename_i o1 hid;cases nQ:o1.box with
    |true=>rw[nQ]at hg;cases hg
    |false =>
     rw[nQ]at hg;simp only[cond_false]at hg;split at hg
     ·rename_i σ2 o2 Rc Zu;cases hg;simp only[a0]at ho;have hO:=hW.e9 id o1 hid;have XJ:∀b,M b→(fun b=>M b∨∃C,φ id=some (some (b,C))) b:=fun _ h=>.inl h
      have he:Ex w M φ w (fun b=>M b∨∃C,φ id=some (some (b,C))) φ:=⟨fun _ _=>rfl,XJ,fun _ _ h=>h⟩
      have hf:∀l v,LR w M φ l v→cA (PJ id o1.sz o1.rows l).2→LR w (fun b=>M b∨∃C,φ id=some (some (b,C))) φ (PJ id o1.sz o1.rows l).1 v:=fun l v hv hp=>by
       unfold PJ at hp ⊢;split
       ·rename_i i s off len;cases hc:(i == id&&s == o1.sz&&off == 0)with
        |false=>exact hv.mono he
        |true =>
         simp only[hc,cond_true]at hp;simp only[Bool.and_eq_true,beq_iff_eq]at hc;obtain⟨⟨rfl,rfl⟩,rfl⟩:=hc;exact IR.lr (Yr hO nQ rfl hp.1 hv XJ fun b C h=>.inr ⟨C,h⟩)
       ·exact hv.mono he
      have hW0:Wd Γ φ M (hl (σ.H.set id none)) w:=hW.less fun k xj hk=>by
       by_cases Se:k=id
       ·subst Se;rw[qT (jT hid)]at hk;cases hk
       ·rw[wi Se]at hk;exact hk
      have Zh:=XI hf he hW0 ho.1.2 fun b hb=>by
       rcases hb with h|⟨C,h⟩
       ·exact .inl h
       ·obtain⟨q1,q2,q3⟩:=hW.own id o1 b C hid h;refine .inr ⟨q2,q3,fun k xj C' hk hp=>?_⟩
        by_cases Se:k=id
        ·subst Se;rw[qT (jT hid)]at hk;cases hk
        ·rw[wi Se]at hk;exact Se (hW.inj k id xj o1 b C' C hk hid hp h)
      obtain⟨hN,φ',M',Gh⟩:=l_ Zu ho.2 ⟨EM hf he hF ho.1.1,Zh,fun k hk=>hφ k (by simpa [I8]using hk)⟩
      exact⟨hN,φ',M',Gh⟩
     ·cases hg
   ·cases hg
  |XG id =>
   simp only[ghost]at hg;split at hg
   ·rename_i o1 hid;split at hg
    ·rename_i cells nQ iF;cases hi:cells.all JV with
     |false=>rw[hi]at hg;cases hg
     |true =>
      rw[hi]at hg;simp only[cond_true]at hg;split at hg
      ·rename_i σ2 o2 Rc Zu;cases hg;simp only[a0]at ho;have hO:=hW.e9 id o1 hid;have XJ:∀b,M b→(fun b=>M b∨∃C,φ id=some (some (b,C))) b:=fun _ h=>.inl h
       have he:Ex w M φ w (fun b=>M b∨∃C,φ id=some (some (b,C))) φ:=⟨fun _ _=>rfl,XJ,fun _ _ h=>h⟩
       have hf:∀l v,LR w M φ l v→cA (JP id o1.sz cells l).2→LR w (fun b=>M b∨∃C,φ id=some (some (b,C))) φ (JP id o1.sz cells l).1 v:=fun l v hv hp=>by
        unfold JP;split
        ·rename_i i s row off;cases hc:(i == id&&row == 0)with
         |false=>exact hv.mono he
         |true =>
          simp only[Bool.and_eq_true,beq_iff_eq]at hc;obtain⟨rfl,rfl⟩:=hc;obtain⟨b,C,hφb,rfl⟩:=(hv:tC w M φ (.op i s 0 off) v);have my:∀(j:Nat) (l:Lf),cells[j]?=some l→∃u,w.cell? ⟨b,0+j,none⟩=some u∧IR w M l u:=fun j l hj=>by
           obtain⟨u,hu,hr⟩:=hO.Li (i:=0) (.inr ⟨_,iF⟩) hφb (by rw[iF];rfl) j l hj
           exact⟨u,by rw[Nat.zero_mul]at hu;exact hu,LR.JU (List.all_eq_true.1 hi l (List.mem_of_getElem? hj)) hr⟩
          have key:IR w (fun b=>M b∨∃C,φ i=some (some (b,C))) (.ip cells off) (.pointer (some ⟨b,0+off,none⟩)):=by
           refine IR.ip cells off b 0 (fun i=>(w.cell? ⟨b,0+i,none⟩).getD undef) (.inr ⟨C,hφb⟩) (fun i l hl=>?_) (fun i l hl=>?_)
           ·obtain⟨u,hu,hr⟩:=my i l hl;simp only[hu,Option.getD_some]
           ·obtain⟨u,hu,hr⟩:=my i l hl;simp only[hu,Option.getD_some];exact hr.mono (fun _ _=>rfl) XJ
          rw[show 0*s+off=0+off by rw[Nat.zero_mul]]
          exact IR.lr key
        ·exact hv.mono he
       have hW0:Wd Γ φ M (hl (σ.H.set id none)) w:=hW.less fun k xj hk=>by
        by_cases Se:k=id
        ·subst Se;rw[qT (jT hid)]at hk;cases hk
        ·rw[wi Se]at hk;exact hk
       have Zh:=XI hf he hW0 ho.1.2 fun b hb=>by
        rcases hb with h|⟨C,h⟩
        ·exact .inl h
        ·obtain⟨q1,q2,q3⟩:=hW.own id o1 b C hid h;refine .inr ⟨q2,q3,fun k xj C' hk hp=>?_⟩
         by_cases Se:k=id
         ·subst Se;rw[qT (jT hid)]at hk;cases hk
         ·rw[wi Se]at hk;exact Se (hW.inj k id xj o1 b C' C hk hid hp h)
       obtain⟨hN,φ',M',Gh⟩:=l_ Zu ho.2 ⟨EM hf he hF ho.1.1,Zh,fun k hk=>hφ k (by simpa [I8]using hk)⟩
       exact⟨hN,φ',M',Gh⟩
      ·cases hg
    ·cases hg
   ·cases hg
  |re id n =>
   simp only[ghost]at hg;split at hg
   ·rename_i σ2 o2 Rc Zu;cases hg;simp only[a0]at ho;have hf:∀l v,LR w M φ l v→cA (Qm id n l).2→LR w M φ (Qm id n l).1 v:=fun l v hv hp=>by
     unfold Qm at hp ⊢;split
     ·rename_i i s off len;cases hc:(i == id&&off == 0)with
      |false=>exact hv
      |true=>simp only[hc,cond_true]at hp;obtain⟨rfl,-⟩:=hp;exact hv
     ·exact hv
    obtain⟨hN,φ',M',Gh⟩:=l_ Zu ho.2 ⟨EM hf (Ex.refl _ _ _) hF ho.1.1,XI hf (Ex.refl _ _ _) hW ho.1.2 fun b hb=>.inl hb,fun k hk=>hφ k (by simpa [I8]using hk)⟩
    exact⟨hN,φ',M',Gh⟩
   ·cases hg
  |E3 t k sz =>
   simp only[ghost]at hg;split at hg
   ·rename_i c hc;split at hg
    ·rename_i c' Rf;have hv:=hF t;rw[hc]at hv;obtain⟨hN,φ',M',Gh⟩:=l_ hg ho ⟨HG hF (Yy Rf hv:CR w M φ c' _),hW,hφ⟩;exact⟨hN,φ',M',Gh⟩
    ·cases hg
   ·cases hg
  |fg id k sz =>
   simp only[ghost]at hg;split at hg
   ·rename_i o1 hid;split at hg
    ·rename_i cells nQ iF;split at hg
     ·rename_i l hk;split at hg
      ·rename_i l' Rf;obtain⟨hN,φ',M',Gh⟩:=l_ hg ho ⟨hF,NN hW hid nQ iF hk fun v hv=>QC Rf hv,fun k hk=>hφ k (by simpa using hk)⟩
       exact⟨hN,φ',M',Gh⟩
      ·cases hg
     ·cases hg
    ·cases hg
   ·cases hg
  |kN t sz e =>
   simp only[ghost]at hg;split at hg
   ·rename_i hc;cases hz:(sz == 0)with
    |true=>rw[hz]at hg;cases hg
    |false =>
     rw[hz]at hg;have hv:=hF t;rw[hc]at hv;have Nt:φ σ.H.length=none:=hφ _ (Nat.le_refl _);have S5:hl σ.H σ.H.length=none:=by unfold hl;rw[List.getElem?_eq_none (Nat.le_refl _)];rfl
     have he:Ex w M φ w M (DA φ σ.H.length none):=⟨fun _ _=>rfl,fun _ h=>h,pY _ Nt⟩
     have KH:IR w M .cM (tm.getD t undef):=hv;have Z0:∃A,tm.getD t undef=.slice A 0 0:=by
      generalize tm.getD t undef=u at KH;cases KH;exact⟨none,rfl⟩
     obtain⟨hN,φ',M',Gh⟩:=l_ hg ho ⟨HG (fun u=>AR.mono he (hF u)) (.inr ⟨dJ _ _ _,rfl,rfl,Z0⟩:tC w M (DA φ σ.H.length none) (.os σ.H.length sz 0 0) _),
      (by rw [MC]; exact hW.E2 (⟨false,sz,e,[]⟩:Ob) Nt S5 rfl rfl (by simp only [beq_eq_false_iff_ne] at hz; show 0<sz; omega)),fun k hk=>by
       simp only[List.length_append,List.length_singleton]at hk;rw[nM _ (by omega)];exact hφ k (by omega)⟩
     exact⟨hN,φ',M',Gh⟩
   ·cases hg
  |jS id k sz e =>
   simp only[ghost]at hg;split at hg
   ·rename_i o1 hid;split at hg
    ·rename_i cells nQ iF;split at hg
     ·rename_i hk;cases hz:(sz == 0)with
      |true=>rw[hz]at hg;cases hg
      |false =>
       rw[hz]at hg;simp only[cond_false]at hg;have Nt:φ σ.H.length=none:=hφ _ (Nat.le_refl _);have S5:hl σ.H σ.H.length=none:=by unfold hl;rw[List.getElem?_eq_none (Nat.le_refl _)];rfl
       have he:Ex w M φ w M (DA φ σ.H.length none):=⟨fun _ _=>rfl,fun _ h=>h,pY _ Nt⟩
       have Zh:Wd Γ (DA φ σ.H.length none) M (hl (σ.H++[some ⟨false,sz,e,[]⟩])) w:=by
        rw[MC];exact hW.E2 (⟨false,sz,e,[]⟩:Ob) Nt S5 rfl rfl (by simp only[beq_eq_false_iff_ne]at hz;show 0<sz;omega)
       have m9:=jT hid;have QbD:hl (σ.H++[some ⟨false,sz,e,[]⟩]) id=some o1:=by rw[MC];dsimp only;rw[if_neg (by omega)];exact hid
       have TN:=NN (k:=k) (l:=.cM) (l':=.os σ.H.length sz 0 0) Zh QbD nQ iF hk fun v hv=>by
        have KH:IR w M .cM v:=hv;cases KH;exact .inr ⟨dJ _ _ _,rfl,rfl,none,rfl⟩
       rw[List.set_append_left _ _ m9]at TN;obtain⟨hN,φ',M',Gh⟩:=l_ hg ho ⟨fun u=>AR.mono he (hF u),TN,fun k hk=>by
        simp only[List.length_append,List.length_set,List.length_singleton]at hk;rw[nM _ (by omega)];exact hφ k (by omega)⟩
       exact⟨hN,φ',M',Gh⟩
     ·cases hg
    ·cases hg
   ·cases hg
  |bit b=>simp only[ghost]at hg;cases hg;exact⟨rfl,φ,M,hF,hW,hφ⟩
  |spec=>simp only[ghost]at hg;cases hg;exact⟨rfl,φ,M,hF,hW,hφ⟩
  |skip=>simp only[ghost]at hg;cases hg;exact⟨rfl,φ,M,hF,hW,hφ⟩
  |cells c=>simp only[ghost]at hg;cases hg;exact⟨rfl,φ,M,hF,hW,hφ⟩
  |rows c=>simp only[ghost]at hg;cases hg;exact⟨rfl,φ,M,hF,hW,hφ⟩
  |num n=>simp only[ghost]at hg;cases hg;exact⟨rfl,φ,M,hF,hW,hφ⟩
  |byte b=>simp only[ghost]at hg;cases hg;exact⟨rfl,φ,M,hF,hW,hφ⟩
  |ints b=>simp only[ghost]at hg;cases hg;exact⟨rfl,φ,M,hF,hW,hφ⟩
  |draw n cl=>simp only[ghost]at hg;cases hg;exact⟨rfl,φ,M,hF,hW,hφ⟩
  |call i r out=>simp only[ghost]at hg;cases hg;exact⟨rfl,φ,M,hF,hW,hφ⟩
end
end
section
open Go.RowKit
section
variable {P : Program} {Γ : a5} {φ φ' : Pl} {M M' : Nat → Prop} {w w' : World} {a : Act} {hs : List Hint} {o : Oper} {ops : Array Oper} {Q : Exit → Act → World → Prop}
theorem wY(a:Act)(d:Option Nat)(v:Value):(a.put d v).tmps.size=a.tmps.size:=by
 cases d <;> simp [Act.put]
theorem put_defers(a:Act)(d:Option Nat)(v:Value):(a.put d v).defers=a.defers:=by
 cases d <;> rfl
theorem M1{d t:Nat}{v:Value}(hd:d<a.tmps.size):(a.put (some d) v).tmps.getD t undef=if d=t then v else a.tmps.getD t undef:=by
 simp only[Act.put,Array.getD_eq_getD_getElem?,Array.getElem?_setIfInBounds];by_cases h:d=t
 ·subst h;rw[if_pos rfl,if_pos rfl,if_pos hd];rfl
 ·rw[if_neg h,if_neg h]
theorem Dw{N:Nat}{d:Option Nat}{L:List (Nat×AV)}{v:AV}{cv:Value}(hd:Es N d=true)(hN:a.tmps.size=N)(hF:∀t,AR w M φ (look L t) (a.tmps.getD t undef))(hv:AR w M φ v cv):
  ∀t,AR w M φ (look (GJ d v L) t) ((a.put d cv).tmps.getD t undef):=fun t=>by
 cases d with
 |none=>exact hF t
 |some d =>
  have m9:d<a.tmps.size:=by rw[hN];have:=Nat.le_of_ble_eq_true hd;omega
  rw[M1 m9];simp only[GJ,look];by_cases h:d=t
  ·subst h;rw[if_pos rfl];simp;exact hv
  ·rw[if_neg h];have:(d == t)=false:=by simpa using h
   rw[this];exact hF t
theorem Mz{H:List (Option Ob)}{news:List Ob}:hl (H++news.map some)=LO (hl H) H.length news:=by
 funext id
 unfold LO hl;by_cases h:H.length≤id∧id<H.length+news.length
 ·rw[if_pos h,List.getElem?_append_right h.1,List.getElem?_map];cases news[id-H.length]? <;> rfl
 ·rw[if_neg h];rcases Nat.lt_or_ge id H.length with h1|h1
  ·rw[List.getElem?_append_left h1]
  ·rw[List.getElem?_eq_none (by simp;omega),List.getElem?_eq_none h1]
theorem JM{H:List (Option Ob)}{id:Nat}(h:H.length≤id):hl H id=none:=by
 unfold hl;rw[List.getElem?_eq_none h];rfl
theorem zw{H:List (Option Ob)}:∀{uO:List (Nat×Option Ob)},(OZ H uO).length=H.length
 | []=>rfl
 |(u,o) ::r=>by simp only[OZ,List.length_set];exact zw
theorem MB{H:List (Option Ob)}:∀{uO:List (Nat×Option Ob)},(∀u∈uO,u.1<H.length)→hl (OZ H uO)=Ib (hl H) uO
 | [],_=>rfl
 |(u,o) ::r,h=>by
  have ih:=MB (H:=H) (uO:=r) fun x hx=>h x (List.mem_cons_of_mem _ hx)
  have hu:u<(OZ H r).length:=by rw[zw];exact h (u,o) List.mem_cons_self
  funext i
  simp only[OZ];unfold Ib;simp only[nO];by_cases hi:u=i
  ·subst hi;rw[qT hu];simp
  ·have:(u == i)=false:=by simpa using hi
   rw[wi (fun e=>hi e.symm),ih,this];rfl
theorem AE{σ:SS}{s:St}(hd:Es σ.N o.dst=true)(hf:FB P o σ hs=some s)(cF:cA s.e9)(hS:Ie Γ σ a w){K:Act→World→Prop}(hK:∀a' w',Ie Γ s.σ a' w'→K a' w'):o.wp P a w K NQ:=by
 obtain⟨hN,Gj,φ,M,hF,hW,hφ⟩:=hS;unfold FB at hf;split at hf
 ·rename_i r hr;cases hf;refine Hk hr cF hF hW (fun _ _ h=>h) (fun id h1 h2=>⟨hφ id h1,JM h1⟩) fun v w' φ' M' hv mw he hn=>hK _ _ ⟨by rw[wY];exact hN,by rw[put_defers];exact Gj,φ',M',?_,?_,?_⟩
  ·exact Dw hd hN (fun t=>AR.mono he (hF t)) hv
  ·rw[Mz];exact mw
  ·intro id hid;simp only[List.length_append,List.length_map]at hid;refine Classical.byContradiction fun h=>?_
   rcases hn id h with h1|h1
   ·exact h1 (hφ id (by omega))
   ·omega
 ·split at hf
  ·rename_i r hr;cases hf;refine Ss hW hF hφ hr cF fun v w' hm=>?_
   obtain⟨φ',hv,mw,he,PV⟩:=hm;exact hK _ _ ⟨by rw[wY];exact hN,by rw[put_defers];exact Gj,φ',M,Dw hd hN (fun t=>AR.mono he (hF t)) hv,mw,PV⟩
  ·split at hf
   ·rename_i r hr;cases hf;refine L_ hr cF hF hW (fun _ _ h=>h) (fun id h1 h2=>⟨hφ id h1,JM h1⟩) fun v w' hm=>?_
    obtain⟨φ',M',hv,mw,he,hn⟩:=hm;refine hK _ _ ⟨by rw[wY];exact hN,by rw[put_defers];exact Gj,φ',M',Dw hd hN (fun t=>AR.mono he (hF t)) hv,?_,?_⟩
    ·have hu:∀u∈r.uO,u.1<σ.H.length:=fun u hu=>let⟨ob,h⟩:=KB hr u hu;jT h
     rw[Mz,zw,MB hu];exact mw
    ·intro id hid;simp only[List.length_append,List.length_map,zw]at hid;refine Classical.byContradiction fun h=>?_
     rcases hn id h with h1|h1
     ·exact h1 (hφ id (by omega))
     ·omega
   ·cases hf
theorem nN{L:Nat→AV}{j:Nat}{b:Bool}(hF:∀t,AR w M φ (L t) (a.tmps.getD t undef)){v:AV}(hg:((ops[j]?).bind (·.dst)).map L=some v)(hv:∀cv,AR w M φ v cv→cv=.bool b):yielded ops a.tmps j=some b:=by
 unfold yielded;cases hd:(ops[j]?).bind (·.dst)with
 |none=>rw[hd]at hg;cases hg
 |some t =>
  rw[hd]at hg;have h1:L t=v:=by simpa using hg
  have h2:=hF t;rw[h1]at h2;have h3:=hv _ h2;rw[Array.getD_eq_getD_getElem?]at h3;simp only[Option.bind_some];cases ht:a.tmps[t]? with
  |none=>rw[ht]at h3;cases h3
  |some u=>rw[ht]at h3;simp at h3;subst h3;rfl
theorem yR{L:Nat→AV}{j:Nat}(hF:∀t,AR w M φ (L t) (a.tmps.getD t undef)){v:AV}(hg:((ops[j]?).bind (·.dst)).map L=some v)(hv:∀cv,AR w M φ v cv→cv=undef):yielded ops a.tmps j=none:=by
 unfold yielded;cases hd:(ops[j]?).bind (·.dst)with
 |none=>rfl
 |some t =>
  rw[hd]at hg;have h1:L t=v:=by simpa using hg
  have h2:=hF t;rw[h1]at h2;have h3:=hv _ h2;rw[Array.getD_eq_getD_getElem?]at h3;simp only[Option.bind_some];cases ht:a.tmps[t]? with
  |none=>rfl
  |some u=>rw[ht]at h3;simp at h3;subst h3;rfl
theorem uF{b:Bool}{cv:Value}(h:AR w M φ (.cm (.one (.bool b))) cv):cv=.bool b:=by
 have h':IR w M (.bool b) cv:=h;cases h';rfl
theorem Kw{σ:SS}{p:Prop} [Decidable p] {r:G_}{v:AV}(hd:Es σ.N o.dst=true)(hw:Region.wanted o (yielded ops a.tmps)=decide p)(hN:a.tmps.size=σ.N)(Gj:a.defers=[])(hF:∀t,AR w M φ (look σ.L t) (a.tmps.getD t undef))(hW:Wd Γ φ M (hl σ.H) w)(hφ:∀id,σ.H.length≤id→φ id=none)
  (hf:uT P (hl σ.H) σ.H.length p (look σ.L) o.op hs=some r) (ux:r.news.isEmpty=true) (hv:Vt p r.v=some v) (cF:cA r.e9) {K:Act→World→Prop} (hK:∀a' w',Ie Γ ⟨σ.N,GJ o.dst v σ.L,σ.H⟩ a' w'→K a' w'):
  (if Region.wanted o (yielded ops a.tmps)=true then o.wp P a w K NQ else K (a.put o.dst undef) w):=by
 rw[hw];have Ph:∃c,r.v=.cm c∧v=.gd p c:=by
  unfold Vt at hv;split at hv
  ·rename_i c hc;cases hv;exact⟨c,hc,rfl⟩
  ·cases hv
 obtain⟨c,hc,rfl⟩:=Ph;have B9:r.news=[]:=by simpa using ux
 by_cases hp:p
 ·rw[if_pos (by simpa using hp)]
  obtain⟨v,w',φ',c6,hr,mw,A6,hn,hb⟩:=Dk (φ:=φ) (M:=M) (hD:=hl σ.H) hf cF hp hF hW (fun _ _ h=>h) (fun id h1 h2=>⟨hφ id h1,JM h1⟩)
  unfold Oper.wp;rw[c6];have he:Ex w M φ w' M φ':=⟨hb,fun _ h=>h,A6⟩
  rw[hc]at hr;rw[B9,sI]at mw;refine hK _ _ ⟨by rw[wY];exact hN,by rw[put_defers];exact Gj,φ',M,Dw hd hN (fun t=>AR.mono he (hF t)) ⟨fun _=>hr,fun h=>absurd hp h⟩,mw,fun id hid=>?_⟩
  refine Classical.byContradiction fun h=>?_
  rcases hn id h with h1|h1
  ·exact h1 (hφ id hid)
  ·rw[B9]at h1;simp at h1;omega
 ·rw[if_neg (by simpa using hp)]
  exact hK _ _ ⟨by rw[wY];exact hN,by rw[put_defers];exact Gj,φ,M,Dw hd hN hF ⟨fun h=>absurd h hp,fun _=>rfl⟩,hW,hφ⟩
theorem Fx{σ:SS}(hd:Es σ.N o.dst=true)(hS:Ie Γ σ a w):Ie Γ ⟨σ.N,GJ o.dst Y0 σ.L,σ.H⟩ (a.put o.dst undef) w:=by
 obtain⟨hN,Gj,φ,M,hF,hW,hφ⟩:=hS;exact⟨by rw[wY];exact hN,by rw[put_defers];exact Gj,φ,M,Dw hd hN hF ⟨False.elim,fun _=>rfl⟩,hW,hφ⟩
theorem Ng{σ:SS}{s:St}(hf:Qu P ops o σ hs=some s)(cF:cA s.e9)(hS:Ie Γ σ a w){K:Act→World→Prop}(hK:∀a' w',Ie Γ s.σ a' w'→K a' w'):
  (if Region.wanted o (yielded ops a.tmps)=true then o.wp P a w K NQ else K (a.put o.dst undef) w):=by
 unfold Qu at hf;cases hd:Es σ.N o.dst with
 |false=>rw[hd]at hf;cases hf
 |true =>
  rw[hd]at hf;simp only[Bool.not_true,cond_false]at hf;have WQ:=hS;obtain⟨hN,Gj,φ,M,hF,hW,hφ⟩:=hS;split at hf
  ·rename_i hg;have hw:Region.wanted o (yielded ops a.tmps)=true:=by unfold Region.wanted;rw[hg]
   rw[if_pos hw];exact AE hd hf cF WQ hK
  ·rename_i j want hg;have S9:Region.wanted o (yielded ops a.tmps)=(yielded ops a.tmps j == some want):=by unfold Region.wanted;rw[hg]
   split at hf
   ·rename_i b t gR hv;have hy:yielded ops a.tmps j=some b:=nN hF hv fun cv h=>uF h
    cases Nw:(t == want)with
    |true =>
     rw[Nw]at hf;simp only[cond_true]at hf;cases TS:FB P o σ gR with
     |none=>rw[TS]at hf;cases hf
     |some s0 =>
      rw[TS]at hf;cases hf;obtain⟨Sa,ho⟩:=cF;rw[S9,hy,Sa,if_pos (by simpa using Nw)]
      exact AE hd TS ho WQ hK
    |false =>
     rw[Nw]at hf;cases hf;obtain⟨Sa,-⟩:=cF;rw[S9,hy,Sa,if_neg (by simpa using Nw)]
     exact hK _ _ (Fx hd WQ)
   ·rename_i p b t gR hv;cases Nw:(t == want)with
    |true =>
     rw[Nw]at hf;simp only[cond_true]at hf;cases TS:FB P o σ gR with
     |none=>rw[TS]at hf;cases hf
     |some s0 =>
      rw[TS]at hf;cases hf;obtain⟨⟨hp,Sa⟩,ho⟩:=cF;have hy:yielded ops a.tmps j=some b:=nN (w:=w) (φ:=φ) (M:=M) hF hv fun cv h=>uF (w:=w) (φ:=φ) (M:=M) (h.1 hp)
      rw[S9,hy,Sa,if_pos (by simpa using Nw)]
      exact AE hd TS ho WQ hK
    |false =>
     rw[Nw]at hf;cases hf;obtain⟨⟨hp,Sa⟩,-⟩:=cF;have hy:yielded ops a.tmps j=some b:=nN (w:=w) (φ:=φ) (M:=M) hF hv fun cv h=>uF (w:=w) (φ:=φ) (M:=M) (h.1 hp)
     rw[S9,hy,Sa,if_neg (by simpa using Nw)]
     exact hK _ _ (Fx hd WQ)
   ·rename_i p b gR hv;cases hf;have hy:yielded ops a.tmps j=none:=yR (φ:=φ) (M:=M) hF hv fun cv h=>h.2 cF.1
    rw[S9,hy,if_neg (by simp)]
    exact hK _ _ (Fx hd WQ)
   ·rename_i b gR hv;have hy:yielded ops a.tmps j=some b:=nN hF hv fun cv h=>uF h
    split at hf
    ·rename_i r hr;cases ux:r.news.isEmpty with
     |false=>rw[ux]at hf;cases hf
     |true =>
      rw[ux]at hf;simp only[cond_true]at hf;cases Ph:Vt (b=want) r.v with
      |none=>rw[Ph]at hf;cases hf
      |some v =>
       rw[Ph]at hf;cases hf;exact Kw (p:=b=want) hd (by rw[S9,hy];cases b <;> cases want <;> rfl) hN Gj hF hW hφ hr ux Ph cF hK
    ·cases hf
   ·rename_i p b gR hv;split at hf
    ·rename_i r hr;cases ux:r.news.isEmpty with
     |false=>rw[ux]at hf;cases hf
     |true =>
      rw[ux]at hf;simp only[cond_true]at hf;cases Ph:Vt (p∧b=want) r.v with
      |none=>rw[Ph]at hf;cases hf
      |some v =>
       rw[Ph]at hf;cases hf
       haveI:Decidable (p∧b=want):=Classical.propDecidable _
       refine Kw (p:=p∧b=want) hd ?_ hN Gj hF hW hφ hr ux Ph cF hK;rw[S9];by_cases hp:p
       ·have hy:yielded ops a.tmps j=some b:=nN (w:=w) (φ:=φ) (M:=M) hF hv fun cv h=>uF (w:=w) (φ:=φ) (M:=M) (h.1 hp)
        rw[hy];by_cases hb:b=want
        ·simp [hp,hb]
        ·simp [hp,hb]
       ·have hy:yielded ops a.tmps j=none:=yR (φ:=φ) (M:=M) hF hv fun cv h=>h.2 hp
        rw[hy];simp [hp]
    ·cases hf
   ·cases hf
theorem y1{σ σ':SS}{ob:List Prop}{gR:List Hint}(hg:ghost hs σ=some (σ',ob,gR))(ho:cA ob)(hS:Ie Γ σ a w):Ie Γ σ' a w:=by
 obtain⟨hN,Gj,φ,M,hC⟩:=hS;obtain⟨h1,φ',M',h2⟩:=l_ hg ho hC;exact⟨by rw[h1];exact hN,Gj,φ',M',h2⟩
theorem yO:∀(l:List Oper) {σ:SS} {hs:List Hint} {s:St} {a:Act} {w:World},wc P ops l σ hs=some s→cA s.e9→Ie Γ σ a w→(∀a' w',Ie Γ s.σ a' w'→Q .normal a' w')→wpList P ops Q l a w
 | [],σ,hs,s,a,w,hf,_,hS,hQ=>by cases hf;exact hQ a w hS
 |o ::l,σ,hs,s,a,w,hf,cF,hS,hQ=>by
  simp only[wc]at hf;split at hf
  ·rename_i σ0 o0 T5 hg;split at hf
   ·rename_i s1 h1;split at hf
    ·rename_i s2 h2;cases hf;simp only[a0]at cF;have WQ:=y1 hg cF.1.1 hS;have h3:=Ng (K:=wpList P ops Q l) h1 cF.1.2 WQ fun a' w' Gh=>yO l h2 cF.2 Gh hQ
     simp only[wpList];split
     ·rename_i hw;rw[if_pos hw]at h3;exact .inl (RQ (fun _ _ h=>h) h3)
     ·rename_i hw;rw[if_neg hw]at h3;exact h3
    ·cases hf
   ·cases hf
  ·cases hf
end
end
section
open Go.RowKit
section
variable {P : Program} {Γ : a5} {φ φ' : Pl} {M M' : Nat → Prop} {w w' : World} {a : Act} {hs : List Hint} {o : Oper} {ops : Array Oper} {Q : Exit → Act → World → Prop} {σ : SS} {jD : List Nat} {cl : List (Nat × Nat)}
inductive K_ (lo:Nat):List Dn→Nat→Nat→Prop
 |nil:K_ lo [] 0 lo
 |cons {r:List Dn} {i b:Nat} (dst:Option Nat) (v:AV) (news:List Ob) (uO:List (Nat×Option Ob)) (rd:List (Nat×Nat×Nat×List Lf)):K_ lo r i b→K_ lo (⟨i,dst,v,b,news,uO,rd⟩ ::r) (i+1) (b+news.length)
theorem K_.lt{lo i b:Nat}{l:List Dn}(h:K_ lo l i b):lo≤b∧∀d∈l,d.i<i∧lo≤d.base∧d.base+d.news.length≤b:=by
 induction h with
 |nil=>exact⟨Nat.le_refl _,fun d hd=>by cases hd⟩
 |cons dst v news uO rd _ ih =>
  refine⟨by omega,fun d hd=>?_⟩
  rcases List.mem_cons.1 hd with rfl|hd
  ·exact⟨Nat.lt_succ_self _,ih.1,Nat.le_refl _⟩
  ·have:=ih.2 d hd;omega
theorem K_.inj{lo i b:Nat}{l:List Dn}(h:K_ lo l i b):∀x∈l,∀y∈l,x.i=y.i→x=y:=by
 induction h with
 |nil=>intro x hx;cases hx
 |cons dst v news uO rd h ih =>
  have hl:=h.lt.2;intro x hx y hy e;rcases List.mem_cons.1 hx with rfl|hx <;> rcases List.mem_cons.1 hy with rfl|hy
  ·rfl
  ·have:=(hl y hy).1;simp only at e;omega
  ·have:=(hl x hx).1;simp only at e;omega
  ·exact ih x hx y hy e
theorem yX{lo i b:Nat}{H:List (Option Ob)}{S:Nat→Bool}{l:List Dn}(h:K_ lo l i b){id:Nat}(hid:b≤id∨id<lo):te H S l id=hl H id:=by
 induction h with
 |nil=>rfl
 |cons dst v news uO rd h ih =>
  rename_i r i b;have VO:=h.lt.1;simp only[te];have e1:(Nat.ble b id&&Nat.blt id (b+news.length))=false:=by
   rw[Bool.and_eq_false_iff];rcases hid with h1|h1
   ·right;rw[←Bool.not_eq_true];intro h2;have:=Nat.le_of_ble_eq_true h2;omega
   ·left;rw[←Bool.not_eq_true];intro h2;have:=Nat.le_of_ble_eq_true h2;omega
  rw[e1];refine ih ?_
  rcases hid with h1|h1
  ·left;omega
  ·right;exact h1
theorem oT{lo i b:Nat}{H:List (Option Ob)}{S:Nat→Bool}{l:List Dn}(h:K_ lo l i b){d:Dn}(hd:d∈l){id:Nat}(h1:d.base≤id)(h2:id<d.base+d.news.length):te H S l id=bif S d.i then d.news[id-d.base]? else none:=by
 induction h with
 |nil=>cases hd
 |cons dst v news uO rd h ih =>
  rename_i r i b;simp only[te];rcases List.mem_cons.1 hd with rfl|hd
  ·have e1:(Nat.ble b id&&Nat.blt id (b+news.length))=true:=by
    rw[Bool.and_eq_true];exact⟨Nat.ble_eq_true_of_le h1,Nat.ble_eq_true_of_le h2⟩
   rw[e1];rfl
  ·have:=(h.lt.2 d hd).2.2;have e1:(Nat.ble b id&&Nat.blt id (b+news.length))=false:=by
    rw[Bool.and_eq_false_iff];left;rw[←Bool.not_eq_true];intro h3;have:=Nat.le_of_ble_eq_true h3;omega
   rw[e1];exact ih hd
theorem ur{lo i b:Nat}{H:List (Option Ob)}{S:Nat→Bool}{l:List Dn}(h:K_ lo l i b)(id:Nat):(∃d∈l,d.base≤id∧id<d.base+d.news.length)∨((b≤id∨id<lo)∧te H S l id=hl H id):=by
 by_cases hid:b≤id∨id<lo
 ·exact .inr ⟨hid,yX h hid⟩
 ·left;induction h with
  |nil=>omega
  |cons dst v news uO rd h ih =>
   rename_i r i b;by_cases h1:b≤id
   ·exact⟨_,List.mem_cons_self,h1,by simp only;omega⟩
   ·obtain⟨d,hd,h2⟩:=ih (by omega)
    exact⟨d,List.mem_cons_of_mem _ hd,h2⟩
theorem iT{L:List (Nat×AV)}{S:Nat→Bool}{t:Nat}:∀{l:List Dn},(∃d∈l,d.dst=some t∧S d.i=true∧uu L jD S l t=d.v)∨((∀d∈l,d.dst=some t→S d.i=false)∧uu L jD S l t=bif jD.contains t then .Iy else look L t)
 | []=>.inr ⟨fun d hd=>(by cases hd),rfl⟩
 |d ::r=>by
  simp only[uu];cases hc:(d.dst == some t&&S d.i)with
  |true =>
   simp only[Bool.and_eq_true,beq_iff_eq]at hc;exact .inl ⟨d,List.mem_cons_self,hc.1,hc.2,rfl⟩
  |false =>
   simp only[Bool.and_eq_false_iff,beq_eq_false_iff_ne]at hc;rcases iT (L:=L) (S:=S) (t:=t) (l:=r)with⟨x,hx,h1,h2,h3⟩|⟨h1,h2⟩
   ·exact .inl ⟨x,List.mem_cons_of_mem _ hx,h1,h2,h3⟩
   ·refine .inr ⟨fun x hx e=>?_,h2⟩
    rcases List.mem_cons.1 hx with rfl|hx
    ·rcases hc with h|h
     ·exact absurd e h
     ·exact h
    ·exact h1 x hx e
theorem wg{id:Nat}{o:Option Ob}:∀{l:List (Nat×Option Ob)},nO l id=some o→(id,o)∈l
 | [],h=>by cases h
 |(u,x) ::r,h=>by
  simp only[nO]at h;cases hu:(u == id)with
  |true =>
   rw[hu]at h;cases h;have:u=id:=by simpa using hu
   subst this;simp
  |false=>rw[hu]at h;exact List.mem_cons_of_mem _ (wg h)
theorem xh{S:Nat→Bool}{id:Nat}:∀{l:List Dn},(∀x∈l,∀ob,(id,ob)∈x.uO→S x.i=false)→pJ S l id=none
 | [],_=>rfl
 |d ::r,h=>by
  have ih:=xh (S:=S) (id:=id) (l:=r) fun x hx=>h x (List.mem_cons_of_mem _ hx)
  simp only[pJ];split
  ·rename_i ob hu;cases hc:S d.i with
   |false=>rw[hc]at hu;cases hu
   |true =>
    rw[hc]at hu;have:=h d List.mem_cons_self ob (wg hu);rw[hc]at this;cases this
  ·exact ih
theorem De{S S':Nat→Bool}{id:Nat}:∀{l:List Dn},(∀x∈l,∀ob,(id,ob)∈x.uO→S x.i=S' x.i)→pJ S l id=pJ S' l id
 | [],_=>rfl
 |d ::r,h=>by
  have ih:=De (S:=S) (S':=S') (id:=id) (l:=r) fun x hx=>h x (List.mem_cons_of_mem _ hx)
  simp only[pJ];rw[ih];cases hf:nO d.uO id with
  |none=>cases S d.i <;> cases S' d.i <;> rfl
  |some ob=>rw[h d List.mem_cons_self ob (wg hf)]
theorem KA{S:Nat→Bool}{u:Nat}{o:Option Ob}{d:Dn}(hu:nO d.uO u=some o)(hS:S d.i=true):∀{l:List Dn},d∈l→(∀x∈l,∀xj,(u,xj)∈x.uO→x=d)→pJ S l u=some o
 |x ::r,hd,h=>by
  simp only[pJ];split
  ·rename_i o' U9;cases hc:S x.i with
   |false=>rw[hc]at U9;cases U9
   |true =>
    rw[hc]at U9;simp only[cond_true]at U9;have:=h x List.mem_cons_self o' (wg U9);subst this;rw[hu]at U9;exact U9.symm
  ·rename_i hn;rcases List.mem_cons.1 hd with rfl|hd
   ·rw[hS]at hn;simp only[cond_true]at hn;rw[hu]at hn;cases hn
   ·exact KA hu hS hd fun x hx=>h x (List.mem_cons_of_mem _ hx)
theorem L8{i id:Nat}{h:Nat→Option Ob}{ob:Ob}(e:view cl i h id=some ob):h id=some ob∧∀j,Jx cl id=some j→j=i:=by
 unfold view at e;split at e
 ·rename_i j hj;cases hc:(j == i)with
  |false=>rw[hc]at e;cases e
  |true=>rw[hc]at e;exact⟨e,fun j' h=>by rw[hj]at h;cases h;simpa using hc⟩
 ·rename_i hj;exact⟨e,fun j' h=>by rw[hj]at h;cases h⟩
def Tg(P:Program)(ops:Array Oper)(σ:SS)(jD:List Nat)(cl:List (Nat×Nat))(d:Dn)(o:Oper)(post:List Dn):Prop:=
 (d.uO=[]∧∃(r:G_) (hs:List Hint),QN P ops o (view cl d.i (te σ.H (jw o).contains post)) d.base (uu σ.L jD (jw o).contains post) hs=some r∧cA r.e9∧r.v=d.v∧r.news=d.news)∨
 (o.guard=none∧(∀u∈d.uO,Jx cl u.1=some d.i)∧∃(r:Wr) (hs:List Hint),Tf P (view cl d.i (te σ.H (jw o).contains post)) d.base (uu σ.L jD (jw o).contains post) o.op hs=some r∧cA r.e9∧r.v=d.v∧r.news=d.news∧r.uO=d.uO)∨
 (o.guard=none∧d.uO=[]∧d.news=[]∧∃(q:Nat×Nat×Nat×List Lf) (Iv:List Prop),UL P σ.H (uu σ.L jD (jw o).contains post) o.op=some (d.v,q,Iv)∧cA Iv∧q∈d.rd)
theorem Gg(h:wh o=true):o.guard=none:=by
 unfold wh at h;split at h
 ·assumption
 ·cases h
structure Pq (P:Program) (ops:Array Oper) (σ:SS) (jD:List Nat) (cl:List (Nat×Nat)) (n:Nat) (full:List Dn) (b:Nat):Prop where
 wf:K_ σ.H.length full n b
 op:∀j,j<n→∃(pre post:List Dn) (d:Dn) (o:Oper),full=pre++d ::post∧d.i=j∧ops[j]?=some o∧d.dst=o.dst∧Es σ.N o.dst=true∧K_ σ.H.length post j d.base∧Tg P ops σ jD cl d o post
theorem F0:∀{l:List Oper} {i:Nat} {done:List Dn} {base:Nat} {hs:List Hint} {full:List Dn} {b:Nat} {ob:List Prop} {gR:List Hint},XE P ops σ jD cl i l done base hs=some (full,b,ob,gR)→cA ob→(∀k,l[k]?=ops[i+k]?∨l.length≤k)→K_ σ.H.length done i base→
  ∃pre,full=pre++done∧K_ σ.H.length full (i+l.length) b∧∀k,k<l.length→∃(pre post:List Dn) (d:Dn) (o:Oper),full=pre++d ::post∧d.i=i+k∧ops[i+k]?=some o∧d.dst=o.dst∧Es σ.N o.dst=true∧K_ σ.H.length post (i+k) d.base∧Tg P ops σ jD cl d o post
 | [],i,done,base,hs,full,b,ob,gR,hf,_,_,hw=>by
  simp only[XE]at hf;cases hf;exact⟨[],rfl,hw,fun k hk=>by simp at hk⟩
 |o ::l,i,done,base,hs,full,b,ob,gR,hf,ho,hl,hw=>by
  simp only[XE]at hf;have h0:ops[i]?=some o:=by
   rcases hl 0 with h|h
   ·rw[Nat.add_zero]at h;rw[←h];rfl
   ·simp at h
  have Il:∀k,l[k]?=ops[i+1+k]?∨l.length≤k:=fun k=>by
   rcases hl (k+1)with h|h
   ·left;rw[show i+1+k=i+(k+1) by omega,←h];rfl
   ·right;simpa using h
  cases hd:Es σ.N o.dst with
  |false=>rw[hd]at hf;cases hf
  |true =>
   rw[hd]at hf;simp only[Bool.not_true,cond_false]at hf;split at hf
   ·rename_i r hr;split at hf
    ·rename_i d1 b1 KI KG h1;cases hf;rw[a0]at ho;obtain⟨pre,e,U_,uw⟩:=F0 h1 ho.2 Il (K_.cons o.dst r.v r.news [] [] hw);refine⟨pre++[⟨i,o.dst,r.v,base,r.news,[],[]⟩],by rw[e];simp,by rw[List.length_cons,show i+(l.length+1)=i+1+l.length by omega];exact U_,fun k hk=>?_⟩
     cases k with
     |zero=>exact⟨pre,done,_,o,e,rfl,h0,rfl,hd,hw,.inl ⟨rfl,r,hs,hr,ho.1,rfl,rfl⟩⟩
     |succ k =>
      have:=uw k (by simpa using hk)
      rw[show i+1+k=i+(k+1) by omega]at this
      exact this
    ·cases hf
   ·split at hf
    ·rename_i r pk;cases hc:(wh o&&r.uO.all (fun u=>Jx cl u.1 == some i))with
     |false=>rw[hc]at hf;cases hf
     |true =>
      rw[hc]at hf;simp only[cond_true]at hf;rw[Bool.and_eq_true]at hc;split at hf
      ·rename_i d1 b1 KI KG h1;cases hf;rw[a0]at ho;obtain⟨pre,e,U_,uw⟩:=F0 h1 ho.2 Il (K_.cons o.dst r.v r.news r.uO [] hw);refine⟨pre++[⟨i,o.dst,r.v,base,r.news,r.uO,[]⟩],by rw[e];simp,by rw[List.length_cons,show i+(l.length+1)=i+1+l.length by omega];exact U_,fun k hk=>?_⟩
       cases k with
       |zero=>exact⟨pre,done,_,o,e,rfl,h0,rfl,hd,hw,.inr (.inl ⟨Gg hc.1,fun u hu=>by simpa using List.all_eq_true.1 hc.2 u hu,r,hs,pk,ho.1,rfl,rfl,rfl⟩)⟩
       |succ k =>
        have:=uw k (by simpa using hk)
        rw[show i+1+k=i+(k+1) by omega]at this
        exact this
      ·cases hf
    ·split at hf
     ·rename_i v q Iv pk;cases hc:wh o with
      |false=>rw[hc]at hf;cases hf
      |true =>
       rw[hc]at hf;simp only[cond_true]at hf;split at hf
       ·rename_i d1 b1 KI KG h1;cases hf;rw[a0]at ho;obtain⟨pre,e,U_,uw⟩:=F0 h1 ho.2 Il (K_.cons o.dst v [] [] [q] hw);refine⟨pre++[⟨i,o.dst,v,base,[],[],[q]⟩],by rw[e];simp,by rw[List.length_cons,show i+(l.length+1)=i+1+l.length by omega];exact U_,fun k hk=>?_⟩
        cases k with
        |zero=>exact⟨pre,done,_,o,e,rfl,h0,rfl,hd,hw,.inr (.inr ⟨Gg hc,rfl,rfl,q,Iv,pk,ho.1,by simp⟩)⟩
        |succ k =>
         have:=uw k (by simpa using hk)
         rw[show i+1+k=i+(k+1) by omega]at this
         exact this
       ·cases hf
     ·cases hf
theorem NY{h hD:Nat→Option Ob}{L:Nat→AV}{base:Nat}{r:G_}(hf:QN P ops o h base L hs=some r)(cF:cA r.e9)(hF:∀t,AR w M φ (L t) (a.tmps.getD t undef))(hW:Wd Γ φ M hD w)(ef:∀id ob,h id=some ob→hD id=some ob)
  (pM:∀id,base≤id→id<base+r.news.length→φ id=none∧hD id=none) {K:Act→World→Prop}
  (hK:∀v w' φ' M',AR w' M' φ' r.v v→Wd Γ φ' M' (LO hD base r.news) w'→Ex w M φ w' M' φ'→(∀id,φ' id≠none→φ id≠none∨(base≤id∧id<base+r.news.length))→K (a.put o.dst v) w'):
  (if Region.wanted o (yielded ops a.tmps)=true then o.wp P a w K NQ else K (a.put o.dst undef) w):=by
 unfold QN at hf;split at hf
 ·rename_i hg;have hw:Region.wanted o (yielded ops a.tmps)=true:=by unfold Region.wanted;rw[hg]
  rw[if_pos hw];exact Hk hf cF hF hW ef pM hK
 ·rename_i j want hg;have S9:Region.wanted o (yielded ops a.tmps)=(yielded ops a.tmps j == some want):=by unfold Region.wanted;rw[hg]
  split at hf
  ·rename_i b t gR hv;have hy:yielded ops a.tmps j=some b:=nN hF hv fun cv h=>uF h
   cases Nw:(t == want)with
   |true =>
    rw[Nw]at hf;simp only[cond_true]at hf;cases TS:YB P h base L o.op gR with
    |none=>rw[TS]at hf;cases hf
    |some r0 =>
     rw[TS]at hf;cases hf;obtain⟨Sa,ho⟩:=cF;rw[S9,hy,Sa,if_pos (by simpa using Nw)]
     exact Hk TS ho hF hW ef pM hK
   |false =>
    rw[Nw]at hf;cases hf;obtain⟨Sa,-⟩:=cF;rw[S9,hy,Sa,if_neg (by simpa using Nw)]
    exact hK undef w φ M ⟨False.elim,fun _=>rfl⟩ (by rw[sI];exact hW) (Ex.refl _ _ _) fun _ h=>.inl h
  ·rename_i p b gR hv;cases hf;have hy:yielded ops a.tmps j=none:=yR (φ:=φ) (M:=M) hF hv fun cv h=>h.2 cF.1
   rw[S9,hy,if_neg (by simp)]
   exact hK undef w φ M ⟨False.elim,fun _=>rfl⟩ (by rw[sI];exact hW) (Ex.refl _ _ _) fun _ h=>.inl h
  ·rename_i b gR hv;have hy:yielded ops a.tmps j=some b:=nN hF hv fun cv h=>uF h
   split at hf
   ·rename_i r0 hr;cases ux:r0.news.isEmpty with
    |false=>rw[ux]at hf;cases hf
    |true =>
     rw[ux]at hf;simp only[cond_true]at hf;cases Ph:Vt (b=want) r0.v with
     |none=>rw[Ph]at hf;cases hf
     |some v =>
      rw[Ph]at hf;cases hf;have B9:r0.news=[]:=by simpa using ux
      have QbC:∃c,r0.v=.cm c∧v=.gd (b=want) c:=by
       unfold Vt at Ph;split at Ph
       ·rename_i c hc;cases Ph;exact⟨c,hc,rfl⟩
       ·cases Ph
      obtain⟨c,hc,rfl⟩:=QbC;rw[S9,hy];by_cases hp:b=want
      ·rw[if_pos (by simp [hp])]
       obtain⟨v,w',φ',c6,Lx,mw,A6,hn,hb⟩:=Dk (φ:=φ) (M:=M) (hD:=hD) hr cF hp hF hW ef (fun id h1 h2=>by rw[B9]at h2;simp at h2;omega)
       unfold Oper.wp;rw[c6];rw[hc]at Lx;rw[B9]at mw hn;exact hK v w' φ' M ⟨fun _=>Lx,fun h=>absurd hp h⟩ mw ⟨hb,fun _ h=>h,A6⟩ hn
      ·rw[if_neg (by simp [hp])]
       exact hK undef w φ M ⟨fun h=>absurd h hp,fun _=>rfl⟩ (by rw[sI];exact hW) (Ex.refl _ _ _) fun _ h=>.inl h
   ·cases hf
  ·cases hf
def Ve(Γ:a5)(σ:SS)(jD:List Nat)(full:List Dn)(listed:Array Bool)(a:Act)(w:World):Prop:=
 a.tmps.size=σ.N∧a.defers=[]∧∃φ M,(∀t,AR w M φ (uu σ.L jD (fun i=>listed.getD i false) full t) (a.tmps.getD t undef))∧Wd Γ φ M (lk σ.H (fun i=>listed.getD i false) full) w∧
  ∀id,σ.H.length≤id→(∀d∈full,listed.getD d.i false=true→¬(d.base≤id∧id<d.base+d.news.length))→φ id=none
theorem LF{o:Oper}{j:Nat}:j∈jw o↔∃e∈o.after,Region.binds .any e=true∧e.on=j:=by
 unfold jw;simp only[List.mem_map,List.mem_filter,Array.mem_toList_iff];constructor
 ·rintro⟨e,⟨h1,h2⟩,h3⟩;exact⟨e,h1,h2,h3⟩
 ·rintro⟨e,h1,h2,h3⟩;exact⟨e,⟨h1,h2⟩,h3⟩
theorem Pq.XC{n b:Nat}{full:List Dn}(hD:Pq P ops σ jD cl n full b):∀x∈full,∀u ob,(u,ob)∈x.uO→Jx cl u=some x.i:=fun x hx u ob hu=>by
 obtain⟨pre,post,d,o,e,YM,-,-,-,-,pk⟩:=hD.op x.i (hD.wf.lt.2 x hx).1;have:d=x:=hD.wf.inj d (by rw[e];simp) x hx YM
 subst this;rcases pk with⟨h,-⟩|⟨-,h,-⟩|⟨-,h,-⟩
 ·rw[h]at hu;cases hu
 ·exact h (u,ob) hu
 ·rw[h]at hu;cases hu
theorem HS{q:Nat×Nat×Nat×List Lf}{o:Option Ob}:∀{l:List (Nat×Option Ob)},cA (OO q l)→(q.1,o)∈l→rdP q o
 | [],_,h=>by cases h
 |(u,x) ::r,ha,h=>by
  simp only[OO]at ha;cases hu:(u == q.1)with
  |true =>
   rw[hu]at ha;rcases List.mem_cons.1 h with h|h
   ·cases h;exact ha.1
   ·exact HS ha.2 h
  |false =>
   rw[hu]at ha;rcases List.mem_cons.1 h with h|h
   ·cases h;simp at hu
   ·exact HS ha h
theorem LW{q:Nat×Nat×Nat×List Lf}{o:Option Ob}{x:Dn}:∀{l:List Dn},cA (LV q l)→x∈l→(q.1,o)∈x.uO→rdP q o
 |d ::r,ha,hx,h=>by
  simp only[LV,a0]at ha;rcases List.mem_cons.1 hx with rfl|hx
  ·exact HS ha.1 h
  ·exact LW ha.2 hx h
theorem OP{full:List Dn}{q:Nat×Nat×Nat×List Lf}:∀{l:List (Nat×Nat×Nat×List Lf)},cA (Wi full l)→q∈l→cA (LV q full)
 |d ::r,ha,hx=>by
  simp only[Wi,a0]at ha;rcases List.mem_cons.1 hx with rfl|hx
  ·exact ha.1
  ·exact OP ha.2 hx
theorem LU{full:List Dn}{d:Dn}{q:Nat×Nat×Nat×List Lf}:∀{l:List Dn},cA (LS full l)→d∈l→q∈d.rd→cA (LV q full)
 |x ::r,ha,hx,h=>by
  simp only[LS,a0]at ha;rcases List.mem_cons.1 hx with rfl|hx
  ·exact OP ha.1 h
  ·exact LU ha.2 hx h
theorem L6{S:Nat→Bool}{id:Nat}{o:Option Ob}:∀{l:List Dn},pJ S l id=some o→∃x∈l,(id,o)∈x.uO
 | [],h=>by cases h
 |d ::r,h=>by
  simp only[pJ]at h;split at h
  ·rename_i ob hu;cases h;cases hS:S d.i with
   |false=>rw[hS]at hu;cases hu
   |true=>rw[hS]at hu;exact⟨d,List.mem_cons_self,wg hu⟩
  ·obtain⟨x,hx,h1⟩:=L6 h;exact⟨x,List.mem_cons_of_mem _ hx,h1⟩
theorem Qj{r:Bool}{n off:Nat}{cs KR:List Lf}(h:(KR.drop off).take ((cs.drop off).take n).length=(cs.drop off).take n)(hr:(r||n == 1)=true){c:Cm}(hc:qd r n off cs=some c):qd r n off KR=some c:=by
 unfold qd at hc ⊢;cases r with
 |true =>
  simp only[cond_true]at hc ⊢;cases hl:(((cs.drop off).take n).length == n)with
  |false=>rw[hl]at hc;cases hc
  |true =>
   have Il:((cs.drop off).take n).length=n:=by simpa using hl
   rw[Il]at h;rw[h,hl];rw[hl]at hc;exact hc
 |false =>
  have hn:n=1:=by simpa using hr
  subst hn;simp only[cond_false]at hc ⊢;cases ho:cs[off]? with
  |none=>rw[ho]at hc;cases hc
  |some x =>
   have m9:=(List.getElem?_eq_some_iff.1 ho).1;have h1:(cs.drop off).take 1=[x]:=by
    rw[List.take_one,List.head?_drop,ho];rfl
   rw[h1]at h;have h2:KR[off]?=some x:=by
    have h3:((KR.drop off).take ([x]:List Lf).length)[0]?=some x:=by rw[h];rfl
    rw[List.getElem?_take]at h3;simpa using h3
   rw[h2,←ho];exact hc
theorem Ug{n b j:Nat}{full:List Dn}{listed:Array Bool}(hD:Pq P ops σ jD cl n full b)(hrd:cA (LS full full))(Sd:∀x∈full,∀y∈full,∀t,x.dst=some t→y.dst=some t→x=y)(MD:∀x∈full,∀t,x.dst=some t→jD.contains t=true)
  (inv:Ve Γ σ jD full listed a w) (hj:j<n) (ZV:listed.getD j true=false) (X3:∀k∈jw (ops.getD j default),listed.getD k false=true) {K:Act→World→Prop} (hK:∀a' w',Ve Γ σ jD full (listed.setIfInBounds j true) a' w'→K a' w'):
  wpOp P ops Q j K a w:=by
 obtain⟨pre,post,d,o,WH,rfl,W4,WS,VM,Z1,pk⟩:=hD.op j hj;obtain⟨hN,Gj,φ,M,hF,hW,hφ⟩:=inv;have TU:∀x∈post,x∈full:=fun x hx=>by rw[WH];simp [hx]
 have zM:d∈full:=by rw[WH];simp
 have VU:listed.getD d.i false=false:=getD_both ZV;have hog:ops.getD d.i default=o:=by simp [Array.getD_eq_getD_getElem?,W4]
 rw[hog]at X3;have m9:=hD.wf.lt;have VJ:=hD.XC;have T7:∀k,k≠d.i→(listed.setIfInBounds d.i true).getD k false=listed.getD k false:=fun k hk=>getD_set_ne false (Ne.symm hk)
 have y3:d.i<listed.size:=by
  rcases Nat.lt_or_ge d.i listed.size with h|h
  ·exact h
  ·simp [Array.getElem?_eq_none h]at ZV
 have AO:(listed.setIfInBounds d.i true).getD d.i false=true:=by simp [Array.getD_eq_getD_getElem?,y3]
 -- Qv QdM Ws it QcE
 have hFL:∀t,AR w M φ (uu σ.L jD (jw o).contains post t) (a.tmps.getD t undef):=fun t=>by
  rcases iT (jD:=jD) (L:=σ.L) (S:=(jw o).contains) (t:=t) (l:=post)with⟨x,hx,h1,h2,h3⟩|⟨h1,h2⟩
  ·rw[h3];have S_:listed.getD x.i false=true:=X3 x.i (by simpa using h2)
   have h4:=hF t;rcases iT (jD:=jD) (L:=σ.L) (S:=fun i=>listed.getD i false) (t:=t) (l:=full)with⟨y,hy,g1,g2,g3⟩|⟨g1,g2⟩
   ·rw[g3,Sd y hy x (TU x hx) t g1 h1]at h4;exact h4
   ·rw[g1 x (TU x hx) h1]at S_;cases S_
  ·rw[h2];cases hc:jD.contains t with
   |true=>trivial
   |false =>
    have h4:=hF t;rcases iT (jD:=jD) (L:=σ.L) (S:=fun i=>listed.getD i false) (t:=t) (l:=full)with⟨y,hy,g1,g2,g3⟩|⟨g1,g2⟩
    ·rw[MD y hy t g1]at hc;cases hc
    ·rw[g2,hc]at h4;exact h4
 -- Qv objects Ws it QcE
 have ef:∀id ob,view cl d.i (te σ.H (jw o).contains post) id=some ob→lk σ.H (fun i=>listed.getD i false) full id=some ob:=fun id ob hv=>by
  obtain⟨hid,DE⟩:=L8 hv;have hu:pJ (fun i=>listed.getD i false) full id=none:=xh fun x hx xj xi=>by
   have:=DE x.i (VJ x hx id xj xi);rw[this];exact VU
  unfold lk;rw[hu];rcases ur (H:=σ.H) (S:=(jw o).contains) Z1 id with⟨x,hx,h1,h2⟩|⟨h1,h2⟩
  ·rw[oT Z1 hx h1 h2]at hid;simp only;rw[oT hD.wf (TU x hx) h1 h2];cases hs:(jw o).contains x.i with
   |false=>rw[hs]at hid;cases hid
   |true =>
    rw[hs]at hid;have:listed.getD x.i false=true:=X3 x.i (by simpa using hs)
    rw[this];exact hid
  ·rw[h2]at hid;have VO:id<σ.H.length:=jT hid;simp only;rw[yX hD.wf (.inr VO)];exact hid
 -- WD others have left is left
 have ZN:∀id,¬(d.base≤id∧id<d.base+d.news.length)→te σ.H (fun i=>(listed.setIfInBounds d.i true).getD i false) full id=te σ.H (fun i=>listed.getD i false) full id:=fun id hi=>by
  rcases ur (H:=σ.H) (S:=fun i=>(listed.setIfInBounds d.i true).getD i false) hD.wf id with⟨x,hx,h1,h2⟩|⟨h1,h2⟩
  ·have Ya:x.i≠d.i:=fun e=>hi (by rw[←hD.wf.inj x hx d zM e];exact⟨h1,h2⟩)
   rw[oT hD.wf hx h1 h2,oT hD.wf hx h1 h2,T7 _ Ya]
  ·rw[h2,yX hD.wf h1]
 have ZW:∀id,(∀ob,(id,ob) ∉ d.uO)→pJ (fun i=>(listed.setIfInBounds d.i true).getD i false) full id=pJ (fun i=>listed.getD i false) full id:=fun id ux=>De fun x hx ob hu=>by
  by_cases Ya:x.i=d.i
  ·have:=hD.wf.inj x hx d zM Ya;subst this;exact absurd hu (ux ob)
  ·exact T7 _ Ya
 -- Qv end of it
 have fin:∀v w' φ' M',AR w' M' φ' d.v v→Wd Γ φ' M' (lk σ.H (fun i=>(listed.setIfInBounds d.i true).getD i false) full) w'→Ex w M φ w' M' φ'→(∀id,φ' id≠none→φ id≠none∨(d.base≤id∧id<d.base+d.news.length))→K (a.put o.dst v) w':=by
  intro v w' φ' M' hv mw he hn;refine hK _ _ ⟨by rw[wY];exact hN,by rw[put_defers];exact Gj,φ',M',?_,mw,?_⟩
  ·intro t;have h4:=AR.mono he (hF t);by_cases VN:d.dst=some t
   ·have XN:t<a.tmps.size:=by
     rw[WS]at VN;rw[VN]at VM;rw[hN];exact Nat.le_of_ble_eq_true VM
    rw[←WS,VN,M1 XN,if_pos rfl];rcases iT (jD:=jD) (L:=σ.L) (S:=fun i=>(listed.setIfInBounds d.i true).getD i false) (t:=t) (l:=full)with⟨y,hy,g1,g2,g3⟩|⟨g1,g2⟩
    ·rw[g3,Sd y hy d zM t g1 VN];exact hv
    ·have:=g1 d zM VN;rw[AO]at this;cases this
   ·have Zv:(a.put o.dst v).tmps.getD t undef=a.tmps.getD t undef:=by
     rw[←WS];cases hd2:d.dst with
     |none=>rfl
     |some u =>
      rw[hd2]at VN;have XN:u<a.tmps.size:=by
       rw[WS]at hd2;rw[hd2]at VM;rw[hN];exact Nat.le_of_ble_eq_true VM
      rw[M1 XN,if_neg (fun e=>VN (by rw[e]))]
    rw[Zv];have T6:uu σ.L jD (fun i=>(listed.setIfInBounds d.i true).getD i false) full t=uu σ.L jD (fun i=>listed.getD i false) full t:=by
     rcases iT (jD:=jD) (L:=σ.L) (S:=fun i=>(listed.setIfInBounds d.i true).getD i false) (t:=t) (l:=full)with⟨y,hy,g1,g2,g3⟩|⟨g1,g2⟩
     ·have hyi:y.i≠d.i:=fun e=>VN (by rw[←hD.wf.inj y hy d zM e];exact g1)
      rw[T7 _ hyi]at g2;rcases iT (jD:=jD) (L:=σ.L) (S:=fun i=>listed.getD i false) (t:=t) (l:=full)with⟨z,hz,k1,k2,k3⟩|⟨k1,k2⟩
      ·rw[g3,k3,Sd y hy z hz t g1 k1]
      ·rw[k1 y hy g1]at g2;cases g2
     ·rcases iT (jD:=jD) (L:=σ.L) (S:=fun i=>listed.getD i false) (t:=t) (l:=full)with⟨z,hz,k1,k2,k3⟩|⟨k1,k2⟩
      ·have hzi:z.i≠d.i:=fun e=>VN (by rw[←hD.wf.inj z hz d zM e];exact k1)
       have:=g1 z hz k1;rw[T7 _ hzi,k2]at this;cases this
      ·rw[g2,k2]
    rw[T6];exact h4
  ·intro id hid uw;refine Classical.byContradiction fun h=>?_
   rcases hn id h with h1|h1
   ·refine h1 (hφ id hid fun x hx S_=>?_)
    by_cases Ya:x.i=d.i
    ·rw[Ya,VU]at S_;cases S_
    ·exact uw x hx (by rw[T7 _ Ya];exact S_)
   ·exact uw d zM AO h1
 have hφn:∀id,d.base≤id→id<d.base+d.news.length→φ id=none:=fun id h1 h2=>by
  refine hφ id ?_ fun x hx S_ YU=>?_
  ·have:=(m9.2 d zM).2.1;omega
  ·have:x=d:=by
    have e1:=oT (H:=[]) (S:=fun i=>i == x.i) hD.wf hx YU.1 YU.2
    have e2:=oT (H:=[]) (S:=fun i=>i == x.i) hD.wf zM h1 h2
    refine Classical.byContradiction fun ux=>?_
    have TV:d.i≠x.i:=fun e=>ux (hD.wf.inj x hx d zM e.symm)
    have c1:(x.i == x.i)=true:=by simp
    have c2:(d.i == x.i)=false:=by simpa using TV
    simp only[c1,cond_true]at e1;simp only[c2,cond_false]at e2;rw[e1]at e2;have hl:id-x.base<x.news.length:=by omega
    simp [List.getElem?_eq_getElem hl]at e2
   rw[this,VU]at S_;cases S_
 have ZX:∀id,d.base≤id→id<d.base+d.news.length→∀ob,pJ (fun i=>listed.getD i false) full id≠some (some ob):=fun id h1 h2 ob hu=>by
  have hO:=hW.e9 id ob (by unfold lk;rw[hu])
  exact hO.Ys (hφn id h1 h2)
 have pM:∀id,d.base≤id→id<d.base+d.news.length→φ id=none∧lk σ.H (fun i=>listed.getD i false) full id=none:=fun id h1 h2=>by
  refine⟨hφn id h1 h2,?_⟩;unfold lk;split
  ·rename_i ob hu;cases ob with
   |none=>rfl
   |some ob=>exact absurd hu (ZX id h1 h2 ob)
  ·rw[oT hD.wf zM h1 h2,VU];rfl
 -- WD is there Xy
 have wD:∀{φ':Pl} {M':Nat→Prop} {w':World},Wd Γ φ' M' (LO (Ib (lk σ.H (fun i=>listed.getD i false) full) d.uO) d.base d.news) w'→Wd Γ φ' M' (lk σ.H (fun i=>(listed.setIfInBounds d.i true).getD i false) full) w':=fun mw=>mw.less fun id ob hid=>by
  unfold LO;by_cases hi:d.base≤id∧id<d.base+d.news.length
  ·rw[if_pos hi];unfold lk at hid;rw[oT hD.wf zM hi.1 hi.2,AO]at hid;have XZ:∀o',(id,o') ∉ d.uO:=fun o' hm=>by
    have DE:=VJ d zM id o' hm;rcases pk with⟨h,-⟩|⟨-,-,r,hs,pk,-,-,-,ZO⟩|⟨-,h,-⟩
    ·rw[h]at hm;cases hm
    ·rw[←ZO]at hm;obtain⟨Iv,g⟩:=KB pk (id,o') hm;have:=ef id Iv g;rw[(pM id hi.1 hi.2).2]at this;cases this
    ·rw[h]at hm;cases hm
   rw[ZW id XZ]at hid;split at hid
   ·rename_i o' hu;subst hid;exact absurd hu (ZX id hi.1 hi.2 ob)
   ·exact hid
  ·rw[if_neg hi];unfold Ib;cases hf:nO d.uO id with
   |some o' =>
    simp only;unfold lk at hid;rw[KA (d:=d) (u:=id) (o:=o') hf AO zM (fun x hx xj hu=>by
     have h1:=VJ x hx _ _ hu;have h2:=VJ d zM _ _ (wg hf);rw[h2]at h1;exact hD.wf.inj x hx d zM (Option.some.inj h1).symm)]at hid
    exact hid
   |none =>
    simp only;have XZ:∀o',(id,o') ∉ d.uO:=fun o' hm=>by
     have:∀{l:List (Nat×Option Ob)},(id,o')∈l→nO l id≠none:=by
      intro l;induction l with
      |nil=>intro h;cases h
      |cons y l ih =>
       obtain⟨u,x⟩:=y;intro h hn;simp only[nO]at hn;cases hu:(u == id)with
       |true=>rw[hu]at hn;cases hn
       |false =>
        rw[hu]at hn;rcases List.mem_cons.1 h with h|h
        ·cases h;simp at hu
        ·exact ih h hn
     exact this hm hf
    unfold lk at hid ⊢;rw[ZW id XZ,ZN id hi]at hid;exact hid
 rcases pk with⟨X9,r,hs,pk,cF,U8,Pk⟩|⟨Zv,DE,r,hs,pk,cF,U8,Pk,ZO⟩|⟨Zv,X9,AN,q,Iv,pk,cF,hqd⟩
 ·have key:=NY (φ:=φ) (M:=M) (w:=w) (a:=a) (Γ:=Γ) (hD:=lk σ.H (fun i=>listed.getD i false) full) (K:=K) pk cF hFL hW ef (fun id h1 h2=>by
   rw[Pk]at h2;exact pM id h1 h2) fun v w' φ' M' hv mw he hn=>fin v w' φ' M' (by rw[←U8];exact hv) (wD (by rw[X9,←Pk];exact mw)) he (by rw[←Pk];exact hn)
  unfold wpOp;simp only[W4];split
  ·rename_i hw;rw[if_pos hw]at key;exact .inl (RQ (fun _ _ h=>h) key)
  ·rename_i hw;rw[if_neg hw]at key;exact key
 ·have hw:Region.wanted o (yielded ops a.tmps)=true:=by unfold Region.wanted;rw[Zv]
  unfold wpOp;simp only[W4,hw,if_true];left;refine RQ (fun _ _ h=>h) (L_ (φ:=φ) (M:=M) (w:=w) (a:=a) (Γ:=Γ) (hD:=lk σ.H (fun i=>listed.getD i false) full) (K:=K) pk cF hFL hW ef (fun id h1 h2=>by
   rw[Pk]at h2;exact pM id h1 h2) fun v w' hm=>?_)
  obtain⟨φ',M',hv,mw,he,hn⟩:=hm;exact fin v w' φ' M' (by rw[←U8];exact hv) (wD (by rw[←ZO,←Pk];exact mw)) he (by rw[←Pk];exact hn)
 ·have hw:Region.wanted o (yielded ops a.tmps)=true:=by unfold Region.wanted;rw[Zv]
  unfold wpOp;simp only[W4,hw,if_true];left
  -- Qv load,from Qv box as it is now
  have TX:∃r:G_,uT P (lk σ.H (fun i=>listed.getD i false) full) d.base True (uu σ.L jD (jw o).contains post) o.op []=some r∧cA r.e9∧r.v=d.v∧r.news=[]:=by
   unfold UL at pk;split at pk
   ·rename_i t x S7;split at pk
    ·rename_i id sz row off KI m Kl hg ht htr;split at pk
     ·rename_i ob hid;split at pk
      ·rename_i cells nQ iF;cases hc:(ob.sz == sz&&row == 0&&(Kl||m == 1))with
       |false=>rw[hc]at pk;cases pk
       |true =>
        rw[hc]at pk;simp only[cond_true]at pk;cases hp:qd Kl m off cells with
        |none=>rw[hp]at pk;cases pk
        |some c =>
         rw[hp]at pk;simp only[Option.map_some,Option.some.injEq,Prod.mk.injEq]at pk;obtain⟨hv,rfl,rfl⟩:=pk;simp only[Bool.and_eq_true,beq_iff_eq]at hc;have VO:id<σ.H.length:=jT hid;have QbR:∃xj,lk σ.H (fun i=>listed.getD i false) full id=some xj∧xj.box=true∧xj.sz=sz∧∃Mm,xj.rows=[Mm]∧qd Kl m off Mm=some c:=by
          unfold lk;cases hu:pJ (fun i=>listed.getD i false) full id with
          |none =>
           simp only;rw[yX hD.wf (.inr VO)];exact⟨ob,hid,nQ,hc.1.1,cells,iF,hp⟩
          |some o' =>
           obtain⟨x',xi,hxu⟩:=L6 hu;have hP:=LW (LU hrd zM hqd) xi hxu;cases o' with
           |none=>exact hP.elim
           |some xj =>
            simp only[rdP,Prod.mk.injEq]at hP;obtain⟨p1,p2,p3⟩:=hP;refine⟨xj,rfl,p1,p2,?_⟩;cases Rb:xj.rows with
            |nil=>rw[Rb]at p3;cases p3
            |cons c0 r0 =>
             rw[Rb]at p3;simp only[List.map_cons,List.cons.injEq,List.map_eq_nil_iff]at p3;obtain⟨p4,rfl⟩:=p3;exact⟨c0,rfl,Qj p4 hc.2 hp⟩
         obtain⟨xj,k1,k2,k3,Mm,k4,k5⟩:=QbR;refine⟨⟨.cm c,[],KI,[]⟩,?_,cF,hv,rfl⟩;rw[S7];simp only[uT,hg,ht,htr,k1,k2,k3,k4,k5,hc.1.2,beq_self_eq_true,cond_true,Option.map_some]
      ·cases pk
     ·cases pk
    ·cases pk
   ·cases pk
  obtain⟨r,hr,W5,U8,Pk⟩:=TX;obtain⟨v,w',φ',c6,Lx,mw,A6,hn,hb⟩:=Dk (φ:=φ) (M:=M) (hD:=lk σ.H (fun i=>listed.getD i false) full) hr W5 trivial hFL hW (fun _ _ h=>h) (fun id h1 h2=>by rw[Pk]at h2;simp at h2;omega)
  refine RQ (fun _ _ h=>h) ?_
  unfold Oper.wp;rw[c6];rw[Pk]at mw hn;refine fin v w' φ' M (by rw[←U8];exact Lx) (wD (by rw[X9,AN];exact mw)) ⟨hb,fun _ h=>h,A6⟩ (fun id h=>?_)
  rcases hn id h with h1|h1
  ·exact .inl h1
  ·simp at h1;omega
end
end
section
open Go.RowKit
section
variable {P : Program} {Γ : a5} {φ φ' : Pl} {M M' : Nat → Prop} {w w' : World} {a : Act} {hs : List Hint} {o : Oper} {ops : Array Oper} {Q : Exit → Act → World → Prop} {σ : SS} {cl : List (Nat × Nat)}
theorem E4:∀{l:List Nat},wT l=true→l.Nodup
 | [],_=>by simp
 |x ::l,h=>by
  simp only[wT,Bool.and_eq_true,Bool.not_eq_true']at h;rw[List.nodup_cons];exact⟨by simpa using h.1,E4 h.2⟩
theorem NZ:∀{l:List Oper} {i j t:Nat} {x y:Oper},(dstsOf l).Nodup→l[i]?=some x→l[j]?=some y→x.dst=some t→y.dst=some t→i=j
 | [],i,_,_,_,_,_,h,_,_,_=>by simp at h
 |o ::l,0,0,_,_,_,_,_,_,_,_=>rfl
 |o ::l,0,j+1,t,x,y,hn,hi,hj,hx,hy=>by
  simp at hi hj;subst hi;have:dstsOf (o ::l)=t ::dstsOf l:=by simp [dstsOf,hx]
  rw[this,List.nodup_cons]at hn;exact absurd (List.mem_filterMap.2 ⟨y,List.mem_of_getElem? hj,hy⟩) hn.1
 |o ::l,i+1,0,t,x,y,hn,hi,hj,hx,hy=>by
  simp at hi hj;subst hj;have:dstsOf (o ::l)=t ::dstsOf l:=by simp [dstsOf,hy]
  rw[this,List.nodup_cons]at hn;exact absurd (List.mem_filterMap.2 ⟨x,List.mem_of_getElem? hi,hx⟩) hn.1
 |o ::l,i+1,j+1,t,x,y,hn,hi,hj,hx,hy=>by
  have Nt:(dstsOf l).Nodup:=by
   unfold dstsOf at hn ⊢;rw[List.filterMap_cons]at hn;split at hn
   ·exact hn
   ·exact(List.nodup_cons.1 hn).2
  exact congrArg (·+1) (NZ (l:=l) Nt (by simpa using hi) (by simpa using hj) hx hy)
theorem Rk{L:List (Nat×AV)}{t:Nat}:∀(l:List Dn),look (dL L l) t=uu L [] (fun _=>true) l t
 | []=>rfl
 |⟨i,d,v,b,n,u,q⟩ ::r=>by
  have ih:=Rk (L:=L) (t:=t) r;simp only[dL,uu,Bool.and_true];cases d with
  |none=>exact ih
  |some u =>
   simp only[GJ,look];have:(some u == some t)=(u == t):=rfl;rw[this,ih]
theorem Pq.below{n b:Nat}{full:List Dn}{jD:List Nat}(hD:Pq P ops σ jD cl n full b):∀x∈full,∀u∈x.uO,u.1<x.base:=fun x hx u hu=>by
 obtain⟨pre,post,d,o,e,YM,-,-,-,hw,pk⟩:=hD.op x.i (hD.wf.lt.2 x hx).1;have:d=x:=hD.wf.inj d (by rw[e];simp) x hx YM
 subst this;rcases pk with⟨h,-⟩|⟨-,-,r,hs,pk,-,-,-,ZO⟩|⟨-,h,-⟩
 ·rw[h]at hu;cases hu
 rotate_left
 ·rw[h]at hu;cases hu
 ·rw[←ZO]at hu;obtain⟨Iv,h4⟩:=KB pk u hu;have h5:=(L8 h4).1;rcases ur (H:=σ.H) (S:=(jw o).contains) hw u.1 with⟨y,hy,k1,k2⟩|⟨k1,k2⟩
  ·have:=(hw.lt.2 y hy).2.2;omega
  ·rw[k2]at h5;have:=jT h5;have:=hw.lt.1;omega
theorem ZB{lo i b:Nat}{H:List (Option Ob)}{l:List Dn}(h:K_ lo l i b)(VO:lo=H.length)(hb:∀x∈l,∀u∈x.uO,u.1<x.base):(dH H l).length=b∧hl (dH H l)=lk H (fun _=>true) l:=by
 induction h with
 |nil=>exact⟨VO.symm,rfl⟩
 |cons dst v news uO rd h ih =>
  rename_i r i b;obtain⟨h1,h2⟩:=ih fun x hx=>hb x (List.mem_cons_of_mem _ hx)
  have hup:∀id,b≤id→pJ (fun _=>true) r id=none:=fun id hid=>xh fun x hx ob hu=>by
   have:=hb x (List.mem_cons_of_mem _ hx) _ hu;have:=(h.lt.2 x hx).2.2;simp only at *;omega
  refine⟨by simp [dH,zw,h1],?_⟩
  simp only[dH];have hub:∀u∈uO,u.1<(dH H r).length:=fun u hu=>by rw[h1];exact hb _ List.mem_cons_self u hu
  rw[Mz,zw,h1,MB hub,h2]
  funext id
  unfold LO;by_cases hi:b≤id∧id<b+news.length
  ·rw[if_pos hi];have e1:(Nat.ble b id&&Nat.blt id (b+news.length))=true:=by rw[Bool.and_eq_true];exact⟨Nat.ble_eq_true_of_le hi.1,Nat.ble_eq_true_of_le hi.2⟩
   have e2:pJ (fun _=>true) (⟨i,dst,v,b,news,uO,rd⟩ ::r) id=none:=xh fun x hx ob hu=>by
    rcases List.mem_cons.1 hx with rfl|hx
    ·have:=hb _ List.mem_cons_self _ hu;simp only at this;omega
    ·have:=hb x (List.mem_cons_of_mem _ hx) _ hu;have:=(h.lt.2 x hx).2.2;simp only at *;omega
   unfold lk;rw[e2];simp only[te,e1,cond_true]
  ·rw[if_neg hi];have e1:(Nat.ble b id&&Nat.blt id (b+news.length))=false:=by
    rw[←Bool.not_eq_true,Bool.and_eq_true];intro⟨h3,h4⟩;exact hi ⟨Nat.le_of_ble_eq_true h3,Nat.le_of_ble_eq_true h4⟩
   unfold Ib lk;simp only[pJ,cond_true,te,e1,cond_false];cases nO uO id <;> rfl
def left(listed:Array Bool)(n:Nat):Nat:=((List.range n).filter fun i=>!listed.getD i false).length
theorem Um{listed:Array Bool}{n j:Nat}(hj:j<n)(hl:listed.getD j true=false):left listed n=left (listed.setIfInBounds j true) n+1:=by
 have y3:j<listed.size:=by
  rcases Nat.lt_or_ge j listed.size with h|h
  ·exact h
  ·simp [Array.getElem?_eq_none h]at hl
 have AO:(listed.setIfInBounds j true).getD j false=true:=by simp [Array.getD_eq_getD_getElem?,y3]
 unfold left;have key:∀l:List Nat,l.Nodup→(j∈l→(l.filter fun i=>!listed.getD i false).length=(l.filter fun i=>!(listed.setIfInBounds j true).getD i false).length+1)∧(j ∉ l→(l.filter fun i=>!listed.getD i false).length=(l.filter fun i=>!(listed.setIfInBounds j true).getD i false).length):=by
  intro l;induction l with
  |nil=>intro _;exact⟨fun h=>(by cases h),fun _=>rfl⟩
  |cons x l ih =>
   intro hn;rw[List.nodup_cons]at hn;obtain⟨ih1,ih2⟩:=ih hn.2;by_cases hx:x=j
   ·subst hx;refine⟨fun _=>?_,fun h=>absurd List.mem_cons_self h⟩
    rw[List.filter_cons,List.filter_cons,getD_both hl,AO];simp only[Bool.not_false,if_true,Bool.not_true,Bool.false_eq_true,if_false,List.length_cons];rw[ih2 hn.1]
   ·have hs:=getD_set_ne (listed:=listed) (i:=j) (j:=x) false (fun e=>hx e.symm)
    refine⟨fun h=>?_,fun h=>?_⟩
    ·rw[List.filter_cons,List.filter_cons,hs];have hm:j∈l:=by rcases List.mem_cons.1 h with h|h;exact absurd h.symm hx;exact h
     have:=ih1 hm;split <;>(try simp only[List.length_cons]) <;> omega
    ·rw[List.filter_cons,List.filter_cons,hs];have:=ih2 fun hm=>h (List.mem_cons_of_mem _ hm)
     split <;>(try simp only[List.length_cons]) <;> omega
 exact(key _ List.nodup_range).1 (List.mem_range.2 hj)
theorem So{listed:Array Bool}{n:Nat}(h:left listed n=0):∀i,i<n→listed.getD i false=true:=fun i hi=>by
 unfold left at h;have h1:=List.eq_nil_of_length_eq_zero h;rw[List.filter_eq_nil_iff]at h1;have:=h1 i (List.mem_range.2 hi);simpa using this
theorem Ul{listed:Array Bool}{n:Nat}(h:left listed n≠0):∃i,i<n∧listed.getD i false=false∧∀k,k<i→listed.getD k false=true:=by
 unfold left at h;have hex:∃i,i<n∧listed.getD i false=false:=by
  cases h1:(List.range n).filter (fun i=>!listed.getD i false)with
  |nil=>rw[h1]at h;exact absurd rfl h
  |cons x l =>
   have hx:x∈(List.range n).filter (fun i=>!listed.getD i false):=by rw[h1];exact List.mem_cons_self
   rw[List.mem_filter,List.mem_range]at hx;exact⟨x,hx.1,by simpa using hx.2⟩
 have key:∀m i,i≤m→i<n→listed.getD i false=false→∃i,i<n∧listed.getD i false=false∧∀k,k<i→listed.getD k false=true:=by
  intro m;induction m with
  |zero=>intro i hi hn hf;exact⟨i,hn,hf,fun k hk=>by omega⟩
  |succ m ih =>
   intro i hi hn hf;by_cases uw:∀k,k<i→listed.getD k false=true
   ·exact⟨i,hn,hf,uw⟩
   ·simp only[Classical.not_forall]at uw;obtain⟨k,hk,hk2⟩:=uw;exact ih k (by omega) (by omega) (by simpa using hk2)
 obtain⟨i,hi,hf⟩:=hex;exact key i i (Nat.le_refl _) hi hf
theorem TC{n b:Nat}{full:List Dn}{tail:List Oper}{s:St}{Rc:List Hint}(hB:NX ops n=true)(hD:Pq P ops σ (dstsOf (ops.toList.take n)) cl n full b)(hrd:cA (LS full full))(ZS:wc P ops (ops.toList.drop n) ⟨σ.N,dL σ.L full,dH σ.H full⟩ Rc=some s)(cF:cA s.e9)
  (hQ:∀a' w',Ie Γ s.σ a' w'→Q .normal a' w'):∀(f:Nat) (listed:Array Bool) (a:Act) (w:World),left listed n=f→HeadInv .any ops n listed→Ve Γ σ (dstsOf (ops.toList.take n)) full listed a w→wpAny P .any ops Q (f+(ops.size-n)) listed a w:=by
 unfold NX at hB;simp only[Bool.and_eq_true,Bool.or_eq_true,beq_iff_eq,Nat.ble_eq]at hB;obtain⟨⟨⟨⟨XY,hle⟩,X2⟩,jM⟩,Qb9⟩:=hB;have QbO:=E4 XY;have T3:∀j,j<n→(ops.toList.take n)[j]?=ops[j]?:=fun j hj=>by rw[List.getElem?_take,if_pos hj];simp
 have Lw:∀x∈full,∃o,x.i<n∧ops[x.i]?=some o∧x.dst=o.dst:=fun x hx=>by
  have YU:=(hD.wf.lt.2 x hx).1;obtain⟨pre,post,d,o,e,YM,ho,WS,-⟩:=hD.op x.i YU;have:d=x:=hD.wf.inj d (by rw[e];simp) x hx YM
  subst this;exact⟨o,YU,ho,WS⟩
 have Sd:∀x∈full,∀y∈full,∀t,x.dst=some t→y.dst=some t→x=y:=fun x hx y hy t ex ey=>by
  obtain⟨ox,hxn,hox,hdx⟩:=Lw x hx;obtain⟨oy,hyn,hoy,hdy⟩:=Lw y hy;exact hD.wf.inj x hx y hy (NZ QbO (by rw[T3 _ hxn];exact hox) (by rw[T3 _ hyn];exact hoy) (hdx▸ex) (hdy▸ey))
 have MD:∀x∈full,∀t,x.dst=some t→(dstsOf (ops.toList.take n)).contains t=true:=fun x hx t ex=>by
  obtain⟨ox,hxn,hox,hdx⟩:=Lw x hx;rw[List.contains_iff_mem];exact List.mem_filterMap.2 ⟨ox,List.mem_of_getElem? (by rw[T3 _ hxn];exact hox),hdx▸ex⟩
 intro f;induction f with
 |zero =>
  intro listed a w hf inv hI;rw[Nat.zero_add];have uw:=So hf;have ZC:listed=PR ops n:=by
   apply Array.ext_getElem?;intro k;unfold PR;simp only[List.getElem?_toArray,List.getElem?_map];rcases Nat.lt_or_ge k ops.size with hk|hk
   ·rw[List.getElem?_range hk];simp only[Option.map_some];by_cases hkn:k<n
    ·have:=uw k hkn;have ZA:k<listed.size:=by rw[inv.size];exact hk
     simp only[Array.getD_eq_getD_getElem?,Array.getElem?_eq_getElem ZA,Option.getD_some]at this;rw[Array.getElem?_eq_getElem ZA,this];have:Nat.blt k n=true:=Nat.ble_eq_true_of_le hkn;rw[this]
    ·have:=inv.tail k (by omega) hk
     have ZA:k<listed.size:=by rw[inv.size];exact hk
     simp only[Array.getD_eq_getD_getElem?,Array.getElem?_eq_getElem ZA,Option.getD_some]at this;rw[Array.getElem?_eq_getElem ZA,this];have:Nat.blt k n=false:=by rw[←Bool.not_eq_true];intro h;exact hkn (Nat.le_of_ble_eq_true h)
     rw[this]
   ·rw[List.getElem?_eq_none (by simpa using hk),Array.getElem?_eq_none (by rw[inv.size];exact hk)];rfl
  obtain⟨hN,Gj,φ,M,hF,hW,hφ⟩:=hI;obtain⟨YL,hbh⟩:=ZB hD.wf rfl hD.below;have hSl:∀x∈full,listed.getD x.i false=true:=fun x hx=>uw x.i (Lw x hx).choose_spec.1
  have hS:Ie Γ ⟨σ.N,dL σ.L full,dH σ.H full⟩ a w:=by
   refine⟨hN,Gj,φ,M,fun t=>?_,?_,fun id hid=>hφ id (by have:=hD.wf.lt.1;rw[YL]at hid;omega) fun x hx _ YU=>by
    have:=(hD.wf.lt.2 x hx).2.2;rw[YL]at hid;omega⟩
   ·rw[Rk];have h4:=hF t;rcases iT (jD:=([]:List Nat)) (L:=σ.L) (S:=fun _=>true) (t:=t) (l:=full)with⟨x,hx,g1,g2,g3⟩|⟨g1,g2⟩
    ·rw[g3];rcases iT (jD:=dstsOf (ops.toList.take n)) (L:=σ.L) (S:=fun i=>listed.getD i false) (t:=t) (l:=full)with⟨y,hy,k1,k2,k3⟩|⟨k1,k2⟩
     ·rw[k3,Sd y hy x hx t k1 g1]at h4;exact h4
     ·have:=k1 x hx g1;rw[hSl x hx]at this;cases this
    ·rw[g2];have W2:∀x∈full,x.dst≠some t:=fun x hx e=>by have:=g1 x hx e;cases this
     have QbP:(dstsOf (ops.toList.take n)).contains t=false:=by
      rw[←Bool.not_eq_true,List.contains_iff_mem];intro hm;obtain⟨o,ho,hot⟩:=List.mem_filterMap.1 hm;obtain⟨j,hj⟩:=List.mem_iff_getElem?.1 ho;have YO:j<n:=by
       have:=(List.getElem?_eq_some_iff.1 hj).1;simp at this;omega
      obtain⟨pre,post,d,o2,e,YM,ZJ,WS,-⟩:=hD.op j YO;rw[T3 j YO,ZJ]at hj;cases hj;exact W2 d (by rw[e];simp) (WS.trans hot)
     rcases iT (jD:=dstsOf (ops.toList.take n)) (L:=σ.L) (S:=fun i=>listed.getD i false) (t:=t) (l:=full)with⟨y,hy,k1,k2,k3⟩|⟨k1,k2⟩
     ·exact absurd k1 (W2 y hy)
     ·rw[k2,QbP]at h4;exact h4
   ·rw[hbh];refine hW.less fun id ob hid=>?_
    have e1:pJ (fun i=>listed.getD i false) full id=pJ (fun _=>true) full id:=De fun x hx _ _=>hSl x hx
    unfold lk at hid ⊢;rw[e1];have e2:te σ.H (fun i=>listed.getD i false) full id=te σ.H (fun _=>true) full id:=by
     rcases ur (H:=σ.H) (S:=fun _=>true) hD.wf id with⟨x,hx,h1,h2⟩|⟨h1,h2⟩
     ·rw[oT hD.wf hx h1 h2,oT hD.wf hx h1 h2,hSl x hx]
     ·rw[h2,yX hD.wf h1]
    rw[e2];exact hid
  have hwl:=yO (Q:=Q) (ops.toList.drop n) ZS cF hS hQ;have hdl:(ops.toList.drop n).length=ops.size-n:=by simp
  have:=wpAny_of_seq (md:=.any) (ops:=ops) (Q':=Q) (ops.toList.drop n) n listed a w (fun j=>by rw[List.getElem?_drop];simp) (by rw[hdl,ZC];exact Qb9) hwl
  rw[hdl]at this;exact this
 |succ f ih =>
  intro listed a w hf inv hI;rw[show f+1+(ops.size-n)=(f+(ops.size-n))+1 by omega]
  obtain⟨i0,hi0,hu0,QbI⟩:=Ul (listed:=listed) (n:=n) (by omega)
  have XT:i0<ops.size:=by omega
  have ZU:listed.getD i0 true=false:=getD_in (by rw[inv.size];exact XT) hu0
  have Q_:i0∈Region.ready .any ops listed:=by
   refine mem_ready.2 ⟨ZU,_,Array.getElem?_eq_getElem XT,fun e he hb=>?_⟩
   have h1:=List.all_eq_true.1 X2 (ops[i0],i0) (by
    rw[List.mem_iff_getElem?];refine⟨i0,?_⟩;rw[List.getElem?_zipIdx,T3 i0 hi0,Array.getElem?_eq_getElem XT];simp)
   have h2:=List.all_eq_true.1 h1 e.on (LF.2 ⟨e,he,hb,rfl⟩);exact QbI e.on (Nat.le_of_ble_eq_true h2)
  refine⟨fun h=>(by rw[h]at Q_;cases Q_),fun j hj=>?_⟩
  have YO:j<n:=by
   rcases Nat.lt_or_ge j n with h|h
   ·exact h
   ·exfalso;obtain⟨_,oj,W4,_⟩:=mem_ready.1 hj;have hjs:j<ops.size:=(Array.getElem?_eq_some_iff.1 W4).1;rcases jM with h1|⟨⟨h1,h2⟩,h3⟩
    ·omega
    ·exact tail_waits h2 h3 (Nat.le_of_ble_eq_true h1) inv _ i0 rfl hi0 ZU j h hj
  obtain⟨ZV,oj,W4,uw⟩:=mem_ready.1 hj;have hog:ops.getD j default=oj:=by simp [Array.getD_eq_getD_getElem?,W4]
  exact Ug hD hrd Sd MD hI YO ZV (fun k hk=>by
   rw[hog]at hk;obtain⟨e,he,hb,rfl⟩:=LF.1 hk;exact uw e he hb) fun a' w' hI'=>ih _ a' w' (by have:=Um YO ZV;omega) (inv.set hj YO) hI'
theorem KS{s:St}{id:Nat}(hf:F2 P ops σ hs=some s)(cF:cA s.e9)(hS:Ie Γ σ a w)(hQ:∀a' w',Ie Γ s.σ a' w'→Q .normal a' w'):(Code.region id ops true).wp P Q a w:=by
 unfold F2 at hf;split at hf
 ·rename_i n cl gR;cases hc:(P.follows .mixedOrders&&NX ops n)with
  |false=>rw[hc]at hf;cases hf
  |true =>
   rw[hc]at hf;simp only[cond_true]at hf;simp only[Bool.and_eq_true]at hc;split at hf
   ·rename_i done b ob Rc hd;cases pk:wc P ops (ops.toList.drop n) ⟨σ.N,dL σ.L done,dH σ.H done⟩ Rc with
    |none=>rw[pk]at hf;cases hf
    |some s0 =>
     rw[pk]at hf;cases hf;rw[a0,a0]at cF;have hB:=hc.2;have hle:n≤ops.size:=by
      unfold NX at hB;simp only[Bool.and_eq_true,Nat.ble_eq]at hB;exact hB.1.1.1.2
     have Nv:(ops.toList.take n).length=n:=by simp;omega
     obtain⟨pre,e,U_,uw⟩:=F0 hd cF.1 (fun k=>by
      rcases Nat.lt_or_ge k n with h|h
      ·left;rw[List.getElem?_take,if_pos h,Nat.zero_add];simp
      ·right;rw[Nv];exact h) K_.nil
     rw[Nv,Nat.zero_add]at U_;have hD:Pq P ops σ (dstsOf (ops.toList.take n)) cl n done b:=⟨U_,fun j hj=>by
      have:=uw j (by rw[Nv];exact hj)
      rw[Nat.zero_add]at this;exact this⟩
     refine wp_region_any hc.1 ?_
     have jM:(left (Array.replicate ops.size false) n)+(ops.size-n)=ops.size:=by
      have:left (Array.replicate ops.size false) n=n:=by
       unfold left;rw[List.filter_eq_self.2 (fun i _=>by rw[getD_replicate_false];rfl)]
       simp
      omega
     obtain⟨hN,Gj,φ,M,hF,hW,hφ⟩:=hS;have hinv:Ve Γ σ (dstsOf (ops.toList.take n)) done (Array.replicate ops.size false) a {w with drawn:=w.drawn+1}:=by
      refine⟨hN,Gj,φ,M,fun t=>?_,?_,fun id hid _=>hφ id hid⟩
      ·have Gi:Below w.heap.size w {w with drawn:=w.drawn+1}:=⟨rfl,rfl,rfl,Nat.le_refl _,fun _ _=>rfl⟩
       have he:=hW.I5 Gi;rcases iT (jD:=dstsOf (ops.toList.take n)) (L:=σ.L) (S:=fun i=>(Array.replicate ops.size false).getD i false) (t:=t) (l:=done)with⟨y,hy,k1,k2,k3⟩|⟨k1,k2⟩
       ·rw[getD_replicate_false]at k2;cases k2
       ·rw[k2];cases(dstsOf (ops.toList.take n)).contains t with
        |true=>trivial
        |false=>exact AR.mono he (hF t)
      ·have Gi:Below w.heap.size w {w with drawn:=w.drawn+1}:=⟨rfl,rfl,rfl,Nat.le_refl _,fun _ _=>rfl⟩
       refine(hW.grow Gi).less fun id ob hid=>?_
       have e1:pJ (fun i=>(Array.replicate ops.size false).getD i false) done id=none:=xh fun x _ _ _=>getD_replicate_false _ _
       unfold lk at hid;rw[e1]at hid;simp only at hid;rcases ur (H:=σ.H) (S:=fun i=>(Array.replicate ops.size false).getD i false) U_ id with⟨x,hx,h1,h2⟩|⟨h1,h2⟩
       ·rw[oT U_ hx h1 h2,getD_replicate_false]at hid;cases hid
       ·rw[h2]at hid;exact hid
     have Qch:HeadInv .any ops n (Array.replicate ops.size false):=
      ⟨by simp,fun j oj _ hl=>(by rw[getD_replicate_false]at hl;cases hl),fun t _ ht=>getD_in (by simpa using ht) (getD_replicate_false _ _)⟩
     have:=TC (tail:=[]) hB hD cF.2.1 pk cF.2.2 hQ _ _ a _ rfl Qch hinv;rw[jM]at this;exact this
   ·cases hf
 ·cases hf
end
end
section
set_option exponentiation.threshold 300
open Go.RowKit
section
variable {P : Program} {Γ : a5} {body : Code} {R : Exit → Act → World → Prop} {a : Act} {w : World} {hs : List Hint}
theorem Lh(body:Code):∀(n p:Nat),p<2 ^ n→NP body n p=NP body (n+1) p
 |0,p,h=>by
  have:p=0:=by simpa using h
  subst this;rfl
 |n+1,p,h=>by
  show(bif Nat.ble p 1 then body else child (p % 2 == 1) (NP body n (p / 2)))=(bif Nat.ble p 1 then body else child (p % 2 == 1) (NP body (n+1) (p / 2)));rw[Lh body n (p / 2) (by rw[Nat.pow_succ]at h;omega)]
theorem NR{p:Nat}(h:(Nat.ble 1 p&&Nat.blt p GH)=true)(k:Bool):cd body (2*p+cond k 1 0)=child k (cd body p):=by
 rw[Bool.and_eq_true]at h;have h1:1≤p:=Nat.le_of_ble_eq_true h.1;have h2:p<2 ^ 250:=Nat.le_of_ble_eq_true h.2;have h3:p<2 ^ 299:=Nat.lt_of_lt_of_le h2 (Nat.pow_le_pow_right (by omega) (by omega))
 have h4:=Lh body 299 p h3;show(bif Nat.ble (2*p+cond k 1 0) 1 then body else child ((2*p+cond k 1 0) % 2 == 1) (NP body 299 ((2*p+cond k 1 0) / 2)))=child k (NP body 300 p);have h5:Nat.ble (2*p+cond k 1 0) 1=false:=by
  rw[←Bool.not_eq_true];intro h;have:=Nat.le_of_ble_eq_true h;omega
 have h6:(2*p+cond k 1 0) / 2=p:=by cases k <;> simp <;> omega
 have h7:((2*p+cond k 1 0) % 2 == 1)=k:=by cases k <;> simp <;> omega
 rw[h5,h6,h7,h4];rfl
theorem RU{p:Nat}(h:(Nat.ble 1 p&&Nat.blt p GH)=true):cd body (2*p)=child false (cd body p):=NR h false
theorem F7{id:Nat}:∀{k k':List It},Lo id k=some k'→exitTo id (k.map (It.item body))=some (k'.map (It.item body))
 | [],_,h=>by cases h
 | .c p ::k,k',h=>F7 (k:=k) h
 | .l p ::k,k',h=>F7 (k:=k) h
 | .b i ::k,k',h=>by
  simp only[Lo]at h;simp only[List.map_cons,It.item,exitTo];cases hi:(i == id)with
  |true=>rw[hi]at h;cases h;rfl
  |false=>rw[hi]at h;exact F7 (k:=k) h
theorem Qo{cf:Cf}{r:Rn}(hf:Yu P body cf hs=some r)(cF:cA r.e9)(hS:Ie Γ cf.σ a w)(hK:∀a' w',Ie Γ r.cf.σ a' w'→KW P body r.cf.k R a' w'):KW P body cf.k R a w:=by
 intro b cs;have go:∀a' w',Ie Γ r.cf.σ a' w'→Steps P (lone (b.at a (cf.k.map (It.item body))) cs w) (lone (b.at a' (r.cf.k.map (It.item body))) cs w')→
   ∃e a' w',R e a' w'∧Arrives P (lone (b.at a (cf.k.map (It.item body))) cs w) b [] cs e a' w':=fun a' w' Gh pk=>let⟨e,a2,w2,hR,ha⟩:=hK a' w' Gh b cs;⟨e,a2,w2,hR,.of_steps pk ha⟩
 unfold Yu at hf;split at hf
 ·cases hf
 ·rename_i id k hk;cases hf;exact go a w hS (by rw[hk];exact .one step_inBlock)
 ·rename_i p k hk;cases hf;exact go a w hS (by rw[hk];exact .one step_inLoop)
 ·rename_i p k hk;cases hp:(Nat.ble 1 p&&Nat.blt p GH)with
  |false=>rw[hp]at hf;cases hf
  |true =>
   rw[hp]at hf;simp only[Bool.not_true,cond_false]at hf;rw[hk]at go ⊢;simp only[List.map_cons,It.item]at go ⊢;have h0:=RU (body:=body) hp;have h1:=NR (body:=body) hp true;simp only[cond_true]at h1;split at hf
   ·rename_i hc;rw[hc]at go ⊢;cases hf;exact go a w hS (.one step_skip)
   ·rename_i x y hc;rw[hc]at go ⊢ h0 h1;cases hf;simp only[List.map_cons,It.item,h0,h1,child,cond_true,cond_false]at go;exact go a w hS (.one step_seq)
   ·rename_i id x hc;rw[hc]at go ⊢ h0;cases hf;simp only[List.map_cons,It.item,h0,child]at go;exact go a w hS (.one step_block)
   ·rename_i x hc;rw[hc]at go ⊢ h0;cases hf;simp only[List.map_cons,It.item,h0,child]at go;exact go a w hS (.one step_loop)
   ·rename_i c x y hc;split at hf
    ·rename_i b1 t gR hv;rw[hc]at go ⊢ h0 h1;cases hf;have hb:b1=t:=cF.1;obtain⟨hN,Gj,φ,M,hF,hW,hφ⟩:=hS;have h2:=EE hF c;rw[hv]at h2;have h3:=uF h2;subst hb;refine go a w ⟨hN,Gj,φ,M,hF,hW,hφ⟩ ?_
     have h4:=step_cond (P:=P) (b:=b) (k:=k.map (It.item body)) (cs:=cs) (w:=w) (x:=x) (y:=y) h3;cases b1 with
     |true=>simp only[List.map_cons,It.item,cond_true,Nat.add_zero,h0,child,cond_false];exact .one h4
     |false=>simp only[List.map_cons,It.item,cond_false,h1,child,cond_true];exact .one h4
    ·cases hf
   ·rename_i id hc;rw[hc]at go ⊢;cases hx:Lo id k with
    |none=>rw[hx]at hf;cases hf
    |some k' =>
     rw[hx]at hf;cases hf;exact go a w hS (.one (step_exit (F7 hx)))
   ·rename_i id ops draw hc;rw[hc]at go ⊢;have hw:∀s:St,(bif draw then F2 P ops cf.σ hs else wc P ops ops.toList cf.σ hs)=some s→cA s.e9→(Code.region id ops draw).wp P (fun e a' w'=>e=.normal∧Ie Γ s.σ a' w') a w:=by
     intro s KG ho;cases draw with
     |true=>exact KS KG ho hS fun a' w' h=>⟨rfl,h⟩
     |false=>exact wp_region_list (yO _ KG ho hS fun a' w' h=>⟨rfl,h⟩)
    cases hx:(bif draw then F2 P ops cf.σ hs else wc P ops ops.toList cf.σ hs)with
    |none=>rw[hx]at hf;cases hf
    |some s =>
     rw[hx]at hf;cases hf;obtain⟨e,a',w',⟨rfl,Gh⟩,har⟩:=hw s hx cF b (k.map (It.item body)) cs;exact go a' w' Gh har
   ·cases hf
theorem yd:∀(n:Nat) {cf:Cf} {r:Rn} {hs:List Hint} {a:Act} {w:World},OW P body n cf hs=some r→cA r.e9→Ie Γ cf.σ a w→(∀a' w',Ie Γ r.cf.σ a' w'→KW P body r.cf.k R a' w')→KW P body cf.k R a w
 |0,cf,r,hs,a,w,hf,_,hS,hK=>by cases hf;exact hK a w hS
 |n+1,cf,r,hs,a,w,hf,cF,hS,hK=>by
  simp only[OW]at hf;split at hf
  ·rename_i σ0 o0 T5 hg;split at hf
   ·rename_i r1 h1;split at hf
    ·rename_i r2 h2;cases hf;simp only[a0]at cF;exact Qo (cf:=⟨cf.k,σ0⟩) h1 cF.1.2 (y1 hg cF.1.1 hS) fun a' w' Gh=>yd n h2 cF.2 Gh hK
    ·cases hf
   ·cases hf
  ·cases hf
end
section
variable {P : Program} {Γ : a5} {φ φ2 : Pl} {M : Nat → Prop} {w : World} {a : Act} {m : Nat → Option Nat}
def NU(φ:Pl)(ids:List Nat):Pl:=fun i=>match ids[i]? with
 |some j=>φ j
 |none=>none
theorem Di{ids:List Nat}{i j:Nat}(h:ids[i]?=some j):NU φ ids i=φ j:=by unfold NU;rw[h]
theorem Mp{ids:List Nat}:∀id k p,posOf ids 0 id=some k→φ id=some p→NU φ ids k=some p:=fun id k p h hp=>(Di (by simpa using(E8 h).2)).trans hp
theorem Ur{live:List Nat}{σ:SS}{f:AV→AV}(t:Nat):look (live.map fun t=>(t,f (look σ.L t))) t=f (look σ.L t)∨look (live.map fun t=>(t,f (look σ.L t))) t=.Iy:=by
 induction live with
 |nil=>exact .inr rfl
 |cons x r ih =>
  simp only[List.map_cons,look];cases h:(x == t)with
  |true =>
   have:x=t:=by simpa using h
   subst this;exact .inl rfl
  |false=>exact ih
theorem My{σ:SS}{ids:List Nat}{i:Nat}{xj:Ob}(h:hl (ids.map fun i=>(hl σ.H i).map (g0 m)) i=some xj):∃j ob,ids[i]?=some j∧hl σ.H j=some ob∧xj=g0 m ob:=by
 unfold hl at h;rw[List.getElem?_map]at h;cases hj:ids[i]? with
 |none=>rw[hj]at h;cases h
 |some j =>
  rw[hj]at h;simp only[Option.map_some,Option.join_some]at h;cases ho:(σ.H[j]?).join with
  |none=>rw[ho]at h;cases h
  |some ob=>rw[ho]at h;cases h;exact⟨j,ob,rfl,ho,rfl⟩
theorem TB{σ:SS}{ids zA:List Nat}(hn:wT ids=true)(hp:LM zA ids=true)(Hx:∀p∈Γ.pins,p.1∈zA)(hW:Wd Γ φ M (hl σ.H) w):
  Wd Γ (NU φ ids) M (hl (ids.map fun i=>(hl σ.H i).map (g0 (posOf ids 0)))) w:=by
 refine⟨fun i xj h=>?_,fun i j oi oj b Ci Cj h1 h2 h3 h4=>?_,hW.mlt,hW.m0,hW.Gu,fun i ob b C h1 h2=>?_,hW.Ce,hW.os,hW.tape,hW.output,hW.size,fun p hpp=>?_,hW.Te⟩
 ·obtain⟨j,ob,h1,h2,rfl⟩:=My h;exact CJ Mp (Di h1) (hW.e9 j ob h2)
 ·obtain⟨i',KI,g1,g2,-⟩:=My h1;obtain⟨j',Ux,g3,g4,-⟩:=My h2;rw[Di g1]at h3;rw[Di g3]at h4;have:=hW.inj i' j' KI Ux b Ci Cj g2 g4 h3 h4;subst this;have hi:=(List.getElem?_eq_some_iff.1 g1).1;exact(List.getElem?_inj hi (E4 hn)).1 (g1.trans g3.symm)
 ·obtain⟨i',KI,g1,g2,-⟩:=My h1;rw[Di g1]at h2;exact hW.own i' KI b C g2 h2
 ·have h1:=hW.zA p hpp;have h2:=List.all_eq_true.1 hp p.1 (Hx p hpp);cases hi:ids[p.1]? with
  |none=>rw[hi]at h2;cases h2
  |some j =>
   rw[hi]at h2;have:p.1=j:=by simpa using h2
   rw[Di hi,←this];exact h1
theorem NV{ids:List Nat}(f:Nat→Option Ob):∀id,(ids.map f).length≤id→NU φ ids id=none:=fun id h=>by
 unfold NU;rw[List.length_map]at h;rw[List.getElem?_eq_none h]
theorem QL{σ:SS}{live ids zA:List Nat}(hn:wT ids=true)(hp:LM zA ids=true)(Hx:∀p∈Γ.pins,p.1∈zA)(hS:Ie Γ σ a w):Ie Γ (cut live ids σ) a w:=by
 obtain⟨hN,Gj,φ,M,hF,hW,hφ⟩:=hS;refine⟨hN,Gj,NU φ ids,M,fun t=>?_,TB hn hp Hx hW,NV _⟩
 rcases Ur (live:=live) (σ:=σ) (f:=GP (posOf ids 0)) t with h|h
 ·show AR w M _ (look (live.map fun t=>(t,GP (posOf ids 0) (look σ.L t))) t) _
  rw[h];exact GQ Mp (hF t)
 ·show AR w M _ (look (live.map fun t=>(t,GP (posOf ids 0) (look σ.L t))) t) _
  rw[h];trivial
def SJ(tmps:Array Value):ResultVar→Sem Value
 | .tmp t=>pure (tmps.getD t undef)
 | .cell a t=>do loadVar t (←asAddr (tmps.getD a undef))
theorem Oy{α:Type}{f:α→Sem Value}:∀{xs:List α} {vs:List Value},Rs (fun x v=>(f x).run P w=.ok v w) xs vs→(xs.mapM f).run P w=.ok vs w
 | [],[],_=>rfl
 |x ::xs,v ::vs,h=>by
  rw[List.mapM_cons];simp only[Sem.run_bind,h.1,Result.andThen_ok,Oy h.2,Sem.run_pure]
 | [],_ ::_,h=>h.elim
 |_ ::_,[],h=>h.elim
theorem OU{fn:Func}{tmps:Array Value}{vs:List Value}(h:Rs (fun x v=>(SJ tmps x).run P w=.ok v w) fn.results.toList vs):
  (results fn tmps).run P w=.ok (if h:vs.toArray.size=1 then vs.toArray[0]else .tuple vs.toArray) w:=by
 have h1:=Oy h;have h2:(fn.results.mapM (SJ tmps)).run P w=.ok vs.toArray w:=by
  rw[Array.mapM_eq_mapM_toList];simp only[map_eq_pure_bind,Sem.run_bind,h1,Result.andThen_ok,Sem.run_pure]
 have h3:results fn tmps=(do let vs ←fn.results.mapM (SJ tmps);pure (if h:vs.size=1 then vs[0]else .tuple vs)):=rfl
 rw[h3];simp only[Sem.run_bind,h2,Result.andThen_ok,Sem.run_pure]
theorem Wk{L:Nat→AV}{h:Nat→Option Ob}{x:ResultVar}{c:Cm}(hx:Wj L h P x=some c)(hF:∀t,AR w M φ (L t) (a.tmps.getD t undef))(hW:Wd Γ φ M h w):
  ∃v,(SJ a.tmps x).run P w=.ok v w∧CR w M φ c v:=by
 cases x with
 |tmp t =>
  simp only[Wj]at hx;split at hx
  ·rename_i c0 hc;cases hx;have:=hF t;rw[hc]at this;exact⟨_,rfl,this⟩
  ·cases hx
 |cell t ty =>
  simp only[Wj]at hx;split at hx
  ·rename_i id sz row off n Kl h1 h2 h3;split at hx
   ·rename_i ob cF;split at hx
    ·rename_i cells nQ iF;cases hc:(row == 0&&ob.sz == sz)with
     |false=>rw[hc]at hx;cases hx
     |true =>
      rw[hc]at hx;simp only[cond_true]at hx;simp only[Bool.and_eq_true,beq_iff_eq]at hc;have h4:=hF t;rw[h1]at h4;obtain⟨b,C,hφ,hv⟩:=(h4:tC w M φ (.op id sz row off) (a.tmps.getD t undef));have hO:=hW.e9 id ob cF;obtain⟨v,hl,Sc⟩:=Aq (M:=M) (φ:=φ) (b:=b) (k:=row*sz) h2 h3 hx fun i l hl=>by
       have:=hO.Li (i:=0) (.inr ⟨_,iF⟩) hφ (by rw[iF];rfl) i l hl
       rw[hc.1,Nat.zero_mul];rwa [Nat.zero_mul]at this
      refine⟨v,?_,Sc⟩;simp only[SJ,hv,Sem.run_bind];simpa [asAddr]using hl
    ·cases hx
   ·cases hx
  ·cases hx
theorem OT{L:Nat→AV}{h:Nat→Option Ob}(hF:∀t,AR w M φ (L t) (a.tmps.getD t undef))(hW:Wd Γ φ M h w):∀{xs:List ResultVar} {cs:List Cm},RE L h P xs=some cs→
  ∃vs,Rs (fun x v=>(SJ a.tmps x).run P w=.ok v w) xs vs∧Rs (CR w M φ) cs vs
 | [],cs,hx=>by cases hx;exact⟨[],trivial,trivial⟩
 |x ::xs,cs,hx=>by
  simp only[RE]at hx;split at hx
  ·rename_i c KR h1 h2;cases hx;obtain⟨v,g1,g2⟩:=Wk h1 hF hW;obtain⟨vs,g3,g4⟩:=OT hF hW h2;exact⟨v ::vs,⟨g1,g3⟩,g2,g4⟩
  ·cases hx
theorem UI:∀{cs:List Cm} {vs:List Value},Rs (CR w M φ) cs vs→AR w M φ (UH cs) (if h:vs.toArray.size=1 then vs.toArray[0]else .tuple vs.toArray)
 | [],[],_=>⟨[],rfl,trivial⟩
 | [c],[v],h=>h.1
 |c ::d ::cs,v ::u ::vs,h=>by
  rw[dif_neg (by simp)]
  exact⟨_,rfl,h⟩
 | [],_ ::_,h=>h.elim
 |_ ::_,[],h=>h.elim
 | [_],_ ::_ ::_,h=>h.2.elim
 |_ ::_ ::_,[_],h=>h.2.elim
end
section
variable {P : Program} {fn : Func} {zA : List Nat} {Γ : a5} {r : AV} {H1 : List (Option Ob)}
theorem go_run(n:Nat)(live ids:List Nat)(hs:List Hint){cf UY:Cf}{ob:Prop}(h:UM P (uQ fn) n live ids cf hs=some (UY,ob))(hp:LM zA ids=true)(cF:ob)
  (hg:Go P fn zA Γ r H1 UY):Go P fn zA Γ r H1 cf:=by
 intro Hx a w hS;unfold UM at h;split at h
 ·rename_i rn hr;split at h
  ·rename_i σ o Zw;cases hn:wT ids with
   |false=>rw[hn]at h;cases h
   |true =>
    rw[hn]at h;cases h;rw[a0]at cF;exact yd n hr cF.1 hS fun a' w' Gh=>hg Hx a' w' (QL hn hp Hx (y1 Zw cF.2 Gh))
  ·cases h
 ·cases h
theorem go_ret(n:Nat)(ids:List Nat)(hs:List Hint){cf:Cf}{ob:Prop}(h:Yt P fn n ids cf hs=some (r,H1,ob))(hp:LM zA ids=true)(cF:ob):Go P fn zA Γ r H1 cf:=by
 intro Hx a w hS;unfold Yt at h;split at h
 ·rename_i rn hr;cases hk:Tu (uQ fn) rn.cf.k with
  |false=>rw[hk]at h;cases h
  |true =>
   rw[hk]at h;simp only[cond_true]at h;split at h
   ·rename_i σ o Zw;split at h
    ·rename_i cs S4;cases hn:wT ids with
     |false=>rw[hn]at h;cases h
     |true =>
      rw[hn]at h;cases h;rw[a0]at cF;refine yd n hr cF.1 hS fun a' w' Gh=>?_
      obtain⟨hN,Gj,φ,M,hF,hW,hφ⟩:=y1 Zw cF.2 Gh;have YJ:∀e,(e=Exit.ret∨e=.normal)→RR P fn Γ (GP (posOf ids 0) (UH cs)) (ids.map fun i=>(hl σ.H i).map (g0 (posOf ids 0))) e a' w':=by
       intro e he;obtain⟨vs,h1,h2⟩:=OT hF hW S4;exact⟨he,Gj,_,NU φ ids,M,OU h1,GQ Mp (UI h2),TB hn hp Hx hW,NV _⟩
      intro b KR;unfold Tu at hk;split at hk
      ·rename_i Oj;rw[Oj];exact⟨.normal,a',w',YJ _ (.inr rfl),.refl _ _⟩
      ·rename_i p k Oj;unfold W8 at hk;split at hk
       ·rename_i hc;rw[Oj];refine⟨.ret,a',w',YJ _ (.inl rfl),.code .ret ::k.map (It.item (uQ fn)),?_⟩;simp only[List.map_cons,It.item,hc];exact .one step_ret
       ·cases hk
      ·cases hk
    ·cases h
   ·cases h
 ·cases h
structure Ev where
 hs:List Hint
 ob:Prop→Prop
 pf:∀q:Prop,q→ob q
def YD:List Ev→List Hint
 | []=>[]
 |e ::r=>e.hs++YD r
def Y9:List Ev→Prop
 | []=>True
 |e ::r=>e.ob (Y9 r)
theorem Vr:∀l:List Ev,Y9 l
 | []=>trivial
 |e ::r=>e.pf _ (Vr r)
theorem gn(n:Nat)(live ids:List Nat)(es:List Ev){cf UY:Cf}(hg:Go P fn zA Γ r H1 UY)(h:UM P (uQ fn) n live ids cf (YD es)=some (UY,Y9 es):=by kernel_rfl)(hp:LM zA ids=true:=by kernel_rfl):Go P fn zA Γ r H1 cf:=
 go_run n live ids (YD es) h hp (Vr es) hg
theorem gr(n:Nat)(ids:List Nat)(es:List Ev){cf:Cf}(h:Yt P fn n ids cf (YD es)=some (r,H1,Y9 es):=by kernel_rfl)(hp:LM zA ids=true:=by kernel_rfl):Go P fn zA Γ r H1 cf:=go_ret n ids (YD es) h hp (Vr es)
def rp:Nat→Ev→Ev
 |0,_=>⟨[],fun q=>q,fun _ h=>h⟩
 |n+1,e=>⟨e.hs++(rp n e).hs,fun q=>e.ob ((rp n e).ob q),fun q h=>e.pf _ ((rp n e).pf q h)⟩
def hH(h:Hint):Ev:=⟨[h],fun q=>q,fun _ k=>k⟩
def hP:Ev:=hH .spec
def hW(n:Nat):Ev:=hH (.wait n)
def oO{p:Prop}(h:p):Ev:=⟨[],fun q=>p∧q,fun _ k=>⟨h,k⟩⟩
def oI(p:Prop):Ev:=oO (fun h:p=>h)
def oR(a b:Prop):Ev:=oO (fun h:a∧b=>h.2)
def bT{b:Bool}(h:b=true):Ev:=⟨[.bit true],fun q=>b=true∧q,fun _ k=>⟨h,k⟩⟩
def bF{b:Bool}(h:b=false):Ev:=⟨[.bit false],fun q=>b=false∧q,fun _ k=>⟨h,k⟩⟩
def tT:Ev:=bT (Eq.refl true)
def fF:Ev:=bF (Eq.refl false)
def nT{b:Bool}(h:b=false):Ev:=bT (Qcp h)
def nF{b:Bool}(h:b=true):Ev:=bF (Qco h)
def kF:Ev:=⟨[.skip],fun q=>(False→False)∧q,fun _ k=>⟨id,k⟩⟩
def nL{α:Type}(e:α→List Lf)(l:List α):Ev:=⟨[.num l.length],fun q=>(l.map e).length=l.length∧q,fun _ k=>⟨Qck e l,k⟩⟩
def cE{α:Type}(e:α→List Lf){l:List α}{i:Int}{a:α}(h:a4 l i=some a):Ev:=⟨[.cells (e a)],fun q=>a4 (l.map e) i=some (e a)∧q,fun _ k=>⟨getM e h,k⟩⟩
def rE{α:Type}(e:α→List Lf){l:List α}{i:Int}{a:α}(h:a4 l i=some a):Ev:=⟨[.cells (e a)],fun q=>(l.map e)[0+i.toNat]?=some (e a)∧q,fun _ k=>⟨QcD e h,k⟩⟩
def yE{s:ByteArray}{i:Int}{b:UInt8}(h:II s i=some b):Ev:=⟨[.byte b],fun q=>II s i=some b∧q,fun _ k=>⟨h,k⟩⟩
def cI{P:Program}{f:FuncId}{args:List Cm}{H0:List Ob}{r:AV}{H1:List (Option Ob)}(ids:List Nat)(h:dd P f args H0 r H1):Ev:=⟨[.call ids r H1],fun q=>dd P f args H0 r H1∧q,fun _ k=>⟨h,k⟩⟩
def cC{P:Program}{f:FuncId}{args:List Cm}{H0:List Ob}{r:AV}{H1:List (Option Ob)}(h:dd P f args H0 r H1):Ev:=cI [] h
def eL{α:Type}(l:List α)(f:α→List Lf):Ev:=oO (Eq.refl (l.map f).length)
def aN{α:Type}(e:α→List Lf){l:List α}{b:Nat}(h:d_ l.length b)(hb:Nat.blt 0 b=true:=by rfl):Ev:=⟨[.rows (l.map e)],fun q=>l.map e=l.map e∧(l.map e).length*b≤140737488355328∧(l.map e).length≤9223372036854775807∧q,
 fun _ k=>⟨rfl,V8 e h,Ru e (by simpa using hb) h,k⟩⟩
def aZ{α:Type}(e:α→List Lf){l:List α}{b:Nat}(h:d_ l.length b)(hb:Nat.blt 0 b=true:=by rfl):Ev:=⟨[.rows (l.map e)],fun q=>l.map e=l.map e∧(l.map e=[]→([]:List (List Lf))=[])∧(l.map e).length*b≤140737488355328∧(l.map e).length≤9223372036854775807∧q,
 fun _ k=>⟨rfl,neZ e l,V8 e h,Ru e (by simpa using hb) h,k⟩⟩
def aO{α:Type}(e:α→List Lf){l m:List α}{b:Nat}(h:d_ (l++m).length b)(hb:Nat.blt 0 b=true:=by rfl):Ev:=⟨[.rows ((l++m).map e)],
 fun q=>(l.map e).length=(l.map e).length∧l.map e++m.map e=(l++m).map e∧((l++m).map e).length*b≤140737488355328∧((l++m).map e).length≤9223372036854775807∧q,
 fun _ k=>⟨rfl,Y6 e l m,V8 e h,Ru e (by simpa using hb) h,k⟩⟩
section
variable {w : World} {M : Nat → Prop} {φ : Pl} {m : List Nat}
theorem Rs.Qat{α β:Type}{R:α→β→Prop}{c c':α}(hw:∀v,R c' v→R c v):∀{xs:List α} {vs:List β} {k:Nat},xs[k]?=some c→Rs R (xs.set k c') vs→Rs R xs vs
 | [],_,_,hk,_=>by simp at hk
 |x ::xs,[],0,_,h=>h.elim
 |x ::xs,[],k+1,_,h=>h.elim
 |x ::xs,v ::vs,0,hk,h=>by
  have e:x=c:=by simpa using hk
  subst e;exact⟨hw v h.1,h.2⟩
 |x ::xs,v ::vs,k+1,hk,h=>⟨h.1,Rs.Qat hw (by simpa using hk) h.2⟩
theorem dd.Z6{P:Program}{f:FuncId}{args:List Cm}{H0:List Ob}{r:AV}{H1:List (Option Ob)}(k sz:Nat)(h:dd P f args H0 r H1)(hk:args[k]?=some (.one (.sl false sz [])):=by rfl):dd P f (args.set k (.one .cM)) H0 r H1:=by
 obtain⟨h1,h2⟩:=h;refine⟨h1,fun w φ M0 oq hW hφ hr=>h2 w φ M0 oq hW hφ (Rs.Qat (fun v hv=>?_) hk hr)⟩
 have KH:IR w M0 .cM v:=hv;cases KH;exact IR.Ko false sz none 0 fun h=>by cases h
end
section
variable {K V : Type}
def mE(ek:K→List Lf)(ev:V→Lf)(p:K×V):List Lf:=ev p.2 ::ek p.1
def kI(n:Int):List Lf:=[lI n]
def kS(s:ByteArray):List Lf:=[.str s]
def bM{α:Type}(Et:TypeId)(l:List α)(e:α→List Lf):Ob:=⟨true,1,Et,[] :: [] ::l.map e⟩
def oM{α:Type}(Et:TypeId)(l:List α)(e:α→List Lf):Option Ob:=some (bM Et l e)
theorem Ui(a b:Int):rm (kI a) (kI b)=some (aW a b):=by show some (aW a b&&true)=_;rw[Bool.and_true]
theorem kqS(a b:ByteArray):rm (kS a) (kS b)=some (KD a b):=by show some (KD a b&&true)=_;rw[Bool.and_true]
theorem Su{ek:K→List Lf}{eq:K→K→Bool}(hk:∀a b,rm (ek a) (ek b)=some (eq a b))(ev:V→Lf)(u:Unit)(l:List (K×V))(k:K)(z:V):AP (l.map (mE ek ev)) (ek k) (ev z)=some (ev (oH eq l k z)):=by
 induction l with
 |nil=>rfl
 |cons p r ih =>
  show(match rm (ek k) (ek p.1)with
   |some true=>some (ev p.2)
   |some false=>AP (r.map (mE ek ev)) (ek k) (ev z)
   |none=>none)=some (ev (oH eq (p ::r) k z))
  rw[hk];simp only[oH];cases eq k p.1 with
  |true=>rfl
  |false=>exact ih
theorem Sv{ek:K→List Lf}{eq:K→K→Bool}(hk:∀a b,rm (ek a) (ek b)=some (eq a b))(ev:V→Lf)(u:Unit)(l:List (K×V))(k:K)(v:V):wO (l.map (mE ek ev)) (ek k) (ev v)=some ((sw eq l k v).map (mE ek ev)):=by
 induction l with
 |nil=>rfl
 |cons p r ih =>
  show(match rm (ek k) (ek p.1)with
   |some true=>some ((ev v ::ek k) ::r.map (mE ek ev))
   |some false=>(wO (r.map (mE ek ev)) (ek k) (ev v)).map ((ev p.2 ::ek p.1) :: ·)
   |none=>none)=some ((sw eq (p ::r) k v).map (mE ek ev))
  rw[hk];simp only[sw];cases eq k p.1 with
  |true=>rfl
  |false=>rw[ih];rfl
end
def cY{α:Type}(e:α→List Lf)(l m:List α):Ev:=⟨[.rows ((Mo l m).map e),.num (JA l m)],
 fun q=>(l.map e).length=(l.map e).length∧min (m.map e).length (l.map e).length=JA l m∧(m.map e).take (JA l m)++(l.map e).drop (JA l m)=(Mo l m).map e∧q,fun _ h=>⟨rfl,Qa6 e l m,Qa7 e l m,h⟩⟩
def mG{K V:Type}{ek:K→List Lf}{eq:K→K→Bool}(hk:∀a b,rm (ek a) (ek b)=some (eq a b))(ev:V→Lf)(l:List (K×V))(k:K)(z:V):Ev:=⟨[.cells [ev (oH eq l k z)]],fun q=>AP (l.map (mE ek ev)) (ek k) (ev z)=some (ev (oH eq l k z))∧q,fun _ h=>⟨Su hk ev () l k z,h⟩⟩
def mU{K V:Type}{ek:K→List Lf}{eq:K→K→Bool}(hk:∀a b,rm (ek a) (ek b)=some (eq a b))(ev:V→Lf)(l:List (K×V))(k:K)(v:V):Ev:=⟨[.rows ((sw eq l k v).map (mE ek ev))],fun q=>wO (l.map (mE ek ev)) (ek k) (ev v)=some ((sw eq l k v).map (mE ek ev))∧q,fun _ h=>⟨Sv hk ev () l k v,h⟩⟩
def vI(t:Nat)(n:Int):Nat×AV:=(t,one (lI n))
def vB(t:Nat)(b:Bool):Nat×AV:=(t,one (.bool b))
def vS(t:Nat)(s:ByteArray):Nat×AV:=(t,one (.str s))
def vL{α:Type}(t sz:Nat)(l:List α)(e:α→List Lf):Nat×AV:=(t,one (lL sz l e))
def vO{α:Type}(t id sz:Nat)(l:List α)(e:α→List Lf):Nat×AV:=(t,one (lO id sz l e))
def vP(t id sz:Nat):Nat×AV:=(t,one (.op id sz 0 0))
def gG(c:List Lf):AV:=.cm (.agg c)
def bX(sz:Nat)(Et:TypeId)(c:List Lf):Ob:=⟨true,sz,Et,[c]⟩
def bS{α:Type}(sz:Nat)(Et:TypeId)(l:List α)(e:α→List Lf):Ob:=⟨false,sz,Et,l.map e⟩
def oX(sz:Nat)(Et:TypeId)(c:List Lf):Option Ob:=some (bX sz Et c)
def oS{α:Type}(sz:Nat)(Et:TypeId)(l:List α)(e:α→List Lf):Option Ob:=some (bS sz Et l e)
theorem oJ{α:Type}{a b:α}(h:some a=some b):b=a:=(Option.some.inj h).symm
theorem oK{α:Type}{a b:α}(h:some a=some b):a=b:=Option.some.inj h
theorem aY{S E:Type}{B:S→Option (S⊕E)}{C:S→Prop}{D:E→Prop}(Re:∀s x,B s=some x→(∀⦃s'⦄,some (Sum.inl s')=some x→C s')→(∀⦃e⦄,some (Sum.inr e)=some x→D e)→C s):∀⦃s:S⦄ ⦃e:E⦄,aF B s=some e→D e→C s:=fun _ _ h hD=>Ut C D (fun s x h1 h2 h3=>Re s x h1 (fun _ h=>h2 _ (oJ h)) (fun _ h=>h3 _ (oJ h))) h hD
theorem ay{α:Type}{b:Bool}{x y:Option α}{r:α}:br b x y=some r↔(b=true∧x=some r)∨(b=false∧y=some r):=by
 cases b
 ·exact⟨fun h=>.inr ⟨rfl,h⟩,fun h=>h.elim (fun h=>nomatch h.1) fun h=>h.2⟩
 ·exact⟨fun h=>.inl ⟨rfl,h⟩,fun h=>h.elim (fun h=>h.2) fun h=>nomatch h.1⟩
theorem an{α β:Type}{o:Option α}{f:α→Option β}{r:β}:aG o f=some r↔∃a,o=some a∧f a=some r:=
 ⟨pZ,fun⟨a,h,h'⟩=>by rw[h];exact h'⟩
theorem ao{α:Type}{p:Prop} [Decidable p] {x:Option α}{r:α}:dr p x=some r↔p∧x=some r:=
 ⟨FW,fun⟨h,h'⟩=>by unfold dr;rw[if_pos h];exact h'⟩
theorem zL(n:Nat):(0:Int)≤n:=Int.natCast_nonneg n
theorem lT(a b:Nat)(h:Nat.blt a b=true:=by rfl):(a:Int)<b:=by simpa using h
theorem oA{n:Int}(h:(n == 0)=false:=by rfl):n≠0:=by simpa using h
theorem go_amb(t:Nat){cf:Cf}(h:(match look cf.σ.L t with
  | .Px=>true
  |_=>false)=true) (h1:Go P fn zA Γ r H1 ⟨cf.k,⟨cf.σ.N,(t,one (.bool true)) ::cf.σ.L,cf.σ.H⟩⟩) (h2:Go P fn zA Γ r H1 ⟨cf.k,⟨cf.σ.N,(t,one (.bool false)) ::cf.σ.L,cf.σ.H⟩⟩):Go P fn zA Γ r H1 cf:=by
 intro Hx a w hS;obtain⟨hN,Gj,φ,M,hF,hW,hφ⟩:=hS;have ht:=hF t;split at h
 ·rename_i he;rw[he]at ht;obtain⟨b,hb⟩:=ht;have key:Ie Γ ⟨cf.σ.N,(t,one (.bool b)) ::cf.σ.L,cf.σ.H⟩ a w:=⟨hN,Gj,φ,M,HG hF (by rw[hb];exact IR.bool b),hW,hφ⟩
  cases b
  ·exact h2 Hx a w key
  ·exact h1 Hx a w key
 ·cases h
theorem LD:∀{args:List Cm} {i t:Nat},look (wo i args) t=(if i≤t then(match args[t-i]? with
  |some c=>.cm c
  |none=>.Iy)else .Iy)
 | [],i,t=>by simp [wo,look]
 |c ::r,i,t=>by
  simp only[wo,look];by_cases h:i=t
  ·subst h;simp
  ·have:(i == t)=false:=by simpa using h
   rw[this,cond_false,LD];by_cases h1:i≤t
   ·rw[if_pos h1,if_pos (by omega),show t-i=(t-(i+1))+1 by omega];simp
   ·rw[if_neg h1,if_neg (by omega)]
theorem Rx{φ:Pl}:∀{H0:List Ob} {i:Nat} {p:Nat×Nat},p∈sH φ i H0→p.1∈Ju i H0
 | [],_,_,h=>by cases h
 |o ::r,i,p,h=>by
  simp only[sH,List.mem_append]at h;simp only[Ju,List.mem_append];rcases h with h|h
  ·left;split at h
   ·rename_i b C hb hφ;rw[hb];simp only[List.mem_singleton]at h;subst h;simp
   ·cases h
  ·right;exact Rx h
theorem Xx{f:FuncId}{args:List Cm}{H0:List Ob}(hf:P.funcs[f]?=some fn)(hb:fn.body.isSome=true)(hn:(Nat.ble args.length fn.ntmps&&!(fn.name == "runtime.NumGoroutine"))=true)
  (h:∀Γ,Go P fn (Ju 0 H0) Γ r H1 ⟨[.c 1],⟨fn.ntmps,wo 0 args,H0.map some⟩⟩):dd P f args H0 r H1:=by
 rw[Bool.and_eq_true]at hn;refine⟨by unfold Mk;rw[hf];simp only[hn.2,hb,Bool.and_self],fun w φ M0 oq hW hφ hA cs=>?_⟩
 have hlen:=hA.len;have hle:args.length≤fn.ntmps:=Nat.le_of_ble_eq_true hn.1;obtain⟨c,hc⟩:=Option.isSome_iff_exists.1 hb;have hcd:uQ fn=c:=by unfold uQ;rw[hc];rfl
 let b:Frame:={ (default:Frame)with fn:=f,kind:=.normal}
 have XO:Frame.enter P f oq.toArray .normal =
   b.at {tmps:=oq.toArray++Array.replicate (fn.ntmps-oq.toArray.size) undef,defers:=[]} [.code c]:=by
  simp [Frame.enter,Frame.at,hf,hc,b]
 obtain⟨e,a',w',⟨he,hd,v,φ',M',hr,hv,mw,PV⟩,XM⟩:=h ⟨w,fun b=>∃id C,id<H0.length∧φ id=some (some (b,C)),M0,sH φ 0 H0⟩ (fun p hp=>Rx hp)
  {tmps:=oq.toArray++Array.replicate (fn.ntmps-oq.toArray.size) undef,defers:=[]} w
  ⟨by simp; omega,rfl,φ,M0,fun t=>by
   show AR w M0 φ (look (wo 0 args) t) _;rw[LD,if_pos (Nat.zero_le _),Nat.sub_zero];cases ha:args[t]? with
   |none=>trivial
   |some c =>
    obtain⟨v,h1,h2⟩:=hA.get ha;have m9:t<oq.length:=(List.getElem?_eq_some_iff.1 h1).1;have:(oq.toArray++Array.replicate (fn.ntmps-oq.toArray.size) undef).getD t undef=v:=by
     rw[Array.getD_eq_getD_getElem?,Array.getElem?_append_left (by simpa using m9)]
     simp [h1]
    show CR w M0 φ c ((oq.toArray++Array.replicate (fn.ntmps-oq.toArray.size) undef).getD t undef);rw[this];exact h2,by
   have:hl (H0.map some)=fun id=>H0[id]?:=by
    funext id;unfold hl;rw[List.getElem?_map];cases H0[id]? <;> rfl
   show Wd _ φ M0 (hl (H0.map some)) w;rw[this];exact hW,fun id hid=>hφ id (by simpa using hid)⟩ b cs
 have Zz:([It.c 1].map (It.item (uQ fn)))=[.code c]:=by rw[hcd];rfl
 rw[Zz,←XO]at XM;rcases he with rfl|rfl
 ·obtain⟨todo,hs⟩:=XM;exact⟨.returned v,w',_,⟨v,φ',M',rfl,hv,mw,PV⟩,hs,rfl,rfl,hd,rfl,fn,hf,hr⟩
 ·exact⟨.returned v,w',_,⟨v,φ',M',rfl,hv,mw,PV⟩,Steps.trans XM (.one step_end),rfl,rfl,hd,rfl,fn,hf,hr⟩
theorem aP{f:FuncId}{args:List Cm}{H0:List Ob}(hf:P.funcs[f]?=some fn)(h:∀Γ,Go P fn (Ju 0 H0) Γ r H1 ⟨[.c 1],⟨fn.ntmps,wo 0 args,H0.map some⟩⟩)(hb:fn.body.isSome=true:=by kernel_rfl)(hn:(Nat.ble args.length fn.ntmps&&!(fn.name == "runtime.NumGoroutine"))=true:=by kernel_rfl):dd P f args H0 r H1:=Xx hf hb hn h
end
end
section
open Go.RowKit Go.ChangeShapes Go.WideShapes Go.Deep
def Cc(n:Int):Prop:=-9223372036854775808≤n∧n≤9223372036854775807
structure Rd (α:Type) where
 size:Nat
 holds:World→List Value→α→Prop
 len:∀(w:World) (cs:List Value) (x:α),holds w cs x→cs.length=size
 ext:∀(w w':World) (cs:List Value) (x:α),Below w.heap.size w w'→holds w cs x→holds w' cs x
def UX{α:Type}(r:Rd α)(w:World)(A:Option Addr)(xs:List α):Prop:=
 ∀(i:Nat) (x:α),xs[i]?=some x→∃b off cs,A=some ⟨b,off,none⟩∧b<w.heap.size∧r.holds w cs x∧∀(j:Nat) (u:Value),cs[j]?=some u→w.cell? ⟨b,off+i*r.size+j,none⟩=some u
theorem UX.ext{α:Type}{r:Rd α}{w w':World}{A:Option Addr}{xs:List α}(h:UX r w A xs)(hb:Below w.heap.size w w'):UX r w' A xs:=fun i x hx=>by
 obtain⟨b,off,cs,hA,m9,h1,h2⟩:=h i x hx;exact⟨b,off,cs,hA,Nat.lt_of_lt_of_le m9 hb.size,r.ext _ _ _ _ hb h1,fun j u hj=>(hb.cell (p:=⟨b,_,none⟩) m9).trans (h2 j u hj)⟩
theorem UX.nil{α:Type}{r:Rd α}{w:World}{A:Option Addr}:UX r w A []:=fun i x hx=>by simp at hx
namespace Rd
def int:Rd Int:={size:=1,holds:=fun _ cs n=>cs=[.int .i64 n]∧Cc n,len:=fun _ _ _ h=>by rw[h.1];rfl,ext:=fun _ _ _ _ _ h=>h}
def bool:Rd Bool:={size:=1,holds:=fun _ cs b=>cs=[.bool b],len:=fun _ _ _ h=>by rw[h];rfl,ext:=fun _ _ _ _ _ h=>h}
def str(N:Nat):Rd ByteArray:={size:=1,holds:=fun _ cs s=>cs=[.string s]∧s.size≤N,len:=fun _ _ _ h=>by rw[h.1];rfl,ext:=fun _ _ _ _ _ h=>h}
def unit:Rd Unit:={size:=0,holds:=fun _ cs _=>cs=[],len:=fun _ _ _ h=>by rw[h];rfl,ext:=fun _ _ _ _ _ h=>h}
def pair{α β:Type}(r:Rd α)(s:Rd β):Rd (α×β):=
 {size:=r.size+s.size,holds:=fun w cs x=>∃c d,cs=c++d∧r.holds w c x.1∧s.holds w d x.2,
  len:=fun w cs x h=>by
   obtain⟨c,d,rfl,h1,h2⟩:=h;rw[List.length_append,r.len _ _ _ h1,s.len _ _ _ h2],
  ext:=fun w w' cs x hb h=>by
   obtain⟨c,d,rfl,h1,h2⟩:=h;exact⟨c,d,rfl,r.ext _ _ _ _ hb h1,s.ext _ _ _ _ hb h2⟩}
def map{α β:Type}(r:Rd α)(f:α→β):Rd β:=
 {size:=r.size,holds:=fun w cs y=>∃x,r.holds w cs x∧f x=y,
  len:=fun w cs y h=>by obtain⟨x,h1,_⟩:=h;exact r.len _ _ _ h1,
  ext:=fun w w' cs y hb h=>by obtain⟨x,h1,h2⟩:=h;exact⟨x,r.ext _ _ _ _ hb h1,h2⟩}
def slice{α:Type}(N:Nat)(r:Rd α):Rd (List α):=
 {size:=1,holds:=fun w cs xs=>∃A c,cs=[.slice A xs.length c]∧xs.length≤N∧UX r w A xs,
  len:=fun w cs xs h=>by obtain⟨A,c,rfl,_⟩:=h;rfl,
  ext:=fun w w' cs xs hb h=>by obtain⟨A,c,rfl,h1,h2⟩:=h;exact⟨A,c,rfl,h1,h2.ext hb⟩}
end Rd
section
variable {H : Type}
theorem Ty(d:DataW H):1≤Rows.uptoBulk d:=by
 cases d with
 |lit l=>cases l <;> simp [Rows.uptoBulk]
 |_=>simp [Rows.uptoBulk]
theorem Ih:∀ds:List (DataW H),ds.length≤Rows.uptoBulkAll ds
 | []=>by simp
 |d ::ds=>by
  have h1:=Ty d;have h2:=Ih ds;simp only[List.length_cons,Rows.uptoBulkAll];omega
theorem xD:∀{ds:List (DataW H)} {d:DataW H},d∈ds→Rows.uptoBulk d≤Rows.uptoBulkAll ds
 | [],d,h=>by simp at h
 |e ::ds,d,h=>by
  simp only[Rows.uptoBulkAll];rcases List.mem_cons.1 h with rfl|h
  ·omega
  ·have:=xD h;omega
def Fits(N:Nat)(d:DataW H):Prop:=N=maxLen∨Rows.uptoBulk d≤N
theorem Fits.agg{N:Nat}{ds:List (DataW H)}(h:Fits N (.agg ds)){d:DataW H}(hd:d∈ds):Fits N d:=by
 rcases h with h|h
 ·exact .inl h
 ·right;have:=xD hd;simp only[Rows.uptoBulk]at h;omega
theorem Fits.slice{N:Nat}{ds es:List (DataW H)}(h:Fits N (.slice ds es)){d:DataW H}(hd:d∈ds):Fits N d:=by
 rcases h with h|h
 ·exact .inl h
 ·right;have:=xD hd;simp only[Rows.uptoBulk]at h;omega
theorem Fits.len{N:Nat}{ds es:List (DataW H)}(h:Fits N (.slice ds es))(hl:ds.length≤maxLen):ds.length≤N:=by
 rcases h with h|h
 ·rw[h];exact hl
 ·have:=Ih ds;simp only[Rows.uptoBulk]at h;omega
theorem Fits.all{N:Nat}{ds:List (DataW H)}(h:N=maxLen∨Rows.uptoBulkAll ds≤N){d:DataW H}(hd:d∈ds):Fits N d:=by
 rcases h with h|h
 ·exact .inl h
 ·right;have:=xD hd;omega
end
structure hX (P:Program) (N:Nat) (t:TypeId) {α:Type} (r:Rd α):Prop where
 size:P.cellsOf t=r.size
 opens:∀(H:Type) (enc:TypeId×Value→H) (w:World) (fuel:Nat) (cs:List Value) (x:DataW H×List MemPlace),
  DataW.trod enc P w 0 (fun _=>true) true fuel t cs=some x→Fits N x.1→∃a,r.holds w cs a
section
variable {P : Program} {N : Nat} {t : TypeId}
theorem Sy(ht:P.underlying t=some (.int .i64))(hc:P.cellsOf t=1):hX P N t Rd.int:=⟨hc,fun H enc w fuel cs x h _=>by
 obtain⟨n,rfl,_,hw⟩:=DataW.trod_int ht h;exact⟨n,rfl,PW hw⟩⟩
theorem Qi(ht:P.underlying t=some .bool)(hc:P.cellsOf t=1):hX P N t Rd.bool:=⟨hc,fun H enc w fuel cs x h _=>by
 obtain⟨b,rfl,_⟩:=DataW.trod_bool ht h;exact⟨b,rfl⟩⟩
theorem Sz(ht:P.underlying t=some .string)(hc:P.cellsOf t=1):hX P N t (Rd.str N):=⟨hc,fun H enc w fuel cs x h hb=>by
 obtain⟨s,rfl,hx,hs⟩:=DataW.trod_string ht h;refine⟨s,rfl,?_⟩;rcases hb with hb|hb
 ·rw[hb];exact hs
 ·rw[hx]at hb;simp only[Rows.uptoBulk,Array.length_toList]at hb;have:s.size=s.data.size:=rfl;omega⟩
theorem hX.map{α β:Type}{r:Rd α}(h:hX P N t r)(f:α→β):hX P N t (r.map f):=⟨h.size,fun H enc w fuel cs x hx hb=>by
 obtain⟨a,ha⟩:=h.opens H enc w fuel cs x hx hb;exact⟨f a,a,ha,rfl⟩⟩
theorem OG{e:TypeId}{α:Type}{r:Rd α}(ht:P.underlying t=some (.slice e))(hc:P.cellsOf t=1)(hr:hX P N e r)(Sh:0<r.size):hX P N t (r.slice N):=⟨hc,fun H enc w fuel cs x h hb=>by
 rcases open_slice ht h with⟨rfl,_⟩|⟨a,len,cap,m,n,D,Pl,rfl,_,hl,hm,hmm,Uc,uw⟩
 ·exact⟨[],none,0,rfl,Nat.zero_le _,UX.nil⟩
 ·have hlm:len≤m:=by rw[hmm];split <;> omega
  have Uc:x.1=.slice ((List.range len).map D) ((List.range (m-len)).map fun j=>D (len+j)):=by rw[Uc]
  rw[Uc]at hb;have hlN:len≤N:=by have:=hb.len (by simp;omega);simpa using this
  have each:∀i,i<len→∃q:List Value×α,r.holds w q.1 q.2∧q.1.length=r.size∧∀j u,q.1[j]?=some u→w.cell? (a.add (i*r.size+j))=some u:=by
   intro i hi;obtain⟨KR,h1,h2⟩:=uw i (by omega)
   obtain⟨y,hy⟩:=hr.opens H enc w n KR _ h2 (hb.slice (List.mem_map.2 ⟨i,List.mem_range.2 hi,rfl⟩));obtain⟨_,hlen,my⟩:=World.cells?_some h1;rw[hr.size]at my hlen;refine⟨(KR,y),hy,hlen,fun j u hj=>?_⟩
   have Ns:j<KR.length:=(List.getElem?_eq_some_iff.1 hj).1;have:=my j (by omega)
   rw[add_add,hj]at this;exact this
  obtain⟨b,off,spot⟩:=a;by_cases Mx:len=0
  ·subst Mx;exact⟨[],_,_,rfl,Nat.zero_le _,UX.nil⟩
  ·have ZR:spot=none:=by
    obtain⟨q,_,h2,h3⟩:=each 0 (by omega)
    have h0:=h3 0 _ (List.getElem?_eq_getElem (by omega:0<q.1.length))
    simpa [Addr.add]using World.cell?_spot h0
   subst ZR;have key:∀k,k≤len→∃xs:List α,xs.length=k∧UX r w (some ⟨b,off,none⟩) xs:=by
    intro k;induction k with
    |zero=>exact fun _=>⟨[],rfl,UX.nil⟩
    |succ k ih =>
     intro hk;obtain⟨xs,h1,h2⟩:=ih (by omega)
     obtain⟨⟨KR,y⟩,g1,g2,g3⟩:=each k (by omega)
     refine⟨xs++[y],by simp [h1],fun i x hx=>?_⟩
     rcases Nat.lt_or_ge i k with hi|hi
     ·rw[List.getElem?_append_left (by omega)]at hx
      exact h2 i x hx
     ·have XV:i=k:=by
       have:=(List.getElem?_eq_some_iff.1 hx).1;simp [h1]at this;omega
      subst XV;rw[List.getElem?_append_right (by omega),h1,Nat.sub_self]at hx
      have:y=x:=by simpa using hx
      subst this;have my:∀(j:Nat) (u:Value),KR[j]?=some u→w.cell? ⟨b,off+i*r.size+j,none⟩=some u:=fun j u hj=>by
       have:=g3 j u hj;rw[add_plain]at this;rw[←this];congr 2;omega
      refine⟨b,off,KR,rfl,?_,g1,my⟩;have h0:=my 0 _ (List.getElem?_eq_getElem (by show 0<KR.length;simp only at g2;omega))
      rcases Nat.lt_or_ge b w.heap.size with h|h
      ·exact h
      ·exfalso;unfold World.cell? at h0;rw[Array.getElem?_eq_none h]at h0;simp at h0
   obtain⟨xs,h1,h2⟩:=key len (Nat.le_refl _);exact⟨xs,_,_,by rw[h1],by omega,h2⟩⟩
inductive Df (P:Program) (N:Nat):List Field→Nat→(α:Type)→Rd α→Prop
 |nil {off:Nat}:Df P N [] off Unit Rd.unit
 |cons {f:Field} {fs:List Field} {off:Nat} {α β:Type} {r:Rd α} {s:Rd β}:f.offset=off→hX P N f.type r→Df P N fs (off+r.size) β s→Df P N (f ::fs) off (α×β) (Rd.pair r s)
theorem N3{w:World}{H:Type}{enc:TypeId×Value→H}{n:Nat}{cs:List Value}:∀{fs:List Field} {off:Nat} {α:Type} {r:Rd α},Df P N fs off α r→
  (∀f∈fs,∃y,DataW.trod enc P w 0 (fun _=>true) true n f.type ((cs.drop f.offset).take (P.cellsOf f.type))=some y∧Fits N y.1)→∃a,r.holds w ((cs.drop off).take r.size) a:=by
 intro fs off α r hF;induction hF with
 |nil=>exact fun _=>⟨(),by show List.take 0 _=[];simp⟩
 | @cons f fs off α β r s ho hr _ ih =>
  intro uw;obtain⟨y,hy,hyb⟩:=uw f (by simp)
  obtain⟨a,ha⟩:=hr.opens _ _ _ _ _ _ hy hyb;obtain⟨b,hb⟩:=ih (fun g hg=>uw g (by simp [hg]))
  rw[ho,hr.size]at ha;refine⟨(a,b),_,_,?_,ha,hb⟩;show List.take (r.size+s.size) _=_;rw[List.take_add,List.drop_drop]
theorem MS{fs:Array Field}{α:Type}{r:Rd α}(ht:P.underlying t=some (.struct fs))(hc:P.cellsOf t=r.size)(hF:Df P N fs.toList 0 α r):hX P N t r:=⟨hc,fun H enc w fuel cs x h hb=>by
 obtain⟨xs,n,_,Uc,hlen,S_,hf⟩:=DataW.trod_struct ht h;have Uc:x.1=.agg (xs.map (·.1)):=by rw[Uc]
 rw[Uc]at hb;have:=N3 (w:=w) (enc:=enc) (n:=n) (cs:=cs) hF (fun f hfm=>by
  obtain⟨i,hi⟩:=List.getElem?_of_mem hfm;have Mw:fs[i]?=some f:=by simpa using hi
  have m9:i<xs.length:=by rw[S_];exact(Array.getElem?_eq_some_iff.1 Mw).1
  exact⟨xs[i],by rw[hf i f Mw,List.getElem?_eq_getElem m9],hb.agg (List.mem_map.2 ⟨xs[i],List.getElem_mem m9,rfl⟩)⟩)
 rwa [List.drop_zero,←hc,←hlen,List.take_length]at this⟩
theorem MQ{e:TypeId}{α:Type}{r:Rd α}(ht:P.underlying t=some (.array 2 e))(hc:P.cellsOf t=r.size+r.size)(hr:hX P N e r):hX P N t (r.pair r):=⟨hc,fun H enc w fuel cs x h hb=>by
 obtain⟨xs,n,_,Uc,hlen,S_,hf⟩:=DataW.trod_array ht h;have Uc:x.1=.agg (xs.map (·.1)):=by rw[Uc]
 rw[Uc]at hb;have h0:=hf 0 (by omega)
 have h1:=hf 1 (by omega)
 rw[hr.size]at h0 h1;have l0:0<xs.length:=by omega
 have l1:1<xs.length:=by omega
 obtain⟨a,ha⟩:=hr.opens _ _ _ _ _ _ (h0.trans (List.getElem?_eq_getElem l0)) (hb.agg (List.mem_map.2 ⟨xs[0],List.getElem_mem l0,rfl⟩));obtain⟨b,R_⟩:=hr.opens _ _ _ _ _ _ (h1.trans (List.getElem?_eq_getElem l1)) (hb.agg (List.mem_map.2 ⟨xs[1],List.getElem_mem l1,rfl⟩));refine⟨(a,b),_,_,?_,ha,R_⟩;rw[Nat.zero_mul,List.drop_zero,Nat.one_mul];have:cs=cs.take (r.size+r.size):=by rw[List.take_of_length_le (by omega)]
 conv=>lhs;rw[this]
 rw[List.take_add]⟩
end
end
section
open Go.RowKit Go.ChangeShapes Go.WideShapes Go.Deep
abbrev IRw(w:World):Lf→Value→Prop:=IR w (fun b=>b<w.heap.size)
def HR{α:Type}(k:Nat)(enc:α→List Lf)(ok:α→Prop)(hk:∀x,(enc x).length=k):Rd α:=
 {size:=k,holds:=fun w cs x=>ok x∧Rs (IRw w) (enc x) cs,
  len:=fun w cs x h=>h.2.len.symm.trans (hk x),
  ext:=fun w w' cs x hb h=>⟨h.1,Rs.mono (fun _ _ h=>IR.mono (fun b R_=>hb.block b R_) (fun b R_=>Nat.lt_of_lt_of_le R_ hb.size) h) h.2⟩}
def HE{α:Type}(r:Rd α)(e:α→List Lf)(ok:α→Prop):Prop:=∀w cs a,r.holds w cs a→ok a∧Rs (IRw w) (e a) cs
section
variable {α β : Type} {P : Program} {N : Nat} {t : TypeId}
theorem HE.rd{k:Nat}{enc:α→List Lf}{ok:α→Prop}{hk:∀x,(enc x).length=k}:HE (HR k enc ok hk) enc ok:=fun _ _ _ h=>h
theorem HE.unit:HE Rd.unit (fun _=>[]) (fun _=>True):=fun _ _ _ h=>by cases h;exact⟨trivial,trivial⟩
theorem HE.pair{r:Rd α}{s:Rd β}{e:α→List Lf}{e':β→List Lf}{ok:α→Prop}{ok':β→Prop}(h:HE r e ok)(h':HE s e' ok'):HE (r.pair s) (fun x=>e x.1++e' x.2) (fun x=>ok x.1∧ok' x.2):=by
 rintro w cs a ⟨c,d,rfl,h1,h2⟩;obtain⟨g1,g2⟩:=h w c _ h1;obtain⟨g3,g4⟩:=h' w d _ h2;exact⟨⟨g1,g3⟩,Rs.append g2 g4⟩
theorem hX.mono{r:Rd α}{s:Rd β}(h:hX P N t r)(hs:r.size=s.size)(hi:∀w cs a,r.holds w cs a→∃b,s.holds w cs b):hX P N t s:=
 ⟨h.size.trans hs,fun H enc w fuel cs x hx hb=>let⟨a,ha⟩:=h.opens H enc w fuel cs x hx hb;hi w cs a ha⟩
theorem Ym(ht:P.underlying t=some (.int .i64))(hc:P.cellsOf t=1):hX P N t (HR 1 (fun n:Int=>[.int .i64 n]) Cc (fun _=>rfl)):=
 (Sy ht hc).mono rfl fun w cs a h=>⟨a,h.2,by rw[h.1];exact⟨.int _ _,trivial⟩⟩
theorem V7(ht:P.underlying t=some .bool)(hc:P.cellsOf t=1):hX P N t (HR 1 (fun b:Bool=>[.bool b]) (fun _=>True) (fun _=>rfl)):=
 (Qi ht hc).mono rfl fun w cs a h=>⟨a,trivial,by rw[h];exact⟨.bool _,trivial⟩⟩
theorem Yn(ht:P.underlying t=some .string)(hc:P.cellsOf t=1):hX P N t (HR 1 (fun s:ByteArray=>[.str s]) (fun s=>s.size≤N) (fun _=>rfl)):=
 (Sz ht hc).mono rfl fun w cs a h=>⟨a,h.2,by rw[h.1];exact⟨.str _,trivial⟩⟩
theorem wU{e:TypeId}{sz:Nat}{enc:α→List Lf}{ok:α→Prop}{hk:∀x,(enc x).length=sz}(ht:P.underlying t=some (.slice e))(hc:P.cellsOf t=1)(hr:hX P N e (HR sz enc ok hk))(Sh:0<sz):
  hX P N t (HR 1 (fun l:List α=>[.sl false sz (l.map enc)]) (fun l=>l.length≤N∧∀x∈l,ok x) (fun _=>rfl)):=⟨hc,fun H Qa9 w fuel cs x h hb=>by
 obtain⟨xs,A,c,S4,hlen,hS⟩:=(OG ht hc hr Sh).opens H Qa9 w fuel cs x h hb;have Mv:xs.length≤c:=by
  rcases open_slice ht h with⟨h1,_⟩|⟨a,len,cap,m,n,D,Pl,h1,_,hl,_⟩
  ·rw[S4]at h1;simp only[List.cons.injEq,Value.slice.injEq,and_true]at h1;omega
  ·rw[S4]at h1;simp only[List.cons.injEq,Value.slice.injEq,and_true]at h1;omega
 have qo:∀x∈xs,ok x:=fun x hx=>by
  obtain⟨i,hi⟩:=List.getElem?_of_mem hx;obtain⟨b,off,KR,_,_,h1,_⟩:=hS i x hi;exact h1.1
 refine⟨xs,⟨hlen,qo⟩,?_⟩;rw[S4];refine⟨?_,trivial⟩;cases xs with
 |nil=>exact .Ko false sz A c (fun h=>by cases h)
 |cons x0 xr =>
  obtain⟨b,off,cs0,hA,m9,_,_⟩:=hS 0 x0 rfl;subst hA;have key:∀(i:Nat) (c':List Lf) (j:Nat) (l:Lf),((x0 ::xr).map enc)[i]?=some c'→c'[j]?=some l→∃v,w.cell? ⟨b,off+i*sz+j,none⟩=some v∧IRw w l v:=by
   intro i c' j l hi hj;rw[List.getElem?_map]at hi;cases hx:(x0 ::xr)[i]? with
   |none=>rw[hx]at hi;cases hi
   |some y =>
    rw[hx]at hi;cases hi;obtain⟨b',Qft,KR,hA',_,⟨_,h1⟩,h2⟩:=hS i y hx;cases hA';obtain⟨v,hv,hr⟩:=h1.get hj;exact⟨v,h2 j v hv,hr⟩
  have WV:(x0 ::xr).length=((x0 ::xr).map enc).length:=(List.length_map ..).symm;rw[WV];refine .sl false sz _ b off c (fun i j=>(w.cell? ⟨b,off+i*sz+j,none⟩).getD undef) m9 (by rw[List.length_map];exact Mv) (fun h=>by cases h) ?_ ?_ ?_
  ·intro i c' hi;rw[List.getElem?_map]at hi;cases hx:(x0 ::xr)[i]? with
   |none=>rw[hx]at hi;cases hi
   |some y=>rw[hx]at hi;cases hi;exact hk y
  ·intro i c' j l hi hj;obtain⟨v,hv,_⟩:=key i c' j l hi hj;show _=some ((w.cell? ⟨b,off+i*sz+j,none⟩).getD undef);rw[hv];rfl
  ·intro i c' j l hi hj;obtain⟨v,hv,hr⟩:=key i c' j l hi hj;show IR w _ l ((w.cell? ⟨b,off+i*sz+j,none⟩).getD undef);rw[hv];exact hr⟩
theorem tO{fs:Array Field}{r:Rd α}{e:α→List Lf}{ok:α→Prop}{k:Nat}{enc:β→List Lf}{Z7:β→Prop}{hk:∀x,(enc x).length=k}(ht:P.underlying t=some (.struct fs))(hc:P.cellsOf t=r.size)(hF:Df P N fs.toList 0 α r)
  (jM:r.size=k) (hE:HE r e ok) (mk:α→β) (h1:∀a,enc (mk a)=e a) (h2:∀a,ok a→Z7 (mk a)):hX P N t (HR k enc Z7 hk):=
 (MS ht hc hF).mono jM fun w cs a h=>⟨mk a,h2 a (hE w cs a h).1,by rw[h1];exact(hE w cs a h).2⟩
theorem Sw{e:TypeId}{sz:Nat}{Vo:α→List Lf}{ok0:α→Prop}{Oj:∀x,(Vo x).length=sz}{k:Nat}{enc:β→List Lf}{Z7:β→Prop}{hk:∀x,(enc x).length=k}(ht:P.underlying t=some (.array 2 e))(hc:P.cellsOf t=sz+sz)(hr:hX P N e (HR sz Vo ok0 Oj))
  (jM:sz+sz=k) (mk:α→α→β) (h1:∀a b,enc (mk a b)=Vo a++Vo b) (h2:∀a b,ok0 a→ok0 b→Z7 (mk a b)):hX P N t (HR k enc Z7 hk):=
 (MQ ht hc hr).mono jM fun w cs a h=>by
  have:=HE.pair (HE.rd (hk:=Oj)) (HE.rd (hk:=Oj)) w cs a h;exact⟨mk a.1 a.2,h2 _ _ this.1.1 this.1.2,by rw[h1];exact this.2⟩
end
section
variable {P : Program} {f : FuncId} {w : World}
theorem VZ{M:Nat→Prop}{φ:Pl}{ls:List Lf}{vs:List Value}(h:Rs (IR w M) ls vs):Rs (LR w M φ) ls vs:=Rs.mono (fun _ _ h=>IR.lr h) h
theorem Uk{args:List Cm}{oq:List Value}(ht:∀b cs,Wp=some (b,cs)→b<w.heap.size∧∃t s,w.heap[b]?=some (.cells cs t s))(h:dd P f args [] (.cm (.one (.bool true))) [])(hv:Rs (CR w (fun b=>b<w.heap.size) (fun _=>none)) args oq):
  Calls P f oq.toArray w fun e w'=>e=.returned (.bool true)∧Below w.heap.size w w':=by
 refine(h.2 w (fun _=>none) (fun b=>b<w.heap.size) oq ?_ (fun _ _=>rfl) hv).mono ?_
 ·refine⟨fun id ob h=>by simp at h,fun i j oi oj b Ci Cj h=>by simp at h,fun b h=>h,fun b h=>h,fun b h=>.inl h,fun id ob b C h=>by simp at h,fun _ _ _=>rfl,rfl,rfl,rfl,Nat.le_refl _,fun p h=>by simp [sH]at h,fun b cs h=>⟨(ht b cs h).1,fun⟨id,C,hc,_⟩=>by simp at hc,ht b cs h⟩⟩
 ·rintro e w' ⟨v,φ',M',rfl,hv,hW,_⟩;cases hv;exact⟨rfl,hW.os,hW.tape,hW.output,hW.size,fun b hb=>hW.Ce b hb (by rintro⟨id,C,h,_⟩;simp at h)⟩
theorem Vj{ls:List Lf}{cs:Array Value}(h:Rs (IRw w) ls cs.toList):CR w (fun b=>b<w.heap.size) (fun _=>none) (.agg ls) (.agg cs):=⟨cs.toList,by simp,VZ h⟩
end
end
section
open Go.RowKit
def Ou(h:Nat→Option Ob):Lf→Option (Lf×List Prop)
 | .op id sz row off=>match h id with
  |some ob=>bif ob.box&&row == 0 then(match ob.rows with
   | [cells]=>(xL h cells).map fun p=>(.ip p.1 off,p.2)
   |_=>none)else none
  |none=>none
 |l=>J2 h l
def MM(h:Nat→Option Ob):Cm→Option (Cm×List Prop)
 | .one l=>(Ou h l).map fun p=>(.one p.1,p.2)
 | .agg ls=>(EU h ls).map fun p=>(.agg p.1,p.2)
section
variable {P : Program} {fn : Func} {zA : List Nat} {Γ : a5} {r : AV} {H1 : List (Option Ob)} {φ φ' : Pl} {M : Nat → Prop} {w : World} {h hD : Nat → Option Ob} {R : Exit → Act → World → Prop}
theorem Uq(hW:Wd Γ φ M hD w)(ef:∀id ob,h id=some ob→hD id=some ob){l l':Lf}{v:Value}{ob:List Prop}(hl:Ou h l=some (l',ob))(ho:cA ob)(hv:LR w M φ l v):LR w (pK M φ hD) φ' l' v:=by
 cases l with
 |op id sz row off =>
  simp only[Ou]at hl;split at hl
  ·rename_i o1 Im;cases hc:(o1.box&&row == 0)with
   |false=>rw[hc]at hl;cases hl
   |true =>
    rw[hc]at hl;simp only[cond_true]at hl;simp only[Bool.and_eq_true,beq_iff_eq]at hc;obtain⟨nQ,rfl⟩:=hc;split at hl
    ·rename_i cells iF;cases DF:xL h cells with
     |none=>rw[DF]at hl;cases hl
     |some p =>
      obtain⟨c',o2⟩:=p;rw[DF]at hl;cases hl;obtain⟨g1,g2⟩:=ET hW ef DF ho;have hO:=hW.e9 id o1 (ef id o1 Im);obtain⟨b,C,hφ,rfl⟩:=(hv:tC w M φ (.op id sz 0 off) v);have my:∀(j:Nat) (l':Lf),c'[j]?=some l'→∃u,w.cell? ⟨b,0+j,none⟩=some u∧IR w (pK M φ hD) l' u:=fun j l' hj=>by
       obtain⟨l,YQ,WV⟩:=g2 j l' hj;obtain⟨u,hu,hr⟩:=hO.Li (i:=0) (.inr ⟨_,iF⟩) hφ (by rw[iF];rfl) j l YQ
       exact⟨u,by rw[Nat.zero_mul]at hu;exact hu,WV u hr⟩
      have key:IR w (pK M φ hD) (.ip c' off) (.pointer (some ⟨b,0+off,none⟩)):=by
       refine IR.ip c' off b 0 (fun i=>(w.cell? ⟨b,0+i,none⟩).getD undef) (.inr ⟨id,o1,C,ef id o1 Im,hφ⟩) (fun i l hl=>?_) (fun i l hl=>?_)
       ·obtain⟨u,hu,hr⟩:=my i l hl;simp only[hu,Option.getD_some]
       ·obtain⟨u,hu,hr⟩:=my i l hl;simp only[hu,Option.getD_some];exact hr
      rw[show 0*sz+off=0+off by rw[Nat.zero_mul]]
      exact IR.lr key
    ·cases hl
  ·cases hl
 |_=>exact J3 hW ef (by simpa only[Ou]using hl) ho hv
theorem Sq(hW:Wd Γ φ M hD w)(ef:∀id ob,h id=some ob→hD id=some ob){c c':Cm}{v:Value}{ob:List Prop}(hl:MM h c=some (c',ob))(ho:cA ob)(hv:CR w M φ c v):CR w (pK M φ hD) φ' c' v:=by
 cases c with
 |one l =>
  simp only[MM]at hl;cases h1:Ou h l with
  |none=>rw[h1]at hl;cases hl
  |some p=>obtain⟨x,o1⟩:=p;rw[h1]at hl;cases hl;exact Uq hW ef h1 ho hv
 |agg ls =>
  simp only[MM]at hl;cases h1:EU h ls with
  |none=>rw[h1]at hl;cases hl
  |some p =>
   obtain⟨x,o1⟩:=p;rw[h1]at hl;cases hl;obtain⟨vs,e,hr⟩:=hv;exact⟨vs,e,HF hW ef h1 ho hr⟩
def GoR(P:Program)(fn:Func)(Γ:a5)(R:Exit→Act→World→Prop)(cf:Cf):Prop:=∀a w,Ie Γ cf.σ a w→KW P (uQ fn) cf.k R a w
theorem gnR(n:Nat)(live ids:List Nat)(es:List Ev){cf UY:Cf}(hΓ:Γ.pins=[])(hg:GoR P fn Γ R UY)(h:UM P (uQ fn) n live ids cf (YD es)=some (UY,Y9 es):=by kernel_rfl):GoR P fn Γ R cf:=by
 intro a w hS;unfold UM at h;split at h
 ·rename_i rn hr;split at h
  ·rename_i σ o Zw;cases hn:wT ids with
   |false=>rw[hn]at h;cases h
   |true =>
    rw[hn]at h;obtain⟨h1,h2⟩:=Prod.mk.inj (Option.some.inj h);have cF:cA (rn.e9++o):=by rw[h2];exact Vr es
    rw[a0]at cF;refine yd n hr cF.1 hS fun a' w' Gh=>?_
    have:=hg;rw[←h1]at this;exact this a' w' (QL (zA:=[]) hn rfl (by rw[hΓ];intro p hp;cases hp) (y1 Zw cF.2 Gh))
  ·cases h
 ·cases h
abbrev KL:=List (Nat×Cm×Cm)
def Ch(v:Nat→Value)(K:KL):List (Nat×AV):=K.map fun e=>(e.1,.vl (v e.1) e.2.2)
def FL(K:KL):List (Nat×AV):=K.map fun e=>(e.1,.cm e.2.1)
def HL(N:List (Nat×Cm)):List (Nat×AV):=N.map fun e=>(e.1,.cm e.2)
theorem Us(N:List (Nat×Cm))(t:Nat):(∃e∈N,e.1=t∧look (HL N) t=.cm e.2)∨look (HL N) t=.Iy:=by
 induction N with
 |nil=>exact .inr rfl
 |cons e N ih =>
  by_cases he:e.1=t
  ·refine .inl ⟨e,List.mem_cons_self ..,he,?_⟩;show(bif e.1 == t then(AV.cm e.2)else look (HL N) t)=_;rw[he];simp
  ·have h1:look (HL (e ::N)) t=look (HL N) t:=by
    show(bif e.1 == t then(AV.cm e.2)else look (HL N) t)=_;rw[show(e.1 == t)=false by simpa using he];rfl
   rw[h1];rcases ih with⟨e',h2,h3,h4⟩|h2
   ·exact .inl ⟨e',List.mem_cons_of_mem _ h2,h3,h4⟩
   ·exact .inr h2
theorem Ov(v:Nat→Value)(K:KL)(N:List (Nat×AV))(t:Nat):(∃e∈K,e.1=t∧look (Ch v K++N) t=.vl (v t) e.2.2∧look (FL K++N) t=.cm e.2.1)∨(look (Ch v K++N) t=look N t∧look (FL K++N) t=look N t):=by
 induction K with
 |nil=>exact .inr ⟨rfl,rfl⟩
 |cons e K ih =>
  by_cases he:e.1=t
  ·refine .inl ⟨e,List.mem_cons_self ..,he,?_,?_⟩
   ·show(bif e.1 == t then(AV.vl (v e.1) e.2.2)else look (Ch v K++N) t)=_;rw[he];simp
   ·show(bif e.1 == t then(AV.cm e.2.1)else look (FL K++N) t)=_;rw[he];simp
  ·have h1:look (Ch v (e ::K)++N) t=look (Ch v K++N) t:=by
    show(bif e.1 == t then(AV.vl (v e.1) e.2.2)else look (Ch v K++N) t)=_;rw[show(e.1 == t)=false by simpa using he];rfl
   have h2:look (FL (e ::K)++N) t=look (FL K++N) t:=by
    show(bif e.1 == t then(AV.cm e.2.1)else look (FL K++N) t)=_;rw[show(e.1 == t)=false by simpa using he];rfl
   rw[h1,h2];rcases ih with⟨e',g1,g2,g3⟩|g
   ·exact .inl ⟨e',List.mem_cons_of_mem _ g1,g2,g3⟩
   ·exact .inr g
theorem go_lend{k k':List It}{σ:SS}(K:KL)(N:List (Nat×Cm))(hK:∀e∈K,look σ.L e.1=.cm e.2.1∧∃ob,MM (hl σ.H) e.2.1=some (e.2.2,ob)∧cA ob)(hN:∀e∈N,MY e.2=true)
  (RF:∀(v:Nat→Value) (Γ2:a5) (R:Exit→Act→World→Prop),Γ2.pins=[]→GoR P fn Γ2 R ⟨k',⟨σ.N,Ch v K++HL N,[]⟩⟩→GoR P fn Γ2 R ⟨k,⟨σ.N,Ch v K,[]⟩⟩)
  (hg:Go P fn zA Γ r H1 ⟨k',⟨σ.N,FL K++HL N,σ.H⟩⟩):Go P fn zA Γ r H1 ⟨k,σ⟩:=by
 intro Hx a w hS;obtain⟨jM,Gj,φ,M,hF,hW,hφ⟩:=hS;have hWF:Wd ⟨w,fun _=>False,pK M φ (hl σ.H),[]⟩ (fun _=>none) (pK M φ (hl σ.H)) (hl []) w:=
  ⟨fun id ob e=>by simp [hl] at e,fun i j oi oj b Ci Cj e=>by simp [hl] at e,fun b hb=>by
   rcases hb with hb|⟨id,ob,C,h1,h2⟩
   ·exact hW.mlt b hb
   ·exact(hW.own id ob b C h1 h2).2.1,fun _ h=>h,fun _ h=>.inl h,fun id ob b C e=>by simp [hl]at e,fun _ _ _=>rfl,rfl,rfl,rfl,Nat.le_refl _,fun p hp=>(by cases hp),
   fun b cs ht=>⟨.inl (hW.Xs b cs ht).1,fun h=>h,(hW.Xs b cs ht).2⟩⟩
 have hvk:∀t,AR w (pK M φ (hl σ.H)) (fun _=>none) (look (Ch (fun t=>a.tmps.getD t undef) K) t) (a.tmps.getD t undef):=fun t=>by
  have h2:=Ov (fun t=>a.tmps.getD t undef) K [] t
  rw[List.append_nil,List.append_nil]at h2;rcases h2 with⟨e,e1,e2,e3,_⟩|⟨e1,_⟩
  ·rw[e3];obtain⟨h3,ob,h4,h5⟩:=hK e e1;rw[e2]at h3;have h6:=hF t;rw[h3]at h6;exact⟨rfl,Sq hW (fun _ _ h=>h) h4 h5 h6⟩
  ·rw[e1];trivial
 refine RF (fun t=>a.tmps.getD t undef) _ (RR P fn Γ r H1) rfl (fun a' w' Gh=>?_) a w ⟨jM,Gj,fun _=>none,pK M φ (hl σ.H),hvk,hWF,fun _ _=>rfl⟩
 obtain⟨X7,zM,φ',M',hF',mw,PV⟩:=Gh;have hb:Below w.heap.size w w':=⟨mw.os,mw.tape,mw.output,mw.size,fun b hb=>mw.Ce b hb fun h=>h⟩
 refine hg Hx a' w' ⟨X7,zM,φ,M,fun t=>?_,hW.grow hb,hφ⟩
 have hF2:=hF' t;rcases Ov (fun t=>a.tmps.getD t undef) K (HL N) t with⟨e,e1,e2,e3,e4⟩|⟨e1,e2⟩
 ·show AR w' M φ (look (FL K++HL N) t) _;rw[e4];have YI:AR w' M' φ' (look (Ch (fun t=>a.tmps.getD t undef) K++HL N) t) (a'.tmps.getD t undef):=hF2
  rw[e3]at YI;rw[YI.1];have h6:=hF t;obtain⟨h3,_⟩:=hK e e1;rw[e2]at h3;rw[h3]at h6;exact AR.mono (hW.I5 hb) h6
 ·show AR w' M φ (look (FL K++HL N) t) _;have YI:AR w' M' φ' (look (Ch (fun t=>a.tmps.getD t undef) K++HL N) t) (a'.tmps.getD t undef):=hF2
  rw[e1]at YI;rw[e2];rcases Us N t with⟨e,h1,h2,h3⟩|h1
  ·rw[h3]at YI ⊢;exact AR.plain (c:=.cm e.2) (hN e h1) YI
  ·rw[h1];trivial
end
end
end Go.Proofs.YtbilkblifgaflaaGreatDoor
