/- Part MC. -/
import Derived.Test.YtkcilfpbgjjjbaaGreatDoorMB
import Derived.Test.YtkcilfpbgjjjbaaGreatDoorMA
import Derived.Test.YtkcilfpbgjjjbaaGreatDoorML
import Derived.Deep.Slices
import Derived.ChangeArms
import Derived.OpenShut
import Derived.WideShapes
set_option linter.unusedSimpArgs false
set_option linter.unusedVariables false
set_option linter.unusedSectionVars false
namespace Go.Proofs.YtkcilfpbgjjjbaaGreatDoor
section
open Go.RowKit
section
variable {P : Program} {Γ : bu} {φ φ2 : Pl} {M : Nat → Prop} {w : World} {a : Act} {m : Nat → Option Nat}
theorem IT:∀{l:List Nat} {k id j:Nat},posOf l k id=some j→k≤j∧l[j-k]?=some id
 | [],_,_,_,h=>by cases h
 |x ::r,k,id,j,h=>by
  simp only[posOf]at h;cases hx:(x == id)with
  |true =>
   rw[hx]at h;cases h;have:x=id:=by simpa using hx
   subst this;exact⟨Nat.le_refl _,by simp⟩
  |false =>
   rw[hx]at h;obtain⟨h1,h2⟩:=IT (l:=r) (k:=k+1) h;refine⟨by omega,?_⟩
   rw[show j-k=(j-(k+1))+1 by omega];simpa using h2
theorem ZK(hm:∀id k p,m id=some k→φ id=some p→φ2 k=some p){l:Lf}{v:Value}(h:uK w M φ l v):uK w M φ2 (Rm m l) v:=by
 cases l with
 |op id sz row off =>
  obtain⟨b,C,h1,h2⟩:=h;simp only[Rm];cases hh:m id with
  |none=>subst h2;exact IR.any _ rfl
  |some k=>exact⟨b,C,hm id k _ hh h1,h2⟩
 |os id sz off len =>
  simp only[Rm];cases hh:m id with
  |none =>
   rcases h with⟨b,C,h1,h2,h3⟩|⟨h1,h2,h3,x,h4⟩
   ·subst h2;exact IR.any _ rfl
   ·subst h4;exact IR.any _ rfl
  |some k =>
   rcases h with⟨b,C,h1,h2⟩|⟨h1,h2⟩
   ·exact .inl ⟨b,C,hm id k _ hh h1,h2⟩
   ·exact .inr ⟨hm id k _ hh h1,h2⟩
 |fn f gP=>cases(h:IR w M (.fn f gP) v);exact IR.any _ rfl
 |mp id =>
  obtain⟨b,h1,h2⟩:=h;simp only[Rm];cases hh:m id with
  |none=>subst h2;exact IR.any _ rfl
  |some k=>exact⟨b,hm id k _ hh h1,h2⟩
 |bs id n sz =>
  obtain⟨b,h1,h2⟩:=h;simp only[Rm];cases hh:m id with
  |none=>subst h2;exact IR.any _ rfl
  |some k=>exact⟨b,hm id k _ hh h1,h2⟩
 |_=>exact h
theorem QaC:∀{l:Lf},TC (Rm m l)=false:=by
 intro l;cases l <;> simp only[Rm] <;>(try split) <;> rfl
theorem T7(hm:∀id k p,m id=some k→φ id=some p→φ2 k=some p){l:Lf}{v:Value}(h:LR w M φ l v):LR w M φ2 (Qa2 m l) v:=by
 rcases LR.split h with⟨h1,h2⟩|⟨f,gP,vs,rfl,rfl,h3⟩
 ·have:Qa2 m l=Rm m l:=by cases l <;> first|rfl|cases h1
  rw[this,M8 QaC];exact ZK hm h2
 ·exact⟨vs,rfl,Rs.yc (Rs.mono (fun _ _ h=>ZK hm h) h3)⟩
theorem KO(hm:∀id k p,m id=some k→φ id=some p→φ2 k=some p){c:Cm}{v:Value}(h:CR w M φ c v):CR w M φ2 (Ys m c) v:=by
 cases c with
 |one l=>exact T7 hm h
 |agg ls=>obtain⟨vs,h1,h2⟩:=h;exact⟨vs,h1,Rs.yc (Rs.mono (fun _ _ h=>T7 hm h) h2)⟩
theorem KN(hm:∀id k p,m id=some k→φ id=some p→φ2 k=some p){c:AV}{v:Value}(h:AR w M φ c v):AR w M φ2 (KM m c) v:=by
 cases c with
 |cm c=>exact KO hm h
 |jx cs=>obtain⟨vs,h1,h2⟩:=h;exact⟨vs,h1,Rs.yc (Rs.mono (fun _ _ h=>KO hm h) h2)⟩
 |gd p c=>exact⟨fun hp=>KO hm (h.1 hp),h.2⟩
 |Lz=>trivial
 |Xp=>exact h
 |vl u c=>exact⟨h.1,KO hm h.2⟩
theorem SA{ob:Ob}:(iC m ob).box=ob.box:=by
 unfold iC;cases hb:(ob.box&&!isMap ob)
 ·rfl
 ·rfl
theorem Qdg(hm:∀id k p,m id=some k→φ id=some p→φ2 k=some p){i j:Nat}{ob:Ob}(he:φ2 i=φ j)(hO:OC w M φ j ob):OC w M φ2 i (iC m ob):=by
 have j9:(iC m ob).sz=ob.sz:=by unfold iC;cases(ob.box&&!isMap ob) <;> rfl
 have Ql1:(iC m ob).Ey=ob.Ey:=by unfold iC;cases(ob.box&&!isMap ob) <;> rfl
 have Qcl:(iC m ob).box=ob.box:=SA;have hlen:(iC m ob).rows.length=ob.rows.length:=by unfold iC;cases(ob.box&&!isMap ob) <;> simp
 have hnm:=hO.Qgu;obtain⟨h0,h1⟩:=hO;refine⟨by rw[j9];exact h0,?_⟩
 rw[he]
 revert h1
 cases φ j with
 |none=>exact id
 |some p=>cases p with
  |none =>
   rintro⟨h2,h3⟩;refine⟨?_,by rw[Qcl];exact h3⟩
   unfold iC;rw[h3];exact h2
  |some q =>
   obtain⟨b,C⟩:=q;rintro⟨cur,g1,g2,g3,g4,g5,g6⟩;refine⟨cur,by rw[Ql1];exact g1,by rw[j9];exact g2,by rw[hlen];exact g3,g4,by rw[Qcl];exact g5,fun i c hc=>?_⟩
   rw[j9,Qcl];cases pc:ob.box with
   |false =>
    have e:iC m ob=ob:=by unfold iC;rw[pc];rfl
    rw[e]at hc;have:=g6 i c hc;rw[pc]at this;exact this
   |true =>
    have e:(iC m ob).rows=ob.rows.map fun c=>c.map (Qa2 m):=by unfold iC;rw[pc,hnm pc];rfl
    rw[e,List.getElem?_map]at hc;cases hc0:ob.rows[i]? with
    |none=>rw[hc0]at hc;cases hc
    |some c0 =>
     rw[hc0]at hc;cases hc;obtain⟨g7,g8⟩:=g6 i c0 hc0;refine⟨by rw[List.length_map];exact g7,fun j l hl=>?_⟩
     rw[List.getElem?_map]at hl;cases RX:c0[j]? with
     |none=>rw[RX]at hl;cases hl
     |some l0 =>
      rw[RX]at hl;cases hl;obtain⟨v,hv,hr⟩:=g8 j l0 RX;rw[pc,if_pos rfl]at hr;exact⟨v,hv,by rw[if_pos rfl];exact T7 hm hr⟩
theorem F7(hm:∀id k p,m id=some k→φ id=some p→φ2 k=some p){i j:Nat}{ob:Ob}(he:φ2 i=φ j)(hO:OR w M φ j ob):OR w M φ2 i (iC m ob):=by
 rcases hO with hO|⟨hb,rs,b,es,O_,h1,h2,h3,h4⟩
 ·exact .inl (Qdg hm he hO)
 ·have e:iC m ob=ob:=by unfold iC isMap;rw[h1];cases ob.box <;> rfl
  rw[e];exact .inr ⟨hb,rs,b,es,O_,h1,he.trans h2,h3,h4⟩
end
end
section
open Go.RowKit
section
variable {P : Program} {Γ : bu} {φ φ' : Pl} {M M' : Nat → Prop} {hD h : Nat → Option Ob} {w w' : World} {base : Nat} {L : Nat → AV} {a : Act} {g : Prop} {hs : List Hint} {r : Lv} {o : Oper}
theorem uK.free{l:Lf}{v:Value}(hf:Y5 l=true)(h:uK w M φ l v):uK w M φ' l v:=by
 cases l <;> first|exact h|cases hf
theorem LR.free{l:Lf}{v:Value}(hf:Qcc l=true)(h:LR w M φ l v):LR w M φ' l v:=by
 rcases h.split with⟨hn,h0⟩|⟨f,gP,vs,rfl,rfl,h2⟩
 ·rw[M8 hn];refine uK.free ?_ h0;cases l <;> first|exact hf|cases hn
 ·have hf':gP.all Y5=true:=hf;exact⟨vs,rfl,h2.imp_mem fun x hx y h=>uK.free (List.all_eq_true.1 hf' x hx) h⟩
theorem CR.free{c:Cm}{v:Value}(hf:Ke c=true)(h:CR w M φ c v):CR w M φ' c v:=by
 cases c with
 |one l=>exact LR.free hf h
 |agg ls =>
  obtain⟨vs,h1,h2⟩:=h;exact⟨vs,h1,h2.imp_mem fun x hx y h=>LR.free (List.all_eq_true.1 hf x hx) h⟩
theorem AR.free{c:AV}{v:Value}(hf:XC c=true)(h:AR w M φ c v):AR w M φ' c v:=by
 cases c with
 |cm c=>exact CR.free hf h
 |jx cs =>
  obtain⟨vs,h1,h2⟩:=h;exact⟨vs,h1,h2.imp_mem fun x hx y h=>CR.free (List.all_eq_true.1 hf x hx) h⟩
 |gd p c=>cases hf
 |Lz=>trivial
 |Xp=>exact h
 |vl u c=>cases hf
theorem LR.plain{l:Lf}{v:Value}(hf:Yk l = true)(h:LR w M φ l v):LR w' M' φ' l v:= by
  cases l <;> first
    |(cases hf;done)
    | (have h' : IR w M _ v := h
       cases h'
       first |exact IR.int _ _ |exact IR.bool _ |exact IR.str _ |exact IR.any _ (by assumption))
theorem CR.plain{c:Cm}{v:Value}(hf:Yj c=true)(h:CR w M φ c v):CR w' M' φ' c v:=by
 cases c with
 |one l=>exact LR.plain hf h
 |agg ls =>
  obtain⟨vs,h1,h2⟩:=h;exact⟨vs,h1,h2.imp_mem fun x hx y h=>LR.plain (List.all_eq_true.1 hf x hx) h⟩
theorem AR.plain{c:AV}{v:Value}(hf:T2 c=true)(h:AR w M φ c v):AR w' M' φ' c v:=by
 cases c with
 |cm c=>exact CR.plain hf h
 |jx cs =>
  obtain⟨vs,h1,h2⟩:=h;exact⟨vs,h1,h2.imp_mem fun x hx y h=>CR.plain (List.all_eq_true.1 hf x hx) h⟩
 |gd p c=>cases hf
 |Lz=>cases hf
 |Xp=>cases hf
 |vl u c=>cases hf
def yv(M:Nat→Prop)(φ:Pl)(hD:Nat→Option Ob):Nat→Prop:=fun b=>M b∨∃id ob C,hD id=some ob∧φ id=some (some (b,C))
theorem yv.sub:∀b,M b→yv M φ hD b:=fun _ h=>.inl h
theorem QaK(hW:Wd Γ φ M hD w)(eD:∀id ob,h id=some ob→hD id=some ob){l l':Lf}{v:Value}{ob:List Prop}(hl:X5 h l=some (l',ob))(ho:c6 ob)(hv:LR w M φ l v):IR w (yv M φ hD) l' v:=by
 have NN:∀{l:Lf},IR w M l v→IR w (yv M φ hD) l v:=fun h=>h.mono (fun _ _=>rfl) yv.sub
 cases l with
 |os id sz off len =>
  simp only[X5]at hl;split at hl
  ·rename_i o1 Pw;cases hc:(off == 0&&!o1.box&&o1.sz == sz)with
   |false=>rw[hc]at hl;cases hl
   |true =>
    rw[hc]at hl;cases hl;simp only[Bool.and_eq_true,beq_iff_eq,Bool.not_eq_true']at hc;obtain⟨⟨rfl,pc⟩,j9⟩:=hc;obtain⟨hlen,-⟩:=ho;have hO:=hW.fl id o1 (eD id o1 Pw);rcases(hv:uK w M φ (.os id sz 0 len) v)with⟨b,C,hφ,rfl,hle⟩|⟨hφ,_,rfl,A,rfl⟩
    ·obtain⟨h0,h1⟩:=hO.oc (.inl pc);rw[hφ]at h1;obtain⟨cur,g1,g2,g3,g4,g5,g6⟩:=h1;have pd:∀(i:Nat) (c:List Lf) (j:Nat) (l:Lf),o1.rows[i]?=some c→c[j]?=some l→w.cell? ⟨b,0*sz+i*sz+j,none⟩=some ((cur[i*sz+j]?).getD undef)∧IR w (yv M φ hD) l ((cur[i*sz+j]?).getD undef):=fun i c j l hc hj=>by
      obtain⟨u,hu,hr⟩:=(g6 i c hc).2 j l hj;rw[pc]at hr;rw[j9]at hu;refine⟨?_,by rw[hu];exact IR.mono (fun _ _=>rfl) yv.sub (by simpa using hr)⟩
      simp only[World.cell?,g1,Nat.zero_mul,Nat.zero_add];simp [hu]
     have key:IR w (yv M φ hD) (.sl false sz o1.rows) (.slice (some ⟨b,0*sz,none⟩) o1.rows.length (C-0)):=
      IR.sl false sz o1.rows b (0*sz) (C-0) (fun i j=>(cur[i*sz+j]?).getD undef) (.inr ⟨id,o1,C,eD id o1 Pw,hφ⟩) (by omega) (fun h=>by cases h) (fun i c hc=>by rw[(g6 i c hc).1,j9]) (fun i c j l hc hj=>(pd i c j l hc hj).1) (fun i c j l hc hj=>(pd i c j l hc hj).2)
     rw[hlen]at key;exact key
    ·have xo:o1.rows=[]:=List.eq_nil_of_length_eq_zero hlen;rw[xo];exact(IR.OJ false sz A 0 fun h=>by cases h)
  ·cases hl
 |op id sz row off=>cases hl
 |fn f gP=>cases hl
 |mp id=>cases hl
 |bs id n sz=>cases hl
 |any=>cases hl;exact NN hv
 |int k n=>cases hl;exact NN hv
 |bool b=>cases hl;exact NN hv
 |str s=>cases hl;exact NN hv
 |Mt=>cases hl;exact NN hv
 |cB=>cases hl;exact NN hv
 |ip c off=>cases hl;exact NN hv
 |sl cl sz rows=>cases hl;exact NN hv
theorem PK(hW:Wd Γ φ M hD w)(eD:∀id ob,h id=some ob→hD id=some ob):∀{ls X7:List Lf} {ob:List Prop},G3 h ls=some (X7,ob)→c6 ob→X7.length=ls.length∧∀(j:Nat) (l':Lf),X7[j]?=some l'→∃l,ls[j]?=some l∧∀v,LR w M φ l v→IR w (yv M φ hD) l' v
 | [],_,_,hl,_=>by cases hl;exact⟨rfl,fun j l' hj=>by simp at hj⟩
 |l ::ls,X7,ob,hl,ho=>by
  simp only[G3]at hl;split at hl
  ·rename_i x o1 xs o2 h1 h2;cases hl;rw[bm]at ho;obtain⟨g1,g2⟩:=PK hW eD h2 ho.2;refine⟨by simp [g1],fun j l' hj=>?_⟩
   cases j with
   |zero=>simp at hj;subst hj;exact⟨l,rfl,fun v hv=>QaK hW eD h1 ho.1 hv⟩
   |succ j=>exact g2 j l' (by simpa using hj)
  ·cases hl
theorem VJ(hW:Wd Γ φ M hD w)(eD:∀id ob,h id=some ob→hD id=some ob){l l':Lf}{v:Value}{ob:List Prop}(hl:Nr h l=some (l',ob))(ho:c6 ob)(hv:LR w M φ l v):LR w (yv M φ hD) φ' l' v:=by
 have NN:∀{l:Lf},IR w M l v→LR w (yv M φ hD) φ' l v:=fun h=>IR.lr (h.mono (fun _ _=>rfl) yv.sub)
 cases l with
 |os id sz off len =>
  simp only[Nr]at hl;split at hl
  ·rename_i o1 Pw;cases hc:(off == 0&&!o1.box&&o1.sz == sz)with
   |false =>
    rw[hc]at hl;simp only[cond_false]at hl;cases Ay:(off == 0&&o1.box&&o1.sz == sz)with
    |false=>rw[Ay]at hl;cases hl
    |true =>
     rw[Ay]at hl;simp only[cond_true]at hl;simp only[Bool.and_eq_true,beq_iff_eq]at Ay;obtain⟨⟨rfl,pc⟩,j9⟩:=Ay;unfold TK at hl;split at hl
     ·rename_i cells iL;cases Jy:G3 h cells with
      |none=>rw[Jy]at hl;cases hl
      |some p =>
       obtain⟨c',o2⟩:=p;rw[Jy]at hl;cases hl;obtain⟨hlen,ho2⟩:=ho;have hO:=hW.fl id o1 (eD id o1 Pw);obtain⟨bb,hbb⟩:=hO.boxed pc;obtain⟨g1,g2⟩:=PK hW eD Jy ho2;rcases(hv:uK w M φ (.os id sz 0 len) v)with⟨b,C,hφ,rfl,hle⟩|⟨hφ,_⟩
       ·rw[hbb]at hφ;cases hφ;obtain⟨h0,h1⟩:=hO.oc (.inr ⟨_,iL⟩);rw[hbb]at h1;obtain⟨cur,k1,k2,k3,k4,k5,k6⟩:=h1;have k7:=k6 0 cells (by rw[iL];rfl)
        have pd:∀(j:Nat) (l':Lf),c'[j]?=some l'→∃u,w.cell? ⟨bb,0*sz+0*sz+j,none⟩=some u∧IR w (yv M φ hD) l' u:=fun j l' hj=>by
         obtain⟨l,hl1,Zf⟩:=g2 j l' hj;obtain⟨u,hu,hr⟩:=k7.2 j l hl1;rw[pc,if_pos rfl]at hr;refine⟨u,?_,Zf u hr⟩;rw[Nat.zero_mul,Nat.zero_add]at hu;simp only[World.cell?,k1,Nat.zero_mul,Nat.zero_add];simpa using hu
        have key:IR w (yv M φ hD) (.sl false sz [c']) (.slice (some ⟨bb,0*sz,none⟩) ([c']:List (List Lf)).length (1-0)):=by
         refine IR.sl false sz [c'] bb (0*sz) (1-0) (fun i j=>(w.cell? ⟨bb,0*sz+i*sz+j,none⟩).getD undef) (.inr ⟨id,o1,1,eD id o1 Pw,hbb⟩) (by simp) (fun h=>by cases h) (fun i c hc=>?_) (fun i c j l hc hj=>?_) (fun i c j l hc hj=>?_)
         ·cases i with
          |zero=>simp at hc;subst hc;rw[g1,k7.1,j9]
          |succ i=>simp at hc
         ·cases i with
          |zero =>
           simp at hc;subst hc;obtain⟨u,hu,hr⟩:=pd j l hj;rw[hu];rfl
          |succ i=>simp at hc
         ·cases i with
          |zero =>
           simp at hc;subst hc;obtain⟨u,hu,hr⟩:=pd j l hj;rw[hu];exact hr
          |succ i=>simp at hc
        rw[←hlen];exact IR.lr key
       ·rw[hbb]at hφ;cases hφ
     ·cases hl
   |true =>
    rw[hc]at hl;cases hl;simp only[Bool.and_eq_true,beq_iff_eq,Bool.not_eq_true']at hc;obtain⟨⟨rfl,pc⟩,j9⟩:=hc;obtain⟨hlen,-⟩:=ho;have hO:=hW.fl id o1 (eD id o1 Pw);rcases(hv:uK w M φ (.os id sz 0 len) v)with⟨b,C,hφ,rfl,hle⟩|⟨hφ,_,rfl,A,rfl⟩
    ·obtain⟨h0,h1⟩:=hO.oc (.inl pc);rw[hφ]at h1;obtain⟨cur,g1,g2,g3,g4,g5,g6⟩:=h1;have pd:∀(i:Nat) (c:List Lf) (j:Nat) (l:Lf),o1.rows[i]?=some c→c[j]?=some l→w.cell? ⟨b,0*sz+i*sz+j,none⟩=some ((cur[i*sz+j]?).getD undef)∧IR w (yv M φ hD) l ((cur[i*sz+j]?).getD undef):=fun i c j l hc hj=>by
      obtain⟨u,hu,hr⟩:=(g6 i c hc).2 j l hj;rw[pc]at hr;rw[j9]at hu;refine⟨?_,by rw[hu];exact IR.mono (fun _ _=>rfl) yv.sub (by simpa using hr)⟩
      simp only[World.cell?,g1,Nat.zero_mul,Nat.zero_add];simp [hu]
     have key:IR w (yv M φ hD) (.sl false sz o1.rows) (.slice (some ⟨b,0*sz,none⟩) o1.rows.length (C-0)):=
      IR.sl false sz o1.rows b (0*sz) (C-0) (fun i j=>(cur[i*sz+j]?).getD undef) (.inr ⟨id,o1,C,eD id o1 Pw,hφ⟩) (by omega) (fun h=>by cases h) (fun i c hc=>by rw[(g6 i c hc).1,j9]) (fun i c j l hc hj=>(pd i c j l hc hj).1) (fun i c j l hc hj=>(pd i c j l hc hj).2)
     rw[hlen]at key;exact IR.lr key
    ·have xo:o1.rows=[]:=List.eq_nil_of_length_eq_zero hlen;rw[xo];exact IR.lr (IR.OJ false sz A 0 fun h=>by cases h)
  ·cases hl
 |op id sz row off =>
  simp only[Nr]at hl;split at hl
  ·rename_i o1 Pw;cases hc:(o1.box&&row == 0)with
   |false=>rw[hc]at hl;cases hl
   |true =>
    rw[hc]at hl;simp only[cond_true]at hl;simp only[Bool.and_eq_true,beq_iff_eq]at hc;obtain⟨pc,rfl⟩:=hc;split at hl
    ·rename_i cells iL;cases hi:cells.all Ma with
     |false=>rw[hi]at hl;cases hl
     |true =>
      rw[hi]at hl;cases hl;have hO:=hW.fl id o1 (eD id o1 Pw);obtain⟨b,C,hφ,rfl⟩:=(hv:uK w M φ (.op id sz 0 off) v);have pd:∀(j:Nat) (l:Lf),cells[j]?=some l→∃u,w.cell? ⟨b,0+j,none⟩=some u∧IR w M l u:=fun j l hj=>by
       obtain⟨u,hu,hr⟩:=hO.RI (i:=0) (.inr ⟨_,iL⟩) hφ (by rw[iL];rfl) j l hj
       exact⟨u,by rw[Nat.zero_mul]at hu;exact hu,LR.NN (List.all_eq_true.1 hi l (List.mem_of_getElem? hj)) hr⟩
      have key:IR w (yv M φ hD) (.ip cells off) (.pointer (some ⟨b,0+off,none⟩)):=by
       refine IR.ip cells off b 0 (fun i=>(w.cell? ⟨b,0+i,none⟩).getD undef) (.inr ⟨id,o1,C,eD id o1 Pw,hφ⟩) (fun i l hl=>?_) (fun i l hl=>?_)
       ·obtain⟨u,hu,hr⟩:=pd i l hl;simp only[hu,Option.getD_some]
       ·obtain⟨u,hu,hr⟩:=pd i l hl;simp only[hu,Option.getD_some];exact hr.mono (fun _ _=>rfl) yv.sub
      rw[show 0*sz+off=0+off by rw[Nat.zero_mul]]
      exact IR.lr key
    ·cases hl
  ·cases hl
 |fn f gP=>cases hl
 |mp id=>cases hl
 |bs id n sz=>cases hl
 |any=>cases hl;exact NN hv
 |int k n=>cases hl;exact NN hv
 |bool b=>cases hl;exact NN hv
 |str s=>cases hl;exact NN hv
 |Mt=>cases hl;exact NN hv
 |cB=>cases hl;exact NN hv
 |ip c off=>cases hl;exact NN hv
 |sl cl sz rows=>cases hl;exact NN hv
theorem QcY{l l':Lf}{ob:List Prop}(hl:Nr h l=some (l',ob)):TC l=false∧TC l'=false:=by
 have kS:∀{c:Bool} {x:Option (Lf×List Prop)},(bif c then x else none)=some (l',ob)→x=some (l',ob):=by
  intro c x hc;cases c
  ·cases hc
  ·exact hc
 cases l with
 |os id sz off len =>
  simp only[Nr]at hl;split at hl
  ·rename_i o1 Pw;cases hc:(off == 0&&!o1.box&&o1.sz == sz)with
   |true=>rw[hc]at hl;cases hl;exact⟨rfl,rfl⟩
   |false =>
    rw[hc]at hl;have h1:=kS hl;unfold TK at h1;split at h1
    ·rename_i cells iL;cases Jy:G3 h cells with
     |none=>rw[Jy]at h1;cases h1
     |some p=>rw[Jy]at h1;cases h1;exact⟨rfl,rfl⟩
    ·cases h1
  ·cases hl
 |op id sz row off =>
  simp only[Nr]at hl;split at hl
  ·have h1:=kS hl;split at h1
   ·cases kS h1;exact⟨rfl,rfl⟩
   ·cases h1
  ·cases hl
 |fn f gP=>cases hl
 |mp id=>cases hl
 |bs id n sz=>cases hl
 |_=>cases hl;exact⟨rfl,rfl⟩
theorem R8(hW:Wd Γ φ M hD w)(eD:∀id ob,h id=some ob→hD id=some ob):∀{ls X7:List Lf} {vs:List Value} {ob:List Prop},PL h ls=some (X7,ob)→c6 ob→Rs (uK w M φ) ls vs→Rs (uK w (yv M φ hD) φ') X7 vs
 | [],_,[],_,hl,_,_=>by cases hl;trivial
 |l ::ls,X7,v ::vs,ob,hl,ho,hr=>by
  simp only[PL]at hl;split at hl
  ·rename_i x o1 xs o2 h1 h2;cases hl;rw[bm]at ho;obtain⟨n1,n2⟩:=QcY h1;refine⟨?_,R8 hW eD h2 ho.2 hr.2⟩;rw[←M8 n2];exact VJ hW eD h1 ho.1 (by rw[M8 n1];exact hr.1)
  ·cases hl
 | [],_,_ ::_,_,_,_,h=>h.elim
 |_ ::_,_,[],_,_,_,h=>h.elim
theorem VK(hW:Wd Γ φ M hD w)(eD:∀id ob,h id=some ob→hD id=some ob){l l':Lf}{v:Value}{ob:List Prop}(hl:R_ h l=some (l',ob))(ho:c6 ob)(hv:LR w M φ l v):LR w (yv M φ hD) φ' l' v:=by
 cases l with
 |fn f gP =>
  simp only[R_]at hl;cases h1:PL h gP with
  |none=>rw[h1]at hl;cases hl
  |some p =>
   obtain⟨x,o1⟩:=p;rw[h1]at hl;cases hl;obtain⟨vs,e,hr⟩:=hv;exact⟨vs,e,R8 hW eD h1 ho hr⟩
 |_=>exact VJ hW eD (by simpa only[R_]using hl) ho hv
theorem Sa(hW:Wd Γ φ M hD w)(eD:∀id ob,h id=some ob→hD id=some ob):∀{ls X7:List Lf} {vs:List Value} {ob:List Prop},PM h ls=some (X7,ob)→c6 ob→Rs (LR w M φ) ls vs→Rs (LR w (yv M φ hD) φ') X7 vs
 | [],_,[],_,hl,_,_=>by cases hl;trivial
 |l ::ls,X7,v ::vs,ob,hl,ho,hr=>by
  simp only[PM]at hl;split at hl
  ·rename_i x o1 xs o2 h1 h2;cases hl;rw[bm]at ho;exact⟨VK hW eD h1 ho.1 hr.1,Sa hW eD h2 ho.2 hr.2⟩
  ·cases hl
 | [],_,_ ::_,_,_,_,h=>h.elim
 |_ ::_,_,[],_,_,_,h=>h.elim
theorem QcZ(hW:Wd Γ φ M hD w)(eD:∀id ob,h id=some ob→hD id=some ob){c c':Cm}{v:Value}{ob:List Prop}(hl:Zw h c=some (c',ob))(ho:c6 ob)(hv:CR w M φ c v):CR w (yv M φ hD) φ' c' v:=by
 cases c with
 |one l =>
  simp only[Zw]at hl;cases h1:R_ h l with
  |none=>rw[h1]at hl;cases hl
  |some p=>obtain⟨x,o1⟩:=p;rw[h1]at hl;cases hl;exact VK hW eD h1 ho hv
 |agg ls =>
  simp only[Zw]at hl;cases h1:PM h ls with
  |none=>rw[h1]at hl;cases hl
  |some p =>
   obtain⟨x,o1⟩:=p;rw[h1]at hl;cases hl;obtain⟨vs,e,hr⟩:=hv;exact⟨vs,e,Sa hW eD h1 ho hr⟩
theorem R9(hW:Wd Γ φ M hD w)(eD:∀id ob,h id=some ob→hD id=some ob):∀{cs QR:List Cm} {vs:List Value} {ob:List Prop},TL h cs=some (QR,ob)→c6 ob→Rs (CR w M φ) cs vs→Rs (CR w (yv M φ hD) φ') QR vs
 | [],_,[],_,hl,_,_=>by cases hl;trivial
 |l ::ls,X7,v ::vs,ob,hl,ho,hr=>by
  simp only[TL]at hl;split at hl
  ·rename_i x o1 xs o2 h1 h2;cases hl;rw[bm]at ho;exact⟨QcZ hW eD h1 ho.1 hr.1,R9 hW eD h2 ho.2 hr.2⟩
  ·cases hl
 | [],_,_ ::_,_,_,_,h=>h.elim
 |_ ::_,_,[],_,_,_,h=>h.elim
theorem KU{c:Call}{f:Operand}{k:FuncId}{gP:List Value}(ho:o.op=.call c)(hc:c.callee=.value f)(hf:a.eval f=.func (.func k) #[] gP.toArray)(hk:Ij P k=true):
  (execOp a.eval o).run P w=.ok (.enter k (c.args.toList.map a.eval++gP).toArray) w:=by
 unfold Ij at hk;split at hk
 ·rename_i fn hfn;simp only[Bool.and_eq_true,Bool.not_eq_true']at hk;have hb:¬fn.body=none:=fun e=>by rw[e]at hk;cases hk.2
  have rR:¬fn.name="runtime.NumGoroutine":=by simpa using hk.1
  have he:c.args.map a.eval++gP.toArray=(c.args.toList.map a.eval++gP).toArray:=by apply Array.ext';simp
  simp [execOp,ho,resolve,hc,hf,Deferred.ofValue,invoke,callFunc,hfn,rR,hb,he]
 ·cases hk
theorem Wd.Qgt(hW:Wd Γ φ M hD w)(eD:∀b,M b→M' b)(Ki:∀b,M' b→M b∨(Γ.w0.heap.size≤b∧b<w.heap.size∧∀id ob C,hD id=some ob→φ id≠some (some (b,C)))):Wd Γ φ M' hD w:=by
 have he:Ex w M φ w M' φ:=⟨fun _ _=>rfl,eD,fun _ _ h=>h⟩
 refine⟨fun id ob e=>(hW.fl id ob e).mono he fun _ _ _=>rfl,hW.inj,fun b hb=>?_,fun b hb=>eD b (hW.m0 b hb),fun b hb=>?_,fun id ob b C e p=>⟨fun hb=>?_,(hW.own id ob b C e p).2⟩,hW.FI,hW.os,hW.tape,hW.output,hW.size,hW.EV,hW.tbw⟩
 ·rcases Ki b hb with h|h
  ·exact hW.mlt b h
  ·exact h.2.1
 ·rcases Ki b hb with h|h
  ·exact hW.ID b h
  ·exact .inr (.inr h.1)
 ·rcases Ki b hb with h|h
  ·exact(hW.own id ob b C e p).1 h
  ·exact h.2.2 id ob C e p
theorem ZZ(hM:∀b,M b→b<w.heap.size)(ht:∀b cs,(b,cs)∈Rv→M b∧b<w.heap.size∧∃t s,w.heap[b]?=some (.cells cs t s)):Wd ⟨w,fun b=>∃id C,id<([]:List Ob).length∧(fun _=>none:Pl) id=some (some (b,C)),M,wv (fun _=>none) 0 []⟩ (fun _=>none) M (fun id=>([]:List Ob)[id]?) w:=
 ⟨fun id ob e=>by simp at e,fun i j oi oj b Ci Cj hi=>by simp at hi,hM,fun _ h=>h,fun _ h=>.inl h,fun id ob b C e=>by simp at e,fun _ _ _=>rfl,rfl,rfl,rfl,Nat.le_refl _,fun p hp=>by simp [wv]at hp,fun b cs h=>⟨(ht b cs h).1,fun⟨id,C,hc,_⟩=>by simp at hc,(ht b cs h).2⟩⟩
theorem Ff{c:Call}(ho:o.op=.call c)(hf:O7 P h L c hs=some r)(cR:c6 r.fl)(hF:∀t,AR w M φ (L t) (a.tmps.getD t undef))(hW:Wd Γ φ M hD w)(eD:∀id ob,h id=some ob→hD id=some ob){K:Act→World→Prop}
  (hK:∀v w' M',AR w' M' φ r.v v→Wd Γ φ M' hD w'→Ex w M φ w' M' φ→K (a.put o.dst v) w'):r.news=[]∧o.wp P a w K NQ:=by
 unfold O7 at hf;split at hf
 ·rename_i f hcf;split at hf
  ·rename_i k gP yM o1 r0 fc h1 h2;have hfv:AR w M φ (wP L f) (a.eval f):=E6 hF f;rw[h1]at hfv;obtain⟨cvs,hcv,XO⟩:LR w M φ (.fn (.func k) gP) (a.eval f):=hfv;have RU:Rs (CR w M φ) (gP.map Cm.one) cvs:=by
    refine Rs.yc (XO.imp_mem fun x hx y h=>?_)
    exact uK.lr h
   -- Qu Qi9 own say
   have go:∀{RD:List Cm} {M0:Nat→Prop} {r1:AV},dv P k RD [] r1 []→(∀b,M0 b→b<w.heap.size)→(∀b,M b→M0 b)→Rs (CR w M0 (fun _=>none)) RD (c.args.toList.map a.eval++cvs)→
     (∀v w' M',Below w.heap.size w w'→AR w' M' (fun _=>none) r1 v→(∀b,M0 b→M' b)→(∀b,M' b→M0 b∨(w.heap.size≤b∧b<w'.heap.size))→K (a.put o.dst v) w')→o.wp P a w K NQ:=by
    intro RD M0 r1 hA hM hMM yR hk;unfold Oper.wp;rw[KU ho hcf hcv hA.1];show Calls P k _ w _;refine(hA.2 w (fun _=>none) M0 _ (ZZ hM fun b cs h=>⟨hMM b (hW.tab b cs h).1,(hW.tab b cs h).2⟩) (fun _ _=>rfl) yR).mono ?_
    rintro e w' ⟨v,φ',M',rfl,hr,qq,Zo⟩;have hφn:φ'=fun _=>none:=funext fun id=>Zo id (Nat.zero_le _)
    subst hφn;have EA:Below w.heap.size w w':=⟨qq.os,qq.tape,qq.output,qq.size,fun b hb=>qq.FI b hb fun⟨id,C,h,_⟩=>by simp at h⟩
    refine hk v w' M' EA hr qq.m0 fun b hb=>?_
    rcases qq.ID b hb with h|⟨id,C,h,_⟩|h
    ·exact .inl h
    ·simp at h
    ·exact .inr ⟨h,qq.mlt b hb⟩
   cases Ps:(yM++gP.map Cm.one).all Ke with
   |true =>
    rw[Ps]at hf;simp only[cond_true]at hf;cases tg:XC r0 with
    |false=>rw[tg]at hf;cases hf
    |true =>
     rw[tg]at hf;cases hf;simp only[bm,c6]at cR;refine⟨rfl,go cR.2.1 (fun b hb=>hW.mlt b hb) (fun _ h=>h) ?_ ?_⟩
     ·exact((tz hF trivial h2 cR.1).append RU).imp_mem fun x hx y h=>CR.free (List.all_eq_true.1 Ps x hx) h
     ·intro v w' M' EA hr Ty Zm;refine hK v w' M' (AR.free tg hr) ((hW.grow EA).Qgt Ty fun b hb=>?_) ⟨fun b hb=>EA.block b (hW.mlt b hb),Ty,fun _ _ h=>h⟩
      rcases Zm b hb with h|h
      ·exact .inl h
      ·exact .inr ⟨Nat.le_trans hW.size h.1,h.2,fun id ob C e p=>by have:=(hW.own id ob b C e p).2.1;omega⟩
   |false =>
    rw[Ps]at hf;simp only[cond_false]at hf;split at hf
    ·rename_i RD o2 h3;cases Di:T2 r0 with
     |false=>rw[Di]at hf;cases hf
     |true =>
      rw[Di]at hf;cases hf;simp only[bm,c6]at cR;refine⟨rfl,go (M0:=yv M φ hD) cR.2.1 ?_ (fun _ h=>.inl h) (R9 hW eD h3 cR.1.2 ((tz hF trivial h2 cR.1.1).append RU)) ?_⟩
      ·rintro b (h|⟨id,ob,C,e,p⟩)
       ·exact hW.mlt b h
       ·exact(hW.own id ob b C e p).2.1
      ·intro v w' M' EA hr Ty Zm;exact hK v w' M (AR.plain Di hr) (hW.grow EA) (hW.Oi EA)
    ·cases hf
  ·cases hf
 ·cases hf
theorem Ig:∀{out:List (Option Ob)} {fl:List Ob},RC out=some fl→out=fl.map some
 | [],_,h=>by cases h;rfl
 |some o ::r,fl,h=>by
  simp only[RC]at h;cases hr:RC r with
  |none=>rw[hr]at h;cases h
  |some os=>rw[hr]at h;cases h;rw[Ig hr];rfl
 |none ::_,_,h=>by cases h
theorem QM{c:Call}(ho:o.op=.call c)(hf:S4 P base L c hs=some r)(cR:c6 r.fl)(hF:∀t,AR w M φ (L t) (a.tmps.getD t undef))(hW:Wd Γ φ M hD w)
  (tg:∀id,base≤id→id<base+r.news.length→φ id=none∧hD id=none) {K:Act→World→Prop}
  (hK:∀v w' φ' M',AR w' M' φ' r.v v→Wd Γ φ' M' (Sv hD base r.news) w'→Ex w M φ w' M' φ'→(∀id,φ' id≠none→φ id≠none∨(base≤id∧id<base+r.news.length))→K (a.put o.dst v) w'):o.wp P a w K NQ:=by
 unfold S4 at hf;split at hf
 ·rename_i f hcf;split at hf
  ·rename_i k gP yM o1 r0 out fc h1 h2;split at hf
   ·rename_i fl Qmu;cases hc:((yM++gP.map Cm.one).all Ke&&fl.all (fun o=>!o.box))with
    |false=>rw[hc]at hf;cases hf
    |true =>
     rw[hc]at hf;cases hf;rw[Bool.and_eq_true]at hc;obtain⟨Ps,Qcl⟩:=hc;have Iy:=Ig Qmu;subst Iy;simp only[bm,c6]at cR;have hfv:AR w M φ (wP L f) (a.eval f):=E6 hF f;rw[h1]at hfv;obtain⟨cvs,hcv,XO⟩:LR w M φ (.fn (.func k) gP) (a.eval f):=hfv;have RU:Rs (CR w M φ) (gP.map Cm.one) cvs:=by
      refine Rs.yc (XO.imp_mem fun x hx y h=>?_)
      exact uK.lr h
     have yR:Rs (CR w M (fun _=>none)) (yM++gP.map Cm.one) (c.args.toList.map a.eval++cvs):=((tz hF trivial h2 cR.1).append RU).imp_mem fun x hx y h=>CR.free (List.all_eq_true.1 Ps x hx) h
     unfold Oper.wp;rw[KU ho hcf hcv cR.2.1.1];show Calls P k _ w _;refine(cR.2.1.2 w (fun _=>none) M _ (ZZ hW.mlt hW.tab) (fun _ _=>rfl) yR).mono ?_
     rintro e w' ⟨v,φ',M',rfl,hr,qq,Zo⟩;rw[List.length_map]at Zo;have hhl:∀i,hl (fl.map some) i=fl[i]?:=fun i=>by unfold hl;rw[List.getElem?_map];cases fl[i]? <;> rfl
     have EA:Below w.heap.size w w':=⟨qq.os,qq.tape,qq.output,qq.size,fun b hb=>qq.FI b hb fun⟨id,C,h,_⟩=>by simp at h⟩
     have Ty:∀b,M b→M' b:=qq.m0;have Zm:∀b,M' b→M b∨w.heap.size≤b:=fun b hb=>by
      rcases qq.ID b hb with h|⟨id,C,h,_⟩|h
      ·exact .inl h
      ·simp at h
      ·exact .inr h
     have Vr:Wd Γ φ M' hD w':=(hW.grow EA).Qgt Ty fun b hb=>by
      rcases Zm b hb with h|h
      ·exact .inl h
      ·exact .inr ⟨Nat.le_trans hW.size h,qq.mlt b hb,fun id ob C e p=>by have:=(hW.own id ob b C e p).2.1;omega⟩
     have Px:∀i ob b C,fl[i]?=some ob→φ' i=some (some (b,C))→¬M' b∧b<w'.heap.size∧w.heap.size≤b:=fun i ob b C h p=>by
      obtain⟨g1,g2,g3⟩:=qq.own i ob b C ((hhl i).trans h) p;refine⟨g1,g2,?_⟩;rcases g3 with⟨id,C,h,_⟩|h
      ·simp at h
      ·exact h
     let φ2:Pl:=fun i=>if base≤i∧i<base+fl.length then φ' (i-base)else φ i
     have pq:∀i,base≤i→i<base+fl.length→φ2 i=φ' (i-base):=fun i h1 h2=>if_pos ⟨h1,h2⟩
     have Iy:∀i,¬(base≤i∧i<base+fl.length)→φ2 i=φ i:=fun i h=>if_neg h
     have Di:∀i p,φ i=some p→φ2 i=some p:=fun i p h=>by
      by_cases hi:base≤i∧i<base+fl.length
      ·rw[(tg i hi.1 hi.2).1]at h;cases h
      ·rw[Iy i hi];exact h
     have hm:∀id k p,(some (base+id):Option Nat)=some k→φ' id=some p→φ2 k=some p:=fun id k p h hp=>by
      cases h;have jU:id<fl.length:=by
       rcases Nat.lt_or_ge id fl.length with h|h
       ·exact h
       ·rw[Zo id h]at hp;cases hp
      rw[pq _ (by omega) (by omega),show base+id-base=id by omega];exact hp
     have he:Ex w' M' φ w' M' φ2:=⟨fun _ _=>rfl,fun _ h=>h,Di⟩
     refine hK v w' φ2 M' (KN hm hr) ?_ ⟨fun b hb=>EA.block b (hW.mlt b hb),Ty,Di⟩ fun i hi=>?_
     ·have QeP:∀{i ob},Sv hD base fl i=some ob→(base≤i∧i<base+fl.length∧fl[i-base]?=some ob)∨(¬(base≤i∧i<base+fl.length)∧hD i=some ob):=fun{i ob} h=>by
       unfold Sv at h;split at h
       ·rename_i hi;exact .inl ⟨hi.1,hi.2,h⟩
       ·rename_i hi;exact .inr ⟨hi,h⟩
      refine⟨fun i ob h=>?_,fun i j oi oj b Ci Cj h1 h2 h3 h4=>?_,qq.mlt,fun b hb=>Ty b (hW.m0 b hb),fun b hb=>?_,fun i ob b C h1 h2=>?_,Vr.FI,Vr.os,Vr.tape,Vr.output,Vr.size,fun p hp=>Di _ _ (hW.EV p hp),hW.tbw⟩
      ·rcases QeP h with⟨g1,g2,g3⟩|⟨g1,g2⟩
       ·have hb:ob.box=false:=by simpa using List.all_eq_true.1 Qcl ob (List.mem_of_getElem? g3)
        have:=F7 (m:=fun j=>some (base+j)) (φ2:=φ2) (i:=i) (j:=i-base) hm (pq i g1 g2) (qq.fl (i-base) ob ((hhl _).trans g3))
        have e:iC (fun j=>some (base+j)) ob=ob:=by unfold iC;rw[hb];rfl
        rw[e]at this;exact this
       ·exact(Vr.fl i ob g2).mono he fun _ _ _=>rfl
      ·rcases QeP h1 with⟨g1,g2,g3⟩|⟨g1,g2⟩ <;> rcases QeP h2 with⟨k1,k2,k3⟩|⟨k1,k2⟩
       ·rw[pq i g1 g2]at h3;rw[pq j k1 k2]at h4;have:=qq.inj (i-base) (j-base) oi oj b Ci Cj ((hhl _).trans g3) ((hhl _).trans k3) h3 h4;omega
       ·rw[pq i g1 g2]at h3;rw[Iy j k1]at h4;have:=(Px _ _ _ _ g3 h3).2.2;have:=(hW.own _ _ _ _ k2 h4).2.1;omega
       ·rw[Iy i g1]at h3;rw[pq j k1 k2]at h4;have:=(Px _ _ _ _ k3 h4).2.2;have:=(hW.own _ _ _ _ g2 h3).2.1;omega
       ·rw[Iy i g1]at h3;rw[Iy j k1]at h4;exact Vr.inj i j oi oj b Ci Cj g2 k2 h3 h4
      ·rcases Zm b hb with h|h
       ·exact hW.ID b h
       ·exact .inr (.inr (Nat.le_trans hW.size h))
      ·rcases QeP h1 with⟨g1,g2,g3⟩|⟨g1,g2⟩
       ·rw[pq i g1 g2]at h2;obtain⟨k1,k2,k3⟩:=Px _ _ _ _ g3 h2;exact⟨k1,k2,.inr (Nat.le_trans hW.size k3)⟩
       ·rw[Iy i g1]at h2;exact Vr.own i ob b C g2 h2
     ·by_cases h:base≤i∧i<base+fl.length
      ·exact .inr h
      ·rw[Iy i h]at hi;exact .inl hi
   ·cases hf
  ·cases hf
 ·cases hf
theorem LK(hf:dop P h base L o.op hs=some r)(cR:c6 r.fl)(hF:∀t,AR w M φ (L t) (a.tmps.getD t undef))(hW:Wd Γ φ M hD w)(eD:∀id ob,h id=some ob→hD id=some ob)
  (tg:∀id,base≤id→id<base+r.news.length→φ id=none∧hD id=none) {K:Act→World→Prop}
  (hK:∀v w' φ' M',AR w' M' φ' r.v v→Wd Γ φ' M' (Sv hD base r.news) w'→Ex w M φ w' M' φ'→(∀id,φ' id≠none→φ id≠none∨(base≤id∧id<base+r.news.length))→K (a.put o.dst v) w'):o.wp P a w K NQ:=by
 unfold dop at hf;split at hf
 ·rename_i r0 h1;cases hf;obtain⟨v,w',φ',c8,hr,qq,hp,hn,hb⟩:=GY h1 cR trivial hF hW eD tg;unfold Oper.wp;rw[c8];exact hK v w' φ' M hr qq ⟨hb,fun _ h=>h,hp⟩ hn
 ·split at hf
  ·rename_i c hc;split at hf
   ·rename_i r1 hf1;cases hf;obtain⟨hn,-⟩:=Ff (K:=fun _ _=>True) hc hf1 cR hF hW eD (fun _ _ _ _ _ _=>trivial)
    refine(Ff hc hf1 cR hF hW eD fun v w' M' hr qq he=>?_).2
    exact hK v w' φ M' hr (by rw[hn,rN];exact qq) he fun _ h=>.inl h
   ·exact QM hc hf cR hF hW tg hK
  ·cases hf
end
end
section
open Go.RowKit
section
variable {P : Program} {Γ : bu} {φ φ' : Pl} {M M' : Nat → Prop} {h : Nat → Option Ob} {w w' : World} {a : Act} {hs : List Hint} {o : Oper} {H : List (Option Ob)} {L : List (Nat × AV)}
theorem pb{α:Type}{l vs:List α}{p:Nat}(hp:p+vs.length≤l.length)(k:Nat):(l.take p++vs++l.drop (p+vs.length))[k]?=if k<p then l[k]? else if k<p+vs.length then vs[k-p]? else l[k]?:=by
 by_cases h1:k<p
 ·rw[if_pos h1,List.append_assoc,List.getElem?_append_left (by simp;omega),List.getElem?_take,if_pos h1]
 ·rw[if_neg h1];by_cases h2:k<p+vs.length
  ·rw[if_pos h2,List.getElem?_append_left (by simp;omega),List.getElem?_append_right (by simp;omega)]
   congr 1;simp;omega
  ·rw[if_neg h2,List.getElem?_append_right (by simp;omega),List.getElem?_drop]
   congr 1;simp;omega
theorem zl{id:Nat}{x:Option Ob}{i:Nat}(rR:i≠id):hl (H.set id x) i=hl H i:=by
 unfold hl;rw[List.getElem?_set_ne (Ne.symm rR)]
theorem ly{id:Nat}{ob:Ob}(e:hl H id=some ob):id<H.length:=by
 unfold hl at e;rcases Nat.lt_or_ge id H.length with h|h
 ·exact h
 ·rw[List.getElem?_eq_none h]at e;cases e
theorem uv{id:Nat}{x:Option Ob}(jU:id<H.length):hl (H.set id x) id=x:=by
 unfold hl;rw[List.getElem?_set_self jU];rfl
theorem Tu{id:Nat}{ob:Ob}(jU:id<H.length):hl (H.set id (some ob))=fun i=>if i=id then some ob else hl H i:=by
 funext i
 by_cases hi:i=id
 ·subst hi;rw[if_pos rfl,uv jU]
 ·rw[if_neg hi,zl hi]
theorem Tw{x:Option Ob}:hl (H++[x])=fun i=>if i=H.length then x else hl H i:=by
 funext i
 unfold hl;by_cases hi:i=H.length
 ·subst hi;rw[if_pos rfl,List.getElem?_append_right (Nat.le_refl _)];simp
 ·rw[if_neg hi];rcases Nat.lt_or_ge i H.length with h|h
  ·rw[List.getElem?_append_left h]
  ·rw[List.getElem?_eq_none (by simp;omega),List.getElem?_eq_none h]
theorem Wd.write(hW:Wd Γ φ M h w){id:Nat}{ob ye:Ob}{b C:Nat}{cur new:Array Value}(hh:h id=some ob)(hφ:φ id=some (some (b,C)))(Kh:w.heap[b]?=some (.cells cur ob.Ey (0,0)))(hO:OR (w.setRow b new) M φ id ye):
  Wd Γ φ M (fun i=>if i=id then some ye else h i) (w.setRow b new)∧Ex w M φ (w.setRow b new) M φ:=by
 obtain⟨hm,jU,Px⟩:=hW.own id ob b C hh hφ;exact⟨hW.QfC hh hφ (fun k hk=>setRow_other w b k new hk) (by simp) rfl rfl rfl hO,fun c hc=>setRow_other w b c new fun e=>hm (e▸hc),fun _ h=>h,fun _ _ h=>h⟩
theorem Wd.move(hW:Wd Γ φ M h w){id WX:Nat}{ob:Ob}{p:Option (Nat×Nat)}(hh:h id=some ob)(hφ:φ id=some p)(Zo:φ WX=none)(hh':h WX=none):Wd Γ (GI φ WX p) M (fun i=>if i=WX then some ob else if i=id then none else h i) w:=by
 have rR:id≠WX:=fun e=>by subst e;rw[hh]at hh';cases hh'
 have he:Ex w M φ w M (GI φ WX p):=⟨fun _ _=>rfl,fun _ h=>h,sA _ Zo⟩
 have key:∀i o,(fun i=>if i=WX then some ob else if i=id then none else h i) i=some o→(i=WX∧o=ob)∨(i≠WX∧i≠id∧h i=some o):=fun i o e=>by
  by_cases h1:i=WX
  ·simp only[if_pos h1]at e;exact .inl ⟨h1,(Option.some.inj e).symm⟩
  ·simp only[if_neg h1]at e;by_cases h2:i=id
   ·rw[if_pos h2]at e;cases e
   ·rw[if_neg h2]at e;exact .inr ⟨h1,h2,e⟩
 refine⟨fun i o e=>?_,fun i j oi oj b Ci Cj hi hj pi pj=>?_,hW.mlt,hW.m0,hW.ID,fun i o b C e q=>?_,hW.FI,hW.os,hW.tape,hW.output,hW.size,fun q hq=>he.pl _ _ (hW.EV q hq),hW.tbw⟩
 ·rcases key i o e with⟨rfl,rfl⟩|⟨h1,h2,h3⟩
  ·refine((hW.fl id o hh).mono he fun _ _ _=>rfl).ren ?_
   rw[dP,qO _ rR,hφ]
  ·exact(hW.fl i o h3).mono he fun _ _ _=>rfl
 ·rcases key i oi hi with⟨rfl,rfl⟩|⟨h1,h2,h3⟩ <;> rcases key j oj hj with⟨rfl,rfl⟩|⟨g1,g2,g3⟩
  ·rfl
  ·rw[dP]at pi;rw[qO _ g1]at pj;cases pi;exact absurd (hW.inj id j _ oj b Ci Cj hh g3 hφ pj).symm g2
  ·rw[dP]at pj;rw[qO _ h1]at pi;cases pj;exact absurd (hW.inj i id oi _ b Ci Cj h3 hh pi hφ) h2
  ·rw[qO _ h1]at pi;rw[qO _ g1]at pj;exact hW.inj i j oi oj b Ci Cj h3 g3 pi pj
 ·rcases key i o e with⟨rfl,rfl⟩|⟨h1,h2,h3⟩
  ·rw[dP]at q;cases q;exact hW.own id o b C hh hφ
  ·rw[qO _ h1]at q;exact hW.own i o b C h3 q
def Md(Γ:bu)(φ:Pl)(M:Nat→Prop)(w:World)(r:Mes)(v:Value)(w':World):Prop:=
 ∃φ',AR w' M φ' r.v v∧Wd Γ φ' M (hl r.H) w'∧Ex w M φ w' M φ'∧(∀id,r.H.length≤id→φ' id=none)
theorem wD{t:TypeId}{n b p:Nat}{e:TypeId}{v:Value}{cur:Array Value}(ht:Ar P t=some n)(hn:v.cells.size=n)(hg:w.heap[b]?=some (.cells cur e (0,0)))(L9:p+n≤cur.size)(h1:∀u∈v.cells.toList,u.oneCell'=true):
  (storeVar t ⟨b,p,none⟩ v).run P w=.ok () (w.setRow b (cur.toList.take p++v.cells.toList++cur.toList.drop (p+v.cells.toList.length)).toArray):=by
 obtain⟨i,hi,j9⟩:=nM ht;have kK:=run_storeCells_at P b p e v.cells.toList 0 cur w hg (by rw[Array.length_toList,hn];omega) h1
 simp only[Nat.add_zero]at kK;simp only[storeVar,Sem.run_bind,run_sizeOf hi,Result.andThen_ok,hn,j9];rw[if_neg (by simp)]
 exact kK
theorem Wv{r:Mes}(hW:Wd Γ φ M (hl H) w)(hF: ∀t,AR w M φ (look L t) (a.tmps.getD t undef))(hφ: ∀id,H.length≤id→φ id = none){t:TypeId}{x y:Operand}(ho:o.op = .store t x y)(hf:mop P H (look L) o.op hs = some r)(cR:c6 r.fl):
    ∃w',(execOp a.eval o).run P w = .ok .skip w'∧Md Γ φ M w r undef w':= by
  rw[ho]at hf;simp only[mop]at hf;split at hf
  · rename_i id sz row off o1 c o2 n h1 h2 ht;split at hf
    · rename_i ob hid;cases hc:(ob.sz == sz && n == c.cells.length)with
      |false => rw[hc]at hf;cases hf
      | true =>
        rw[hc]at hf;simp only[cond_true]at hf;simp only[Bool.and_eq_true,beq_iff_eq]at hc;obtain⟨j9,hn⟩:= hc;have jU:= ly hid;have hO:= hW.fl id ob hid
        -- Qu S5 part, for QdD Qu new rows are
        have go:(ob.box = false∨∃c,ob.rows = [c])→c6 o1→c6 o2→∀R:List (List Lf),(∀{b C:Nat} {cur:Array Value} {w':World},φ id = some (some (b,C))→w.heap[b]? = some (.cells cur ob.Ey (0,0))→cur.size = C * ob.sz→ob.rows.length≤C→
              (∀i c,ob.rows[i]? = some c→c.length = ob.sz∧∀j l,c[j]? = some l→∃v,cur[i * ob.sz + j]? = some v∧(if ob.box then LR w M φ l v else IR w M l v))→Rs (LR w M φ) c.cells (a.eval y).cells.toList→Ex w M φ w' M φ→
              row * sz + off + n≤cur.size∧R.length≤C∧∀(i:Nat) (d:List Lf),R[i]? = some d→d.length = ob.sz∧∀(j:Nat) (l:Lf),d[j]? = some l→∃v,(cur.toList.take (row * sz + off) ++(a.eval y).cells.toList ++ cur.toList.drop (row * sz + off +(a.eval y).cells.toList.length))[i * ob.sz + j]? = some v∧(if ob.box then LR w' M φ l v else IR w' M l v))→
            ∃w',(execOp a.eval o).run P w = .ok .skip w'∧∃φ',Wd Γ φ' M (hl (H.set id (some {ob with rows:= R}))) w'∧Ex w M φ w' M φ'∧(∀id,H.length≤id→φ' id = none):= by
          intro hoc p1 p2 R key;obtain⟨b,C,C9,hv⟩:uK w M φ (.op id sz row off) (a.eval x):= b7 hF h1 p1 trivial;have hy:=(b7 hF h2 p2 trivial).cells;obtain⟨h0,On⟩:= hO.oc hoc;rw[C9]at On;obtain⟨cur,g1,g2,g3,g4,g5,g6⟩:= On;obtain⟨hm,Qjl,Px⟩:= hW.own id ob b C hid C9;have Ee:(a.eval y).cells.size = n:= by rw[←Array.length_toList,←hy.len,hn]
          have hex: ∀new,Ex w M φ (w.setRow b new) M φ:= fun new =>⟨fun c hc => setRow_other w b c new fun e => hm (e▸hc),fun _ h => h,fun _ _ h => h⟩
          obtain⟨L9,hRC,L5⟩:= key C9 g1 g2 g3 g6 hy (hex (cur.toList.take (row * sz + off) ++(a.eval y).cells.toList ++ cur.toList.drop (row * sz + off +(a.eval y).cells.toList.length)).toArray);have c8:= wD (P:= P) ht Ee g1 L9 (Rs.Mi hy);refine⟨w.setRow b (cur.toList.take (row * sz + off) ++(a.eval y).cells.toList ++ cur.toList.drop (row * sz + off +(a.eval y).cells.toList.length)).toArray,by simp only[execOp,ho,hv,Instr.storeAt,Instr.sureAddr,Sem.run_bind,Sem.run_pure,Result.andThen_ok,c8],φ, ?_⟩
          have hO2:OR (w.setRow b (cur.toList.take (row * sz + off) ++(a.eval y).cells.toList ++ cur.toList.drop (row * sz + off +(a.eval y).cells.toList.length)).toArray) M φ id {ob with rows:= R}:= by
            refine .inl ⟨h0, ?_⟩;rw[C9];refine⟨_,setRow_heap w b cur _ ob.Ey (0,0) g1, ?_,hRC,g4,g5,fun i c hc =>⟨(L5 i c hc).1,fun j l hj => ?_⟩⟩
            · rw[←g2];simp;omega
            · obtain⟨v,hv,hr⟩:=(L5 i c hc).2 j l hj;exact⟨v,by rw[List.getElem?_toArray];exact hv,hr⟩
          obtain⟨q1,q2⟩:= hW.write hid C9 g1 hO2;rw[Tu jU];exact⟨q1,q2,hφ⟩
        split at hf
        · rename_i pc iL;rename_i cells;cases Ay:(row == 0 && Nat.ble (off + n) cells.length)with
          |false => rw[Ay]at hf;cases hf
          | true =>
            rw[Ay]at hf;cases hf;simp only[Bool.and_eq_true,beq_iff_eq,Nat.ble_eq]at Ay;obtain⟨rfl,L9⟩:= Ay;simp only[bm]at cR;obtain⟨w',c8,φ',q1,q2,q3⟩:= go (.inr ⟨_,iL⟩) cR.1 cR.2 [cells.take off ++ c.cells ++ cells.drop (off + n)] (fun{b C cur w'} C9 g1 g2 g3 g6 hy hex => by
              have Ee:cells.length = ob.sz:=(g6 0 cells (by rw[iL];rfl)).1
              have hC:1≤C:= by rw[iL]at g3;simpa using g3
              have hle:ob.sz≤cur.size:= by rw[g2];exact Nat.le_mul_of_pos_left _ hC
              have hvl:= hy.len;have XM:cur.toList.length = cur.size:= Array.length_toList;refine⟨by rw[Nat.zero_mul];omega,by simpa using hC,fun i d hd => ?_⟩
              cases i with
              |succ i => simp at hd
              | zero =>
                obtain rfl:= Option.some.inj (show some _ = some d from hd);refine⟨by simp;omega,fun j l hj => ?_⟩
                have h3:= pb (l:= cells) (vs:= c.cells) (p:= off) (by omega) j
                rw[hn]at hj;rw[h3]at hj;rw[Nat.zero_mul,Nat.zero_add,Nat.zero_mul,Nat.zero_add,pb (by omega)]
                have Mv: ∀l,cells[j]? = some l→∃v,cur.toList[j]? = some v∧(if ob.box = true then LR w' M φ l v else IR w' M l v):= fun l hl => by
                  obtain⟨v,hv,hr⟩:=(g6 0 cells (by rw[iL];rfl)).2 j l hl
                  rw[Nat.zero_mul,Nat.zero_add]at hv;rw[if_pos pc]at hr;exact⟨v,by simpa using hv,by rw[if_pos pc];exact hr.mono hex⟩
                by_cases j1:j < off
                · rw[if_pos j1]at hj ⊢;exact Mv l hj
                · rw[if_neg j1]at hj ⊢;by_cases j2:j < off + c.cells.length
                  · rw[if_pos j2]at hj;rw[if_pos (by omega)]
                    obtain⟨v,hv,hr⟩:= hy.get hj;exact⟨v,hv,by rw[if_pos pc];exact hr.mono hex⟩
                  · rw[if_neg j2]at hj;rw[if_neg (by omega)]
                    exact Mv l hj)
            exact⟨w',c8,φ',trivial,q1,q2,fun id hid => q3 id (by simpa using hid)⟩
        · rename_i Mv R fc pc;cases Ay:(Nat.ble (off + n) Mv.length && c.cells.all Ma)with
          |false => rw[Ay]at hf;cases hf
          | true =>
            rw[Ay]at hf;cases hf;simp only[Bool.and_eq_true,Nat.ble_eq]at Ay;obtain⟨L9,XQ⟩:= Ay;simp only[bm,c6]at cR;obtain⟨⟨p1,p2⟩,pM,hR, -⟩:= cR;obtain⟨w',c8,φ',q1,q2,q3⟩:= go (.inl pc) p1 p2 R (fun{b C cur w'} C9 g1 g2 g3 g6 hy hex => by
              have Tx:Mv.length = ob.sz:=(g6 row Mv pM).1;have QhK:=(List.getElem?_eq_some_iff.1 pM).1;have hle:(row + 1) * ob.sz≤cur.size:= by rw[g2];exact Nat.mul_le_mul_right _ (by omega)
              rw[Nat.add_mul,Nat.one_mul]at hle;have hvl:= hy.len;have XM:cur.toList.length = cur.size:= Array.length_toList;subst j9;refine⟨by omega,by rw[←hR];simpa using g3,fun i d hd => ?_⟩
              have TW: ∀i (d:List Lf) j l,ob.rows[i]? = some d→d[j]? = some l→∃v,cur.toList[i * ob.sz + j]? = some v∧(if ob.box = true then LR w' M φ l v else IR w' M l v):= fun i d j l hd hl => by
                obtain⟨v,hv,hr⟩:=(g6 i d hd).2 j l hl;rw[pc]at hr;exact⟨v,by simpa using hv,by rw[pc];exact IR.mono hex.WL hex.sub (by simpa using hr)⟩
              by_cases hi:i = row
              · subst hi;rw[←hR,List.getElem?_set_self QhK]at hd;obtain rfl:= Option.some.inj hd;refine⟨by simp;omega,fun j l hj => ?_⟩
                rw[hn,pb (by omega)]at hj
                rw[pb (by omega)]
                by_cases j1:j < off
                · rw[if_pos j1]at hj;rw[if_pos (by omega)];exact TW i Mv j l pM hj
                · rw[if_neg j1]at hj;rw[if_neg (by omega)]
                  by_cases j2:j < off + c.cells.length
                  · rw[if_pos j2]at hj;rw[if_pos (by omega)]
                    obtain⟨v,hv,hr⟩:= hy.get hj;refine⟨v,by rw[show i * ob.sz + j - (i * ob.sz + off) = j - off by omega];exact hv, ?_⟩
                    rw[pc];exact IR.mono hex.WL hex.sub (LR.NN (List.all_eq_true.1 XQ l (List.mem_of_getElem? hj)) hr)
                  · rw[if_neg j2]at hj;rw[if_neg (by omega)];exact TW i Mv j l pM hj
              · rw[←hR,List.getElem?_set_ne (Ne.symm hi)]at hd;have hdl:=(g6 i d hd).1;refine⟨hdl,fun j l hj => ?_⟩
                have hjl:=(List.getElem?_eq_some_iff.1 hj).1;rw[pb (by omega)]
                rcases Nat.lt_or_ge i row with h5 |h5
                · have:(i + 1) * ob.sz≤row * ob.sz:= Nat.mul_le_mul_right _ h5;rw[Nat.add_mul,Nat.one_mul]at this;rw[if_pos (by omega)];exact TW i d j l hd hj
                · have:(row + 1) * ob.sz≤i * ob.sz:= Nat.mul_le_mul_right _ (by omega)
                  rw[Nat.add_mul,Nat.one_mul]at this;rw[if_neg (by omega),if_neg (by omega)];exact TW i d j l hd hj)
            exact⟨w',c8,φ',trivial,q1,q2,fun id hid => q3 id (by simpa using hid)⟩
        · cases hf
    · cases hf
  · cases hf
end
end
section
open Go.RowKit
section
variable {P : Program} {Γ : bu} {φ φ' : Pl} {M M' : Nat → Prop} {h : Nat → Option Ob} {w w' : World} {a : Act} {hs : List Hint} {o : Oper} {H : List (Option Ob)} {L : List (Nat × AV)}
theorem HB{t tx ty e:TypeId}{i:TypeInfo}{b n C k:Nat}{cur:Array Value}{x:Value}{news:List Value}(ht:P.underlying t=some (.slice e))(hi:P.info? e=some i)(hs:Src P i.size tx x k news w)(Zk:n+k≤C)
  (hg:w.heap[b]?=some (.cells cur e (0,0))) (L9:n*i.size+news.length≤cur.size):
  (Builtin.append_ #[t,tx] ty #[.slice (some ⟨b,0,none⟩) n C,x]).run P w=.ok (.slice (some ⟨b,0,none⟩) (n+k) C) (w.setRow b (cur.toList.take (n*i.size)++news++cur.toList.drop (n*i.size+news.length)).toArray):=by
 have kK:=run_storeCells_at P b (n*i.size) e news 0 cur w hg (by simpa using L9) hs.one
 simp only[Nat.add_zero]at kK;rcases hs.kind with⟨e',hk⟩|hk <;> simp [Builtin.append_,run_underlying ht,run_underlying hk,sizeOf,typeInfo,hi,hs.len,Zk,hs.cells,Addr.add_lit,kK]
def Wo(Γ:bu)(φ:Pl)(M:Nat→Prop)(hD:Nat→Option Ob)(base:Nat)(w:World)(r:Wr)(v:Value)(w':World):Prop:=
 ∃φ' M',AR w' M' φ' r.v v∧Wd Γ φ' M' (Sv (MY hD r.yu) base r.news) w'∧Ex w M φ w' M' φ'∧(∀id,φ' id≠none→φ id≠none∨(base≤id∧id<base+r.news.length))
theorem Qdz{id i:Nat}{p:Option (Nat×Nat)}(h:GI φ id p i≠none):φ i≠none∨i=id:=by
 by_cases hi:i=id
 ·exact .inr hi
 ·rw[qO _ hi]at h;exact .inl h
theorem P0{hD:Nat→Option Ob}{id base:Nat}{ob:Ob}:Sv (MY hD [(id,none)]) base [ob]=fun i=>if i=base then some ob else if i=id then none else hD i:=by
 rw[T3]
 funext i
 by_cases h:i=base
 ·rw[if_pos h,if_pos h]
 ·rw[if_neg h,if_neg h];unfold MY;simp only[qS];by_cases h2:i=id
  ·subst h2;simp
  ·have:(id == i)=false:=by simpa using fun e:id=i=>h2 e.symm
   rw[if_neg h2,this];rfl
theorem VZ{id:Nat}{ob:Ob}{b C:Nat}{cur:Array Value}(pc:ob.box=false)(Kh:w.heap[b]?=some (.cells cur ob.Ey (0,0)))
  (g6:∀i c,ob.rows[i]?=some c→c.length=ob.sz∧∀j l,c[j]?=some l→∃v,cur[i*ob.sz+j]?=some v∧(if ob.box then LR w M φ l v else IR w M l v)):
  ∃o5,Rs (IR w M) ob.rows.flatten o5∧w.rangeAt b 0 o5∧o5.length=ob.rows.length*ob.sz:=by
 obtain⟨o5,h1,h2⟩:=sr (w:=w) (R:=IR w M) (b:=b) (sz:=ob.sz) ob.rows 0 (fun i c hc=>(g6 i c hc).1) fun i c j l hc hj=>by
  obtain⟨v,hv,hr⟩:=(g6 i c hc).2 j l hj;rw[pc]at hr;exact⟨v,by simp only[World.cell?,Kh,Nat.zero_add];simpa using hv,by simpa using hr⟩
 exact⟨o5,h1,h2,by rw[←h1.len,qp (mem_row fun i c hc=>(g6 i c hc).1)]⟩
theorem Rw{hD:Nat→Option Ob}{L:Nat→AV}{base:Nat}{r:Wr}(hW:Wd Γ φ M hD w)(eD:∀id ob,h id=some ob→hD id=some ob)(hF:∀t,AR w M φ (L t) (a.tmps.getD t undef))(tg:∀id,base≤id→id<base+r.news.length→φ id=none∧hD id=none){c:Call}(ho:o.op=.call c)(hc:c.callee=.builtin .append)(hf:OO P h base L c hs=some r)(cR:c6 r.fl):
  ∃v w',(execOp a.eval o).run P w=.ok (.value v) w'∧Wo Γ φ M hD base w r v w':=by
 unfold OO at hf;split at hf
 ·rename_i id sz off len x o1 t t' R fc yR QcD;split at hf
  ·rename_i e ob W6 new o2 he hid hro;split at hf
   ·rename_i i z hi hz;generalize hcc:(t == t'&&off == 0&&sz == i.size&&ob.sz == sz&&!ob.box&&ob.Ey == e&&(W6 == sz||new.isEmpty)&&!Ud id x)=cc at hf;cases cc with
    |false=>cases hf
    |true =>
     cases hf;simp only[Bool.and_eq_true,beq_iff_eq,Bool.or_eq_true,Bool.not_eq_true',List.isEmpty_iff]at hcc;obtain⟨⟨⟨⟨⟨⟨⟨rfl,rfl⟩,rfl⟩,j9⟩,pc⟩,rfl⟩,Ki⟩,QmV⟩:=hcc;simp only[bm,c6]at cR;obtain⟨⟨p1,p2⟩,hlen,hR,XK,Vp,-⟩:=cR;have ht:=ir he;obtain⟨i2,zv,hi2,VA,PA,h0,Jz,hzl⟩:=sD (w:=w) (M:=M) (φ:=φ) hz;obtain rfl:i=i2:=by rw[hi]at hi2;exact Option.some.inj hi2
     have hA:=tz hF trivial yR p1;obtain⟨vd,vx,hvs,hd,hx⟩:=hA.RE;obtain⟨cn,c8⟩:=Ga (P:=P) (w:=w) (a:=a) ho hc;have XI:c.args.map a.eval=#[vd,vx]:=by apply Array.ext';simp [←hvs]
     have QcE:c.argTypes=#[t,t]:=by apply Array.ext';simp [QcD]
     rw[XI,QcE]at c8;have FF:∀v w',(Builtin.append_ #[t,t] o.type #[vd,vx]).run P w=.ok v w'→(execOp a.eval o).run P w=.ok (.value v) w':=fun v w' hh=>by
      rw[c8];simp only[builtin,Sem.run_bind,hh];rfl
     obtain⟨news,EC,hnr,hnl⟩:=MH (size:=i.size) hW eD ht hro p2 Ki (hx:LR w M φ x vx) (fun _ _ _ _ _ _ _ _ _ _ _ _ _ h=>h)
     replace hid:=eD _ _ hid;have hO:=hW.fl id ob hid;have NI:R.length=len+new.length:=by rw[←hR,List.length_append,hlen]
     obtain⟨QZ,hh'⟩:=tg base (Nat.le_refl _) (by simp)
     have rR:id≠base:=fun e=>by rw[e,hh']at hid;cases hid
     have FE:∀(p:Option (Nat×Nat)) (k:Nat),GI φ base p k≠none→φ k≠none∨(base≤k∧k<base+1):=fun p k hk=>by
      rcases Qdz hk with h|rfl
      ·exact .inl h
      ·exact .inr ⟨Nat.le_refl _,by omega⟩
     rcases(hd:uK w M φ (.os id i.size 0 len) vd)with⟨b,C,C9,rfl,hle⟩|⟨C9,_,rfl,A,rfl⟩
     ·obtain⟨XU,On⟩:=hO.oc (.inl pc);rw[C9]at On;obtain⟨cur,g1,g2,g3,g4,g5,g6⟩:=On;obtain⟨o5,q1,q2,q3⟩:=VZ (id:=id) (C:=C) pc g1 g6;have Ux:∀(i:Nat) (c:List Lf),ob.rows[i]?=some c→c.length=ob.sz:=fun i c hc=>(g6 i c hc).1
      rw[Nat.zero_mul,Nat.sub_zero]at FF;have hRr:∀(j:Nat) (c:List Lf),R[j]?=some c→c.length=i.size:=fun j c hj=>by
       rw[←hR]at hj;rcases Nat.lt_or_ge j ob.rows.length with h|h
       ·rw[List.getElem?_append_left h]at hj;rw[←j9];exact Ux j c hj
       ·rw[List.getElem?_append_right h]at hj;exact hnl _ c hj
      by_cases Zk:len+new.length≤C
      ·have L9:len*i.size+news.length≤cur.size:=by rw[EC.newsLen,g2,j9,←Nat.add_mul];exact Nat.mul_le_mul_right _ Zk
       have NK:=HB (P:=P) (ty:=o.type) ht hi EC Zk g1 L9;have hex:Ex w M φ (w.setRow b (cur.toList.take (len*i.size)++news++cur.toList.drop (len*i.size+news.length)).toArray) M φ:=by
        obtain⟨hm,_,_⟩:=hW.own id ob b C hid C9;exact⟨fun c hc=>setRow_other w b c _ fun e=>hm (e▸hc),fun _ h=>h,fun _ _ h=>h⟩
       have QcC:cur.toList.take (len*i.size)=o5:=by
        apply List.ext_getElem?;intro k;rw[List.getElem?_take];have Tx:o5.length=len*i.size:=by rw[q3,hlen,j9]
        by_cases hk:k<len*i.size
        ·rw[if_pos hk];have:=q2 k _ (List.getElem?_eq_getElem (show k<o5.length by omega))
         simp only[World.cell?,g1,Nat.zero_add]at this;rw[List.getElem?_eq_getElem (show k<o5.length by omega)]
         simpa using this
        ·rw[if_neg hk,List.getElem?_eq_none (by omega)]
       have hO2:OR (w.setRow b (cur.toList.take (len*i.size)++news++cur.toList.drop (len*i.size+news.length)).toArray) M φ id ⟨false,i.size,ob.Ey,R⟩:=by
        refine Xc (vs:=o5++news) (rest:=cur.toList.drop (len*i.size+news.length)) C9 ?_ h0 ?_ (by omega) g4 hRr ?_
        ·rw[QcC] ;exact setRow_heap w b cur _ ob.Ey (0,0) g1
        ·have h1:o5.length=len*i.size:=by rw[q3,hlen,j9]
         have h2:cur.size=C*i.size:=by rw[g2,j9]
         simp;omega
        ·rw[←hR,List.flatten_append];exact(q1.append hnr).mono fun _ _ h=>h.mono hex.WL hex.sub
       obtain⟨w1,w2⟩:=hW.write hid C9 g1 hO2;have hmv:=w1.move (id:=id) (WX:=base) (ob:=⟨false,i.size,ob.Ey,R⟩) (p:=some (b,C)) (if_pos rfl) C9 QZ (by rw[if_neg (Ne.symm rR)];exact hh')
       refine⟨_,_,FF _ _ NK,GI φ base (some (b,C)),M,?_,?_,⟨w2.WL,w2.sub,sA _ QZ⟩,FE _⟩
       ·exact .inl ⟨b,C,dP _ _ _,by rw[NI];simp,by omega⟩
       ·refine hmv.less fun k ye hk=>?_
        rw[P0]at hk;dsimp only at hk ⊢;by_cases h1:k=base
        ·rw[if_pos h1]at hk ⊢;exact hk
        ·rw[if_neg h1]at hk ⊢;by_cases h2:k=id
         ·rw[if_pos h2]at hk;cases hk
         ·rw[if_neg h2]at hk;rw[if_neg h2];simpa only[if_neg h2]using hk
      ·have hold:(Builtin.firstCells i.size len (.slice (some ⟨b,0,none⟩) len C)).run P w.drew=.ok o5.toArray w.drew:=
        run_firstCells_some w.drew i.size len ⟨b,0,none⟩ len C o5 (by rw[q3,hlen,j9]) (fun j v hj=>by rw[Addr.add_mid];exact q2 j v hj)
       obtain⟨C',w',NK,hb,Qcv,Qmg,hO2⟩:=L1 (id:=base) (rows:=R) (ty:=o.type) hW ht hi VA PA h0 hold EC (by omega) (by omega) (by rw[←NI];exact XK) (by rw[q3,hlen,j9]) NI hRr (by rw[←hR,List.flatten_append];exact q1.append hnr) QZ
       have hN:=hW.new (⟨false,i.size,ob.Ey,R⟩:Ob) QZ hh' hb (Nat.le_refl _) Qcv hO2;refine⟨_,_,FF _ _ NK,GI φ base (some (w.heap.size,C')),M,?_,?_,⟨fun c hc=>hb.block c (hW.mlt c hc),fun _ h=>h,sA _ QZ⟩,FE _⟩
       ·exact .inl ⟨w.heap.size,C',dP _ _ _,by rw[NI];simp,by omega⟩
       ·refine hN.less fun k ye hk=>?_
        rw[P0]at hk;dsimp only at hk ⊢;by_cases h1:k=base
        ·rw[if_pos h1]at hk ⊢;exact hk
        ·rw[if_neg h1]at hk ⊢;by_cases h2:k=id
         ·rw[if_pos h2]at hk;cases hk
         ·rw[if_neg h2]at hk;exact hk
     ·have xo:ob.rows=[]:=List.eq_nil_of_length_eq_zero hlen;have Qgb:∀(p:Option (Nat×Nat)) (w':World),Wd Γ (GI φ base p) M (fun k=>if k=base then some ⟨false,i.size,ob.Ey,R⟩else hD k) w'→Wd Γ (GI φ base p) M (Sv (MY hD [(id,none)]) base [⟨false,i.size,ob.Ey,R⟩]) w':=fun p w' hN=>by
       refine hN.less fun k ye hk=>?_
       rw[P0]at hk;dsimp only at hk ⊢;by_cases h1:k=base
       ·rw[if_pos h1]at hk ⊢;exact hk
       ·rw[if_neg h1]at hk ⊢;by_cases h2:k=id
        ·rw[if_pos h2]at hk;cases hk
        ·rw[if_neg h2]at hk;exact hk
      by_cases zO:new.length=0
      ·have QjN:new=[]:=List.eq_nil_of_length_eq_zero zO;have Vq:R=[]:=by rw[←hR,xo,QjN];rfl
       rw[zO]at EC;have NK:=Ei (P:=P) (ty:=o.type) (A:=A) (n:=0) (c:=0) ht hi EC (Nat.le_refl _);refine⟨_,_,FF _ _ NK,GI φ base none,M,?_,Qgb none w (hW.IM (⟨false,i.size,ob.Ey,R⟩:Ob) QZ hh' Vq rfl h0),⟨fun _ _=>rfl,fun _ h=>h,sA _ QZ⟩,FE none⟩
       exact .inr ⟨dP _ _ _,rfl,by rw[Vq];rfl,A,rfl⟩
      ·have hold:(Builtin.firstCells i.size 0 (.slice A 0 0)).run P w.drew=.ok ([]:List Value).toArray w.drew:=by cases A <;> simp [Builtin.firstCells,loadCells,loadCellsFrom]
       obtain⟨C',w',NK,hb,Qcv,Qmg,hO2⟩:=L1 (id:=base) (rows:=R) (ty:=o.type) hW ht hi VA PA h0 hold EC (by omega) (by omega) (by rw[←NI];exact XK) (by simp) NI (fun j c hj=>by rw[←hR,xo]at hj;exact hnl j c (by simpa using hj)) (by rw[←hR,xo];simpa using hnr) QZ
       refine⟨_,_,FF _ _ NK,GI φ base (some (w.heap.size,C')),M,?_,Qgb _ w' (hW.new (⟨false,i.size,ob.Ey,R⟩:Ob) QZ hh' hb (Nat.le_refl _) Qcv hO2),⟨fun c hc=>hb.block c (hW.mlt c hc),fun _ h=>h,sA _ QZ⟩,FE _⟩
       exact .inl ⟨w.heap.size,C',dP _ _ _,by rw[NI];simp,by omega⟩
   ·cases hf
  ·cases hf
 ·cases hf
theorem Ua{t ty e et:TypeId}{i:TypeInfo}{b len C k cap n:Nat}{A:Option Addr}{cur:Array Value}{cs:List Value}(ht:P.underlying t=some (.slice e))(hi:P.info? e=some i)(hg:w.heap[b]?=some (.cells cur et (0,0)))(hn:Nat.min k len=n)
  (EC:(Builtin.firstCells i.size n (.slice A k cap)).run P w=.ok cs.toArray w) (L9:cs.length≤cur.size) (h1:∀u∈cs,u.oneCell'=true):
  (Builtin.copy_ #[t,t] ty #[.slice (some ⟨b,0,none⟩) len C,.slice A k cap]).run P w=.ok (goInt n) (w.setRow b (cs++cur.toList.drop cs.length).toArray):=by
 have kK:=run_storeCells_at P b 0 et cs 0 cur w hg (by simpa using L9) h1
 simp only[Nat.add_zero,List.take_zero,List.nil_append,Nat.zero_add]at kK;simp [Builtin.copy_,run_underlying ht,Builtin.lenOf,sizeOf,typeInfo,hi,hn,EC,kK]
theorem KX{t ty e:TypeId}{i:TypeInfo}{k cap:Nat}{A B:Option Addr}(ht:P.underlying t=some (.slice e))(hi:P.info? e=some i):
  (Builtin.copy_ #[t,t] ty #[.slice B 0 0,.slice A k cap]).run P w=.ok (goInt 0) w:=by
 have hm:Nat.min k 0=0:=Nat.min_zero k;have hf:(Builtin.firstCells i.size 0 (.slice A k cap)).run P w=.ok #[] w:=by cases A <;> simp [Builtin.firstCells,loadCells,loadCellsFrom]
 cases B <;> simp [Builtin.copy_,run_underlying ht,Builtin.lenOf,sizeOf,typeInfo,hi,hm,hf,storeCells]
theorem Kc{α:Type}{sz:Nat}:∀{rows:List (List α)} (n:Nat),(∀c∈rows,c.length=sz)→(rows.take n).flatten=rows.flatten.take (n*sz)
 | [],n,_=>by simp
 |c ::r,0,_=>by simp
 |c ::r,n+1,h=>by
  have hc:=h c (by simp)
  rw[List.take_succ_cons,List.flatten_cons,List.flatten_cons,Kc n (fun d hd=>h d (by simp [hd])),List.take_append,hc,Nat.add_mul,Nat.one_mul,Nat.add_sub_cancel,List.take_of_length_le (show c.length≤n*sz+sz by omega)]
theorem Kb{α:Type}{sz:Nat}:∀{rows:List (List α)} (n:Nat),(∀c∈rows,c.length=sz)→(rows.drop n).flatten=rows.flatten.drop (n*sz)
 | [],n,_=>by simp
 |c ::r,0,_=>by simp
 |c ::r,n+1,h=>by
  have hc:=h c (by simp)
  rw[List.drop_succ_cons,List.flatten_cons,Kb n (fun d hd=>h d (by simp [hd])),List.drop_append,hc,Nat.add_mul,Nat.one_mul,Nat.add_sub_cancel,List.drop_of_length_le (show c.length≤n*sz+sz by omega),List.nil_append]
theorem Qk{r:Mes}(hW:Wd Γ φ M (hl H) w)(hF:∀t,AR w M φ (look L t) (a.tmps.getD t undef))(hφ:∀id,H.length≤id→φ id=none){c:Call}(ho:o.op=.call c)(hc:c.callee=.builtin .copy)(hf:mop P H (look L) o.op hs=some r)(cR:c6 r.fl):
  ∃v w',(execOp a.eval o).run P w=.ok (.value v) w'∧Md Γ φ M w r v w':=by
 rw[ho]at hf;simp only[mop,hc]at hf;split at hf
 ·rename_i id sz off len x o1 t t' R n fc yR QcD;split at hf
  ·rename_i e ob W6 new o2 he hid hro;split at hf
   ·rename_i i hi;generalize hcc:(t == t'&&off == 0&&sz == i.size&&ob.sz == sz&&!ob.box&&(W6 == sz||new.isEmpty)&&!Ud id x)=cc at hf;cases cc with
    |false=>cases hf
    |true =>
     cases hf;simp only[Bool.and_eq_true,beq_iff_eq,Bool.or_eq_true,Bool.not_eq_true',List.isEmpty_iff]at hcc;obtain⟨⟨⟨⟨⟨⟨rfl,rfl⟩,rfl⟩,j9⟩,pc⟩,Ki⟩,QmV⟩:=hcc;simp only[bm,c6]at cR;obtain⟨⟨p1,p2⟩,hlen,QhC,hR,-⟩:=cR;have ht:=ir he;have hA:=tz hF trivial yR p1;obtain⟨vd,vx,hvs,hd,hx⟩:=hA.RE;obtain⟨cn,c8⟩:=Ga (P:=P) (w:=w) (a:=a) ho hc;have XI:c.args.map a.eval=#[vd,vx]:=by apply Array.ext';simp [←hvs]
     have QcE:c.argTypes=#[t,t]:=by apply Array.ext';simp [QcD]
     rw[XI,QcE]at c8;have FF:∀v w',(Builtin.copy_ #[t,t] o.type #[vd,vx]).run P w=.ok v w'→(execOp a.eval o).run P w=.ok (.value v) w':=fun v w' hh=>by
      rw[c8];simp only[builtin,Sem.run_bind,hh];rfl
     obtain⟨news,hnr,hnl,A,cap,rfl,had⟩:=Qa5 (size:=i.size) hW hro p2 Ki (hx:LR w M φ x vx);have jU:=ly hid;have hO:=hW.fl id ob hid;have hO0:=hO;have QhQ:AR w M φ (one (.int .i64 n)) (goInt n):=IR.int _ _;rcases(hd:uK w M φ (.os id i.size 0 len) vd)with⟨b,C,C9,rfl,hle⟩|⟨C9,_,rfl,B,rfl⟩
     ·obtain⟨XU,On⟩:=hO.oc (.inl pc);rw[C9]at On;obtain⟨cur,g1,g2,g3,g4,g5,g6⟩:=On;obtain⟨o5,q1,q2,q3⟩:=VZ (id:=id) (C:=C) pc g1 g6;have Ux:∀(i:Nat) (c:List Lf),ob.rows[i]?=some c→c.length=ob.sz:=fun i c hc=>(g6 i c hc).1
      rw[Nat.zero_mul,Nat.sub_zero]at FF;have hnn:n≤new.length:=by omega
      have hno:n≤ob.rows.length:=by omega
      -- Qu cells QfB are copied
      have Qmr:=qp (mem_row hnl);have QjQ:news.length=new.length*i.size:=by rw[←hnr.len,Qmr]
      have Ee:(news.take (n*i.size)).length=n*i.size:=by
       rw[List.length_take,QjQ];exact Nat.min_eq_left (Nat.mul_le_mul_right _ hnn)
      have Qmy:∀u∈news.take (n*i.size),u.oneCell'=true:=fun u hu=>Rs.Mi (φ:=φ) (hnr.mono fun _ _ h=>IR.lr h) u (List.mem_of_mem_take hu)
      have EC:(Builtin.firstCells i.size n (.slice A new.length cap)).run P w=.ok (news.take (n*i.size)).toArray w:=by
       by_cases zO:new=[]
       ·have RY:n=0:=by rw[zO]at hnn;simpa using hnn
        rw[RY,Nat.zero_mul,List.take_zero];cases A <;> simp [Builtin.firstCells,loadCells,loadCellsFrom]
       ·obtain⟨ad,rfl,pd⟩:=had zO;have:=run_loadCells_list (P:=P) (w:=w) ad (news.take (n*i.size)) (fun j v hj=>by
         rw[List.getElem?_take]at hj;split at hj
         ·exact pd j v hj
         ·cases hj)
        rw[Ee]at this;simpa [Builtin.firstCells]using this
      have QlU:n*i.size≤cur.size:=by rw[g2,j9];exact Nat.mul_le_mul_right _ (by omega)
      have NK:=Ua (P:=P) (ty:=o.type) (len:=len) (C:=C) ht hi g1 (show Nat.min new.length len=n by rw[←hlen];exact QhC) EC (by rw[Ee];exact QlU) Qmy
      rw[Ee]at NK;have hex:Ex w M φ (w.setRow b (news.take (n*i.size)++cur.toList.drop (n*i.size)).toArray) M φ:=by
       obtain⟨hm,_,_⟩:=hW.own id ob b C hid C9;exact⟨fun c hc=>setRow_other w b c _ fun e=>hm (e▸hc),fun _ h=>h,fun _ _ h=>h⟩
      have QcC:cur.toList.take (len*i.size)=o5:=by
       apply List.ext_getElem?;intro k;rw[List.getElem?_take];have Tx:o5.length=len*i.size:=by rw[q3,hlen,j9]
       by_cases hk:k<len*i.size
       ·rw[if_pos hk];have:=q2 k _ (List.getElem?_eq_getElem (show k<o5.length by omega))
        simp only[World.cell?,g1,Nat.zero_add]at this;rw[List.getElem?_eq_getElem (show k<o5.length by omega)]
        simpa using this
       ·rw[if_neg hk,List.getElem?_eq_none (by omega)]
      have NI:R.length=len:=by rw[←hR,List.length_append,List.length_take,List.length_drop];omega
      have hRr:∀(j:Nat) (c:List Lf),R[j]?=some c→c.length=ob.sz:=fun j c hj=>by
       rw[←hR]at hj;rcases Nat.lt_or_ge j (new.take n).length with h|h
       ·rw[List.getElem?_append_left h,List.getElem?_take]at hj;split at hj
        ·rw[j9];exact hnl j c hj
        ·cases hj
       ·rw[List.getElem?_append_right h,List.getElem?_drop]at hj;exact Ux _ c hj
      have hO2:OR (w.setRow b (news.take (n*i.size)++cur.toList.drop (n*i.size)).toArray) M φ id {ob with rows:=R}:=by
       have key:({ob with rows:=R}:Ob)=⟨false,ob.sz,ob.Ey,R⟩:=by rw[←pc]
       have hdr:cur.toList.drop (n*i.size)=o5.drop (n*i.size)++cur.toList.drop (len*i.size):=by
        rw[←QcC,←List.drop_append_of_le_length (by rw[List.length_take];have h1:n*i.size≤len*i.size:=Nat.mul_le_mul_right _ (by omega);have h2:cur.toList.length=cur.size:=Array.length_toList;omega),List.take_append_drop]
       rw[key];refine Xc (vs:=news.take (n*i.size)++o5.drop (n*i.size)) (rest:=cur.toList.drop (len*i.size)) C9 ?_ XU ?_ (by omega) g4 hRr ?_
       ·rw[List.append_assoc,←hdr];exact setRow_heap w b cur _ ob.Ey (0,0) g1
       ·rw[List.append_assoc,←hdr,List.length_append,Ee,List.length_drop,Array.length_toList,←g2];omega
       ·rw[←hR,List.flatten_append,Kc n (mem_row hnl),Kb n (mem_row Ux),j9];exact((hnr.take _).append (q1.drop _)).mono fun _ _ h=>h.mono hex.WL hex.sub
      obtain⟨w1,w2⟩:=hW.write hid C9 g1 hO2;refine⟨_,_,FF _ _ NK,φ,IR.int _ _,?_,w2,fun k hk=>hφ k (by simpa using hk)⟩
      rw[Tu jU];exact w1
     ·have xo:ob.rows=[]:=List.eq_nil_of_length_eq_zero hlen;have zO:n=0:=by rw[xo]at QhC;simpa using QhC.symm
      subst zO;have Vq:R=[]:=by rw[←hR,xo];simp
      have NK:=KX (P:=P) (w:=w) (ty:=o.type) (k:=new.length) (cap:=cap) (A:=A) (B:=B) ht hi;refine⟨_,_,FF _ _ NK,φ,IR.int _ _,?_,⟨fun _ _=>rfl,fun _ h=>h,fun _ _ h=>h⟩,fun k hk=>hφ k (by simpa using hk)⟩
      have QcA:hl (H.set id (some {ob with rows:=R}))=hl H:=by
       rw[Tu jU,Vq,←xo]
       funext k
       by_cases hk:k=id
       ·rw[if_pos hk,hk,hid]
       ·rw[if_neg hk]
      rw[QcA];exact hW
   ·cases hf
  ·cases hf
 ·cases hf
end
end
section
open Go.RowKit
section
variable {P : Program} {Γ : bu} {φ φ' : Pl} {M M' : Nat → Prop} {h hD : Nat → Option Ob} {w w' : World} {a : Act} {hs : List Hint} {o : Oper} {L : Nat → AV} {base : Nat} {r : Wr}
theorem IS:∀{ids:List Nat} {fl:List Ob},ZG h ids=some fl→fl.length=ids.length∧∀(j i:Nat),ids[j]?=some i→∃ob,fl[j]?=some ob∧h i=some ob
 | [],_,e=>by cases e;exact⟨rfl,fun j i hj=>by simp at hj⟩
 |x ::ids,fl,e=>by
  simp only[ZG]at e;split at e
  ·rename_i ob os h1 h2;cases e;obtain⟨g1,g2⟩:=IS h2;refine⟨by simp [g1],fun j i hj=>?_⟩
   cases j with
   |zero=>simp at hj;subst hj;exact⟨ob,rfl,h1⟩
   |succ j=>exact g2 j i (by simpa using hj)
  ·cases e
theorem ZA:∀{fl:List Ob},CK fl≤fl.length
 | []=>Nat.le_refl _
 |o ::r=>by
  simp only[CK];cases o.box
  ·simp
  ·have:=ZA (fl:=r);simp only[cond_true,List.length_cons];omega
theorem ZB:∀{fl:List Ob} {j:Nat} {o:Ob},j<CK fl→fl[j]?=some o→o.box=true
 | [],j,_,h,_=>by simp [CK]at h
 |x ::r,j,o,h,e=>by
  simp only[CK]at h;cases hx:x.box with
  |false=>rw[hx]at h;simp at h
  |true =>
   rw[hx]at h;simp only[cond_true]at h;cases j with
   |zero=>simp at e;subst e;exact hx
   |succ j=>exact ZB (fl:=r) (j:=j) (by omega) (by simpa using e)
theorem Su{φ:Pl}:∀{l:List Ob} {i:Nat} {p:Nat×Nat},p∈wv φ i l→∃(j:Nat) (ob:Ob) (C:Nat),p.1=i+j∧l[j]?=some ob∧ob.box=true∧φ (i+j)=some (some (p.2,C))
 | [],_,_,h=>by cases h
 |o ::r,i,p,h=>by
  simp only[wv,List.mem_append]at h;rcases h with h|h
  ·split at h
   ·rename_i b C hb hφ;simp only[List.mem_singleton]at h;subst h;exact⟨0,o,C,rfl,rfl,hb,hφ⟩
   ·cases h
  ·obtain⟨j,ob,C,h1,h2,h3,h4⟩:=Su h;exact⟨j+1,ob,C,by omega,by simpa using h2,h3,by rw[show i+(j+1)=i+1+j by omega];exact h4⟩
theorem V2{φ:Pl}:∀{l:List Ob} {i j:Nat} {ob:Ob} {b C:Nat},l[j]?=some ob→ob.box=true→φ (i+j)=some (some (b,C))→(i+j,b)∈wv φ i l
 | [],_,_,_,_,_,h,_,_=>by simp at h
 |o ::r,i,j,ob,b,C,h,hb,hφ=>by
  simp only[wv,List.mem_append];cases j with
  |zero =>
   simp at h;subst h;left;rw[hb];rw[Nat.add_zero]at hφ ⊢;rw[hφ];simp
  |succ j =>
   right;have:=V2 (l:=r) (i:=i+1) (j:=j) (by simpa using h) hb (by rw[show i+1+j=i+(j+1) by omega];exact hφ)
   rw[show i+1+j=i+(j+1) by omega]at this;exact this
theorem Sn:∀{l:List Nat} {i j x:Nat},Ba l=true→l[i]?=some x→l[j]?=some x→i=j
 | [],_,_,_,_,h,_=>by simp at h
 |y ::l,i,j,x,hn,hi,hj=>by
  simp only[Ba,Bool.and_eq_true,Bool.not_eq_true']at hn;have hy:∀k,l[k]?≠some y:=fun k e=>by
   have h1:=hn.1;rw[←Bool.not_eq_true,List.contains_iff_mem]at h1;exact h1 (List.mem_of_getElem? e)
  cases i with
  |zero =>
   cases j with
   |zero=>rfl
   |succ j=>simp at hi hj;subst hi;exact absurd hj (hy j)
  |succ i =>
   cases j with
   |zero=>simp at hi hj;subst hj;exact absurd hi (hy i)
   |succ j=>exact congrArg (·+1) (Sn hn.2 (by simpa using hi) (by simpa using hj))
theorem Tk{a b:List (Nat×Option Ob)}{id:Nat}:qS (a++b) id=match qS a id with
  |some o=>some o
  |none=>qS b id:=by
 induction a with
 |nil=>rfl
 |cons x a ih =>
  obtain⟨u,o⟩:=x;simp only[List.cons_append,qS];cases(u == id)with
  |true=>rfl
  |false=>exact ih
theorem Pf{id:Nat}:∀{ids:List Nat},qS (U5 ids) id=if id∈ids then some none else none
 | []=>rfl
 |x ::ids=>by
  show(bif x == id then some none else qS (U5 ids) id)=_;rw[Pf];by_cases hx:x=id
  ·subst hx;simp
  ·have:(x == id)=false:=by simpa using hx
   rw[this];have By:¬id=x:=fun e=>hx e.symm
   simp [By]
theorem RP{m:Nat→Option Nat}{id:Nat}{o:Option Ob}:∀{ids:List Nat} {fl:List Ob},qS (QL m ids fl) id=some o→∃(j:Nat) (ob:Ob),ids[j]?=some id∧fl[j]?=some ob∧o=some (iC m ob)
 | [],_,h=>by cases h
 |_ ::_,[],h=>by cases h
 |x ::ids,y ::fl,h=>by
  simp only[QL,qS]at h;cases hx:(x == id)with
  |true =>
   rw[hx]at h;cases h;exact⟨0,y,by simpa using hx,rfl,rfl⟩
  |false =>
   rw[hx]at h;obtain⟨j,ob,h1,h2,h3⟩:=RP (ids:=ids) (fl:=fl) h;exact⟨j+1,ob,by simpa using h1,by simpa using h2,h3⟩
theorem Fw{m:Nat→Option Nat}{id:Nat}:∀{ids:List Nat} {fl:List Ob},ids.length≤fl.length→qS (QL m ids fl) id=none→id ∉ ids
 | [],_,_,_=>by simp
 |_ ::_,[],h,_=>by simp at h
 |x ::ids,y ::fl,hl,h=>by
  simp only[QL,qS]at h;cases hx:(x == id)with
  |true=>rw[hx]at h;cases h
  |false =>
   rw[hx]at h;have:=Fw (ids:=ids) (fl:=fl) (by simpa using hl) h
   have By:¬id=x:=fun e=>by simp [e]at hx
   simp [By,this]
theorem WE{c:Call}(ho:o.op=.call c)(hf:ZX P h base L c hs=some r)(cR:c6 r.fl)(hF:∀t,AR w M φ (L t) (a.tmps.getD t undef))(hW:Wd Γ φ M hD w)(eD:∀id ob,h id=some ob→hD id=some ob)
  (tg:∀id,base≤id→id<base+r.news.length→φ id=none∧hD id=none) {K:Act→World→Prop}
  (hK:∀v w',Wo Γ φ M hD base w r v w'→K (a.put o.dst v) w'):o.wp P a w K NQ:=by
 unfold ZX at hf;split at hf
 ·rename_i f hcf;split at hf
  ·rename_i k gP yM o1 ids r0 out fc h1 h2;split at hf
   ·rename_i wj wk hp0 Vx;cases hc:(Ba ids&&Nat.ble (CK wj) wk.length&&((wj.drop (CK wj)).all (fun x=>!x.box)&&(wk.take (CK wj)).all (fun x=>x.box)))with
    |false=>rw[hc]at hf;cases hf
    |true =>
     rw[hc]at hf;cases hf;simp only[Bool.and_eq_true,Nat.ble_eq]at hc;obtain⟨⟨hnd,hnb⟩,-,-⟩:=hc;have Iy:=Ig Vx;subst Iy;obtain⟨RX,hpk⟩:=IS hp0;have Qps:=ZA (fl:=wj);generalize Qmn:CK wj=nb at *;simp only[bm,c6]at cR;have hfv:AR w M φ (wP L f) (a.eval f):=E6 hF f;rw[h1]at hfv;obtain⟨cvs,hcv,XO⟩:LR w M φ (.fn (.func k) gP) (a.eval f):=hfv;have RU:Rs (CR w M φ) (gP.map Cm.one) cvs:=by
      refine Rs.yc (XO.imp_mem fun x hx y h=>?_)
      exact uK.lr h
     have Qhi:Rs (CR w M φ) (yM++gP.map Cm.one) (c.args.toList.map a.eval++cvs):=(tz hF trivial h2 cR.1).append RU
     -- QfH Qu callee is handed
     let φc:Pl:=fun j=>match ids[j]? with
      |some i=>φ i
      |none=>none
     have hφc:∀j i,ids[j]?=some i→φc j=φ i:=fun j i hj=>by simp only[φc,hj]
     have Qm1:∀j,ids.length≤j→φc j=none:=fun j hj=>by simp only[φc,List.getElem?_eq_none hj]
     have Qcw:∀j ob,(wj.map (iC (posOf ids 0)))[j]?=some ob→∃i Nw,ids[j]?=some i∧wj[j]?=some Nw∧ob=iC (posOf ids 0) Nw∧hD i=some Nw:=fun j ob hj=>by
      rw[List.getElem?_map]at hj;cases ho0:wj[j]? with
      |none=>rw[ho0]at hj;cases hj
      |some Nw =>
       rw[ho0]at hj;cases hj;have jU:j<ids.length:=by rw[←RX];exact(List.getElem?_eq_some_iff.1 ho0).1
       obtain⟨QF,g1,g2⟩:=hpk j ids[j] (List.getElem?_eq_getElem jU);rw[ho0]at g1;cases g1;exact⟨ids[j],Nw,List.getElem?_eq_getElem jU,ho0,rfl,eD _ _ g2⟩
     have hmc:∀id k p,posOf ids 0 id=some k→φ id=some p→φc k=some p:=fun id k p hk hp=>by
      obtain⟨-,g⟩:=IT hk;rw[Nat.sub_zero]at g;rw[hφc k id g];exact hp
     have Qga:(wj.map (iC (posOf ids 0))).length=ids.length:=by rw[List.length_map,RX]
     have Zi:∀b,(∃id C,id<(wj.map (iC (posOf ids 0))).length∧φc id=some (some (b,C)))→∃i ob C,i∈ids∧hD i=some ob∧φ i=some (some (b,C)):=fun b ⟨j,C,hj,hφj⟩=>by
      have QC:j<ids.length:=by rw[←Qga];exact hj
      obtain⟨QF,g1,g2⟩:=hpk j ids[j] (List.getElem?_eq_getElem QC);rw[hφc j _ (List.getElem?_eq_getElem QC)]at hφj;exact⟨ids[j],QF,C,List.getElem_mem QC,eD _ _ g2,hφj⟩
     have hWc:Wd ⟨w,fun b=>∃id C,id<(wj.map (iC (posOf ids 0))).length∧φc id=some (some (b,C)),M,wv φc 0 (wj.map (iC (posOf ids 0)))⟩ φc M (fun id=>(wj.map (iC (posOf ids 0)))[id]?) w:=by
      refine⟨fun j ob e=>?_,fun i j oi oj b Ci Cj ei ej pi pj=>?_,hW.mlt,fun _ h=>h,fun _ h=>.inl h,fun j ob b C e p=>?_,fun _ _ _=>rfl,rfl,rfl,rfl,Nat.le_refl _,fun p hp=>?_,fun b cs ht=>⟨(hW.tab b cs ht).1,fun ho=>by obtain⟨i,ob,C,_,g2,g3⟩:=Zi b ho;exact(hW.own i ob b C g2 g3).1 (hW.tab b cs ht).1,(hW.tab b cs ht).2⟩⟩
      ·obtain⟨i,Nw,g1,g2,rfl,g4⟩:=Qcw j ob e;exact F7 hmc (hφc j i g1) (hW.fl i Nw g4)
      ·obtain⟨ii,oi0,g1,-,-,g4⟩:=Qcw i oi ei;obtain⟨jj,oj0,k1,-,-,k4⟩:=Qcw j oj ej;rw[hφc i ii g1]at pi;rw[hφc j jj k1]at pj;have:=hW.inj ii jj oi0 oj0 b Ci Cj g4 k4 pi pj;subst this;exact Sn hnd g1 k1
      ·obtain⟨i,Nw,g1,g2,-,g4⟩:=Qcw j ob e;have p':=p;rw[hφc j i g1]at p;obtain⟨q1,q2,q3⟩:=hW.own i Nw b C g4 p;exact⟨q1,q2,.inl ⟨j,C,(List.getElem?_eq_some_iff.1 e).1,p'⟩⟩
      ·obtain⟨j,ob,C,e1,e2,e3,e4⟩:=Su hp;rw[Nat.zero_add]at e1 e4;obtain⟨i,Nw,g1,g2,rfl,g4⟩:=Qcw j ob e2;rw[e1,e4];obtain⟨b1,q1⟩:=(F7 hmc (hφc j i g1) (hW.fl i Nw g4)).boxed e3;rw[e4]at q1;cases q1;rfl
     have yR:Rs (CR w M φc) ((yM++gP.map Cm.one).map (Ys (posOf ids 0))) (c.args.toList.map a.eval++cvs):=Rs.yc (Qhi.mono fun _ _ h=>KO hmc h)
     unfold Oper.wp;rw[KU ho hcf hcv cR.2.1.1];show Calls P k _ w _;refine(cR.2.1.2 w φc M _ hWc (fun id hid=>Qm1 id (by rw[←Qga];exact hid)) yR).mono ?_
     rintro e w' ⟨v,φ',M',rfl,hr,qq,Zo⟩;rw[List.length_map]at Zo;have hhl:∀i,hl (wk.map some) i=wk[i]?:=fun i=>by unfold hl;rw[List.getElem?_map];cases wk[i]? <;> rfl
     refine hK v w' ?_
     have hnw:((wk.drop nb).map (iC (tt ids nb base))).length=wk.length-nb:=by simp
     simp only[hnw]at tg
     -- where Qu boxes lie
     have pc:∀j i,j<nb→ids[j]?=some i→∃b,φ i=some (some (b,1))∧φ' j=some (some (b,1)):=fun j i hj hi=>by
      obtain⟨Nw,g1,g2⟩:=hpk j i hi;have hb0:Nw.box=true:=ZB (by rw[Qmn];exact hj) g1
      obtain⟨b,C9⟩:=(hW.fl i Nw (eD _ _ g2)).boxed hb0;refine⟨b,C9,?_⟩;have hm0:(wj.map (iC (posOf ids 0)))[j]?=some (iC (posOf ids 0) Nw):=by rw[List.getElem?_map,g1];rfl
      have:=qq.EV (0+j,b) (V2 (C:=1) hm0 (by rw[SA];exact hb0) (by rw[Nat.zero_add,hφc j i hi,C9]))
      rw[Nat.zero_add]at this;exact this
     let φ2:Pl:=fun i=>if base≤i∧i<base+(wk.length-nb)then φ' (nb+(i-base))else φ i
     have pq:∀i,base≤i→i<base+(wk.length-nb)→φ2 i=φ' (nb+(i-base)):=fun i h1 h2=>if_pos ⟨h1,h2⟩
     have Nj:∀i,¬(base≤i∧i<base+(wk.length-nb))→φ2 i=φ i:=fun i h=>if_neg h
     have Di:∀i p,φ i=some p→φ2 i=some p:=fun i p h=>by
      by_cases hi:base≤i∧i<base+(wk.length-nb)
      ·rw[(tg i hi.1 hi.2).1]at h;cases h
      ·rw[Nj i hi];exact h
     have Uw:∀id k p,tt ids nb base id=some k→φ' id=some p→φ2 k=some p:=fun id k p hk hp=>by
      unfold tt at hk;cases jU:Nat.blt id nb with
      |true =>
       rw[jU]at hk;have Qcv:id<nb:=Nat.le_of_ble_eq_true jU;obtain⟨b,g1,g2⟩:=pc id k Qcv hk;rw[g2]at hp;cases hp;exact Di _ _ g1
      |false =>
       rw[jU]at hk;cases hk;have QW:¬id<nb:=fun h=>by
        have:Nat.blt id nb=true:=Nat.ble_eq_true_of_le h;rw[jU]at this;cases this
       have hid:id<wk.length:=by
        rcases Nat.lt_or_ge id wk.length with h|h
        ·exact h
        ·rw[Zo id h]at hp;cases hp
       rw[pq _ (by omega) (by omega),show nb+(base+(id-nb)-base)=id by omega];exact hp
     -- blocks QfB Qu callee was not handed
     have Qcs:∀b,b<w.heap.size→(∀i ob C,i∈ids→hD i=some ob→φ i≠some (some (b,C)))→w'.heap[b]?=w.heap[b]?:=fun b hb hn=>qq.FI b hb fun h=>by
      obtain⟨i,ob,C,g1,g2,g3⟩:=Zi b h;exact hn i ob C g1 g2 g3
     have hMk:∀b,M b→w'.heap[b]?=w.heap[b]?:=fun b hb=>Qcs b (hW.mlt b hb) fun i ob C g1 g2 g3=>(hW.own i ob b C g2 g3).1 hb
     have hex:Ex w M φ w' M' φ2:=⟨hMk,qq.m0,Di⟩;have j9:w.heap.size≤w'.heap.size:=qq.size;have WS:∀b,M' b→M b∨(∃i ob C,i∈ids∧hD i=some ob∧φ i=some (some (b,C)))∨w.heap.size≤b:=fun b hb=>by
      rcases qq.ID b hb with h|h|h
      ·exact .inl h
      ·exact .inr (.inl (Zi b h))
      ·exact .inr (.inr h)
     have Qcy:∀jj ob b C,wk[jj]?=some ob→φ' jj=some (some (b,C))→¬M' b∧b<w'.heap.size∧((∃i ob C,i∈ids∧hD i=some ob∧φ i=some (some (b,C)))∨w.heap.size≤b):=fun jj ob b C e p=>by
      obtain⟨g1,g2,g3⟩:=qq.own jj ob b C ((hhl jj).trans e) p;refine⟨g1,g2,?_⟩;rcases g3 with h|h
      ·exact .inl (Zi b h)
      ·exact .inr h
     -- Qu objects QfB are there
     have Qmj:(ids.take nb).length≤(wk.take nb).length:=by simp;omega
     have key:∀i ob,Sv (MY hD (QL (tt ids nb base) (ids.take nb) (wk.take nb)++U5 (ids.drop nb))) base ((wk.drop nb).map (iC (tt ids nb base))) i=some ob→
       (∃jj QF,wk[jj]?=some QF∧ob=iC (tt ids nb base) QF∧φ2 i=φ' jj∧(∀i',tt ids nb base jj=some i'→i'=i)∧(tt ids nb base jj=some i))∨(¬(base≤i∧i<base+(wk.length-nb))∧i ∉ ids∧hD i=some ob):=fun i ob e=>by
      unfold Sv at e;rw[hnw]at e;by_cases hi:base≤i∧i<base+(wk.length-nb)
      ·rw[if_pos hi,List.getElem?_map,List.getElem?_drop]at e;cases h3:wk[nb+(i-base)]? with
       |none=>rw[h3]at e;cases e
       |some QF =>
        rw[h3]at e;cases e;have hid:tt ids nb base (nb+(i-base))=some i:=by
         unfold tt;have:Nat.blt (nb+(i-base)) nb=false:=by rw[←Bool.not_eq_true];intro h;have:=Nat.le_of_ble_eq_true h;omega
         rw[this];simp only[cond_false];congr 1;omega
        exact .inl ⟨nb+(i-base),QF,h3,rfl,pq i hi.1 hi.2,fun i' h=>by rw[hid]at h;exact(Option.some.inj h).symm,hid⟩
      ·rw[if_neg hi]at e;unfold MY at e;rw[Tk]at e;cases h3:qS (QL (tt ids nb base) (ids.take nb) (wk.take nb)) i with
       |some ov =>
        rw[h3]at e;simp only at e;obtain⟨j,QF,g1,g2,g3⟩:=RP h3;rw[e]at g3;cases g3;rw[List.getElem?_take]at g1 g2;have hj:j<nb:=by
         rcases Nat.lt_or_ge j nb with h|h
         ·exact h
         ·rw[if_neg (by omega)]at g1;cases g1
        rw[if_pos hj]at g1 g2;obtain⟨b,q1,q2⟩:=pc j i hj g1;have hid:tt ids nb base j=some i:=by
         unfold tt;have:Nat.blt j nb=true:=Nat.ble_eq_true_of_le hj;rw[this];exact g1
        exact .inl ⟨j,QF,g2,rfl,by rw[Nj i hi,q1,q2],fun i' h=>by rw[hid]at h;exact(Option.some.inj h).symm,hid⟩
       |none =>
        rw[h3]at e;simp only[Pf]at e;have n1:=Fw Qmj h3;by_cases hd:i∈ids.drop nb
        ·rw[if_pos hd]at e;cases e
        ·rw[if_neg hd]at e;refine .inr ⟨hi,fun hm=>?_,e⟩
         rw[←List.take_append_drop nb ids,List.mem_append]at hm;rcases hm with h|h
         ·exact n1 h
         ·exact hd h
     have hold:∀i ob b C,i ∉ ids→hD i=some ob→φ i=some (some (b,C))→w'.heap[b]?=w.heap[b]?:=fun i ob b C hi e p=>Qcs b (hW.own i ob b C e p).2.1 fun i2 ob2 C2 g1 g2 g3=>hi (by rw[hW.inj i i2 ob ob2 b C C2 e g2 p g3];exact g1)
     refine⟨φ2,M',KN Uw hr,?_,hex,fun i hi=>?_⟩
     ·refine⟨fun i ob e=>?_,fun i j oi oj b Ci Cj ei ej pi pj=>?_,qq.mlt,fun b hb=>qq.m0 b (hW.m0 b hb),fun b hb=>?_,fun i ob b C e p=>?_,fun b hb hn=>?_,qq.os.trans hW.os,qq.tape.trans hW.tape,qq.output.trans hW.output,Nat.le_trans hW.size j9,fun p hp=>Di _ _ (hW.EV p hp),hW.tbw⟩
      ·rcases key i ob e with⟨jj,QF,g1,rfl,g3,-,-⟩|⟨g1,g2,g3⟩
       ·exact F7 Uw g3 (qq.fl jj QF ((hhl jj).trans g1))
       ·exact(hW.fl i ob g3).mono hex fun b C p=>hold i ob b C g2 g3 p
      ·rcases key i oi ei with⟨ii,oi1,g1,-,g3,g4,g5⟩|⟨g1,g2,g3⟩ <;> rcases key j oj ej with⟨jj,oj1,k1,-,k3,k4,k5⟩|⟨k1,k2,k3⟩
       ·rw[g3]at pi;rw[k3]at pj;have:=qq.inj ii jj oi1 oj1 b Ci Cj ((hhl ii).trans g1) ((hhl jj).trans k1) pi pj;subst this;exact k4 i g5
       ·exfalso;rw[g3]at pi;rw[Nj j k1]at pj;have jU:=(hW.own j oj b Cj k3 pj).2.1;rcases(Qcy ii oi1 b Ci g1 pi).2.2 with⟨i2,ob2,C2,q1,q2,q3⟩|h
        ·exact k2 (by rw[hW.inj j i2 oj ob2 b Cj C2 k3 q2 pj q3];exact q1)
        ·omega
       ·exfalso;rw[k3]at pj;rw[Nj i g1]at pi;have jU:=(hW.own i oi b Ci g3 pi).2.1;rcases(Qcy jj oj1 b Cj k1 pj).2.2 with⟨i2,ob2,C2,q1,q2,q3⟩|h
        ·exact g2 (by rw[hW.inj i i2 oi ob2 b Ci C2 g3 q2 pi q3];exact q1)
        ·omega
       ·rw[Nj i g1]at pi;rw[Nj j k1]at pj;exact hW.inj i j oi oj b Ci Cj g3 k3 pi pj
      ·rcases WS b hb with h|⟨i,ob,C,g1,g2,g3⟩|h
       ·exact hW.ID b h
       ·exact .inr (hW.own i ob b C g2 g3).2.2
       ·exact .inr (.inr (Nat.le_trans hW.size h))
      ·rcases key i ob e with⟨jj,QF,g1,-,g3,-,-⟩|⟨g1,g2,g3⟩
       ·rw[g3]at p;obtain⟨q1,q2,q3⟩:=Qcy jj QF b C g1 p;refine⟨q1,q2,?_⟩;rcases q3 with⟨i2,ob2,C2,s1,s2,s3⟩|h
        ·exact(hW.own i2 ob2 b C2 s2 s3).2.2
        ·exact .inr (Nat.le_trans hW.size h)
       ·rw[Nj i g1]at p;obtain⟨q1,q2,q3⟩:=hW.own i ob b C g3 p;refine⟨fun hb=>?_,Nat.lt_of_lt_of_le q2 j9,q3⟩
        rcases WS b hb with h|⟨i2,ob2,C2,s1,s2,s3⟩|h
        ·exact q1 h
        ·exact g2 (by rw[hW.inj i i2 ob ob2 b C C2 g3 s2 p s3];exact s1)
        ·omega
      ·refine(Qcs b (Nat.lt_of_lt_of_le hb hW.size) fun i ob C g1 g2 g3=>?_).trans (hW.FI b hb hn)
       rcases(hW.own i ob b C g2 g3).2.2 with h|h
       ·exact hn h
       ·omega
     ·by_cases h:base≤i∧i<base+(wk.length-nb)
      ·right;rw[hnw];exact h
      ·rw[Nj i h]at hi;exact .inl hi
   ·cases hf
  ·cases hf
 ·cases hf
theorem As{id:Nat}{ob:Option Ob}:MY hD [(id,ob)]=fun i=>if i=id then ob else hD i:=by
 funext i
 unfold MY;simp only[qS];by_cases h2:i=id
 ·subst h2;simp
 ·have:(id == i)=false:=by simpa using fun e:id=i=>h2 e.symm
  rw[if_neg h2,this];rfl
theorem Wd.QkD{h:Nat→Option Ob}{w':World}(hW:Wd Γ φ M h w){id:Nat}{ob ye:Ob}{b C:Nat}(hh:h id=some ob)(hφ:φ id=some (some (b,C)))(Ix:∀k,k<w.heap.size→k≠b→w'.heap[k]?=w.heap[k]?)(j9:w.heap.size≤w'.heap.size)
  (hos:w'.os=w.os) (htp:w'.tape=w.tape) (Iy:w'.output=w.output) (hO:OR w' M φ id ye):Wd Γ φ M (fun i=>if i=id then some ye else h i) w':=by
 obtain⟨hm,jU,Px⟩:=hW.own id ob b C hh hφ;have he:Ex w M φ w' M φ:=⟨fun c hc=>Ix c (hW.mlt c hc) fun e=>hm (e▸hc),fun _ h=>h,fun _ _ h=>h⟩
 have Pz:∀i o,(fun i=>if i=id then some ye else h i) i=some o→∃o',h i=some o':=fun i o e=>by
  by_cases hi:i=id
  ·subst hi;exact⟨ob,hh⟩
  ·simp only[if_neg hi]at e;exact⟨o,e⟩
 refine⟨fun i o e=>?_,fun i j oi oj c Ci Cj hi hj pi pj=>?_,fun c hc=>Nat.lt_of_lt_of_le (hW.mlt c hc) j9,hW.m0,hW.ID,fun i o c C' e p=>?_,fun c hc hn=>?_,hos.trans hW.os,htp.trans hW.tape,Iy.trans hW.output,Nat.le_trans hW.size j9,hW.EV,hW.tbw⟩
 ·by_cases hi:i=id
  ·subst hi;simp only[if_true]at e;cases e;exact hO
  ·simp only[if_neg hi]at e;exact(hW.fl i o e).mono he fun c C' hp=>Ix c (hW.own i o c C' e hp).2.1 fun hc=>hi (hW.inj i id o ob b C' C e hh (hc▸hp) hφ)
 ·obtain⟨oi',Pu⟩:=Pz i oi hi;obtain⟨oj',QC⟩:=Pz j oj hj;exact hW.inj i j oi' oj' c Ci Cj Pu QC pi pj
 ·obtain⟨o',ho'⟩:=Pz i o e;obtain⟨q1,q2,q3⟩:=hW.own i o' c C' ho' p;exact⟨q1,Nat.lt_of_lt_of_le q2 j9,q3⟩
 ·rw[Ix c (Nat.lt_of_lt_of_le hc hW.size) fun e=>?_]
  ·exact hW.FI c hc hn
  ·subst e;rcases Px with h1|h1
   ·exact hn h1
   ·omega
theorem WG{c:Call}(ho:o.op=.call c)(hf:ZY P h L c hs=some r)(cR:c6 r.fl)(hF:∀t,AR w M φ (L t) (a.tmps.getD t undef))(hW:Wd Γ φ M hD w)(eD:∀id ob,h id=some ob→hD id=some ob){K:Act→World→Prop}
  (hK:∀v w',Wo Γ φ M hD base w r v w'→K (a.put o.dst v) w'):o.wp P a w K NQ:=by
 unfold ZY at hf;split at hf
 ·rename_i f hcf;split at hf
  ·rename_i k id sz off len rest o1 R fc h1 h2;split at hf
   ·rename_i ob hid;cases hc:(off == 0&&!ob.box&&ob.sz == sz&&rest.all Ke)with
    |false=>rw[hc]at hf;cases hf
    |true =>
     rw[hc]at hf;cases hf;simp only[Bool.and_eq_true,beq_iff_eq,Bool.not_eq_true']at hc;obtain⟨⟨⟨rfl,pc⟩,j9⟩,Ps⟩:=hc;simp only[bm,c6]at cR;obtain⟨QhF,hlen,⟨B3,NI,zP,pM⟩,-⟩:=cR;have hfv:AR w M φ (wP L f) (a.eval f):=E6 hF f;rw[h1]at hfv;obtain⟨cvs,hcv,XO⟩:LR w M φ (.fn (.func k) []) (a.eval f):=hfv;have QlV:cvs=[]:=by cases cvs with
      |nil=>rfl
      |cons _ _=>exact XO.elim
     subst QlV;have yR:=tz hF trivial h2 QhF;generalize hvE:c.args.toList.map a.eval=vs at yR;cases vs with
     |nil=>exact yR.elim
     |cons v0 vr =>
      obtain⟨hv0,hvr⟩:=yR;have Qj7:Rs (CR w M (fun _=>none)) rest vr:=hvr.imp_mem fun x hx y hy=>CR.free (List.all_eq_true.1 Ps x hx) hy
      have QmT:uK w M φ (.os id sz 0 len) v0:=hv0;have hO:=hW.fl id ob (eD id ob hid);unfold Oper.wp;rw[KU ho hcf hcv B3,hvE,List.append_nil];show Calls P k _ w _;rcases QmT with⟨b,C,hφ,rfl,hle⟩|⟨hφ,-,RX,A,rfl⟩
      ·obtain⟨h0,On⟩:=hO.oc (.inl pc);rw[hφ]at On;obtain⟨cur,g1,g2,g3,g4,g5,g6⟩:=On;obtain⟨q1,q2,q3⟩:=hW.own id ob b C (eD id ob hid) hφ;rw[Nat.zero_mul,Nat.sub_zero,←hlen];refine(pM w M b C cur vr hW.mlt q1 q2 hW.tab g1 g2 g3 g4 (fun i c hc=>⟨(g6 i c hc).1,fun j l hj=>by
        obtain⟨v,hv,hr⟩:=(g6 i c hc).2 j l hj;rw[if_neg (by simp [pc])]at hr
        exact⟨v,hv,hr⟩⟩) Qj7).mono ?_
       rintro e w' ⟨rfl,e1,e2,e3,e4,e6,Qb4,e7,e8,e9⟩;refine hK _ w' ?_
       have hex:Ex w M φ w' M φ:=⟨fun c hc=>e6 c (hW.mlt c hc) fun e=>q1 (e▸hc),fun _ h=>h,fun _ _ h=>h⟩
       refine⟨φ,M,trivial,?_,hex,fun _ h=>.inl h⟩
       rw[rN,As];refine hW.QkD (eD id ob hid) hφ e6 e4 e1 e2 e3 (.inl ⟨h0,?_⟩);rw[hφ];refine⟨Qb4,e7,e8,by show R.length≤C;rw[NI];exact g3,g4,g5,fun i c hc=>⟨(e9 i c hc).1,fun j l hj=>?_⟩⟩
       obtain⟨v,hv,hr⟩:=(e9 i c hc).2 j l hj;refine⟨v,hv,?_⟩;rw[if_neg (by simp [pc])]
       exact hr.mono hex.WL hex.sub
      ·obtain⟨h0,On⟩:=hO.oc (.inl pc);rw[hφ]at On;refine(zP w M A vr On.1 hW.mlt Qj7).mono ?_
       rintro e w' ⟨rfl,hb⟩;refine hK _ w' ?_
       refine⟨φ,M,trivial,?_,hW.Oi hb,fun _ h=>.inl h⟩
       rw[rN,As];have hR:R=ob.rows:=by
        rw[On.1]at NI ⊢;exact List.eq_nil_of_length_eq_zero NI
       have:(fun i=>if i=id then some {ob with rows:=R}else hD i)=hD:=by
        funext i
        by_cases hi:i=id
        ·subst hi;rw[if_pos rfl,eD i ob hid,hR]
        ·rw[if_neg hi]
       rw[this];exact hW.grow hb
   ·cases hf
  ·cases hf
 ·cases hf
theorem Up{t:TypeId}{x y:Operand}(hop:o.op=.store t x y)(hf:Uo P h L t x y hs=some r)(cR:c6 r.fl)(hF:∀t,AR w M φ (L t) (a.tmps.getD t undef))(hW:Wd Γ φ M hD w)(eD:∀id ob,h id=some ob→hD id=some ob):
  ∃w',(execOp a.eval o).run P w=.ok .skip w'∧Wo Γ φ M hD base w r undef w':=by
 unfold Uo at hf
 ·split at hf
  ·rename_i id sz row off o1 c o2 n h1 h2 ht;split at hf
   ·rename_i ob hid;split at hf
    ·rename_i cells pc iL;cases hc:(ob.sz == sz&&n == c.cells.length&&(row == 0&&Nat.ble (off+n) cells.length))with
     |false=>rw[hc]at hf;cases hf
     |true =>
      rw[hc]at hf;cases hf;simp only[Bool.and_eq_true,beq_iff_eq,Nat.ble_eq]at hc;obtain⟨⟨j9,hn⟩,rfl,L9⟩:=hc;rw[bm]at cR;have hO:=hW.fl id ob (eD id ob hid);obtain⟨b,C,C9,hv⟩:uK w M φ (.op id sz 0 off) (a.eval x):=b7 hF h1 cR.1 trivial;have hy:=(b7 hF h2 cR.2 trivial).cells;obtain⟨h0,On⟩:=hO.oc (.inr ⟨_,iL⟩);rw[C9]at On;obtain⟨cur,g1,g2,g3,g4,g5,g6⟩:=On;obtain⟨hm,Qjl,Px⟩:=hW.own id ob b C (eD id ob hid) C9;have XM:(a.eval y).cells.size=n:=by rw[←Array.length_toList,←hy.len,hn]
      have hex:∀new,Ex w M φ (w.setRow b new) M φ:=fun new=>⟨fun c hc=>setRow_other w b c new fun e=>hm (e▸hc),fun _ h=>h,fun _ _ h=>h⟩
      have Ee:cells.length=ob.sz:=(g6 0 cells (by rw[iL];rfl)).1
      have hC:1≤C:=by rw[iL]at g3;simpa using g3
      have hle:ob.sz≤cur.size:=by rw[g2];exact Nat.le_mul_of_pos_left _ hC
      have hvl:=hy.len;have QlR:cur.toList.length=cur.size:=Array.length_toList;have c8:=wD (P:=P) (p:=0*sz+off) ht XM g1 (by rw[Nat.zero_mul];omega) (Rs.Mi hy)
      refine⟨w.setRow b (cur.toList.take (0*sz+off)++(a.eval y).cells.toList++cur.toList.drop (0*sz+off+(a.eval y).cells.toList.length)).toArray,by simp only[execOp,hop,hv,Instr.storeAt,Instr.sureAddr,Sem.run_bind,Sem.run_pure,Result.andThen_ok,c8],?_⟩
      suffices hs:Wd Γ φ M (fun i=>if i=id then some {ob with rows:=[cells.take off++c.cells++cells.drop (off+n)]}else hD i) (w.setRow b (cur.toList.take (0*sz+off)++(a.eval y).cells.toList++cur.toList.drop (0*sz+off+(a.eval y).cells.toList.length)).toArray)∧Ex w M φ (w.setRow b (cur.toList.take (0*sz+off)++(a.eval y).cells.toList++cur.toList.drop (0*sz+off+(a.eval y).cells.toList.length)).toArray) M φ by
       exact⟨φ,M,trivial,by rw[rN,As];exact hs.1,hs.2,fun _ h=>.inl h⟩
      refine hW.write (ye:={ob with rows:=[cells.take off++c.cells++cells.drop (off+n)]}) (eD id ob hid) C9 g1 (.inl ⟨h0,?_⟩);rw[C9];refine⟨_,setRow_heap w b cur _ ob.Ey (0,0) g1,?_,by simpa using hC,g4,g5,fun i d hd=>?_⟩
      ·rw[←g2];simp;omega
      ·cases i with
       |succ i=>simp at hd
       |zero =>
        obtain rfl:=Option.some.inj (show some _=some d from hd);refine⟨by simp;omega,fun j l hj=>?_⟩
        have h3:=pb (l:=cells) (vs:=c.cells) (p:=off) (by omega) j
        rw[hn]at hj;rw[h3]at hj;rw[List.getElem?_toArray,Nat.zero_mul,Nat.zero_add,Nat.zero_mul,Nat.zero_add,pb (by omega)]
        have Mv:∀l,cells[j]?=some l→∃v,cur.toList[j]?=some v∧(if ob.box=true then LR (w.setRow b (cur.toList.take off++(a.eval y).cells.toList++cur.toList.drop (off+(a.eval y).cells.toList.length)).toArray) M φ l v else IR (w.setRow b (cur.toList.take off++(a.eval y).cells.toList++cur.toList.drop (off+(a.eval y).cells.toList.length)).toArray) M l v):=fun l hl=>by
         obtain⟨v,hv,hr⟩:=(g6 0 cells (by rw[iL];rfl)).2 j l hl
         rw[Nat.zero_mul,Nat.zero_add]at hv;rw[if_pos pc]at hr;exact⟨v,by simpa using hv,by rw[if_pos pc];exact hr.mono (hex _)⟩
        by_cases j1:j<off
        ·rw[if_pos j1]at hj ⊢;exact Mv l hj
        ·rw[if_neg j1]at hj ⊢;by_cases j2:j<off+c.cells.length
         ·rw[if_pos j2]at hj;rw[if_pos (by omega)]
          obtain⟨v,hv,hr⟩:=hy.get hj;exact⟨v,hv,by rw[if_pos pc];exact hr.mono (hex _)⟩
         ·rw[if_neg j2]at hj;rw[if_neg (by omega)]
          exact Mv l hj
    ·cases hf
   ·cases hf
  ·cases hf
theorem Rx{t:TypeId}{x y:Operand}(hop:o.op=.store t x y)(hf:OP P h L t x y hs=some r)(cR:c6 r.fl)(hF:∀t,AR w M φ (L t) (a.tmps.getD t undef))(hW:Wd Γ φ M hD w)(eD:∀id ob,h id=some ob→hD id=some ob):
  ∃w',(execOp a.eval o).run P w=.ok .skip w'∧Wo Γ φ M hD base w r undef w':=by
 unfold OP at hf;split at hf
 ·rename_i id sz row off o1 c o2 n Mv R fc h1 h2 ht;split at hf
  ·rename_i ob hid;cases hc:(!ob.box&&(ob.sz == sz&&n == c.cells.length)&&(Nat.ble (off+n) Mv.length&&c.cells.all Ma))with
   |false=>rw[hc]at hf;cases hf
   |true =>
    rw[hc]at hf;cases hf;simp only[Bool.and_eq_true,beq_iff_eq,Nat.ble_eq,Bool.not_eq_true']at hc;obtain⟨⟨pc,j9,hn⟩,L9,XQ⟩:=hc;simp only[bm,c6]at cR;obtain⟨⟨p1,p2⟩,pM,hR,-⟩:=cR;have hO:=hW.fl id ob (eD id ob hid);obtain⟨b,C,C9,hv⟩:uK w M φ (.op id sz row off) (a.eval x):=b7 hF h1 p1 trivial;have hy:=(b7 hF h2 p2 trivial).cells;obtain⟨h0,On⟩:=hO.oc (.inl pc);rw[C9]at On;obtain⟨cur,g1,g2,g3,g4,g5,g6⟩:=On;obtain⟨hm,Qjl,Px⟩:=hW.own id ob b C (eD id ob hid) C9;have XM:(a.eval y).cells.size=n:=by rw[←Array.length_toList,←hy.len,hn]
    have hex:Ex w M φ (w.setRow b (cur.toList.take (row*sz+off)++(a.eval y).cells.toList++cur.toList.drop (row*sz+off+(a.eval y).cells.toList.length)).toArray) M φ:=⟨fun c hc=>setRow_other w b c _ fun e=>hm (e▸hc),fun _ h=>h,fun _ _ h=>h⟩
    have Tx:Mv.length=ob.sz:=(g6 row Mv pM).1;have QhK:=(List.getElem?_eq_some_iff.1 pM).1;have hle:(row+1)*ob.sz≤cur.size:=by rw[g2];exact Nat.mul_le_mul_right _ (by omega)
    rw[Nat.add_mul,Nat.one_mul]at hle;have hvl:=hy.len;have QlR:cur.toList.length=cur.size:=Array.length_toList;subst j9;have c8:=wD (P:=P) (p:=row*ob.sz+off) ht XM g1 (by omega) (Rs.Mi hy)
    refine⟨w.setRow b (cur.toList.take (row*ob.sz+off)++(a.eval y).cells.toList++cur.toList.drop (row*ob.sz+off+(a.eval y).cells.toList.length)).toArray,by simp only[execOp,hop,hv,Instr.storeAt,Instr.sureAddr,Sem.run_bind,Sem.run_pure,Result.andThen_ok,c8],?_⟩
    suffices hs:Wd Γ φ M (fun i=>if i=id then some {ob with rows:=R}else hD i) (w.setRow b (cur.toList.take (row*ob.sz+off)++(a.eval y).cells.toList++cur.toList.drop (row*ob.sz+off+(a.eval y).cells.toList.length)).toArray)∧Ex w M φ (w.setRow b (cur.toList.take (row*ob.sz+off)++(a.eval y).cells.toList++cur.toList.drop (row*ob.sz+off+(a.eval y).cells.toList.length)).toArray) M φ by
     exact⟨φ,M,trivial,by rw[rN,As];exact hs.1,hs.2,fun _ h=>.inl h⟩
    refine hW.write (ye:={ob with rows:=R}) (eD id ob hid) C9 g1 (.inl ⟨h0,?_⟩);rw[C9];refine⟨_,setRow_heap w b cur _ ob.Ey (0,0) g1,?_,by rw[←hR];simpa using g3,g4,g5,fun i d hd=>?_⟩
    ·rw[←g2];simp;omega
    ·have TW:∀i (d:List Lf) j l,ob.rows[i]?=some d→d[j]?=some l→∃v,cur.toList[i*ob.sz+j]?=some v∧(if ob.box=true then LR (w.setRow b (cur.toList.take (row*ob.sz+off)++(a.eval y).cells.toList++cur.toList.drop (row*ob.sz+off+(a.eval y).cells.toList.length)).toArray) M φ l v else IR (w.setRow b (cur.toList.take (row*ob.sz+off)++(a.eval y).cells.toList++cur.toList.drop (row*ob.sz+off+(a.eval y).cells.toList.length)).toArray) M l v):=fun i d j l hd hl=>by
      obtain⟨v,hv,hr⟩:=(g6 i d hd).2 j l hl;rw[pc]at hr;exact⟨v,by simpa using hv,by rw[pc];exact IR.mono hex.WL hex.sub (by simpa using hr)⟩
     by_cases hi:i=row
     ·subst hi;rw[←hR,List.getElem?_set_self QhK]at hd;obtain rfl:=Option.some.inj hd;refine⟨by simp;omega,fun j l hj=>?_⟩
      rw[hn,pb (by omega)]at hj
      rw[List.getElem?_toArray,pb (by omega)]
      by_cases j1:j<off
      ·rw[if_pos j1]at hj;rw[if_pos (show i*ob.sz+j<i*ob.sz+off by omega)];exact TW i Mv j l pM hj
      ·rw[if_neg j1]at hj;rw[if_neg (show ¬i*ob.sz+j<i*ob.sz+off by omega)]
       by_cases j2:j<off+c.cells.length
       ·rw[if_pos j2]at hj;rw[if_pos (show i*ob.sz+j<i*ob.sz+off+(a.eval y).cells.toList.length by omega)]
        obtain⟨v,hv,hr⟩:=hy.get hj;refine⟨v,by rw[show i*ob.sz+j-(i*ob.sz+off)=j-off by omega];exact hv,?_⟩
        rw[pc];exact IR.mono hex.WL hex.sub (LR.NN (List.all_eq_true.1 XQ l (List.mem_of_getElem? hj)) hr)
       ·rw[if_neg j2]at hj;rw[if_neg (show ¬i*ob.sz+j<i*ob.sz+off+(a.eval y).cells.toList.length by omega)];exact TW i Mv j l pM hj
     ·rw[←hR,List.getElem?_set_ne (Ne.symm hi)]at hd;have hdl:=(g6 i d hd).1;refine⟨hdl,fun j l hj=>?_⟩
      have hjl:=(List.getElem?_eq_some_iff.1 hj).1;rw[List.getElem?_toArray,pb (by omega)]
      rcases Nat.lt_or_ge i row with h5|h5
      ·have:(i+1)*ob.sz≤row*ob.sz:=Nat.mul_le_mul_right _ h5;rw[Nat.add_mul,Nat.one_mul]at this;rw[if_pos (show i*ob.sz+j<row*ob.sz+off by omega)];exact TW i d j l hd hj
      ·have:(row+1)*ob.sz≤i*ob.sz:=Nat.mul_le_mul_right _ (by omega)
       rw[Nat.add_mul,Nat.one_mul]at this;rw[if_neg (show ¬i*ob.sz+j<row*ob.sz+off by omega),if_neg (show ¬i*ob.sz+j<row*ob.sz+off+(a.eval y).cells.toList.length by omega)];exact TW i d j l hd hj
  ·cases hf
 ·cases hf
theorem YN{t:TypeId}{m k v:Operand}(hop:o.op=.mapUpdate t m k v)(hf:QfG P h L t m k v hs=some r)(cR:c6 r.fl)(hF:∀t,AR w M φ (L t) (a.tmps.getD t undef))(hW:Wd Γ φ M hD w)(eD:∀id ob,h id=some ob→hD id=some ob):
  ∃w',(execOp a.eval o).run P w=.ok .skip w'∧Wo Γ φ M hD base w r undef w':=by
 unfold QfG at hf;split at hf
 ·rename_i kt vt id o1 kl o2 vl o3 R fc hu h1 h2 h3;split at hf
  ·rename_i ob hid;split at hf
   ·rename_i rs hm;cases hc:(ob.box&&Ma vl&&FJ P kt kl)with
    |false=>rw[hc]at hf;cases hf
    |true =>
     rw[hc]at hf;cases hf;simp only[Bool.and_eq_true]at hc;simp only[bm,c6]at cR;obtain⟨b,hφ,hv⟩:uK w M φ (.mp id) (a.eval m):=b7 hF h1 cR.1.1.1 trivial;have hk:CR w M φ kl (a.eval k):=b7 hF h2 cR.1.1.2 trivial;have hx:LR w M φ vl (a.eval v):=b7 hF h3 cR.1.2 trivial;have Uv:=PF hc.2 hk;have Qhw:=eD id ob hid;obtain⟨b',es,O_,g1,g2,g3,g4⟩:=IC (hW.fl id ob Qhw) hm hc.1.1;rw[hφ]at g1;cases g1;have hck:=Uv.check false
     -- Qu map as it is left
     have key:∀(es':Array MapEntry) (QbY:Nat),Rs (zt w M) R es'.toList→(execOp a.eval o).run P w=.ok .skip {w with heap:=w.heap.setIfInBounds b (.map es' QbY)}→
       ∃w',(execOp a.eval o).run P w=.ok .skip w'∧Wo Γ φ M hD base w ⟨.Lz,[(id,some {ob with rows:=[] :: [] ::R})],[],o1++o2++o3++[zZ rs kl.cells vl=some R],fc⟩ undef w':=fun es' QbY hR c8=>by
      obtain⟨k1,k2⟩:=Go.MapKept.heap_set (o':=.map es' QbY) g2;have hm0:=(hW.own id ob b 1 Qhw hφ).1;have hex:Ex w M φ {w with heap:=w.heap.setIfInBounds b (.map es' QbY)} M φ:=⟨fun c hc=>k2 c fun e=>hm0 (e▸hc),fun _ h=>h,fun _ _ h=>h⟩
      refine⟨_,c8,φ,M,trivial,?_,hex,fun _ h=>.inl h⟩
      rw[rN,As];exact hW.QfC Qhw hφ (fun c hc=>k2 c hc) (by simp) rfl rfl rfl (.inr ⟨hc.1.1,R,b,es',QbY,rfl,hφ,k1,hR.mono fun _ _ h=>zt.mono hex.WL hex.sub h⟩)
     rcases Uv.put (LR.NN hc.1.2 hx) g3 cR.2.1 with⟨q1,q2⟩|⟨j,u,e,q1,q2,q3,q4⟩
     ·refine key (es.push {key:=a.eval k,val:=a.eval v,born:=O_}) (O_+1) (by rw[Array.toList_push];exact q2 O_) ?_
      simp [execOp,hop,hv,Instr.mapUpdate,run_underlying hu,Go.MapKept.run_getObj_map g2,hck,q1,Go.MapKept.run_setObj_map _ g2,Result.andThen]
     ·have hej:es[j]?=some e:=by rw[←Array.getElem?_toList];exact q2
      have kK:=Uv.stays;refine key (es.modify j fun e=>{e with key:=a.eval k,val:=a.eval v}) O_ ?_ ?_
      ·have:(es.modify j fun e=>{e with key:=a.eval k,val:=a.eval v}).toList=es.toList.set j {e with key:=a.eval k,val:=a.eval v}:=by
        apply List.ext_getElem?;intro i;rw[Array.getElem?_toList,Array.getElem?_modify,List.getElem?_set];by_cases QX:j=i
        ·subst QX;have jU:=(List.getElem?_eq_some_iff.1 q2).1;have QjJ:j<es.size:=by simpa using jU
         have L7:es[j]=e:=by rw[Array.getElem?_eq_getElem QjJ]at hej;exact Option.some.inj hej
         simp [QjJ,L7]
        ·simp [QX]
       rw[this];exact q4
      ·have hkk:(((es[j]?).map (·.key)).getD (a.eval k))=a.eval k:=by rw[hej];exact q3
       simp only[Option.map]at hkk;simp [execOp,hop,hv,Instr.mapUpdate,run_underlying hu,Go.MapKept.run_getObj_map g2,hck,q1,Result.andThen];rw[hej];simp [q3,kK,Go.MapKept.run_setObj_map _ g2,Result.andThen]
   ·cases hf
  ·cases hf
 ·cases hf
theorem YM{t:TypeId}{x hi:Operand}(hop:o.op=.slice t x none (some hi) none)(hf:QfF P h L t x hi hs=some r)(cR:c6 r.fl)(hF:∀t,AR w M φ (L t) (a.tmps.getD t undef))(hW:Wd Γ φ M hD w)(eD:∀id ob,h id=some ob→hD id=some ob):
  ∃v,(execOp a.eval o).run P w=.ok (.value v) w∧Wo Γ φ M hD base w r v w:=by
 unfold QfF at hf;split at hf
 ·rename_i id sz off len o1 kd n o2 e R fc h1 h2 he;split at hf
  ·rename_i ob hid;cases hc:(off == 0&&ob.sz == sz&&!ob.box&&Ar P e == some sz)with
   |false=>rw[hc]at hf;cases hf
   |true =>
    rw[hc]at hf;cases hf;simp only[Bool.and_eq_true,beq_iff_eq,Bool.not_eq_true']at hc;obtain⟨⟨⟨rfl,j9⟩,pc⟩,hts⟩:=hc;simp only[bm,c6]at cR;obtain⟨⟨p1,p2⟩,hlen,zO,RY,hR,-⟩:=cR;have hu:=ir he;obtain⟨i,hi2,his⟩:=nM hts;have hx:uK w M φ (.os id sz 0 len) (a.eval x):=b7 hF h1 p1 trivial;have hh:IR w M (.int kd n) (a.eval hi):=b7 hF h2 p2 trivial;generalize NL:a.eval hi=hv at hh;cases hh;replace hid:=eD _ _ hid;have hO:=hW.fl id ob hid;have NI:R.length=n.toNat:=by rw[←hR,List.length_take];omega
    have c8:∀v,(Instr.sliceAt t (a.eval x) none (some (.int kd n)) none).run P w=.ok v w→(execOp a.eval o).run P w=.ok (.value v) w:=fun v hv=>by simp [execOp,hop,NL,hv]
    have hex:Ex w M φ w M φ:=⟨fun _ _=>rfl,fun _ h=>h,fun _ _ h=>h⟩
    rcases hx with⟨b,C,C9,hv,hle⟩|⟨C9,_,RX,A,hv⟩
    ·rw[hv]at c8;obtain⟨XU,On⟩:=hO.oc (.inl pc);rw[C9]at On;obtain⟨cur,g1,g2,g3,g4,g5,g6⟩:=On;have hb:=xB (P:=P) (w:=w) (Zq:=true) (len:=len) (cap:=C-0) (lo:=none) (hi:=some (.int kd n)) (mx:=none) (ql:=none) (qh:=some n) (qm:=none) (.inl ⟨rfl,rfl⟩) (.inr ⟨kd,n,rfl,rfl⟩) (.inl ⟨rfl,rfl⟩) (fun h=>by cases h) (by simp) (by simpa using zO) (by simp only[Option.getD_some,Option.getD_none];omega) (by simp) (by omega)
     have WT:=c8 _ (Ah hu hi2 hb);refine⟨_,WT,φ,M,?_,?_,hex,fun _ h=>.inl h⟩
     ·refine .inl ⟨b,C,C9,?_,by omega⟩
      have z0:((none:Option Int).getD 0).toNat=0:=rfl;have z1:((some n).getD (len:Int)).toNat=R.length:=by simp [NI]
      have z2:((none:Option Int).getD ((C-0:Nat):Int)).toNat=C:=by simp
      rw[z0,z1,z2];simp only[Nat.sub_zero,Nat.zero_mul,Option.map_some];split <;> simp [Addr.add_mid]
     ·rw[rN,As];refine hW.QfC hid C9 (fun _ _=>rfl) rfl rfl rfl rfl (.inl ⟨XU,?_⟩)
      rw[C9];refine⟨cur,g1,g2,by simp only;omega,g4,g5,fun j c hc=>g6 j c ?_⟩
      simp only at hc;rw[←hR,List.getElem?_take]at hc;split at hc
      ·exact hc
      ·cases hc
    ·rw[hv]at c8;have xo:ob.rows=[]:=List.eq_nil_of_length_eq_zero (by omega)
     have hn:n=0:=by rw[xo]at RY;simp only[List.length_nil,Int.natCast_zero]at RY;omega
     have Vq:R=[]:=by rw[←hR,xo];simp
     subst Vq;have hb:=xB (P:=P) (w:=w) (Zq:=true) (len:=0) (cap:=0) (lo:=none) (hi:=some (.int kd n)) (mx:=none) (ql:=none) (qh:=some n) (qm:=none) (.inl ⟨rfl,rfl⟩) (.inr ⟨kd,n,rfl,rfl⟩) (.inl ⟨rfl,rfl⟩) (fun h=>by cases h) (by simp) (by simpa using zO) (by simp only[Option.getD_some,Option.getD_none];omega) (by simp) (by omega)
     have WT:=c8 _ (Ah hu hi2 hb);refine⟨_,WT,φ,M,?_,?_,hex,fun _ h=>.inl h⟩
     ·subst hn;exact .inr ⟨C9,rfl,rfl,A,rfl⟩
     ·rw[rN,As];have:(fun i=>if i=id then some {ob with rows:=[]}else hD i)=hD:=by
       funext i
       by_cases hi:i=id
       ·subst hi;rw[if_pos rfl,hid];cases ob;simp only at xo;rw[xo]
       ·rw[if_neg hi]
      rw[this];exact hW
  ·cases hf
 ·cases hf
theorem SQ(hf:wop P h base L o.op hs=some r)(cR:c6 r.fl)(hF:∀t,AR w M φ (L t) (a.tmps.getD t undef))(hW:Wd Γ φ M hD w)(eD:∀id ob,h id=some ob→hD id=some ob)
  (tg:∀id,base≤id→id<base+r.news.length→φ id=none∧hD id=none) {K:Act→World→Prop}
  (hK:∀v w',Wo Γ φ M hD base w r v w'→K (a.put o.dst v) w'):o.wp P a w K NQ:=by
 cases ho:o.op with
 |store t x y =>
  rw[ho]at hf;simp only[wop]at hf;split at hf
  ·rename_i r0 xo;cases hf;obtain⟨w',c8,hm⟩:=Up (base:=base) ho xo cR hF hW eD;unfold Oper.wp;rw[c8];exact hK undef w' hm
  ·obtain⟨w',c8,hm⟩:=Rx (base:=base) ho hf cR hF hW eD;unfold Oper.wp;rw[c8];exact hK undef w' hm
 |mapUpdate t m k v =>
  rw[ho]at hf;obtain⟨w',c8,hm⟩:=YN (base:=base) ho hf cR hF hW eD;unfold Oper.wp;rw[c8];exact hK undef w' hm
 |slice t x lo hi mx =>
  rw[ho]at hf;cases lo with
  |some _=>simp only[wop]at hf;cases hf
  |none =>
   cases hi with
   |none=>simp only[wop]at hf;cases hf
   |some hi =>
    cases mx with
    |some _=>simp only[wop]at hf;cases hf
    |none =>
     simp only[wop]at hf;obtain⟨v,c8,hm⟩:=YM (base:=base) ho hf cR hF hW eD;unfold Oper.wp;rw[c8];exact hK v w hm
 |call c =>
  rw[ho]at hf;simp only[wop]at hf;split at hf
  ·rename_i hc;obtain⟨v,w',c8,hm⟩:=Rw hW eD hF tg ho hc hf cR;unfold Oper.wp;rw[c8];exact hK v w' hm
  ·split at hf
   ·rename_i r0 xo;cases hf;exact WE ho xo cR hF hW eD tg hK
   ·exact WG ho hf cR hF hW eD hK
 |_=>rw[ho]at hf;simp only[wop]at hf;cases hf
theorem Qx{op:Op}(hf:wop P h base L op hs=some r):∀u∈r.yu,∃ob,h u.1=some ob:=by
 unfold wop at hf;split at hf
 ·rename_i t x y;split at hf
  ·rename_i r0 kK;cases hf;unfold Uo at kK;split at kK
   ·split at kK
    ·rename_i ob hid;split at kK
     ·have kS:∀{c:Bool} {x:Option Wr},(bif c then x else none)=some r→x=some r:=by
       intro c x hc;cases c
       ·cases hc
       ·exact hc
      cases kS kK;intro u hu;simp only[List.mem_singleton]at hu;subst hu;exact⟨ob,hid⟩
     ·cases kK
    ·cases kK
   ·cases kK
  ·unfold OP at hf;split at hf
   ·split at hf
    ·rename_i ob hid;have kS:∀{c:Bool} {x:Option Wr},(bif c then x else none)=some r→x=some r:=by
      intro c x hc;cases c
      ·cases hc
      ·exact hc
     cases kS hf;intro u hu;simp only[List.mem_singleton]at hu;subst hu;exact⟨ob,hid⟩
    ·cases hf
   ·cases hf
 ·unfold QfG at hf;split at hf
  ·split at hf
   ·rename_i ob hid;split at hf
    ·have kS:∀{c:Bool} {x:Option Wr},(bif c then x else none)=some r→x=some r:=by
      intro c x hc;cases c
      ·cases hc
      ·exact hc
     cases kS hf;intro u hu;simp only[List.mem_singleton]at hu;subst hu;exact⟨ob,hid⟩
    ·cases hf
   ·cases hf
  ·cases hf
 ·unfold QfF at hf;split at hf
  ·split at hf
   ·rename_i ob hid;have kS:∀{c:Bool} {x:Option Wr},(bif c then x else none)=some r→x=some r:=by
     intro c x hc;cases c
     ·cases hc
     ·exact hc
    cases kS hf;intro u hu;simp only[List.mem_singleton]at hu;subst hu;exact⟨ob,hid⟩
   ·cases hf
  ·cases hf
 ·rename_i c;split at hf
  ·unfold OO at hf;split at hf
   ·split at hf
    ·rename_i e ob W6 new o2 he hid hro;split at hf
     ·have kS:∀{c:Bool} {x:Option Wr},(bif c then x else none)=some r→x=some r:=by
       intro c x hc;cases c
       ·cases hc
       ·exact hc
      cases kS hf;intro u hu;simp only[List.mem_singleton]at hu;subst hu;exact⟨ob,hid⟩
     ·cases hf
    ·cases hf
   ·cases hf
  ·split at hf
   ·rename_i r0 xo;cases hf;unfold ZX at xo;split at xo
    ·split at xo
     ·split at xo
      ·rename_i wj wk hp0 Vx;have kS:∀{c:Bool} {x:Option Wr},(bif c then x else none)=some r→x=some r:=by
        intro c x hc;cases c
        ·cases hc
        ·exact hc
       cases kS xo;obtain⟨-,hpk⟩:=IS hp0;have tZ:∀i,i∈(‹List Nat›:List Nat)→True:=fun _ _=>trivial
       intro u hu;simp only[List.mem_append]at hu;have pq:∀i,i∈_→∃ob,h i=some ob:=fun i hi=>by
        obtain⟨j,hj⟩:=List.mem_iff_getElem?.1 hi;obtain⟨ob,-,g⟩:=hpk j i hj;exact⟨ob,g⟩
       rcases hu with hu|hu
       ·refine pq _ ?_
        have key:∀{m:Nat→Option Nat} {is:List Nat} {os:List Ob},u∈QL m is os→u.1∈is:=by
         intro m is;induction is with
         |nil=>intro os h;cases h
         |cons x is ih =>
          intro os h;cases os with
          |nil=>cases h
          |cons y os =>
           simp only[QL,List.mem_cons]at h;rcases h with rfl|h
           ·simp
           ·exact List.mem_cons_of_mem _ (ih h)
        exact List.mem_of_mem_take (key hu)
       ·unfold U5 at hu;obtain⟨i,hi,rfl⟩:=List.mem_map.1 hu;exact pq _ (List.mem_of_mem_drop hi)
      ·cases xo
     ·cases xo
    ·cases xo
   ·unfold ZY at hf;split at hf
    ·split at hf
     ·split at hf
      ·rename_i ob hid;have kS:∀{c:Bool} {x:Option Wr},(bif c then x else none)=some r→x=some r:=by
        intro c x hc;cases c
        ·cases hc
        ·exact hc
       cases kS hf;intro u hu;simp only[List.mem_singleton]at hu;subst hu;exact⟨ob,hid⟩
      ·cases hf
     ·cases hf
    ·cases hf
 ·cases hf
end
end
section
open Go.RowKit
section
variable {P : Program} {Γ : bu} {φ φ' : Pl} {M M' : Nat → Prop} {h : Nat → Option Ob} {w w' : World} {a : Act} {hs : List Hint} {o : Oper} {H : List (Option Ob)} {L : List (Nat × AV)}
theorem QaN{r:Mes}(hW:Wd Γ φ M (hl H) w)(hF:∀t,AR w M φ (look L t) (a.tmps.getD t undef))(hφ:∀id,H.length≤id→φ id=none)(hf:mop P H (look L) o.op hs=some r)(cR:c6 r.fl){K:Act→World→Prop}
  (hK:∀v w',Md Γ φ M w r v w'→K (a.put o.dst v) w'):o.wp P a w K NQ:=by
 cases ho:o.op with
 |store t x y =>
  obtain⟨w',c8,hm⟩:=Wv hW hF hφ ho hf cR;unfold Oper.wp;rw[c8];exact hK undef w' hm
 |call c =>
  have hf':=hf;rw[ho]at hf';simp only[mop]at hf';split at hf'
  ·rename_i hc;obtain⟨v,w',c8,hm⟩:=Qk hW hF hφ ho hc hf cR;unfold Oper.wp;rw[c8];exact hK v w' hm
  ·cases hf'
 |_=>rw[ho]at hf;simp only[mop]at hf;cases hf
def Qi4(Γ:bu)(σ:SS)(tm:Array Value)(w:World)(φ:Pl)(M:Nat→Prop):Prop:=
 (∀t,AR w M φ (look σ.L t) (tm.getD t undef))∧Wd Γ φ M (hl σ.H) w∧(∀id,σ.H.length≤id→φ id=none)
section
variable {f : Lf → Lf × List Prop} (hf : ∀ l v, LR w M φ l v → c6 (f l).2 → LR w M' φ (f l).1 v)
include hf
theorem Y8:∀{ls:List Lf} {vs:List Value},Rs (LR w M φ) ls vs→c6 (Co f ls).2→Rs (LR w M' φ) (Co f ls).1 vs
 | [],[],_,_=>trivial
 |l ::ls,v ::vs,h,ho=>by
  simp only[Co,bm]at ho ⊢;exact⟨hf l v h.1 ho.1,Y8 h.2 ho.2⟩
 | [],_ ::_,h,_=>h.elim
 |_ ::_,[],h,_=>h.elim
theorem Qcg{c:Cm}{v:Value}(h:CR w M φ c v)(ho:c6 (gmC f c).2):CR w M' φ (gmC f c).1 v:=by
 cases c with
 |one l=>exact hf l v h ho
 |agg ls=>obtain⟨vs,e,hr⟩:=h;exact⟨vs,e,Y8 hf hr ho⟩
theorem Y7:∀{ls:List Cm} {vs:List Value},Rs (CR w M φ) ls vs→c6 (XF f ls).2→Rs (CR w M' φ) (XF f ls).1 vs
 | [],[],_,_=>trivial
 |l ::ls,v ::vs,h,ho=>by
  simp only[XF,bm]at ho ⊢;exact⟨Qcg hf h.1 ho.1,Y7 h.2 ho.2⟩
 | [],_ ::_,h,_=>h.elim
 |_ ::_,[],h,_=>h.elim
theorem Qet(he:Ex w M φ w M' φ){c:AV}{v:Value}(h:AR w M φ c v)(ho:c6 (Qal f c).2):AR w M' φ (Qal f c).1 v:=by
 cases c with
 |cm c=>exact Qcg hf h ho
 |jx cs=>obtain⟨vs,e,hr⟩:=h;exact⟨vs,e,Y7 hf hr ho⟩
 |gd p c=>exact AR.mono he (c:=.gd p c) h
 |Lz=>trivial
 |Xp=>exact h
 |vl u c=>exact AR.mono he (c:=.vl u c) h
omit hf in
theorem Zy(f:Lf→Lf×List Prop)(t:Nat):∀L:List (Nat×AV),look (sG f L).1 t=(Qal f (look L t)).1∧(c6 (sG f L).2→c6 (Qal f (look L t)).2)
 | []=>⟨rfl,fun _=>trivial⟩
 |(k,v) ::L=>by
  obtain⟨h1,h2⟩:=Zy f t L;simp only[sG,look,bm];cases hk:(k == t)with
  |true=>exact⟨rfl,fun h=>h.1⟩
  |false=>exact⟨h1,fun h=>h2 h.2⟩
theorem Is(he:Ex w M φ w M' φ){tm:Array Value}{L:List (Nat×AV)}(h:∀t,AR w M φ (look L t) (tm.getD t undef))(ho:c6 (sG f L).2):∀t,AR w M' φ (look (sG f L).1 t) (tm.getD t undef):=fun t=>by
 obtain⟨h1,h2⟩:=Zy f t L;rw[h1];exact Qet hf he (h t) (h2 ho)
omit hf in
theorem Vn:∀{ls:List Lf},(Co f ls).1.length=ls.length
 | []=>rfl
 |l ::ls=>by simp [Co,Vn (ls:=ls)]
omit hf in
theorem Vm:∀{ls:List Lf} {j:Nat} {l':Lf},(Co f ls).1[j]?=some l'→∃l,ls[j]?=some l∧l'=(f l).1∧(c6 (Co f ls).2→c6 (f l).2)
 | [],_,_,h=>by simp [Co]at h
 |l ::ls,0,l',h=>by simp [Co]at h;exact⟨l,rfl,h.symm,fun ho=>by simp only[Co,bm]at ho;exact ho.1⟩
 |l ::ls,j+1,l',h=>by
  obtain⟨x,h1,h2,h3⟩:=Vm (ls:=ls) (j:=j) (l':=l') (by simpa [Co]using h)
  exact⟨x,by simpa using h1,h2,fun ho=>h3 (by simp only[Co,bm]at ho;exact ho.2)⟩
omit hf in
theorem Pp:∀{rs:List (List Lf)} {i:Nat} {c':List Lf},(xn f rs).1[i]?=some c'→∃c,rs[i]?=some c∧c'=(Co f c).1∧(c6 (xn f rs).2→c6 (Co f c).2)
 | [],_,_,h=>by simp [xn]at h
 |r ::rs,0,c',h=>by simp [xn]at h;exact⟨r,rfl,h.symm,fun ho=>by simp only[xn,bm]at ho;exact ho.1⟩
 |r ::rs,i+1,c',h=>by
  obtain⟨x,h1,h2,h3⟩:=Pp (rs:=rs) (i:=i) (c':=c') (by simpa [xn]using h)
  exact⟨x,by simpa using h1,h2,fun ho=>h3 (by simp only[xn,bm]at ho;exact ho.2)⟩
omit hf in
theorem Pq:∀{rs:List (List Lf)},(xn f rs).1.length=rs.length
 | []=>rfl
 |r ::rs=>by simp [xn,Pq (rs:=rs)]
omit hf in
theorem Qf_:∀{H:List (Option Ob)} {id:Nat},hl (Ut f H).1 id=(To f (hl H id)).1∧(c6 (Ut f H).2→c6 (To f (hl H id)).2)
 | [],id=>⟨by simp [Ut,hl,To],fun _=>by simp [hl,To,c6]⟩
 |x ::H,0=>by
  simp only[Ut,bm];exact⟨by simp [hl],fun h=>by simpa [hl]using h.1⟩
 |x ::H,id+1=>by
  obtain⟨h1,h2⟩:=Qf_ (H:=H) (id:=id);simp only[Ut,bm];exact⟨by simpa [hl]using h1,fun h=>by simpa [hl]using h2 h.2⟩
omit hf in
theorem Om:∀{H:List (Option Ob)},(Ut f H).1.length=H.length
 | []=>rfl
 |x ::H=>by simp [Ut,Om (H:=H)]
theorem Qeu(he:Ex w M φ w M' φ){id:Nat}{ob ye:Ob}(hO:OR w M φ id ob)(hg:(To f (some ob)).1=some ye)(ho:c6 (To f (some ob)).2):OR w M' φ id ye∧ye.box=ob.box:=by
 unfold To at hg ho;rcases hO with hO|⟨hb,rs,b,es,O_,h1,h2⟩
 rotate_left
 ·have hm:isMap ob=true:=by unfold isMap;rw[h1];rfl
  simp only[hb,hm,Bool.not_true,Bool.and_false,cond_false]at hg;cases hg;exact⟨OR.mono he (.inr ⟨hb,rs,b,es,O_,h1,h2⟩) fun _ _ _=>rfl,rfl⟩
 cases hb:ob.box with
 |false=>simp only[hb,Bool.false_and,cond_false]at hg;cases hg;exact⟨OR.mono he (.inl hO) fun _ _ _=>rfl,hb⟩
 |true =>
  have hm:=hO.Qgu hb;simp only[hb,hm,Bool.not_false,Bool.and_true,cond_true]at hg ho;cases hg;refine⟨?_,rfl⟩;obtain⟨h0,h1⟩:=hO;refine .inl ⟨h0,?_⟩;cases hφ:φ id with
  |none=>rw[hφ]at h1;exact h1.elim
  |some p =>
   rw[hφ]at h1;cases p with
   |none=>rw[hb]at h1;cases h1.2
   |some bc =>
    obtain⟨b,C⟩:=bc;obtain⟨cur,g1,g2,g3,g4,g5,g6⟩:=h1;refine⟨cur,g1,g2,by rw[Pq];exact g3,g4,fun _=>g5 hb,fun i c' hc=>?_⟩
    obtain⟨c,Uu,rfl,Ay⟩:=Pp hc;refine⟨by rw[Vn];exact(g6 i c Uu).1,fun j l' hj=>?_⟩
    obtain⟨l,hl1,rfl,Zf⟩:=Vm hj;obtain⟨v,hv,hr⟩:=(g6 i c Uu).2 j l hl1;rw[if_pos hb]at hr;exact⟨v,hv,by show(if true=true then _ else _);rw[if_pos rfl];exact hf l v hr (Zf (Ay ho))⟩
theorem Qg6(he:Ex w M φ w M' φ)(hW:Wd Γ φ M (hl H) w)(ho:c6 (Ut f H).2)(hm:∀b,M' b→M b∨(b<w.heap.size∧(Γ.Qdb b∨Γ.w0.heap.size≤b)∧∀id ob C,hl H id=some ob→φ id≠some (some (b,C)))):Wd Γ φ M' (hl (Ut f H).1) w:=by
 have back:∀id ye,hl (Ut f H).1 id=some ye→∃ob,hl H id=some ob∧OR w M' φ id ye:=fun id ye e=>by
  obtain⟨h1,h2⟩:=Qf_ (f:=f) (H:=H) (id:=id);rw[h1]at e;cases hh:hl H id with
  |none=>rw[hh]at e;cases e
  |some ob =>
   rw[hh]at e h2;exact⟨ob,rfl,(Qeu hf he (hW.fl id ob hh) e (h2 ho)).1⟩
 refine⟨fun id ye e=>(back id ye e).choose_spec.2,fun i j oi oj b Ci Cj hi hj=>hW.inj i j _ _ b Ci Cj (back i oi hi).choose_spec.1 (back j oj hj).choose_spec.1,fun b hb=>?_,fun b hb=>he.sub b (hW.m0 b hb),fun b hb=>?_,fun id ye b C e p=>?_,hW.FI,hW.os,hW.tape,hW.output,hW.size,hW.EV,hW.tbw⟩
 ·rcases hm b hb with h|h
  ·exact hW.mlt b h
  ·exact h.1
 ·rcases hm b hb with h|h
  ·exact hW.ID b h
  ·exact .inr h.2.1
 ·obtain⟨ob,Pw,-⟩:=back id ye e;have:=hW.own id ob b C Pw p;refine⟨fun hb=>?_,this.2⟩
  rcases hm b hb with h|h
  ·exact this.1 h
  ·exact h.2.2 id ob C Pw p
end
theorem Qh9{M2:Nat→Prop}{id sz len:Nat}{ob:Ob}{v:Value}(hO:OR w M φ id ob)(pc:ob.box=false)(j9:ob.sz=sz)(hlen:ob.rows.length=len)(hv:uK w M φ (.os id sz 0 len) v)(hM:∀b,M b→M2 b)(hM2:∀b C,φ id=some (some (b,C))→M2 b):
  IR w M2 (.sl false sz ob.rows) v:=by
 rcases hv with⟨b,C,hφ,rfl,hle⟩|⟨hφ,_,rfl,A,rfl⟩
 ·obtain⟨h0,h1⟩:=hO.oc (.inl pc);rw[hφ]at h1;obtain⟨cur,g1,g2,g3,g4,g5,g6⟩:=h1;have pd:∀(i:Nat) (c:List Lf) (j:Nat) (l:Lf),ob.rows[i]?=some c→c[j]?=some l→w.cell? ⟨b,0*sz+i*sz+j,none⟩=some ((cur[i*sz+j]?).getD undef)∧IR w M2 l ((cur[i*sz+j]?).getD undef):=fun i c j l hc hj=>by
   obtain⟨u,hu,hr⟩:=(g6 i c hc).2 j l hj;rw[pc]at hr;rw[j9]at hu;refine⟨?_,by rw[hu];exact IR.mono (fun _ _=>rfl) hM (by simpa using hr)⟩
   simp only[World.cell?,g1,Nat.zero_mul,Nat.zero_add];simp [hu]
  have key:IR w M2 (.sl false sz ob.rows) (.slice (some ⟨b,0*sz,none⟩) ob.rows.length (C-0)):=
   IR.sl false sz ob.rows b (0*sz) (C-0) (fun i j=>(cur[i*sz+j]?).getD undef) (hM2 b C hφ) (by omega) (fun h=>by cases h) (fun i c hc=>by rw[(g6 i c hc).1,j9]) (fun i c j l hc hj=>(pd i c j l hc hj).1) (fun i c j l hc hj=>(pd i c j l hc hj).2)
  rw[hlen]at key;exact key
 ·have xo:ob.rows=[]:=List.eq_nil_of_length_eq_zero hlen;rw[xo];exact IR.OJ false sz A 0 fun h=>by cases h
theorem YP{sz:Nat}{l l':Lf}{v:Value}(h:wkL sz l=some l')(hv:LR w M φ l v):LR w M φ l' v:=by
 unfold wkL at h;split at h
 ·cases h;have L_:IR w M .cB v:=hv;cases L_;exact IR.lr (IR.OJ false sz none 0 fun h=>by cases h)
 ·rename_i cl s rows;cases h;have L_:IR w M (.sl cl s rows) v:=hv;cases L_ with
  |OJ _ _ A cap _=>exact IR.lr (IR.OJ false s A cap fun h=>by cases h)
  |sl _ _ _ b k cap vs hm hl Ee Jy hc hr=>exact IR.lr (IR.sl false s rows b k cap vs hm hl (fun h=>by cases h) Jy hc hr)
 ·cases h
theorem Rs.set{R:Lf→Value→Prop}:∀{ls:List Lf} {vs:List Value} {k:Nat} {l':Lf},Rs R ls vs→(∀v,vs[k]?=some v→R l' v)→Rs R (ls.set k l') vs
 | [],[],_,_,_,_=>trivial
 |l ::ls,v ::vs,0,l',h,hk=>⟨hk v rfl,h.2⟩
 |l ::ls,v ::vs,k+1,l',h,hk=>⟨h.1,Rs.set h.2 fun u hu=>hk u (by simpa using hu)⟩
 | [],_ ::_,_,_,h,_=>h.elim
 |_ ::_,[],_,_,h,_=>h.elim
theorem Qiv{k sz:Nat}{c c':Cm}{v:Value}(h:wkC k sz c=some c')(hv:CR w M φ c v):CR w M φ c' v:=by
 cases c with
 |one l =>
  simp only[wkC]at h;cases hk:(k == 0)with
  |false=>rw[hk]at h;cases h
  |true =>
   rw[hk]at h;simp only[cond_true]at h;cases hl:wkL sz l with
   |none=>rw[hl]at h;cases h
   |some l'=>rw[hl]at h;cases h;exact YP hl hv
 |agg ls =>
  simp only[wkC]at h;split at h
  ·rename_i l hk;cases hl:wkL sz l with
   |none=>rw[hl]at h;cases h
   |some l' =>
    rw[hl]at h;cases h;obtain⟨vs,e,hr⟩:=hv;refine⟨vs,e,Rs.set hr fun u hu=>?_⟩
    obtain⟨u',hu',QD⟩:=hr.get hk;rw[hu]at hu';cases hu';exact YP hl QD
  ·cases h
theorem UU{id k:Nat}{ob:Ob}{cells:List Lf}{l l':Lf}(hW:Wd Γ φ M (hl H) w)(hid:hl H id=some ob)(pc:ob.box=true)(iL:ob.rows=[cells])(hk:cells[k]?=some l)(EB:∀v,LR w M φ l v→LR w M φ l' v):
  Wd Γ φ M (hl (H.set id (some {ob with rows:=[cells.set k l']}))) w:=by
 have hO:=hW.fl id ob hid;obtain⟨h0,h1⟩:=hO.oc (.inr ⟨_,iL⟩);cases hφ:φ id with
 |none=>rw[hφ]at h1;exact h1.elim
 |some p =>
  cases p with
  |none=>rw[hφ,pc]at h1;cases h1.2
  |some bc =>
   obtain⟨b,C⟩:=bc;rw[hφ]at h1;obtain⟨cur,g1,g2,g3,g4,g5,g6⟩:=h1;rw[Tu (ly hid)];refine hW.QfC hid hφ (fun _ _=>rfl) rfl rfl rfl rfl (.inl ⟨h0,?_⟩)
   rw[hφ];refine⟨cur,g1,g2,by rw[iL]at g3;simpa using g3,g4,g5,fun i c hc=>?_⟩
   cases i with
   |succ i=>simp at hc
   |zero =>
    obtain rfl:=Option.some.inj (show some _=some c from hc);have h6:=g6 0 cells (by rw[iL];rfl)
    refine⟨by rw[List.length_set];exact h6.1,fun j x hj=>?_⟩
    by_cases hjk:j=k
    ·subst hjk;have jU:=(List.getElem?_eq_some_iff.1 hk).1;rw[List.getElem?_set_self jU]at hj;cases hj;obtain⟨v,hv,hr⟩:=h6.2 j l hk;rw[if_pos pc]at hr;exact⟨v,hv,by rw[if_pos pc];exact EB v hr⟩
    ·rw[List.getElem?_set_ne (Ne.symm hjk)]at hj;exact h6.2 j x hj
theorem Mh{t:Nat}{v:AV}{L:List (Nat×AV)}{tm:Array Value}(h:∀t,AR w M φ (look L t) (tm.getD t undef))(hv:AR w M φ v (tm.getD t undef)):∀u,AR w M φ (look ((t,v) ::L) u) (tm.getD u undef):=fun u=>by
 simp only[look];cases hk:(t == u)with
 |true=>simp only[beq_iff_eq]at hk;subst hk;exact hv
 |false=>exact h u
theorem oB{tm:Array Value}:∀{hs fc:List Hint} {σ σ':SS} {ob:List Prop} {φ:Pl} {M:Nat→Prop},ghost hs σ=some (σ',ob,fc)→c6 ob→Qi4 Γ σ tm w φ M→σ'.N=σ.N∧∃φ' M',Qi4 Γ σ' tm w φ' M'
 | [],_,σ,_,_,φ,M,hg,_,hS=>by simp only[ghost]at hg;cases hg;exact⟨rfl,φ,M,hS⟩
 |x ::hs,fc,σ,σ',ob,φ,M,hg,ho,hS=>by
  obtain⟨hF,hW,hφ⟩:=hS;cases x with
  |wait n =>
   cases n with
   |zero=>simp only[ghost]at hg;exact oB hg ho ⟨hF,hW,hφ⟩
   |succ n=>simp only[ghost]at hg;cases hg;exact⟨rfl,φ,M,hF,hW,hφ⟩
  |jn id =>
   simp only[ghost]at hg;split at hg
   ·rename_i o1 hid;cases pc:o1.box with
    |true=>rw[pc]at hg;cases hg
    |false =>
     rw[pc]at hg;simp only[cond_false]at hg;split at hg
     ·rename_i σ2 o2 Zm hg2;cases hg;simp only[bm]at ho;have hO:=hW.fl id o1 hid;have hM2:∀b,M b→(fun b=>M b∨∃C,φ id=some (some (b,C))) b:=fun _ h=>.inl h
      have he:Ex w M φ w (fun b=>M b∨∃C,φ id=some (some (b,C))) φ:=⟨fun _ _=>rfl,hM2,fun _ _ h=>h⟩
      have hf:∀l v,LR w M φ l v→c6 (XD id o1.sz o1.rows l).2→LR w (fun b=>M b∨∃C,φ id=some (some (b,C))) φ (XD id o1.sz o1.rows l).1 v:=fun l v hv hp=>by
       unfold XD at hp ⊢;split
       ·rename_i i s off len;cases hc:(i == id&&s == o1.sz&&off == 0)with
        |false=>exact hv.mono he
        |true =>
         simp only[hc,cond_true]at hp;simp only[Bool.and_eq_true,beq_iff_eq]at hc;obtain⟨⟨rfl,rfl⟩,rfl⟩:=hc;exact IR.lr (Qh9 hO pc rfl hp.1 hv hM2 fun b C h=>.inr ⟨C,h⟩)
       ·exact hv.mono he
      have hW0:Wd Γ φ M (hl (σ.H.set id none)) w:=hW.less fun k ye hk=>by
       by_cases hki:k=id
       ·subst hki;rw[uv (ly hid)]at hk;cases hk
       ·rw[zl hki]at hk;exact hk
      have hW1:=Qg6 hf he hW0 ho.1.2 fun b hb=>by
       rcases hb with h|⟨C,h⟩
       ·exact .inl h
       ·obtain⟨q1,q2,q3⟩:=hW.own id o1 b C hid h;refine .inr ⟨q2,q3,fun k ye C' hk hp=>?_⟩
        by_cases hki:k=id
        ·subst hki;rw[uv (ly hid)]at hk;cases hk
        ·rw[zl hki]at hk;exact hki (hW.inj k id ye o1 b C' C hk hid hp h)
      obtain⟨hN,φ',M',NJ⟩:=oB hg2 ho.2 ⟨Is hf he hF ho.1.1,hW1,fun k hk=>hφ k (by simpa [Om]using hk)⟩
      exact⟨hN,φ',M',NJ⟩
     ·cases hg
   ·cases hg
  |Qcd id =>
   simp only[ghost]at hg;split at hg
   ·rename_i o1 hid;split at hg
    ·rename_i cells pc iL;cases hi:cells.all Ma with
     |false=>rw[hi]at hg;cases hg
     |true =>
      rw[hi]at hg;simp only[cond_true]at hg;split at hg
      ·rename_i σ2 o2 Zm hg2;cases hg;simp only[bm]at ho;have hO:=hW.fl id o1 hid;have hM2:∀b,M b→(fun b=>M b∨∃C,φ id=some (some (b,C))) b:=fun _ h=>.inl h
       have he:Ex w M φ w (fun b=>M b∨∃C,φ id=some (some (b,C))) φ:=⟨fun _ _=>rfl,hM2,fun _ _ h=>h⟩
       have hf:∀l v,LR w M φ l v→c6 (Pn id o1.sz cells l).2→LR w (fun b=>M b∨∃C,φ id=some (some (b,C))) φ (Pn id o1.sz cells l).1 v:=fun l v hv hp=>by
        unfold Pn;split
        ·rename_i i s row off;cases hc:(i == id&&row == 0)with
         |false=>exact hv.mono he
         |true =>
          simp only[Bool.and_eq_true,beq_iff_eq]at hc;obtain⟨rfl,rfl⟩:=hc;obtain⟨b,C,hφb,rfl⟩:=(hv:uK w M φ (.op i s 0 off) v);have pd:∀(j:Nat) (l:Lf),cells[j]?=some l→∃u,w.cell? ⟨b,0+j,none⟩=some u∧IR w M l u:=fun j l hj=>by
           obtain⟨u,hu,hr⟩:=hO.RI (i:=0) (.inr ⟨_,iL⟩) hφb (by rw[iL];rfl) j l hj
           exact⟨u,by rw[Nat.zero_mul]at hu;exact hu,LR.NN (List.all_eq_true.1 hi l (List.mem_of_getElem? hj)) hr⟩
          have key:IR w (fun b=>M b∨∃C,φ i=some (some (b,C))) (.ip cells off) (.pointer (some ⟨b,0+off,none⟩)):=by
           refine IR.ip cells off b 0 (fun i=>(w.cell? ⟨b,0+i,none⟩).getD undef) (.inr ⟨C,hφb⟩) (fun i l hl=>?_) (fun i l hl=>?_)
           ·obtain⟨u,hu,hr⟩:=pd i l hl;simp only[hu,Option.getD_some]
           ·obtain⟨u,hu,hr⟩:=pd i l hl;simp only[hu,Option.getD_some];exact hr.mono (fun _ _=>rfl) hM2
          rw[show 0*s+off=0+off by rw[Nat.zero_mul]]
          exact IR.lr key
        ·rename_i i n s;cases hc:(i == id&&(n*s == cells.length))with
         |false=>exact hv.mono he
         |true =>
          simp only[Bool.and_eq_true,beq_iff_eq]at hc;obtain⟨rfl,hns⟩:=hc;obtain⟨b,hφb,rfl⟩:=(hv:uK w M φ (.bs i n s) v);have pd:∀(j:Nat) (l:Lf),cells[j]?=some l→∃u,w.cell? ⟨b,0+j,none⟩=some u∧IR w M l u:=fun j l hj=>by
           obtain⟨u,hu,hr⟩:=hO.RI (i:=0) (.inr ⟨_,iL⟩) hφb (by rw[iL];rfl) j l hj
           exact⟨u,by rw[Nat.zero_mul]at hu;exact hu,LR.NN (List.all_eq_true.1 hi l (List.mem_of_getElem? hj)) hr⟩
          have hck:∀(k:Nat) (c:List Lf) (j:Nat) (l:Lf),(chunk s n cells)[k]?=some c→c[j]?=some l→cells[k*s+j]?=some l:=fun k c j l hk hj=>by
           obtain⟨pq,rfl⟩:=GR hk;rw[List.getElem?_take]at hj;split at hj
           ·rw[List.getElem?_drop]at hj;exact hj
           ·cases hj
          have key:IR w (fun b=>M b∨∃C,φ i=some (some (b,C))) (.sl false s (chunk s n cells)) (.slice (some ⟨b,0,none⟩) (chunk s n cells).length n):=by
           refine IR.sl false s (chunk s n cells) b 0 n (fun k j=>(w.cell? ⟨b,0+k*s+j,none⟩).getD undef) (.inr ⟨1,hφb⟩) (by rw[GS];exact Nat.le_refl _) (fun h=>by cases h) (fun k c hk=>?_) (fun k c j l hk hj=>?_) (fun k c j l hk hj=>?_)
           ·obtain⟨pq,rfl⟩:=GR hk;have hle:(k+1)*s≤n*s:=Nat.mul_le_mul_right _ pq;rw[Nat.add_mul,Nat.one_mul]at hle;simp;omega
           ·obtain⟨u,hu,hr⟩:=pd _ l (hck k c j l hk hj);rw[←Nat.add_assoc]at hu;simp only[hu,Option.getD_some]
           ·obtain⟨u,hu,hr⟩:=pd _ l (hck k c j l hk hj);rw[←Nat.add_assoc]at hu;simp only[hu,Option.getD_some];exact hr.mono (fun _ _=>rfl) hM2
          rw[GS]at key;exact IR.lr key
        ·exact hv.mono he
       have hW0:Wd Γ φ M (hl (σ.H.set id none)) w:=hW.less fun k ye hk=>by
        by_cases hki:k=id
        ·subst hki;rw[uv (ly hid)]at hk;cases hk
        ·rw[zl hki]at hk;exact hk
       have hW1:=Qg6 hf he hW0 ho.1.2 fun b hb=>by
        rcases hb with h|⟨C,h⟩
        ·exact .inl h
        ·obtain⟨q1,q2,q3⟩:=hW.own id o1 b C hid h;refine .inr ⟨q2,q3,fun k ye C' hk hp=>?_⟩
         by_cases hki:k=id
         ·subst hki;rw[uv (ly hid)]at hk;cases hk
         ·rw[zl hki]at hk;exact hki (hW.inj k id ye o1 b C' C hk hid hp h)
       obtain⟨hN,φ',M',NJ⟩:=oB hg2 ho.2 ⟨Is hf he hF ho.1.1,hW1,fun k hk=>hφ k (by simpa [Om]using hk)⟩
       exact⟨hN,φ',M',NJ⟩
      ·cases hg
    ·cases hg
   ·cases hg
  |uG id n =>
   simp only[ghost]at hg;split at hg
   ·rename_i σ2 o2 Zm hg2;cases hg;simp only[bm]at ho;have hf:∀l v,LR w M φ l v→c6 (Yr id n l).2→LR w M φ (Yr id n l).1 v:=fun l v hv hp=>by
     unfold Yr at hp ⊢;split
     ·rename_i i s off len;cases hc:(i == id&&off == 0)with
      |false=>exact hv
      |true=>simp only[hc,cond_true]at hp;obtain⟨rfl,-⟩:=hp;exact hv
     ·exact hv
    obtain⟨hN,φ',M',NJ⟩:=oB hg2 ho.2 ⟨Is hf (Ex.refl _ _ _) hF ho.1.1,Qg6 hf (Ex.refl _ _ _) hW ho.1.2 fun b hb=>.inl hb,fun k hk=>hφ k (by simpa [Om]using hk)⟩
    exact⟨hN,φ',M',NJ⟩
   ·cases hg
  |sg t k sz =>
   simp only[ghost]at hg;split at hg
   ·rename_i c hc;split at hg
    ·rename_i c' TA;have hv:=hF t;rw[hc]at hv;obtain⟨hN,φ',M',NJ⟩:=oB hg ho ⟨Mh hF (Qiv TA hv:CR w M φ c' _),hW,hφ⟩;exact⟨hN,φ',M',NJ⟩
    ·cases hg
   ·cases hg
  |fj id k sz =>
   simp only[ghost]at hg;split at hg
   ·rename_i o1 hid;split at hg
    ·rename_i cells pc iL;split at hg
     ·rename_i l hk;split at hg
      ·rename_i l' TA;obtain⟨hN,φ',M',NJ⟩:=oB hg ho ⟨hF,UU hW hid pc iL hk fun v hv=>YP TA hv,fun k hk=>hφ k (by simpa using hk)⟩
       exact⟨hN,φ',M',NJ⟩
      ·cases hg
     ·cases hg
    ·cases hg
   ·cases hg
  |kH t sz e =>
   simp only[ghost]at hg;split at hg
   ·rename_i hc;cases hz:(sz == 0)with
    |true=>rw[hz]at hg;cases hg
    |false =>
     rw[hz]at hg;have hv:=hF t;rw[hc]at hv;have QZ:φ σ.H.length=none:=hφ _ (Nat.le_refl _);have hh':hl σ.H σ.H.length=none:=by unfold hl;rw[List.getElem?_eq_none (Nat.le_refl _)];rfl
     have he:Ex w M φ w M (GI φ σ.H.length none):=⟨fun _ _=>rfl,fun _ h=>h,sA _ QZ⟩
     have L_:IR w M .cB (tm.getD t undef):=hv;have hvn:∃A,tm.getD t undef=.slice A 0 0:=by
      generalize tm.getD t undef=u at L_;cases L_;exact⟨none,rfl⟩
     obtain⟨hN,φ',M',NJ⟩:=oB hg ho ⟨Mh (fun u=>AR.mono he (hF u)) (.inr ⟨dP _ _ _,rfl,rfl,hvn⟩:uK w M (GI φ σ.H.length none) (.os σ.H.length sz 0 0) _),
      (by rw [Tw]; exact hW.IM (⟨false,sz,e,[]⟩:Ob) QZ hh' rfl rfl (by simp only [beq_eq_false_iff_ne] at hz; show 0<sz; omega)),fun k hk=>by
       simp only[List.length_append,List.length_singleton]at hk;rw[qO _ (by omega)];exact hφ k (by omega)⟩
     exact⟨hN,φ',M',NJ⟩
   ·cases hg
  |tV id k sz e =>
   simp only[ghost]at hg;split at hg
   ·rename_i o1 hid;split at hg
    ·rename_i cells pc iL;split at hg
     ·rename_i hk;cases hz:(sz == 0)with
      |true=>rw[hz]at hg;cases hg
      |false =>
       rw[hz]at hg;simp only[cond_false]at hg;have QZ:φ σ.H.length=none:=hφ _ (Nat.le_refl _);have hh':hl σ.H σ.H.length=none:=by unfold hl;rw[List.getElem?_eq_none (Nat.le_refl _)];rfl
       have he:Ex w M φ w M (GI φ σ.H.length none):=⟨fun _ _=>rfl,fun _ h=>h,sA _ QZ⟩
       have hW1:Wd Γ (GI φ σ.H.length none) M (hl (σ.H++[some ⟨false,sz,e,[]⟩])) w:=by
        rw[Tw];exact hW.IM (⟨false,sz,e,[]⟩:Ob) QZ hh' rfl rfl (by simp only[beq_eq_false_iff_ne]at hz;show 0<sz;omega)
       have jU:=ly hid;have Ql_:hl (σ.H++[some ⟨false,sz,e,[]⟩]) id=some o1:=by rw[Tw];dsimp only;rw[if_neg (by omega)];exact hid
       have Vr:=UU (k:=k) (l:=.cB) (l':=.os σ.H.length sz 0 0) hW1 Ql_ pc iL hk fun v hv=>by
        have L_:IR w M .cB v:=hv;cases L_;exact .inr ⟨dP _ _ _,rfl,rfl,none,rfl⟩
       rw[List.set_append_left _ _ jU]at Vr;obtain⟨hN,φ',M',NJ⟩:=oB hg ho ⟨fun u=>AR.mono he (hF u),Vr,fun k hk=>by
        simp only[List.length_append,List.length_set,List.length_singleton]at hk;rw[qO _ (by omega)];exact hφ k (by omega)⟩
       exact⟨hN,φ',M',NJ⟩
     ·cases hg
    ·cases hg
   ·cases hg
  |bit b=>simp only[ghost]at hg;cases hg;exact⟨rfl,φ,M,hF,hW,hφ⟩
  |spec=>simp only[ghost]at hg;cases hg;exact⟨rfl,φ,M,hF,hW,hφ⟩
  |skip=>simp only[ghost]at hg;cases hg;exact⟨rfl,φ,M,hF,hW,hφ⟩
  |cells c=>simp only[ghost]at hg;cases hg;exact⟨rfl,φ,M,hF,hW,hφ⟩
  |rows c=>simp only[ghost]at hg;cases hg;exact⟨rfl,φ,M,hF,hW,hφ⟩
  |num n=>simp only[ghost]at hg;cases hg;exact⟨rfl,φ,M,hF,hW,hφ⟩
  |pos n=>simp only[ghost]at hg;cases hg;exact⟨rfl,φ,M,hF,hW,hφ⟩
  |byte b=>simp only[ghost]at hg;cases hg;exact⟨rfl,φ,M,hF,hW,hφ⟩
  |ints b=>simp only[ghost]at hg;cases hg;exact⟨rfl,φ,M,hF,hW,hφ⟩
  |draw n cl=>simp only[ghost]at hg;cases hg;exact⟨rfl,φ,M,hF,hW,hφ⟩
  |call i r out=>simp only[ghost]at hg;cases hg;exact⟨rfl,φ,M,hF,hW,hφ⟩
end
end
section
open Go.RowKit
section
variable {P : Program} {Γ : bu} {φ φ' : Pl} {M M' : Nat → Prop} {w w' : World} {a : Act} {hs : List Hint} {o : Oper} {ops : Array Oper} {Q : Exit → Act → World → Prop}
theorem Ac(a:Act)(d:Option Nat)(v:Value):(a.put d v).tmps.size=a.tmps.size:=by
 cases d <;> simp [Act.put]
theorem put_defers(a:Act)(d:Option Nat)(v:Value):(a.put d v).defers=a.defers:=by
 cases d <;> rfl
theorem T6{d t:Nat}{v:Value}(hd:d<a.tmps.size):(a.put (some d) v).tmps.getD t undef=if d=t then v else a.tmps.getD t undef:=by
 simp only[Act.put,Array.getD_eq_getD_getElem?,Array.getElem?_setIfInBounds];by_cases h:d=t
 ·subst h;rw[if_pos rfl,if_pos rfl,if_pos hd];rfl
 ·rw[if_neg h,if_neg h]
theorem G7{N:Nat}{d:Option Nat}{L:List (Nat×AV)}{v:AV}{cv:Value}(hd:HW N d=true)(hN:a.tmps.size=N)(hF:∀t,AR w M φ (look L t) (a.tmps.getD t undef))(hv:AR w M φ v cv):
  ∀t,AR w M φ (look (KI d v L) t) ((a.put d cv).tmps.getD t undef):=fun t=>by
 cases d with
 |none=>exact hF t
 |some d =>
  have jU:d<a.tmps.size:=by rw[hN];have:=Nat.le_of_ble_eq_true hd;omega
  rw[T6 jU];simp only[KI,look];by_cases h:d=t
  ·subst h;rw[if_pos rfl];simp;exact hv
  ·rw[if_neg h];have:(d == t)=false:=by simpa using h
   rw[this];exact hF t
theorem Tt{H:List (Option Ob)}{news:List Ob}:hl (H++news.map some)=Sv (hl H) H.length news:=by
 funext id
 unfold Sv hl;by_cases h:H.length≤id∧id<H.length+news.length
 ·rw[if_pos h,List.getElem?_append_right h.1,List.getElem?_map];cases news[id-H.length]? <;> rfl
 ·rw[if_neg h];rcases Nat.lt_or_ge id H.length with h1|h1
  ·rw[List.getElem?_append_left h1]
  ·rw[List.getElem?_eq_none (by simp;omega),List.getElem?_eq_none h1]
theorem Pm{H:List (Option Ob)}{id:Nat}(h:H.length≤id):hl H id=none:=by
 unfold hl;rw[List.getElem?_eq_none h];rfl
theorem CX{H:List (Option Ob)}:∀{yu:List (Nat×Option Ob)},(Wk H yu).length=H.length
 | []=>rfl
 |(u,o) ::r=>by simp only[Wk,List.length_set];exact CX
theorem Tv{H:List (Option Ob)}:∀{yu:List (Nat×Option Ob)},(∀u∈yu,u.1<H.length)→hl (Wk H yu)=MY (hl H) yu
 | [],_=>rfl
 |(u,o) ::r,h=>by
  have ih:=Tv (H:=H) (yu:=r) fun x hx=>h x (List.mem_cons_of_mem _ hx)
  have hu:u<(Wk H r).length:=by rw[CX];exact h (u,o) List.mem_cons_self
  funext i
  simp only[Wk];unfold MY;simp only[qS];by_cases hi:u=i
  ·subst hi;rw[uv hu];simp
  ·have:(u == i)=false:=by simpa using hi
   rw[zl (fun e=>hi e.symm),ih,this];rfl
theorem D7{σ:SS}{s:St}(hd:HW σ.N o.dst=true)(hf:Js P o σ hs=some s)(cR:c6 s.fl)(hS:NA Γ σ a w){K:Act→World→Prop}(hK:∀a' w',NA Γ s.σ a' w'→K a' w'):o.wp P a w K NQ:=by
 obtain⟨hN,L6,φ,M,hF,hW,hφ⟩:=hS;unfold Js at hf;split at hf
 ·rename_i r hr;cases hf;refine LK hr cR hF hW (fun _ _ h=>h) (fun id h1 h2=>⟨hφ id h1,Pm h1⟩) fun v w' φ' M' hv qq he hn=>hK _ _ ⟨by rw[Ac];exact hN,by rw[put_defers];exact L6,φ',M',?_,?_,?_⟩
  ·exact G7 hd hN (fun t=>AR.mono he (hF t)) hv
  ·rw[Tt];exact qq
  ·intro id hid;simp only[List.length_append,List.length_map]at hid;refine Classical.byContradiction fun h=>?_
   rcases hn id h with h1|h1
   ·exact h1 (hφ id (by omega))
   ·omega
 ·split at hf
  ·rename_i r hr;cases hf;refine QaN hW hF hφ hr cR fun v w' hm=>?_
   obtain⟨φ',hv,qq,he,Zo⟩:=hm;exact hK _ _ ⟨by rw[Ac];exact hN,by rw[put_defers];exact L6,φ',M,G7 hd hN (fun t=>AR.mono he (hF t)) hv,qq,Zo⟩
  ·split at hf
   ·rename_i r hr;cases hf;refine SQ hr cR hF hW (fun _ _ h=>h) (fun id h1 h2=>⟨hφ id h1,Pm h1⟩) fun v w' hm=>?_
    obtain⟨φ',M',hv,qq,he,hn⟩:=hm;refine hK _ _ ⟨by rw[Ac];exact hN,by rw[put_defers];exact L6,φ',M',G7 hd hN (fun t=>AR.mono he (hF t)) hv,?_,?_⟩
    ·have hu:∀u∈r.yu,u.1<σ.H.length:=fun u hu=>let⟨ob,h⟩:=Qx hr u hu;ly h
     rw[Tt,CX,Tv hu];exact qq
    ·intro id hid;simp only[List.length_append,List.length_map,CX]at hid;refine Classical.byContradiction fun h=>?_
     rcases hn id h with h1|h1
     ·exact h1 (hφ id (by omega))
     ·omega
   ·cases hf
theorem qR{L:Nat→AV}{j:Nat}{b:Bool}(hF:∀t,AR w M φ (L t) (a.tmps.getD t undef)){v:AV}(hg:((ops[j]?).bind (·.dst)).map L=some v)(hv:∀cv,AR w M φ v cv→cv=.bool b):yielded ops a.tmps j=some b:=by
 unfold yielded;cases hd:(ops[j]?).bind (·.dst)with
 |none=>rw[hd]at hg;cases hg
 |some t =>
  rw[hd]at hg;have h1:L t=v:=by simpa using hg
  have h2:=hF t;rw[h1]at h2;have h3:=hv _ h2;rw[Array.getD_eq_getD_getElem?]at h3;simp only[Option.bind_some];cases ht:a.tmps[t]? with
  |none=>rw[ht]at h3;cases h3
  |some u=>rw[ht]at h3;simp at h3;subst h3;rfl
theorem B1{L:Nat→AV}{j:Nat}(hF:∀t,AR w M φ (L t) (a.tmps.getD t undef)){v:AV}(hg:((ops[j]?).bind (·.dst)).map L=some v)(hv:∀cv,AR w M φ v cv→cv=undef):yielded ops a.tmps j=none:=by
 unfold yielded;cases hd:(ops[j]?).bind (·.dst)with
 |none=>rfl
 |some t =>
  rw[hd]at hg;have h1:L t=v:=by simpa using hg
  have h2:=hF t;rw[h1]at h2;have h3:=hv _ h2;rw[Array.getD_eq_getD_getElem?]at h3;simp only[Option.bind_some];cases ht:a.tmps[t]? with
  |none=>rfl
  |some u=>rw[ht]at h3;simp at h3;subst h3;rfl
theorem yf{b:Bool}{cv:Value}(h:AR w M φ (.cm (.one (.bool b))) cv):cv=.bool b:=by
 have h':IR w M (.bool b) cv:=h;cases h';rfl
theorem Qo{σ:SS}{p:Prop} [Decidable p] {r:Lv}{v:AV}(hd:HW σ.N o.dst=true)(hw:Region.wanted o (yielded ops a.tmps)=decide p)(hN:a.tmps.size=σ.N)(L6:a.defers=[])(hF:∀t,AR w M φ (look σ.L t) (a.tmps.getD t undef))(hW:Wd Γ φ M (hl σ.H) w)(hφ:∀id,σ.H.length≤id→φ id=none)
  (hf:yx P (hl σ.H) σ.H.length p (look σ.L) o.op hs=some r) (rR:r.news.isEmpty=true) (hv:gdv p r.v=some v) (cR:c6 r.fl) {K:Act→World→Prop} (hK:∀a' w',NA Γ ⟨σ.N,KI o.dst v σ.L,σ.H⟩ a' w'→K a' w'):
  (if Region.wanted o (yielded ops a.tmps)=true then o.wp P a w K NQ else K (a.put o.dst undef) w):=by
 rw[hw];have WQ:∃c,r.v=.cm c∧v=.gd p c:=by
  unfold gdv at hv;split at hv
  ·rename_i c hc;cases hv;exact⟨c,hc,rfl⟩
  ·cases hv
 obtain⟨c,hc,rfl⟩:=WQ;have zP:r.news=[]:=by simpa using rR
 by_cases hp:p
 ·rw[if_pos (by simpa using hp)]
  obtain⟨v,w',φ',c8,hr,qq,Di,hn,hb⟩:=GY (φ:=φ) (M:=M) (hD:=hl σ.H) hf cR hp hF hW (fun _ _ h=>h) (fun id h1 h2=>⟨hφ id h1,Pm h1⟩)
  unfold Oper.wp;rw[c8];have he:Ex w M φ w' M φ':=⟨hb,fun _ h=>h,Di⟩
  rw[hc]at hr;rw[zP,rN]at qq;refine hK _ _ ⟨by rw[Ac];exact hN,by rw[put_defers];exact L6,φ',M,G7 hd hN (fun t=>AR.mono he (hF t)) ⟨fun _=>hr,fun h=>absurd hp h⟩,qq,fun id hid=>?_⟩
  refine Classical.byContradiction fun h=>?_
  rcases hn id h with h1|h1
  ·exact h1 (hφ id hid)
  ·rw[zP]at h1;simp at h1;omega
 ·rw[if_neg (by simpa using hp)]
  exact hK _ _ ⟨by rw[Ac];exact hN,by rw[put_defers];exact L6,φ,M,G7 hd hN hF ⟨fun h=>absurd h hp,fun _=>rfl⟩,hW,hφ⟩
theorem Ja{σ:SS}(hd:HW σ.N o.dst=true)(hS:NA Γ σ a w):NA Γ ⟨σ.N,KI o.dst und σ.L,σ.H⟩ (a.put o.dst undef) w:=by
 obtain⟨hN,L6,φ,M,hF,hW,hφ⟩:=hS;exact⟨by rw[Ac];exact hN,by rw[put_defers];exact L6,φ,M,G7 hd hN hF ⟨False.elim,fun _=>rfl⟩,hW,hφ⟩
theorem Uk{σ:SS}{s:St}(hf:YH P ops o σ hs=some s)(cR:c6 s.fl)(hS:NA Γ σ a w){K:Act→World→Prop}(hK:∀a' w',NA Γ s.σ a' w'→K a' w'):
  (if Region.wanted o (yielded ops a.tmps)=true then o.wp P a w K NQ else K (a.put o.dst undef) w):=by
 unfold YH at hf;cases hd:HW σ.N o.dst with
 |false=>rw[hd]at hf;cases hf
 |true =>
  rw[hd]at hf;simp only[Bool.not_true,cond_false]at hf;have hS0:=hS;obtain⟨hN,L6,φ,M,hF,hW,hφ⟩:=hS;split at hf
  ·rename_i hg;have hw:Region.wanted o (yielded ops a.tmps)=true:=by unfold Region.wanted;rw[hg]
   rw[if_pos hw];exact D7 hd hf cR hS0 hK
  ·rename_i j want hg;have hwt:Region.wanted o (yielded ops a.tmps)=(yielded ops a.tmps j == some want):=by unfold Region.wanted;rw[hg]
   split at hf
   ·rename_i b t fc hv;have hy:yielded ops a.tmps j=some b:=qR hF hv fun cv h=>yf h
    cases WU:(t == want)with
    |true =>
     rw[WU]at hf;simp only[cond_true]at hf;cases hdo:Js P o σ fc with
     |none=>rw[hdo]at hf;cases hf
     |some s0 =>
      rw[hdo]at hf;cases hf;obtain⟨QA,ho⟩:=cR;rw[hwt,hy,QA,if_pos (by simpa using WU)]
      exact D7 hd hdo ho hS0 hK
    |false =>
     rw[WU]at hf;cases hf;obtain⟨QA,-⟩:=cR;rw[hwt,hy,QA,if_neg (by simpa using WU)]
     exact hK _ _ (Ja hd hS0)
   ·rename_i p b t fc hv;cases WU:(t == want)with
    |true =>
     rw[WU]at hf;simp only[cond_true]at hf;cases hdo:Js P o σ fc with
     |none=>rw[hdo]at hf;cases hf
     |some s0 =>
      rw[hdo]at hf;cases hf;obtain⟨⟨hp,QA⟩,ho⟩:=cR;have hy:yielded ops a.tmps j=some b:=qR (w:=w) (φ:=φ) (M:=M) hF hv fun cv h=>yf (w:=w) (φ:=φ) (M:=M) (h.1 hp)
      rw[hwt,hy,QA,if_pos (by simpa using WU)]
      exact D7 hd hdo ho hS0 hK
    |false =>
     rw[WU]at hf;cases hf;obtain⟨⟨hp,QA⟩,-⟩:=cR;have hy:yielded ops a.tmps j=some b:=qR (w:=w) (φ:=φ) (M:=M) hF hv fun cv h=>yf (w:=w) (φ:=φ) (M:=M) (h.1 hp)
     rw[hwt,hy,QA,if_neg (by simpa using WU)]
     exact hK _ _ (Ja hd hS0)
   ·rename_i p b fc hv;cases hf;have hy:yielded ops a.tmps j=none:=B1 (φ:=φ) (M:=M) hF hv fun cv h=>h.2 cR.1
    rw[hwt,hy,if_neg (by simp)]
    exact hK _ _ (Ja hd hS0)
   ·rename_i b fc hv;have hy:yielded ops a.tmps j=some b:=qR hF hv fun cv h=>yf h
    split at hf
    ·rename_i r hr;cases rR:r.news.isEmpty with
     |false=>rw[rR]at hf;cases hf
     |true =>
      rw[rR]at hf;simp only[cond_true]at hf;cases WQ:gdv (b=want) r.v with
      |none=>rw[WQ]at hf;cases hf
      |some v =>
       rw[WQ]at hf;cases hf;exact Qo (p:=b=want) hd (by rw[hwt,hy];cases b <;> cases want <;> rfl) hN L6 hF hW hφ hr rR WQ cR hK
    ·cases hf
   ·rename_i p b fc hv;split at hf
    ·rename_i r hr;cases rR:r.news.isEmpty with
     |false=>rw[rR]at hf;cases hf
     |true =>
      rw[rR]at hf;simp only[cond_true]at hf;cases WQ:gdv (p∧b=want) r.v with
      |none=>rw[WQ]at hf;cases hf
      |some v =>
       rw[WQ]at hf;cases hf
       haveI:Decidable (p∧b=want):=Classical.propDecidable _
       refine Qo (p:=p∧b=want) hd ?_ hN L6 hF hW hφ hr rR WQ cR hK;rw[hwt];by_cases hp:p
       ·have hy:yielded ops a.tmps j=some b:=qR (w:=w) (φ:=φ) (M:=M) hF hv fun cv h=>yf (w:=w) (φ:=φ) (M:=M) (h.1 hp)
        rw[hy];by_cases hb:b=want
        ·simp [hp,hb]
        ·simp [hp,hb]
       ·have hy:yielded ops a.tmps j=none:=B1 (φ:=φ) (M:=M) hF hv fun cv h=>h.2 hp
        rw[hy];simp [hp]
    ·cases hf
   ·cases hf
theorem GZ{σ σ':SS}{ob:List Prop}{fc:List Hint}(hg:ghost hs σ=some (σ',ob,fc))(ho:c6 ob)(hS:NA Γ σ a w):NA Γ σ' a w:=by
 obtain⟨hN,L6,φ,M,hC⟩:=hS;obtain⟨h1,φ',M',h2⟩:=oB hg ho hC;exact⟨by rw[h1];exact hN,L6,φ',M',h2⟩
theorem BV:∀(l:List Oper) {σ:SS} {hs:List Hint} {s:St} {a:Act} {w:World},ze P ops l σ hs=some s→c6 s.fl→NA Γ σ a w→(∀a' w',NA Γ s.σ a' w'→Q .normal a' w')→wpList P ops Q l a w
 | [],σ,hs,s,a,w,hf,_,hS,hQ=>by cases hf;exact hQ a w hS
 |o ::l,σ,hs,s,a,w,hf,cR,hS,hQ=>by
  simp only[ze]at hf;split at hf
  ·rename_i σ0 o0 XU hg;split at hf
   ·rename_i s1 h1;split at hf
    ·rename_i s2 h2;cases hf;simp only[bm]at cR;have hS0:=GZ hg cR.1.1 hS;have h3:=Uk (K:=wpList P ops Q l) h1 cR.1.2 hS0 fun a' w' NJ=>BV l h2 cR.2 NJ hQ
     simp only[wpList];split
     ·rename_i hw;rw[if_pos hw]at h3;exact .inl (Z0 (fun _ _ h=>h) h3)
     ·rename_i hw;rw[if_neg hw]at h3;exact h3
    ·cases hf
   ·cases hf
  ·cases hf
end
end
section
open Go.RowKit
section
variable {P : Program} {Γ : bu} {φ φ' : Pl} {M M' : Nat → Prop} {w w' : World} {a : Act} {hs : List Hint} {o : Oper} {ops : Array Oper} {Q : Exit → Act → World → Prop} {σ : SS} {kT : List Nat} {cl : List (Nat × Nat)}
inductive RB (lo:Nat):List Dn→Nat→Nat→Prop
 |nil:RB lo [] 0 lo
 |cons {r:List Dn} {i b:Nat} (dst:Option Nat) (v:AV) (news:List Ob) (yu:List (Nat×Option Ob)) (rd:List (Nat×Nat×Nat×List Lf)):RB lo r i b→RB lo (⟨i,dst,v,b,news,yu,rd⟩ ::r) (i+1) (b+news.length)
theorem RB.lt{lo i b:Nat}{l:List Dn}(h:RB lo l i b):lo≤b∧∀d∈l,d.i<i∧lo≤d.base∧d.base+d.news.length≤b:=by
 induction h with
 |nil=>exact⟨Nat.le_refl _,fun d hd=>by cases hd⟩
 |cons dst v news yu rd _ ih =>
  refine⟨by omega,fun d hd=>?_⟩
  rcases List.mem_cons.1 hd with rfl|hd
  ·exact⟨Nat.lt_succ_self _,ih.1,Nat.le_refl _⟩
  ·have:=ih.2 d hd;omega
theorem RB.inj{lo i b:Nat}{l:List Dn}(h:RB lo l i b):∀x∈l,∀y∈l,x.i=y.i→x=y:=by
 induction h with
 |nil=>intro x hx;cases hx
 |cons dst v news yu rd h ih =>
  have hl:=h.lt.2;intro x hx y hy e;rcases List.mem_cons.1 hx with rfl|hx <;> rcases List.mem_cons.1 hy with rfl|hy
  ·rfl
  ·have:=(hl y hy).1;simp only at e;omega
  ·have:=(hl x hx).1;simp only at e;omega
  ·exact ih x hx y hy e
theorem Ca{lo i b:Nat}{H:List (Option Ob)}{S:Nat→Bool}{l:List Dn}(h:RB lo l i b){id:Nat}(hid:b≤id∨id<lo):wU H S l id=hl H id:=by
 induction h with
 |nil=>rfl
 |cons dst v news yu rd h ih =>
  rename_i r i b;have WR:=h.lt.1;simp only[wU];have e1:(Nat.ble b id&&Nat.blt id (b+news.length))=false:=by
   rw[Bool.and_eq_false_iff];rcases hid with h1|h1
   ·right;rw[←Bool.not_eq_true];intro h2;have:=Nat.le_of_ble_eq_true h2;omega
   ·left;rw[←Bool.not_eq_true];intro h2;have:=Nat.le_of_ble_eq_true h2;omega
  rw[e1];refine ih ?_
  rcases hid with h1|h1
  ·left;omega
  ·right;exact h1
theorem rV{lo i b:Nat}{H:List (Option Ob)}{S:Nat→Bool}{l:List Dn}(h:RB lo l i b){d:Dn}(hd:d∈l){id:Nat}(h1:d.base≤id)(h2:id<d.base+d.news.length):wU H S l id=bif S d.i then d.news[id-d.base]? else none:=by
 induction h with
 |nil=>cases hd
 |cons dst v news yu rd h ih =>
  rename_i r i b;simp only[wU];rcases List.mem_cons.1 hd with rfl|hd
  ·have e1:(Nat.ble b id&&Nat.blt id (b+news.length))=true:=by
    rw[Bool.and_eq_true];exact⟨Nat.ble_eq_true_of_le h1,Nat.ble_eq_true_of_le h2⟩
   rw[e1];rfl
  ·have:=(h.lt.2 d hd).2.2;have e1:(Nat.ble b id&&Nat.blt id (b+news.length))=false:=by
    rw[Bool.and_eq_false_iff];left;rw[←Bool.not_eq_true];intro h3;have:=Nat.le_of_ble_eq_true h3;omega
   rw[e1];exact ih hd
theorem xT{lo i b:Nat}{H:List (Option Ob)}{S:Nat→Bool}{l:List Dn}(h:RB lo l i b)(id:Nat):(∃d∈l,d.base≤id∧id<d.base+d.news.length)∨((b≤id∨id<lo)∧wU H S l id=hl H id):=by
 by_cases hid:b≤id∨id<lo
 ·exact .inr ⟨hid,Ca h hid⟩
 ·left;induction h with
  |nil=>omega
  |cons dst v news yu rd h ih =>
   rename_i r i b;by_cases h1:b≤id
   ·exact⟨_,List.mem_cons_self,h1,by simp only;omega⟩
   ·obtain⟨d,hd,h2⟩:=ih (by omega)
    exact⟨d,List.mem_cons_of_mem _ hd,h2⟩
theorem jV{L:List (Nat×AV)}{S:Nat→Bool}{t:Nat}:∀{l:List Dn},(∃d∈l,d.dst=some t∧S d.i=true∧xU L kT S l t=d.v)∨((∀d∈l,d.dst=some t→S d.i=false)∧xU L kT S l t=bif kT.contains t then .Lz else look L t)
 | []=>.inr ⟨fun d hd=>(by cases hd),rfl⟩
 |d ::r=>by
  simp only[xU];cases hc:(d.dst == some t&&S d.i)with
  |true =>
   simp only[Bool.and_eq_true,beq_iff_eq]at hc;exact .inl ⟨d,List.mem_cons_self,hc.1,hc.2,rfl⟩
  |false =>
   simp only[Bool.and_eq_false_iff,beq_eq_false_iff_ne]at hc;rcases jV (L:=L) (S:=S) (t:=t) (l:=r)with⟨x,hx,h1,h2,h3⟩|⟨h1,h2⟩
   ·exact .inl ⟨x,List.mem_cons_of_mem _ hx,h1,h2,h3⟩
   ·refine .inr ⟨fun x hx e=>?_,h2⟩
    rcases List.mem_cons.1 hx with rfl|hx
    ·rcases hc with h|h
     ·exact absurd e h
     ·exact h
    ·exact h1 x hx e
theorem zj{id:Nat}{o:Option Ob}:∀{l:List (Nat×Option Ob)},qS l id=some o→(id,o)∈l
 | [],h=>by cases h
 |(u,x) ::r,h=>by
  simp only[qS]at h;cases hu:(u == id)with
  |true =>
   rw[hu]at h;cases h;have:u=id:=by simpa using hu
   subst this;simp
  |false=>rw[hu]at h;exact List.mem_cons_of_mem _ (zj h)
theorem Au{S:Nat→Bool}{id:Nat}:∀{l:List Dn},(∀x∈l,∀ob,(id,ob)∈x.yu→S x.i=false)→td S l id=none
 | [],_=>rfl
 |d ::r,h=>by
  have ih:=Au (S:=S) (id:=id) (l:=r) fun x hx=>h x (List.mem_cons_of_mem _ hx)
  simp only[td];split
  ·rename_i ob hu;cases hc:S d.i with
   |false=>rw[hc]at hu;cases hu
   |true =>
    rw[hc]at hu;have:=h d List.mem_cons_self ob (zj hu);rw[hc]at this;cases this
  ·exact ih
theorem GJ{S S':Nat→Bool}{id:Nat}:∀{l:List Dn},(∀x∈l,∀ob,(id,ob)∈x.yu→S x.i=S' x.i)→td S l id=td S' l id
 | [],_=>rfl
 |d ::r,h=>by
  have ih:=GJ (S:=S) (S':=S') (id:=id) (l:=r) fun x hx=>h x (List.mem_cons_of_mem _ hx)
  simp only[td];rw[ih];cases hf:qS d.yu id with
  |none=>cases S d.i <;> cases S' d.i <;> rfl
  |some ob=>rw[h d List.mem_cons_self ob (zj hf)]
theorem Qv{S:Nat→Bool}{u:Nat}{o:Option Ob}{d:Dn}(hu:qS d.yu u=some o)(hS:S d.i=true):∀{l:List Dn},d∈l→(∀x∈l,∀ye,(u,ye)∈x.yu→x=d)→td S l u=some o
 |x ::r,hd,h=>by
  simp only[td];split
  ·rename_i o' hu';cases hc:S x.i with
   |false=>rw[hc]at hu';cases hu'
   |true =>
    rw[hc]at hu';simp only[cond_true]at hu';have:=h x List.mem_cons_self o' (zj hu');subst this;rw[hu]at hu';exact hu'.symm
  ·rename_i hn;rcases List.mem_cons.1 hd with rfl|hd
   ·rw[hS]at hn;simp only[cond_true]at hn;rw[hu]at hn;cases hn
   ·exact Qv hu hS hd fun x hx=>h x (List.mem_cons_of_mem _ hx)
theorem SO{i id:Nat}{h:Nat→Option Ob}{ob:Ob}(e:view ops cl i h id=some ob):h id=some ob∧∀j,O9 cl id=some j→j=i∨QbS ops i j=true:=by
 unfold view at e;split at e
 ·rename_i j hj;cases hc:(j == i)with
  |false =>
   rw[hc]at e;simp only[cond_false]at e;split at e
   ·rename_i ye ho;cases hb:(!ye.box&&QbS ops i j)with
    |false=>rw[hb]at e;cases e
    |true =>
     rw[hb]at e;cases e;rw[Bool.and_eq_true]at hb;exact⟨ho,fun j' h=>by rw[hj]at h;cases h;exact .inr hb.2⟩
   ·cases e
  |true=>rw[hc]at e;exact⟨e,fun j' h=>by rw[hj]at h;cases h;exact .inl (by simpa using hc)⟩
 ·rename_i hj;exact⟨e,fun j' h=>by rw[hj]at h;cases h⟩
theorem UP{i j:Nat}{listed:Array Bool}(hb:QbS ops i j=true)(Ee:∀j k,listed.getD j false=true→k∈iy (ops.getD j default)→listed.getD k false=true)(hj:listed.getD j false=true):listed.getD i false=true:=by
 unfold QbS at hb;obtain⟨k,hk,h⟩:=List.any_eq_true.1 hb;rw[Bool.or_eq_true]at h;rcases h with h|h
 ·have:k=i:=by simpa using h
  exact this▸Ee j k hj hk
 ·exact Ee k i (Ee j k hj hk) (by simpa using h)
def QbB(P:Program)(ops:Array Oper)(σ:SS)(kT:List Nat)(cl:List (Nat×Nat))(d:Dn)(o:Oper)(post:List Dn):Prop:=
 (d.yu=[]∧∃(r:Lv) (hs:List Hint),Y2 P ops o (view ops cl d.i (wU σ.H (iy o).contains post)) d.base (xU σ.L kT (iy o).contains post) hs=some r∧c6 r.fl∧r.v=d.v∧r.news=d.news)∨
 (o.guard=none∧(∀u∈d.yu,O9 cl u.1=some d.i)∧∃(r:Wr) (hs:List Hint),wop P (view ops cl d.i (wU σ.H (iy o).contains post)) d.base (xU σ.L kT (iy o).contains post) o.op hs=some r∧c6 r.fl∧r.v=d.v∧r.news=d.news∧r.yu=d.yu)∨
 (o.guard=none∧d.yu=[]∧d.news=[]∧∃(q:Nat×Nat×Nat×List Lf) (Nw:List Prop),Qdj P σ.H (xU σ.L kT (iy o).contains post) o.op=some (d.v,q,Nw)∧c6 Nw∧q∈d.rd)
theorem Kg(h:zk o=true):o.guard=none:=by
 unfold zk at h;split at h
 ·assumption
 ·cases h
structure W9 (P:Program) (ops:Array Oper) (σ:SS) (kT:List Nat) (cl:List (Nat×Nat)) (n:Nat) (full:List Dn) (b:Nat):Prop where
 wf:RB σ.H.length full n b
 op:∀j,j<n→∃(pre post:List Dn) (d:Dn) (o:Oper),full=pre++d ::post∧d.i=j∧ops[j]?=some o∧d.dst=o.dst∧HW σ.N o.dst=true∧RB σ.H.length post j d.base∧QbB P ops σ kT cl d o post
theorem JQ:∀{l:List Oper} {i:Nat} {done:List Dn} {base:Nat} {hs:List Hint} {full:List Dn} {b:Nat} {ob:List Prop} {fc:List Hint},dgo P ops σ kT cl i l done base hs=some (full,b,ob,fc)→c6 ob→(∀k,l[k]?=ops[i+k]?∨l.length≤k)→RB σ.H.length done i base→
  ∃pre,full=pre++done∧RB σ.H.length full (i+l.length) b∧∀k,k<l.length→∃(pre post:List Dn) (d:Dn) (o:Oper),full=pre++d ::post∧d.i=i+k∧ops[i+k]?=some o∧d.dst=o.dst∧HW σ.N o.dst=true∧RB σ.H.length post (i+k) d.base∧QbB P ops σ kT cl d o post
 | [],i,done,base,hs,full,b,ob,fc,hf,_,_,hw=>by
  simp only[dgo]at hf;cases hf;exact⟨[],rfl,hw,fun k hk=>by simp at hk⟩
 |o ::l,i,done,base,hs,full,b,ob,fc,hf,ho,hl,hw=>by
  simp only[dgo]at hf;have h0:ops[i]?=some o:=by
   rcases hl 0 with h|h
   ·rw[Nat.add_zero]at h;rw[←h];rfl
   ·simp at h
  have EB:∀k,l[k]?=ops[i+1+k]?∨l.length≤k:=fun k=>by
   rcases hl (k+1)with h|h
   ·left;rw[show i+1+k=i+(k+1) by omega,←h];rfl
   ·right;simpa using h
  cases hd:HW σ.N o.dst with
  |false=>rw[hd]at hf;cases hf
  |true =>
   rw[hd]at hf;simp only[Bool.not_true,cond_false]at hf;split at hf
   ·rename_i r hr;split at hf
    ·rename_i d1 b1 QF Ty h1;cases hf;rw[bm]at ho;obtain⟨pre,e,hwf,sI⟩:=JQ h1 ho.2 EB (RB.cons o.dst r.v r.news [] [] hw);refine⟨pre++[⟨i,o.dst,r.v,base,r.news,[],[]⟩],by rw[e];simp,by rw[List.length_cons,show i+(l.length+1)=i+1+l.length by omega];exact hwf,fun k hk=>?_⟩
     cases k with
     |zero=>exact⟨pre,done,_,o,e,rfl,h0,rfl,hd,hw,.inl ⟨rfl,r,hs,hr,ho.1,rfl,rfl⟩⟩
     |succ k =>
      have:=sI k (by simpa using hk)
      rw[show i+1+k=i+(k+1) by omega]at this
      exact this
    ·cases hf
   ·split at hf
    ·rename_i r kK;cases hc:(zk o&&r.yu.all (fun u=>O9 cl u.1 == some i))with
     |false=>rw[hc]at hf;cases hf
     |true =>
      rw[hc]at hf;simp only[cond_true]at hf;rw[Bool.and_eq_true]at hc;split at hf
      ·rename_i d1 b1 QF Ty h1;cases hf;rw[bm]at ho;obtain⟨pre,e,hwf,sI⟩:=JQ h1 ho.2 EB (RB.cons o.dst r.v r.news r.yu [] hw);refine⟨pre++[⟨i,o.dst,r.v,base,r.news,r.yu,[]⟩],by rw[e];simp,by rw[List.length_cons,show i+(l.length+1)=i+1+l.length by omega];exact hwf,fun k hk=>?_⟩
       cases k with
       |zero=>exact⟨pre,done,_,o,e,rfl,h0,rfl,hd,hw,.inr (.inl ⟨Kg hc.1,fun u hu=>by simpa using List.all_eq_true.1 hc.2 u hu,r,hs,kK,ho.1,rfl,rfl,rfl⟩)⟩
       |succ k =>
        have:=sI k (by simpa using hk)
        rw[show i+1+k=i+(k+1) by omega]at this
        exact this
      ·cases hf
    ·split at hf
     ·rename_i v q Nw kK;cases hc:zk o with
      |false=>rw[hc]at hf;cases hf
      |true =>
       rw[hc]at hf;simp only[cond_true]at hf;split at hf
       ·rename_i d1 b1 QF Ty h1;cases hf;rw[bm]at ho;obtain⟨pre,e,hwf,sI⟩:=JQ h1 ho.2 EB (RB.cons o.dst v [] [] [q] hw);refine⟨pre++[⟨i,o.dst,v,base,[],[],[q]⟩],by rw[e];simp,by rw[List.length_cons,show i+(l.length+1)=i+1+l.length by omega];exact hwf,fun k hk=>?_⟩
        cases k with
        |zero=>exact⟨pre,done,_,o,e,rfl,h0,rfl,hd,hw,.inr (.inr ⟨Kg hc,rfl,rfl,q,Nw,kK,ho.1,by simp⟩)⟩
        |succ k =>
         have:=sI k (by simpa using hk)
         rw[show i+1+k=i+(k+1) by omega]at this
         exact this
       ·cases hf
     ·cases hf
theorem U8{h hD:Nat→Option Ob}{L:Nat→AV}{base:Nat}{r:Lv}(hf:Y2 P ops o h base L hs=some r)(cR:c6 r.fl)(hF:∀t,AR w M φ (L t) (a.tmps.getD t undef))(hW:Wd Γ φ M hD w)(eD:∀id ob,h id=some ob→hD id=some ob)
  (tg:∀id,base≤id→id<base+r.news.length→φ id=none∧hD id=none) {K:Act→World→Prop}
  (hK:∀v w' φ' M',AR w' M' φ' r.v v→Wd Γ φ' M' (Sv hD base r.news) w'→Ex w M φ w' M' φ'→(∀id,φ' id≠none→φ id≠none∨(base≤id∧id<base+r.news.length))→K (a.put o.dst v) w'):
  (if Region.wanted o (yielded ops a.tmps)=true then o.wp P a w K NQ else K (a.put o.dst undef) w):=by
 unfold Y2 at hf;split at hf
 ·rename_i hg;have hw:Region.wanted o (yielded ops a.tmps)=true:=by unfold Region.wanted;rw[hg]
  rw[if_pos hw];exact LK hf cR hF hW eD tg hK
 ·rename_i j want hg;have hwt:Region.wanted o (yielded ops a.tmps)=(yielded ops a.tmps j == some want):=by unfold Region.wanted;rw[hg]
  split at hf
  ·rename_i b t fc hv;have hy:yielded ops a.tmps j=some b:=qR hF hv fun cv h=>yf h
   cases WU:(t == want)with
   |true =>
    rw[WU]at hf;simp only[cond_true]at hf;cases hdo:dop P h base L o.op fc with
    |none=>rw[hdo]at hf;cases hf
    |some r0 =>
     rw[hdo]at hf;cases hf;obtain⟨QA,ho⟩:=cR;rw[hwt,hy,QA,if_pos (by simpa using WU)]
     exact LK hdo ho hF hW eD tg hK
   |false =>
    rw[WU]at hf;cases hf;obtain⟨QA,-⟩:=cR;rw[hwt,hy,QA,if_neg (by simpa using WU)]
    exact hK undef w φ M ⟨False.elim,fun _=>rfl⟩ (by rw[rN];exact hW) (Ex.refl _ _ _) fun _ h=>.inl h
  ·rename_i p b fc hv;cases hf;have hy:yielded ops a.tmps j=none:=B1 (φ:=φ) (M:=M) hF hv fun cv h=>h.2 cR.1
   rw[hwt,hy,if_neg (by simp)]
   exact hK undef w φ M ⟨False.elim,fun _=>rfl⟩ (by rw[rN];exact hW) (Ex.refl _ _ _) fun _ h=>.inl h
  ·rename_i b fc hv;have hy:yielded ops a.tmps j=some b:=qR hF hv fun cv h=>yf h
   split at hf
   ·rename_i r0 hr;cases rR:r0.news.isEmpty with
    |false=>rw[rR]at hf;cases hf
    |true =>
     rw[rR]at hf;simp only[cond_true]at hf;cases WQ:gdv (b=want) r0.v with
     |none=>rw[WQ]at hf;cases hf
     |some v =>
      rw[WQ]at hf;cases hf;have zP:r0.news=[]:=by simpa using rR
      have Ql9:∃c,r0.v=.cm c∧v=.gd (b=want) c:=by
       unfold gdv at WQ;split at WQ
       ·rename_i c hc;cases WQ;exact⟨c,hc,rfl⟩
       ·cases WQ
      obtain⟨c,hc,rfl⟩:=Ql9;rw[hwt,hy];by_cases hp:b=want
      ·rw[if_pos (by simp [hp])]
       obtain⟨v,w',φ',c8,QD,qq,Di,hn,hb⟩:=GY (φ:=φ) (M:=M) (hD:=hD) hr cR hp hF hW eD (fun id h1 h2=>by rw[zP]at h2;simp at h2;omega)
       unfold Oper.wp;rw[c8];rw[hc]at QD;rw[zP]at qq hn;exact hK v w' φ' M ⟨fun _=>QD,fun h=>absurd hp h⟩ qq ⟨hb,fun _ h=>h,Di⟩ hn
      ·rw[if_neg (by simp [hp])]
       exact hK undef w φ M ⟨fun h=>absurd h hp,fun _=>rfl⟩ (by rw[rN];exact hW) (Ex.refl _ _ _) fun _ h=>.inl h
   ·cases hf
  ·cases hf
def Qd5(Γ:bu)(σ:SS)(kT:List Nat)(full:List Dn)(listed:Array Bool)(a:Act)(w:World):Prop:=
 a.tmps.size=σ.N∧a.defers=[]∧∃φ M,(∀t,AR w M φ (xU σ.L kT (fun i=>listed.getD i false) full t) (a.tmps.getD t undef))∧Wd Γ φ M (nd σ.H (fun i=>listed.getD i false) full) w∧
  ∀id,σ.H.length≤id→(∀d∈full,listed.getD d.i false=true→¬(d.base≤id∧id<d.base+d.news.length))→φ id=none
theorem Mk{o:Oper}{j:Nat}:j∈iy o↔∃e∈o.after,Region.binds .any e=true∧e.on=j:=by
 unfold iy;simp only[List.mem_map,List.mem_filter,Array.mem_toList_iff];constructor
 ·rintro⟨e,⟨h1,h2⟩,h3⟩;exact⟨e,h1,h2,h3⟩
 ·rintro⟨e,h1,h2,h3⟩;exact⟨e,⟨h1,h2⟩,h3⟩
theorem W9.QgV{n b:Nat}{full:List Dn}(hD:W9 P ops σ kT cl n full b):∀x∈full,∀u ob,(u,ob)∈x.yu→O9 cl u=some x.i:=fun x hx u ob hu=>by
 obtain⟨pre,post,d,o,e,hdi,-,-,-,-,kK⟩:=hD.op x.i (hD.wf.lt.2 x hx).1;have:d=x:=hD.wf.inj d (by rw[e];simp) x hx hdi
 subst this;rcases kK with⟨h,-⟩|⟨-,h,-⟩|⟨-,h,-⟩
 ·rw[h]at hu;cases hu
 ·exact h (u,ob) hu
 ·rw[h]at hu;cases hu
theorem MD{q:Nat×Nat×Nat×List Lf}{o:Option Ob}:∀{l:List (Nat×Option Ob)},c6 (V6 q l)→(q.1,o)∈l→rdP q o
 | [],_,h=>by cases h
 |(u,x) ::r,ha,h=>by
  simp only[V6]at ha;cases hu:(u == q.1)with
  |true =>
   rw[hu]at ha;rcases List.mem_cons.1 h with h|h
   ·cases h;exact ha.1
   ·exact MD ha.2 h
  |false =>
   rw[hu]at ha;rcases List.mem_cons.1 h with h|h
   ·cases h;simp at hu
   ·exact MD ha h
theorem Sz{q:Nat×Nat×Nat×List Lf}{o:Option Ob}{x:Dn}:∀{l:List Dn},c6 (Sy q l)→x∈l→(q.1,o)∈x.yu→rdP q o
 |d ::r,ha,hx,h=>by
  simp only[Sy,bm]at ha;rcases List.mem_cons.1 hx with rfl|hx
  ·exact MD ha.1 h
  ·exact Sz ha.2 hx h
theorem V7{full:List Dn}{q:Nat×Nat×Nat×List Lf}:∀{l:List (Nat×Nat×Nat×List Lf)},c6 (Qfp full l)→q∈l→c6 (Sy q full)
 |d ::r,ha,hx=>by
  simp only[Qfp,bm]at ha;rcases List.mem_cons.1 hx with rfl|hx
  ·exact ha.1
  ·exact V7 ha.2 hx
theorem Sx{full:List Dn}{d:Dn}{q:Nat×Nat×Nat×List Lf}:∀{l:List Dn},c6 (Sw full l)→d∈l→q∈d.rd→c6 (Sy q full)
 |x ::r,ha,hx,h=>by
  simp only[Sw,bm]at ha;rcases List.mem_cons.1 hx with rfl|hx
  ·exact V7 ha.1 h
  ·exact Sx ha.2 hx h
theorem SN{S:Nat→Bool}{id:Nat}{o:Option Ob}:∀{l:List Dn},td S l id=some o→∃x∈l,(id,o)∈x.yu
 | [],h=>by cases h
 |d ::r,h=>by
  simp only[td]at h;split at h
  ·rename_i ob hu;cases h;cases hS:S d.i with
   |false=>rw[hS]at hu;cases hu
   |true=>rw[hS]at hu;exact⟨d,List.mem_cons_self,zj hu⟩
  ·obtain⟨x,hx,h1⟩:=SN h;exact⟨x,List.mem_cons_of_mem _ hx,h1⟩
theorem Yh{r:Bool}{n off:Nat}{cs QR:List Lf}(h:(QR.drop off).take ((cs.drop off).take n).length=(cs.drop off).take n)(hr:(r||n == 1)=true){c:Cm}(hc:tH r n off cs=some c):tH r n off QR=some c:=by
 unfold tH at hc ⊢;cases r with
 |true =>
  simp only[cond_true]at hc ⊢;cases hl:(((cs.drop off).take n).length == n)with
  |false=>rw[hl]at hc;cases hc
  |true =>
   have EB:((cs.drop off).take n).length=n:=by simpa using hl
   rw[EB]at h;rw[h,hl];rw[hl]at hc;exact hc
 |false =>
  have hn:n=1:=by simpa using hr
  subst hn;simp only[cond_false]at hc ⊢;cases ho:cs[off]? with
  |none=>rw[ho]at hc;cases hc
  |some x =>
   have jU:=(List.getElem?_eq_some_iff.1 ho).1;have h1:(cs.drop off).take 1=[x]:=by
    rw[List.take_one,List.head?_drop,ho];rfl
   rw[h1]at h;have h2:QR[off]?=some x:=by
    have h3:((QR.drop off).take ([x]:List Lf).length)[0]?=some x:=by rw[h];rfl
    rw[List.getElem?_take]at h3;simpa using h3
   rw[h2,←ho];exact hc
theorem QcJ{n b j:Nat}{full:List Dn}{listed:Array Bool}(hD:W9 P ops σ kT cl n full b)(hrd:c6 (Sw full full))(Qar:∀x∈full,∀y∈full,∀t,x.dst=some t→y.dst=some t→x=y)(tZ:∀x∈full,∀t,x.dst=some t→kT.contains t=true)
  (inv:Qd5 Γ σ kT full listed a w) (Qhm:∀j k,listed.getD j false=true→k∈iy (ops.getD j default)→listed.getD k false=true) (hj:j<n) (hun:listed.getD j true=false) (QhI:∀k∈iy (ops.getD j default),listed.getD k false=true) {K:Act→World→Prop} (hK:∀a' w',Qd5 Γ σ kT full (listed.setIfInBounds j true) a' w'→K a' w'):
  wpOp P ops Q j K a w:=by
 obtain⟨pre,post,d,o,QfN,rfl,hoj,hdd,QeI,Qj_,kK⟩:=hD.op j hj;obtain⟨hN,L6,φ,M,hF,hW,hφ⟩:=inv;have FD:∀x∈post,x∈full:=fun x hx=>by rw[QfN];simp [hx]
 have FB:d∈full:=by rw[QfN];simp
 have QaA:listed.getD d.i false=false:=getD_both hun;have hog:ops.getD d.i default=o:=by simp [Array.getD_eq_getD_getElem?,hoj]
 rw[hog]at QhI;have jU:=hD.wf.lt;have QeF:=hD.QgV;have Iz:∀k,k≠d.i→(listed.setIfInBounds d.i true).getD k false=listed.getD k false:=fun k hk=>getD_set_ne false (Ne.symm hk)
 have pq:d.i<listed.size:=by
  rcases Nat.lt_or_ge d.i listed.size with h|h
  ·exact h
  ·simp [Array.getElem?_eq_none h]at hun
 have w5:(listed.setIfInBounds d.i true).getD d.i false=true:=by simp [Array.getD_eq_getD_getElem?,pq]
 -- Qu Qol QfB it Qnj
 have hFL:∀t,AR w M φ (xU σ.L kT (iy o).contains post t) (a.tmps.getD t undef):=fun t=>by
  rcases jV (kT:=kT) (L:=σ.L) (S:=(iy o).contains) (t:=t) (l:=post)with⟨x,hx,h1,h2,h3⟩|⟨h1,h2⟩
  ·rw[h3];have Zn:listed.getD x.i false=true:=QhI x.i (by simpa using h2)
   have h4:=hF t;rcases jV (kT:=kT) (L:=σ.L) (S:=fun i=>listed.getD i false) (t:=t) (l:=full)with⟨y,hy,g1,g2,g3⟩|⟨g1,g2⟩
   ·rw[g3,Qar y hy x (FD x hx) t g1 h1]at h4;exact h4
   ·rw[g1 x (FD x hx) h1]at Zn;cases Zn
  ·rw[h2];cases hc:kT.contains t with
   |true=>trivial
   |false =>
    have h4:=hF t;rcases jV (kT:=kT) (L:=σ.L) (S:=fun i=>listed.getD i false) (t:=t) (l:=full)with⟨y,hy,g1,g2,g3⟩|⟨g1,g2⟩
    ·rw[tZ y hy t g1]at hc;cases hc
    ·rw[g2,hc]at h4;exact h4
 -- Qu objects QfB it Qnj
 have eD:∀id ob,view ops cl d.i (wU σ.H (iy o).contains post) id=some ob→nd σ.H (fun i=>listed.getD i false) full id=some ob:=fun id ob hv=>by
  obtain⟨hid,Ee⟩:=SO hv;have hu:td (fun i=>listed.getD i false) full id=none:=Au fun x hx ye By=>by
   rcases Ee x.i (QeF x hx id ye By)with h|h
   ·rw[h];exact QaA
   ·cases Zn:listed.getD x.i false with
    |false=>rfl
    |true=>rw[UP h Qhm Zn]at QaA;cases QaA
  unfold nd;rw[hu];rcases xT (H:=σ.H) (S:=(iy o).contains) Qj_ id with⟨x,hx,h1,h2⟩|⟨h1,h2⟩
  ·rw[rV Qj_ hx h1 h2]at hid;simp only;rw[rV hD.wf (FD x hx) h1 h2];cases hs:(iy o).contains x.i with
   |false=>rw[hs]at hid;cases hid
   |true =>
    rw[hs]at hid;have:listed.getD x.i false=true:=QhI x.i (by simpa using hs)
    rw[this];exact hid
  ·rw[h2]at hid;have WR:id<σ.H.length:=ly hid;simp only;rw[Ca hD.wf (.inr WR)];exact hid
 -- QfH others have left is left
 have Vz:∀id,¬(d.base≤id∧id<d.base+d.news.length)→wU σ.H (fun i=>(listed.setIfInBounds d.i true).getD i false) full id=wU σ.H (fun i=>listed.getD i false) full id:=fun id hi=>by
  rcases xT (H:=σ.H) (S:=fun i=>(listed.setIfInBounds d.i true).getD i false) hD.wf id with⟨x,hx,h1,h2⟩|⟨h1,h2⟩
  ·have hxd:x.i≠d.i:=fun e=>hi (by rw[←hD.wf.inj x hx d FB e];exact⟨h1,h2⟩)
   rw[rV hD.wf hx h1 h2,rV hD.wf hx h1 h2,Iz _ hxd]
  ·rw[h2,Ca hD.wf h1]
 have Qj3:∀id,(∀ob,(id,ob) ∉ d.yu)→td (fun i=>(listed.setIfInBounds d.i true).getD i false) full id=td (fun i=>listed.getD i false) full id:=fun id rR=>GJ fun x hx ob hu=>by
  by_cases hxd:x.i=d.i
  ·have:=hD.wf.inj x hx d FB hxd;subst this;exact absurd hu (rR ob)
  ·exact Iz _ hxd
 -- Qu end of it
 have fin:∀v w' φ' M',AR w' M' φ' d.v v→Wd Γ φ' M' (nd σ.H (fun i=>(listed.setIfInBounds d.i true).getD i false) full) w'→Ex w M φ w' M' φ'→(∀id,φ' id≠none→φ id≠none∨(d.base≤id∧id<d.base+d.news.length))→K (a.put o.dst v) w':=by
  intro v w' φ' M' hv qq he hn;refine hK _ _ ⟨by rw[Ac];exact hN,by rw[put_defers];exact L6,φ',M',?_,qq,?_⟩
  ·intro t;have h4:=AR.mono he (hF t);by_cases hdt:d.dst=some t
   ·have Qho:t<a.tmps.size:=by
     rw[hdd]at hdt;rw[hdt]at QeI;rw[hN];exact Nat.le_of_ble_eq_true QeI
    rw[←hdd,hdt,T6 Qho,if_pos rfl];rcases jV (kT:=kT) (L:=σ.L) (S:=fun i=>(listed.setIfInBounds d.i true).getD i false) (t:=t) (l:=full)with⟨y,hy,g1,g2,g3⟩|⟨g1,g2⟩
    ·rw[g3,Qar y hy d FB t g1 hdt];exact hv
    ·have:=g1 d FB hdt;rw[w5]at this;cases this
   ·have hgd:(a.put o.dst v).tmps.getD t undef=a.tmps.getD t undef:=by
     rw[←hdd];cases hd2:d.dst with
     |none=>rfl
     |some u =>
      rw[hd2]at hdt;have Qho:u<a.tmps.size:=by
       rw[hdd]at hd2;rw[hd2]at QeI;rw[hN];exact Nat.le_of_ble_eq_true QeI
      rw[T6 Qho,if_neg (fun e=>hdt (by rw[e]))]
    rw[hgd];have QcA:xU σ.L kT (fun i=>(listed.setIfInBounds d.i true).getD i false) full t=xU σ.L kT (fun i=>listed.getD i false) full t:=by
     rcases jV (kT:=kT) (L:=σ.L) (S:=fun i=>(listed.setIfInBounds d.i true).getD i false) (t:=t) (l:=full)with⟨y,hy,g1,g2,g3⟩|⟨g1,g2⟩
     ·have hyi:y.i≠d.i:=fun e=>hdt (by rw[←hD.wf.inj y hy d FB e];exact g1)
      rw[Iz _ hyi]at g2;rcases jV (kT:=kT) (L:=σ.L) (S:=fun i=>listed.getD i false) (t:=t) (l:=full)with⟨z,hz,k1,k2,k3⟩|⟨k1,k2⟩
      ·rw[g3,k3,Qar y hy z hz t g1 k1]
      ·rw[k1 y hy g1]at g2;cases g2
     ·rcases jV (kT:=kT) (L:=σ.L) (S:=fun i=>listed.getD i false) (t:=t) (l:=full)with⟨z,hz,k1,k2,k3⟩|⟨k1,k2⟩
      ·have hzi:z.i≠d.i:=fun e=>hdt (by rw[←hD.wf.inj z hz d FB e];exact k1)
       have:=g1 z hz k1;rw[Iz _ hzi,k2]at this;cases this
      ·rw[g2,k2]
    rw[QcA];exact h4
  ·intro id hid sI;refine Classical.byContradiction fun h=>?_
   rcases hn id h with h1|h1
   ·refine h1 (hφ id hid fun x hx Zn=>?_)
    by_cases hxd:x.i=d.i
    ·rw[hxd,QaA]at Zn;cases Zn
    ·exact sI x hx (by rw[Iz _ hxd];exact Zn)
   ·exact sI d FB w5 h1
 have hφn:∀id,d.base≤id→id<d.base+d.news.length→φ id=none:=fun id h1 h2=>by
  refine hφ id ?_ fun x hx Zn hxi=>?_
  ·have:=(jU.2 d FB).2.1;omega
  ·have:x=d:=by
    have e1:=rV (H:=[]) (S:=fun i=>i == x.i) hD.wf hx hxi.1 hxi.2
    have e2:=rV (H:=[]) (S:=fun i=>i == x.i) hD.wf FB h1 h2
    refine Classical.byContradiction fun rR=>?_
    have hii:d.i≠x.i:=fun e=>rR (hD.wf.inj x hx d FB e.symm)
    have c1:(x.i == x.i)=true:=by simp
    have c2:(d.i == x.i)=false:=by simpa using hii
    simp only[c1,cond_true]at e1;simp only[c2,cond_false]at e2;rw[e1]at e2;have hl:id-x.base<x.news.length:=by omega
    simp [List.getElem?_eq_getElem hl]at e2
   rw[this,QaA]at Zn;cases Zn
 have Qj4:∀id,d.base≤id→id<d.base+d.news.length→∀ob,td (fun i=>listed.getD i false) full id≠some (some ob):=fun id h1 h2 ob hu=>by
  have hO:=hW.fl id ob (by unfold nd;rw[hu])
  exact hO.Qh_ (hφn id h1 h2)
 have tg:∀id,d.base≤id→id<d.base+d.news.length→φ id=none∧nd σ.H (fun i=>listed.getD i false) full id=none:=fun id h1 h2=>by
  refine⟨hφn id h1 h2,?_⟩;unfold nd;split
  ·rename_i ob hu;cases ob with
   |none=>rfl
   |some ob=>exact absurd hu (Qj4 id h1 h2 ob)
  ·rw[rV hD.wf FB h1 h2,QaA];rfl
 -- QfH is there QgQ
 have Dh:∀{φ':Pl} {M':Nat→Prop} {w':World},Wd Γ φ' M' (Sv (MY (nd σ.H (fun i=>listed.getD i false) full) d.yu) d.base d.news) w'→Wd Γ φ' M' (nd σ.H (fun i=>(listed.setIfInBounds d.i true).getD i false) full) w':=fun qq=>qq.less fun id ob hid=>by
  unfold Sv;by_cases hi:d.base≤id∧id<d.base+d.news.length
  ·rw[if_pos hi];unfold nd at hid;rw[rV hD.wf FB hi.1 hi.2,w5]at hid;have hnn:∀o',(id,o') ∉ d.yu:=fun o' hm=>by
    have Ee:=QeF d FB id o' hm;rcases kK with⟨h,-⟩|⟨-,-,r,hs,kK,-,-,-,hru⟩|⟨-,h,-⟩
    ·rw[h]at hm;cases hm
    ·rw[←hru]at hm;obtain⟨Nw,g⟩:=Qx kK (id,o') hm;have:=eD id Nw g;rw[(tg id hi.1 hi.2).2]at this;cases this
    ·rw[h]at hm;cases hm
   rw[Qj3 id hnn]at hid;split at hid
   ·rename_i o' hu;subst hid;exact absurd hu (Qj4 id hi.1 hi.2 ob)
   ·exact hid
  ·rw[if_neg hi];unfold MY;cases hf:qS d.yu id with
   |some o' =>
    simp only;unfold nd at hid;rw[Qv (d:=d) (u:=id) (o:=o') hf w5 FB (fun x hx ye hu=>by
     have h1:=QeF x hx _ _ hu;have h2:=QeF d FB _ _ (zj hf);rw[h2]at h1;exact hD.wf.inj x hx d FB (Option.some.inj h1).symm)]at hid
    exact hid
   |none =>
    simp only;have hnn:∀o',(id,o') ∉ d.yu:=fun o' hm=>by
     have:∀{l:List (Nat×Option Ob)},(id,o')∈l→qS l id≠none:=by
      intro l;induction l with
      |nil=>intro h;cases h
      |cons y l ih =>
       obtain⟨u,x⟩:=y;intro h hn;simp only[qS]at hn;cases hu:(u == id)with
       |true=>rw[hu]at hn;cases hn
       |false =>
        rw[hu]at hn;rcases List.mem_cons.1 h with h|h
        ·cases h;simp at hu
        ·exact ih h hn
     exact this hm hf
    unfold nd at hid ⊢;rw[Qj3 id hnn,Vz id hi]at hid;exact hid
 rcases kK with⟨QhP,r,hs,kK,cR,hrv,WT⟩|⟨hgd,Ee,r,hs,kK,cR,hrv,WT,hru⟩|⟨hgd,QhP,zO,q,Nw,kK,cR,hqd⟩
 ·have key:=U8 (φ:=φ) (M:=M) (w:=w) (a:=a) (Γ:=Γ) (hD:=nd σ.H (fun i=>listed.getD i false) full) (K:=K) kK cR hFL hW eD (fun id h1 h2=>by
   rw[WT]at h2;exact tg id h1 h2) fun v w' φ' M' hv qq he hn=>fin v w' φ' M' (by rw[←hrv];exact hv) (Dh (by rw[QhP,←WT];exact qq)) he (by rw[←WT];exact hn)
  unfold wpOp;simp only[hoj];split
  ·rename_i hw;rw[if_pos hw]at key;exact .inl (Z0 (fun _ _ h=>h) key)
  ·rename_i hw;rw[if_neg hw]at key;exact key
 ·have hw:Region.wanted o (yielded ops a.tmps)=true:=by unfold Region.wanted;rw[hgd]
  unfold wpOp;simp only[hoj,hw,if_true];left;refine Z0 (fun _ _ h=>h) (SQ (φ:=φ) (M:=M) (w:=w) (a:=a) (Γ:=Γ) (hD:=nd σ.H (fun i=>listed.getD i false) full) (K:=K) kK cR hFL hW eD (fun id h1 h2=>by
   rw[WT]at h2;exact tg id h1 h2) fun v w' hm=>?_)
  obtain⟨φ',M',hv,qq,he,hn⟩:=hm;exact fin v w' φ' M' (by rw[←hrv];exact hv) (Dh (by rw[←hru,←WT];exact qq)) he (by rw[←WT];exact hn)
 ·have hw:Region.wanted o (yielded ops a.tmps)=true:=by unfold Region.wanted;rw[hgd]
  unfold wpOp;simp only[hoj,hw,if_true];left
  -- Qu load,from Qu box as it is now
  have QjI:∃r:Lv,yx P (nd σ.H (fun i=>listed.getD i false) full) d.base True (xU σ.L kT (iy o).contains post) o.op []=some r∧c6 r.fl∧r.v=d.v∧r.news=[]:=by
   unfold Qdj at kK;split at kK
   ·rename_i t x hop;split at kK
    ·rename_i id sz row off QF m Qd hg ht htr;split at kK
     ·rename_i ob hid;split at kK
      ·rename_i cells pc iL;cases hc:(ob.sz == sz&&row == 0&&(Qd||m == 1))with
       |false=>rw[hc]at kK;cases kK
       |true =>
        rw[hc]at kK;simp only[cond_true]at kK;cases hp:tH Qd m off cells with
        |none=>rw[hp]at kK;cases kK
        |some c =>
         rw[hp]at kK;simp only[Option.map_some,Option.some.injEq,Prod.mk.injEq]at kK;obtain⟨hv,rfl,rfl⟩:=kK;simp only[Bool.and_eq_true,beq_iff_eq]at hc;have WR:id<σ.H.length:=ly hid;have Qms:∃ye,nd σ.H (fun i=>listed.getD i false) full id=some ye∧ye.box=true∧ye.sz=sz∧∃S5,ye.rows=[S5]∧tH Qd m off S5=some c:=by
          unfold nd;cases hu:td (fun i=>listed.getD i false) full id with
          |none =>
           simp only;rw[Ca hD.wf (.inr WR)];exact⟨ob,hid,pc,hc.1.1,cells,iL,hp⟩
          |some o' =>
           obtain⟨x',By,hxu⟩:=SN hu;have hP:=Sz (Sx hrd FB hqd) By hxu;cases o' with
           |none=>exact hP.elim
           |some ye =>
            simp only[rdP,Prod.mk.injEq]at hP;obtain⟨p1,p2,p3⟩:=hP;refine⟨ye,rfl,p1,p2,?_⟩;cases Zl:ye.rows with
            |nil=>rw[Zl]at p3;cases p3
            |cons c0 r0 =>
             rw[Zl]at p3;simp only[List.map_cons,List.cons.injEq,List.map_eq_nil_iff]at p3;obtain⟨p4,rfl⟩:=p3;exact⟨c0,rfl,Yh p4 hc.2 hp⟩
         obtain⟨ye,k1,k2,k3,S5,k4,k5⟩:=Qms;refine⟨⟨.cm c,[],QF,[]⟩,?_,cR,hv,rfl⟩;rw[hop];simp only[yx,hg,ht,htr,k1,k2,k3,k4,k5,hc.1.2,beq_self_eq_true,cond_true,Option.map_some]
      ·cases kK
     ·cases kK
    ·cases kK
   ·cases kK
  obtain⟨r,hr,hro,hrv,WT⟩:=QjI;obtain⟨v,w',φ',c8,QD,qq,Di,hn,hb⟩:=GY (φ:=φ) (M:=M) (hD:=nd σ.H (fun i=>listed.getD i false) full) hr hro trivial hFL hW (fun _ _ h=>h) (fun id h1 h2=>by rw[WT]at h2;simp at h2;omega)
  refine Z0 (fun _ _ h=>h) ?_
  unfold Oper.wp;rw[c8];rw[WT]at qq hn;refine fin v w' φ' M (by rw[←hrv];exact QD) (Dh (by rw[QhP,zO];exact qq)) ⟨hb,fun _ h=>h,Di⟩ (fun id h=>?_)
  rcases hn id h with h1|h1
  ·exact .inl h1
  ·simp at h1;omega
end
end
section
open Go.RowKit
section
variable {P : Program} {Γ : bu} {φ φ' : Pl} {M M' : Nat → Prop} {w w' : World} {a : Act} {hs : List Hint} {o : Oper} {ops : Array Oper} {Q : Exit → Act → World → Prop} {σ : SS} {cl : List (Nat × Nat)}
theorem IN:∀{l:List Nat},Ba l=true→l.Nodup
 | [],_=>by simp
 |x ::l,h=>by
  simp only[Ba,Bool.and_eq_true,Bool.not_eq_true']at h;rw[List.nodup_cons];exact⟨by simpa using h.1,IN h.2⟩
theorem U9:∀{l:List Oper} {i j t:Nat} {x y:Oper},(dstsOf l).Nodup→l[i]?=some x→l[j]?=some y→x.dst=some t→y.dst=some t→i=j
 | [],i,_,_,_,_,_,h,_,_,_=>by simp at h
 |o ::l,0,0,_,_,_,_,_,_,_,_=>rfl
 |o ::l,0,j+1,t,x,y,hn,hi,hj,hx,hy=>by
  simp at hi hj;subst hi;have:dstsOf (o ::l)=t ::dstsOf l:=by simp [dstsOf,hx]
  rw[this,List.nodup_cons]at hn;exact absurd (List.mem_filterMap.2 ⟨y,List.mem_of_getElem? hj,hy⟩) hn.1
 |o ::l,i+1,0,t,x,y,hn,hi,hj,hx,hy=>by
  simp at hi hj;subst hj;have:dstsOf (o ::l)=t ::dstsOf l:=by simp [dstsOf,hy]
  rw[this,List.nodup_cons]at hn;exact absurd (List.mem_filterMap.2 ⟨x,List.mem_of_getElem? hi,hx⟩) hn.1
 |o ::l,i+1,j+1,t,x,y,hn,hi,hj,hx,hy=>by
  have QZ:(dstsOf l).Nodup:=by
   unfold dstsOf at hn ⊢;rw[List.filterMap_cons]at hn;split at hn
   ·exact hn
   ·exact(List.nodup_cons.1 hn).2
  exact congrArg (·+1) (U9 (l:=l) QZ (by simpa using hi) (by simpa using hj) hx hy)
theorem Zx{L:List (Nat×AV)}{t:Nat}:∀(l:List Dn),look (dL L l) t=xU L [] (fun _=>true) l t
 | []=>rfl
 |⟨i,d,v,b,n,u,q⟩ ::r=>by
  have ih:=Zx (L:=L) (t:=t) r;simp only[dL,xU,Bool.and_true];cases d with
  |none=>exact ih
  |some u =>
   simp only[KI,look];have:(some u == some t)=(u == t):=rfl;rw[this,ih]
theorem W9.below{n b:Nat}{full:List Dn}{kT:List Nat}(hD:W9 P ops σ kT cl n full b):∀x∈full,∀u∈x.yu,u.1<x.base:=fun x hx u hu=>by
 obtain⟨pre,post,d,o,e,hdi,-,-,-,hw,kK⟩:=hD.op x.i (hD.wf.lt.2 x hx).1;have:d=x:=hD.wf.inj d (by rw[e];simp) x hx hdi
 subst this;rcases kK with⟨h,-⟩|⟨-,-,r,hs,kK,-,-,-,hru⟩|⟨-,h,-⟩
 ·rw[h]at hu;cases hu
 rotate_left
 ·rw[h]at hu;cases hu
 ·rw[←hru]at hu;obtain⟨Nw,h4⟩:=Qx kK u hu;have h5:=(SO h4).1;rcases xT (H:=σ.H) (S:=(iy o).contains) hw u.1 with⟨y,hy,k1,k2⟩|⟨k1,k2⟩
  ·have:=(hw.lt.2 y hy).2.2;omega
  ·rw[k2]at h5;have:=ly h5;have:=hw.lt.1;omega
theorem QjC{lo i b:Nat}{H:List (Option Ob)}{l:List Dn}(h:RB lo l i b)(WR:lo=H.length)(hb:∀x∈l,∀u∈x.yu,u.1<x.base):(dH H l).length=b∧hl (dH H l)=nd H (fun _=>true) l:=by
 induction h with
 |nil=>exact⟨WR.symm,rfl⟩
 |cons dst v news yu rd h ih =>
  rename_i r i b;obtain⟨h1,h2⟩:=ih fun x hx=>hb x (List.mem_cons_of_mem _ hx)
  have hup:∀id,b≤id→td (fun _=>true) r id=none:=fun id hid=>Au fun x hx ob hu=>by
   have:=hb x (List.mem_cons_of_mem _ hx) _ hu;have:=(h.lt.2 x hx).2.2;simp only at *;omega
  refine⟨by simp [dH,CX,h1],?_⟩
  simp only[dH];have hub:∀u∈yu,u.1<(dH H r).length:=fun u hu=>by rw[h1];exact hb _ List.mem_cons_self u hu
  rw[Tt,CX,h1,Tv hub,h2]
  funext id
  unfold Sv;by_cases hi:b≤id∧id<b+news.length
  ·rw[if_pos hi];have e1:(Nat.ble b id&&Nat.blt id (b+news.length))=true:=by rw[Bool.and_eq_true];exact⟨Nat.ble_eq_true_of_le hi.1,Nat.ble_eq_true_of_le hi.2⟩
   have e2:td (fun _=>true) (⟨i,dst,v,b,news,yu,rd⟩ ::r) id=none:=Au fun x hx ob hu=>by
    rcases List.mem_cons.1 hx with rfl|hx
    ·have:=hb _ List.mem_cons_self _ hu;simp only at this;omega
    ·have:=hb x (List.mem_cons_of_mem _ hx) _ hu;have:=(h.lt.2 x hx).2.2;simp only at *;omega
   unfold nd;rw[e2];simp only[wU,e1,cond_true]
  ·rw[if_neg hi];have e1:(Nat.ble b id&&Nat.blt id (b+news.length))=false:=by
    rw[←Bool.not_eq_true,Bool.and_eq_true];intro⟨h3,h4⟩;exact hi ⟨Nat.le_of_ble_eq_true h3,Nat.le_of_ble_eq_true h4⟩
   unfold MY nd;simp only[td,cond_true,wU,e1,cond_false];cases qS yu id <;> rfl
def left(listed:Array Bool)(n:Nat):Nat:=((List.range n).filter fun i=>!listed.getD i false).length
theorem QcS{listed:Array Bool}{n j:Nat}(hj:j<n)(hl:listed.getD j true=false):left listed n=left (listed.setIfInBounds j true) n+1:=by
 have pq:j<listed.size:=by
  rcases Nat.lt_or_ge j listed.size with h|h
  ·exact h
  ·simp [Array.getElem?_eq_none h]at hl
 have w5:(listed.setIfInBounds j true).getD j false=true:=by simp [Array.getD_eq_getD_getElem?,pq]
 unfold left;have key:∀l:List Nat,l.Nodup→(j∈l→(l.filter fun i=>!listed.getD i false).length=(l.filter fun i=>!(listed.setIfInBounds j true).getD i false).length+1)∧(j ∉ l→(l.filter fun i=>!listed.getD i false).length=(l.filter fun i=>!(listed.setIfInBounds j true).getD i false).length):=by
  intro l;induction l with
  |nil=>intro _;exact⟨fun h=>(by cases h),fun _=>rfl⟩
  |cons x l ih =>
   intro hn;rw[List.nodup_cons]at hn;obtain⟨ih1,ih2⟩:=ih hn.2;by_cases hx:x=j
   ·subst hx;refine⟨fun _=>?_,fun h=>absurd List.mem_cons_self h⟩
    rw[List.filter_cons,List.filter_cons,getD_both hl,w5];simp only[Bool.not_false,if_true,Bool.not_true,Bool.false_eq_true,if_false,List.length_cons];rw[ih2 hn.1]
   ·have hs:=getD_set_ne (listed:=listed) (i:=j) (j:=x) false (fun e=>hx e.symm)
    refine⟨fun h=>?_,fun h=>?_⟩
    ·rw[List.filter_cons,List.filter_cons,hs];have hm:j∈l:=by rcases List.mem_cons.1 h with h|h;exact absurd h.symm hx;exact h
     have:=ih1 hm;split <;>(try simp only[List.length_cons]) <;> omega
    ·rw[List.filter_cons,List.filter_cons,hs];have:=ih2 fun hm=>h (List.mem_cons_of_mem _ hm)
     split <;>(try simp only[List.length_cons]) <;> omega
 exact(key _ List.nodup_range).1 (List.mem_range.2 hj)
theorem QaJ{listed:Array Bool}{n:Nat}(h:left listed n=0):∀i,i<n→listed.getD i false=true:=fun i hi=>by
 unfold left at h;have h1:=List.eq_nil_of_length_eq_zero h;rw[List.filter_eq_nil_iff]at h1;have:=h1 i (List.mem_range.2 hi);simpa using this
theorem QcR{listed:Array Bool}{n:Nat}(h:left listed n≠0):∃i,i<n∧listed.getD i false=false∧∀k,k<i→listed.getD k false=true:=by
 unfold left at h;have hex:∃i,i<n∧listed.getD i false=false:=by
  cases h1:(List.range n).filter (fun i=>!listed.getD i false)with
  |nil=>rw[h1]at h;exact absurd rfl h
  |cons x l =>
   have hx:x∈(List.range n).filter (fun i=>!listed.getD i false):=by rw[h1];exact List.mem_cons_self
   rw[List.mem_filter,List.mem_range]at hx;exact⟨x,hx.1,by simpa using hx.2⟩
 have key:∀m i,i≤m→i<n→listed.getD i false=false→∃i,i<n∧listed.getD i false=false∧∀k,k<i→listed.getD k false=true:=by
  intro m;induction m with
  |zero=>intro i hi hn hf;exact⟨i,hn,hf,fun k hk=>by omega⟩
  |succ m ih =>
   intro i hi hn hf;by_cases sI:∀k,k<i→listed.getD k false=true
   ·exact⟨i,hn,hf,sI⟩
   ·simp only[Classical.not_forall]at sI;obtain⟨k,hk,hk2⟩:=sI;exact ih k (by omega) (by omega) (by simpa using hk2)
 obtain⟨i,hi,hf⟩:=hex;exact key i i (Nat.le_refl _) hi hf
theorem Qb8{n b:Nat}{full:List Dn}{tail:List Oper}{s:St}{Zm:List Hint}(hB:U7 ops n=true)(hD:W9 P ops σ (dstsOf (ops.toList.take n)) cl n full b)(hrd:c6 (Sw full full))(QjZ:ze P ops (ops.toList.drop n) ⟨σ.N,dL σ.L full,dH σ.H full⟩ Zm=some s)(cR:c6 s.fl)
  (hQ:∀a' w',NA Γ s.σ a' w'→Q .normal a' w'):∀(f:Nat) (listed:Array Bool) (a:Act) (w:World),left listed n=f→HeadInv .any ops n listed→Qd5 Γ σ (dstsOf (ops.toList.take n)) full listed a w→wpAny P .any ops Q (f+(ops.size-n)) listed a w:=by
 unfold U7 at hB;simp only[Bool.and_eq_true,Bool.or_eq_true,beq_iff_eq,Nat.ble_eq]at hB;obtain⟨⟨⟨⟨hnd,hle⟩,hpr⟩,j9⟩,QmL⟩:=hB;have Qmo:=IN hnd;have Qax:∀j,j<n→(ops.toList.take n)[j]?=ops[j]?:=fun j hj=>by rw[List.getElem?_take,if_pos hj];simp
 have RW:∀x∈full,∃o,x.i<n∧ops[x.i]?=some o∧x.dst=o.dst:=fun x hx=>by
  have hxi:=(hD.wf.lt.2 x hx).1;obtain⟨pre,post,d,o,e,hdi,ho,hdd,-⟩:=hD.op x.i hxi;have:d=x:=hD.wf.inj d (by rw[e];simp) x hx hdi
  subst this;exact⟨o,hxi,ho,hdd⟩
 have Qar:∀x∈full,∀y∈full,∀t,x.dst=some t→y.dst=some t→x=y:=fun x hx y hy t ex ey=>by
  obtain⟨ox,hxn,hox,hdx⟩:=RW x hx;obtain⟨oy,hyn,hoy,hdy⟩:=RW y hy;exact hD.wf.inj x hx y hy (U9 Qmo (by rw[Qax _ hxn];exact hox) (by rw[Qax _ hyn];exact hoy) (hdx▸ex) (hdy▸ey))
 have tZ:∀x∈full,∀t,x.dst=some t→(dstsOf (ops.toList.take n)).contains t=true:=fun x hx t ex=>by
  obtain⟨ox,hxn,hox,hdx⟩:=RW x hx;rw[List.contains_iff_mem];exact List.mem_filterMap.2 ⟨ox,List.mem_of_getElem? (by rw[Qax _ hxn];exact hox),hdx▸ex⟩
 intro f;induction f with
 |zero =>
  intro listed a w hf inv hI;rw[Nat.zero_add];have sI:=QaJ hf;have QjH:listed=XP ops n:=by
   apply Array.ext_getElem?;intro k;unfold XP;simp only[List.getElem?_toArray,List.getElem?_map];rcases Nat.lt_or_ge k ops.size with hk|hk
   ·rw[List.getElem?_range hk];simp only[Option.map_some];by_cases hkn:k<n
    ·have:=sI k hkn;have hks:k<listed.size:=by rw[inv.size];exact hk
     simp only[Array.getD_eq_getD_getElem?,Array.getElem?_eq_getElem hks,Option.getD_some]at this;rw[Array.getElem?_eq_getElem hks,this];have:Nat.blt k n=true:=Nat.ble_eq_true_of_le hkn;rw[this]
    ·have:=inv.tail k (by omega) hk
     have hks:k<listed.size:=by rw[inv.size];exact hk
     simp only[Array.getD_eq_getD_getElem?,Array.getElem?_eq_getElem hks,Option.getD_some]at this;rw[Array.getElem?_eq_getElem hks,this];have:Nat.blt k n=false:=by rw[←Bool.not_eq_true];intro h;exact hkn (Nat.le_of_ble_eq_true h)
     rw[this]
   ·rw[List.getElem?_eq_none (by simpa using hk),Array.getElem?_eq_none (by rw[inv.size];exact hk)];rfl
  obtain⟨hN,L6,φ,M,hF,hW,hφ⟩:=hI;obtain⟨hbl,hbh⟩:=QjC hD.wf rfl hD.below;have hSl:∀x∈full,listed.getD x.i false=true:=fun x hx=>sI x.i (RW x hx).choose_spec.1
  have hS:NA Γ ⟨σ.N,dL σ.L full,dH σ.H full⟩ a w:=by
   refine⟨hN,L6,φ,M,fun t=>?_,?_,fun id hid=>hφ id (by have:=hD.wf.lt.1;rw[hbl]at hid;omega) fun x hx _ hxi=>by
    have:=(hD.wf.lt.2 x hx).2.2;rw[hbl]at hid;omega⟩
   ·rw[Zx];have h4:=hF t;rcases jV (kT:=([]:List Nat)) (L:=σ.L) (S:=fun _=>true) (t:=t) (l:=full)with⟨x,hx,g1,g2,g3⟩|⟨g1,g2⟩
    ·rw[g3];rcases jV (kT:=dstsOf (ops.toList.take n)) (L:=σ.L) (S:=fun i=>listed.getD i false) (t:=t) (l:=full)with⟨y,hy,k1,k2,k3⟩|⟨k1,k2⟩
     ·rw[k3,Qar y hy x hx t k1 g1]at h4;exact h4
     ·have:=k1 x hx g1;rw[hSl x hx]at this;cases this
    ·rw[g2];have Zh:∀x∈full,x.dst≠some t:=fun x hx e=>by have:=g1 x hx e;cases this
     have Qmp:(dstsOf (ops.toList.take n)).contains t=false:=by
      rw[←Bool.not_eq_true,List.contains_iff_mem];intro hm;obtain⟨o,ho,hot⟩:=List.mem_filterMap.1 hm;obtain⟨j,hj⟩:=List.mem_iff_getElem?.1 ho;have hjn:j<n:=by
       have:=(List.getElem?_eq_some_iff.1 hj).1;simp at this;omega
      obtain⟨pre,post,d,o2,e,hdi,ho2,hdd,-⟩:=hD.op j hjn;rw[Qax j hjn,ho2]at hj;cases hj;exact Zh d (by rw[e];simp) (hdd.trans hot)
     rcases jV (kT:=dstsOf (ops.toList.take n)) (L:=σ.L) (S:=fun i=>listed.getD i false) (t:=t) (l:=full)with⟨y,hy,k1,k2,k3⟩|⟨k1,k2⟩
     ·exact absurd k1 (Zh y hy)
     ·rw[k2,Qmp]at h4;exact h4
   ·rw[hbh];refine hW.less fun id ob hid=>?_
    have e1:td (fun i=>listed.getD i false) full id=td (fun _=>true) full id:=GJ fun x hx _ _=>hSl x hx
    unfold nd at hid ⊢;rw[e1];have e2:wU σ.H (fun i=>listed.getD i false) full id=wU σ.H (fun _=>true) full id:=by
     rcases xT (H:=σ.H) (S:=fun _=>true) hD.wf id with⟨x,hx,h1,h2⟩|⟨h1,h2⟩
     ·rw[rV hD.wf hx h1 h2,rV hD.wf hx h1 h2,hSl x hx]
     ·rw[h2,Ca hD.wf h1]
    rw[e2];exact hid
  have hwl:=BV (Q:=Q) (ops.toList.drop n) QjZ cR hS hQ;have hdl:(ops.toList.drop n).length=ops.size-n:=by simp
  have:=wpAny_of_seq (md:=.any) (ops:=ops) (Q':=Q) (ops.toList.drop n) n listed a w (fun j=>by rw[List.getElem?_drop];simp) (by rw[hdl,QjH];exact QmL) hwl
  rw[hdl]at this;exact this
 |succ f ih =>
  intro listed a w hf inv hI;rw[show f+1+(ops.size-n)=(f+(ops.size-n))+1 by omega]
  obtain⟨i0,hi0,hu0,Qmi⟩:=QcR (listed:=listed) (n:=n) (by omega)
  have Qhv:i0<ops.size:=by omega
  have Qj1:listed.getD i0 true=false:=getD_in (by rw[inv.size];exact Qhv) hu0
  have Zj:i0∈Region.ready .any ops listed:=by
   refine mem_ready.2 ⟨Qj1,_,Array.getElem?_eq_getElem Qhv,fun e he hb=>?_⟩
   have h1:=List.all_eq_true.1 hpr (ops[i0],i0) (by
    rw[List.mem_iff_getElem?];refine⟨i0,?_⟩;rw[List.getElem?_zipIdx,Qax i0 hi0,Array.getElem?_eq_getElem Qhv];simp)
   have h2:=List.all_eq_true.1 h1 e.on (Mk.2 ⟨e,he,hb,rfl⟩);exact Qmi e.on (Nat.le_of_ble_eq_true h2)
  refine⟨fun h=>(by rw[h]at Zj;cases Zj),fun j hj=>?_⟩
  have hjn:j<n:=by
   rcases Nat.lt_or_ge j n with h|h
   ·exact h
   ·exfalso;obtain⟨_,oj,hoj,_⟩:=mem_ready.1 hj;have hjs:j<ops.size:=(Array.getElem?_eq_some_iff.1 hoj).1;rcases j9 with h1|⟨⟨h1,h2⟩,h3⟩
    ·omega
    ·exact tail_waits h2 h3 (Nat.le_of_ble_eq_true h1) inv _ i0 rfl hi0 Qj1 j h hj
  obtain⟨hun,oj,hoj,sI⟩:=mem_ready.1 hj;have hog:ops.getD j default=oj:=by simp [Array.getD_eq_getD_getElem?,hoj]
  exact QcJ hD hrd Qar tZ hI (fun j k hj hk=>by
   obtain⟨e,he,hb,rfl⟩:=Mk.1 hk;rcases Nat.lt_or_ge j ops.size with hjs|hjs
   ·rw[Array.getD_eq_getD_getElem?,Array.getElem?_eq_getElem hjs]at he;exact inv.closed j _ (Array.getElem?_eq_getElem hjs) hj e he hb
   ·rw[Array.getD_eq_getD_getElem?,Array.getElem?_eq_none (by rw[inv.size];exact hjs)]at hj
    cases hj) hjn hun (fun k hk=>by
   rw[hog]at hk;obtain⟨e,he,hb,rfl⟩:=Mk.1 hk;exact sI e he hb) fun a' w' hI'=>ih _ a' w' (by have:=QcS hjn hun;omega) (inv.set hj hjn) hI'
theorem QT{s:St}{id:Nat}(hf:JR P ops σ hs=some s)(cR:c6 s.fl)(hS:NA Γ σ a w)(hQ:∀a' w',NA Γ s.σ a' w'→Q .normal a' w'):(Code.region id ops true).wp P Q a w:=by
 unfold JR at hf;split at hf
 ·rename_i n cl fc;cases hc:(P.follows .mixedOrders&&U7 ops n)with
  |false=>rw[hc]at hf;cases hf
  |true =>
   rw[hc]at hf;simp only[cond_true]at hf;simp only[Bool.and_eq_true]at hc;split at hf
   ·rename_i done b ob Zm hd;cases kK:ze P ops (ops.toList.drop n) ⟨σ.N,dL σ.L done,dH σ.H done⟩ Zm with
    |none=>rw[kK]at hf;cases hf
    |some s0 =>
     rw[kK]at hf;cases hf;rw[bm,bm]at cR;have hB:=hc.2;have hle:n≤ops.size:=by
      unfold U7 at hB;simp only[Bool.and_eq_true,Nat.ble_eq]at hB;exact hB.1.1.1.2
     have htl:(ops.toList.take n).length=n:=by simp;omega
     obtain⟨pre,e,hwf,sI⟩:=JQ hd cR.1 (fun k=>by
      rcases Nat.lt_or_ge k n with h|h
      ·left;rw[List.getElem?_take,if_pos h,Nat.zero_add];simp
      ·right;rw[htl];exact h) RB.nil
     rw[htl,Nat.zero_add]at hwf;have hD:W9 P ops σ (dstsOf (ops.toList.take n)) cl n done b:=⟨hwf,fun j hj=>by
      have:=sI j (by rw[htl];exact hj)
      rw[Nat.zero_add]at this;exact this⟩
     refine wp_region_any hc.1 ?_
     have j9:(left (Array.replicate ops.size false) n)+(ops.size-n)=ops.size:=by
      have:left (Array.replicate ops.size false) n=n:=by
       unfold left;rw[List.filter_eq_self.2 (fun i _=>by rw[getD_replicate_false];rfl)]
       simp
      omega
     obtain⟨hN,L6,φ,M,hF,hW,hφ⟩:=hS;have hinv:Qd5 Γ σ (dstsOf (ops.toList.take n)) done (Array.replicate ops.size false) a {w with drawn:=w.drawn+1}:=by
      refine⟨hN,L6,φ,M,fun t=>?_,?_,fun id hid _=>hφ id hid⟩
      ·have EA:Below w.heap.size w {w with drawn:=w.drawn+1}:=⟨rfl,rfl,rfl,Nat.le_refl _,fun _ _=>rfl⟩
       have he:=hW.Oi EA;rcases jV (kT:=dstsOf (ops.toList.take n)) (L:=σ.L) (S:=fun i=>(Array.replicate ops.size false).getD i false) (t:=t) (l:=done)with⟨y,hy,k1,k2,k3⟩|⟨k1,k2⟩
       ·rw[getD_replicate_false]at k2;cases k2
       ·rw[k2];cases(dstsOf (ops.toList.take n)).contains t with
        |true=>trivial
        |false=>exact AR.mono he (hF t)
      ·have EA:Below w.heap.size w {w with drawn:=w.drawn+1}:=⟨rfl,rfl,rfl,Nat.le_refl _,fun _ _=>rfl⟩
       refine(hW.grow EA).less fun id ob hid=>?_
       have e1:td (fun i=>(Array.replicate ops.size false).getD i false) done id=none:=Au fun x _ _ _=>getD_replicate_false _ _
       unfold nd at hid;rw[e1]at hid;simp only at hid;rcases xT (H:=σ.H) (S:=fun i=>(Array.replicate ops.size false).getD i false) hwf id with⟨x,hx,h1,h2⟩|⟨h1,h2⟩
       ·rw[rV hwf hx h1 h2,getD_replicate_false]at hid;cases hid
       ·rw[h2]at hid;exact hid
     have Qm2:HeadInv .any ops n (Array.replicate ops.size false):=
      ⟨by simp,fun j oj _ hl=>(by rw[getD_replicate_false]at hl;cases hl),fun t _ ht=>getD_in (by simpa using ht) (getD_replicate_false _ _)⟩
     have:=Qb8 (tail:=[]) hB hD cR.2.1 kK cR.2.2 hQ _ _ a _ rfl Qm2 hinv;rw[j9]at this;exact this
   ·cases hf
 ·cases hf
end
end
section
set_option exponentiation.threshold 300
open Go.RowKit
section
variable {P : Program} {Γ : bu} {body : Code} {R : Exit → Act → World → Prop} {a : Act} {w : World} {hs : List Hint}
theorem RH(body:Code):∀(n p:Nat),p<2 ^ n→U1 body n p=U1 body (n+1) p
 |0,p,h=>by
  have:p=0:=by simpa using h
  subst this;rfl
 |n+1,p,h=>by
  show(bif Nat.ble p 1 then body else child (p % 2 == 1) (U1 body n (p / 2)))=(bif Nat.ble p 1 then body else child (p % 2 == 1) (U1 body (n+1) (p / 2)));rw[RH body n (p / 2) (by rw[Nat.pow_succ]at h;omega)]
theorem U2{p:Nat}(h:(Nat.ble 1 p&&Nat.blt p KG)=true)(k:Bool):cd body (2*p+cond k 1 0)=child k (cd body p):=by
 rw[Bool.and_eq_true]at h;have h1:1≤p:=Nat.le_of_ble_eq_true h.1;have h2:p<2 ^ 250:=Nat.le_of_ble_eq_true h.2;have h3:p<2 ^ 299:=Nat.lt_of_lt_of_le h2 (Nat.pow_le_pow_right (by omega) (by omega))
 have h4:=RH body 299 p h3;show(bif Nat.ble (2*p+cond k 1 0) 1 then body else child ((2*p+cond k 1 0) % 2 == 1) (U1 body 299 ((2*p+cond k 1 0) / 2)))=child k (U1 body 300 p);have h5:Nat.ble (2*p+cond k 1 0) 1=false:=by
  rw[←Bool.not_eq_true];intro h;have:=Nat.le_of_ble_eq_true h;omega
 have h6:(2*p+cond k 1 0) / 2=p:=by cases k <;> simp <;> omega
 have h7:((2*p+cond k 1 0) % 2 == 1)=k:=by cases k <;> simp <;> omega
 rw[h5,h6,h7,h4];rfl
theorem Qag{p:Nat}(h:(Nat.ble 1 p&&Nat.blt p KG)=true):cd body (2*p)=child false (cd body p):=U2 h false
theorem Fv{id:Nat}:∀{k k':List It},RO id k=some k'→exitTo id (k.map (It.item body))=some (k'.map (It.item body))
 | [],_,h=>by cases h
 | .c p ::k,k',h=>Fv (k:=k) h
 | .l p ::k,k',h=>Fv (k:=k) h
 | .s p ::k,k',h=>Fv (k:=k) h
 | .b i ::k,k',h=>by
  simp only[RO]at h;simp only[List.map_cons,It.item,exitTo];cases hi:(i == id)with
  |true=>rw[hi]at h;cases h;rfl
  |false=>rw[hi]at h;exact Fv (k:=k) h
theorem step_inScope{b:Frame}{a:Act}{k:List Item}{cs:List Frame}{w:World}{c:Code}:step P (lone (b.at a (.inScope c ::k)) cs w)=.next (lone (b.at a k) cs w):=
 step_lone_go (by simp [stepG,stepG.exec,Frame.at])
theorem step_scope{b:Frame}{a:Act}{k:List Item}{cs:List Frame}{w:World}{c:Code}:step P (lone (b.at a (.code (.scope c) ::k)) cs w)=.next (lone (b.at a (.code c :: .inScope c ::k)) cs w):=
 step_lone_go (by simp [stepG,stepG.exec,Frame.at])
theorem Yt{cf:Cf}{r:Rn}(hf:Qid P body cf hs=some r)(cR:c6 r.fl)(hS:NA Γ cf.σ a w)(hK:∀a' w',NA Γ r.cf.σ a' w'→KW P body r.cf.k R a' w'):KW P body cf.k R a w:=by
 intro b cs;have go:∀a' w',NA Γ r.cf.σ a' w'→Steps P (lone (b.at a (cf.k.map (It.item body))) cs w) (lone (b.at a' (r.cf.k.map (It.item body))) cs w')→
   ∃e a' w',R e a' w'∧Arrives P (lone (b.at a (cf.k.map (It.item body))) cs w) b [] cs e a' w':=fun a' w' NJ kK=>let⟨e,a2,w2,hR,ha⟩:=hK a' w' NJ b cs;⟨e,a2,w2,hR,.of_steps kK ha⟩
 unfold Qid at hf;split at hf
 ·cases hf
 ·rename_i id k hk;cases hf;exact go a w hS (by rw[hk];exact .one step_inBlock)
 ·rename_i p k hk;cases hf;exact go a w hS (by rw[hk];exact .one step_inLoop)
 ·rename_i p k hk;cases hf;exact go a w hS (by rw[hk];exact .one step_inScope)
 ·rename_i p k hk;cases hp:(Nat.ble 1 p&&Nat.blt p KG)with
  |false=>rw[hp]at hf;cases hf
  |true =>
   rw[hp]at hf;simp only[Bool.not_true,cond_false]at hf;rw[hk]at go ⊢;simp only[List.map_cons,It.item]at go ⊢;have h0:=Qag (body:=body) hp;have h1:=U2 (body:=body) hp true;simp only[cond_true]at h1;split at hf
   ·rename_i hc;rw[hc]at go ⊢;cases hf;exact go a w hS (.one step_skip)
   ·rename_i x y hc;rw[hc]at go ⊢ h0 h1;cases hf;simp only[List.map_cons,It.item,h0,h1,child,cond_true,cond_false]at go;exact go a w hS (.one step_seq)
   ·rename_i id x hc;rw[hc]at go ⊢ h0;cases hf;simp only[List.map_cons,It.item,h0,child]at go;exact go a w hS (.one step_block)
   ·rename_i x hc;rw[hc]at go ⊢ h0;cases hf;simp only[List.map_cons,It.item,h0,child]at go;exact go a w hS (.one step_loop)
   ·rename_i x hc;rw[hc]at go ⊢ h0;cases hf;simp only[List.map_cons,It.item,h0,child]at go;exact go a w hS (.one step_scope)
   ·rename_i l hc;rw[hc]at go ⊢;cases hf;exact go a w hS (.one step_label)
   ·rename_i c x y hc;split at hf
    ·rename_i b1 t fc hv;rw[hc]at go ⊢ h0 h1;cases hf;have hb:b1=t:=cR.1;obtain⟨hN,L6,φ,M,hF,hW,hφ⟩:=hS;have h2:=E6 hF c;rw[hv]at h2;have h3:=yf h2;subst hb;refine go a w ⟨hN,L6,φ,M,hF,hW,hφ⟩ ?_
     have h4:=step_cond (P:=P) (b:=b) (k:=k.map (It.item body)) (cs:=cs) (w:=w) (x:=x) (y:=y) h3;cases b1 with
     |true=>simp only[List.map_cons,It.item,cond_true,Nat.add_zero,h0,child,cond_false];exact .one h4
     |false=>simp only[List.map_cons,It.item,cond_false,h1,child,cond_true];exact .one h4
    ·cases hf
   ·rename_i id hc;rw[hc]at go ⊢;cases hx:RO id k with
    |none=>rw[hx]at hf;cases hf
    |some k' =>
     rw[hx]at hf;cases hf;exact go a w hS (.one (step_exit (Fv hx)))
   ·rename_i id ops draw hc;rw[hc]at go ⊢;have hw:∀s:St,(bif draw then JR P ops cf.σ hs else ze P ops ops.toList cf.σ hs)=some s→c6 s.fl→(Code.region id ops draw).wp P (fun e a' w'=>e=.normal∧NA Γ s.σ a' w') a w:=by
     intro s Ty ho;cases draw with
     |true=>exact QT Ty ho hS fun a' w' h=>⟨rfl,h⟩
     |false=>exact wp_region_list (BV _ Ty ho hS fun a' w' h=>⟨rfl,h⟩)
    cases hx:(bif draw then JR P ops cf.σ hs else ze P ops ops.toList cf.σ hs)with
    |none=>rw[hx]at hf;cases hf
    |some s =>
     rw[hx]at hf;cases hf;obtain⟨e,a',w',⟨rfl,NJ⟩,har⟩:=hw s hx cR b (k.map (It.item body)) cs;exact go a' w' NJ har
   ·cases hf
theorem F9:∀(n:Nat) {cf:Cf} {r:Rn} {hs:List Hint} {a:Act} {w:World},Wf P body n cf hs=some r→c6 r.fl→NA Γ cf.σ a w→(∀a' w',NA Γ r.cf.σ a' w'→KW P body r.cf.k R a' w')→KW P body cf.k R a w
 |0,cf,r,hs,a,w,hf,_,hS,hK=>by cases hf;exact hK a w hS
 |n+1,cf,r,hs,a,w,hf,cR,hS,hK=>by
  simp only[Wf]at hf;split at hf
  ·rename_i σ0 o0 XU hg;split at hf
   ·rename_i r1 h1;split at hf
    ·rename_i r2 h2;cases hf;simp only[bm]at cR;exact Yt (cf:=⟨cf.k,σ0⟩) h1 cR.1.2 (GZ hg cR.1.1 hS) fun a' w' NJ=>F9 n h2 cR.2 NJ hK
    ·cases hf
   ·cases hf
  ·cases hf
end
section
variable {P : Program} {Γ : bu} {φ φ2 : Pl} {M : Nat → Prop} {w : World} {a : Act} {m : Nat → Option Nat}
def U3(φ:Pl)(ids:List Nat):Pl:=fun i=>match ids[i]? with
 |some j=>φ j
 |none=>none
theorem GV{ids:List Nat}{i j:Nat}(h:ids[i]?=some j):U3 φ ids i=φ j:=by unfold U3;rw[h]
theorem Tf{ids:List Nat}:∀id k p,posOf ids 0 id=some k→φ id=some p→U3 φ ids k=some p:=fun id k p h hp=>(GV (by simpa using(IT h).2)).trans hp
theorem Qc0{live:List Nat}{σ:SS}{f:AV→AV}(t:Nat):look (live.map fun t=>(t,f (look σ.L t))) t=f (look σ.L t)∨look (live.map fun t=>(t,f (look σ.L t))) t=.Lz:=by
 induction live with
 |nil=>exact .inr rfl
 |cons x r ih =>
  simp only[List.map_cons,look];cases h:(x == t)with
  |true =>
   have:x=t:=by simpa using h
   subst this;exact .inl rfl
  |false=>exact ih
theorem Ts{σ:SS}{ids:List Nat}{i:Nat}{ye:Ob}(h:hl (ids.map fun i=>(hl σ.H i).map (iC m)) i=some ye):∃j ob,ids[i]?=some j∧hl σ.H j=some ob∧ye=iC m ob:=by
 unfold hl at h;rw[List.getElem?_map]at h;cases hj:ids[i]? with
 |none=>rw[hj]at h;cases h
 |some j =>
  rw[hj]at h;simp only[Option.map_some,Option.join_some]at h;cases ho:(σ.H[j]?).join with
  |none=>rw[ho]at h;cases h
  |some ob=>rw[ho]at h;cases h;exact⟨j,ob,rfl,ho,rfl⟩
theorem Qb5{σ:SS}{ids EV:List Nat}(hn:Ba ids=true)(hp:Ss EV ids=true)(Py:∀p∈Γ.pins,p.1∈EV)(hW:Wd Γ φ M (hl σ.H) w):
  Wd Γ (U3 φ ids) M (hl (ids.map fun i=>(hl σ.H i).map (iC (posOf ids 0)))) w:=by
 refine⟨fun i ye h=>?_,fun i j oi oj b Ci Cj h1 h2 h3 h4=>?_,hW.mlt,hW.m0,hW.ID,fun i ob b C h1 h2=>?_,hW.FI,hW.os,hW.tape,hW.output,hW.size,fun p hpp=>?_,hW.tbw⟩
 ·obtain⟨j,ob,h1,h2,rfl⟩:=Ts h;exact F7 Tf (GV h1) (hW.fl j ob h2)
 ·obtain⟨i',QF,g1,g2,-⟩:=Ts h1;obtain⟨j',ob2,g3,g4,-⟩:=Ts h2;rw[GV g1]at h3;rw[GV g3]at h4;have:=hW.inj i' j' QF ob2 b Ci Cj g2 g4 h3 h4;subst this;have hi:=(List.getElem?_eq_some_iff.1 g1).1;exact(List.getElem?_inj hi (IN hn)).1 (g1.trans g3.symm)
 ·obtain⟨i',QF,g1,g2,-⟩:=Ts h1;rw[GV g1]at h2;exact hW.own i' QF b C g2 h2
 ·have h1:=hW.EV p hpp;have h2:=List.all_eq_true.1 hp p.1 (Py p hpp);cases hi:ids[p.1]? with
  |none=>rw[hi]at h2;cases h2
  |some j =>
   rw[hi]at h2;have:p.1=j:=by simpa using h2
   rw[GV hi,←this];exact h1
theorem U4{ids:List Nat}(f:Nat→Option Ob):∀id,(ids.map f).length≤id→U3 φ ids id=none:=fun id h=>by
 unfold U3;rw[List.length_map]at h;rw[List.getElem?_eq_none h]
theorem Qeo{σ:SS}{live ids EV:List Nat}(hn:Ba ids=true)(hp:Ss EV ids=true)(Py:∀p∈Γ.pins,p.1∈EV)(hS:NA Γ σ a w):NA Γ (cut live ids σ) a w:=by
 obtain⟨hN,L6,φ,M,hF,hW,hφ⟩:=hS;refine⟨hN,L6,U3 φ ids,M,fun t=>?_,Qb5 hn hp Py hW,U4 _⟩
 rcases Qc0 (live:=live) (σ:=σ) (f:=KM (posOf ids 0)) t with h|h
 ·show AR w M _ (look (live.map fun t=>(t,KM (posOf ids 0) (look σ.L t))) t) _
  rw[h];exact KN Tf (hF t)
 ·show AR w M _ (look (live.map fun t=>(t,KM (posOf ids 0) (look σ.L t))) t) _
  rw[h];trivial
def Qa3(tmps:Array Value):ResultVar→Sem Value
 | .tmp t=>pure (tmps.getD t undef)
 | .cell a t=>do loadVar t (←asAddr (tmps.getD a undef))
theorem VP{α:Type}{f:α→Sem Value}:∀{xs:List α} {vs:List Value},Rs (fun x v=>(f x).run P w=.ok v w) xs vs→(xs.mapM f).run P w=.ok vs w
 | [],[],_=>rfl
 |x ::xs,v ::vs,h=>by
  rw[List.mapM_cons];simp only[Sem.run_bind,h.1,Result.andThen_ok,VP h.2,Sem.run_pure]
 | [],_ ::_,h=>h.elim
 |_ ::_,[],h=>h.elim
theorem Wb{fn:Func}{tmps:Array Value}{vs:List Value}(h:Rs (fun x v=>(Qa3 tmps x).run P w=.ok v w) fn.results.toList vs):
  (results fn tmps).run P w=.ok (if h:vs.toArray.size=1 then vs.toArray[0]else .tuple vs.toArray) w:=by
 have h1:=VP h;have h2:(fn.results.mapM (Qa3 tmps)).run P w=.ok vs.toArray w:=by
  rw[Array.mapM_eq_mapM_toList];simp only[map_eq_pure_bind,Sem.run_bind,h1,Result.andThen_ok,Sem.run_pure]
 have h3:results fn tmps=(do let vs ←fn.results.mapM (Qa3 tmps);pure (if h:vs.size=1 then vs[0]else .tuple vs)):=rfl
 rw[h3];simp only[Sem.run_bind,h2,Result.andThen_ok,Sem.run_pure]
theorem Qfr{L:Nat→AV}{h:Nat→Option Ob}{x:ResultVar}{c:Cm}(hx:Qfq L h P x=some c)(hF:∀t,AR w M φ (L t) (a.tmps.getD t undef))(hW:Wd Γ φ M h w):
  ∃v,(Qa3 a.tmps x).run P w=.ok v w∧CR w M φ c v:=by
 cases x with
 |tmp t =>
  simp only[Qfq]at hx;split at hx
  ·rename_i c0 hc;cases hx;have:=hF t;rw[hc]at this;exact⟨_,rfl,this⟩
  ·cases hx
 |cell t ty =>
  simp only[Qfq]at hx;split at hx
  ·rename_i id sz row off n Qd h1 h2 h3;split at hx
   ·rename_i ob cR;split at hx
    ·rename_i cells pc iL;cases hc:(row == 0&&ob.sz == sz)with
     |false=>rw[hc]at hx;cases hx
     |true =>
      rw[hc]at hx;simp only[cond_true]at hx;simp only[Bool.and_eq_true,beq_iff_eq]at hc;have h4:=hF t;rw[h1]at h4;obtain⟨b,C,hφ,hv⟩:=(h4:uK w M φ (.op id sz row off) (a.tmps.getD t undef));have hO:=hW.fl id ob cR;obtain⟨v,hl,XO⟩:=DY (M:=M) (φ:=φ) (b:=b) (k:=row*sz) h2 h3 hx fun i l hl=>by
       have:=hO.RI (i:=0) (.inr ⟨_,iL⟩) hφ (by rw[iL];rfl) i l hl
       rw[hc.1,Nat.zero_mul];rwa [Nat.zero_mul]at this
      refine⟨v,?_,XO⟩;simp only[Qa3,hv,Sem.run_bind];simpa [asAddr]using hl
    ·cases hx
   ·cases hx
  ·cases hx
theorem Wa{L:Nat→AV}{h:Nat→Option Ob}(hF:∀t,AR w M φ (L t) (a.tmps.getD t undef))(hW:Wd Γ φ M h w):∀{xs:List ResultVar} {cs:List Cm},ZL L h P xs=some cs→
  ∃vs,Rs (fun x v=>(Qa3 a.tmps x).run P w=.ok v w) xs vs∧Rs (CR w M φ) cs vs
 | [],cs,hx=>by cases hx;exact⟨[],trivial,trivial⟩
 |x ::xs,cs,hx=>by
  simp only[ZL]at hx;split at hx
  ·rename_i c QR h1 h2;cases hx;obtain⟨v,g1,g2⟩:=Qfr h1 hF hW;obtain⟨vs,g3,g4⟩:=Wa hF hW h2;exact⟨v ::vs,⟨g1,g3⟩,g2,g4⟩
  ·cases hx
theorem Qdi:∀{cs:List Cm} {vs:List Value},Rs (CR w M φ) cs vs→AR w M φ (Qdh cs) (if h:vs.toArray.size=1 then vs.toArray[0]else .tuple vs.toArray)
 | [],[],_=>⟨[],rfl,trivial⟩
 | [c],[v],h=>h.1
 |c ::d ::cs,v ::u ::vs,h=>by
  rw[dif_neg (by simp)]
  exact⟨_,rfl,h⟩
 | [],_ ::_,h=>h.elim
 |_ ::_,[],h=>h.elim
 | [_],_ ::_ ::_,h=>h.2.elim
 |_ ::_ ::_,[_],h=>h.2.elim
end
section
variable {P : Program} {fn : Func} {EV : List Nat} {Γ : bu} {r : AV} {H1 : List (Option Ob)}
theorem go_run(n:Nat)(live ids:List Nat)(hs:List Hint){cf cf':Cf}{ob:Prop}(h:Qie P (Bv fn) n live ids cf hs=some (cf',ob))(hp:Ss EV ids=true)(cR:ob)
  (hg:Go P fn EV Γ r H1 cf'):Go P fn EV Γ r H1 cf:=by
 intro Py a w hS;unfold Qie at h;split at h
 ·rename_i rn hr;split at h
  ·rename_i σ o hgh;cases hn:Ba ids with
   |false=>rw[hn]at h;cases h
   |true =>
    rw[hn]at h;cases h;rw[bm]at cR;exact F9 n hr cR.1 hS fun a' w' NJ=>hg Py a' w' (Qeo hn hp Py (GZ hgh cR.2 NJ))
  ·cases h
 ·cases h
theorem go_ret(n:Nat)(ids:List Nat)(hs:List Hint){cf:Cf}{ob:Prop}(h:Qic P fn n ids cf hs=some (r,H1,ob))(hp:Ss EV ids=true)(cR:ob):Go P fn EV Γ r H1 cf:=by
 intro Py a w hS;unfold Qic at h;split at h
 ·rename_i rn hr;cases hk:QbP (Bv fn) rn.cf.k with
  |false=>rw[hk]at h;cases h
  |true =>
   rw[hk]at h;simp only[cond_true]at h;split at h
   ·rename_i σ o hgh;split at h
    ·rename_i cs Vv;cases hn:Ba ids with
     |false=>rw[hn]at h;cases h
     |true =>
      rw[hn]at h;cases h;rw[bm]at cR;refine F9 n hr cR.1 hS fun a' w' NJ=>?_
      obtain⟨hN,L6,φ,M,hF,hW,hφ⟩:=GZ hgh cR.2 NJ;have hRR:∀e,(e=Exit.ret∨e=.normal)→RR P fn Γ (KM (posOf ids 0) (Qdh cs)) (ids.map fun i=>(hl σ.H i).map (iC (posOf ids 0))) e a' w':=by
       intro e he;obtain⟨vs,h1,h2⟩:=Wa hF hW Vv;exact⟨he,L6,_,U3 φ ids,M,Wb h1,KN Tf (Qdi h2),Qb5 hn hp Py hW,U4 _⟩
      intro b QR;unfold QbP at hk;split at hk
      ·rename_i Vw;rw[Vw];exact⟨.normal,a',w',hRR _ (.inr rfl),.refl _ _⟩
      ·rename_i p k Vw;unfold Qgn at hk;split at hk
       ·rename_i hc;rw[Vw];refine⟨.ret,a',w',hRR _ (.inl rfl),.code .ret ::k.map (It.item (Bv fn)),?_⟩;simp only[List.map_cons,It.item,hc];exact .one step_ret
       ·cases hk
      ·cases hk
    ·cases h
   ·cases h
 ·cases h
structure Ev where
 hs:List Hint
 ob:Prop→Prop
 pf:∀q:Prop,q→ob q
def evH:List Ev→List Hint
 | []=>[]
 |e ::r=>e.hs++evH r
def evP:List Ev→Prop
 | []=>True
 |e ::r=>e.ob (evP r)
theorem Qg1:∀l:List Ev,evP l
 | []=>trivial
 |e ::r=>e.pf _ (Qg1 r)
theorem gn(n:Nat)(live ids:List Nat)(es:List Ev){cf cf':Cf}(hg:Go P fn EV Γ r H1 cf')(h:Qie P (Bv fn) n live ids cf (evH es)=some (cf',evP es):=by kernel_rfl)(hp:Ss EV ids=true:=by kernel_rfl):Go P fn EV Γ r H1 cf:=
 go_run n live ids (evH es) h hp (Qg1 es) hg
theorem gr(n:Nat)(ids:List Nat)(es:List Ev){cf:Cf}(h:Qic P fn n ids cf (evH es)=some (r,H1,evP es):=by kernel_rfl)(hp:Ss EV ids=true:=by kernel_rfl):Go P fn EV Γ r H1 cf:=go_ret n ids (evH es) h hp (Qg1 es)
def rp:Nat→Ev→Ev
 |0,_=>⟨[],fun q=>q,fun _ h=>h⟩
 |n+1,e=>⟨e.hs++(rp n e).hs,fun q=>e.ob ((rp n e).ob q),fun q h=>e.pf _ ((rp n e).pf q h)⟩
def hH(h:Hint):Ev:=⟨[h],fun q=>q,fun _ k=>k⟩
def hP:Ev:=hH .spec
def hW(n:Nat):Ev:=hH (.wait n)
def oO{p:Prop}(h:p):Ev:=⟨[],fun q=>p∧q,fun _ k=>⟨h,k⟩⟩
def oI(p:Prop):Ev:=oO (fun h:p=>h)
def oR(a b:Prop):Ev:=oO (fun h:a∧b=>h.2)
def bT{b:Bool}(h:b=true):Ev:=⟨[.bit true],fun q=>b=true∧q,fun _ k=>⟨h,k⟩⟩
def bF{b:Bool}(h:b=false):Ev:=⟨[.bit false],fun q=>b=false∧q,fun _ k=>⟨h,k⟩⟩
def tT:Ev:=bT (Eq.refl true)
def fF:Ev:=bF (Eq.refl false)
def nT{b:Bool}(h:b=false):Ev:=bT (Qm6 h)
def nF{b:Bool}(h:b=true):Ev:=bF (Qm5 h)
def kF:Ev:=⟨[.skip],fun q=>(False→False)∧q,fun _ k=>⟨id,k⟩⟩
def nL{α:Type}(e:α→List Lf)(l:List α):Ev:=⟨[.num l.length],fun q=>(l.map e).length=l.length∧q,fun _ k=>⟨Qm4 e l,k⟩⟩
def cE{α:Type}(e:α→List Lf){l:List α}{i:Int}{a:α}(h:bj l i=some a):Ev:=⟨[.cells (e a)],fun q=>bj (l.map e) i=some (e a)∧q,fun _ k=>⟨getM e h,k⟩⟩
def rE{α:Type}(e:α→List Lf){l:List α}{i:Int}{a:α}(h:bj l i=some a):Ev:=⟨[.cells (e a)],fun q=>(l.map e)[0+i.toNat]?=some (e a)∧q,fun _ k=>⟨Qni e h,k⟩⟩
def yE{s:ByteArray}{i:Int}{b:UInt8}(h:Po s i=some b):Ev:=⟨[.byte b],fun q=>Po s i=some b∧q,fun _ k=>⟨h,k⟩⟩
def cI{P:Program}{f:FuncId}{args:List Cm}{H0:List Ob}{r:AV}{H1:List (Option Ob)}(ids:List Nat)(h:dv P f args H0 r H1):Ev:=⟨[.call ids r H1],fun q=>dv P f args H0 r H1∧q,fun _ k=>⟨h,k⟩⟩
def cC{P:Program}{f:FuncId}{args:List Cm}{H0:List Ob}{r:AV}{H1:List (Option Ob)}(h:dv P f args H0 r H1):Ev:=cI [] h
def eL{α:Type}(l:List α)(f:α→List Lf):Ev:=oO (Eq.refl (l.map f).length)
def aN{α:Type}(e:α→List Lf){l:List α}{b:Nat}(h:eO l.length b)(hb:Nat.blt 0 b=true:=by rfl):Ev:=⟨[.rows (l.map e)],fun q=>l.map e=l.map e∧(l.map e).length*b≤140737488355328∧(l.map e).length≤9223372036854775807∧q,
 fun _ k=>⟨rfl,Qfc e h,ZD e (by simpa using hb) h,k⟩⟩
def aZ{α:Type}(e:α→List Lf){l:List α}{b:Nat}(h:eO l.length b)(hb:Nat.blt 0 b=true:=by rfl):Ev:=⟨[.rows (l.map e)],fun q=>l.map e=l.map e∧(l.map e=[]→([]:List (List Lf))=[])∧(l.map e).length*b≤140737488355328∧(l.map e).length≤9223372036854775807∧q,
 fun _ k=>⟨rfl,neZ e l,Qfc e h,ZD e (by simpa using hb) h,k⟩⟩
def aO{α:Type}(e:α→List Lf){l m:List α}{b:Nat}(h:eO (l++m).length b)(hb:Nat.blt 0 b=true:=by rfl):Ev:=⟨[.rows ((l++m).map e)],
 fun q=>(l.map e).length=(l.map e).length∧l.map e++m.map e=(l++m).map e∧((l++m).map e).length*b≤140737488355328∧((l++m).map e).length≤9223372036854775807∧q,
 fun _ k=>⟨rfl,Qi7 e l m,Qfc e h,ZD e (by simpa using hb) h,k⟩⟩
section
variable {w : World} {M : Nat → Prop} {φ : Pl} {m : List Nat}
theorem Rs.Qky{α β:Type}{R:α→β→Prop}{c c':α}(hw:∀v,R c' v→R c v):∀{xs:List α} {vs:List β} {k:Nat},xs[k]?=some c→Rs R (xs.set k c') vs→Rs R xs vs
 | [],_,_,hk,_=>by simp at hk
 |x ::xs,[],0,_,h=>h.elim
 |x ::xs,[],k+1,_,h=>h.elim
 |x ::xs,v ::vs,0,hk,h=>by
  have e:x=c:=by simpa using hk
  subst e;exact⟨hw v h.1,h.2⟩
 |x ::xs,v ::vs,k+1,hk,h=>⟨h.1,Rs.Qky hw (by simpa using hk) h.2⟩
theorem dv.Qkg{P:Program}{f:FuncId}{args:List Cm}{H0:List Ob}{r:AV}{H1:List (Option Ob)}(k sz:Nat)(h:dv P f args H0 r H1)(hk:args[k]?=some (.one (.sl false sz [])):=by rfl):dv P f (args.set k (.one .cB)) H0 r H1:=by
 obtain⟨h1,h2⟩:=h;refine⟨h1,fun w φ M0 gX hW hφ hr=>h2 w φ M0 gX hW hφ (Rs.Qky (fun v hv=>?_) hk hr)⟩
 have L_:IR w M0 .cB v:=hv;cases L_;exact IR.OJ false sz none 0 fun h=>by cases h
end
section
variable {K V : Type}
def mE(ek:K→List Lf)(ev:V→Lf)(p:K×V):List Lf:=ev p.2 ::ek p.1
def kI(n:Int):List Lf:=[lI n]
def bM{α:Type}(Ey:TypeId)(l:List α)(e:α→List Lf):Ob:=⟨true,1,Ey,[] :: [] ::l.map e⟩
def oM{α:Type}(Ey:TypeId)(l:List α)(e:α→List Lf):Option Ob:=some (bM Ey l e)
theorem kqI(a b:Int):sK (kI a) (kI b)=some (cM a b):=by show some (cM a b&&true)=_;rw[Bool.and_true]
theorem zm{ek:K→List Lf}{eq:K→K→Bool}(hk:∀a b,sK (ek a) (ek b)=some (eq a b))(ev:V→Lf)(u:Unit)(l:List (K×V))(k:K)(z:V):CI (l.map (mE ek ev)) (ek k) (ev z)=some (ev (nY eq l k z)):=by
 induction l with
 |nil=>rfl
 |cons p r ih =>
  show(match sK (ek k) (ek p.1)with
   |some true=>some (ev p.2)
   |some false=>CI (r.map (mE ek ev)) (ek k) (ev z)
   |none=>none)=some (ev (nY eq (p ::r) k z))
  rw[hk];simp only[nY];cases eq k p.1 with
  |true=>rfl
  |false=>exact ih
theorem CJ{ek:K→List Lf}{eq:K→K→Bool}(hk:∀a b,sK (ek a) (ek b)=some (eq a b))(ev:V→Lf)(l:List (K×V))(k:K):FV (l.map (mE ek ev)) (ek k)=some (Kw eq l k):=by
 induction l with
 |nil=>rfl
 |cons p r ih =>
  show(match sK (ek k) (ek p.1)with
   |some true=>some true
   |some false=>FV (r.map (mE ek ev)) (ek k)
   |none=>none)=some (Kw eq (p ::r) k)
  rw[hk];simp only[Kw];cases eq k p.1 with
  |true=>rfl
  |false=>exact ih
theorem QaO{ek:K→List Lf}{eq:K→K→Bool}(hk:∀a b,sK (ek a) (ek b)=some (eq a b))(ev:V→Lf)(u:Unit)(l:List (K×V))(k:K)(v:V):zZ (l.map (mE ek ev)) (ek k) (ev v)=some ((yD eq l k v).map (mE ek ev)):=by
 induction l with
 |nil=>rfl
 |cons p r ih =>
  show(match sK (ek k) (ek p.1)with
   |some true=>some ((ev v ::ek k) ::r.map (mE ek ev))
   |some false=>(zZ (r.map (mE ek ev)) (ek k) (ev v)).map ((ev p.2 ::ek p.1) :: ·)
   |none=>none)=some ((yD eq (p ::r) k v).map (mE ek ev))
  rw[hk];simp only[yD];cases eq k p.1 with
  |true=>rfl
  |false=>rw[ih];rfl
end
def cY{α:Type}(e:α→List Lf)(l m:List α):Ev:=⟨[.rows ((He l m).map e),.num (LJ l m)],
 fun q=>(l.map e).length=(l.map e).length∧min (m.map e).length (l.map e).length=LJ l m∧(m.map e).take (LJ l m)++(l.map e).drop (LJ l m)=(He l m).map e∧q,fun _ h=>⟨rfl,Qlj e l m,Qlk e l m,h⟩⟩
def mG{K V:Type}{ek:K→List Lf}{eq:K→K→Bool}(hk:∀a b,sK (ek a) (ek b)=some (eq a b))(ev:V→Lf)(l:List (K×V))(k:K)(z:V):Ev:=⟨[.cells [ev (nY eq l k z)]],fun q=>CI (l.map (mE ek ev)) (ek k) (ev z)=some (ev (nY eq l k z))∧q,fun _ h=>⟨zm hk ev () l k z,h⟩⟩
def mU{K V:Type}{ek:K→List Lf}{eq:K→K→Bool}(hk:∀a b,sK (ek a) (ek b)=some (eq a b))(ev:V→Lf)(l:List (K×V))(k:K)(v:V):Ev:=⟨[.rows ((yD eq l k v).map (mE ek ev))],fun q=>zZ (l.map (mE ek ev)) (ek k) (ev v)=some ((yD eq l k v).map (mE ek ev))∧q,fun _ h=>⟨QaO hk ev () l k v,h⟩⟩
def vI(t:Nat)(n:Int):Nat×AV:=(t,one (lI n))
def vB(t:Nat)(b:Bool):Nat×AV:=(t,one (.bool b))
def vS(t:Nat)(s:ByteArray):Nat×AV:=(t,one (.str s))
def vL{α:Type}(t sz:Nat)(l:List α)(e:α→List Lf):Nat×AV:=(t,one (lL sz l e))
def vO{α:Type}(t id sz:Nat)(l:List α)(e:α→List Lf):Nat×AV:=(t,one (lO id sz l e))
def vP(t id sz:Nat):Nat×AV:=(t,one (.op id sz 0 0))
def gG(c:List Lf):AV:=.cm (.agg c)
def bX(sz:Nat)(Ey:TypeId)(c:List Lf):Ob:=⟨true,sz,Ey,[c]⟩
def bS{α:Type}(sz:Nat)(Ey:TypeId)(l:List α)(e:α→List Lf):Ob:=⟨false,sz,Ey,l.map e⟩
def oX(sz:Nat)(Ey:TypeId)(c:List Lf):Option Ob:=some (bX sz Ey c)
def oS{α:Type}(sz:Nat)(Ey:TypeId)(l:List α)(e:α→List Lf):Option Ob:=some (bS sz Ey l e)
theorem oJ{α:Type}{a b:α}(h:some a=some b):b=a:=(Option.some.inj h).symm
theorem oK{α:Type}{a b:α}(h:some a=some b):a=b:=Option.some.inj h
theorem bl{S E:Type}{B:S→Option (S⊕E)}{C:S→Prop}{D:E→Prop}(RZ:∀s x,B s=some x→(∀⦃s'⦄,some (Sum.inl s')=some x→C s')→(∀⦃e⦄,some (Sum.inr e)=some x→D e)→C s):∀⦃s:S⦄ ⦃e:E⦄,aL B s=some e→D e→C s:=fun _ _ h hD=>Qc1 C D (fun s x h1 h2 h3=>RZ s x h1 (fun _ h=>h2 _ (oJ h)) (fun _ h=>h3 _ (oJ h))) h hD
theorem aB{α:Type}{b:Bool}{x y:Option α}{r:α}:br b x y=some r↔(b=true∧x=some r)∨(b=false∧y=some r):=by
 cases b
 ·exact⟨fun h=>.inr ⟨rfl,h⟩,fun h=>h.elim (fun h=>nomatch h.1) fun h=>h.2⟩
 ·exact⟨fun h=>.inl ⟨rfl,h⟩,fun h=>h.elim (fun h=>h.2) fun h=>nomatch h.1⟩
theorem ar{α β:Type}{o:Option α}{f:α→Option β}{r:β}:aR o f=some r↔∃a,o=some a∧f a=some r:=
 ⟨UT,fun⟨a,h,h'⟩=>by rw[h];exact h'⟩
theorem av{α β:Type}{o:Option α}{f:α→Option β}{g:Option β}{r:β}:opt o f g=some r↔(∃a,o=some a∧f a=some r)∨(o=none∧g=some r):=by
 cases o
 ·exact⟨fun h=>.inr ⟨rfl,h⟩,fun h=>h.elim (fun⟨_,h,_⟩=>nomatch h) fun h=>h.2⟩
 ·exact⟨fun h=>.inl ⟨_,rfl,h⟩,fun h=>h.elim (fun⟨_,h,h'⟩=>by cases h;exact h') fun h=>nomatch h.1⟩
theorem qG{n:Int}(j:Nat)(h:cM n (j:Int)=true):n=j:=by simpa [cM]using h
theorem lN(a b:Nat)(h:Nat.blt a b=true:=by rfl):a<b:=Nat.le_of_ble_eq_true h
theorem au{α:Type}{p:Prop} [Decidable p] {x:Option α}{r:α}:ef p x=some r↔p∧x=some r:=
 ⟨QbX,fun⟨h,h'⟩=>by unfold ef;rw[if_pos h];exact h'⟩
theorem zL(n:Nat):(0:Int)≤n:=Int.natCast_nonneg n
theorem lT(a b:Nat)(h:Nat.blt a b=true:=by rfl):(a:Int)<b:=by simpa using h
theorem oA{n:Int}(h:(n == 0)=false:=by rfl):n≠0:=by simpa using h
theorem go_amb(t:Nat){cf:Cf}(h:(match look cf.σ.L t with
  | .Xp=>true
  |_=>false)=true) (h1:Go P fn EV Γ r H1 ⟨cf.k,⟨cf.σ.N,(t,one (.bool true)) ::cf.σ.L,cf.σ.H⟩⟩) (h2:Go P fn EV Γ r H1 ⟨cf.k,⟨cf.σ.N,(t,one (.bool false)) ::cf.σ.L,cf.σ.H⟩⟩):Go P fn EV Γ r H1 cf:=by
 intro Py a w hS;obtain⟨hN,L6,φ,M,hF,hW,hφ⟩:=hS;have ht:=hF t;split at h
 ·rename_i he;rw[he]at ht;obtain⟨b,hb⟩:=ht;have key:NA Γ ⟨cf.σ.N,(t,one (.bool b)) ::cf.σ.L,cf.σ.H⟩ a w:=⟨hN,L6,φ,M,Mh hF (by rw[hb];exact IR.bool b),hW,hφ⟩
  cases b
  ·exact h2 Py a w key
  ·exact h1 Py a w key
 ·cases h
theorem Sb:∀{args:List Cm} {i t:Nat},look (zw i args) t=(if i≤t then(match args[t-i]? with
  |some c=>.cm c
  |none=>.Lz)else .Lz)
 | [],i,t=>by simp [zw,look]
 |c ::r,i,t=>by
  simp only[zw,look];by_cases h:i=t
  ·subst h;simp
  ·have:(i == t)=false:=by simpa using h
   rw[this,cond_false,Sb];by_cases h1:i≤t
   ·rw[if_pos h1,if_pos (by omega),show t-i=(t-(i+1))+1 by omega];simp
   ·rw[if_neg h1,if_neg (by omega)]
theorem ZH{φ:Pl}:∀{H0:List Ob} {i:Nat} {p:Nat×Nat},p∈wv φ i H0→p.1∈O4 i H0
 | [],_,_,h=>by cases h
 |o ::r,i,p,h=>by
  simp only[wv,List.mem_append]at h;simp only[O4,List.mem_append];rcases h with h|h
  ·left;split at h
   ·rename_i b C hb hφ;rw[hb];simp only[List.mem_singleton]at h;subst h;simp
   ·cases h
  ·right;exact ZH h
theorem QgP{f:FuncId}{args:List Cm}{H0:List Ob}(hf:P.funcs[f]?=some fn)(hb:fn.body.isSome=true)(hn:(Nat.ble args.length fn.ntmps&&!(fn.name == "runtime.NumGoroutine"))=true)
  (h:∀Γ,Go P fn (O4 0 H0) Γ r H1 ⟨[.c 1],⟨fn.ntmps,zw 0 args,H0.map some⟩⟩):dv P f args H0 r H1:=by
 rw[Bool.and_eq_true]at hn;refine⟨by unfold Ij;rw[hf];simp only[hn.2,hb,Bool.and_self],fun w φ M0 gX hW hφ hA cs=>?_⟩
 have hlen:=hA.len;have hle:args.length≤fn.ntmps:=Nat.le_of_ble_eq_true hn.1;obtain⟨c,hc⟩:=Option.isSome_iff_exists.1 hb;have hcd:Bv fn=c:=by unfold Bv;rw[hc];rfl
 let b:Frame:={ (default:Frame)with fn:=f,kind:=.normal}
 have Qhr:Frame.enter P f gX.toArray .normal =
   b.at {tmps:=gX.toArray++Array.replicate (fn.ntmps-gX.toArray.size) undef,defers:=[]} [.code c]:=by
  simp [Frame.enter,Frame.at,hf,hc,b]
 obtain⟨e,a',w',⟨he,hd,v,φ',M',hr,hv,qq,Zo⟩,Qhj⟩:=h ⟨w,fun b=>∃id C,id<H0.length∧φ id=some (some (b,C)),M0,wv φ 0 H0⟩ (fun p hp=>ZH hp)
  {tmps:=gX.toArray++Array.replicate (fn.ntmps-gX.toArray.size) undef,defers:=[]} w
  ⟨by simp; omega,rfl,φ,M0,fun t=>by
   show AR w M0 φ (look (zw 0 args) t) _;rw[Sb,if_pos (Nat.zero_le _),Nat.sub_zero];cases ha:args[t]? with
   |none=>trivial
   |some c =>
    obtain⟨v,h1,h2⟩:=hA.get ha;have jU:t<gX.length:=(List.getElem?_eq_some_iff.1 h1).1;have:(gX.toArray++Array.replicate (fn.ntmps-gX.toArray.size) undef).getD t undef=v:=by
     rw[Array.getD_eq_getD_getElem?,Array.getElem?_append_left (by simpa using jU)]
     simp [h1]
    show CR w M0 φ c ((gX.toArray++Array.replicate (fn.ntmps-gX.toArray.size) undef).getD t undef);rw[this];exact h2,by
   have:hl (H0.map some)=fun id=>H0[id]?:=by
    funext id;unfold hl;rw[List.getElem?_map];cases H0[id]? <;> rfl
   show Wd _ φ M0 (hl (H0.map some)) w;rw[this];exact hW,fun id hid=>hφ id (by simpa using hid)⟩ b cs
 have Qjy:([It.c 1].map (It.item (Bv fn)))=[.code c]:=by rw[hcd];rfl
 rw[Qjy,←Qhr]at Qhj;rcases he with rfl|rfl
 ·obtain⟨todo,hs⟩:=Qhj;exact⟨.returned v,w',_,⟨v,φ',M',rfl,hv,qq,Zo⟩,hs,rfl,rfl,hd,rfl,fn,hf,hr⟩
 ·exact⟨.returned v,w',_,⟨v,φ',M',rfl,hv,qq,Zo⟩,Steps.trans Qhj (.one step_end),rfl,rfl,hd,rfl,fn,hf,hr⟩
theorem aW{f:FuncId}{args:List Cm}{H0:List Ob}(hf:P.funcs[f]?=some fn)(h:∀Γ,Go P fn (O4 0 H0) Γ r H1 ⟨[.c 1],⟨fn.ntmps,zw 0 args,H0.map some⟩⟩)(hb:fn.body.isSome=true:=by kernel_rfl)(hn:(Nat.ble args.length fn.ntmps&&!(fn.name == "runtime.NumGoroutine"))=true:=by kernel_rfl):dv P f args H0 r H1:=QgP hf hb hn h
end
end
section
open Go.RowKit Go.ChangeShapes Go.WideShapes Go.Deep
def FG(n:Int):Prop:=-9223372036854775808≤n∧n≤9223372036854775807
structure Rd (α:Type) where
 size:Nat
 holds:World→List Value→α→Prop
 len:∀(w:World) (cs:List Value) (x:α),holds w cs x→cs.length=size
 ext:∀(w w':World) (cs:List Value) (x:α),Below w.heap.size w w'→holds w cs x→holds w' cs x
def SlR{α:Type}(r:Rd α)(w:World)(A:Option Addr)(xs:List α):Prop:=
 ∀(i:Nat) (x:α),xs[i]?=some x→∃b off cs,A=some ⟨b,off,none⟩∧b<w.heap.size∧r.holds w cs x∧∀(j:Nat) (u:Value),cs[j]?=some u→w.cell? ⟨b,off+i*r.size+j,none⟩=some u
theorem SlR.ext{α:Type}{r:Rd α}{w w':World}{A:Option Addr}{xs:List α}(h:SlR r w A xs)(hb:Below w.heap.size w w'):SlR r w' A xs:=fun i x hx=>by
 obtain⟨b,off,cs,hA,jU,h1,h2⟩:=h i x hx;exact⟨b,off,cs,hA,Nat.lt_of_lt_of_le jU hb.size,r.ext _ _ _ _ hb h1,fun j u hj=>(hb.cell (p:=⟨b,_,none⟩) jU).trans (h2 j u hj)⟩
theorem SlR.nil{α:Type}{r:Rd α}{w:World}{A:Option Addr}:SlR r w A []:=fun i x hx=>by simp at hx
namespace Rd
def int:Rd Int:={size:=1,holds:=fun _ cs n=>cs=[.int .i64 n]∧FG n,len:=fun _ _ _ h=>by rw[h.1];rfl,ext:=fun _ _ _ _ _ h=>h}
def bool:Rd Bool:={size:=1,holds:=fun _ cs b=>cs=[.bool b],len:=fun _ _ _ h=>by rw[h];rfl,ext:=fun _ _ _ _ _ h=>h}
def str(N:Nat):Rd ByteArray:={size:=1,holds:=fun _ cs s=>cs=[.string s]∧s.size≤N,len:=fun _ _ _ h=>by rw[h.1];rfl,ext:=fun _ _ _ _ _ h=>h}
def unit:Rd Unit:={size:=0,holds:=fun _ cs _=>cs=[],len:=fun _ _ _ h=>by rw[h];rfl,ext:=fun _ _ _ _ _ h=>h}
def pair{α β:Type}(r:Rd α)(s:Rd β):Rd (α×β):=
 {size:=r.size+s.size,holds:=fun w cs x=>∃c d,cs=c++d∧r.holds w c x.1∧s.holds w d x.2,
  len:=fun w cs x h=>by
   obtain⟨c,d,rfl,h1,h2⟩:=h;rw[List.length_append,r.len _ _ _ h1,s.len _ _ _ h2],
  ext:=fun w w' cs x hb h=>by
   obtain⟨c,d,rfl,h1,h2⟩:=h;exact⟨c,d,rfl,r.ext _ _ _ _ hb h1,s.ext _ _ _ _ hb h2⟩}
def map{α β:Type}(r:Rd α)(f:α→β):Rd β:=
 {size:=r.size,holds:=fun w cs y=>∃x,r.holds w cs x∧f x=y,
  len:=fun w cs y h=>by obtain⟨x,h1,_⟩:=h;exact r.len _ _ _ h1,
  ext:=fun w w' cs y hb h=>by obtain⟨x,h1,h2⟩:=h;exact⟨x,r.ext _ _ _ _ hb h1,h2⟩}
def slice{α:Type}(N:Nat)(r:Rd α):Rd (List α):=
 {size:=1,holds:=fun w cs xs=>∃A c,cs=[.slice A xs.length c]∧xs.length≤N∧SlR r w A xs,
  len:=fun w cs xs h=>by obtain⟨A,c,rfl,_⟩:=h;rfl,
  ext:=fun w w' cs xs hb h=>by obtain⟨A,c,rfl,h1,h2⟩:=h;exact⟨A,c,rfl,h1,h2.ext hb⟩}
end Rd
section
variable {H : Type}
theorem QbU(d:DataW H):1≤Rows.uptoBulk d:=by
 cases d with
 |lit l=>cases l <;> simp [Rows.uptoBulk]
 |_=>simp [Rows.uptoBulk]
theorem Na:∀ds:List (DataW H),ds.length≤Rows.uptoBulkAll ds
 | []=>by simp
 |d ::ds=>by
  have h1:=QbU d;have h2:=Na ds;simp only[List.length_cons,Rows.uptoBulkAll];omega
theorem AW:∀{ds:List (DataW H)} {d:DataW H},d∈ds→Rows.uptoBulk d≤Rows.uptoBulkAll ds
 | [],d,h=>by simp at h
 |e ::ds,d,h=>by
  simp only[Rows.uptoBulkAll];rcases List.mem_cons.1 h with rfl|h
  ·omega
  ·have:=AW h;omega
def Fits(N:Nat)(d:DataW H):Prop:=N=maxLen∨Rows.uptoBulk d≤N
theorem Fits.agg{N:Nat}{ds:List (DataW H)}(h:Fits N (.agg ds)){d:DataW H}(hd:d∈ds):Fits N d:=by
 rcases h with h|h
 ·exact .inl h
 ·right;have:=AW hd;simp only[Rows.uptoBulk]at h;omega
theorem Fits.slice{N:Nat}{ds es:List (DataW H)}(h:Fits N (.slice ds es)){d:DataW H}(hd:d∈ds):Fits N d:=by
 rcases h with h|h
 ·exact .inl h
 ·right;have:=AW hd;simp only[Rows.uptoBulk]at h;omega
theorem Fits.len{N:Nat}{ds es:List (DataW H)}(h:Fits N (.slice ds es))(hl:ds.length≤maxLen):ds.length≤N:=by
 rcases h with h|h
 ·rw[h];exact hl
 ·have:=Na ds;simp only[Rows.uptoBulk]at h;omega
theorem Fits.all{N:Nat}{ds:List (DataW H)}(h:N=maxLen∨Rows.uptoBulkAll ds≤N){d:DataW H}(hd:d∈ds):Fits N d:=by
 rcases h with h|h
 ·exact .inl h
 ·right;have:=AW hd;omega
end
structure iI (P:Program) (N:Nat) (t:TypeId) {α:Type} (r:Rd α):Prop where
 size:P.cellsOf t=r.size
 opens:∀(H:Type) (enc:TypeId×Value→H) (w:World) (fuel:Nat) (cs:List Value) (x:DataW H×List MemPlace),
  DataW.trod enc P w 0 (fun _=>true) true fuel t cs=some x→Fits N x.1→∃a,r.holds w cs a
section
variable {P : Program} {N : Nat} {t : TypeId}
theorem QaT(ht:P.underlying t=some (.int .i64))(hc:P.cellsOf t=1):iI P N t Rd.int:=⟨hc,fun H enc w fuel cs x h _=>by
 obtain⟨n,rfl,_,hw⟩:=DataW.trod_int ht h;exact⟨n,rfl,XW hw⟩⟩
theorem Yf(ht:P.underlying t=some .bool)(hc:P.cellsOf t=1):iI P N t Rd.bool:=⟨hc,fun H enc w fuel cs x h _=>by
 obtain⟨b,rfl,_⟩:=DataW.trod_bool ht h;exact⟨b,rfl⟩⟩
theorem QaU(ht:P.underlying t=some .string)(hc:P.cellsOf t=1):iI P N t (Rd.str N):=⟨hc,fun H enc w fuel cs x h hb=>by
 obtain⟨s,rfl,hx,hs⟩:=DataW.trod_string ht h;refine⟨s,rfl,?_⟩;rcases hb with hb|hb
 ·rw[hb];exact hs
 ·rw[hx]at hb;simp only[Rows.uptoBulk,Array.length_toList]at hb;have:s.size=s.data.size:=rfl;omega⟩
theorem iI.map{α β:Type}{r:Rd α}(h:iI P N t r)(f:α→β):iI P N t (r.map f):=⟨h.size,fun H enc w fuel cs x hx hb=>by
 obtain⟨a,ha⟩:=h.opens H enc w fuel cs x hx hb;exact⟨f a,a,ha,rfl⟩⟩
theorem VY{e:TypeId}{α:Type}{r:Rd α}(ht:P.underlying t=some (.slice e))(hc:P.cellsOf t=1)(hr:iI P N e r)(XT:0<r.size):iI P N t (r.slice N):=⟨hc,fun H enc w fuel cs x h hb=>by
 rcases open_slice ht h with⟨rfl,_⟩|⟨a,len,cap,m,n,D,Pl,rfl,_,hl,hm,hmm,hxe,sI⟩
 ·exact⟨[],none,0,rfl,Nat.zero_le _,SlR.nil⟩
 ·have hlm:len≤m:=by rw[hmm];split <;> omega
  have hxe:x.1=.slice ((List.range len).map D) ((List.range (m-len)).map fun j=>D (len+j)):=by rw[hxe]
  rw[hxe]at hb;have hlN:len≤N:=by have:=hb.len (by simp;omega);simpa using this
  have each:∀i,i<len→∃q:List Value×α,r.holds w q.1 q.2∧q.1.length=r.size∧∀j u,q.1[j]?=some u→w.cell? (a.add (i*r.size+j))=some u:=by
   intro i hi;obtain⟨QR,h1,h2⟩:=sI i (by omega)
   obtain⟨y,hy⟩:=hr.opens H enc w n QR _ h2 (hb.slice (List.mem_map.2 ⟨i,List.mem_range.2 hi,rfl⟩));obtain⟨_,hlen,pd⟩:=World.cells?_some h1;rw[hr.size]at pd hlen;refine⟨(QR,y),hy,hlen,fun j u hj=>?_⟩
   have QC:j<QR.length:=(List.getElem?_eq_some_iff.1 hj).1;have:=pd j (by omega)
   rw[add_add,hj]at this;exact this
  obtain⟨b,off,spot⟩:=a;by_cases RX:len=0
  ·subst RX;exact⟨[],_,_,rfl,Nat.zero_le _,SlR.nil⟩
  ·have QjX:spot=none:=by
    obtain⟨q,_,h2,h3⟩:=each 0 (by omega)
    have h0:=h3 0 _ (List.getElem?_eq_getElem (by omega:0<q.1.length))
    simpa [Addr.add]using World.cell?_spot h0
   subst QjX;have key:∀k,k≤len→∃xs:List α,xs.length=k∧SlR r w (some ⟨b,off,none⟩) xs:=by
    intro k;induction k with
    |zero=>exact fun _=>⟨[],rfl,SlR.nil⟩
    |succ k ih =>
     intro hk;obtain⟨xs,h1,h2⟩:=ih (by omega)
     obtain⟨⟨QR,y⟩,g1,g2,g3⟩:=each k (by omega)
     refine⟨xs++[y],by simp [h1],fun i x hx=>?_⟩
     rcases Nat.lt_or_ge i k with hi|hi
     ·rw[List.getElem?_append_left (by omega)]at hx
      exact h2 i x hx
     ·have Ot:i=k:=by
       have:=(List.getElem?_eq_some_iff.1 hx).1;simp [h1]at this;omega
      subst Ot;rw[List.getElem?_append_right (by omega),h1,Nat.sub_self]at hx
      have:y=x:=by simpa using hx
      subst this;have pd:∀(j:Nat) (u:Value),QR[j]?=some u→w.cell? ⟨b,off+i*r.size+j,none⟩=some u:=fun j u hj=>by
       have:=g3 j u hj;rw[add_plain]at this;rw[←this];congr 2;omega
      refine⟨b,off,QR,rfl,?_,g1,pd⟩;have h0:=pd 0 _ (List.getElem?_eq_getElem (by show 0<QR.length;simp only at g2;omega))
      rcases Nat.lt_or_ge b w.heap.size with h|h
      ·exact h
      ·exfalso;unfold World.cell? at h0;rw[Array.getElem?_eq_none h]at h0;simp at h0
   obtain⟨xs,h1,h2⟩:=key len (Nat.le_refl _);exact⟨xs,_,_,by rw[h1],by omega,h2⟩⟩
inductive GN (P:Program) (N:Nat):List Field→Nat→(α:Type)→Rd α→Prop
 |nil {off:Nat}:GN P N [] off Unit Rd.unit
 |cons {f:Field} {fs:List Field} {off:Nat} {α β:Type} {r:Rd α} {s:Rd β}:f.offset=off→iI P N f.type r→GN P N fs (off+r.size) β s→GN P N (f ::fs) off (α×β) (Rd.pair r s)
theorem Vc{w:World}{H:Type}{enc:TypeId×Value→H}{n:Nat}{cs:List Value}:∀{fs:List Field} {off:Nat} {α:Type} {r:Rd α},GN P N fs off α r→
  (∀f∈fs,∃y,DataW.trod enc P w 0 (fun _=>true) true n f.type ((cs.drop f.offset).take (P.cellsOf f.type))=some y∧Fits N y.1)→∃a,r.holds w ((cs.drop off).take r.size) a:=by
 intro fs off α r hF;induction hF with
 |nil=>exact fun _=>⟨(),by show List.take 0 _=[];simp⟩
 | @cons f fs off α β r s ho hr _ ih =>
  intro sI;obtain⟨y,hy,hyb⟩:=sI f (by simp)
  obtain⟨a,ha⟩:=hr.opens _ _ _ _ _ _ hy hyb;obtain⟨b,hb⟩:=ih (fun g hg=>sI g (by simp [hg]))
  rw[ho,hr.size]at ha;refine⟨(a,b),_,_,?_,ha,hb⟩;show List.take (r.size+s.size) _=_;rw[List.take_add,List.drop_drop]
theorem TY{fs:Array Field}{α:Type}{r:Rd α}(ht:P.underlying t=some (.struct fs))(hc:P.cellsOf t=r.size)(hF:GN P N fs.toList 0 α r):iI P N t r:=⟨hc,fun H enc w fuel cs x h hb=>by
 obtain⟨xs,n,_,hxe,hlen,Zn,hf⟩:=DataW.trod_struct ht h;have hxe:x.1=.agg (xs.map (·.1)):=by rw[hxe]
 rw[hxe]at hb;have:=Vc (w:=w) (enc:=enc) (n:=n) (cs:=cs) hF (fun f hfm=>by
  obtain⟨i,hi⟩:=List.getElem?_of_mem hfm;have Pu:fs[i]?=some f:=by simpa using hi
  have jU:i<xs.length:=by rw[Zn];exact(Array.getElem?_eq_some_iff.1 Pu).1
  exact⟨xs[i],by rw[hf i f Pu,List.getElem?_eq_getElem jU],hb.agg (List.mem_map.2 ⟨xs[i],List.getElem_mem jU,rfl⟩)⟩)
 rwa [List.drop_zero,←hc,←hlen,List.take_length]at this⟩
theorem TX{e:TypeId}{α:Type}{r:Rd α}(ht:P.underlying t=some (.array 2 e))(hc:P.cellsOf t=r.size+r.size)(hr:iI P N e r):iI P N t (r.pair r):=⟨hc,fun H enc w fuel cs x h hb=>by
 obtain⟨xs,n,_,hxe,hlen,Zn,hf⟩:=DataW.trod_array ht h;have hxe:x.1=.agg (xs.map (·.1)):=by rw[hxe]
 rw[hxe]at hb;have h0:=hf 0 (by omega)
 have h1:=hf 1 (by omega)
 rw[hr.size]at h0 h1;have l0:0<xs.length:=by omega
 have l1:1<xs.length:=by omega
 obtain⟨a,ha⟩:=hr.opens _ _ _ _ _ _ (h0.trans (List.getElem?_eq_getElem l0)) (hb.agg (List.mem_map.2 ⟨xs[0],List.getElem_mem l0,rfl⟩));obtain⟨b,WO⟩:=hr.opens _ _ _ _ _ _ (h1.trans (List.getElem?_eq_getElem l1)) (hb.agg (List.mem_map.2 ⟨xs[1],List.getElem_mem l1,rfl⟩));refine⟨(a,b),_,_,?_,ha,WO⟩;rw[Nat.zero_mul,List.drop_zero,Nat.one_mul];have:cs=cs.take (r.size+r.size):=by rw[List.take_of_length_le (by omega)]
 conv=>lhs;rw[this]
 rw[List.take_add]⟩
end
end
section
open Go.RowKit Go.ChangeShapes Go.WideShapes Go.Deep
abbrev IRw(w:World):Lf→Value→Prop:=IR w (fun b=>b<w.heap.size)
def MC{α:Type}(k:Nat)(enc:α→List Lf)(ok:α→Prop)(hk:∀x,(enc x).length=k):Rd α:=
 {size:=k,holds:=fun w cs x=>ok x∧Rs (IRw w) (enc x) cs,
  len:=fun w cs x h=>h.2.len.symm.trans (hk x),
  ext:=fun w w' cs x hb h=>⟨h.1,Rs.mono (fun _ _ h=>IR.mono (fun b WO=>hb.block b WO) (fun b WO=>Nat.lt_of_lt_of_le WO hb.size) h) h.2⟩}
def HE{α:Type}(r:Rd α)(e:α→List Lf)(ok:α→Prop):Prop:=∀w cs a,r.holds w cs a→ok a∧Rs (IRw w) (e a) cs
section
variable {α β : Type} {P : Program} {N : Nat} {t : TypeId}
theorem HE.rd{k:Nat}{enc:α→List Lf}{ok:α→Prop}{hk:∀x,(enc x).length=k}:HE (MC k enc ok hk) enc ok:=fun _ _ _ h=>h
theorem HE.unit:HE Rd.unit (fun _=>[]) (fun _=>True):=fun _ _ _ h=>by cases h;exact⟨trivial,trivial⟩
theorem HE.pair{r:Rd α}{s:Rd β}{e:α→List Lf}{e':β→List Lf}{ok:α→Prop}{ok':β→Prop}(h:HE r e ok)(h':HE s e' ok'):HE (r.pair s) (fun x=>e x.1++e' x.2) (fun x=>ok x.1∧ok' x.2):=by
 rintro w cs a ⟨c,d,rfl,h1,h2⟩;obtain⟨g1,g2⟩:=h w c _ h1;obtain⟨g3,g4⟩:=h' w d _ h2;exact⟨⟨g1,g3⟩,Rs.append g2 g4⟩
theorem iI.mono{r:Rd α}{s:Rd β}(h:iI P N t r)(hs:r.size=s.size)(hi:∀w cs a,r.holds w cs a→∃b,s.holds w cs b):iI P N t s:=
 ⟨h.size.trans hs,fun H enc w fuel cs x hx hb=>let⟨a,ha⟩:=h.opens H enc w fuel cs x hx hb;hi w cs a ha⟩
theorem Qh1(ht:P.underlying t=some (.int .i64))(hc:P.cellsOf t=1):iI P N t (MC 1 (fun n:Int=>[.int .i64 n]) FG (fun _=>rfl)):=
 (QaT ht hc).mono rfl fun w cs a h=>⟨a,h.2,by rw[h.1];exact⟨.int _ _,trivial⟩⟩
theorem Qfb(ht:P.underlying t=some .bool)(hc:P.cellsOf t=1):iI P N t (MC 1 (fun b:Bool=>[.bool b]) (fun _=>True) (fun _=>rfl)):=
 (Yf ht hc).mono rfl fun w cs a h=>⟨a,trivial,by rw[h];exact⟨.bool _,trivial⟩⟩
theorem Qh2(ht:P.underlying t=some .string)(hc:P.cellsOf t=1):iI P N t (MC 1 (fun s:ByteArray=>[.str s]) (fun s=>s.size≤N) (fun _=>rfl)):=
 (QaU ht hc).mono rfl fun w cs a h=>⟨a,h.2,by rw[h.1];exact⟨.str _,trivial⟩⟩
theorem z8{e:TypeId}{sz:Nat}{enc:α→List Lf}{ok:α→Prop}{hk:∀x,(enc x).length=sz}(ht:P.underlying t=some (.slice e))(hc:P.cellsOf t=1)(hr:iI P N e (MC sz enc ok hk))(XT:0<sz):
  iI P N t (MC 1 (fun l:List α=>[.sl false sz (l.map enc)]) (fun l=>l.length≤N∧∀x∈l,ok x) (fun _=>rfl)):=⟨hc,fun H Qlm w fuel cs x h hb=>by
 obtain⟨xs,A,c,Vv,hlen,hS⟩:=(VY ht hc hr XT).opens H Qlm w fuel cs x h hb;have Tr:xs.length≤c:=by
  rcases open_slice ht h with⟨h1,_⟩|⟨a,len,cap,m,n,D,Pl,h1,_,hl,_⟩
  ·rw[Vv]at h1;simp only[List.cons.injEq,Value.slice.injEq,and_true]at h1;omega
  ·rw[Vv]at h1;simp only[List.cons.injEq,Value.slice.injEq,and_true]at h1;omega
 have B3:∀x∈xs,ok x:=fun x hx=>by
  obtain⟨i,hi⟩:=List.getElem?_of_mem hx;obtain⟨b,off,QR,_,_,h1,_⟩:=hS i x hi;exact h1.1
 refine⟨xs,⟨hlen,B3⟩,?_⟩;rw[Vv];refine⟨?_,trivial⟩;cases xs with
 |nil=>exact .OJ false sz A c (fun h=>by cases h)
 |cons x0 xr =>
  obtain⟨b,off,cs0,hA,jU,_,_⟩:=hS 0 x0 rfl;subst hA;have key:∀(i:Nat) (c':List Lf) (j:Nat) (l:Lf),((x0 ::xr).map enc)[i]?=some c'→c'[j]?=some l→∃v,w.cell? ⟨b,off+i*sz+j,none⟩=some v∧IRw w l v:=by
   intro i c' j l hi hj;rw[List.getElem?_map]at hi;cases hx:(x0 ::xr)[i]? with
   |none=>rw[hx]at hi;cases hi
   |some y =>
    rw[hx]at hi;cases hi;obtain⟨b',Qqi,QR,hA',_,⟨_,h1⟩,h2⟩:=hS i y hx;cases hA';obtain⟨v,hv,hr⟩:=h1.get hj;exact⟨v,h2 j v hv,hr⟩
  have Zf:(x0 ::xr).length=((x0 ::xr).map enc).length:=(List.length_map ..).symm;rw[Zf];refine .sl false sz _ b off c (fun i j=>(w.cell? ⟨b,off+i*sz+j,none⟩).getD undef) jU (by rw[List.length_map];exact Tr) (fun h=>by cases h) ?_ ?_ ?_
  ·intro i c' hi;rw[List.getElem?_map]at hi;cases hx:(x0 ::xr)[i]? with
   |none=>rw[hx]at hi;cases hi
   |some y=>rw[hx]at hi;cases hi;exact hk y
  ·intro i c' j l hi hj;obtain⟨v,hv,_⟩:=key i c' j l hi hj;show _=some ((w.cell? ⟨b,off+i*sz+j,none⟩).getD undef);rw[hv];rfl
  ·intro i c' j l hi hj;obtain⟨v,hv,hr⟩:=key i c' j l hi hj;show IR w _ l ((w.cell? ⟨b,off+i*sz+j,none⟩).getD undef);rw[hv];exact hr⟩
theorem xz{fs:Array Field}{r:Rd α}{e:α→List Lf}{ok:α→Prop}{k:Nat}{enc:β→List Lf}{okT:β→Prop}{hk:∀x,(enc x).length=k}(ht:P.underlying t=some (.struct fs))(hc:P.cellsOf t=r.size)(hF:GN P N fs.toList 0 α r)
  (j9:r.size=k) (hE:HE r e ok) (mk:α→β) (h1:∀a,enc (mk a)=e a) (h2:∀a,ok a→okT (mk a)):iI P N t (MC k enc okT hk):=
 (TY ht hc hF).mono j9 fun w cs a h=>⟨mk a,h2 a (hE w cs a h).1,by rw[h1];exact(hE w cs a h).2⟩
theorem QaR{e:TypeId}{sz:Nat}{Qep:α→List Lf}{ok0:α→Prop}{Vw:∀x,(Qep x).length=sz}{k:Nat}{enc:β→List Lf}{okT:β→Prop}{hk:∀x,(enc x).length=k}(ht:P.underlying t=some (.array 2 e))(hc:P.cellsOf t=sz+sz)(hr:iI P N e (MC sz Qep ok0 Vw))
  (j9:sz+sz=k) (mk:α→α→β) (h1:∀a b,enc (mk a b)=Qep a++Qep b) (h2:∀a b,ok0 a→ok0 b→okT (mk a b)):iI P N t (MC k enc okT hk):=
 (TX ht hc hr).mono j9 fun w cs a h=>by
  have:=HE.pair (HE.rd (hk:=Vw)) (HE.rd (hk:=Vw)) w cs a h;exact⟨mk a.1 a.2,h2 _ _ this.1.1 this.1.2,by rw[h1];exact this.2⟩
end
section
variable {P : Program} {f : FuncId} {w : World}
theorem QeX{M:Nat→Prop}{φ:Pl}{ls:List Lf}{vs:List Value}(h:Rs (IR w M) ls vs):Rs (LR w M φ) ls vs:=Rs.mono (fun _ _ h=>IR.lr h) h
theorem QcO{args:List Cm}{gX:List Value}(ht:∀b cs,(b,cs)∈Rv→b<w.heap.size∧∃t s,w.heap[b]?=some (.cells cs t s))(h:dv P f args [] (.cm (.one (.bool true))) [])(hv:Rs (CR w (fun b=>b<w.heap.size) (fun _=>none)) args gX):
  Calls P f gX.toArray w fun e w'=>e=.returned (.bool true)∧Below w.heap.size w w':=by
 refine(h.2 w (fun _=>none) (fun b=>b<w.heap.size) gX ?_ (fun _ _=>rfl) hv).mono ?_
 ·refine⟨fun id ob h=>by simp at h,fun i j oi oj b Ci Cj h=>by simp at h,fun b h=>h,fun b h=>h,fun b h=>.inl h,fun id ob b C h=>by simp at h,fun _ _ _=>rfl,rfl,rfl,rfl,Nat.le_refl _,fun p h=>by simp [wv]at h,fun b cs h=>⟨(ht b cs h).1,fun⟨id,C,hc,_⟩=>by simp at hc,ht b cs h⟩⟩
 ·rintro e w' ⟨v,φ',M',rfl,hv,hW,_⟩;cases hv;exact⟨rfl,hW.os,hW.tape,hW.output,hW.size,fun b hb=>hW.FI b hb (by rintro⟨id,C,h,_⟩;simp at h)⟩
theorem Qec{ls:List Lf}{cs:Array Value}(h:Rs (IRw w) ls cs.toList):CR w (fun b=>b<w.heap.size) (fun _=>none) (.agg ls) (.agg cs):=⟨cs.toList,by simp,QeX h⟩
end
end
end Go.Proofs.YtkcilfpbgjjjbaaGreatDoor
