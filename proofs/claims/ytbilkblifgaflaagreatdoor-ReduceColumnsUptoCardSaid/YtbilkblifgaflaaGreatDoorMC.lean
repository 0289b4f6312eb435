/- Part MC. -/
import Derived.Test.YtbilkblifgaflaaGreatDoorMB
import Derived.Test.YtbilkblifgaflaaGreatDoorMA
import Derived.Test.YtbilkblifgaflaaGreatDoorML
import Derived.Deep.Slices
import Derived.ChangeArms
import Derived.OpenShut
import Derived.WideShapes
set_option linter.unusedSimpArgs false
set_option linter.unusedVariables false
set_option linter.unusedSectionVars false
namespace Go.Proofs.YtbilkblifgaflaaGreatDoor
section
open Go.RowKit
section
variable {P : Program} {Γ : bn} {φ φ2 : Pl} {M : Nat → Prop} {w : World} {a : Act} {m : Nat → Option Nat}
theorem M1:∀{l:List Nat} {k id j:Nat},posOf l k id=some j→k≤j∧l[j-k]?=some id
 | [],_,_,_,h=>by cases h
 |x ::r,k,id,j,h=>by
  simp only[posOf]at h;cases hx:(x == id)with
  |true =>
   rw[hx]at h;cases h;have:x=id:=by simpa using hx
   subst this;exact⟨Nat.le_refl _,by simp⟩
  |false =>
   rw[hx]at h;obtain⟨h1,h2⟩:=M1 (l:=r) (k:=k+1) h;refine⟨by omega,?_⟩
   rw[show j-k=(j-(k+1))+1 by omega];simpa using h2
theorem QcW(hm:∀id k p,m id=some k→φ id=some p→φ2 k=some p){l:Lf}{v:Value}(h:zH w M φ l v):zH w M φ2 (Xj m l) v:=by
 cases l with
 |op id sz row off =>
  obtain⟨b,C,h1,h2⟩:=h;simp only[Xj];cases hh:m id with
  |none=>subst h2;exact IR.any _ rfl
  |some k=>exact⟨b,C,hm id k _ hh h1,h2⟩
 |os id sz off len =>
  simp only[Xj];cases hh:m id with
  |none =>
   rcases h with⟨b,C,h1,h2,h3⟩|⟨h1,h2,h3,x,h4⟩
   ·subst h2;exact IR.any _ rfl
   ·subst h4;exact IR.any _ rfl
  |some k =>
   rcases h with⟨b,C,h1,h2⟩|⟨h1,h2⟩
   ·exact .inl ⟨b,C,hm id k _ hh h1,h2⟩
   ·exact .inr ⟨hm id k _ hh h1,h2⟩
 |fn f jW=>cases(h:IR w M (.fn f jW) v);exact IR.any _ rfl
 |mp id =>
  obtain⟨b,h1,h2⟩:=h;simp only[Xj];cases hh:m id with
  |none=>subst h2;exact IR.any _ rfl
  |some k=>exact⟨b,hm id k _ hh h1,h2⟩
 |_=>exact h
theorem QdY:∀{l:Lf},WT (Xj m l)=false:=by
 intro l;cases l <;> simp only[Xj] <;>(try split) <;> rfl
theorem Xk(hm:∀id k p,m id=some k→φ id=some p→φ2 k=some p){l:Lf}{v:Value}(h:LR w M φ l v):LR w M φ2 (Qeu m l) v:=by
 rcases LR.split h with⟨h1,h2⟩|⟨f,jW,vs,rfl,rfl,h3⟩
 ·have:Qeu m l=Xj m l:=by cases l <;> first|rfl|cases h1
  rw[this,QN QdY];exact QcW hm h2
 ·exact⟨vs,rfl,Rs.Af (Rs.mono (fun _ _ h=>QcW hm h) h3)⟩
theorem R6(hm:∀id k p,m id=some k→φ id=some p→φ2 k=some p){c:Cm}{v:Value}(h:CR w M φ c v):CR w M φ2 (Qet m c) v:=by
 cases c with
 |one l=>exact Xk hm h
 |agg ls=>obtain⟨vs,h1,h2⟩:=h;exact⟨vs,h1,Rs.Af (Rs.mono (fun _ _ h=>Xk hm h) h2)⟩
theorem O6(hm:∀id k p,m id=some k→φ id=some p→φ2 k=some p){c:AV}{v:Value}(h:AR w M φ c v):AR w M φ2 (O5 m c) v:=by
 cases c with
 |cm c=>exact R6 hm h
 |o5 cs=>obtain⟨vs,h1,h2⟩:=h;exact⟨vs,h1,Rs.Af (Rs.mono (fun _ _ h=>R6 hm h) h2)⟩
 |gd p c=>exact⟨fun hp=>R6 hm (h.1 hp),h.2⟩
 |RO=>trivial
 |boo=>exact h
theorem VX{ob:Ob}:(kQ m ob).box=ob.box:=by
 unfold kQ;cases hb:(ob.box&&!isMap ob)
 ·rfl
 ·rfl
theorem Qg8(hm:∀id k p,m id=some k→φ id=some p→φ2 k=some p){i j:Nat}{ob:Ob}(he:φ2 i=φ j)(hO:OC w M φ j ob):OC w M φ2 i (kQ m ob):=by
 have nQ:(kQ m ob).sz=ob.sz:=by unfold kQ;cases(ob.box&&!isMap ob) <;> rfl
 have QpJ:(kQ m ob).Mi=ob.Mi:=by unfold kQ;cases(ob.box&&!isMap ob) <;> rfl
 have Qf1:(kQ m ob).box=ob.box:=VX;have hlen:(kQ m ob).rows.length=ob.rows.length:=by unfold kQ;cases(ob.box&&!isMap ob) <;> simp
 have hnm:=hO.Qkt;obtain⟨h0,h1⟩:=hO;refine⟨by rw[nQ];exact h0,?_⟩
 rw[he]
 revert h1
 cases φ j with
 |none=>exact id
 |some p=>cases p with
  |none =>
   rintro⟨h2,h3⟩;refine⟨?_,by rw[Qf1];exact h3⟩
   unfold kQ;rw[h3];exact h2
  |some q =>
   obtain⟨b,C⟩:=q;rintro⟨cur,g1,g2,g3,g4,g5,g6⟩;refine⟨cur,by rw[QpJ];exact g1,by rw[nQ];exact g2,by rw[hlen];exact g3,g4,by rw[Qf1];exact g5,fun i c hc=>?_⟩
   rw[nQ,Qf1];cases tS:ob.box with
   |false =>
    have e:kQ m ob=ob:=by unfold kQ;rw[tS];rfl
    rw[e]at hc;have:=g6 i c hc;rw[tS]at this;exact this
   |true =>
    have e:(kQ m ob).rows=ob.rows.map fun c=>c.map (Qeu m):=by unfold kQ;rw[tS,hnm tS];rfl
    rw[e,List.getElem?_map]at hc;cases hc0:ob.rows[i]? with
    |none=>rw[hc0]at hc;cases hc
    |some c0 =>
     rw[hc0]at hc;cases hc;obtain⟨g7,g8⟩:=g6 i c0 hc0;refine⟨by rw[List.length_map];exact g7,fun j l hl=>?_⟩
     rw[List.getElem?_map]at hl;cases WI:c0[j]? with
     |none=>rw[WI]at hl;cases hl
     |some l0 =>
      rw[WI]at hl;cases hl;obtain⟨v,hv,hr⟩:=g8 j l0 WI;rw[tS,if_pos rfl]at hr;exact⟨v,hv,by rw[if_pos rfl];exact Xk hm hr⟩
theorem Kb(hm:∀id k p,m id=some k→φ id=some p→φ2 k=some p){i j:Nat}{ob:Ob}(he:φ2 i=φ j)(hO:OR w M φ j ob):OR w M φ2 i (kQ m ob):=by
 rcases hO with hO|⟨hb,rs,b,es,TZ,h1,h2,h3,h4⟩
 ·exact .inl (Qg8 hm he hO)
 ·have e:kQ m ob=ob:=by unfold kQ isMap;rw[h1];cases ob.box <;> rfl
  rw[e];exact .inr ⟨hb,rs,b,es,TZ,h1,he.trans h2,h3,h4⟩
end
end
section
open Go.RowKit
section
variable {P : Program} {Γ : bn} {φ φ' : Pl} {M M' : Nat → Prop} {hD h : Nat → Option Ob} {w w' : World} {base : Nat} {L : Nat → AV} {a : Act} {g : Prop} {hs : List Hint} {r : Pu} {o : Oper}
theorem zH.free{l:Lf}{v:Value}(hf:Qb3 l=true)(h:zH w M φ l v):zH w M φ' l v:=by
 cases l <;> first|exact h|cases hf
theorem LR.free{l:Lf}{v:Value}(hf:QfN l=true)(h:LR w M φ l v):LR w M φ' l v:=by
 rcases h.split with⟨hn,h0⟩|⟨f,jW,vs,rfl,rfl,h2⟩
 ·rw[QN hn];refine zH.free ?_ h0;cases l <;> first|exact hf|cases hn
 ·have hf':jW.all Qb3=true:=hf;exact⟨vs,rfl,h2.imp_mem fun x hx y h=>zH.free (List.all_eq_true.1 hf' x hx) h⟩
theorem CR.free{c:Cm}{v:Value}(hf:SN c=true)(h:CR w M φ c v):CR w M φ' c v:=by
 cases c with
 |one l=>exact LR.free hf h
 |agg ls =>
  obtain⟨vs,h1,h2⟩:=h;exact⟨vs,h1,h2.imp_mem fun x hx y h=>LR.free (List.all_eq_true.1 hf x hx) h⟩
theorem AR.free{c:AV}{v:Value}(hf:QaA c=true)(h:AR w M φ c v):AR w M φ' c v:=by
 cases c with
 |cm c=>exact CR.free hf h
 |o5 cs =>
  obtain⟨vs,h1,h2⟩:=h;exact⟨vs,h1,h2.imp_mem fun x hx y h=>CR.free (List.all_eq_true.1 hf x hx) h⟩
 |gd p c=>cases hf
 |RO=>trivial
 |boo=>exact h
theorem LR.plain{l:Lf}{v:Value}(hf:Qbd l = true)(h:LR w M φ l v):LR w' M' φ' l v:= by
  cases l <;> first
    |(cases hf;done)
    | (have h' : IR w M _ v := h
       cases h'
       first |exact IR.int _ _ |exact IR.bool _ |exact IR.str _ |exact IR.any _ (by assumption))
theorem CR.plain{c:Cm}{v:Value}(hf:Qbc c=true)(h:CR w M φ c v):CR w' M' φ' c v:=by
 cases c with
 |one l=>exact LR.plain hf h
 |agg ls =>
  obtain⟨vs,h1,h2⟩:=h;exact⟨vs,h1,h2.imp_mem fun x hx y h=>LR.plain (List.all_eq_true.1 hf x hx) h⟩
theorem AR.plain{c:AV}{v:Value}(hf:Xb c=true)(h:AR w M φ c v):AR w' M' φ' c v:=by
 cases c with
 |cm c=>exact CR.plain hf h
 |o5 cs =>
  obtain⟨vs,h1,h2⟩:=h;exact⟨vs,h1,h2.imp_mem fun x hx y h=>CR.plain (List.all_eq_true.1 hf x hx) h⟩
 |gd p c=>cases hf
 |RO=>cases hf
 |boo=>cases hf
def As(M:Nat→Prop)(φ:Pl)(hD:Nat→Option Ob):Nat→Prop:=fun b=>M b∨∃id ob C,hD id=some ob∧φ id=some (some (b,C))
theorem As.sub:∀b,M b→As M φ hD b:=fun _ h=>.inl h
theorem Qd4(hW:Wd Γ φ M hD w)(gC:∀id ob,h id=some ob→hD id=some ob){l l':Lf}{v:Value}{ob:List Prop}(hl:QaZ h l=some (l',ob))(ho:d_ ob)(hv:LR w M φ l v):IR w (As M φ hD) l' v:=by
 have S2:∀{l:Lf},IR w M l v→IR w (As M φ hD) l v:=fun h=>h.mono (fun _ _=>rfl) As.sub
 cases l with
 |os id sz off len =>
  simp only[QaZ]at hl;split at hl
  ·rename_i o1 SY;cases hc:(off == 0&&!o1.box&&o1.sz == sz)with
   |false=>rw[hc]at hl;cases hl
   |true =>
    rw[hc]at hl;cases hl;simp only[Bool.and_eq_true,beq_iff_eq,Bool.not_eq_true']at hc;obtain⟨⟨rfl,tS⟩,nQ⟩:=hc;obtain⟨hlen,-⟩:=ho;have hO:=hW.ic id o1 (gC id o1 SY);rcases(hv:zH w M φ (.os id sz 0 len) v)with⟨b,C,hφ,rfl,hle⟩|⟨hφ,_,rfl,A,rfl⟩
    ·obtain⟨h0,h1⟩:=hO.oc (.inl tS);rw[hφ]at h1;obtain⟨cur,g1,g2,g3,g4,g5,g6⟩:=h1;have tn:∀(i:Nat) (c:List Lf) (j:Nat) (l:Lf),o1.rows[i]?=some c→c[j]?=some l→w.cell? ⟨b,0*sz+i*sz+j,none⟩=some ((cur[i*sz+j]?).getD undef)∧IR w (As M φ hD) l ((cur[i*sz+j]?).getD undef):=fun i c j l hc hj=>by
      obtain⟨u,hu,hr⟩:=(g6 i c hc).2 j l hj;rw[tS]at hr;rw[nQ]at hu;refine⟨?_,by rw[hu];exact IR.mono (fun _ _=>rfl) As.sub (by simpa using hr)⟩
      simp only[World.cell?,g1,Nat.zero_mul,Nat.zero_add];simp [hu]
     have key:IR w (As M φ hD) (.sl false sz o1.rows) (.slice (some ⟨b,0*sz,none⟩) o1.rows.length (C-0)):=
      IR.sl false sz o1.rows b (0*sz) (C-0) (fun i j=>(cur[i*sz+j]?).getD undef) (.inr ⟨id,o1,C,gC id o1 SY,hφ⟩) (by omega) (fun h=>by cases h) (fun i c hc=>by rw[(g6 i c hc).1,nQ]) (fun i c j l hc hj=>(tn i c j l hc hj).1) (fun i c j l hc hj=>(tn i c j l hc hj).2)
     rw[hlen]at key;exact key
    ·have Ld:o1.rows=[]:=List.eq_nil_of_length_eq_zero hlen;rw[Ld];exact(IR.TG false sz A 0 fun h=>by cases h)
  ·cases hl
 |op id sz row off=>cases hl
 |fn f jW=>cases hl
 |mp id=>cases hl
 |any=>cases hl;exact S2 hv
 |int k n=>cases hl;exact S2 hv
 |bool b=>cases hl;exact S2 hv
 |str s=>cases hl;exact S2 hv
 |Uv=>cases hl;exact S2 hv
 |dO=>cases hl;exact S2 hv
 |ip c off=>cases hl;exact S2 hv
 |sl cl sz rows=>cases hl;exact S2 hv
theorem S_(hW:Wd Γ φ M hD w)(gC:∀id ob,h id=some ob→hD id=some ob):∀{ls ls':List Lf} {ob:List Prop},KU h ls=some (ls',ob)→d_ ob→ls'.length=ls.length∧∀(j:Nat) (l':Lf),ls'[j]?=some l'→∃l,ls[j]?=some l∧∀v,LR w M φ l v→IR w (As M φ hD) l' v
 | [],_,_,hl,_=>by cases hl;exact⟨rfl,fun j l' hj=>by simp at hj⟩
 |l ::ls,ls',ob,hl,ho=>by
  simp only[KU]at hl;split at hl
  ·rename_i x o1 xs o2 h1 h2;cases hl;rw[bC]at ho;obtain⟨g1,g2⟩:=S_ hW gC h2 ho.2;refine⟨by simp [g1],fun j l' hj=>?_⟩
   cases j with
   |zero=>simp at hj;subst hj;exact⟨l,rfl,fun v hv=>Qd4 hW gC h1 ho.1 hv⟩
   |succ j=>exact g2 j l' (by simpa using hj)
  ·cases hl
theorem Y3(hW:Wd Γ φ M hD w)(gC:∀id ob,h id=some ob→hD id=some ob){l l':Lf}{v:Value}{ob:List Prop}(hl:Ra h l=some (l',ob))(ho:d_ ob)(hv:LR w M φ l v):LR w (As M φ hD) φ' l' v:=by
 have S2:∀{l:Lf},IR w M l v→LR w (As M φ hD) φ' l v:=fun h=>IR.lr (h.mono (fun _ _=>rfl) As.sub)
 cases l with
 |os id sz off len =>
  simp only[Ra]at hl;split at hl
  ·rename_i o1 SY;cases hc:(off == 0&&!o1.box&&o1.sz == sz)with
   |false =>
    rw[hc]at hl;simp only[cond_false]at hl;cases IL:(off == 0&&o1.box&&o1.sz == sz)with
    |false=>rw[IL]at hl;cases hl
    |true =>
     rw[IL]at hl;simp only[cond_true]at hl;simp only[Bool.and_eq_true,beq_iff_eq]at IL;obtain⟨⟨rfl,tS⟩,nQ⟩:=IL;unfold W0 at hl;split at hl
     ·rename_i cells mC;cases Oi:KU h cells with
      |none=>rw[Oi]at hl;cases hl
      |some p =>
       obtain⟨c',o2⟩:=p;rw[Oi]at hl;cases hl;obtain⟨hlen,ho2⟩:=ho;have hO:=hW.ic id o1 (gC id o1 SY);obtain⟨bb,hbb⟩:=hO.boxed tS;obtain⟨g1,g2⟩:=S_ hW gC Oi ho2;rcases(hv:zH w M φ (.os id sz 0 len) v)with⟨b,C,hφ,rfl,hle⟩|⟨hφ,_⟩
       ·rw[hbb]at hφ;cases hφ;obtain⟨h0,h1⟩:=hO.oc (.inr ⟨_,mC⟩);rw[hbb]at h1;obtain⟨cur,k1,k2,k3,k4,k5,k6⟩:=h1;have k7:=k6 0 cells (by rw[mC];rfl)
        have tn:∀(j:Nat) (l':Lf),c'[j]?=some l'→∃u,w.cell? ⟨bb,0*sz+0*sz+j,none⟩=some u∧IR w (As M φ hD) l' u:=fun j l' hj=>by
         obtain⟨l,hl1,hl2⟩:=g2 j l' hj;obtain⟨u,hu,hr⟩:=k7.2 j l hl1;rw[tS,if_pos rfl]at hr;refine⟨u,?_,hl2 u hr⟩;rw[Nat.zero_mul,Nat.zero_add]at hu;simp only[World.cell?,k1,Nat.zero_mul,Nat.zero_add];simpa using hu
        have key:IR w (As M φ hD) (.sl false sz [c']) (.slice (some ⟨bb,0*sz,none⟩) ([c']:List (List Lf)).length (1-0)):=by
         refine IR.sl false sz [c'] bb (0*sz) (1-0) (fun i j=>(w.cell? ⟨bb,0*sz+i*sz+j,none⟩).getD undef) (.inr ⟨id,o1,1,gC id o1 SY,hbb⟩) (by simp) (fun h=>by cases h) (fun i c hc=>?_) (fun i c j l hc hj=>?_) (fun i c j l hc hj=>?_)
         ·cases i with
          |zero=>simp at hc;subst hc;rw[g1,k7.1,nQ]
          |succ i=>simp at hc
         ·cases i with
          |zero =>
           simp at hc;subst hc;obtain⟨u,hu,hr⟩:=tn j l hj;rw[hu];rfl
          |succ i=>simp at hc
         ·cases i with
          |zero =>
           simp at hc;subst hc;obtain⟨u,hu,hr⟩:=tn j l hj;rw[hu];exact hr
          |succ i=>simp at hc
        rw[←hlen];exact IR.lr key
       ·rw[hbb]at hφ;cases hφ
     ·cases hl
   |true =>
    rw[hc]at hl;cases hl;simp only[Bool.and_eq_true,beq_iff_eq,Bool.not_eq_true']at hc;obtain⟨⟨rfl,tS⟩,nQ⟩:=hc;obtain⟨hlen,-⟩:=ho;have hO:=hW.ic id o1 (gC id o1 SY);rcases(hv:zH w M φ (.os id sz 0 len) v)with⟨b,C,hφ,rfl,hle⟩|⟨hφ,_,rfl,A,rfl⟩
    ·obtain⟨h0,h1⟩:=hO.oc (.inl tS);rw[hφ]at h1;obtain⟨cur,g1,g2,g3,g4,g5,g6⟩:=h1;have tn:∀(i:Nat) (c:List Lf) (j:Nat) (l:Lf),o1.rows[i]?=some c→c[j]?=some l→w.cell? ⟨b,0*sz+i*sz+j,none⟩=some ((cur[i*sz+j]?).getD undef)∧IR w (As M φ hD) l ((cur[i*sz+j]?).getD undef):=fun i c j l hc hj=>by
      obtain⟨u,hu,hr⟩:=(g6 i c hc).2 j l hj;rw[tS]at hr;rw[nQ]at hu;refine⟨?_,by rw[hu];exact IR.mono (fun _ _=>rfl) As.sub (by simpa using hr)⟩
      simp only[World.cell?,g1,Nat.zero_mul,Nat.zero_add];simp [hu]
     have key:IR w (As M φ hD) (.sl false sz o1.rows) (.slice (some ⟨b,0*sz,none⟩) o1.rows.length (C-0)):=
      IR.sl false sz o1.rows b (0*sz) (C-0) (fun i j=>(cur[i*sz+j]?).getD undef) (.inr ⟨id,o1,C,gC id o1 SY,hφ⟩) (by omega) (fun h=>by cases h) (fun i c hc=>by rw[(g6 i c hc).1,nQ]) (fun i c j l hc hj=>(tn i c j l hc hj).1) (fun i c j l hc hj=>(tn i c j l hc hj).2)
     rw[hlen]at key;exact IR.lr key
    ·have Ld:o1.rows=[]:=List.eq_nil_of_length_eq_zero hlen;rw[Ld];exact IR.lr (IR.TG false sz A 0 fun h=>by cases h)
  ·cases hl
 |op id sz row off =>
  simp only[Ra]at hl;split at hl
  ·rename_i o1 SY;cases hc:(o1.box&&row == 0)with
   |false=>rw[hc]at hl;cases hl
   |true =>
    rw[hc]at hl;simp only[cond_true]at hl;simp only[Bool.and_eq_true,beq_iff_eq]at hc;obtain⟨tS,rfl⟩:=hc;split at hl
    ·rename_i cells mC;cases hi:cells.all S3 with
     |false=>rw[hi]at hl;cases hl
     |true =>
      rw[hi]at hl;cases hl;have hO:=hW.ic id o1 (gC id o1 SY);obtain⟨b,C,hφ,rfl⟩:=(hv:zH w M φ (.op id sz 0 off) v);have tn:∀(j:Nat) (l:Lf),cells[j]?=some l→∃u,w.cell? ⟨b,0+j,none⟩=some u∧IR w M l u:=fun j l hj=>by
       obtain⟨u,hu,hr⟩:=hO.Yl (i:=0) (.inr ⟨_,mC⟩) hφ (by rw[mC];rfl) j l hj
       exact⟨u,by rw[Nat.zero_mul]at hu;exact hu,LR.S2 (List.all_eq_true.1 hi l (List.mem_of_getElem? hj)) hr⟩
      have key:IR w (As M φ hD) (.ip cells off) (.pointer (some ⟨b,0+off,none⟩)):=by
       refine IR.ip cells off b 0 (fun i=>(w.cell? ⟨b,0+i,none⟩).getD undef) (.inr ⟨id,o1,C,gC id o1 SY,hφ⟩) (fun i l hl=>?_) (fun i l hl=>?_)
       ·obtain⟨u,hu,hr⟩:=tn i l hl;simp only[hu,Option.getD_some]
       ·obtain⟨u,hu,hr⟩:=tn i l hl;simp only[hu,Option.getD_some];exact hr.mono (fun _ _=>rfl) As.sub
      rw[show 0*sz+off=0+off by rw[Nat.zero_mul]]
      exact IR.lr key
    ·cases hl
  ·cases hl
 |fn f jW=>cases hl
 |mp id=>cases hl
 |any=>cases hl;exact S2 hv
 |int k n=>cases hl;exact S2 hv
 |bool b=>cases hl;exact S2 hv
 |str s=>cases hl;exact S2 hv
 |Uv=>cases hl;exact S2 hv
 |dO=>cases hl;exact S2 hv
 |ip c off=>cases hl;exact S2 hv
 |sl cl sz rows=>cases hl;exact S2 hv
theorem QgM{l l':Lf}{ob:List Prop}(hl:Ra h l=some (l',ob)):WT l=false∧WT l'=false:=by
 have rI:∀{c:Bool} {x:Option (Lf×List Prop)},(bif c then x else none)=some (l',ob)→x=some (l',ob):=by
  intro c x hc;cases c
  ·cases hc
  ·exact hc
 cases l with
 |os id sz off len =>
  simp only[Ra]at hl;split at hl
  ·rename_i o1 SY;cases hc:(off == 0&&!o1.box&&o1.sz == sz)with
   |true=>rw[hc]at hl;cases hl;exact⟨rfl,rfl⟩
   |false =>
    rw[hc]at hl;have h1:=rI hl;unfold W0 at h1;split at h1
    ·rename_i cells mC;cases Oi:KU h cells with
     |none=>rw[Oi]at h1;cases h1
     |some p=>rw[Oi]at h1;cases h1;exact⟨rfl,rfl⟩
    ·cases h1
  ·cases hl
 |op id sz row off =>
  simp only[Ra]at hl;split at hl
  ·have h1:=rI hl;split at h1
   ·cases rI h1;exact⟨rfl,rfl⟩
   ·cases h1
  ·cases hl
 |fn f jW=>cases hl
 |mp id=>cases hl
 |_=>cases hl;exact⟨rfl,rfl⟩
theorem Vx(hW:Wd Γ φ M hD w)(gC:∀id ob,h id=some ob→hD id=some ob):∀{ls ls':List Lf} {vs:List Value} {ob:List Prop},Ta h ls=some (ls',ob)→d_ ob→Rs (zH w M φ) ls vs→Rs (zH w (As M φ hD) φ') ls' vs
 | [],_,[],_,hl,_,_=>by cases hl;trivial
 |l ::ls,ls',v ::vs,ob,hl,ho,hr=>by
  simp only[Ta]at hl;split at hl
  ·rename_i x o1 xs o2 h1 h2;cases hl;rw[bC]at ho;obtain⟨n1,n2⟩:=QgM h1;refine⟨?_,Vx hW gC h2 ho.2 hr.2⟩;rw[←QN n2];exact Y3 hW gC h1 ho.1 (by rw[QN n1];exact hr.1)
  ·cases hl
 | [],_,_ ::_,_,_,_,h=>h.elim
 |_ ::_,_,[],_,_,_,h=>h.elim
theorem Y4(hW:Wd Γ φ M hD w)(gC:∀id ob,h id=some ob→hD id=some ob){l l':Lf}{v:Value}{ob:List Prop}(hl:Vz h l=some (l',ob))(ho:d_ ob)(hv:LR w M φ l v):LR w (As M φ hD) φ' l' v:=by
 cases l with
 |fn f jW =>
  simp only[Vz]at hl;cases h1:Ta h jW with
  |none=>rw[h1]at hl;cases hl
  |some p =>
   obtain⟨x,o1⟩:=p;rw[h1]at hl;cases hl;obtain⟨vs,e,hr⟩:=hv;exact⟨vs,e,Vx hW gC h1 ho hr⟩
 |_=>exact Y3 hW gC (by simpa only[Vz]using hl) ho hv
theorem VA(hW:Wd Γ φ M hD w)(gC:∀id ob,h id=some ob→hD id=some ob):∀{ls ls':List Lf} {vs:List Value} {ob:List Prop},Tb h ls=some (ls',ob)→d_ ob→Rs (LR w M φ) ls vs→Rs (LR w (As M φ hD) φ') ls' vs
 | [],_,[],_,hl,_,_=>by cases hl;trivial
 |l ::ls,ls',v ::vs,ob,hl,ho,hr=>by
  simp only[Tb]at hl;split at hl
  ·rename_i x o1 xs o2 h1 h2;cases hl;rw[bC]at ho;exact⟨Y4 hW gC h1 ho.1 hr.1,VA hW gC h2 ho.2 hr.2⟩
  ·cases hl
 | [],_,_ ::_,_,_,_,h=>h.elim
 |_ ::_,_,[],_,_,_,h=>h.elim
theorem QgN(hW:Wd Γ φ M hD w)(gC:∀id ob,h id=some ob→hD id=some ob){c c':Cm}{v:Value}{ob:List Prop}(hl:QcB h c=some (c',ob))(ho:d_ ob)(hv:CR w M φ c v):CR w (As M φ hD) φ' c' v:=by
 cases c with
 |one l =>
  simp only[QcB]at hl;cases h1:Vz h l with
  |none=>rw[h1]at hl;cases hl
  |some p=>obtain⟨x,o1⟩:=p;rw[h1]at hl;cases hl;exact Y4 hW gC h1 ho hv
 |agg ls =>
  simp only[QcB]at hl;cases h1:Tb h ls with
  |none=>rw[h1]at hl;cases hl
  |some p =>
   obtain⟨x,o1⟩:=p;rw[h1]at hl;cases hl;obtain⟨vs,e,hr⟩:=hv;exact⟨vs,e,VA hW gC h1 ho hr⟩
theorem Vy(hW:Wd Γ φ M hD w)(gC:∀id ob,h id=some ob→hD id=some ob):∀{cs Ug:List Cm} {vs:List Value} {ob:List Prop},W1 h cs=some (Ug,ob)→d_ ob→Rs (CR w M φ) cs vs→Rs (CR w (As M φ hD) φ') Ug vs
 | [],_,[],_,hl,_,_=>by cases hl;trivial
 |l ::ls,ls',v ::vs,ob,hl,ho,hr=>by
  simp only[W1]at hl;split at hl
  ·rename_i x o1 xs o2 h1 h2;cases hl;rw[bC]at ho;exact⟨QgN hW gC h1 ho.1 hr.1,Vy hW gC h2 ho.2 hr.2⟩
  ·cases hl
 | [],_,_ ::_,_,_,_,h=>h.elim
 |_ ::_,_,[],_,_,_,h=>h.elim
theorem TB{c:Call}{f:Operand}{k:FuncId}{jW:List Value}(ho:o.op=.call c)(hc:c.callee=.value f)(hf:a.eval f=.func (.func k) #[] jW.toArray)(hk:Wp P k=true):
  (execOp a.eval o).run P w=.ok (.enter k (c.args.toList.map a.eval++jW).toArray) w:=by
 unfold Wp at hk;split at hk
 ·rename_i fn hfn;simp only[Bool.and_eq_true,Bool.not_eq_true']at hk;have hb:¬fn.body=none:=fun e=>by rw[e]at hk;cases hk.2
  have sR:¬fn.name="runtime.NumGoroutine":=by simpa using hk.1
  have he:c.args.map a.eval++jW.toArray=(c.args.toList.map a.eval++jW).toArray:=by apply Array.ext';simp
  simp [execOp,ho,resolve,hc,hf,Deferred.ofValue,invoke,callFunc,hfn,sR,hb,he]
 ·cases hk
theorem Wd.Qks(hW:Wd Γ φ M hD w)(gC:∀b,M b→M' b)(Lc:∀b,M' b→M b∨(Γ.w0.heap.size≤b∧b<w.heap.size∧∀id ob C,hD id=some ob→φ id≠some (some (b,C)))):Wd Γ φ M' hD w:=by
 have he:Ex w M φ w M' φ:=⟨fun _ _=>rfl,gC,fun _ _ h=>h⟩
 refine⟨fun id ob e=>(hW.ic id ob e).mono he fun _ _ _=>rfl,hW.inj,fun b hb=>?_,fun b hb=>gC b (hW.m0 b hb),fun b hb=>?_,fun id ob b C e p=>⟨fun hb=>?_,(hW.own id ob b C e p).2⟩,hW.MH,hW.os,hW.tape,hW.output,hW.size,hW.IN⟩
 ·rcases Lc b hb with h|h
  ·exact hW.mlt b h
  ·exact h.2.1
 ·rcases Lc b hb with h|h
  ·exact hW.OE b h
  ·exact .inr (.inr h.1)
 ·rcases Lc b hb with h|h
  ·exact(hW.own id ob b C e p).1 h
  ·exact h.2.2 id ob C e p
theorem Qda(hM:∀b,M b→b<w.heap.size):Wd ⟨w,fun b=>∃id C,id<([]:List Ob).length∧(fun _=>none:Pl) id=some (some (b,C)),M,yF (fun _=>none) 0 []⟩ (fun _=>none) M (fun id=>([]:List Ob)[id]?) w:=
 ⟨fun id ob e=>by simp at e,fun i j oi oj b Ci Cj hi=>by simp at hi,hM,fun _ h=>h,fun _ h=>.inl h,fun id ob b C e=>by simp at e,fun _ _ _=>rfl,rfl,rfl,rfl,Nat.le_refl _,fun p hp=>by simp [yF]at hp⟩
theorem I2{c:Call}(ho:o.op=.call c)(hf:Su P h L c hs=some r)(dX:d_ r.ic)(hF:∀t,AR w M φ (L t) (a.tmps.getD t undef))(hW:Wd Γ φ M hD w)(gC:∀id ob,h id=some ob→hD id=some ob){K:Act→World→Prop}
  (hK:∀v w' M',AR w' M' φ r.v v→Wd Γ φ M' hD w'→Ex w M φ w' M' φ→K (a.put o.dst v) w'):r.news=[]∧o.wp P a w K NQ:=by
 unfold Su at hf;split at hf
 ·rename_i f hcf;split at hf
  ·rename_i k jW AE o1 r0 jC h1 h2;have hfv:AR w M φ (Au L f) (a.eval f):=Mx hF f;rw[h1]at hfv;obtain⟨cvs,hcv,hcr⟩:LR w M φ (.fn (.func k) jW) (a.eval f):=hfv;have Vh:Rs (CR w M φ) (jW.map Cm.one) cvs:=by
    refine Rs.Af (hcr.imp_mem fun x hx y h=>?_)
    exact zH.lr h
   -- V7 QmY own say
   have go:∀{UL:List Cm} {M0:Nat→Prop} {r1:AV},dF P k UL [] r1 []→(∀b,M0 b→b<w.heap.size)→Rs (CR w M0 (fun _=>none)) UL (c.args.toList.map a.eval++cvs)→
     (∀v w' M',Below w.heap.size w w'→AR w' M' (fun _=>none) r1 v→(∀b,M0 b→M' b)→(∀b,M' b→M0 b∨(w.heap.size≤b∧b<w'.heap.size))→K (a.put o.dst v) w')→o.wp P a w K NQ:=by
    intro UL M0 r1 hA hM Hl hk;unfold Oper.wp;rw[TB ho hcf hcv hA.1];show Calls P k _ w _;refine(hA.2 w (fun _=>none) M0 _ (Qda hM) (fun _ _=>rfl) Hl).mono ?_
    rintro e w' ⟨v,φ',M',rfl,hr,sN,hφ'⟩;have hφn:φ'=fun _=>none:=funext fun id=>hφ' id (Nat.zero_le _)
    subst hφn;have Of:Below w.heap.size w w':=⟨sN.os,sN.tape,sN.output,sN.size,fun b hb=>sN.MH b hb fun⟨id,C,h,_⟩=>by simp at h⟩
    refine hk v w' M' Of hr sN.m0 fun b hb=>?_
    rcases sN.OE b hb with h|⟨id,C,h,_⟩|h
    ·exact .inl h
    ·simp at h
    ·exact .inr ⟨h,sN.mlt b hb⟩
   cases YX:(AE++jW.map Cm.one).all SN with
   |true =>
    rw[YX]at hf;simp only[cond_true]at hf;cases tY:QaA r0 with
    |false=>rw[tY]at hf;cases hf
    |true =>
     rw[tY]at hf;cases hf;simp only[bC,d_]at dX;refine⟨rfl,go dX.2.1 (fun b hb=>hW.mlt b hb) ?_ ?_⟩
     ·exact((xy hF trivial h2 dX.1).append Vh).imp_mem fun x hx y h=>CR.free (List.all_eq_true.1 YX x hx) h
     ·intro v w' M' Of hr R1 hs2;refine hK v w' M' (AR.free tY hr) ((hW.grow Of).Qks R1 fun b hb=>?_) ⟨fun b hb=>Of.block b (hW.mlt b hb),R1,fun _ _ h=>h⟩
      rcases hs2 b hb with h|h
      ·exact .inl h
      ·exact .inr ⟨Nat.le_trans hW.size h.1,h.2,fun id ob C e p=>by have:=(hW.own id ob b C e p).2.1;omega⟩
   |false =>
    rw[YX]at hf;simp only[cond_false]at hf;split at hf
    ·rename_i UL o2 h3;cases AK:Xb r0 with
     |false=>rw[AK]at hf;cases hf
     |true =>
      rw[AK]at hf;cases hf;simp only[bC,d_]at dX;refine⟨rfl,go (M0:=As M φ hD) dX.2.1 ?_ (Vy hW gC h3 dX.1.2 ((xy hF trivial h2 dX.1.1).append Vh)) ?_⟩
      ·rintro b (h|⟨id,ob,C,e,p⟩)
       ·exact hW.mlt b h
       ·exact(hW.own id ob b C e p).2.1
      ·intro v w' M' Of hr R1 hs2;exact hK v w' M (AR.plain AK hr) (hW.grow Of) (hW.Wz Of)
    ·cases hf
  ·cases hf
 ·cases hf
theorem My:∀{out:List (Option Ob)} {ic:List Ob},UK out=some ic→out=ic.map some
 | [],_,h=>by cases h;rfl
 |some o ::r,ic,h=>by
  simp only[UK]at h;cases hr:UK r with
  |none=>rw[hr]at h;cases h
  |some os=>rw[hr]at h;cases h;rw[My hr];rfl
 |none ::_,_,h=>by cases h
theorem Ud{c:Call}(ho:o.op=.call c)(hf:Wq P base L c hs=some r)(dX:d_ r.ic)(hF:∀t,AR w M φ (L t) (a.tmps.getD t undef))(hW:Wd Γ φ M hD w)
  (tY:∀id,base≤id→id<base+r.news.length→φ id=none∧hD id=none) {K:Act→World→Prop}
  (hK:∀v w' φ' M',AR w' M' φ' r.v v→Wd Γ φ' M' (VQ hD base r.news) w'→Ex w M φ w' M' φ'→(∀id,φ' id≠none→φ id≠none∨(base≤id∧id<base+r.news.length))→K (a.put o.dst v) w'):o.wp P a w K NQ:=by
 unfold Wq at hf;split at hf
 ·rename_i f hcf;split at hf
  ·rename_i k jW AE o1 r0 out jC h1 h2;split at hf
   ·rename_i ic Qqc;cases hc:((AE++jW.map Cm.one).all SN&&ic.all (fun o=>!o.box))with
    |false=>rw[hc]at hf;cases hf
    |true =>
     rw[hc]at hf;cases hf;rw[Bool.and_eq_true]at hc;obtain⟨YX,Qf1⟩:=hc;have PZ:=My Qqc;subst PZ;simp only[bC,d_]at dX;have hfv:AR w M φ (Au L f) (a.eval f):=Mx hF f;rw[h1]at hfv;obtain⟨cvs,hcv,hcr⟩:LR w M φ (.fn (.func k) jW) (a.eval f):=hfv;have Vh:Rs (CR w M φ) (jW.map Cm.one) cvs:=by
      refine Rs.Af (hcr.imp_mem fun x hx y h=>?_)
      exact zH.lr h
     have Hl:Rs (CR w M (fun _=>none)) (AE++jW.map Cm.one) (c.args.toList.map a.eval++cvs):=((xy hF trivial h2 dX.1).append Vh).imp_mem fun x hx y h=>CR.free (List.all_eq_true.1 YX x hx) h
     unfold Oper.wp;rw[TB ho hcf hcv dX.2.1.1];show Calls P k _ w _;refine(dX.2.1.2 w (fun _=>none) M _ (Qda hW.mlt) (fun _ _=>rfl) Hl).mono ?_
     rintro e w' ⟨v,φ',M',rfl,hr,sN,hφ'⟩;rw[List.length_map]at hφ';have hhl:∀i,hl (ic.map some) i=ic[i]?:=fun i=>by unfold hl;rw[List.getElem?_map];cases ic[i]? <;> rfl
     have Of:Below w.heap.size w w':=⟨sN.os,sN.tape,sN.output,sN.size,fun b hb=>sN.MH b hb fun⟨id,C,h,_⟩=>by simp at h⟩
     have R1:∀b,M b→M' b:=sN.m0;have hs2:∀b,M' b→M b∨w.heap.size≤b:=fun b hb=>by
      rcases sN.OE b hb with h|⟨id,C,h,_⟩|h
      ·exact .inl h
      ·simp at h
      ·exact .inr h
     have hW2:Wd Γ φ M' hD w':=(hW.grow Of).Qks R1 fun b hb=>by
      rcases hs2 b hb with h|h
      ·exact .inl h
      ·exact .inr ⟨Nat.le_trans hW.size h,sN.mlt b hb,fun id ob C e p=>by have:=(hW.own id ob b C e p).2.1;omega⟩
     have YY:∀i ob b C,ic[i]?=some ob→φ' i=some (some (b,C))→¬M' b∧b<w'.heap.size∧w.heap.size≤b:=fun i ob b C h p=>by
      obtain⟨g1,g2,g3⟩:=sN.own i ob b C ((hhl i).trans h) p;refine⟨g1,g2,?_⟩;rcases g3 with⟨id,C,h,_⟩|h
      ·simp at h
      ·exact h
     let φ2:Pl:=fun i=>if base≤i∧i<base+ic.length then φ' (i-base)else φ i
     have ry:∀i,base≤i→i<base+ic.length→φ2 i=φ' (i-base):=fun i h1 h2=>if_pos ⟨h1,h2⟩
     have PZ:∀i,¬(base≤i∧i<base+ic.length)→φ2 i=φ i:=fun i h=>if_neg h
     have AK:∀i p,φ i=some p→φ2 i=some p:=fun i p h=>by
      by_cases hi:base≤i∧i<base+ic.length
      ·rw[(tY i hi.1 hi.2).1]at h;cases h
      ·rw[PZ i hi];exact h
     have hm:∀id k p,(some (base+id):Option Nat)=some k→φ' id=some p→φ2 k=some p:=fun id k p h hp=>by
      cases h;have mj:id<ic.length:=by
       rcases Nat.lt_or_ge id ic.length with h|h
       ·exact h
       ·rw[hφ' id h]at hp;cases hp
      rw[ry _ (by omega) (by omega),show base+id-base=id by omega];exact hp
     have he:Ex w' M' φ w' M' φ2:=⟨fun _ _=>rfl,fun _ h=>h,AK⟩
     refine hK v w' φ2 M' (O6 hm hr) ?_ ⟨fun b hb=>Of.block b (hW.mlt b hb),R1,AK⟩ fun i hi=>?_
     ·have QiL:∀{i ob},VQ hD base ic i=some ob→(base≤i∧i<base+ic.length∧ic[i-base]?=some ob)∨(¬(base≤i∧i<base+ic.length)∧hD i=some ob):=fun{i ob} h=>by
       unfold VQ at h;split at h
       ·rename_i hi;exact .inl ⟨hi.1,hi.2,h⟩
       ·rename_i hi;exact .inr ⟨hi,h⟩
      refine⟨fun i ob h=>?_,fun i j oi oj b Ci Cj h1 h2 h3 h4=>?_,sN.mlt,fun b hb=>R1 b (hW.m0 b hb),fun b hb=>?_,fun i ob b C h1 h2=>?_,hW2.MH,hW2.os,hW2.tape,hW2.output,hW2.size,fun p hp=>AK _ _ (hW.IN p hp)⟩
      ·rcases QiL h with⟨g1,g2,g3⟩|⟨g1,g2⟩
       ·have hb:ob.box=false:=by simpa using List.all_eq_true.1 Qf1 ob (List.mem_of_getElem? g3)
        have:=Kb (m:=fun j=>some (base+j)) (φ2:=φ2) (i:=i) (j:=i-base) hm (ry i g1 g2) (sN.ic (i-base) ob ((hhl _).trans g3))
        have e:kQ (fun j=>some (base+j)) ob=ob:=by unfold kQ;rw[hb];rfl
        rw[e]at this;exact this
       ·exact(hW2.ic i ob g2).mono he fun _ _ _=>rfl
      ·rcases QiL h1 with⟨g1,g2,g3⟩|⟨g1,g2⟩ <;> rcases QiL h2 with⟨k1,k2,k3⟩|⟨k1,k2⟩
       ·rw[ry i g1 g2]at h3;rw[ry j k1 k2]at h4;have:=sN.inj (i-base) (j-base) oi oj b Ci Cj ((hhl _).trans g3) ((hhl _).trans k3) h3 h4;omega
       ·rw[ry i g1 g2]at h3;rw[PZ j k1]at h4;have:=(YY _ _ _ _ g3 h3).2.2;have:=(hW.own _ _ _ _ k2 h4).2.1;omega
       ·rw[PZ i g1]at h3;rw[ry j k1 k2]at h4;have:=(YY _ _ _ _ k3 h4).2.2;have:=(hW.own _ _ _ _ g2 h3).2.1;omega
       ·rw[PZ i g1]at h3;rw[PZ j k1]at h4;exact hW2.inj i j oi oj b Ci Cj g2 k2 h3 h4
      ·rcases hs2 b hb with h|h
       ·exact hW.OE b h
       ·exact .inr (.inr (Nat.le_trans hW.size h))
      ·rcases QiL h1 with⟨g1,g2,g3⟩|⟨g1,g2⟩
       ·rw[ry i g1 g2]at h2;obtain⟨k1,k2,k3⟩:=YY _ _ _ _ g3 h2;exact⟨k1,k2,.inr (Nat.le_trans hW.size k3)⟩
       ·rw[PZ i g1]at h2;exact hW2.own i ob b C g2 h2
     ·by_cases h:base≤i∧i<base+ic.length
      ·exact .inr h
      ·rw[PZ i h]at hi;exact .inl hi
   ·cases hf
  ·cases hf
 ·cases hf
theorem PJ(hf:dop P h base L o.op hs=some r)(dX:d_ r.ic)(hF:∀t,AR w M φ (L t) (a.tmps.getD t undef))(hW:Wd Γ φ M hD w)(gC:∀id ob,h id=some ob→hD id=some ob)
  (tY:∀id,base≤id→id<base+r.news.length→φ id=none∧hD id=none) {K:Act→World→Prop}
  (hK:∀v w' φ' M',AR w' M' φ' r.v v→Wd Γ φ' M' (VQ hD base r.news) w'→Ex w M φ w' M' φ'→(∀id,φ' id≠none→φ id≠none∨(base≤id∧id<base+r.news.length))→K (a.put o.dst v) w'):o.wp P a w K NQ:=by
 unfold dop at hf;split at hf
 ·rename_i r0 h1;cases hf;obtain⟨v,w',φ',ec,hr,sN,hp,hn,hb⟩:=KR h1 dX trivial hF hW gC tY;unfold Oper.wp;rw[ec];exact hK v w' φ' M hr sN ⟨hb,fun _ h=>h,hp⟩ hn
 ·split at hf
  ·rename_i c hc;split at hf
   ·rename_i r1 hf1;cases hf;obtain⟨hn,-⟩:=I2 (K:=fun _ _=>True) hc hf1 dX hF hW gC (fun _ _ _ _ _ _=>trivial)
    refine(I2 hc hf1 dX hF hW gC fun v w' M' hr sN he=>?_).2
    exact hK v w' φ M' hr (by rw[hn,yG];exact sN) he fun _ h=>.inl h
   ·exact Ud hc hf dX hF hW tY hK
  ·cases hf
end
end
section
open Go.RowKit
section
variable {P : Program} {Γ : bn} {φ φ' : Pl} {M M' : Nat → Prop} {h : Nat → Option Ob} {w w' : World} {a : Act} {hs : List Hint} {o : Oper} {H : List (Option Ob)} {L : List (Nat × AV)}
theorem w3{α:Type}{l vs:List α}{p:Nat}(hp:p+vs.length≤l.length)(k:Nat):(l.take p++vs++l.drop (p+vs.length))[k]?=if k<p then l[k]? else if k<p+vs.length then vs[k-p]? else l[k]?:=by
 by_cases h1:k<p
 ·rw[if_pos h1,List.append_assoc,List.getElem?_append_left (by simp;omega),List.getElem?_take,if_pos h1]
 ·rw[if_neg h1];by_cases h2:k<p+vs.length
  ·rw[if_pos h2,List.getElem?_append_left (by simp;omega),List.getElem?_append_right (by simp;omega)]
   congr 1;simp;omega
  ·rw[if_neg h2,List.getElem?_append_right (by simp;omega),List.getElem?_drop]
   congr 1;simp;omega
theorem BB{id:Nat}{x:Option Ob}{i:Nat}(sR:i≠id):hl (H.set id x) i=hl H i:=by
 unfold hl;rw[List.getElem?_set_ne (Ne.symm sR)]
theorem nP{id:Nat}{ob:Ob}(e:hl H id=some ob):id<H.length:=by
 unfold hl at e;rcases Nat.lt_or_ge id H.length with h|h
 ·exact h
 ·rw[List.getElem?_eq_none h]at e;cases e
theorem xa{id:Nat}{x:Option Ob}(mj:id<H.length):hl (H.set id x) id=x:=by
 unfold hl;rw[List.getElem?_set_self mj];rfl
theorem WL{id:Nat}{ob:Ob}(mj:id<H.length):hl (H.set id (some ob))=fun i=>if i=id then some ob else hl H i:=by
 funext i
 by_cases hi:i=id
 ·subst hi;rw[if_pos rfl,xa mj]
 ·rw[if_neg hi,BB hi]
theorem WN{x:Option Ob}:hl (H++[x])=fun i=>if i=H.length then x else hl H i:=by
 funext i
 unfold hl;by_cases hi:i=H.length
 ·subst hi;rw[if_pos rfl,List.getElem?_append_right (Nat.le_refl _)];simp
 ·rw[if_neg hi];rcases Nat.lt_or_ge i H.length with h|h
  ·rw[List.getElem?_append_left h]
  ·rw[List.getElem?_eq_none (by simp;omega),List.getElem?_eq_none h]
theorem Wd.write(hW:Wd Γ φ M h w){id:Nat}{ob CK:Ob}{b C:Nat}{cur new:Array Value}(hh:h id=some ob)(hφ:φ id=some (some (b,C)))(QdM:w.heap[b]?=some (.cells cur ob.Mi (0,0)))(hO:OR (w.setRow b new) M φ id CK):
  Wd Γ φ M (fun i=>if i=id then some CK else h i) (w.setRow b new)∧Ex w M φ (w.setRow b new) M φ:=by
 obtain⟨hm,mj,YY⟩:=hW.own id ob b C hh hφ;exact⟨hW.QjH hh hφ (fun k hk=>setRow_other w b k new hk) (by simp) rfl rfl rfl hO,fun c hc=>setRow_other w b c new fun e=>hm (e▸hc),fun _ h=>h,fun _ _ h=>h⟩
theorem Wd.move(hW:Wd Γ φ M h w){id Z5:Nat}{ob:Ob}{p:Option (Nat×Nat)}(hh:h id=some ob)(hφ:φ id=some p)(hφ':φ Z5=none)(hh':h Z5=none):Wd Γ (K9 φ Z5 p) M (fun i=>if i=Z5 then some ob else if i=id then none else h i) w:=by
 have sR:id≠Z5:=fun e=>by subst e;rw[hh]at hh';cases hh'
 have he:Ex w M φ w M (K9 φ Z5 p):=⟨fun _ _=>rfl,fun _ h=>h,wa _ hφ'⟩
 have key:∀i o,(fun i=>if i=Z5 then some ob else if i=id then none else h i) i=some o→(i=Z5∧o=ob)∨(i≠Z5∧i≠id∧h i=some o):=fun i o e=>by
  by_cases h1:i=Z5
  ·simp only[if_pos h1]at e;exact .inl ⟨h1,(Option.some.inj e).symm⟩
  ·simp only[if_neg h1]at e;by_cases h2:i=id
   ·rw[if_pos h2]at e;cases e
   ·rw[if_neg h2]at e;exact .inr ⟨h1,h2,e⟩
 refine⟨fun i o e=>?_,fun i j oi oj b Ci Cj hi hj pi pj=>?_,hW.mlt,hW.m0,hW.OE,fun i o b C e q=>?_,hW.MH,hW.os,hW.tape,hW.output,hW.size,fun q hq=>he.pl _ _ (hW.IN q hq)⟩
 ·rcases key i o e with⟨rfl,rfl⟩|⟨h1,h2,h3⟩
  ·refine((hW.ic id o hh).mono he fun _ _ _=>rfl).ren ?_
   rw[fB,tg _ sR,hφ]
  ·exact(hW.ic i o h3).mono he fun _ _ _=>rfl
 ·rcases key i oi hi with⟨rfl,rfl⟩|⟨h1,h2,h3⟩ <;> rcases key j oj hj with⟨rfl,rfl⟩|⟨g1,g2,g3⟩
  ·rfl
  ·rw[fB]at pi;rw[tg _ g1]at pj;cases pi;exact absurd (hW.inj id j _ oj b Ci Cj hh g3 hφ pj).symm g2
  ·rw[fB]at pj;rw[tg _ h1]at pi;cases pj;exact absurd (hW.inj i id oi _ b Ci Cj h3 hh pi hφ) h2
  ·rw[tg _ h1]at pi;rw[tg _ g1]at pj;exact hW.inj i j oi oj b Ci Cj h3 g3 pi pj
 ·rcases key i o e with⟨rfl,rfl⟩|⟨h1,h2,h3⟩
  ·rw[fB]at q;cases q;exact hW.own id o b C hh hφ
  ·rw[tg _ h1]at q;exact hW.own i o b C h3 q
def Md(Γ:bn)(φ:Pl)(M:Nat→Prop)(w:World)(r:Mes)(v:Value)(w':World):Prop:=
 ∃φ',AR w' M φ' r.v v∧Wd Γ φ' M (hl r.H) w'∧Ex w M φ w' M φ'∧(∀id,r.H.length≤id→φ' id=none)
theorem DO{t:TypeId}{n b p:Nat}{e:TypeId}{v:Value}{cur:Array Value}(ht:KI P t=some n)(hn:v.cells.size=n)(hg:w.heap[b]?=some (.cells cur e (0,0)))(Rx:p+n≤cur.size)(h1:∀u∈v.cells.toList,u.oneCell'=true):
  (storeVar t ⟨b,p,none⟩ v).run P w=.ok () (w.setRow b (cur.toList.take p++v.cells.toList++cur.toList.drop (p+v.cells.toList.length)).toArray):=by
 obtain⟨i,hi,nQ⟩:=ra ht;have nr:=run_storeCells_at P b p e v.cells.toList 0 cur w hg (by rw[Array.length_toList,hn];omega) h1
 simp only[Nat.add_zero]at nr;simp only[storeVar,Sem.run_bind,run_sizeOf hi,Result.andThen_ok,hn,nQ];rw[if_neg (by simp)]
 exact nr
theorem ZN{r:Mes}(hW:Wd Γ φ M (hl H) w)(hF: ∀t,AR w M φ (look L t) (a.tmps.getD t undef))(hφ: ∀id,H.length≤id→φ id = none){t:TypeId}{x y:Operand}(ho:o.op = .store t x y)(hf:mop P H (look L) o.op hs = some r)(dX:d_ r.ic):
    ∃w',(execOp a.eval o).run P w = .ok .skip w'∧Md Γ φ M w r undef w':= by
  rw[ho]at hf;simp only[mop]at hf;split at hf
  · rename_i id sz row off o1 c o2 n h1 h2 ht;split at hf
    · rename_i ob hid;cases hc:(ob.sz == sz && n == c.cells.length)with
      |false => rw[hc]at hf;cases hf
      | true =>
        rw[hc]at hf;simp only[cond_true]at hf;simp only[Bool.and_eq_true,beq_iff_eq]at hc;obtain⟨nQ,hn⟩:= hc;have mj:= nP hid;have hO:= hW.ic id ob hid
        -- V7 Ws part, for Qhv V7 new rows are
        have go:(ob.box = false∨∃c,ob.rows = [c])→d_ o1→d_ o2→∀R:List (List Lf),(∀{b C:Nat} {cur:Array Value} {w':World},φ id = some (some (b,C))→w.heap[b]? = some (.cells cur ob.Mi (0,0))→cur.size = C * ob.sz→ob.rows.length≤C→
              (∀i c,ob.rows[i]? = some c→c.length = ob.sz∧∀j l,c[j]? = some l→∃v,cur[i * ob.sz + j]? = some v∧(if ob.box then LR w M φ l v else IR w M l v))→Rs (LR w M φ) c.cells (a.eval y).cells.toList→Ex w M φ w' M φ→
              row * sz + off + n≤cur.size∧R.length≤C∧∀(i:Nat) (d:List Lf),R[i]? = some d→d.length = ob.sz∧∀(j:Nat) (l:Lf),d[j]? = some l→∃v,(cur.toList.take (row * sz + off) ++(a.eval y).cells.toList ++ cur.toList.drop (row * sz + off +(a.eval y).cells.toList.length))[i * ob.sz + j]? = some v∧(if ob.box then LR w' M φ l v else IR w' M l v))→
            ∃w',(execOp a.eval o).run P w = .ok .skip w'∧∃φ',Wd Γ φ' M (hl (H.set id (some {ob with rows:= R}))) w'∧Ex w M φ w' M φ'∧(∀id,H.length≤id→φ' id = none):= by
          intro hoc p1 p2 R key;obtain⟨b,C,Jm,hv⟩:zH w M φ (.op id sz row off) (a.eval x):= da hF h1 p1 trivial;have hy:=(da hF h2 p2 trivial).cells;obtain⟨h0,hO'⟩:= hO.oc hoc;rw[Jm]at hO';obtain⟨cur,g1,g2,g3,g4,g5,g6⟩:= hO';obtain⟨hm,Qpy,YY⟩:= hW.own id ob b C hid Jm;have IM:(a.eval y).cells.size = n:= by rw[←Array.length_toList,←hy.len,hn]
          have hex: ∀new,Ex w M φ (w.setRow b new) M φ:= fun new =>⟨fun c hc => setRow_other w b c new fun e => hm (e▸hc),fun _ h => h,fun _ _ h => h⟩
          obtain⟨Rx,hRC,PV⟩:= key Jm g1 g2 g3 g6 hy (hex (cur.toList.take (row * sz + off) ++(a.eval y).cells.toList ++ cur.toList.drop (row * sz + off +(a.eval y).cells.toList.length)).toArray);have ec:= DO (P:= P) ht IM g1 Rx (Rs.Td hy);refine⟨w.setRow b (cur.toList.take (row * sz + off) ++(a.eval y).cells.toList ++ cur.toList.drop (row * sz + off +(a.eval y).cells.toList.length)).toArray,by simp only[execOp,ho,hv,Instr.storeAt,Instr.sureAddr,Sem.run_bind,Sem.run_pure,Result.andThen_ok,ec],φ, ?_⟩
          have hO2:OR (w.setRow b (cur.toList.take (row * sz + off) ++(a.eval y).cells.toList ++ cur.toList.drop (row * sz + off +(a.eval y).cells.toList.length)).toArray) M φ id {ob with rows:= R}:= by
            refine .inl ⟨h0, ?_⟩;rw[Jm];refine⟨_,setRow_heap w b cur _ ob.Mi (0,0) g1, ?_,hRC,g4,g5,fun i c hc =>⟨(PV i c hc).1,fun j l hj => ?_⟩⟩
            · rw[←g2];simp;omega
            · obtain⟨v,hv,hr⟩:=(PV i c hc).2 j l hj;exact⟨v,by rw[List.getElem?_toArray];exact hv,hr⟩
          obtain⟨q1,q2⟩:= hW.write hid Jm g1 hO2;rw[WL mj];exact⟨q1,q2,hφ⟩
        split at hf
        · rename_i tS mC;rename_i cells;cases IL:(row == 0 && Nat.ble (off + n) cells.length)with
          |false => rw[IL]at hf;cases hf
          | true =>
            rw[IL]at hf;cases hf;simp only[Bool.and_eq_true,beq_iff_eq,Nat.ble_eq]at IL;obtain⟨rfl,Rx⟩:= IL;simp only[bC]at dX;obtain⟨w',ec,φ',q1,q2,q3⟩:= go (.inr ⟨_,mC⟩) dX.1 dX.2 [cells.take off ++ c.cells ++ cells.drop (off + n)] (fun{b C cur w'} Jm g1 g2 g3 g6 hy hex => by
              have IM:cells.length = ob.sz:=(g6 0 cells (by rw[mC];rfl)).1
              have hC:1≤C:= by rw[mC]at g3;simpa using g3
              have hle:ob.sz≤cur.size:= by rw[g2];exact Nat.le_mul_of_pos_left _ hC
              have hvl:= hy.len;have Qf3:cur.toList.length = cur.size:= Array.length_toList;refine⟨by rw[Nat.zero_mul];omega,by simpa using hC,fun i d hd => ?_⟩
              cases i with
              |succ i => simp at hd
              | zero =>
                obtain rfl:= Option.some.inj (show some _ = some d from hd);refine⟨by simp;omega,fun j l hj => ?_⟩
                have h3:= w3 (l:= cells) (vs:= c.cells) (p:= off) (by omega) j
                rw[hn]at hj;rw[h3]at hj;rw[Nat.zero_mul,Nat.zero_add,Nat.zero_mul,Nat.zero_add,w3 (by omega)]
                have Z7: ∀l,cells[j]? = some l→∃v,cur.toList[j]? = some v∧(if ob.box = true then LR w' M φ l v else IR w' M l v):= fun l hl => by
                  obtain⟨v,hv,hr⟩:=(g6 0 cells (by rw[mC];rfl)).2 j l hl
                  rw[Nat.zero_mul,Nat.zero_add]at hv;rw[if_pos tS]at hr;exact⟨v,by simpa using hv,by rw[if_pos tS];exact hr.mono hex⟩
                by_cases j1:j < off
                · rw[if_pos j1]at hj ⊢;exact Z7 l hj
                · rw[if_neg j1]at hj ⊢;by_cases j2:j < off + c.cells.length
                  · rw[if_pos j2]at hj;rw[if_pos (by omega)]
                    obtain⟨v,hv,hr⟩:= hy.get hj;exact⟨v,hv,by rw[if_pos tS];exact hr.mono hex⟩
                  · rw[if_neg j2]at hj;rw[if_neg (by omega)]
                    exact Z7 l hj)
            exact⟨w',ec,φ',trivial,q1,q2,fun id hid => q3 id (by simpa using hid)⟩
        · rename_i Z7 R jC tS;cases IL:(Nat.ble (off + n) Z7.length && c.cells.all S3)with
          |false => rw[IL]at hf;cases hf
          | true =>
            rw[IL]at hf;cases hf;simp only[Bool.and_eq_true,Nat.ble_eq]at IL;obtain⟨Rx,Qf9⟩:= IL;simp only[bC,d_]at dX;obtain⟨⟨p1,p2⟩,FV,hR, -⟩:= dX;obtain⟨w',ec,φ',q1,q2,q3⟩:= go (.inl tS) p1 p2 R (fun{b C cur w'} Jm g1 g2 g3 g6 hy hex => by
              have hol:Z7.length = ob.sz:=(g6 row Z7 FV).1;have Qqo:=(List.getElem?_eq_some_iff.1 FV).1;have hle:(row + 1) * ob.sz≤cur.size:= by rw[g2];exact Nat.mul_le_mul_right _ (by omega)
              rw[Nat.add_mul,Nat.one_mul]at hle;have hvl:= hy.len;have Qf3:cur.toList.length = cur.size:= Array.length_toList;subst nQ;refine⟨by omega,by rw[←hR];simpa using g3,fun i d hd => ?_⟩
              have Qjd: ∀i (d:List Lf) j l,ob.rows[i]? = some d→d[j]? = some l→∃v,cur.toList[i * ob.sz + j]? = some v∧(if ob.box = true then LR w' M φ l v else IR w' M l v):= fun i d j l hd hl => by
                obtain⟨v,hv,hr⟩:=(g6 i d hd).2 j l hl;rw[tS]at hr;exact⟨v,by simpa using hv,by rw[tS];exact IR.mono hex.blk hex.sub (by simpa using hr)⟩
              by_cases hi:i = row
              · subst hi;rw[←hR,List.getElem?_set_self Qqo]at hd;obtain rfl:= Option.some.inj hd;refine⟨by simp;omega,fun j l hj => ?_⟩
                rw[hn,w3 (by omega)]at hj
                rw[w3 (by omega)]
                by_cases j1:j < off
                · rw[if_pos j1]at hj;rw[if_pos (by omega)];exact Qjd i Z7 j l FV hj
                · rw[if_neg j1]at hj;rw[if_neg (by omega)]
                  by_cases j2:j < off + c.cells.length
                  · rw[if_pos j2]at hj;rw[if_pos (by omega)]
                    obtain⟨v,hv,hr⟩:= hy.get hj;refine⟨v,by rw[show i * ob.sz + j - (i * ob.sz + off) = j - off by omega];exact hv, ?_⟩
                    rw[tS];exact IR.mono hex.blk hex.sub (LR.S2 (List.all_eq_true.1 Qf9 l (List.mem_of_getElem? hj)) hr)
                  · rw[if_neg j2]at hj;rw[if_neg (by omega)];exact Qjd i Z7 j l FV hj
              · rw[←hR,List.getElem?_set_ne (Ne.symm hi)]at hd;have hdl:=(g6 i d hd).1;refine⟨hdl,fun j l hj => ?_⟩
                have hjl:=(List.getElem?_eq_some_iff.1 hj).1;rw[w3 (by omega)]
                rcases Nat.lt_or_ge i row with h5 |h5
                · have:(i + 1) * ob.sz≤row * ob.sz:= Nat.mul_le_mul_right _ h5;rw[Nat.add_mul,Nat.one_mul]at this;rw[if_pos (by omega)];exact Qjd i d j l hd hj
                · have:(row + 1) * ob.sz≤i * ob.sz:= Nat.mul_le_mul_right _ (by omega)
                  rw[Nat.add_mul,Nat.one_mul]at this;rw[if_neg (by omega),if_neg (by omega)];exact Qjd i d j l hd hj)
            exact⟨w',ec,φ',trivial,q1,q2,fun id hid => q3 id (by simpa using hid)⟩
        · cases hf
    · cases hf
  · cases hf
end
end
section
open Go.RowKit
section
variable {P : Program} {Γ : bn} {φ φ' : Pl} {M M' : Nat → Prop} {h : Nat → Option Ob} {w w' : World} {a : Act} {hs : List Hint} {o : Oper} {H : List (Option Ob)} {L : List (Nat × AV)}
theorem LQ{t tx ty e:TypeId}{i:TypeInfo}{b n C k:Nat}{cur:Array Value}{x:Value}{news:List Value}(ht:P.underlying t=some (.slice e))(hi:P.info? e=some i)(hs:Src P i.size tx x k news w)(Qco:n+k≤C)
  (hg:w.heap[b]?=some (.cells cur e (0,0))) (Rx:n*i.size+news.length≤cur.size):
  (Builtin.append_ #[t,tx] ty #[.slice (some ⟨b,0,none⟩) n C,x]).run P w=.ok (.slice (some ⟨b,0,none⟩) (n+k) C) (w.setRow b (cur.toList.take (n*i.size)++news++cur.toList.drop (n*i.size+news.length)).toArray):=by
 have nr:=run_storeCells_at P b (n*i.size) e news 0 cur w hg (by simpa using Rx) hs.one
 simp only[Nat.add_zero]at nr;rcases hs.kind with⟨e',hk⟩|hk <;> simp [Builtin.append_,run_underlying ht,run_underlying hk,sizeOf,typeInfo,hi,hs.len,Qco,hs.cells,Addr.add_lit,nr]
def Wo(Γ:bn)(φ:Pl)(M:Nat→Prop)(hD:Nat→Option Ob)(base:Nat)(w:World)(r:Wr)(v:Value)(w':World):Prop:=
 ∃φ' M',AR w' M' φ' r.v v∧Wd Γ φ' M' (VQ (QM hD r.Ar) base r.news) w'∧Ex w M φ w' M' φ'∧(∀id,φ' id≠none→φ id≠none∨(base≤id∧id<base+r.news.length))
theorem Qhq{id i:Nat}{p:Option (Nat×Nat)}(h:K9 φ id p i≠none):φ i≠none∨i=id:=by
 by_cases hi:i=id
 ·exact .inr hi
 ·rw[tg _ hi]at h;exact .inl h
theorem Tn{hD:Nat→Option Ob}{id base:Nat}{ob:Ob}:VQ (QM hD [(id,none)]) base [ob]=fun i=>if i=base then some ob else if i=id then none else hD i:=by
 rw[Xc]
 funext i
 by_cases h:i=base
 ·rw[if_pos h,if_pos h]
 ·rw[if_neg h,if_neg h];unfold QM;simp only[tk];by_cases h2:i=id
  ·subst h2;simp
  ·have:(id == i)=false:=by simpa using fun e:id=i=>h2 e.symm
   rw[if_neg h2,this];rfl
theorem Ze{id:Nat}{ob:Ob}{b C:Nat}{cur:Array Value}(tS:ob.box=false)(QdM:w.heap[b]?=some (.cells cur ob.Mi (0,0)))
  (g6:∀i c,ob.rows[i]?=some c→c.length=ob.sz∧∀j l,c[j]?=some l→∃v,cur[i*ob.sz+j]?=some v∧(if ob.box then LR w M φ l v else IR w M l v)):
  ∃ri,Rs (IR w M) ob.rows.flatten ri∧w.rangeAt b 0 ri∧ri.length=ob.rows.length*ob.sz:=by
 obtain⟨ri,h1,h2⟩:=uU (w:=w) (R:=IR w M) (b:=b) (sz:=ob.sz) ob.rows 0 (fun i c hc=>(g6 i c hc).1) fun i c j l hc hj=>by
  obtain⟨v,hv,hr⟩:=(g6 i c hc).2 j l hj;rw[tS]at hr;exact⟨v,by simp only[World.cell?,QdM,Nat.zero_add];simpa using hv,by simpa using hr⟩
 exact⟨ri,h1,h2,by rw[←h1.len,uG (mem_row fun i c hc=>(g6 i c hc).1)]⟩
theorem UF{hD:Nat→Option Ob}{L:Nat→AV}{base:Nat}{r:Wr}(hW:Wd Γ φ M hD w)(gC:∀id ob,h id=some ob→hD id=some ob)(hF:∀t,AR w M φ (L t) (a.tmps.getD t undef))(tY:∀id,base≤id→id<base+r.news.length→φ id=none∧hD id=none){c:Call}(ho:o.op=.call c)(hc:c.callee=.builtin .append)(hf:Sc P h base L c hs=some r)(dX:d_ r.ic):
  ∃v w',(execOp a.eval o).run P w=.ok (.value v) w'∧Wo Γ φ M hD base w r v w':=by
 unfold Sc at hf;split at hf
 ·rename_i id sz off len x o1 t t' R jC Hl Qgp;split at hf
  ·rename_i e ob Z8 new o2 he hid hro;split at hf
   ·rename_i i z hi hz;generalize hcc:(t == t'&&off == 0&&sz == i.size&&ob.sz == sz&&!ob.box&&ob.Mi == e&&(Z8 == sz||new.isEmpty)&&!Xq id x)=cc at hf;cases cc with
    |false=>cases hf
    |true =>
     cases hf;simp only[Bool.and_eq_true,beq_iff_eq,Bool.or_eq_true,Bool.not_eq_true',List.isEmpty_iff]at hcc;obtain⟨⟨⟨⟨⟨⟨⟨rfl,rfl⟩,rfl⟩,nQ⟩,tS⟩,rfl⟩,Lc⟩,Qqy⟩:=hcc;simp only[bC,d_]at dX;obtain⟨⟨p1,p2⟩,hlen,hR,hby,Vg,-⟩:=dX;have ht:=mf he;obtain⟨i2,zv,hi2,hzv,Ur,h0,Pv,hzl⟩:=w6 (w:=w) (M:=M) (φ:=φ) hz;obtain rfl:i=i2:=by rw[hi]at hi2;exact Option.some.inj hi2
     have hA:=xy hF trivial Hl p1;obtain⟨vd,vx,hvs,hd,hx⟩:=hA.UM;obtain⟨cn,ec⟩:=Ki (P:=P) (w:=w) (a:=a) ho hc;have QaI:c.args.map a.eval=#[vd,vx]:=by apply Array.ext';simp [←hvs]
     have Qgq:c.argTypes=#[t,t]:=by apply Array.ext';simp [Qgp]
     rw[QaI,Qgq]at ec;have Jl:∀v w',(Builtin.append_ #[t,t] o.type #[vd,vx]).run P w=.ok v w'→(execOp a.eval o).run P w=.ok (.value v) w':=fun v w' hh=>by
      rw[ec];simp only[builtin,Sem.run_bind,hh];rfl
     obtain⟨news,HI,hnr,hnl⟩:=Qx (size:=i.size) hW gC ht hro p2 Lc (hx:LR w M φ x vx) (fun _ _ _ _ _ _ _ _ _ _ _ _ _ h=>h)
     replace hid:=gC _ _ hid;have hO:=hW.ic id ob hid;have Un:R.length=len+new.length:=by rw[←hR,List.length_append,hlen]
     obtain⟨Up,hh'⟩:=tY base (Nat.le_refl _) (by simp)
     have sR:id≠base:=fun e=>by rw[e,hh']at hid;cases hid
     have Oh:∀(p:Option (Nat×Nat)) (k:Nat),K9 φ base p k≠none→φ k≠none∨(base≤k∧k<base+1):=fun p k hk=>by
      rcases Qhq hk with h|rfl
      ·exact .inl h
      ·exact .inr ⟨Nat.le_refl _,by omega⟩
     rcases(hd:zH w M φ (.os id i.size 0 len) vd)with⟨b,C,Jm,rfl,hle⟩|⟨Jm,_,rfl,A,rfl⟩
     ·obtain⟨Z4,hO'⟩:=hO.oc (.inl tS);rw[Jm]at hO';obtain⟨cur,g1,g2,g3,g4,g5,g6⟩:=hO';obtain⟨ri,q1,q2,q3⟩:=Ze (id:=id) (C:=C) tS g1 g6;have WQ:∀(i:Nat) (c:List Lf),ob.rows[i]?=some c→c.length=ob.sz:=fun i c hc=>(g6 i c hc).1
      rw[Nat.zero_mul,Nat.sub_zero]at Jl;have hRr:∀(j:Nat) (c:List Lf),R[j]?=some c→c.length=i.size:=fun j c hj=>by
       rw[←hR]at hj;rcases Nat.lt_or_ge j ob.rows.length with h|h
       ·rw[List.getElem?_append_left h]at hj;rw[←nQ];exact WQ j c hj
       ·rw[List.getElem?_append_right h]at hj;exact hnl _ c hj
      by_cases Qco:len+new.length≤C
      ·have Rx:len*i.size+news.length≤cur.size:=by rw[HI.newsLen,g2,nQ,←Nat.add_mul];exact Nat.mul_le_mul_right _ Qco
       have Rw:=LQ (P:=P) (ty:=o.type) ht hi HI Qco g1 Rx;have hex:Ex w M φ (w.setRow b (cur.toList.take (len*i.size)++news++cur.toList.drop (len*i.size+news.length)).toArray) M φ:=by
        obtain⟨hm,_,_⟩:=hW.own id ob b C hid Jm;exact⟨fun c hc=>setRow_other w b c _ fun e=>hm (e▸hc),fun _ h=>h,fun _ _ h=>h⟩
       have Qgo:cur.toList.take (len*i.size)=ri:=by
        apply List.ext_getElem?;intro k;rw[List.getElem?_take];have hol:ri.length=len*i.size:=by rw[q3,hlen,nQ]
        by_cases hk:k<len*i.size
        ·rw[if_pos hk];have:=q2 k _ (List.getElem?_eq_getElem (show k<ri.length by omega))
         simp only[World.cell?,g1,Nat.zero_add]at this;rw[List.getElem?_eq_getElem (show k<ri.length by omega)]
         simpa using this
        ·rw[if_neg hk,List.getElem?_eq_none (by omega)]
       have hO2:OR (w.setRow b (cur.toList.take (len*i.size)++news++cur.toList.drop (len*i.size+news.length)).toArray) M φ id ⟨false,i.size,ob.Mi,R⟩:=by
        refine Qab (vs:=ri++news) (rest:=cur.toList.drop (len*i.size+news.length)) Jm ?_ h0 ?_ (by omega) g4 hRr ?_
        ·rw[Qgo] ;exact setRow_heap w b cur _ ob.Mi (0,0) g1
        ·have h1:ri.length=len*i.size:=by rw[q3,hlen,nQ]
         have h2:cur.size=C*i.size:=by rw[g2,nQ]
         simp;omega
        ·rw[←hR,List.flatten_append];exact(q1.append hnr).mono fun _ _ h=>h.mono hex.blk hex.sub
       obtain⟨w1,w2⟩:=hW.write hid Jm g1 hO2;have hmv:=w1.move (id:=id) (Z5:=base) (ob:=⟨false,i.size,ob.Mi,R⟩) (p:=some (b,C)) (if_pos rfl) Jm Up (by rw[if_neg (Ne.symm sR)];exact hh')
       refine⟨_,_,Jl _ _ Rw,K9 φ base (some (b,C)),M,?_,?_,⟨w2.blk,w2.sub,wa _ Up⟩,Oh _⟩
       ·exact .inl ⟨b,C,fB _ _ _,by rw[Un];simp,by omega⟩
       ·refine hmv.less fun k CK hk=>?_
        rw[Tn]at hk;dsimp only at hk ⊢;by_cases h1:k=base
        ·rw[if_pos h1]at hk ⊢;exact hk
        ·rw[if_neg h1]at hk ⊢;by_cases h2:k=id
         ·rw[if_pos h2]at hk;cases hk
         ·rw[if_neg h2]at hk;rw[if_neg h2];simpa only[if_neg h2]using hk
      ·have hold:(Builtin.firstCells i.size len (.slice (some ⟨b,0,none⟩) len C)).run P w.drew=.ok ri.toArray w.drew:=
        run_firstCells_some w.drew i.size len ⟨b,0,none⟩ len C ri (by rw[q3,hlen,nQ]) (fun j v hj=>by rw[Addr.add_mid];exact q2 j v hj)
       obtain⟨C',w',Rw,hb,Qgd,QpZ,hO2⟩:=PT (id:=base) (rows:=R) (ty:=o.type) hW ht hi hzv Ur h0 hold HI (by omega) (by omega) (by rw[←Un];exact hby) (by rw[q3,hlen,nQ]) Un hRr (by rw[←hR,List.flatten_append];exact q1.append hnr) Up
       have hN:=hW.new (⟨false,i.size,ob.Mi,R⟩:Ob) Up hh' hb (Nat.le_refl _) Qgd hO2;refine⟨_,_,Jl _ _ Rw,K9 φ base (some (w.heap.size,C')),M,?_,?_,⟨fun c hc=>hb.block c (hW.mlt c hc),fun _ h=>h,wa _ Up⟩,Oh _⟩
       ·exact .inl ⟨w.heap.size,C',fB _ _ _,by rw[Un];simp,by omega⟩
       ·refine hN.less fun k CK hk=>?_
        rw[Tn]at hk;dsimp only at hk ⊢;by_cases h1:k=base
        ·rw[if_pos h1]at hk ⊢;exact hk
        ·rw[if_neg h1]at hk ⊢;by_cases h2:k=id
         ·rw[if_pos h2]at hk;cases hk
         ·rw[if_neg h2]at hk;exact hk
     ·have Ld:ob.rows=[]:=List.eq_nil_of_length_eq_zero hlen;have Qkf:∀(p:Option (Nat×Nat)) (w':World),Wd Γ (K9 φ base p) M (fun k=>if k=base then some ⟨false,i.size,ob.Mi,R⟩else hD k) w'→Wd Γ (K9 φ base p) M (VQ (QM hD [(id,none)]) base [⟨false,i.size,ob.Mi,R⟩]) w':=fun p w' hN=>by
       refine hN.less fun k CK hk=>?_
       rw[Tn]at hk;dsimp only at hk ⊢;by_cases h1:k=base
       ·rw[if_pos h1]at hk ⊢;exact hk
       ·rw[if_neg h1]at hk ⊢;by_cases h2:k=id
        ·rw[if_pos h2]at hk;cases hk
        ·rw[if_neg h2]at hk;exact hk
      by_cases Hm:new.length=0
      ·have QnC:new=[]:=List.eq_nil_of_length_eq_zero Hm;have YT:R=[]:=by rw[←hR,Ld,QnC];rfl
       rw[Hm]at HI;have Rw:=Hw (P:=P) (ty:=o.type) (A:=A) (n:=0) (c:=0) ht hi HI (Nat.le_refl _);refine⟨_,_,Jl _ _ Rw,K9 φ base none,M,?_,Qkf none w (hW.MV (⟨false,i.size,ob.Mi,R⟩:Ob) Up hh' YT rfl h0),⟨fun _ _=>rfl,fun _ h=>h,wa _ Up⟩,Oh none⟩
       exact .inr ⟨fB _ _ _,rfl,by rw[YT];rfl,A,rfl⟩
      ·have hold:(Builtin.firstCells i.size 0 (.slice A 0 0)).run P w.drew=.ok ([]:List Value).toArray w.drew:=by cases A <;> simp [Builtin.firstCells,loadCells,loadCellsFrom]
       obtain⟨C',w',Rw,hb,Qgd,QpZ,hO2⟩:=PT (id:=base) (rows:=R) (ty:=o.type) hW ht hi hzv Ur h0 hold HI (by omega) (by omega) (by rw[←Un];exact hby) (by simp) Un (fun j c hj=>by rw[←hR,Ld]at hj;exact hnl j c (by simpa using hj)) (by rw[←hR,Ld];simpa using hnr) Up
       refine⟨_,_,Jl _ _ Rw,K9 φ base (some (w.heap.size,C')),M,?_,Qkf _ w' (hW.new (⟨false,i.size,ob.Mi,R⟩:Ob) Up hh' hb (Nat.le_refl _) Qgd hO2),⟨fun c hc=>hb.block c (hW.mlt c hc),fun _ h=>h,wa _ Up⟩,Oh _⟩
       exact .inl ⟨w.heap.size,C',fB _ _ _,by rw[Un];simp,by omega⟩
   ·cases hf
  ·cases hf
 ·cases hf
theorem Xp{t ty e et:TypeId}{i:TypeInfo}{b len C k cap n:Nat}{A:Option Addr}{cur:Array Value}{cs:List Value}(ht:P.underlying t=some (.slice e))(hi:P.info? e=some i)(hg:w.heap[b]?=some (.cells cur et (0,0)))(hn:Nat.min k len=n)
  (HI:(Builtin.firstCells i.size n (.slice A k cap)).run P w=.ok cs.toArray w) (Rx:cs.length≤cur.size) (h1:∀u∈cs,u.oneCell'=true):
  (Builtin.copy_ #[t,t] ty #[.slice (some ⟨b,0,none⟩) len C,.slice A k cap]).run P w=.ok (goInt n) (w.setRow b (cs++cur.toList.drop cs.length).toArray):=by
 have nr:=run_storeCells_at P b 0 et cs 0 cur w hg (by simpa using Rx) h1
 simp only[Nat.add_zero,List.take_zero,List.nil_append,Nat.zero_add]at nr;simp [Builtin.copy_,run_underlying ht,Builtin.lenOf,sizeOf,typeInfo,hi,hn,HI,nr]
theorem Pc{t ty e:TypeId}{i:TypeInfo}{k cap:Nat}{A B:Option Addr}(ht:P.underlying t=some (.slice e))(hi:P.info? e=some i):
  (Builtin.copy_ #[t,t] ty #[.slice B 0 0,.slice A k cap]).run P w=.ok (goInt 0) w:=by
 have hm:Nat.min k 0=0:=Nat.min_zero k;have hf:(Builtin.firstCells i.size 0 (.slice A k cap)).run P w=.ok #[] w:=by cases A <;> simp [Builtin.firstCells,loadCells,loadCellsFrom]
 cases B <;> simp [Builtin.copy_,run_underlying ht,Builtin.lenOf,sizeOf,typeInfo,hi,hm,hf,storeCells]
theorem N8{α:Type}{sz:Nat}:∀{rows:List (List α)} (n:Nat),(∀c∈rows,c.length=sz)→(rows.take n).flatten=rows.flatten.take (n*sz)
 | [],n,_=>by simp
 |c ::r,0,_=>by simp
 |c ::r,n+1,h=>by
  have hc:=h c (by simp)
  rw[List.take_succ_cons,List.flatten_cons,List.flatten_cons,N8 n (fun d hd=>h d (by simp [hd])),List.take_append,hc,Nat.add_mul,Nat.one_mul,Nat.add_sub_cancel,List.take_of_length_le (show c.length≤n*sz+sz by omega)]
theorem N7{α:Type}{sz:Nat}:∀{rows:List (List α)} (n:Nat),(∀c∈rows,c.length=sz)→(rows.drop n).flatten=rows.flatten.drop (n*sz)
 | [],n,_=>by simp
 |c ::r,0,_=>by simp
 |c ::r,n+1,h=>by
  have hc:=h c (by simp)
  rw[List.drop_succ_cons,List.flatten_cons,N7 n (fun d hd=>h d (by simp [hd])),List.drop_append,hc,Nat.add_mul,Nat.one_mul,Nat.add_sub_cancel,List.drop_of_length_le (show c.length≤n*sz+sz by omega),List.nil_append]
theorem TK{r:Mes}(hW:Wd Γ φ M (hl H) w)(hF:∀t,AR w M φ (look L t) (a.tmps.getD t undef))(hφ:∀id,H.length≤id→φ id=none){c:Call}(ho:o.op=.call c)(hc:c.callee=.builtin .copy)(hf:mop P H (look L) o.op hs=some r)(dX:d_ r.ic):
  ∃v w',(execOp a.eval o).run P w=.ok (.value v) w'∧Md Γ φ M w r v w':=by
 rw[ho]at hf;simp only[mop,hc]at hf;split at hf
 ·rename_i id sz off len x o1 t t' R n jC Hl Qgp;split at hf
  ·rename_i e ob Z8 new o2 he hid hro;split at hf
   ·rename_i i hi;generalize hcc:(t == t'&&off == 0&&sz == i.size&&ob.sz == sz&&!ob.box&&(Z8 == sz||new.isEmpty)&&!Xq id x)=cc at hf;cases cc with
    |false=>cases hf
    |true =>
     cases hf;simp only[Bool.and_eq_true,beq_iff_eq,Bool.or_eq_true,Bool.not_eq_true',List.isEmpty_iff]at hcc;obtain⟨⟨⟨⟨⟨⟨rfl,rfl⟩,rfl⟩,nQ⟩,tS⟩,Lc⟩,Qqy⟩:=hcc;simp only[bC,d_]at dX;obtain⟨⟨p1,p2⟩,hlen,Qge,hR,-⟩:=dX;have ht:=mf he;have hA:=xy hF trivial Hl p1;obtain⟨vd,vx,hvs,hd,hx⟩:=hA.UM;obtain⟨cn,ec⟩:=Ki (P:=P) (w:=w) (a:=a) ho hc;have QaI:c.args.map a.eval=#[vd,vx]:=by apply Array.ext';simp [←hvs]
     have Qgq:c.argTypes=#[t,t]:=by apply Array.ext';simp [Qgp]
     rw[QaI,Qgq]at ec;have Jl:∀v w',(Builtin.copy_ #[t,t] o.type #[vd,vx]).run P w=.ok v w'→(execOp a.eval o).run P w=.ok (.value v) w':=fun v w' hh=>by
      rw[ec];simp only[builtin,Sem.run_bind,hh];rfl
     obtain⟨news,hnr,hnl,A,cap,rfl,had⟩:=Qex (size:=i.size) hW hro p2 Lc (hx:LR w M φ x vx);have mj:=nP hid;have hO:=hW.ic id ob hid;have hO0:=hO;have QaQ:AR w M φ (one (.int .i64 n)) (goInt n):=IR.int _ _;rcases(hd:zH w M φ (.os id i.size 0 len) vd)with⟨b,C,Jm,rfl,hle⟩|⟨Jm,_,rfl,B,rfl⟩
     ·obtain⟨Z4,hO'⟩:=hO.oc (.inl tS);rw[Jm]at hO';obtain⟨cur,g1,g2,g3,g4,g5,g6⟩:=hO';obtain⟨ri,q1,q2,q3⟩:=Ze (id:=id) (C:=C) tS g1 g6;have WQ:∀(i:Nat) (c:List Lf),ob.rows[i]?=some c→c.length=ob.sz:=fun i c hc=>(g6 i c hc).1
      rw[Nat.zero_mul,Nat.sub_zero]at Jl;have hnn:n≤new.length:=by omega
      have WO:n≤ob.rows.length:=by omega
      -- V7 cells QjD are copied
      have Qp9:=uG (mem_row hnl);have QnE:news.length=new.length*i.size:=by rw[←hnr.len,Qp9]
      have IM:(news.take (n*i.size)).length=n*i.size:=by
       rw[List.length_take,QnE];exact Nat.min_eq_left (Nat.mul_le_mul_right _ hnn)
      have QlB:∀u∈news.take (n*i.size),u.oneCell'=true:=fun u hu=>Rs.Td (φ:=φ) (hnr.mono fun _ _ h=>IR.lr h) u (List.mem_of_mem_take hu)
      have HI:(Builtin.firstCells i.size n (.slice A new.length cap)).run P w=.ok (news.take (n*i.size)).toArray w:=by
       by_cases Hm:new=[]
       ·have hn1:n=0:=by rw[Hm]at hnn;simpa using hnn
        rw[hn1,Nat.zero_mul,List.take_zero];cases A <;> simp [Builtin.firstCells,loadCells,loadCellsFrom]
       ·obtain⟨ad,rfl,tn⟩:=had Hm;have:=run_loadCells_list (P:=P) (w:=w) ad (news.take (n*i.size)) (fun j v hj=>by
         rw[List.getElem?_take]at hj;split at hj
         ·exact tn j v hj
         ·cases hj)
        rw[IM]at this;simpa [Builtin.firstCells]using this
      have QpD:n*i.size≤cur.size:=by rw[g2,nQ];exact Nat.mul_le_mul_right _ (by omega)
      have Rw:=Xp (P:=P) (ty:=o.type) (len:=len) (C:=C) ht hi g1 (show Nat.min new.length len=n by rw[←hlen];exact Qge) HI (by rw[IM];exact QpD) QlB
      rw[IM]at Rw;have hex:Ex w M φ (w.setRow b (news.take (n*i.size)++cur.toList.drop (n*i.size)).toArray) M φ:=by
       obtain⟨hm,_,_⟩:=hW.own id ob b C hid Jm;exact⟨fun c hc=>setRow_other w b c _ fun e=>hm (e▸hc),fun _ h=>h,fun _ _ h=>h⟩
      have Qgo:cur.toList.take (len*i.size)=ri:=by
       apply List.ext_getElem?;intro k;rw[List.getElem?_take];have hol:ri.length=len*i.size:=by rw[q3,hlen,nQ]
       by_cases hk:k<len*i.size
       ·rw[if_pos hk];have:=q2 k _ (List.getElem?_eq_getElem (show k<ri.length by omega))
        simp only[World.cell?,g1,Nat.zero_add]at this;rw[List.getElem?_eq_getElem (show k<ri.length by omega)]
        simpa using this
       ·rw[if_neg hk,List.getElem?_eq_none (by omega)]
      have Un:R.length=len:=by rw[←hR,List.length_append,List.length_take,List.length_drop];omega
      have hRr:∀(j:Nat) (c:List Lf),R[j]?=some c→c.length=ob.sz:=fun j c hj=>by
       rw[←hR]at hj;rcases Nat.lt_or_ge j (new.take n).length with h|h
       ·rw[List.getElem?_append_left h,List.getElem?_take]at hj;split at hj
        ·rw[nQ];exact hnl j c hj
        ·cases hj
       ·rw[List.getElem?_append_right h,List.getElem?_drop]at hj;exact WQ _ c hj
      have hO2:OR (w.setRow b (news.take (n*i.size)++cur.toList.drop (n*i.size)).toArray) M φ id {ob with rows:=R}:=by
       have key:({ob with rows:=R}:Ob)=⟨false,ob.sz,ob.Mi,R⟩:=by rw[←tS]
       have hdr:cur.toList.drop (n*i.size)=ri.drop (n*i.size)++cur.toList.drop (len*i.size):=by
        rw[←Qgo,←List.drop_append_of_le_length (by rw[List.length_take];have h1:n*i.size≤len*i.size:=Nat.mul_le_mul_right _ (by omega);have h2:cur.toList.length=cur.size:=Array.length_toList;omega),List.take_append_drop]
       rw[key];refine Qab (vs:=news.take (n*i.size)++ri.drop (n*i.size)) (rest:=cur.toList.drop (len*i.size)) Jm ?_ Z4 ?_ (by omega) g4 hRr ?_
       ·rw[List.append_assoc,←hdr];exact setRow_heap w b cur _ ob.Mi (0,0) g1
       ·rw[List.append_assoc,←hdr,List.length_append,IM,List.length_drop,Array.length_toList,←g2];omega
       ·rw[←hR,List.flatten_append,N8 n (mem_row hnl),N7 n (mem_row WQ),nQ];exact((hnr.take _).append (q1.drop _)).mono fun _ _ h=>h.mono hex.blk hex.sub
      obtain⟨w1,w2⟩:=hW.write hid Jm g1 hO2;refine⟨_,_,Jl _ _ Rw,φ,IR.int _ _,?_,w2,fun k hk=>hφ k (by simpa using hk)⟩
      rw[WL mj];exact w1
     ·have Ld:ob.rows=[]:=List.eq_nil_of_length_eq_zero hlen;have Hm:n=0:=by rw[Ld]at Qge;simpa using Qge.symm
      subst Hm;have YT:R=[]:=by rw[←hR,Ld];simp
      have Rw:=Pc (P:=P) (w:=w) (ty:=o.type) (k:=new.length) (cap:=cap) (A:=A) (B:=B) ht hi;refine⟨_,_,Jl _ _ Rw,φ,IR.int _ _,?_,⟨fun _ _=>rfl,fun _ h=>h,fun _ _ h=>h⟩,fun k hk=>hφ k (by simpa using hk)⟩
      have Qgm:hl (H.set id (some {ob with rows:=R}))=hl H:=by
       rw[WL mj,YT,←Ld]
       funext k
       by_cases hk:k=id
       ·rw[if_pos hk,hk,hid]
       ·rw[if_neg hk]
      rw[Qgm];exact hW
   ·cases hf
  ·cases hf
 ·cases hf
end
end
section
open Go.RowKit
section
variable {P : Program} {Γ : bn} {φ φ' : Pl} {M M' : Nat → Prop} {h hD : Nat → Option Ob} {w w' : World} {a : Act} {hs : List Hint} {o : Oper} {L : Nat → AV} {base : Nat} {r : Wr}
theorem MZ:∀{ids:List Nat} {ic:List Ob},QcM h ids=some ic→ic.length=ids.length∧∀(j i:Nat),ids[j]?=some i→∃ob,ic[j]?=some ob∧h i=some ob
 | [],_,e=>by cases e;exact⟨rfl,fun j i hj=>by simp at hj⟩
 |x ::ids,ic,e=>by
  simp only[QcM]at e;split at e
  ·rename_i ob os h1 h2;cases e;obtain⟨g1,g2⟩:=MZ h2;refine⟨by simp [g1],fun j i hj=>?_⟩
   cases j with
   |zero=>simp at hj;subst hj;exact⟨ob,rfl,h1⟩
   |succ j=>exact g2 j i (by simpa using hj)
  ·cases e
theorem QcG:∀{ic:List Ob},Fl ic≤ic.length
 | []=>Nat.le_refl _
 |o ::r=>by
  simp only[Fl];cases o.box
  ·simp
  ·have:=QcG (ic:=r);simp only[cond_true,List.length_cons];omega
theorem QcH:∀{ic:List Ob} {j:Nat} {o:Ob},j<Fl ic→ic[j]?=some o→o.box=true
 | [],j,_,h,_=>by simp [Fl]at h
 |x ::r,j,o,h,e=>by
  simp only[Fl]at h;cases hx:x.box with
  |false=>rw[hx]at h;simp at h
  |true =>
   rw[hx]at h;simp only[cond_true]at h;cases j with
   |zero=>simp at e;subst e;exact hx
   |succ j=>exact QcH (ic:=r) (j:=j) (by omega) (by simpa using e)
theorem VP{φ:Pl}:∀{l:List Ob} {i:Nat} {p:Nat×Nat},p∈yF φ i l→∃(j:Nat) (ob:Ob) (C:Nat),p.1=i+j∧l[j]?=some ob∧ob.box=true∧φ (i+j)=some (some (p.2,C))
 | [],_,_,h=>by cases h
 |o ::r,i,p,h=>by
  simp only[yF,List.mem_append]at h;rcases h with h|h
  ·split at h
   ·rename_i b C hb hφ;simp only[List.mem_singleton]at h;subst h;exact⟨0,o,C,rfl,rfl,hb,hφ⟩
   ·cases h
  ·obtain⟨j,ob,C,h1,h2,h3,h4⟩:=VP h;exact⟨j+1,ob,C,by omega,by simpa using h2,h3,by rw[show i+(j+1)=i+1+j by omega];exact h4⟩
theorem Zh{φ:Pl}:∀{l:List Ob} {i j:Nat} {ob:Ob} {b C:Nat},l[j]?=some ob→ob.box=true→φ (i+j)=some (some (b,C))→(i+j,b)∈yF φ i l
 | [],_,_,_,_,_,h,_,_=>by simp at h
 |o ::r,i,j,ob,b,C,h,hb,hφ=>by
  simp only[yF,List.mem_append];cases j with
  |zero =>
   simp at h;subst h;left;rw[hb];rw[Nat.add_zero]at hφ ⊢;rw[hφ];simp
  |succ j =>
   right;have:=Zh (l:=r) (i:=i+1) (j:=j) (by simpa using h) hb (by rw[show i+1+j=i+(j+1) by omega];exact hφ)
   rw[show i+1+j=i+(j+1) by omega]at this;exact this
theorem VK:∀{l:List Nat} {i j x:Nat},DC l=true→l[i]?=some x→l[j]?=some x→i=j
 | [],_,_,_,_,h,_=>by simp at h
 |y ::l,i,j,x,hn,hi,hj=>by
  simp only[DC,Bool.and_eq_true,Bool.not_eq_true']at hn;have hy:∀k,l[k]?≠some y:=fun k e=>by
   have h1:=hn.1;rw[←Bool.not_eq_true,List.contains_iff_mem]at h1;exact h1 (List.mem_of_getElem? e)
  cases i with
  |zero =>
   cases j with
   |zero=>rfl
   |succ j=>simp at hi hj;subst hi;exact absurd hj (hy j)
  |succ i =>
   cases j with
   |zero=>simp at hi hj;subst hj;exact absurd hi (hy i)
   |succ j=>exact congrArg (·+1) (VK hn.2 (by simpa using hi) (by simpa using hj))
theorem WB{a b:List (Nat×Option Ob)}{id:Nat}:tk (a++b) id=match tk a id with
  |some o=>some o
  |none=>tk b id:=by
 induction a with
 |nil=>rfl
 |cons x a ih =>
  obtain⟨u,o⟩:=x;simp only[List.cons_append,tk];cases(u == id)with
  |true=>rfl
  |false=>exact ih
theorem SG{id:Nat}:∀{ids:List Nat},tk (Ys ids) id=if id∈ids then some none else none
 | []=>rfl
 |x ::ids=>by
  show(bif x == id then some none else tk (Ys ids) id)=_;rw[SG];by_cases hx:x=id
  ·subst hx;simp
  ·have:(x == id)=false:=by simpa using hx
   rw[this];have CJ:¬id=x:=fun e=>hx e.symm
   simp [CJ]
theorem U9{m:Nat→Option Nat}{id:Nat}{o:Option Ob}:∀{ids:List Nat} {ic:List Ob},tk (Uc m ids ic) id=some o→∃(j:Nat) (ob:Ob),ids[j]?=some id∧ic[j]?=some ob∧o=some (kQ m ob)
 | [],_,h=>by cases h
 |_ ::_,[],h=>by cases h
 |x ::ids,y ::ic,h=>by
  simp only[Uc,tk]at h;cases hx:(x == id)with
  |true =>
   rw[hx]at h;cases h;exact⟨0,y,by simpa using hx,rfl,rfl⟩
  |false =>
   rw[hx]at h;obtain⟨j,ob,h1,h2,h3⟩:=U9 (ids:=ids) (ic:=ic) h;exact⟨j+1,ob,by simpa using h1,by simpa using h2,h3⟩
theorem Jc{m:Nat→Option Nat}{id:Nat}:∀{ids:List Nat} {ic:List Ob},ids.length≤ic.length→tk (Uc m ids ic) id=none→id ∉ ids
 | [],_,_,_=>by simp
 |_ ::_,[],h,_=>by simp at h
 |x ::ids,y ::ic,hl,h=>by
  simp only[Uc,tk]at h;cases hx:(x == id)with
  |true=>rw[hx]at h;cases h
  |false =>
   rw[hx]at h;have:=Jc (ids:=ids) (ic:=ic) (by simpa using hl) h
   have CJ:¬id=x:=fun e=>by simp [e]at hx
   simp [CJ,this]
theorem ZU{c:Call}(ho:o.op=.call c)(hf:Qc_ P h base L c hs=some r)(dX:d_ r.ic)(hF:∀t,AR w M φ (L t) (a.tmps.getD t undef))(hW:Wd Γ φ M hD w)(gC:∀id ob,h id=some ob→hD id=some ob)
  (tY:∀id,base≤id→id<base+r.news.length→φ id=none∧hD id=none) {K:Act→World→Prop}
  (hK:∀v w',Wo Γ φ M hD base w r v w'→K (a.put o.dst v) w'):o.wp P a w K NQ:=by
 unfold Qc_ at hf;split at hf
 ·rename_i f hcf;split at hf
  ·rename_i k jW AE o1 ids r0 out jC h1 h2;split at hf
   ·rename_i yy yz hp0 hp1;cases hc:(DC ids&&Nat.ble (Fl yy) yz.length&&((yy.drop (Fl yy)).all (fun x=>!x.box)&&(yz.take (Fl yy)).all (fun x=>x.box)))with
    |false=>rw[hc]at hf;cases hf
    |true =>
     rw[hc]at hf;cases hf;simp only[Bool.and_eq_true,Nat.ble_eq]at hc;obtain⟨⟨hnd,hnb⟩,-,-⟩:=hc;have PZ:=My hp1;subst PZ;obtain⟨WI,hpk⟩:=MZ hp0;have Qs_:=QcG (ic:=yy);generalize Qp6:Fl yy=nb at *;simp only[bC,d_]at dX;have hfv:AR w M φ (Au L f) (a.eval f):=Mx hF f;rw[h1]at hfv;obtain⟨cvs,hcv,hcr⟩:LR w M φ (.fn (.func k) jW) (a.eval f):=hfv;have Vh:Rs (CR w M φ) (jW.map Cm.one) cvs:=by
      refine Rs.Af (hcr.imp_mem fun x hx y h=>?_)
      exact zH.lr h
     have Qlf:Rs (CR w M φ) (AE++jW.map Cm.one) (c.args.toList.map a.eval++cvs):=(xy hF trivial h2 dX.1).append Vh
     -- Qhu V7 callee is handed
     let φc:Pl:=fun j=>match ids[j]? with
      |some i=>φ i
      |none=>none
     have hφc:∀j i,ids[j]?=some i→φc j=φ i:=fun j i hj=>by simp only[φc,hj]
     have QqE:∀j,ids.length≤j→φc j=none:=fun j hj=>by simp only[φc,List.getElem?_eq_none hj]
     have Qgh:∀j ob,(yy.map (kQ (posOf ids 0)))[j]?=some ob→∃i Rc,ids[j]?=some i∧yy[j]?=some Rc∧ob=kQ (posOf ids 0) Rc∧hD i=some Rc:=fun j ob hj=>by
      rw[List.getElem?_map]at hj;cases ho0:yy[j]? with
      |none=>rw[ho0]at hj;cases hj
      |some Rc =>
       rw[ho0]at hj;cases hj;have mj:j<ids.length:=by rw[←WI];exact(List.getElem?_eq_some_iff.1 ho0).1
       obtain⟨T6,g1,g2⟩:=hpk j ids[j] (List.getElem?_eq_getElem mj);rw[ho0]at g1;cases g1;exact⟨ids[j],Rc,List.getElem?_eq_getElem mj,ho0,rfl,gC _ _ g2⟩
     have hmc:∀id k p,posOf ids 0 id=some k→φ id=some p→φc k=some p:=fun id k p hk hp=>by
      obtain⟨-,g⟩:=M1 hk;rw[Nat.sub_zero]at g;rw[hφc k id g];exact hp
     have Qke:(yy.map (kQ (posOf ids 0))).length=ids.length:=by rw[List.length_map,WI]
     have Qgk:∀b,(∃id C,id<(yy.map (kQ (posOf ids 0))).length∧φc id=some (some (b,C)))→∃i ob C,i∈ids∧hD i=some ob∧φ i=some (some (b,C)):=fun b ⟨j,C,hj,hφj⟩=>by
      have Vk:j<ids.length:=by rw[←Qke];exact hj
      obtain⟨T6,g1,g2⟩:=hpk j ids[j] (List.getElem?_eq_getElem Vk);rw[hφc j _ (List.getElem?_eq_getElem Vk)]at hφj;exact⟨ids[j],T6,C,List.getElem_mem Vk,gC _ _ g2,hφj⟩
     have hWc:Wd ⟨w,fun b=>∃id C,id<(yy.map (kQ (posOf ids 0))).length∧φc id=some (some (b,C)),M,yF φc 0 (yy.map (kQ (posOf ids 0)))⟩ φc M (fun id=>(yy.map (kQ (posOf ids 0)))[id]?) w:=by
      refine⟨fun j ob e=>?_,fun i j oi oj b Ci Cj ei ej pi pj=>?_,hW.mlt,fun _ h=>h,fun _ h=>.inl h,fun j ob b C e p=>?_,fun _ _ _=>rfl,rfl,rfl,rfl,Nat.le_refl _,fun p hp=>?_⟩
      ·obtain⟨i,Rc,g1,g2,rfl,g4⟩:=Qgh j ob e;exact Kb hmc (hφc j i g1) (hW.ic i Rc g4)
      ·obtain⟨ii,oi0,g1,-,-,g4⟩:=Qgh i oi ei;obtain⟨jj,oj0,k1,-,-,k4⟩:=Qgh j oj ej;rw[hφc i ii g1]at pi;rw[hφc j jj k1]at pj;have:=hW.inj ii jj oi0 oj0 b Ci Cj g4 k4 pi pj;subst this;exact VK hnd g1 k1
      ·obtain⟨i,Rc,g1,g2,-,g4⟩:=Qgh j ob e;have p':=p;rw[hφc j i g1]at p;obtain⟨q1,q2,q3⟩:=hW.own i Rc b C g4 p;exact⟨q1,q2,.inl ⟨j,C,(List.getElem?_eq_some_iff.1 e).1,p'⟩⟩
      ·obtain⟨j,ob,C,e1,e2,e3,e4⟩:=VP hp;rw[Nat.zero_add]at e1 e4;obtain⟨i,Rc,g1,g2,rfl,g4⟩:=Qgh j ob e2;rw[e1,e4];obtain⟨b1,q1⟩:=(Kb hmc (hφc j i g1) (hW.ic i Rc g4)).boxed e3;rw[e4]at q1;cases q1;rfl
     have Hl:Rs (CR w M φc) ((AE++jW.map Cm.one).map (Qet (posOf ids 0))) (c.args.toList.map a.eval++cvs):=Rs.Af (Qlf.mono fun _ _ h=>R6 hmc h)
     unfold Oper.wp;rw[TB ho hcf hcv dX.2.1.1];show Calls P k _ w _;refine(dX.2.1.2 w φc M _ hWc (fun id hid=>QqE id (by rw[←Qke];exact hid)) Hl).mono ?_
     rintro e w' ⟨v,φ',M',rfl,hr,sN,hφ'⟩;rw[List.length_map]at hφ';have hhl:∀i,hl (yz.map some) i=yz[i]?:=fun i=>by unfold hl;rw[List.getElem?_map];cases yz[i]? <;> rfl
     refine hK v w' ?_
     have hnw:((yz.drop nb).map (kQ (v7 ids nb base))).length=yz.length-nb:=by simp
     simp only[hnw]at tY
     -- where V7 boxes lie
     have tS:∀j i,j<nb→ids[j]?=some i→∃b,φ i=some (some (b,1))∧φ' j=some (some (b,1)):=fun j i hj hi=>by
      obtain⟨Rc,g1,g2⟩:=hpk j i hi;have hb0:Rc.box=true:=QcH (by rw[Qp6];exact hj) g1
      obtain⟨b,Jm⟩:=(hW.ic i Rc (gC _ _ g2)).boxed hb0;refine⟨b,Jm,?_⟩;have hm0:(yy.map (kQ (posOf ids 0)))[j]?=some (kQ (posOf ids 0) Rc):=by rw[List.getElem?_map,g1];rfl
      have:=sN.IN (0+j,b) (Zh (C:=1) hm0 (by rw[VX];exact hb0) (by rw[Nat.zero_add,hφc j i hi,Jm]))
      rw[Nat.zero_add]at this;exact this
     let φ2:Pl:=fun i=>if base≤i∧i<base+(yz.length-nb)then φ' (nb+(i-base))else φ i
     have ry:∀i,base≤i→i<base+(yz.length-nb)→φ2 i=φ' (nb+(i-base)):=fun i h1 h2=>if_pos ⟨h1,h2⟩
     have QY:∀i,¬(base≤i∧i<base+(yz.length-nb))→φ2 i=φ i:=fun i h=>if_neg h
     have AK:∀i p,φ i=some p→φ2 i=some p:=fun i p h=>by
      by_cases hi:base≤i∧i<base+(yz.length-nb)
      ·rw[(tY i hi.1 hi.2).1]at h;cases h
      ·rw[QY i hi];exact h
     have Z2:∀id k p,v7 ids nb base id=some k→φ' id=some p→φ2 k=some p:=fun id k p hk hp=>by
      unfold v7 at hk;cases mj:Nat.blt id nb with
      |true =>
       rw[mj]at hk;have Qgd:id<nb:=Nat.le_of_ble_eq_true mj;obtain⟨b,g1,g2⟩:=tS id k Qgd hk;rw[g2]at hp;cases hp;exact AK _ _ g1
      |false =>
       rw[mj]at hk;cases hk;have QW:¬id<nb:=fun h=>by
        have:Nat.blt id nb=true:=Nat.ble_eq_true_of_le h;rw[mj]at this;cases this
       have hid:id<yz.length:=by
        rcases Nat.lt_or_ge id yz.length with h|h
        ·exact h
        ·rw[hφ' id h]at hp;cases hp
       rw[ry _ (by omega) (by omega),show nb+(base+(id-nb)-base)=id by omega];exact hp
     -- blocks QjD V7 callee was not handed
     have Qf_:∀b,b<w.heap.size→(∀i ob C,i∈ids→hD i=some ob→φ i≠some (some (b,C)))→w'.heap[b]?=w.heap[b]?:=fun b hb hn=>sN.MH b hb fun h=>by
      obtain⟨i,ob,C,g1,g2,g3⟩:=Qgk b h;exact hn i ob C g1 g2 g3
     have hMk:∀b,M b→w'.heap[b]?=w.heap[b]?:=fun b hb=>Qf_ b (hW.mlt b hb) fun i ob C g1 g2 g3=>(hW.own i ob b C g2 g3).1 hb
     have hex:Ex w M φ w' M' φ2:=⟨hMk,sN.m0,AK⟩;have nQ:w.heap.size≤w'.heap.size:=sN.size;have hm':∀b,M' b→M b∨(∃i ob C,i∈ids∧hD i=some ob∧φ i=some (some (b,C)))∨w.heap.size≤b:=fun b hb=>by
      rcases sN.OE b hb with h|h|h
      ·exact .inl h
      ·exact .inr (.inl (Qgk b h))
      ·exact .inr (.inr h)
     have Qgj:∀jj ob b C,yz[jj]?=some ob→φ' jj=some (some (b,C))→¬M' b∧b<w'.heap.size∧((∃i ob C,i∈ids∧hD i=some ob∧φ i=some (some (b,C)))∨w.heap.size≤b):=fun jj ob b C e p=>by
      obtain⟨g1,g2,g3⟩:=sN.own jj ob b C ((hhl jj).trans e) p;refine⟨g1,g2,?_⟩;rcases g3 with h|h
      ·exact .inl (Qgk b h)
      ·exact .inr h
     -- V7 objects QjD are there
     have Qp2:(ids.take nb).length≤(yz.take nb).length:=by simp;omega
     have key:∀i ob,VQ (QM hD (Uc (v7 ids nb base) (ids.take nb) (yz.take nb)++Ys (ids.drop nb))) base ((yz.drop nb).map (kQ (v7 ids nb base))) i=some ob→
       (∃jj T6,yz[jj]?=some T6∧ob=kQ (v7 ids nb base) T6∧φ2 i=φ' jj∧(∀i',v7 ids nb base jj=some i'→i'=i)∧(v7 ids nb base jj=some i))∨(¬(base≤i∧i<base+(yz.length-nb))∧i ∉ ids∧hD i=some ob):=fun i ob e=>by
      unfold VQ at e;rw[hnw]at e;by_cases hi:base≤i∧i<base+(yz.length-nb)
      ·rw[if_pos hi,List.getElem?_map,List.getElem?_drop]at e;cases h3:yz[nb+(i-base)]? with
       |none=>rw[h3]at e;cases e
       |some T6 =>
        rw[h3]at e;cases e;have hid:v7 ids nb base (nb+(i-base))=some i:=by
         unfold v7;have:Nat.blt (nb+(i-base)) nb=false:=by rw[←Bool.not_eq_true];intro h;have:=Nat.le_of_ble_eq_true h;omega
         rw[this];simp only[cond_false];congr 1;omega
        exact .inl ⟨nb+(i-base),T6,h3,rfl,ry i hi.1 hi.2,fun i' h=>by rw[hid]at h;exact(Option.some.inj h).symm,hid⟩
      ·rw[if_neg hi]at e;unfold QM at e;rw[WB]at e;cases h3:tk (Uc (v7 ids nb base) (ids.take nb) (yz.take nb)) i with
       |some ov =>
        rw[h3]at e;simp only at e;obtain⟨j,T6,g1,g2,g3⟩:=U9 h3;rw[e]at g3;cases g3;rw[List.getElem?_take]at g1 g2;have hj:j<nb:=by
         rcases Nat.lt_or_ge j nb with h|h
         ·exact h
         ·rw[if_neg (by omega)]at g1;cases g1
        rw[if_pos hj]at g1 g2;obtain⟨b,q1,q2⟩:=tS j i hj g1;have hid:v7 ids nb base j=some i:=by
         unfold v7;have:Nat.blt j nb=true:=Nat.ble_eq_true_of_le hj;rw[this];exact g1
        exact .inl ⟨j,T6,g2,rfl,by rw[QY i hi,q1,q2],fun i' h=>by rw[hid]at h;exact(Option.some.inj h).symm,hid⟩
       |none =>
        rw[h3]at e;simp only[SG]at e;have n1:=Jc Qp2 h3;by_cases hd:i∈ids.drop nb
        ·rw[if_pos hd]at e;cases e
        ·rw[if_neg hd]at e;refine .inr ⟨hi,fun hm=>?_,e⟩
         rw[←List.take_append_drop nb ids,List.mem_append]at hm;rcases hm with h|h
         ·exact n1 h
         ·exact hd h
     have hold:∀i ob b C,i ∉ ids→hD i=some ob→φ i=some (some (b,C))→w'.heap[b]?=w.heap[b]?:=fun i ob b C hi e p=>Qf_ b (hW.own i ob b C e p).2.1 fun i2 ob2 C2 g1 g2 g3=>hi (by rw[hW.inj i i2 ob ob2 b C C2 e g2 p g3];exact g1)
     refine⟨φ2,M',O6 Z2 hr,?_,hex,fun i hi=>?_⟩
     ·refine⟨fun i ob e=>?_,fun i j oi oj b Ci Cj ei ej pi pj=>?_,sN.mlt,fun b hb=>sN.m0 b (hW.m0 b hb),fun b hb=>?_,fun i ob b C e p=>?_,fun b hb hn=>?_,sN.os.trans hW.os,sN.tape.trans hW.tape,sN.output.trans hW.output,Nat.le_trans hW.size nQ,fun p hp=>AK _ _ (hW.IN p hp)⟩
      ·rcases key i ob e with⟨jj,T6,g1,rfl,g3,-,-⟩|⟨g1,g2,g3⟩
       ·exact Kb Z2 g3 (sN.ic jj T6 ((hhl jj).trans g1))
       ·exact(hW.ic i ob g3).mono hex fun b C p=>hold i ob b C g2 g3 p
      ·rcases key i oi ei with⟨ii,oi1,g1,-,g3,g4,g5⟩|⟨g1,g2,g3⟩ <;> rcases key j oj ej with⟨jj,oj1,k1,-,k3,k4,k5⟩|⟨k1,k2,k3⟩
       ·rw[g3]at pi;rw[k3]at pj;have:=sN.inj ii jj oi1 oj1 b Ci Cj ((hhl ii).trans g1) ((hhl jj).trans k1) pi pj;subst this;exact k4 i g5
       ·exfalso;rw[g3]at pi;rw[QY j k1]at pj;have mj:=(hW.own j oj b Cj k3 pj).2.1;rcases(Qgj ii oi1 b Ci g1 pi).2.2 with⟨i2,ob2,C2,q1,q2,q3⟩|h
        ·exact k2 (by rw[hW.inj j i2 oj ob2 b Cj C2 k3 q2 pj q3];exact q1)
        ·omega
       ·exfalso;rw[k3]at pj;rw[QY i g1]at pi;have mj:=(hW.own i oi b Ci g3 pi).2.1;rcases(Qgj jj oj1 b Cj k1 pj).2.2 with⟨i2,ob2,C2,q1,q2,q3⟩|h
        ·exact g2 (by rw[hW.inj i i2 oi ob2 b Ci C2 g3 q2 pi q3];exact q1)
        ·omega
       ·rw[QY i g1]at pi;rw[QY j k1]at pj;exact hW.inj i j oi oj b Ci Cj g3 k3 pi pj
      ·rcases hm' b hb with h|⟨i,ob,C,g1,g2,g3⟩|h
       ·exact hW.OE b h
       ·exact .inr (hW.own i ob b C g2 g3).2.2
       ·exact .inr (.inr (Nat.le_trans hW.size h))
      ·rcases key i ob e with⟨jj,T6,g1,-,g3,-,-⟩|⟨g1,g2,g3⟩
       ·rw[g3]at p;obtain⟨q1,q2,q3⟩:=Qgj jj T6 b C g1 p;refine⟨q1,q2,?_⟩;rcases q3 with⟨i2,ob2,C2,s1,s2,s3⟩|h
        ·exact(hW.own i2 ob2 b C2 s2 s3).2.2
        ·exact .inr (Nat.le_trans hW.size h)
       ·rw[QY i g1]at p;obtain⟨q1,q2,q3⟩:=hW.own i ob b C g3 p;refine⟨fun hb=>?_,Nat.lt_of_lt_of_le q2 nQ,q3⟩
        rcases hm' b hb with h|⟨i2,ob2,C2,s1,s2,s3⟩|h
        ·exact q1 h
        ·exact g2 (by rw[hW.inj i i2 ob ob2 b C C2 g3 s2 p s3];exact s1)
        ·omega
      ·refine(Qf_ b (Nat.lt_of_lt_of_le hb hW.size) fun i ob C g1 g2 g3=>?_).trans (hW.MH b hb hn)
       rcases(hW.own i ob b C g2 g3).2.2 with h|h
       ·exact hn h
       ·omega
     ·by_cases h:base≤i∧i<base+(yz.length-nb)
      ·right;rw[hnw];exact h
      ·rw[QY i h]at hi;exact .inl hi
   ·cases hf
  ·cases hf
 ·cases hf
theorem Pq{id:Nat}{ob:Option Ob}:QM hD [(id,ob)]=fun i=>if i=id then ob else hD i:=by
 funext i
 unfold QM;simp only[tk];by_cases h2:i=id
 ·subst h2;simp
 ·have:(id == i)=false:=by simpa using fun e:id=i=>h2 e.symm
  rw[if_neg h2,this];rfl
theorem XH{t:TypeId}{x y:Operand}(hop:o.op=.store t x y)(hf:XG P h L t x y hs=some r)(dX:d_ r.ic)(hF:∀t,AR w M φ (L t) (a.tmps.getD t undef))(hW:Wd Γ φ M hD w)(gC:∀id ob,h id=some ob→hD id=some ob):
  ∃w',(execOp a.eval o).run P w=.ok .skip w'∧Wo Γ φ M hD base w r undef w':=by
 unfold XG at hf
 ·split at hf
  ·rename_i id sz row off o1 c o2 n h1 h2 ht;split at hf
   ·rename_i ob hid;split at hf
    ·rename_i cells tS mC;cases hc:(ob.sz == sz&&n == c.cells.length&&(row == 0&&Nat.ble (off+n) cells.length))with
     |false=>rw[hc]at hf;cases hf
     |true =>
      rw[hc]at hf;cases hf;simp only[Bool.and_eq_true,beq_iff_eq,Nat.ble_eq]at hc;obtain⟨⟨nQ,hn⟩,rfl,Rx⟩:=hc;rw[bC]at dX;have hO:=hW.ic id ob (gC id ob hid);obtain⟨b,C,Jm,hv⟩:zH w M φ (.op id sz 0 off) (a.eval x):=da hF h1 dX.1 trivial;have hy:=(da hF h2 dX.2 trivial).cells;obtain⟨h0,hO'⟩:=hO.oc (.inr ⟨_,mC⟩);rw[Jm]at hO';obtain⟨cur,g1,g2,g3,g4,g5,g6⟩:=hO';obtain⟨hm,Qpy,YY⟩:=hW.own id ob b C (gC id ob hid) Jm;have Qf3:(a.eval y).cells.size=n:=by rw[←Array.length_toList,←hy.len,hn]
      have hex:∀new,Ex w M φ (w.setRow b new) M φ:=fun new=>⟨fun c hc=>setRow_other w b c new fun e=>hm (e▸hc),fun _ h=>h,fun _ _ h=>h⟩
      have IM:cells.length=ob.sz:=(g6 0 cells (by rw[mC];rfl)).1
      have hC:1≤C:=by rw[mC]at g3;simpa using g3
      have hle:ob.sz≤cur.size:=by rw[g2];exact Nat.le_mul_of_pos_left _ hC
      have hvl:=hy.len;have QsT:cur.toList.length=cur.size:=Array.length_toList;have ec:=DO (P:=P) (p:=0*sz+off) ht Qf3 g1 (by rw[Nat.zero_mul];omega) (Rs.Td hy)
      refine⟨w.setRow b (cur.toList.take (0*sz+off)++(a.eval y).cells.toList++cur.toList.drop (0*sz+off+(a.eval y).cells.toList.length)).toArray,by simp only[execOp,hop,hv,Instr.storeAt,Instr.sureAddr,Sem.run_bind,Sem.run_pure,Result.andThen_ok,ec],?_⟩
      suffices hs:Wd Γ φ M (fun i=>if i=id then some {ob with rows:=[cells.take off++c.cells++cells.drop (off+n)]}else hD i) (w.setRow b (cur.toList.take (0*sz+off)++(a.eval y).cells.toList++cur.toList.drop (0*sz+off+(a.eval y).cells.toList.length)).toArray)∧Ex w M φ (w.setRow b (cur.toList.take (0*sz+off)++(a.eval y).cells.toList++cur.toList.drop (0*sz+off+(a.eval y).cells.toList.length)).toArray) M φ by
       exact⟨φ,M,trivial,by rw[yG,Pq];exact hs.1,hs.2,fun _ h=>.inl h⟩
      refine hW.write (CK:={ob with rows:=[cells.take off++c.cells++cells.drop (off+n)]}) (gC id ob hid) Jm g1 (.inl ⟨h0,?_⟩);rw[Jm];refine⟨_,setRow_heap w b cur _ ob.Mi (0,0) g1,?_,by simpa using hC,g4,g5,fun i d hd=>?_⟩
      ·rw[←g2];simp;omega
      ·cases i with
       |succ i=>simp at hd
       |zero =>
        obtain rfl:=Option.some.inj (show some _=some d from hd);refine⟨by simp;omega,fun j l hj=>?_⟩
        have h3:=w3 (l:=cells) (vs:=c.cells) (p:=off) (by omega) j
        rw[hn]at hj;rw[h3]at hj;rw[List.getElem?_toArray,Nat.zero_mul,Nat.zero_add,Nat.zero_mul,Nat.zero_add,w3 (by omega)]
        have Z7:∀l,cells[j]?=some l→∃v,cur.toList[j]?=some v∧(if ob.box=true then LR (w.setRow b (cur.toList.take off++(a.eval y).cells.toList++cur.toList.drop (off+(a.eval y).cells.toList.length)).toArray) M φ l v else IR (w.setRow b (cur.toList.take off++(a.eval y).cells.toList++cur.toList.drop (off+(a.eval y).cells.toList.length)).toArray) M l v):=fun l hl=>by
         obtain⟨v,hv,hr⟩:=(g6 0 cells (by rw[mC];rfl)).2 j l hl
         rw[Nat.zero_mul,Nat.zero_add]at hv;rw[if_pos tS]at hr;exact⟨v,by simpa using hv,by rw[if_pos tS];exact hr.mono (hex _)⟩
        by_cases j1:j<off
        ·rw[if_pos j1]at hj ⊢;exact Z7 l hj
        ·rw[if_neg j1]at hj ⊢;by_cases j2:j<off+c.cells.length
         ·rw[if_pos j2]at hj;rw[if_pos (by omega)]
          obtain⟨v,hv,hr⟩:=hy.get hj;exact⟨v,hv,by rw[if_pos tS];exact hr.mono (hex _)⟩
         ·rw[if_neg j2]at hj;rw[if_neg (by omega)]
          exact Z7 l hj
    ·cases hf
   ·cases hf
  ·cases hf
theorem QbE{t:TypeId}{m k v:Operand}(hop:o.op=.mapUpdate t m k v)(hf:QjR P h L t m k v hs=some r)(dX:d_ r.ic)(hF:∀t,AR w M φ (L t) (a.tmps.getD t undef))(hW:Wd Γ φ M hD w)(gC:∀id ob,h id=some ob→hD id=some ob):
  ∃w',(execOp a.eval o).run P w=.ok .skip w'∧Wo Γ φ M hD base w r undef w':=by
 unfold QjR at hf;split at hf
 ·rename_i kt vt id o1 kl o2 vl o3 R jC hu h1 h2 h3;split at hf
  ·rename_i ob hid;split at hf
   ·rename_i rs hm;cases hc:(ob.box&&S3 vl&&P2 P kt kl)with
    |false=>rw[hc]at hf;cases hf
    |true =>
     rw[hc]at hf;cases hf;simp only[Bool.and_eq_true]at hc;simp only[bC,d_]at dX;obtain⟨b,hφ,hv⟩:zH w M φ (.mp id) (a.eval m):=da hF h1 dX.1.1.1 trivial;have hk:CR w M φ kl (a.eval k):=da hF h2 dX.1.1.2 trivial;have hx:LR w M φ vl (a.eval v):=da hF h3 dX.1.2 trivial;have hkr:=Y2 hc.2 hk;have Qlq:=gC id ob hid;obtain⟨b',es,TZ,g1,g2,g3,g4⟩:=Te (hW.ic id ob Qlq) hm hc.1.1;rw[hφ]at g1;cases g1;have hck:=hkr.check false
     -- V7 map as it is left
     have key:∀(es':Array MapEntry) (Qfy:Nat),Rs (Eu w M) R es'.toList→(execOp a.eval o).run P w=.ok .skip {w with heap:=w.heap.setIfInBounds b (.map es' Qfy)}→
       ∃w',(execOp a.eval o).run P w=.ok .skip w'∧Wo Γ φ M hD base w ⟨.RO,[(id,some {ob with rows:=[] :: [] ::R})],[],o1++o2++o3++[Ce rs kl.cells vl=some R],jC⟩ undef w':=fun es' Qfy hR ec=>by
      obtain⟨k1,k2⟩:=Go.MapKept.heap_set (o':=.map es' Qfy) g2;have hm0:=(hW.own id ob b 1 Qlq hφ).1;have hex:Ex w M φ {w with heap:=w.heap.setIfInBounds b (.map es' Qfy)} M φ:=⟨fun c hc=>k2 c fun e=>hm0 (e▸hc),fun _ h=>h,fun _ _ h=>h⟩
      refine⟨_,ec,φ,M,trivial,?_,hex,fun _ h=>.inl h⟩
      rw[yG,Pq];exact hW.QjH Qlq hφ (fun c hc=>k2 c hc) (by simp) rfl rfl rfl (.inr ⟨hc.1.1,R,b,es',Qfy,rfl,hφ,k1,hR.mono fun _ _ h=>Eu.mono hex.blk hex.sub h⟩)
     rcases hkr.put (LR.S2 hc.1.2 hx) g3 dX.2.1 with⟨q1,q2⟩|⟨j,u,e,q1,q2,q3,q4⟩
     ·refine key (es.push {key:=a.eval k,val:=a.eval v,born:=TZ}) (TZ+1) (by rw[Array.toList_push];exact q2 TZ) ?_
      simp [execOp,hop,hv,Instr.mapUpdate,run_underlying hu,Go.MapKept.run_getObj_map g2,hck,q1,Go.MapKept.run_setObj_map _ g2,Result.andThen]
     ·have hej:es[j]?=some e:=by rw[←Array.getElem?_toList];exact q2
      have nr:=hkr.stays;refine key (es.modify j fun e=>{e with key:=a.eval k,val:=a.eval v}) TZ ?_ ?_
      ·have:(es.modify j fun e=>{e with key:=a.eval k,val:=a.eval v}).toList=es.toList.set j {e with key:=a.eval k,val:=a.eval v}:=by
        apply List.ext_getElem?;intro i;rw[Array.getElem?_toList,Array.getElem?_modify,List.getElem?_set];by_cases T5:j=i
        ·subst T5;have mj:=(List.getElem?_eq_some_iff.1 q2).1;have QnA:j<es.size:=by simpa using mj
         have ZZ:es[j]=e:=by rw[Array.getElem?_eq_getElem QnA]at hej;exact Option.some.inj hej
         simp [QnA,ZZ]
        ·simp [T5]
       rw[this];exact q4
      ·have hkk:(((es[j]?).map (·.key)).getD (a.eval k))=a.eval k:=by rw[hej];exact q3
       simp only[Option.map]at hkk;simp [execOp,hop,hv,Instr.mapUpdate,run_underlying hu,Go.MapKept.run_getObj_map g2,hck,q1,Result.andThen];rw[hej];simp [q3,nr,Go.MapKept.run_setObj_map _ g2,Result.andThen]
   ·cases hf
  ·cases hf
 ·cases hf
theorem QbD{t:TypeId}{x hi:Operand}(hop:o.op=.slice t x none (some hi) none)(hf:QjQ P h L t x hi hs=some r)(dX:d_ r.ic)(hF:∀t,AR w M φ (L t) (a.tmps.getD t undef))(hW:Wd Γ φ M hD w)(gC:∀id ob,h id=some ob→hD id=some ob):
  ∃v,(execOp a.eval o).run P w=.ok (.value v) w∧Wo Γ φ M hD base w r v w:=by
 unfold QjQ at hf;split at hf
 ·rename_i id sz off len o1 kd n o2 e R jC h1 h2 he;split at hf
  ·rename_i ob hid;cases hc:(off == 0&&ob.sz == sz&&!ob.box&&KI P e == some sz)with
   |false=>rw[hc]at hf;cases hf
   |true =>
    rw[hc]at hf;cases hf;simp only[Bool.and_eq_true,beq_iff_eq,Bool.not_eq_true']at hc;obtain⟨⟨⟨rfl,nQ⟩,tS⟩,hts⟩:=hc;simp only[bC,d_]at dX;obtain⟨⟨p1,p2⟩,hlen,Hm,hn1,hR,-⟩:=dX;have hu:=mf he;obtain⟨i,hi2,his⟩:=ra hts;have hx:zH w M φ (.os id sz 0 len) (a.eval x):=da hF h1 p1 trivial;have hh:IR w M (.int kd n) (a.eval hi):=da hF h2 p2 trivial;generalize S1:a.eval hi=hv at hh;cases hh;replace hid:=gC _ _ hid;have hO:=hW.ic id ob hid;have Un:R.length=n.toNat:=by rw[←hR,List.length_take];omega
    have ec:∀v,(Instr.sliceAt t (a.eval x) none (some (.int kd n)) none).run P w=.ok v w→(execOp a.eval o).run P w=.ok (.value v) w:=fun v hv=>by simp [execOp,hop,S1,hv]
    have hex:Ex w M φ w M φ:=⟨fun _ _=>rfl,fun _ h=>h,fun _ _ h=>h⟩
    rcases hx with⟨b,C,Jm,hv,hle⟩|⟨Jm,_,WI,A,hv⟩
    ·rw[hv]at ec;obtain⟨Z4,hO'⟩:=hO.oc (.inl tS);rw[Jm]at hO';obtain⟨cur,g1,g2,g3,g4,g5,g6⟩:=hO';have hb:=zF (P:=P) (w:=w) (isS:=true) (len:=len) (cap:=C-0) (lo:=none) (hi:=some (.int kd n)) (mx:=none) (ql:=none) (qh:=some n) (qm:=none) (.inl ⟨rfl,rfl⟩) (.inr ⟨kd,n,rfl,rfl⟩) (.inl ⟨rfl,rfl⟩) (fun h=>by cases h) (by simp) (by simpa using Hm) (by simp only[Option.getD_some,Option.getD_none];omega) (by simp) (by omega)
     have Z3:=ec _ (Cz hu hi2 hb);refine⟨_,Z3,φ,M,?_,?_,hex,fun _ h=>.inl h⟩
     ·refine .inl ⟨b,C,Jm,?_,by omega⟩
      have z0:((none:Option Int).getD 0).toNat=0:=rfl;have z1:((some n).getD (len:Int)).toNat=R.length:=by simp [Un]
      have z2:((none:Option Int).getD ((C-0:Nat):Int)).toNat=C:=by simp
      rw[z0,z1,z2];simp only[Nat.sub_zero,Nat.zero_mul,Option.map_some];split <;> simp [Addr.add_mid]
     ·rw[yG,Pq];refine hW.QjH hid Jm (fun _ _=>rfl) rfl rfl rfl rfl (.inl ⟨Z4,?_⟩)
      rw[Jm];refine⟨cur,g1,g2,by simp only;omega,g4,g5,fun j c hc=>g6 j c ?_⟩
      simp only at hc;rw[←hR,List.getElem?_take]at hc;split at hc
      ·exact hc
      ·cases hc
    ·rw[hv]at ec;have Ld:ob.rows=[]:=List.eq_nil_of_length_eq_zero (by omega)
     have hn:n=0:=by rw[Ld]at hn1;simp only[List.length_nil,Int.natCast_zero]at hn1;omega
     have YT:R=[]:=by rw[←hR,Ld];simp
     subst YT;have hb:=zF (P:=P) (w:=w) (isS:=true) (len:=0) (cap:=0) (lo:=none) (hi:=some (.int kd n)) (mx:=none) (ql:=none) (qh:=some n) (qm:=none) (.inl ⟨rfl,rfl⟩) (.inr ⟨kd,n,rfl,rfl⟩) (.inl ⟨rfl,rfl⟩) (fun h=>by cases h) (by simp) (by simpa using Hm) (by simp only[Option.getD_some,Option.getD_none];omega) (by simp) (by omega)
     have Z3:=ec _ (Cz hu hi2 hb);refine⟨_,Z3,φ,M,?_,?_,hex,fun _ h=>.inl h⟩
     ·subst hn;exact .inr ⟨Jm,rfl,rfl,A,rfl⟩
     ·rw[yG,Pq];have:(fun i=>if i=id then some {ob with rows:=[]}else hD i)=hD:=by
       funext i
       by_cases hi:i=id
       ·subst hi;rw[if_pos rfl,hid];cases ob;simp only at Ld;rw[Ld]
       ·rw[if_neg hi]
      rw[this];exact hW
  ·cases hf
 ·cases hf
theorem Wc(hf:wop P h base L o.op hs=some r)(dX:d_ r.ic)(hF:∀t,AR w M φ (L t) (a.tmps.getD t undef))(hW:Wd Γ φ M hD w)(gC:∀id ob,h id=some ob→hD id=some ob)
  (tY:∀id,base≤id→id<base+r.news.length→φ id=none∧hD id=none) {K:Act→World→Prop}
  (hK:∀v w',Wo Γ φ M hD base w r v w'→K (a.put o.dst v) w'):o.wp P a w K NQ:=by
 cases ho:o.op with
 |store t x y =>
  rw[ho]at hf;obtain⟨w',ec,hm⟩:=XH (base:=base) ho hf dX hF hW gC;unfold Oper.wp;rw[ec];exact hK undef w' hm
 |mapUpdate t m k v =>
  rw[ho]at hf;obtain⟨w',ec,hm⟩:=QbE (base:=base) ho hf dX hF hW gC;unfold Oper.wp;rw[ec];exact hK undef w' hm
 |slice t x lo hi mx =>
  rw[ho]at hf;cases lo with
  |some _=>simp only[wop]at hf;cases hf
  |none =>
   cases hi with
   |none=>simp only[wop]at hf;cases hf
   |some hi =>
    cases mx with
    |some _=>simp only[wop]at hf;cases hf
    |none =>
     simp only[wop]at hf;obtain⟨v,ec,hm⟩:=QbD (base:=base) ho hf dX hF hW gC;unfold Oper.wp;rw[ec];exact hK v w hm
 |call c =>
  rw[ho]at hf;simp only[wop]at hf;split at hf
  ·rename_i hc;obtain⟨v,w',ec,hm⟩:=UF hW gC hF tY ho hc hf dX;unfold Oper.wp;rw[ec];exact hK v w' hm
  ·exact ZU ho hf dX hF hW gC tY hK
 |_=>rw[ho]at hf;simp only[wop]at hf;cases hf
theorem TX{op:Op}(hf:wop P h base L op hs=some r):∀u∈r.Ar,∃ob,h u.1=some ob:=by
 unfold wop at hf;split at hf
 ·rename_i t x y;unfold XG at hf;split at hf
  ·split at hf
   ·rename_i ob hid;split at hf
    ·have rI:∀{c:Bool} {x:Option Wr},(bif c then x else none)=some r→x=some r:=by
      intro c x hc;cases c
      ·cases hc
      ·exact hc
     cases rI hf;intro u hu;simp only[List.mem_singleton]at hu;subst hu;exact⟨ob,hid⟩
    ·cases hf
   ·cases hf
  ·cases hf
 ·unfold QjR at hf;split at hf
  ·split at hf
   ·rename_i ob hid;split at hf
    ·have rI:∀{c:Bool} {x:Option Wr},(bif c then x else none)=some r→x=some r:=by
      intro c x hc;cases c
      ·cases hc
      ·exact hc
     cases rI hf;intro u hu;simp only[List.mem_singleton]at hu;subst hu;exact⟨ob,hid⟩
    ·cases hf
   ·cases hf
  ·cases hf
 ·unfold QjQ at hf;split at hf
  ·split at hf
   ·rename_i ob hid;have rI:∀{c:Bool} {x:Option Wr},(bif c then x else none)=some r→x=some r:=by
     intro c x hc;cases c
     ·cases hc
     ·exact hc
    cases rI hf;intro u hu;simp only[List.mem_singleton]at hu;subst hu;exact⟨ob,hid⟩
   ·cases hf
  ·cases hf
 ·rename_i c;split at hf
  ·unfold Sc at hf;split at hf
   ·split at hf
    ·rename_i e ob Z8 new o2 he hid hro;split at hf
     ·have rI:∀{c:Bool} {x:Option Wr},(bif c then x else none)=some r→x=some r:=by
       intro c x hc;cases c
       ·cases hc
       ·exact hc
      cases rI hf;intro u hu;simp only[List.mem_singleton]at hu;subst hu;exact⟨ob,hid⟩
     ·cases hf
    ·cases hf
   ·cases hf
  ·unfold Qc_ at hf;split at hf
   ·split at hf
    ·split at hf
     ·rename_i yy yz hp0 hp1;have rI:∀{c:Bool} {x:Option Wr},(bif c then x else none)=some r→x=some r:=by
       intro c x hc;cases c
       ·cases hc
       ·exact hc
      cases rI hf;obtain⟨-,hpk⟩:=MZ hp0;have tZ:∀i,i∈(‹List Nat›:List Nat)→True:=fun _ _=>trivial
      intro u hu;simp only[List.mem_append]at hu;have ry:∀i,i∈_→∃ob,h i=some ob:=fun i hi=>by
       obtain⟨j,hj⟩:=List.mem_iff_getElem?.1 hi;obtain⟨ob,-,g⟩:=hpk j i hj;exact⟨ob,g⟩
      rcases hu with hu|hu
      ·refine ry _ ?_
       have key:∀{m:Nat→Option Nat} {is:List Nat} {os:List Ob},u∈Uc m is os→u.1∈is:=by
        intro m is;induction is with
        |nil=>intro os h;cases h
        |cons x is ih =>
         intro os h;cases os with
         |nil=>cases h
         |cons y os =>
          simp only[Uc,List.mem_cons]at h;rcases h with rfl|h
          ·simp
          ·exact List.mem_cons_of_mem _ (ih h)
       exact List.mem_of_mem_take (key hu)
      ·unfold Ys at hu;obtain⟨i,hi,rfl⟩:=List.mem_map.1 hu;exact ry _ (List.mem_of_mem_drop hi)
     ·cases hf
    ·cases hf
   ·cases hf
 ·cases hf
end
end
section
open Go.RowKit
section
variable {P : Program} {Γ : bn} {φ φ' : Pl} {M M' : Nat → Prop} {h : Nat → Option Ob} {w w' : World} {a : Act} {hs : List Hint} {o : Oper} {H : List (Option Ob)} {L : List (Nat × AV)}
theorem Qd7{r:Mes}(hW:Wd Γ φ M (hl H) w)(hF:∀t,AR w M φ (look L t) (a.tmps.getD t undef))(hφ:∀id,H.length≤id→φ id=none)(hf:mop P H (look L) o.op hs=some r)(dX:d_ r.ic){K:Act→World→Prop}
  (hK:∀v w',Md Γ φ M w r v w'→K (a.put o.dst v) w'):o.wp P a w K NQ:=by
 cases ho:o.op with
 |store t x y =>
  obtain⟨w',ec,hm⟩:=ZN hW hF hφ ho hf dX;unfold Oper.wp;rw[ec];exact hK undef w' hm
 |call c =>
  have hf':=hf;rw[ho]at hf';simp only[mop]at hf';split at hf'
  ·rename_i hc;obtain⟨v,w',ec,hm⟩:=TK hW hF hφ ho hc hf dX;unfold Oper.wp;rw[ec];exact hK v w' hm
  ·cases hf'
 |_=>rw[ho]at hf;simp only[mop]at hf;cases hf
def QmU(Γ:bn)(σ:SS)(tm:Array Value)(w:World)(φ:Pl)(M:Nat→Prop):Prop:=
 (∀t,AR w M φ (look σ.L t) (tm.getD t undef))∧Wd Γ φ M (hl σ.H) w∧(∀id,σ.H.length≤id→φ id=none)
section
variable {f : Lf → Lf × List Prop} (hf : ∀ l v, LR w M φ l v → d_ (f l).2 → LR w M' φ (f l).1 v)
include hf
theorem Qb7:∀{ls:List Lf} {vs:List Value},Rs (LR w M φ) ls vs→d_ (EI f ls).2→Rs (LR w M' φ) (EI f ls).1 vs
 | [],[],_,_=>trivial
 |l ::ls,v ::vs,h,ho=>by
  simp only[EI,bC]at ho ⊢;exact⟨hf l v h.1 ho.1,Qb7 h.2 ho.2⟩
 | [],_ ::_,h,_=>h.elim
 |_ ::_,[],h,_=>h.elim
theorem QfQ{c:Cm}{v:Value}(h:CR w M φ c v)(ho:d_ (gmC f c).2):CR w M' φ (gmC f c).1 v:=by
 cases c with
 |one l=>exact hf l v h ho
 |agg ls=>obtain⟨vs,e,hr⟩:=h;exact⟨vs,e,Qb7 hf hr ho⟩
theorem Qb6:∀{ls:List Cm} {vs:List Value},Rs (CR w M φ) ls vs→d_ (QaE f ls).2→Rs (CR w M' φ) (QaE f ls).1 vs
 | [],[],_,_=>trivial
 |l ::ls,v ::vs,h,ho=>by
  simp only[QaE,bC]at ho ⊢;exact⟨QfQ hf h.1 ho.1,Qb6 h.2 ho.2⟩
 | [],_ ::_,h,_=>h.elim
 |_ ::_,[],h,_=>h.elim
theorem Qik(he:Ex w M φ w M' φ){c:AV}{v:Value}(h:AR w M φ c v)(ho:d_ (QdD f c).2):AR w M' φ (QdD f c).1 v:=by
 cases c with
 |cm c=>exact QfQ hf h ho
 |o5 cs=>obtain⟨vs,e,hr⟩:=h;exact⟨vs,e,Qb6 hf hr ho⟩
 |gd p c=>exact AR.mono he (c:=.gd p c) h
 |RO=>trivial
 |boo=>exact h
omit hf in
theorem QcD(f:Lf→Lf×List Prop)(t:Nat):∀L:List (Nat×AV),look (u_ f L).1 t=(QdD f (look L t)).1∧(d_ (u_ f L).2→d_ (QdD f (look L t)).2)
 | []=>⟨rfl,fun _=>trivial⟩
 |(k,v) ::L=>by
  obtain⟨h1,h2⟩:=QcD f t L;simp only[u_,look,bC];cases hk:(k == t)with
  |true=>exact⟨rfl,fun h=>h.1⟩
  |false=>exact⟨h1,fun h=>h2 h.2⟩
theorem ME(he:Ex w M φ w M' φ){tm:Array Value}{L:List (Nat×AV)}(h:∀t,AR w M φ (look L t) (tm.getD t undef))(ho:d_ (u_ f L).2):∀t,AR w M' φ (look (u_ f L).1 t) (tm.getD t undef):=fun t=>by
 obtain⟨h1,h2⟩:=QcD f t L;rw[h1];exact Qik hf he (h t) (h2 ho)
omit hf in
theorem YO:∀{ls:List Lf},(EI f ls).1.length=ls.length
 | []=>rfl
 |l ::ls=>by simp [EI,YO (ls:=ls)]
omit hf in
theorem YN:∀{ls:List Lf} {j:Nat} {l':Lf},(EI f ls).1[j]?=some l'→∃l,ls[j]?=some l∧l'=(f l).1∧(d_ (EI f ls).2→d_ (f l).2)
 | [],_,_,h=>by simp [EI]at h
 |l ::ls,0,l',h=>by simp [EI]at h;exact⟨l,rfl,h.symm,fun ho=>by simp only[EI,bC]at ho;exact ho.1⟩
 |l ::ls,j+1,l',h=>by
  obtain⟨x,h1,h2,h3⟩:=YN (ls:=ls) (j:=j) (l':=l') (by simpa [EI]using h)
  exact⟨x,by simpa using h1,h2,fun ho=>h3 (by simp only[EI,bC]at ho;exact ho.2)⟩
omit hf in
theorem SQ:∀{rs:List (List Lf)} {i:Nat} {c':List Lf},(zt f rs).1[i]?=some c'→∃c,rs[i]?=some c∧c'=(EI f c).1∧(d_ (zt f rs).2→d_ (EI f c).2)
 | [],_,_,h=>by simp [zt]at h
 |r ::rs,0,c',h=>by simp [zt]at h;exact⟨r,rfl,h.symm,fun ho=>by simp only[zt,bC]at ho;exact ho.1⟩
 |r ::rs,i+1,c',h=>by
  obtain⟨x,h1,h2,h3⟩:=SQ (rs:=rs) (i:=i) (c':=c') (by simpa [zt]using h)
  exact⟨x,by simpa using h1,h2,fun ho=>h3 (by simp only[zt,bC]at ho;exact ho.2)⟩
omit hf in
theorem SR:∀{rs:List (List Lf)},(zt f rs).1.length=rs.length
 | []=>rfl
 |r ::rs=>by simp [zt,SR (rs:=rs)]
omit hf in
theorem Qkc:∀{H:List (Option Ob)} {id:Nat},hl (XL f H).1 id=(WG f (hl H id)).1∧(d_ (XL f H).2→d_ (WG f (hl H id)).2)
 | [],id=>⟨by simp [XL,hl,WG],fun _=>by simp [hl,WG,d_]⟩
 |x ::H,0=>by
  simp only[XL,bC];exact⟨by simp [hl],fun h=>by simpa [hl]using h.1⟩
 |x ::H,id+1=>by
  obtain⟨h1,h2⟩:=Qkc (H:=H) (id:=id);simp only[XL,bC];exact⟨by simpa [hl]using h1,fun h=>by simpa [hl]using h2 h.2⟩
omit hf in
theorem R0:∀{H:List (Option Ob)},(XL f H).1.length=H.length
 | []=>rfl
 |x ::H=>by simp [XL,R0 (H:=H)]
theorem Qil(he:Ex w M φ w M' φ){id:Nat}{ob CK:Ob}(hO:OR w M φ id ob)(hg:(WG f (some ob)).1=some CK)(ho:d_ (WG f (some ob)).2):OR w M' φ id CK∧CK.box=ob.box:=by
 unfold WG at hg ho;rcases hO with hO|⟨hb,rs,b,es,TZ,h1,h2⟩
 rotate_left
 ·have hm:isMap ob=true:=by unfold isMap;rw[h1];rfl
  simp only[hb,hm,Bool.not_true,Bool.and_false,cond_false]at hg;cases hg;exact⟨OR.mono he (.inr ⟨hb,rs,b,es,TZ,h1,h2⟩) fun _ _ _=>rfl,rfl⟩
 cases hb:ob.box with
 |false=>simp only[hb,Bool.false_and,cond_false]at hg;cases hg;exact⟨OR.mono he (.inl hO) fun _ _ _=>rfl,hb⟩
 |true =>
  have hm:=hO.Qkt hb;simp only[hb,hm,Bool.not_false,Bool.and_true,cond_true]at hg ho;cases hg;refine⟨?_,rfl⟩;obtain⟨h0,h1⟩:=hO;refine .inl ⟨h0,?_⟩;cases hφ:φ id with
  |none=>rw[hφ]at h1;exact h1.elim
  |some p =>
   rw[hφ]at h1;cases p with
   |none=>rw[hb]at h1;cases h1.2
   |some bc =>
    obtain⟨b,C⟩:=bc;obtain⟨cur,g1,g2,g3,g4,g5,g6⟩:=h1;refine⟨cur,g1,g2,by rw[SR];exact g3,g4,fun _=>g5 hb,fun i c' hc=>?_⟩
    obtain⟨c,hc1,rfl,IL⟩:=SQ hc;refine⟨by rw[YO];exact(g6 i c hc1).1,fun j l' hj=>?_⟩
    obtain⟨l,hl1,rfl,hl2⟩:=YN hj;obtain⟨v,hv,hr⟩:=(g6 i c hc1).2 j l hl1;rw[if_pos hb]at hr;exact⟨v,hv,by show(if true=true then _ else _);rw[if_pos rfl];exact hf l v hr (hl2 (IL ho))⟩
theorem Qla(he:Ex w M φ w M' φ)(hW:Wd Γ φ M (hl H) w)(ho:d_ (XL f H).2)(hm:∀b,M' b→M b∨(b<w.heap.size∧(Γ.Qje b∨Γ.w0.heap.size≤b)∧∀id ob C,hl H id=some ob→φ id≠some (some (b,C)))):Wd Γ φ M' (hl (XL f H).1) w:=by
 have back:∀id CK,hl (XL f H).1 id=some CK→∃ob,hl H id=some ob∧OR w M' φ id CK:=fun id CK e=>by
  obtain⟨h1,h2⟩:=Qkc (f:=f) (H:=H) (id:=id);rw[h1]at e;cases hh:hl H id with
  |none=>rw[hh]at e;cases e
  |some ob =>
   rw[hh]at e h2;exact⟨ob,rfl,(Qil hf he (hW.ic id ob hh) e (h2 ho)).1⟩
 refine⟨fun id CK e=>(back id CK e).choose_spec.2,fun i j oi oj b Ci Cj hi hj=>hW.inj i j _ _ b Ci Cj (back i oi hi).choose_spec.1 (back j oj hj).choose_spec.1,fun b hb=>?_,fun b hb=>he.sub b (hW.m0 b hb),fun b hb=>?_,fun id CK b C e p=>?_,hW.MH,hW.os,hW.tape,hW.output,hW.size,hW.IN⟩
 ·rcases hm b hb with h|h
  ·exact hW.mlt b h
  ·exact h.1
 ·rcases hm b hb with h|h
  ·exact hW.OE b h
  ·exact .inr h.2.1
 ·obtain⟨ob,SY,-⟩:=back id CK e;have:=hW.own id ob b C SY p;refine⟨fun hb=>?_,this.2⟩
  rcases hm b hb with h|h
  ·exact this.1 h
  ·exact h.2.2 id ob C SY p
end
theorem Ql5{M2:Nat→Prop}{id sz len:Nat}{ob:Ob}{v:Value}(hO:OR w M φ id ob)(tS:ob.box=false)(nQ:ob.sz=sz)(hlen:ob.rows.length=len)(hv:zH w M φ (.os id sz 0 len) v)(hM:∀b,M b→M2 b)(hM2:∀b C,φ id=some (some (b,C))→M2 b):
  IR w M2 (.sl false sz ob.rows) v:=by
 rcases hv with⟨b,C,hφ,rfl,hle⟩|⟨hφ,_,rfl,A,rfl⟩
 ·obtain⟨h0,h1⟩:=hO.oc (.inl tS);rw[hφ]at h1;obtain⟨cur,g1,g2,g3,g4,g5,g6⟩:=h1;have tn:∀(i:Nat) (c:List Lf) (j:Nat) (l:Lf),ob.rows[i]?=some c→c[j]?=some l→w.cell? ⟨b,0*sz+i*sz+j,none⟩=some ((cur[i*sz+j]?).getD undef)∧IR w M2 l ((cur[i*sz+j]?).getD undef):=fun i c j l hc hj=>by
   obtain⟨u,hu,hr⟩:=(g6 i c hc).2 j l hj;rw[tS]at hr;rw[nQ]at hu;refine⟨?_,by rw[hu];exact IR.mono (fun _ _=>rfl) hM (by simpa using hr)⟩
   simp only[World.cell?,g1,Nat.zero_mul,Nat.zero_add];simp [hu]
  have key:IR w M2 (.sl false sz ob.rows) (.slice (some ⟨b,0*sz,none⟩) ob.rows.length (C-0)):=
   IR.sl false sz ob.rows b (0*sz) (C-0) (fun i j=>(cur[i*sz+j]?).getD undef) (hM2 b C hφ) (by omega) (fun h=>by cases h) (fun i c hc=>by rw[(g6 i c hc).1,nQ]) (fun i c j l hc hj=>(tn i c j l hc hj).1) (fun i c j l hc hj=>(tn i c j l hc hj).2)
  rw[hlen]at key;exact key
 ·have Ld:ob.rows=[]:=List.eq_nil_of_length_eq_zero hlen;rw[Ld];exact IR.TG false sz A 0 fun h=>by cases h
theorem QbF{sz:Nat}{l l':Lf}{v:Value}(h:wkL sz l=some l')(hv:LR w M φ l v):LR w M φ l' v:=by
 unfold wkL at h;split at h
 ·cases h;have R2:IR w M .dO v:=hv;cases R2;exact IR.lr (IR.TG false sz none 0 fun h=>by cases h)
 ·rename_i cl s rows;cases h;have R2:IR w M (.sl cl s rows) v:=hv;cases R2 with
  |TG _ _ A cap _=>exact IR.lr (IR.TG false s A cap fun h=>by cases h)
  |sl _ _ _ b k cap vs hm hl IM Oi hc hr=>exact IR.lr (IR.sl false s rows b k cap vs hm hl (fun h=>by cases h) Oi hc hr)
 ·cases h
theorem Rs.set{R:Lf→Value→Prop}:∀{ls:List Lf} {vs:List Value} {k:Nat} {l':Lf},Rs R ls vs→(∀v,vs[k]?=some v→R l' v)→Rs R (ls.set k l') vs
 | [],[],_,_,_,_=>trivial
 |l ::ls,v ::vs,0,l',h,hk=>⟨hk v rfl,h.2⟩
 |l ::ls,v ::vs,k+1,l',h,hk=>⟨h.1,Rs.set h.2 fun u hu=>hk u (by simpa using hu)⟩
 | [],_ ::_,_,_,h,_=>h.elim
 |_ ::_,[],_,_,h,_=>h.elim
theorem Qmm{k sz:Nat}{c c':Cm}{v:Value}(h:wkC k sz c=some c')(hv:CR w M φ c v):CR w M φ c' v:=by
 cases c with
 |one l =>
  simp only[wkC]at h;cases hk:(k == 0)with
  |false=>rw[hk]at h;cases h
  |true =>
   rw[hk]at h;simp only[cond_true]at h;cases hl:wkL sz l with
   |none=>rw[hl]at h;cases h
   |some l'=>rw[hl]at h;cases h;exact QbF hl hv
 |agg ls =>
  simp only[wkC]at h;split at h
  ·rename_i l hk;cases hl:wkL sz l with
   |none=>rw[hl]at h;cases h
   |some l' =>
    rw[hl]at h;cases h;obtain⟨vs,e,hr⟩:=hv;refine⟨vs,e,Rs.set hr fun u hu=>?_⟩
    obtain⟨u',hu',Vm⟩:=hr.get hk;rw[hu]at hu';cases hu';exact QbF hl Vm
  ·cases h
theorem Yg{id k:Nat}{ob:Ob}{cells:List Lf}{l l':Lf}(hW:Wd Γ φ M (hl H) w)(hid:hl H id=some ob)(tS:ob.box=true)(mC:ob.rows=[cells])(hk:cells[k]?=some l)(PY:∀v,LR w M φ l v→LR w M φ l' v):
  Wd Γ φ M (hl (H.set id (some {ob with rows:=[cells.set k l']}))) w:=by
 have hO:=hW.ic id ob hid;obtain⟨h0,h1⟩:=hO.oc (.inr ⟨_,mC⟩);cases hφ:φ id with
 |none=>rw[hφ]at h1;exact h1.elim
 |some p =>
  cases p with
  |none=>rw[hφ,tS]at h1;cases h1.2
  |some bc =>
   obtain⟨b,C⟩:=bc;rw[hφ]at h1;obtain⟨cur,g1,g2,g3,g4,g5,g6⟩:=h1;rw[WL (nP hid)];refine hW.QjH hid hφ (fun _ _=>rfl) rfl rfl rfl rfl (.inl ⟨h0,?_⟩)
   rw[hφ];refine⟨cur,g1,g2,by rw[mC]at g3;simpa using g3,g4,g5,fun i c hc=>?_⟩
   cases i with
   |succ i=>simp at hc
   |zero =>
    obtain rfl:=Option.some.inj (show some _=some c from hc);have h6:=g6 0 cells (by rw[mC];rfl)
    refine⟨by rw[List.length_set];exact h6.1,fun j x hj=>?_⟩
    by_cases hjk:j=k
    ·subst hjk;have mj:=(List.getElem?_eq_some_iff.1 hk).1;rw[List.getElem?_set_self mj]at hj;cases hj;obtain⟨v,hv,hr⟩:=h6.2 j l hk;rw[if_pos tS]at hr;exact⟨v,hv,by rw[if_pos tS];exact PY v hr⟩
    ·rw[List.getElem?_set_ne (Ne.symm hjk)]at hj;exact h6.2 j x hj
theorem Qc{t:Nat}{v:AV}{L:List (Nat×AV)}{tm:Array Value}(h:∀t,AR w M φ (look L t) (tm.getD t undef))(hv:AR w M φ v (tm.getD t undef)):∀u,AR w M φ (look ((t,v) ::L) u) (tm.getD u undef):=fun u=>by
 simp only[look];cases hk:(t == u)with
 |true=>simp only[beq_iff_eq]at hk;subst hk;exact hv
 |false=>exact h u
theorem qG{tm:Array Value}:∀{hs jC:List Hint} {σ σ':SS} {ob:List Prop} {φ:Pl} {M:Nat→Prop},ghost hs σ=some (σ',ob,jC)→d_ ob→QmU Γ σ tm w φ M→σ'.N=σ.N∧∃φ' M',QmU Γ σ' tm w φ' M'
 | [],_,σ,_,_,φ,M,hg,_,hS=>by simp only[ghost]at hg;cases hg;exact⟨rfl,φ,M,hS⟩
 |x ::hs,jC,σ,σ',ob,φ,M,hg,ho,hS=>by
  obtain⟨hF,hW,hφ⟩:=hS;cases x with
  |wait n =>
   cases n with
   |zero=>simp only[ghost]at hg;exact qG hg ho ⟨hF,hW,hφ⟩
   |succ n=>simp only[ghost]at hg;cases hg;exact⟨rfl,φ,M,hF,hW,hφ⟩
  |kX id =>
   simp only[ghost]at hg;split at hg
   ·rename_i o1 hid;cases tS:o1.box with
    |true=>rw[tS]at hg;cases hg
    |false =>
     rw[tS]at hg;simp only[cond_false]at hg;split at hg
     ·rename_i σ2 o2 hs2 hg2;cases hg;simp only[bC]at ho;have hO:=hW.ic id o1 hid;have hM2:∀b,M b→(fun b=>M b∨∃C,φ id=some (some (b,C))) b:=fun _ h=>.inl h
      have he:Ex w M φ w (fun b=>M b∨∃C,φ id=some (some (b,C))) φ:=⟨fun _ _=>rfl,hM2,fun _ _ h=>h⟩
      have hf:∀l v,LR w M φ l v→d_ (QaB id o1.sz o1.rows l).2→LR w (fun b=>M b∨∃C,φ id=some (some (b,C))) φ (QaB id o1.sz o1.rows l).1 v:=fun l v hv hp=>by
       unfold QaB at hp ⊢;split
       ·rename_i i s off len;cases hc:(i == id&&s == o1.sz&&off == 0)with
        |false=>exact hv.mono he
        |true =>
         simp only[hc,cond_true]at hp;simp only[Bool.and_eq_true,beq_iff_eq]at hc;obtain⟨⟨rfl,rfl⟩,rfl⟩:=hc;exact IR.lr (Ql5 hO tS rfl hp.1 hv hM2 fun b C h=>.inr ⟨C,h⟩)
       ·exact hv.mono he
      have hW0:Wd Γ φ M (hl (σ.H.set id none)) w:=hW.less fun k CK hk=>by
       by_cases hki:k=id
       ·subst hki;rw[xa (nP hid)]at hk;cases hk
       ·rw[BB hki]at hk;exact hk
      have hW1:=Qla hf he hW0 ho.1.2 fun b hb=>by
       rcases hb with h|⟨C,h⟩
       ·exact .inl h
       ·obtain⟨q1,q2,q3⟩:=hW.own id o1 b C hid h;refine .inr ⟨q2,q3,fun k CK C' hk hp=>?_⟩
        by_cases hki:k=id
        ·subst hki;rw[xa (nP hid)]at hk;cases hk
        ·rw[BB hki]at hk;exact hki (hW.inj k id CK o1 b C' C hk hid hp h)
      obtain⟨hN,φ',M',Rv⟩:=qG hg2 ho.2 ⟨ME hf he hF ho.1.1,hW1,fun k hk=>hφ k (by simpa [R0]using hk)⟩
      exact⟨hN,φ',M',Rv⟩
     ·cases hg
   ·cases hg
  |Qk_ id =>
   simp only[ghost]at hg;split at hg
   ·rename_i o1 hid;split at hg
    ·rename_i cells tS mC;cases hi:cells.all S3 with
     |false=>rw[hi]at hg;cases hg
     |true =>
      rw[hi]at hg;simp only[cond_true]at hg;split at hg
      ·rename_i σ2 o2 hs2 hg2;cases hg;simp only[bC]at ho;have hO:=hW.ic id o1 hid;have hM2:∀b,M b→(fun b=>M b∨∃C,φ id=some (some (b,C))) b:=fun _ h=>.inl h
       have he:Ex w M φ w (fun b=>M b∨∃C,φ id=some (some (b,C))) φ:=⟨fun _ _=>rfl,hM2,fun _ _ h=>h⟩
       have hf:∀l v,LR w M φ l v→d_ (SP id o1.sz cells l).2→LR w (fun b=>M b∨∃C,φ id=some (some (b,C))) φ (SP id o1.sz cells l).1 v:=fun l v hv hp=>by
        unfold SP;split
        ·rename_i i s row off;cases hc:(i == id&&row == 0)with
         |false=>exact hv.mono he
         |true =>
          simp only[Bool.and_eq_true,beq_iff_eq]at hc;obtain⟨rfl,rfl⟩:=hc;obtain⟨b,C,hφb,rfl⟩:=(hv:zH w M φ (.op i s 0 off) v);have tn:∀(j:Nat) (l:Lf),cells[j]?=some l→∃u,w.cell? ⟨b,0+j,none⟩=some u∧IR w M l u:=fun j l hj=>by
           obtain⟨u,hu,hr⟩:=hO.Yl (i:=0) (.inr ⟨_,mC⟩) hφb (by rw[mC];rfl) j l hj
           exact⟨u,by rw[Nat.zero_mul]at hu;exact hu,LR.S2 (List.all_eq_true.1 hi l (List.mem_of_getElem? hj)) hr⟩
          have key:IR w (fun b=>M b∨∃C,φ i=some (some (b,C))) (.ip cells off) (.pointer (some ⟨b,0+off,none⟩)):=by
           refine IR.ip cells off b 0 (fun i=>(w.cell? ⟨b,0+i,none⟩).getD undef) (.inr ⟨C,hφb⟩) (fun i l hl=>?_) (fun i l hl=>?_)
           ·obtain⟨u,hu,hr⟩:=tn i l hl;simp only[hu,Option.getD_some]
           ·obtain⟨u,hu,hr⟩:=tn i l hl;simp only[hu,Option.getD_some];exact hr.mono (fun _ _=>rfl) hM2
          rw[show 0*s+off=0+off by rw[Nat.zero_mul]]
          exact IR.lr key
        ·exact hv.mono he
       have hW0:Wd Γ φ M (hl (σ.H.set id none)) w:=hW.less fun k CK hk=>by
        by_cases hki:k=id
        ·subst hki;rw[xa (nP hid)]at hk;cases hk
        ·rw[BB hki]at hk;exact hk
       have hW1:=Qla hf he hW0 ho.1.2 fun b hb=>by
        rcases hb with h|⟨C,h⟩
        ·exact .inl h
        ·obtain⟨q1,q2,q3⟩:=hW.own id o1 b C hid h;refine .inr ⟨q2,q3,fun k CK C' hk hp=>?_⟩
         by_cases hki:k=id
         ·subst hki;rw[xa (nP hid)]at hk;cases hk
         ·rw[BB hki]at hk;exact hki (hW.inj k id CK o1 b C' C hk hid hp h)
       obtain⟨hN,φ',M',Rv⟩:=qG hg2 ho.2 ⟨ME hf he hF ho.1.1,hW1,fun k hk=>hφ k (by simpa [R0]using hk)⟩
       exact⟨hN,φ',M',Rv⟩
      ·cases hg
    ·cases hg
   ·cases hg
  |xo id n =>
   simp only[ghost]at hg;split at hg
   ·rename_i σ2 o2 hs2 hg2;cases hg;simp only[bC]at ho;have hf:∀l v,LR w M φ l v→d_ (Qbj id n l).2→LR w M φ (Qbj id n l).1 v:=fun l v hv hp=>by
     unfold Qbj at hp ⊢;split
     ·rename_i i s off len;cases hc:(i == id&&off == 0)with
      |false=>exact hv
      |true=>simp only[hc,cond_true]at hp;obtain⟨rfl,-⟩:=hp;exact hv
     ·exact hv
    obtain⟨hN,φ',M',Rv⟩:=qG hg2 ho.2 ⟨ME hf (Ex.refl _ _ _) hF ho.1.1,Qla hf (Ex.refl _ _ _) hW ho.1.2 fun b hb=>.inl hb,fun k hk=>hφ k (by simpa [R0]using hk)⟩
    exact⟨hN,φ',M',Rv⟩
   ·cases hg
  |rh t k sz =>
   simp only[ghost]at hg;split at hg
   ·rename_i c hc;split at hg
    ·rename_i c' hwk;have hv:=hF t;rw[hc]at hv;obtain⟨hN,φ',M',Rv⟩:=qG hg ho ⟨Qc hF (Qmm hwk hv:CR w M φ c' _),hW,hφ⟩;exact⟨hN,φ',M',Rv⟩
    ·cases hg
   ·cases hg
  |fW id k sz =>
   simp only[ghost]at hg;split at hg
   ·rename_i o1 hid;split at hg
    ·rename_i cells tS mC;split at hg
     ·rename_i l hk;split at hg
      ·rename_i l' hwk;obtain⟨hN,φ',M',Rv⟩:=qG hg ho ⟨hF,Yg hW hid tS mC hk fun v hv=>QbF hwk hv,fun k hk=>hφ k (by simpa using hk)⟩
       exact⟨hN,φ',M',Rv⟩
      ·cases hg
     ·cases hg
    ·cases hg
   ·cases hg
  |lP t sz e =>
   simp only[ghost]at hg;split at hg
   ·rename_i hc;cases hz:(sz == 0)with
    |true=>rw[hz]at hg;cases hg
    |false =>
     rw[hz]at hg;have hv:=hF t;rw[hc]at hv;have Up:φ σ.H.length=none:=hφ _ (Nat.le_refl _);have hh':hl σ.H σ.H.length=none:=by unfold hl;rw[List.getElem?_eq_none (Nat.le_refl _)];rfl
     have he:Ex w M φ w M (K9 φ σ.H.length none):=⟨fun _ _=>rfl,fun _ h=>h,wa _ Up⟩
     have R2:IR w M .dO (tm.getD t undef):=hv;have hvn:∃A,tm.getD t undef=.slice A 0 0:=by
      generalize tm.getD t undef=u at R2;cases R2;exact⟨none,rfl⟩
     obtain⟨hN,φ',M',Rv⟩:=qG hg ho ⟨Qc (fun u=>AR.mono he (hF u)) (.inr ⟨fB _ _ _,rfl,rfl,hvn⟩:zH w M (K9 φ σ.H.length none) (.os σ.H.length sz 0 0) _),
      (by rw [WN]; exact hW.MV (⟨false,sz,e,[]⟩:Ob) Up hh' rfl rfl (by simp only [beq_eq_false_iff_ne] at hz; show 0<sz; omega)),fun k hk=>by
       simp only[List.length_append,List.length_singleton]at hk;rw[tg _ (by omega)];exact hφ k (by omega)⟩
     exact⟨hN,φ',M',Rv⟩
   ·cases hg
  |nN id k sz e =>
   simp only[ghost]at hg;split at hg
   ·rename_i o1 hid;split at hg
    ·rename_i cells tS mC;split at hg
     ·rename_i hk;cases hz:(sz == 0)with
      |true=>rw[hz]at hg;cases hg
      |false =>
       rw[hz]at hg;simp only[cond_false]at hg;have Up:φ σ.H.length=none:=hφ _ (Nat.le_refl _);have hh':hl σ.H σ.H.length=none:=by unfold hl;rw[List.getElem?_eq_none (Nat.le_refl _)];rfl
       have he:Ex w M φ w M (K9 φ σ.H.length none):=⟨fun _ _=>rfl,fun _ h=>h,wa _ Up⟩
       have hW1:Wd Γ (K9 φ σ.H.length none) M (hl (σ.H++[some ⟨false,sz,e,[]⟩])) w:=by
        rw[WN];exact hW.MV (⟨false,sz,e,[]⟩:Ob) Up hh' rfl rfl (by simp only[beq_eq_false_iff_ne]at hz;show 0<sz;omega)
       have mj:=nP hid;have QpR:hl (σ.H++[some ⟨false,sz,e,[]⟩]) id=some o1:=by rw[WN];dsimp only;rw[if_neg (by omega)];exact hid
       have hW2:=Yg (k:=k) (l:=.dO) (l':=.os σ.H.length sz 0 0) hW1 QpR tS mC hk fun v hv=>by
        have R2:IR w M .dO v:=hv;cases R2;exact .inr ⟨fB _ _ _,rfl,rfl,none,rfl⟩
       rw[List.set_append_left _ _ mj]at hW2;obtain⟨hN,φ',M',Rv⟩:=qG hg ho ⟨fun u=>AR.mono he (hF u),hW2,fun k hk=>by
        simp only[List.length_append,List.length_set,List.length_singleton]at hk;rw[tg _ (by omega)];exact hφ k (by omega)⟩
       exact⟨hN,φ',M',Rv⟩
     ·cases hg
    ·cases hg
   ·cases hg
  |bit b=>simp only[ghost]at hg;cases hg;exact⟨rfl,φ,M,hF,hW,hφ⟩
  |spec=>simp only[ghost]at hg;cases hg;exact⟨rfl,φ,M,hF,hW,hφ⟩
  |skip=>simp only[ghost]at hg;cases hg;exact⟨rfl,φ,M,hF,hW,hφ⟩
  |cells c=>simp only[ghost]at hg;cases hg;exact⟨rfl,φ,M,hF,hW,hφ⟩
  |rows c=>simp only[ghost]at hg;cases hg;exact⟨rfl,φ,M,hF,hW,hφ⟩
  |num n=>simp only[ghost]at hg;cases hg;exact⟨rfl,φ,M,hF,hW,hφ⟩
  |byte b=>simp only[ghost]at hg;cases hg;exact⟨rfl,φ,M,hF,hW,hφ⟩
  |ints b=>simp only[ghost]at hg;cases hg;exact⟨rfl,φ,M,hF,hW,hφ⟩
  |draw n cl=>simp only[ghost]at hg;cases hg;exact⟨rfl,φ,M,hF,hW,hφ⟩
  |call i r out=>simp only[ghost]at hg;cases hg;exact⟨rfl,φ,M,hF,hW,hφ⟩
end
end
section
open Go.RowKit
section
variable {P : Program} {Γ : bn} {φ φ' : Pl} {M M' : Nat → Prop} {w w' : World} {a : Act} {hs : List Hint} {o : Oper} {ops : Array Oper} {Q : Exit → Act → World → Prop}
theorem Cr(a:Act)(d:Option Nat)(v:Value):(a.put d v).tmps.size=a.tmps.size:=by
 cases d <;> simp [Act.put]
theorem put_defers(a:Act)(d:Option Nat)(v:Value):(a.put d v).defers=a.defers:=by
 cases d <;> rfl
theorem Xe{d t:Nat}{v:Value}(hd:d<a.tmps.size):(a.put (some d) v).tmps.getD t undef=if d=t then v else a.tmps.getD t undef:=by
 simp only[Act.put,Array.getD_eq_getD_getElem?,Array.getElem?_setIfInBounds];by_cases h:d=t
 ·subst h;rw[if_pos rfl,if_pos rfl,if_pos hd];rfl
 ·rw[if_neg h,if_neg h]
theorem K4{N:Nat}{d:Option Nat}{L:List (Nat×AV)}{v:AV}{cv:Value}(hd:Mh N d=true)(hN:a.tmps.size=N)(hF:∀t,AR w M φ (look L t) (a.tmps.getD t undef))(hv:AR w M φ v cv):
  ∀t,AR w M φ (look (OX d v L) t) ((a.put d cv).tmps.getD t undef):=fun t=>by
 cases d with
 |none=>exact hF t
 |some d =>
  have mj:d<a.tmps.size:=by rw[hN];have:=Nat.le_of_ble_eq_true hd;omega
  rw[Xe mj];simp only[OX,look];by_cases h:d=t
  ·subst h;rw[if_pos rfl];simp;exact hv
  ·rw[if_neg h];have:(d == t)=false:=by simpa using h
   rw[this];exact hF t
theorem WK{H:List (Option Ob)}{news:List Ob}:hl (H++news.map some)=VQ (hl H) H.length news:=by
 funext id
 unfold VQ hl;by_cases h:H.length≤id∧id<H.length+news.length
 ·rw[if_pos h,List.getElem?_append_right h.1,List.getElem?_map];cases news[id-H.length]? <;> rfl
 ·rw[if_neg h];rcases Nat.lt_or_ge id H.length with h1|h1
  ·rw[List.getElem?_append_left h1]
  ·rw[List.getElem?_eq_none (by simp;omega),List.getElem?_eq_none h1]
theorem SO{H:List (Option Ob)}{id:Nat}(h:H.length≤id):hl H id=none:=by
 unfold hl;rw[List.getElem?_eq_none h];rfl
theorem FE{H:List (Option Ob)}:∀{Ar:List (Nat×Option Ob)},(ZF H Ar).length=H.length
 | []=>rfl
 |(u,o) ::r=>by simp only[ZF,List.length_set];exact FE
theorem WM{H:List (Option Ob)}:∀{Ar:List (Nat×Option Ob)},(∀u∈Ar,u.1<H.length)→hl (ZF H Ar)=QM (hl H) Ar
 | [],_=>rfl
 |(u,o) ::r,h=>by
  have ih:=WM (H:=H) (Ar:=r) fun x hx=>h x (List.mem_cons_of_mem _ hx)
  have hu:u<(ZF H r).length:=by rw[FE];exact h (u,o) List.mem_cons_self
  funext i
  simp only[ZF];unfold QM;simp only[tk];by_cases hi:u=i
  ·subst hi;rw[xa hu];simp
  ·have:(u == i)=false:=by simpa using hi
   rw[BB (fun e=>hi e.symm),ih,this];rfl
theorem Ha{σ:SS}{s:St}(hd:Mh σ.N o.dst=true)(hf:Ns P o σ hs=some s)(dX:d_ s.ic)(hS:Rk Γ σ a w){K:Act→World→Prop}(hK:∀a' w',Rk Γ s.σ a' w'→K a' w'):o.wp P a w K NQ:=by
 obtain⟨hN,PW,φ,M,hF,hW,hφ⟩:=hS;unfold Ns at hf;split at hf
 ·rename_i r hr;cases hf;refine PJ hr dX hF hW (fun _ _ h=>h) (fun id h1 h2=>⟨hφ id h1,SO h1⟩) fun v w' φ' M' hv sN he hn=>hK _ _ ⟨by rw[Cr];exact hN,by rw[put_defers];exact PW,φ',M',?_,?_,?_⟩
  ·exact K4 hd hN (fun t=>AR.mono he (hF t)) hv
  ·rw[WK];exact sN
  ·intro id hid;simp only[List.length_append,List.length_map]at hid;refine Classical.byContradiction fun h=>?_
   rcases hn id h with h1|h1
   ·exact h1 (hφ id (by omega))
   ·omega
 ·split at hf
  ·rename_i r hr;cases hf;refine Qd7 hW hF hφ hr dX fun v w' hm=>?_
   obtain⟨φ',hv,sN,he,hφ'⟩:=hm;exact hK _ _ ⟨by rw[Cr];exact hN,by rw[put_defers];exact PW,φ',M,K4 hd hN (fun t=>AR.mono he (hF t)) hv,sN,hφ'⟩
  ·split at hf
   ·rename_i r hr;cases hf;refine Wc hr dX hF hW (fun _ _ h=>h) (fun id h1 h2=>⟨hφ id h1,SO h1⟩) fun v w' hm=>?_
    obtain⟨φ',M',hv,sN,he,hn⟩:=hm;refine hK _ _ ⟨by rw[Cr];exact hN,by rw[put_defers];exact PW,φ',M',K4 hd hN (fun t=>AR.mono he (hF t)) hv,?_,?_⟩
    ·have hu:∀u∈r.Ar,u.1<σ.H.length:=fun u hu=>let⟨ob,h⟩:=TX hr u hu;nP h
     rw[WK,FE,WM hu];exact sN
    ·intro id hid;simp only[List.length_append,List.length_map,FE]at hid;refine Classical.byContradiction fun h=>?_
     rcases hn id h with h1|h1
     ·exact h1 (hφ id (by omega))
     ·omega
   ·cases hf
theorem th{L:Nat→AV}{j:Nat}{b:Bool}(hF:∀t,AR w M φ (L t) (a.tmps.getD t undef)){v:AV}(hg:((ops[j]?).bind (·.dst)).map L=some v)(hv:∀cv,AR w M φ v cv→cv=.bool b):yielded ops a.tmps j=some b:=by
 unfold yielded;cases hd:(ops[j]?).bind (·.dst)with
 |none=>rw[hd]at hg;cases hg
 |some t =>
  rw[hd]at hg;have h1:L t=v:=by simpa using hg
  have h2:=hF t;rw[h1]at h2;have h3:=hv _ h2;rw[Array.getD_eq_getD_getElem?]at h3;simp only[Option.bind_some];cases ht:a.tmps[t]? with
  |none=>rw[ht]at h3;cases h3
  |some u=>rw[ht]at h3;simp at h3;subst h3;rfl
theorem Er{L:Nat→AV}{j:Nat}(hF:∀t,AR w M φ (L t) (a.tmps.getD t undef)){v:AV}(hg:((ops[j]?).bind (·.dst)).map L=some v)(hv:∀cv,AR w M φ v cv→cv=undef):yielded ops a.tmps j=none:=by
 unfold yielded;cases hd:(ops[j]?).bind (·.dst)with
 |none=>rfl
 |some t =>
  rw[hd]at hg;have h1:L t=v:=by simpa using hg
  have h2:=hF t;rw[h1]at h2;have h3:=hv _ h2;rw[Array.getD_eq_getD_getElem?]at h3;simp only[Option.bind_some];cases ht:a.tmps[t]? with
  |none=>rfl
  |some u=>rw[ht]at h3;simp at h3;subst h3;rfl
theorem Ah{b:Bool}{cv:Value}(h:AR w M φ (.cm (.one (.bool b))) cv):cv=.bool b:=by
 have h':IR w M (.bool b) cv:=h;cases h';rfl
theorem TO{σ:SS}{p:Prop} [Decidable p] {r:Pu}{v:AV}(hd:Mh σ.N o.dst=true)(hw:Region.wanted o (yielded ops a.tmps)=decide p)(hN:a.tmps.size=σ.N)(PW:a.defers=[])(hF:∀t,AR w M φ (look σ.L t) (a.tmps.getD t undef))(hW:Wd Γ φ M (hl σ.H) w)(hφ:∀id,σ.H.length≤id→φ id=none)
  (hf:Av P (hl σ.H) σ.H.length p (look σ.L) o.op hs=some r) (sR:r.news.isEmpty=true) (hv:gdv p r.v=some v) (dX:d_ r.ic) {K:Act→World→Prop} (hK:∀a' w',Rk Γ ⟨σ.N,OX o.dst v σ.L,σ.H⟩ a' w'→K a' w'):
  (if Region.wanted o (yielded ops a.tmps)=true then o.wp P a w K NQ else K (a.put o.dst undef) w):=by
 rw[hw];have Z0:∃c,r.v=.cm c∧v=.gd p c:=by
  unfold gdv at hv;split at hv
  ·rename_i c hc;cases hv;exact⟨c,hc,rfl⟩
  ·cases hv
 obtain⟨c,hc,rfl⟩:=Z0;have D0:r.news=[]:=by simpa using sR
 by_cases hp:p
 ·rw[if_pos (by simpa using hp)]
  obtain⟨v,w',φ',ec,hr,sN,AK,hn,hb⟩:=KR (φ:=φ) (M:=M) (hD:=hl σ.H) hf dX hp hF hW (fun _ _ h=>h) (fun id h1 h2=>⟨hφ id h1,SO h1⟩)
  unfold Oper.wp;rw[ec];have he:Ex w M φ w' M φ':=⟨hb,fun _ h=>h,AK⟩
  rw[hc]at hr;rw[D0,yG]at sN;refine hK _ _ ⟨by rw[Cr];exact hN,by rw[put_defers];exact PW,φ',M,K4 hd hN (fun t=>AR.mono he (hF t)) ⟨fun _=>hr,fun h=>absurd hp h⟩,sN,fun id hid=>?_⟩
  refine Classical.byContradiction fun h=>?_
  rcases hn id h with h1|h1
  ·exact h1 (hφ id hid)
  ·rw[D0]at h1;simp at h1;omega
 ·rw[if_neg (by simpa using hp)]
  exact hK _ _ ⟨by rw[Cr];exact hN,by rw[put_defers];exact PW,φ,M,K4 hd hN hF ⟨fun h=>absurd h hp,fun _=>rfl⟩,hW,hφ⟩
theorem No{σ:SS}(hd:Mh σ.N o.dst=true)(hS:Rk Γ σ a w):Rk Γ ⟨σ.N,OX o.dst und σ.L,σ.H⟩ (a.put o.dst undef) w:=by
 obtain⟨hN,PW,φ,M,hF,hW,hφ⟩:=hS;exact⟨by rw[Cr];exact hN,by rw[put_defers];exact PW,φ,M,K4 hd hN hF ⟨False.elim,fun _=>rfl⟩,hW,hφ⟩
theorem Xz{σ:SS}{s:St}(hf:Qbu P ops o σ hs=some s)(dX:d_ s.ic)(hS:Rk Γ σ a w){K:Act→World→Prop}(hK:∀a' w',Rk Γ s.σ a' w'→K a' w'):
  (if Region.wanted o (yielded ops a.tmps)=true then o.wp P a w K NQ else K (a.put o.dst undef) w):=by
 unfold Qbu at hf;cases hd:Mh σ.N o.dst with
 |false=>rw[hd]at hf;cases hf
 |true =>
  rw[hd]at hf;simp only[Bool.not_true,cond_false]at hf;have hS0:=hS;obtain⟨hN,PW,φ,M,hF,hW,hφ⟩:=hS;split at hf
  ·rename_i hg;have hw:Region.wanted o (yielded ops a.tmps)=true:=by unfold Region.wanted;rw[hg]
   rw[if_pos hw];exact Ha hd hf dX hS0 hK
  ·rename_i j want hg;have hwt:Region.wanted o (yielded ops a.tmps)=(yielded ops a.tmps j == some want):=by unfold Region.wanted;rw[hg]
   split at hf
   ·rename_i b t jC hv;have hy:yielded ops a.tmps j=some b:=th hF hv fun cv h=>Ah h
    cases XS:(t == want)with
    |true =>
     rw[XS]at hf;simp only[cond_true]at hf;cases hdo:Ns P o σ jC with
     |none=>rw[hdo]at hf;cases hf
     |some s0 =>
      rw[hdo]at hf;cases hf;obtain⟨T4,ho⟩:=dX;rw[hwt,hy,T4,if_pos (by simpa using XS)]
      exact Ha hd hdo ho hS0 hK
    |false =>
     rw[XS]at hf;cases hf;obtain⟨T4,-⟩:=dX;rw[hwt,hy,T4,if_neg (by simpa using XS)]
     exact hK _ _ (No hd hS0)
   ·rename_i p b t jC hv;cases XS:(t == want)with
    |true =>
     rw[XS]at hf;simp only[cond_true]at hf;cases hdo:Ns P o σ jC with
     |none=>rw[hdo]at hf;cases hf
     |some s0 =>
      rw[hdo]at hf;cases hf;obtain⟨⟨hp,T4⟩,ho⟩:=dX;have hy:yielded ops a.tmps j=some b:=th (w:=w) (φ:=φ) (M:=M) hF hv fun cv h=>Ah (w:=w) (φ:=φ) (M:=M) (h.1 hp)
      rw[hwt,hy,T4,if_pos (by simpa using XS)]
      exact Ha hd hdo ho hS0 hK
    |false =>
     rw[XS]at hf;cases hf;obtain⟨⟨hp,T4⟩,-⟩:=dX;have hy:yielded ops a.tmps j=some b:=th (w:=w) (φ:=φ) (M:=M) hF hv fun cv h=>Ah (w:=w) (φ:=φ) (M:=M) (h.1 hp)
     rw[hwt,hy,T4,if_neg (by simpa using XS)]
     exact hK _ _ (No hd hS0)
   ·rename_i p b jC hv;cases hf;have hy:yielded ops a.tmps j=none:=Er (φ:=φ) (M:=M) hF hv fun cv h=>h.2 dX.1
    rw[hwt,hy,if_neg (by simp)]
    exact hK _ _ (No hd hS0)
   ·rename_i b jC hv;have hy:yielded ops a.tmps j=some b:=th hF hv fun cv h=>Ah h
    split at hf
    ·rename_i r hr;cases sR:r.news.isEmpty with
     |false=>rw[sR]at hf;cases hf
     |true =>
      rw[sR]at hf;simp only[cond_true]at hf;cases Z0:gdv (b=want) r.v with
      |none=>rw[Z0]at hf;cases hf
      |some v =>
       rw[Z0]at hf;cases hf;exact TO (p:=b=want) hd (by rw[hwt,hy];cases b <;> cases want <;> rfl) hN PW hF hW hφ hr sR Z0 dX hK
    ·cases hf
   ·rename_i p b jC hv;split at hf
    ·rename_i r hr;cases sR:r.news.isEmpty with
     |false=>rw[sR]at hf;cases hf
     |true =>
      rw[sR]at hf;simp only[cond_true]at hf;cases Z0:gdv (p∧b=want) r.v with
      |none=>rw[Z0]at hf;cases hf
      |some v =>
       rw[Z0]at hf;cases hf
       haveI:Decidable (p∧b=want):=Classical.propDecidable _
       refine TO (p:=p∧b=want) hd ?_ hN PW hF hW hφ hr sR Z0 dX hK;rw[hwt];by_cases hp:p
       ·have hy:yielded ops a.tmps j=some b:=th (w:=w) (φ:=φ) (M:=M) hF hv fun cv h=>Ah (w:=w) (φ:=φ) (M:=M) (h.1 hp)
        rw[hy];by_cases hb:b=want
        ·simp [hp,hb]
        ·simp [hp,hb]
       ·have hy:yielded ops a.tmps j=none:=Er (φ:=φ) (M:=M) hF hv fun cv h=>h.2 hp
        rw[hy];simp [hp]
    ·cases hf
   ·cases hf
theorem KS{σ σ':SS}{ob:List Prop}{jC:List Hint}(hg:ghost hs σ=some (σ',ob,jC))(ho:d_ ob)(hS:Rk Γ σ a w):Rk Γ σ' a w:=by
 obtain⟨hN,PW,φ,M,hC⟩:=hS;obtain⟨h1,φ',M',h2⟩:=qG hg ho hC;exact⟨by rw[h1];exact hN,PW,φ',M',h2⟩
theorem Eo:∀(l:List Oper) {σ:SS} {hs:List Hint} {s:St} {a:Act} {w:World},Bw P ops l σ hs=some s→d_ s.ic→Rk Γ σ a w→(∀a' w',Rk Γ s.σ a' w'→Q .normal a' w')→wpList P ops Q l a w
 | [],σ,hs,s,a,w,hf,_,hS,hQ=>by cases hf;exact hQ a w hS
 |o ::l,σ,hs,s,a,w,hf,dX,hS,hQ=>by
  simp only[Bw]at hf;split at hf
  ·rename_i σ0 o0 Z4 hg;split at hf
   ·rename_i s1 h1;split at hf
    ·rename_i s2 h2;cases hf;simp only[bC]at dX;have hS0:=KS hg dX.1.1 hS;have h3:=Xz (K:=wpList P ops Q l) h1 dX.1.2 hS0 fun a' w' Rv=>Eo l h2 dX.2 Rv hQ
     simp only[wpList];split
     ·rename_i hw;rw[if_pos hw]at h3;exact .inl (Qdb (fun _ _ h=>h) h3)
     ·rename_i hw;rw[if_neg hw]at h3;exact h3
    ·cases hf
   ·cases hf
  ·cases hf
end
end
section
open Go.RowKit
section
variable {P : Program} {Γ : bn} {φ φ' : Pl} {M M' : Nat → Prop} {w w' : World} {a : Act} {hs : List Hint} {o : Oper} {ops : Array Oper} {Q : Exit → Act → World → Prop} {σ : SS} {nn : List Nat} {cl : List (Nat × Nat)}
inductive UJ (lo:Nat):List Dn→Nat→Nat→Prop
 |nil:UJ lo [] 0 lo
 |cons {r:List Dn} {i b:Nat} (dst:Option Nat) (v:AV) (news:List Ob) (Ar:List (Nat×Option Ob)) (rd:List (Nat×Nat×Nat×List Lf)):UJ lo r i b→UJ lo (⟨i,dst,v,b,news,Ar,rd⟩ ::r) (i+1) (b+news.length)
theorem UJ.lt{lo i b:Nat}{l:List Dn}(h:UJ lo l i b):lo≤b∧∀d∈l,d.i<i∧lo≤d.base∧d.base+d.news.length≤b:=by
 induction h with
 |nil=>exact⟨Nat.le_refl _,fun d hd=>by cases hd⟩
 |cons dst v news Ar rd _ ih =>
  refine⟨by omega,fun d hd=>?_⟩
  rcases List.mem_cons.1 hd with rfl|hd
  ·exact⟨Nat.lt_succ_self _,ih.1,Nat.le_refl _⟩
  ·have:=ih.2 d hd;omega
theorem UJ.inj{lo i b:Nat}{l:List Dn}(h:UJ lo l i b):∀x∈l,∀y∈l,x.i=y.i→x=y:=by
 induction h with
 |nil=>intro x hx;cases hx
 |cons dst v news Ar rd h ih =>
  have hl:=h.lt.2;intro x hx y hy e;rcases List.mem_cons.1 hx with rfl|hx <;> rcases List.mem_cons.1 hy with rfl|hy
  ·rfl
  ·have:=(hl y hy).1;simp only at e;omega
  ·have:=(hl x hx).1;simp only at e;omega
  ·exact ih x hx y hy e
theorem EG{lo i b:Nat}{H:List (Option Ob)}{S:Nat→Bool}{l:List Dn}(h:UJ lo l i b){id:Nat}(hid:b≤id∨id<lo):yX H S l id=hl H id:=by
 induction h with
 |nil=>rfl
 |cons dst v news Ar rd h ih =>
  rename_i r i b;have hlo:=h.lt.1;simp only[yX];have e1:(Nat.ble b id&&Nat.blt id (b+news.length))=false:=by
   rw[Bool.and_eq_false_iff];rcases hid with h1|h1
   ·right;rw[←Bool.not_eq_true];intro h2;have:=Nat.le_of_ble_eq_true h2;omega
   ·left;rw[←Bool.not_eq_true];intro h2;have:=Nat.le_of_ble_eq_true h2;omega
  rw[e1];refine ih ?_
  rcases hid with h1|h1
  ·left;omega
  ·right;exact h1
theorem uF{lo i b:Nat}{H:List (Option Ob)}{S:Nat→Bool}{l:List Dn}(h:UJ lo l i b){d:Dn}(hd:d∈l){id:Nat}(h1:d.base≤id)(h2:id<d.base+d.news.length):yX H S l id=bif S d.i then d.news[id-d.base]? else none:=by
 induction h with
 |nil=>cases hd
 |cons dst v news Ar rd h ih =>
  rename_i r i b;simp only[yX];rcases List.mem_cons.1 hd with rfl|hd
  ·have e1:(Nat.ble b id&&Nat.blt id (b+news.length))=true:=by
    rw[Bool.and_eq_true];exact⟨Nat.ble_eq_true_of_le h1,Nat.ble_eq_true_of_le h2⟩
   rw[e1];rfl
  ·have:=(h.lt.2 d hd).2.2;have e1:(Nat.ble b id&&Nat.blt id (b+news.length))=false:=by
    rw[Bool.and_eq_false_iff];left;rw[←Bool.not_eq_true];intro h3;have:=Nat.le_of_ble_eq_true h3;omega
   rw[e1];exact ih hd
theorem zW{lo i b:Nat}{H:List (Option Ob)}{S:Nat→Bool}{l:List Dn}(h:UJ lo l i b)(id:Nat):(∃d∈l,d.base≤id∧id<d.base+d.news.length)∨((b≤id∨id<lo)∧yX H S l id=hl H id):=by
 by_cases hid:b≤id∨id<lo
 ·exact .inr ⟨hid,EG h hid⟩
 ·left;induction h with
  |nil=>omega
  |cons dst v news Ar rd h ih =>
   rename_i r i b;by_cases h1:b≤id
   ·exact⟨_,List.mem_cons_self,h1,by simp only;omega⟩
   ·obtain⟨d,hd,h2⟩:=ih (by omega)
    exact⟨d,List.mem_cons_of_mem _ hd,h2⟩
theorem mr{L:List (Nat×AV)}{S:Nat→Bool}{t:Nat}:∀{l:List Dn},(∃d∈l,d.dst=some t∧S d.i=true∧zX L nn S l t=d.v)∨((∀d∈l,d.dst=some t→S d.i=false)∧zX L nn S l t=bif nn.contains t then .RO else look L t)
 | []=>.inr ⟨fun d hd=>(by cases hd),rfl⟩
 |d ::r=>by
  simp only[zX];cases hc:(d.dst == some t&&S d.i)with
  |true =>
   simp only[Bool.and_eq_true,beq_iff_eq]at hc;exact .inl ⟨d,List.mem_cons_self,hc.1,hc.2,rfl⟩
  |false =>
   simp only[Bool.and_eq_false_iff,beq_eq_false_iff_ne]at hc;rcases mr (L:=L) (S:=S) (t:=t) (l:=r)with⟨x,hx,h1,h2,h3⟩|⟨h1,h2⟩
   ·exact .inl ⟨x,List.mem_cons_of_mem _ hx,h1,h2,h3⟩
   ·refine .inr ⟨fun x hx e=>?_,h2⟩
    rcases List.mem_cons.1 hx with rfl|hx
    ·rcases hc with h|h
     ·exact absurd e h
     ·exact h
    ·exact h1 x hx e
theorem By{id:Nat}{o:Option Ob}:∀{l:List (Nat×Option Ob)},tk l id=some o→(id,o)∈l
 | [],h=>by cases h
 |(u,x) ::r,h=>by
  simp only[tk]at h;cases hu:(u == id)with
  |true =>
   rw[hu]at h;cases h;have:u=id:=by simpa using hu
   subst this;simp
  |false=>rw[hu]at h;exact List.mem_cons_of_mem _ (By h)
theorem CI{S:Nat→Bool}{id:Nat}:∀{l:List Dn},(∀x∈l,∀ob,(id,ob)∈x.Ar→S x.i=false)→vT S l id=none
 | [],_=>rfl
 |d ::r,h=>by
  have ih:=CI (S:=S) (id:=id) (l:=r) fun x hx=>h x (List.mem_cons_of_mem _ hx)
  simp only[vT];split
  ·rename_i ob hu;cases hc:S d.i with
   |false=>rw[hc]at hu;cases hu
   |true =>
    rw[hc]at hu;have:=h d List.mem_cons_self ob (By hu);rw[hc]at this;cases this
  ·exact ih
theorem KJ{S S':Nat→Bool}{id:Nat}:∀{l:List Dn},(∀x∈l,∀ob,(id,ob)∈x.Ar→S x.i=S' x.i)→vT S l id=vT S' l id
 | [],_=>rfl
 |d ::r,h=>by
  have ih:=KJ (S:=S) (S':=S') (id:=id) (l:=r) fun x hx=>h x (List.mem_cons_of_mem _ hx)
  simp only[vT];rw[ih];cases hf:tk d.Ar id with
  |none=>cases S d.i <;> cases S' d.i <;> rfl
  |some ob=>rw[h d List.mem_cons_self ob (By hf)]
theorem TV{S:Nat→Bool}{u:Nat}{o:Option Ob}{d:Dn}(hu:tk d.Ar u=some o)(hS:S d.i=true):∀{l:List Dn},d∈l→(∀x∈l,∀CK,(u,CK)∈x.Ar→x=d)→vT S l u=some o
 |x ::r,hd,h=>by
  simp only[vT];split
  ·rename_i o' hu';cases hc:S x.i with
   |false=>rw[hc]at hu';cases hu'
   |true =>
    rw[hc]at hu';simp only[cond_true]at hu';have:=h x List.mem_cons_self o' (By hu');subst this;rw[hu]at hu';exact hu'.symm
  ·rename_i hn;rcases List.mem_cons.1 hd with rfl|hd
   ·rw[hS]at hn;simp only[cond_true]at hn;rw[hu]at hn;cases hn
   ·exact TV hu hS hd fun x hx=>h x (List.mem_cons_of_mem _ hx)
theorem Wa{i id:Nat}{h:Nat→Option Ob}{ob:Ob}(e:view cl i h id=some ob):h id=some ob∧∀j,Sw cl id=some j→j=i:=by
 unfold view at e;split at e
 ·rename_i j hj;cases hc:(j == i)with
  |false=>rw[hc]at e;cases e
  |true=>rw[hc]at e;exact⟨e,fun j' h=>by rw[hj]at h;cases h;simpa using hc⟩
 ·rename_i hj;exact⟨e,fun j' h=>by rw[hj]at h;cases h⟩
def Qe_(P:Program)(ops:Array Oper)(σ:SS)(nn:List Nat)(cl:List (Nat×Nat))(d:Dn)(o:Oper)(post:List Dn):Prop:=
 (d.Ar=[]∧∃(r:Pu) (hs:List Hint),QbW P ops o (view cl d.i (yX σ.H (ng o).contains post)) d.base (zX σ.L nn (ng o).contains post) hs=some r∧d_ r.ic∧r.v=d.v∧r.news=d.news)∨
 (o.guard=none∧(∀u∈d.Ar,Sw cl u.1=some d.i)∧∃(r:Wr) (hs:List Hint),wop P (view cl d.i (yX σ.H (ng o).contains post)) d.base (zX σ.L nn (ng o).contains post) o.op hs=some r∧d_ r.ic∧r.v=d.v∧r.news=d.news∧r.Ar=d.Ar)∨
 (o.guard=none∧d.Ar=[]∧d.news=[]∧∃(q:Nat×Nat×Nat×List Lf) (Rc:List Prop),Qhc P σ.H (zX σ.L nn (ng o).contains post) o.op=some (d.v,q,Rc)∧d_ Rc∧q∈d.rd)
theorem Oe(h:BA o=true):o.guard=none:=by
 unfold BA at h;split at h
 ·assumption
 ·cases h
structure Z_ (P:Program) (ops:Array Oper) (σ:SS) (nn:List Nat) (cl:List (Nat×Nat)) (n:Nat) (full:List Dn) (b:Nat):Prop where
 wf:UJ σ.H.length full n b
 op:∀j,j<n→∃(pre post:List Dn) (d:Dn) (o:Oper),full=pre++d ::post∧d.i=j∧ops[j]?=some o∧d.dst=o.dst∧Mh σ.N o.dst=true∧UJ σ.H.length post j d.base∧Qe_ P ops σ nn cl d o post
theorem NY:∀{l:List Oper} {i:Nat} {done:List Dn} {base:Nat} {hs:List Hint} {full:List Dn} {b:Nat} {ob:List Prop} {jC:List Hint},dgo P ops σ nn cl i l done base hs=some (full,b,ob,jC)→d_ ob→(∀k,l[k]?=ops[i+k]?∨l.length≤k)→UJ σ.H.length done i base→
  ∃pre,full=pre++done∧UJ σ.H.length full (i+l.length) b∧∀k,k<l.length→∃(pre post:List Dn) (d:Dn) (o:Oper),full=pre++d ::post∧d.i=i+k∧ops[i+k]?=some o∧d.dst=o.dst∧Mh σ.N o.dst=true∧UJ σ.H.length post (i+k) d.base∧Qe_ P ops σ nn cl d o post
 | [],i,done,base,hs,full,b,ob,jC,hf,_,_,hw=>by
  simp only[dgo]at hf;cases hf;exact⟨[],rfl,hw,fun k hk=>by simp at hk⟩
 |o ::l,i,done,base,hs,full,b,ob,jC,hf,ho,hl,hw=>by
  simp only[dgo]at hf;have h0:ops[i]?=some o:=by
   rcases hl 0 with h|h
   ·rw[Nat.add_zero]at h;rw[←h];rfl
   ·simp at h
  have PY:∀k,l[k]?=ops[i+1+k]?∨l.length≤k:=fun k=>by
   rcases hl (k+1)with h|h
   ·left;rw[show i+1+k=i+(k+1) by omega,←h];rfl
   ·right;simpa using h
  cases hd:Mh σ.N o.dst with
  |false=>rw[hd]at hf;cases hf
  |true =>
   rw[hd]at hf;simp only[Bool.not_true,cond_false]at hf;split at hf
   ·rename_i r hr;split at hf
    ·rename_i d1 b1 T6 R1 h1;cases hf;rw[bC]at ho;obtain⟨pre,e,hwf,vb⟩:=NY h1 ho.2 PY (UJ.cons o.dst r.v r.news [] [] hw);refine⟨pre++[⟨i,o.dst,r.v,base,r.news,[],[]⟩],by rw[e];simp,by rw[List.length_cons,show i+(l.length+1)=i+1+l.length by omega];exact hwf,fun k hk=>?_⟩
     cases k with
     |zero=>exact⟨pre,done,_,o,e,rfl,h0,rfl,hd,hw,.inl ⟨rfl,r,hs,hr,ho.1,rfl,rfl⟩⟩
     |succ k =>
      have:=vb k (by simpa using hk)
      rw[show i+1+k=i+(k+1) by omega]at this
      exact this
    ·cases hf
   ·split at hf
    ·rename_i r nr;cases hc:(BA o&&r.Ar.all (fun u=>Sw cl u.1 == some i))with
     |false=>rw[hc]at hf;cases hf
     |true =>
      rw[hc]at hf;simp only[cond_true]at hf;rw[Bool.and_eq_true]at hc;split at hf
      ·rename_i d1 b1 T6 R1 h1;cases hf;rw[bC]at ho;obtain⟨pre,e,hwf,vb⟩:=NY h1 ho.2 PY (UJ.cons o.dst r.v r.news r.Ar [] hw);refine⟨pre++[⟨i,o.dst,r.v,base,r.news,r.Ar,[]⟩],by rw[e];simp,by rw[List.length_cons,show i+(l.length+1)=i+1+l.length by omega];exact hwf,fun k hk=>?_⟩
       cases k with
       |zero=>exact⟨pre,done,_,o,e,rfl,h0,rfl,hd,hw,.inr (.inl ⟨Oe hc.1,fun u hu=>by simpa using List.all_eq_true.1 hc.2 u hu,r,hs,nr,ho.1,rfl,rfl,rfl⟩)⟩
       |succ k =>
        have:=vb k (by simpa using hk)
        rw[show i+1+k=i+(k+1) by omega]at this
        exact this
      ·cases hf
    ·split at hf
     ·rename_i v q Rc nr;cases hc:BA o with
      |false=>rw[hc]at hf;cases hf
      |true =>
       rw[hc]at hf;simp only[cond_true]at hf;split at hf
       ·rename_i d1 b1 T6 R1 h1;cases hf;rw[bC]at ho;obtain⟨pre,e,hwf,vb⟩:=NY h1 ho.2 PY (UJ.cons o.dst v [] [] [q] hw);refine⟨pre++[⟨i,o.dst,v,base,[],[],[q]⟩],by rw[e];simp,by rw[List.length_cons,show i+(l.length+1)=i+1+l.length by omega];exact hwf,fun k hk=>?_⟩
        cases k with
        |zero=>exact⟨pre,done,_,o,e,rfl,h0,rfl,hd,hw,.inr (.inr ⟨Oe hc,rfl,rfl,q,Rc,nr,ho.1,by simp⟩)⟩
        |succ k =>
         have:=vb k (by simpa using hk)
         rw[show i+1+k=i+(k+1) by omega]at this
         exact this
       ·cases hf
     ·cases hf
theorem Yw{h hD:Nat→Option Ob}{L:Nat→AV}{base:Nat}{r:Pu}(hf:QbW P ops o h base L hs=some r)(dX:d_ r.ic)(hF:∀t,AR w M φ (L t) (a.tmps.getD t undef))(hW:Wd Γ φ M hD w)(gC:∀id ob,h id=some ob→hD id=some ob)
  (tY:∀id,base≤id→id<base+r.news.length→φ id=none∧hD id=none) {K:Act→World→Prop}
  (hK:∀v w' φ' M',AR w' M' φ' r.v v→Wd Γ φ' M' (VQ hD base r.news) w'→Ex w M φ w' M' φ'→(∀id,φ' id≠none→φ id≠none∨(base≤id∧id<base+r.news.length))→K (a.put o.dst v) w'):
  (if Region.wanted o (yielded ops a.tmps)=true then o.wp P a w K NQ else K (a.put o.dst undef) w):=by
 unfold QbW at hf;split at hf
 ·rename_i hg;have hw:Region.wanted o (yielded ops a.tmps)=true:=by unfold Region.wanted;rw[hg]
  rw[if_pos hw];exact PJ hf dX hF hW gC tY hK
 ·rename_i j want hg;have hwt:Region.wanted o (yielded ops a.tmps)=(yielded ops a.tmps j == some want):=by unfold Region.wanted;rw[hg]
  split at hf
  ·rename_i b t jC hv;have hy:yielded ops a.tmps j=some b:=th hF hv fun cv h=>Ah h
   cases XS:(t == want)with
   |true =>
    rw[XS]at hf;simp only[cond_true]at hf;cases hdo:dop P h base L o.op jC with
    |none=>rw[hdo]at hf;cases hf
    |some r0 =>
     rw[hdo]at hf;cases hf;obtain⟨T4,ho⟩:=dX;rw[hwt,hy,T4,if_pos (by simpa using XS)]
     exact PJ hdo ho hF hW gC tY hK
   |false =>
    rw[XS]at hf;cases hf;obtain⟨T4,-⟩:=dX;rw[hwt,hy,T4,if_neg (by simpa using XS)]
    exact hK undef w φ M ⟨False.elim,fun _=>rfl⟩ (by rw[yG];exact hW) (Ex.refl _ _ _) fun _ h=>.inl h
  ·rename_i p b jC hv;cases hf;have hy:yielded ops a.tmps j=none:=Er (φ:=φ) (M:=M) hF hv fun cv h=>h.2 dX.1
   rw[hwt,hy,if_neg (by simp)]
   exact hK undef w φ M ⟨False.elim,fun _=>rfl⟩ (by rw[yG];exact hW) (Ex.refl _ _ _) fun _ h=>.inl h
  ·rename_i b jC hv;have hy:yielded ops a.tmps j=some b:=th hF hv fun cv h=>Ah h
   split at hf
   ·rename_i r0 hr;cases sR:r0.news.isEmpty with
    |false=>rw[sR]at hf;cases hf
    |true =>
     rw[sR]at hf;simp only[cond_true]at hf;cases Z0:gdv (b=want) r0.v with
     |none=>rw[Z0]at hf;cases hf
     |some v =>
      rw[Z0]at hf;cases hf;have D0:r0.news=[]:=by simpa using sR
      have QpQ:∃c,r0.v=.cm c∧v=.gd (b=want) c:=by
       unfold gdv at Z0;split at Z0
       ·rename_i c hc;cases Z0;exact⟨c,hc,rfl⟩
       ·cases Z0
      obtain⟨c,hc,rfl⟩:=QpQ;rw[hwt,hy];by_cases hp:b=want
      ·rw[if_pos (by simp [hp])]
       obtain⟨v,w',φ',ec,Vm,sN,AK,hn,hb⟩:=KR (φ:=φ) (M:=M) (hD:=hD) hr dX hp hF hW gC (fun id h1 h2=>by rw[D0]at h2;simp at h2;omega)
       unfold Oper.wp;rw[ec];rw[hc]at Vm;rw[D0]at sN hn;exact hK v w' φ' M ⟨fun _=>Vm,fun h=>absurd hp h⟩ sN ⟨hb,fun _ h=>h,AK⟩ hn
      ·rw[if_neg (by simp [hp])]
       exact hK undef w φ M ⟨fun h=>absurd h hp,fun _=>rfl⟩ (by rw[yG];exact hW) (Ex.refl _ _ _) fun _ h=>.inl h
   ·cases hf
  ·cases hf
def QhW(Γ:bn)(σ:SS)(nn:List Nat)(full:List Dn)(listed:Array Bool)(a:Act)(w:World):Prop:=
 a.tmps.size=σ.N∧a.defers=[]∧∃φ M,(∀t,AR w M φ (zX σ.L nn (fun i=>listed.getD i false) full t) (a.tmps.getD t undef))∧Wd Γ φ M (pH σ.H (fun i=>listed.getD i false) full) w∧
  ∀id,σ.H.length≤id→(∀d∈full,listed.getD d.i false=true→¬(d.base≤id∧id<d.base+d.news.length))→φ id=none
theorem VD{o:Oper}{j:Nat}:j∈ng o↔∃e∈o.after,Region.binds .any e=true∧e.on=j:=by
 unfold ng;simp only[List.mem_map,List.mem_filter,Array.mem_toList_iff];constructor
 ·rintro⟨e,⟨h1,h2⟩,h3⟩;exact⟨e,h1,h2,h3⟩
 ·rintro⟨e,h1,h2,h3⟩;exact⟨e,⟨h1,h2⟩,h3⟩
theorem Z_.Qk3{n b:Nat}{full:List Dn}(hD:Z_ P ops σ nn cl n full b):∀x∈full,∀u ob,(u,ob)∈x.Ar→Sw cl u=some x.i:=fun x hx u ob hu=>by
 obtain⟨pre,post,d,o,e,hdi,-,-,-,-,nr⟩:=hD.op x.i (hD.wf.lt.2 x hx).1;have:d=x:=hD.wf.inj d (by rw[e];simp) x hx hdi
 subst this;rcases nr with⟨h,-⟩|⟨-,h,-⟩|⟨-,h,-⟩
 ·rw[h]at hu;cases hu
 ·exact h (u,ob) hu
 ·rw[h]at hu;cases hu
theorem Qr{q:Nat×Nat×Nat×List Lf}{o:Option Ob}:∀{l:List (Nat×Option Ob)},d_ (Zo q l)→(q.1,o)∈l→rdP q o
 | [],_,h=>by cases h
 |(u,x) ::r,ha,h=>by
  simp only[Zo]at ha;cases hu:(u == q.1)with
  |true =>
   rw[hu]at ha;rcases List.mem_cons.1 h with h|h
   ·cases h;exact ha.1
   ·exact Qr ha.2 h
  |false =>
   rw[hu]at ha;rcases List.mem_cons.1 h with h|h
   ·cases h;simp at hu
   ·exact Qr ha h
theorem VV{q:Nat×Nat×Nat×List Lf}{o:Option Ob}{x:Dn}:∀{l:List Dn},d_ (VU q l)→x∈l→(q.1,o)∈x.Ar→rdP q o
 |d ::r,ha,hx,h=>by
  simp only[VU,bC]at ha;rcases List.mem_cons.1 hx with rfl|hx
  ·exact Qr ha.1 h
  ·exact VV ha.2 hx h
theorem Zp{full:List Dn}{q:Nat×Nat×Nat×List Lf}:∀{l:List (Nat×Nat×Nat×List Lf)},d_ (Qjq full l)→q∈l→d_ (VU q full)
 |d ::r,ha,hx=>by
  simp only[Qjq,bC]at ha;rcases List.mem_cons.1 hx with rfl|hx
  ·exact ha.1
  ·exact Zp ha.2 hx
theorem VT{full:List Dn}{d:Dn}{q:Nat×Nat×Nat×List Lf}:∀{l:List Dn},d_ (VS full l)→d∈l→q∈d.rd→d_ (VU q full)
 |x ::r,ha,hx,h=>by
  simp only[VS,bC]at ha;rcases List.mem_cons.1 hx with rfl|hx
  ·exact Zp ha.1 h
  ·exact VT ha.2 hx h
theorem V9{S:Nat→Bool}{id:Nat}{o:Option Ob}:∀{l:List Dn},vT S l id=some o→∃x∈l,(id,o)∈x.Ar
 | [],h=>by cases h
 |d ::r,h=>by
  simp only[vT]at h;split at h
  ·rename_i ob hu;cases h;cases hS:S d.i with
   |false=>rw[hS]at hu;cases hu
   |true=>rw[hS]at hu;exact⟨d,List.mem_cons_self,By hu⟩
  ·obtain⟨x,hx,h1⟩:=V9 h;exact⟨x,List.mem_cons_of_mem _ hx,h1⟩
theorem Qba{r:Bool}{n off:Nat}{cs Ug:List Lf}(h:(Ug.drop off).take ((cs.drop off).take n).length=(cs.drop off).take n)(hr:(r||n == 1)=true){c:Cm}(hc:wv r n off cs=some c):wv r n off Ug=some c:=by
 unfold wv at hc ⊢;cases r with
 |true =>
  simp only[cond_true]at hc ⊢;cases hl:(((cs.drop off).take n).length == n)with
  |false=>rw[hl]at hc;cases hc
  |true =>
   have PY:((cs.drop off).take n).length=n:=by simpa using hl
   rw[PY]at h;rw[h,hl];rw[hl]at hc;exact hc
 |false =>
  have hn:n=1:=by simpa using hr
  subst hn;simp only[cond_false]at hc ⊢;cases ho:cs[off]? with
  |none=>rw[ho]at hc;cases hc
  |some x =>
   have mj:=(List.getElem?_eq_some_iff.1 ho).1;have h1:(cs.drop off).take 1=[x]:=by
    rw[List.take_one,List.head?_drop,ho];rfl
   rw[h1]at h;have h2:Ug[off]?=some x:=by
    have h3:((Ug.drop off).take ([x]:List Lf).length)[0]?=some x:=by rw[h];rfl
    rw[List.getElem?_take]at h3;simpa using h3
   rw[h2,←ho];exact hc
theorem Qgx{n b j:Nat}{full:List Dn}{listed:Array Bool}(hD:Z_ P ops σ nn cl n full b)(hrd:d_ (VS full full))(QdN:∀x∈full,∀y∈full,∀t,x.dst=some t→y.dst=some t→x=y)(tZ:∀x∈full,∀t,x.dst=some t→nn.contains t=true)
  (inv:QhW Γ σ nn full listed a w) (hj:j<n) (hun:listed.getD j true=false) (QlF:∀k∈ng (ops.getD j default),listed.getD k false=true) {K:Act→World→Prop} (hK:∀a' w',QhW Γ σ nn full (listed.setIfInBounds j true) a' w'→K a' w'):
  wpOp P ops Q j K a w:=by
 obtain⟨pre,post,d,o,QjX,rfl,hoj,hdd,QiE,QnZ,nr⟩:=hD.op j hj;obtain⟨hN,PW,φ,M,hF,hW,hφ⟩:=inv;have Og:∀x∈post,x∈full:=fun x hx=>by rw[QjX];simp [hx]
 have Jj:d∈full:=by rw[QjX];simp
 have QiQ:listed.getD d.i false=false:=getD_both hun;have hog:ops.getD d.i default=o:=by simp [Array.getD_eq_getD_getElem?,hoj]
 rw[hog]at QlF;have mj:=hD.wf.lt;have QiD:=hD.Qk3;have P0:∀k,k≠d.i→(listed.setIfInBounds d.i true).getD k false=listed.getD k false:=fun k hk=>getD_set_ne false (Ne.symm hk)
 have ry:d.i<listed.size:=by
  rcases Nat.lt_or_ge d.i listed.size with h|h
  ·exact h
  ·simp [Array.getElem?_eq_none h]at hun
 have AL:(listed.setIfInBounds d.i true).getD d.i false=true:=by simp [Array.getD_eq_getD_getElem?,ry]
 -- V7 Qsc QjD it Qq2
 have hFL:∀t,AR w M φ (zX σ.L nn (ng o).contains post t) (a.tmps.getD t undef):=fun t=>by
  rcases mr (nn:=nn) (L:=σ.L) (S:=(ng o).contains) (t:=t) (l:=post)with⟨x,hx,h1,h2,h3⟩|⟨h1,h2⟩
  ·rw[h3];have hxl:listed.getD x.i false=true:=QlF x.i (by simpa using h2)
   have h4:=hF t;rcases mr (nn:=nn) (L:=σ.L) (S:=fun i=>listed.getD i false) (t:=t) (l:=full)with⟨y,hy,g1,g2,g3⟩|⟨g1,g2⟩
   ·rw[g3,QdN y hy x (Og x hx) t g1 h1]at h4;exact h4
   ·rw[g1 x (Og x hx) h1]at hxl;cases hxl
  ·rw[h2];cases hc:nn.contains t with
   |true=>trivial
   |false =>
    have h4:=hF t;rcases mr (nn:=nn) (L:=σ.L) (S:=fun i=>listed.getD i false) (t:=t) (l:=full)with⟨y,hy,g1,g2,g3⟩|⟨g1,g2⟩
    ·rw[tZ y hy t g1]at hc;cases hc
    ·rw[g2,hc]at h4;exact h4
 -- V7 objects QjD it Qq2
 have gC:∀id ob,view cl d.i (yX σ.H (ng o).contains post) id=some ob→pH σ.H (fun i=>listed.getD i false) full id=some ob:=fun id ob hv=>by
  obtain⟨hid,IM⟩:=Wa hv;have hu:vT (fun i=>listed.getD i false) full id=none:=CI fun x hx CK CJ=>by
   have:=IM x.i (QiD x hx id CK CJ);rw[this];exact QiQ
  unfold pH;rw[hu];rcases zW (H:=σ.H) (S:=(ng o).contains) QnZ id with⟨x,hx,h1,h2⟩|⟨h1,h2⟩
  ·rw[uF QnZ hx h1 h2]at hid;simp only;rw[uF hD.wf (Og x hx) h1 h2];cases hs:(ng o).contains x.i with
   |false=>rw[hs]at hid;cases hid
   |true =>
    rw[hs]at hid;have:listed.getD x.i false=true:=QlF x.i (by simpa using hs)
    rw[this];exact hid
  ·rw[h2]at hid;have hlo:id<σ.H.length:=nP hid;simp only;rw[EG hD.wf (.inr hlo)];exact hid
 -- Qhu others have left is left
 have YZ:∀id,¬(d.base≤id∧id<d.base+d.news.length)→yX σ.H (fun i=>(listed.setIfInBounds d.i true).getD i false) full id=yX σ.H (fun i=>listed.getD i false) full id:=fun id hi=>by
  rcases zW (H:=σ.H) (S:=fun i=>(listed.setIfInBounds d.i true).getD i false) hD.wf id with⟨x,hx,h1,h2⟩|⟨h1,h2⟩
  ·have hxd:x.i≠d.i:=fun e=>hi (by rw[←hD.wf.inj x hx d Jj e];exact⟨h1,h2⟩)
   rw[uF hD.wf hx h1 h2,uF hD.wf hx h1 h2,P0 _ hxd]
  ·rw[h2,EG hD.wf h1]
 have QnU:∀id,(∀ob,(id,ob) ∉ d.Ar)→vT (fun i=>(listed.setIfInBounds d.i true).getD i false) full id=vT (fun i=>listed.getD i false) full id:=fun id sR=>KJ fun x hx ob hu=>by
  by_cases hxd:x.i=d.i
  ·have:=hD.wf.inj x hx d Jj hxd;subst this;exact absurd hu (sR ob)
  ·exact P0 _ hxd
 -- V7 end of it
 have fin:∀v w' φ' M',AR w' M' φ' d.v v→Wd Γ φ' M' (pH σ.H (fun i=>(listed.setIfInBounds d.i true).getD i false) full) w'→Ex w M φ w' M' φ'→(∀id,φ' id≠none→φ id≠none∨(d.base≤id∧id<d.base+d.news.length))→K (a.put o.dst v) w':=by
  intro v w' φ' M' hv sN he hn;refine hK _ _ ⟨by rw[Cr];exact hN,by rw[put_defers];exact PW,φ',M',?_,sN,?_⟩
  ·intro t;have h4:=AR.mono he (hF t);by_cases hdt:d.dst=some t
   ·have Qlj:t<a.tmps.size:=by
     rw[hdd]at hdt;rw[hdt]at QiE;rw[hN];exact Nat.le_of_ble_eq_true QiE
    rw[←hdd,hdt,Xe Qlj,if_pos rfl];rcases mr (nn:=nn) (L:=σ.L) (S:=fun i=>(listed.setIfInBounds d.i true).getD i false) (t:=t) (l:=full)with⟨y,hy,g1,g2,g3⟩|⟨g1,g2⟩
    ·rw[g3,QdN y hy d Jj t g1 hdt];exact hv
    ·have:=g1 d Jj hdt;rw[AL]at this;cases this
   ·have hgd:(a.put o.dst v).tmps.getD t undef=a.tmps.getD t undef:=by
     rw[←hdd];cases hd2:d.dst with
     |none=>rfl
     |some u =>
      rw[hd2]at hdt;have Qlj:u<a.tmps.size:=by
       rw[hdd]at hd2;rw[hd2]at QiE;rw[hN];exact Nat.le_of_ble_eq_true QiE
      rw[Xe Qlj,if_neg (fun e=>hdt (by rw[e]))]
    rw[hgd];have Qgm:zX σ.L nn (fun i=>(listed.setIfInBounds d.i true).getD i false) full t=zX σ.L nn (fun i=>listed.getD i false) full t:=by
     rcases mr (nn:=nn) (L:=σ.L) (S:=fun i=>(listed.setIfInBounds d.i true).getD i false) (t:=t) (l:=full)with⟨y,hy,g1,g2,g3⟩|⟨g1,g2⟩
     ·have hyi:y.i≠d.i:=fun e=>hdt (by rw[←hD.wf.inj y hy d Jj e];exact g1)
      rw[P0 _ hyi]at g2;rcases mr (nn:=nn) (L:=σ.L) (S:=fun i=>listed.getD i false) (t:=t) (l:=full)with⟨z,hz,k1,k2,k3⟩|⟨k1,k2⟩
      ·rw[g3,k3,QdN y hy z hz t g1 k1]
      ·rw[k1 y hy g1]at g2;cases g2
     ·rcases mr (nn:=nn) (L:=σ.L) (S:=fun i=>listed.getD i false) (t:=t) (l:=full)with⟨z,hz,k1,k2,k3⟩|⟨k1,k2⟩
      ·have hzi:z.i≠d.i:=fun e=>hdt (by rw[←hD.wf.inj z hz d Jj e];exact k1)
       have:=g1 z hz k1;rw[P0 _ hzi,k2]at this;cases this
      ·rw[g2,k2]
    rw[Qgm];exact h4
  ·intro id hid vb;refine Classical.byContradiction fun h=>?_
   rcases hn id h with h1|h1
   ·refine h1 (hφ id hid fun x hx hxl=>?_)
    by_cases hxd:x.i=d.i
    ·rw[hxd,QiQ]at hxl;cases hxl
    ·exact vb x hx (by rw[P0 _ hxd];exact hxl)
   ·exact vb d Jj AL h1
 have hφn:∀id,d.base≤id→id<d.base+d.news.length→φ id=none:=fun id h1 h2=>by
  refine hφ id ?_ fun x hx hxl hxi=>?_
  ·have:=(mj.2 d Jj).2.1;omega
  ·have:x=d:=by
    have e1:=uF (H:=[]) (S:=fun i=>i == x.i) hD.wf hx hxi.1 hxi.2
    have e2:=uF (H:=[]) (S:=fun i=>i == x.i) hD.wf Jj h1 h2
    refine Classical.byContradiction fun sR=>?_
    have hii:d.i≠x.i:=fun e=>sR (hD.wf.inj x hx d Jj e.symm)
    have c1:(x.i == x.i)=true:=by simp
    have c2:(d.i == x.i)=false:=by simpa using hii
    simp only[c1,cond_true]at e1;simp only[c2,cond_false]at e2;rw[e1]at e2;have hl:id-x.base<x.news.length:=by omega
    simp [List.getElem?_eq_getElem hl]at e2
   rw[this,QiQ]at hxl;cases hxl
 have QnV:∀id,d.base≤id→id<d.base+d.news.length→∀ob,vT (fun i=>listed.getD i false) full id≠some (some ob):=fun id h1 h2 ob hu=>by
  have hO:=hW.ic id ob (by unfold pH;rw[hu])
  exact hO.Ql7 (hφn id h1 h2)
 have tY:∀id,d.base≤id→id<d.base+d.news.length→φ id=none∧pH σ.H (fun i=>listed.getD i false) full id=none:=fun id h1 h2=>by
  refine⟨hφn id h1 h2,?_⟩;unfold pH;split
  ·rename_i ob hu;cases ob with
   |none=>rfl
   |some ob=>exact absurd hu (QnV id h1 h2 ob)
  ·rw[uF hD.wf Jj h1 h2,QiQ];rfl
 -- Qhu is there QkR
 have xG:∀{φ':Pl} {M':Nat→Prop} {w':World},Wd Γ φ' M' (VQ (QM (pH σ.H (fun i=>listed.getD i false) full) d.Ar) d.base d.news) w'→Wd Γ φ' M' (pH σ.H (fun i=>(listed.setIfInBounds d.i true).getD i false) full) w':=fun sN=>sN.less fun id ob hid=>by
  unfold VQ;by_cases hi:d.base≤id∧id<d.base+d.news.length
  ·rw[if_pos hi];unfold pH at hid;rw[uF hD.wf Jj hi.1 hi.2,AL]at hid;have hnn:∀o',(id,o') ∉ d.Ar:=fun o' hm=>by
    have IM:=QiD d Jj id o' hm;rcases nr with⟨h,-⟩|⟨-,-,r,hs,nr,-,-,-,hru⟩|⟨-,h,-⟩
    ·rw[h]at hm;cases hm
    ·rw[←hru]at hm;obtain⟨Rc,g⟩:=TX nr (id,o') hm;have:=gC id Rc g;rw[(tY id hi.1 hi.2).2]at this;cases this
    ·rw[h]at hm;cases hm
   rw[QnU id hnn]at hid;split at hid
   ·rename_i o' hu;subst hid;exact absurd hu (QnV id hi.1 hi.2 ob)
   ·exact hid
  ·rw[if_neg hi];unfold QM;cases hf:tk d.Ar id with
   |some o' =>
    simp only;unfold pH at hid;rw[TV (d:=d) (u:=id) (o:=o') hf AL Jj (fun x hx CK hu=>by
     have h1:=QiD x hx _ _ hu;have h2:=QiD d Jj _ _ (By hf);rw[h2]at h1;exact hD.wf.inj x hx d Jj (Option.some.inj h1).symm)]at hid
    exact hid
   |none =>
    simp only;have hnn:∀o',(id,o') ∉ d.Ar:=fun o' hm=>by
     have:∀{l:List (Nat×Option Ob)},(id,o')∈l→tk l id≠none:=by
      intro l;induction l with
      |nil=>intro h;cases h
      |cons y l ih =>
       obtain⟨u,x⟩:=y;intro h hn;simp only[tk]at hn;cases hu:(u == id)with
       |true=>rw[hu]at hn;cases hn
       |false =>
        rw[hu]at hn;rcases List.mem_cons.1 h with h|h
        ·cases h;simp at hu
        ·exact ih h hn
     exact this hm hf
    unfold pH at hid ⊢;rw[QnU id hnn,YZ id hi]at hid;exact hid
 rcases nr with⟨QlL,r,hs,nr,dX,hrv,Z3⟩|⟨hgd,IM,r,hs,nr,dX,hrv,Z3,hru⟩|⟨hgd,QlL,Hm,q,Rc,nr,dX,hqd⟩
 ·have key:=Yw (φ:=φ) (M:=M) (w:=w) (a:=a) (Γ:=Γ) (hD:=pH σ.H (fun i=>listed.getD i false) full) (K:=K) nr dX hFL hW gC (fun id h1 h2=>by
   rw[Z3]at h2;exact tY id h1 h2) fun v w' φ' M' hv sN he hn=>fin v w' φ' M' (by rw[←hrv];exact hv) (xG (by rw[QlL,←Z3];exact sN)) he (by rw[←Z3];exact hn)
  unfold wpOp;simp only[hoj];split
  ·rename_i hw;rw[if_pos hw]at key;exact .inl (Qdb (fun _ _ h=>h) key)
  ·rename_i hw;rw[if_neg hw]at key;exact key
 ·have hw:Region.wanted o (yielded ops a.tmps)=true:=by unfold Region.wanted;rw[hgd]
  unfold wpOp;simp only[hoj,hw,if_true];left;refine Qdb (fun _ _ h=>h) (Wc (φ:=φ) (M:=M) (w:=w) (a:=a) (Γ:=Γ) (hD:=pH σ.H (fun i=>listed.getD i false) full) (K:=K) nr dX hFL hW gC (fun id h1 h2=>by
   rw[Z3]at h2;exact tY id h1 h2) fun v w' hm=>?_)
  obtain⟨φ',M',hv,sN,he,hn⟩:=hm;exact fin v w' φ' M' (by rw[←hrv];exact hv) (xG (by rw[←hru,←Z3];exact sN)) he (by rw[←Z3];exact hn)
 ·have hw:Region.wanted o (yielded ops a.tmps)=true:=by unfold Region.wanted;rw[hgd]
  unfold wpOp;simp only[hoj,hw,if_true];left
  -- V7 load,from V7 box as it is now
  have Qgb:∃r:Pu,Av P (pH σ.H (fun i=>listed.getD i false) full) d.base True (zX σ.L nn (ng o).contains post) o.op []=some r∧d_ r.ic∧r.v=d.v∧r.news=[]:=by
   unfold Qhc at nr;split at nr
   ·rename_i t x hop;split at nr
    ·rename_i id sz row off T6 m TD hg ht htr;split at nr
     ·rename_i ob hid;split at nr
      ·rename_i cells tS mC;cases hc:(ob.sz == sz&&row == 0&&(TD||m == 1))with
       |false=>rw[hc]at nr;cases nr
       |true =>
        rw[hc]at nr;simp only[cond_true]at nr;cases hp:wv TD m off cells with
        |none=>rw[hp]at nr;cases nr
        |some c =>
         rw[hp]at nr;simp only[Option.map_some,Option.some.injEq,Prod.mk.injEq]at nr;obtain⟨hv,rfl,rfl⟩:=nr;simp only[Bool.and_eq_true,beq_iff_eq]at hc;have hlo:id<σ.H.length:=nP hid;have Qp_:∃CK,pH σ.H (fun i=>listed.getD i false) full id=some CK∧CK.box=true∧CK.sz=sz∧∃Ws,CK.rows=[Ws]∧wv TD m off Ws=some c:=by
          unfold pH;cases hu:vT (fun i=>listed.getD i false) full id with
          |none =>
           simp only;rw[EG hD.wf (.inr hlo)];exact⟨ob,hid,tS,hc.1.1,cells,mC,hp⟩
          |some o' =>
           obtain⟨x',CJ,hxu⟩:=V9 hu;have hP:=VV (VT hrd Jj hqd) CJ hxu;cases o' with
           |none=>exact hP.elim
           |some CK =>
            simp only[rdP,Prod.mk.injEq]at hP;obtain⟨p1,p2,p3⟩:=hP;refine⟨CK,rfl,p1,p2,?_⟩;cases hrr:CK.rows with
            |nil=>rw[hrr]at p3;cases p3
            |cons c0 r0 =>
             rw[hrr]at p3;simp only[List.map_cons,List.cons.injEq,List.map_eq_nil_iff]at p3;obtain⟨p4,rfl⟩:=p3;exact⟨c0,rfl,Qba p4 hc.2 hp⟩
         obtain⟨CK,k1,k2,k3,Ws,k4,k5⟩:=Qp_;refine⟨⟨.cm c,[],T6,[]⟩,?_,dX,hv,rfl⟩;rw[hop];simp only[Av,hg,ht,htr,k1,k2,k3,k4,k5,hc.1.2,beq_self_eq_true,cond_true,Option.map_some]
      ·cases nr
     ·cases nr
    ·cases nr
   ·cases nr
  obtain⟨r,hr,hro,hrv,Z3⟩:=Qgb;obtain⟨v,w',φ',ec,Vm,sN,AK,hn,hb⟩:=KR (φ:=φ) (M:=M) (hD:=pH σ.H (fun i=>listed.getD i false) full) hr hro trivial hFL hW (fun _ _ h=>h) (fun id h1 h2=>by rw[Z3]at h2;simp at h2;omega)
  refine Qdb (fun _ _ h=>h) ?_
  unfold Oper.wp;rw[ec];rw[Z3]at sN hn;refine fin v w' φ' M (by rw[←hrv];exact Vm) (xG (by rw[QlL,Hm];exact sN)) ⟨hb,fun _ h=>h,AK⟩ (fun id h=>?_)
  rcases hn id h with h1|h1
  ·exact .inl h1
  ·simp at h1;omega
end
end
section
open Go.RowKit
section
variable {P : Program} {Γ : bn} {φ φ' : Pl} {M M' : Nat → Prop} {w w' : World} {a : Act} {hs : List Hint} {o : Oper} {ops : Array Oper} {Q : Exit → Act → World → Prop} {σ : SS} {cl : List (Nat × Nat)}
theorem MW:∀{l:List Nat},DC l=true→l.Nodup
 | [],_=>by simp
 |x ::l,h=>by
  simp only[DC,Bool.and_eq_true,Bool.not_eq_true']at h;rw[List.nodup_cons];exact⟨by simpa using h.1,MW h.2⟩
theorem Yx:∀{l:List Oper} {i j t:Nat} {x y:Oper},(dstsOf l).Nodup→l[i]?=some x→l[j]?=some y→x.dst=some t→y.dst=some t→i=j
 | [],i,_,_,_,_,_,h,_,_,_=>by simp at h
 |o ::l,0,0,_,_,_,_,_,_,_,_=>rfl
 |o ::l,0,j+1,t,x,y,hn,hi,hj,hx,hy=>by
  simp at hi hj;subst hi;have:dstsOf (o ::l)=t ::dstsOf l:=by simp [dstsOf,hx]
  rw[this,List.nodup_cons]at hn;exact absurd (List.mem_filterMap.2 ⟨y,List.mem_of_getElem? hj,hy⟩) hn.1
 |o ::l,i+1,0,t,x,y,hn,hi,hj,hx,hy=>by
  simp at hi hj;subst hj;have:dstsOf (o ::l)=t ::dstsOf l:=by simp [dstsOf,hy]
  rw[this,List.nodup_cons]at hn;exact absurd (List.mem_filterMap.2 ⟨x,List.mem_of_getElem? hi,hx⟩) hn.1
 |o ::l,i+1,j+1,t,x,y,hn,hi,hj,hx,hy=>by
  have Up:(dstsOf l).Nodup:=by
   unfold dstsOf at hn ⊢;rw[List.filterMap_cons]at hn;split at hn
   ·exact hn
   ·exact(List.nodup_cons.1 hn).2
  exact congrArg (·+1) (Yx (l:=l) Up (by simpa using hi) (by simpa using hj) hx hy)
theorem QcC{L:List (Nat×AV)}{t:Nat}:∀(l:List Dn),look (dL L l) t=zX L [] (fun _=>true) l t
 | []=>rfl
 |⟨i,d,v,b,n,u,q⟩ ::r=>by
  have ih:=QcC (L:=L) (t:=t) r;simp only[dL,zX,Bool.and_true];cases d with
  |none=>exact ih
  |some u =>
   simp only[OX,look];have:(some u == some t)=(u == t):=rfl;rw[this,ih]
theorem Z_.below{n b:Nat}{full:List Dn}{nn:List Nat}(hD:Z_ P ops σ nn cl n full b):∀x∈full,∀u∈x.Ar,u.1<x.base:=fun x hx u hu=>by
 obtain⟨pre,post,d,o,e,hdi,-,-,-,hw,nr⟩:=hD.op x.i (hD.wf.lt.2 x hx).1;have:d=x:=hD.wf.inj d (by rw[e];simp) x hx hdi
 subst this;rcases nr with⟨h,-⟩|⟨-,-,r,hs,nr,-,-,-,hru⟩|⟨-,h,-⟩
 ·rw[h]at hu;cases hu
 rotate_left
 ·rw[h]at hu;cases hu
 ·rw[←hru]at hu;obtain⟨Rc,h4⟩:=TX nr u hu;have h5:=(Wa h4).1;rcases zW (H:=σ.H) (S:=(ng o).contains) hw u.1 with⟨y,hy,k1,k2⟩|⟨k1,k2⟩
  ·have:=(hw.lt.2 y hy).2.2;omega
  ·rw[k2]at h5;have:=nP h5;have:=hw.lt.1;omega
theorem Qnx{lo i b:Nat}{H:List (Option Ob)}{l:List Dn}(h:UJ lo l i b)(hlo:lo=H.length)(hb:∀x∈l,∀u∈x.Ar,u.1<x.base):(dH H l).length=b∧hl (dH H l)=pH H (fun _=>true) l:=by
 induction h with
 |nil=>exact⟨hlo.symm,rfl⟩
 |cons dst v news Ar rd h ih =>
  rename_i r i b;obtain⟨h1,h2⟩:=ih fun x hx=>hb x (List.mem_cons_of_mem _ hx)
  have hup:∀id,b≤id→vT (fun _=>true) r id=none:=fun id hid=>CI fun x hx ob hu=>by
   have:=hb x (List.mem_cons_of_mem _ hx) _ hu;have:=(h.lt.2 x hx).2.2;simp only at *;omega
  refine⟨by simp [dH,FE,h1],?_⟩
  simp only[dH];have hub:∀u∈Ar,u.1<(dH H r).length:=fun u hu=>by rw[h1];exact hb _ List.mem_cons_self u hu
  rw[WK,FE,h1,WM hub,h2]
  funext id
  unfold VQ;by_cases hi:b≤id∧id<b+news.length
  ·rw[if_pos hi];have e1:(Nat.ble b id&&Nat.blt id (b+news.length))=true:=by rw[Bool.and_eq_true];exact⟨Nat.ble_eq_true_of_le hi.1,Nat.ble_eq_true_of_le hi.2⟩
   have e2:vT (fun _=>true) (⟨i,dst,v,b,news,Ar,rd⟩ ::r) id=none:=CI fun x hx ob hu=>by
    rcases List.mem_cons.1 hx with rfl|hx
    ·have:=hb _ List.mem_cons_self _ hu;simp only at this;omega
    ·have:=hb x (List.mem_cons_of_mem _ hx) _ hu;have:=(h.lt.2 x hx).2.2;simp only at *;omega
   unfold pH;rw[e2];simp only[yX,e1,cond_true]
  ·rw[if_neg hi];have e1:(Nat.ble b id&&Nat.blt id (b+news.length))=false:=by
    rw[←Bool.not_eq_true,Bool.and_eq_true];intro⟨h3,h4⟩;exact hi ⟨Nat.le_of_ble_eq_true h3,Nat.le_of_ble_eq_true h4⟩
   unfold QM pH;simp only[vT,cond_true,yX,e1,cond_false];cases tk Ar id <;> rfl
def left(listed:Array Bool)(n:Nat):Nat:=((List.range n).filter fun i=>!listed.getD i false).length
theorem QgG{listed:Array Bool}{n j:Nat}(hj:j<n)(hl:listed.getD j true=false):left listed n=left (listed.setIfInBounds j true) n+1:=by
 have ry:j<listed.size:=by
  rcases Nat.lt_or_ge j listed.size with h|h
  ·exact h
  ·simp [Array.getElem?_eq_none h]at hl
 have AL:(listed.setIfInBounds j true).getD j false=true:=by simp [Array.getD_eq_getD_getElem?,ry]
 unfold left;have key:∀l:List Nat,l.Nodup→(j∈l→(l.filter fun i=>!listed.getD i false).length=(l.filter fun i=>!(listed.setIfInBounds j true).getD i false).length+1)∧(j ∉ l→(l.filter fun i=>!listed.getD i false).length=(l.filter fun i=>!(listed.setIfInBounds j true).getD i false).length):=by
  intro l;induction l with
  |nil=>intro _;exact⟨fun h=>(by cases h),fun _=>rfl⟩
  |cons x l ih =>
   intro hn;rw[List.nodup_cons]at hn;obtain⟨ih1,ih2⟩:=ih hn.2;by_cases hx:x=j
   ·subst hx;refine⟨fun _=>?_,fun h=>absurd List.mem_cons_self h⟩
    rw[List.filter_cons,List.filter_cons,getD_both hl,AL];simp only[Bool.not_false,if_true,Bool.not_true,Bool.false_eq_true,if_false,List.length_cons];rw[ih2 hn.1]
   ·have hs:=getD_set_ne (listed:=listed) (i:=j) (j:=x) false (fun e=>hx e.symm)
    refine⟨fun h=>?_,fun h=>?_⟩
    ·rw[List.filter_cons,List.filter_cons,hs];have hm:j∈l:=by rcases List.mem_cons.1 h with h|h;exact absurd h.symm hx;exact h
     have:=ih1 hm;split <;>(try simp only[List.length_cons]) <;> omega
    ·rw[List.filter_cons,List.filter_cons,hs];have:=ih2 fun hm=>h (List.mem_cons_of_mem _ hm)
     split <;>(try simp only[List.length_cons]) <;> omega
 exact(key _ List.nodup_range).1 (List.mem_range.2 hj)
theorem Qd3{listed:Array Bool}{n:Nat}(h:left listed n=0):∀i,i<n→listed.getD i false=true:=fun i hi=>by
 unfold left at h;have h1:=List.eq_nil_of_length_eq_zero h;rw[List.filter_eq_nil_iff]at h1;have:=h1 i (List.mem_range.2 hi);simpa using this
theorem QgF{listed:Array Bool}{n:Nat}(h:left listed n≠0):∃i,i<n∧listed.getD i false=false∧∀k,k<i→listed.getD k false=true:=by
 unfold left at h;have hex:∃i,i<n∧listed.getD i false=false:=by
  cases h1:(List.range n).filter (fun i=>!listed.getD i false)with
  |nil=>rw[h1]at h;exact absurd rfl h
  |cons x l =>
   have hx:x∈(List.range n).filter (fun i=>!listed.getD i false):=by rw[h1];exact List.mem_cons_self
   rw[List.mem_filter,List.mem_range]at hx;exact⟨x,hx.1,by simpa using hx.2⟩
 have key:∀m i,i≤m→i<n→listed.getD i false=false→∃i,i<n∧listed.getD i false=false∧∀k,k<i→listed.getD k false=true:=by
  intro m;induction m with
  |zero=>intro i hi hn hf;exact⟨i,hn,hf,fun k hk=>by omega⟩
  |succ m ih =>
   intro i hi hn hf;by_cases vb:∀k,k<i→listed.getD k false=true
   ·exact⟨i,hn,hf,vb⟩
   ·simp only[Classical.not_forall]at vb;obtain⟨k,hk,hk2⟩:=vb;exact ih k (by omega) (by omega) (by simpa using hk2)
 obtain⟨i,hi,hf⟩:=hex;exact key i i (Nat.le_refl _) hi hf
theorem QfG{n b:Nat}{full:List Dn}{tail:List Oper}{s:St}{hs2:List Hint}(hB:Yv ops n=true)(hD:Z_ P ops σ (dstsOf (ops.toList.take n)) cl n full b)(hrd:d_ (VS full full))(QnR:Bw P ops (ops.toList.drop n) ⟨σ.N,dL σ.L full,dH σ.H full⟩ hs2=some s)(dX:d_ s.ic)
  (hQ:∀a' w',Rk Γ s.σ a' w'→Q .normal a' w'):∀(f:Nat) (listed:Array Bool) (a:Act) (w:World),left listed n=f→HeadInv .any ops n listed→QhW Γ σ (dstsOf (ops.toList.take n)) full listed a w→wpAny P .any ops Q (f+(ops.size-n)) listed a w:=by
 unfold Yv at hB;simp only[Bool.and_eq_true,Bool.or_eq_true,beq_iff_eq,Nat.ble_eq]at hB;obtain⟨⟨⟨⟨hnd,hle⟩,hpr⟩,nQ⟩,Qqq⟩:=hB;have Qp7:=MW hnd;have Uq:∀j,j<n→(ops.toList.take n)[j]?=ops[j]?:=fun j hj=>by rw[List.getElem?_take,if_pos hj];simp
 have Vj:∀x∈full,∃o,x.i<n∧ops[x.i]?=some o∧x.dst=o.dst:=fun x hx=>by
  have hxi:=(hD.wf.lt.2 x hx).1;obtain⟨pre,post,d,o,e,hdi,ho,hdd,-⟩:=hD.op x.i hxi;have:d=x:=hD.wf.inj d (by rw[e];simp) x hx hdi
  subst this;exact⟨o,hxi,ho,hdd⟩
 have QdN:∀x∈full,∀y∈full,∀t,x.dst=some t→y.dst=some t→x=y:=fun x hx y hy t ex ey=>by
  obtain⟨ox,hxn,hox,hdx⟩:=Vj x hx;obtain⟨oy,hyn,hoy,hdy⟩:=Vj y hy;exact hD.wf.inj x hx y hy (Yx Qp7 (by rw[Uq _ hxn];exact hox) (by rw[Uq _ hyn];exact hoy) (hdx▸ex) (hdy▸ey))
 have tZ:∀x∈full,∀t,x.dst=some t→(dstsOf (ops.toList.take n)).contains t=true:=fun x hx t ex=>by
  obtain⟨ox,hxn,hox,hdx⟩:=Vj x hx;rw[List.contains_iff_mem];exact List.mem_filterMap.2 ⟨ox,List.mem_of_getElem? (by rw[Uq _ hxn];exact hox),hdx▸ex⟩
 intro f;induction f with
 |zero =>
  intro listed a w hf inv hI;rw[Nat.zero_add];have vb:=Qd3 hf;have Qnz:listed=QaM ops n:=by
   apply Array.ext_getElem?;intro k;unfold QaM;simp only[List.getElem?_toArray,List.getElem?_map];rcases Nat.lt_or_ge k ops.size with hk|hk
   ·rw[List.getElem?_range hk];simp only[Option.map_some];by_cases hkn:k<n
    ·have:=vb k hkn;have hks:k<listed.size:=by rw[inv.size];exact hk
     simp only[Array.getD_eq_getD_getElem?,Array.getElem?_eq_getElem hks,Option.getD_some]at this;rw[Array.getElem?_eq_getElem hks,this];have:Nat.blt k n=true:=Nat.ble_eq_true_of_le hkn;rw[this]
    ·have:=inv.tail k (by omega) hk
     have hks:k<listed.size:=by rw[inv.size];exact hk
     simp only[Array.getD_eq_getD_getElem?,Array.getElem?_eq_getElem hks,Option.getD_some]at this;rw[Array.getElem?_eq_getElem hks,this];have:Nat.blt k n=false:=by rw[←Bool.not_eq_true];intro h;exact hkn (Nat.le_of_ble_eq_true h)
     rw[this]
   ·rw[List.getElem?_eq_none (by simpa using hk),Array.getElem?_eq_none (by rw[inv.size];exact hk)];rfl
  obtain⟨hN,PW,φ,M,hF,hW,hφ⟩:=hI;obtain⟨hbl,hbh⟩:=Qnx hD.wf rfl hD.below;have hSl:∀x∈full,listed.getD x.i false=true:=fun x hx=>vb x.i (Vj x hx).choose_spec.1
  have hS:Rk Γ ⟨σ.N,dL σ.L full,dH σ.H full⟩ a w:=by
   refine⟨hN,PW,φ,M,fun t=>?_,?_,fun id hid=>hφ id (by have:=hD.wf.lt.1;rw[hbl]at hid;omega) fun x hx _ hxi=>by
    have:=(hD.wf.lt.2 x hx).2.2;rw[hbl]at hid;omega⟩
   ·rw[QcC];have h4:=hF t;rcases mr (nn:=([]:List Nat)) (L:=σ.L) (S:=fun _=>true) (t:=t) (l:=full)with⟨x,hx,g1,g2,g3⟩|⟨g1,g2⟩
    ·rw[g3];rcases mr (nn:=dstsOf (ops.toList.take n)) (L:=σ.L) (S:=fun i=>listed.getD i false) (t:=t) (l:=full)with⟨y,hy,k1,k2,k3⟩|⟨k1,k2⟩
     ·rw[k3,QdN y hy x hx t k1 g1]at h4;exact h4
     ·have:=k1 x hx g1;rw[hSl x hx]at this;cases this
    ·rw[g2];have Qck:∀x∈full,x.dst≠some t:=fun x hx e=>by have:=g1 x hx e;cases this
     have Qp8:(dstsOf (ops.toList.take n)).contains t=false:=by
      rw[←Bool.not_eq_true,List.contains_iff_mem];intro hm;obtain⟨o,ho,hot⟩:=List.mem_filterMap.1 hm;obtain⟨j,hj⟩:=List.mem_iff_getElem?.1 ho;have hjn:j<n:=by
       have:=(List.getElem?_eq_some_iff.1 hj).1;simp at this;omega
      obtain⟨pre,post,d,o2,e,hdi,ho2,hdd,-⟩:=hD.op j hjn;rw[Uq j hjn,ho2]at hj;cases hj;exact Qck d (by rw[e];simp) (hdd.trans hot)
     rcases mr (nn:=dstsOf (ops.toList.take n)) (L:=σ.L) (S:=fun i=>listed.getD i false) (t:=t) (l:=full)with⟨y,hy,k1,k2,k3⟩|⟨k1,k2⟩
     ·exact absurd k1 (Qck y hy)
     ·rw[k2,Qp8]at h4;exact h4
   ·rw[hbh];refine hW.less fun id ob hid=>?_
    have e1:vT (fun i=>listed.getD i false) full id=vT (fun _=>true) full id:=KJ fun x hx _ _=>hSl x hx
    unfold pH at hid ⊢;rw[e1];have e2:yX σ.H (fun i=>listed.getD i false) full id=yX σ.H (fun _=>true) full id:=by
     rcases zW (H:=σ.H) (S:=fun _=>true) hD.wf id with⟨x,hx,h1,h2⟩|⟨h1,h2⟩
     ·rw[uF hD.wf hx h1 h2,uF hD.wf hx h1 h2,hSl x hx]
     ·rw[h2,EG hD.wf h1]
    rw[e2];exact hid
  have hwl:=Eo (Q:=Q) (ops.toList.drop n) QnR dX hS hQ;have hdl:(ops.toList.drop n).length=ops.size-n:=by simp
  have:=wpAny_of_seq (md:=.any) (ops:=ops) (Q':=Q) (ops.toList.drop n) n listed a w (fun j=>by rw[List.getElem?_drop];simp) (by rw[hdl,Qnz];exact Qqq) hwl
  rw[hdl]at this;exact this
 |succ f ih =>
  intro listed a w hf inv hI;rw[show f+1+(ops.size-n)=(f+(ops.size-n))+1 by omega]
  obtain⟨i0,hi0,hu0,Qp1⟩:=QgF (listed:=listed) (n:=n) (by omega)
  have Qlp:i0<ops.size:=by omega
  have QnS:listed.getD i0 true=false:=getD_in (by rw[inv.size];exact Qlp) hu0
  have Qcn:i0∈Region.ready .any ops listed:=by
   refine mem_ready.2 ⟨QnS,_,Array.getElem?_eq_getElem Qlp,fun e he hb=>?_⟩
   have h1:=List.all_eq_true.1 hpr (ops[i0],i0) (by
    rw[List.mem_iff_getElem?];refine⟨i0,?_⟩;rw[List.getElem?_zipIdx,Uq i0 hi0,Array.getElem?_eq_getElem Qlp];simp)
   have h2:=List.all_eq_true.1 h1 e.on (VD.2 ⟨e,he,hb,rfl⟩);exact Qp1 e.on (Nat.le_of_ble_eq_true h2)
  refine⟨fun h=>(by rw[h]at Qcn;cases Qcn),fun j hj=>?_⟩
  have hjn:j<n:=by
   rcases Nat.lt_or_ge j n with h|h
   ·exact h
   ·exfalso;obtain⟨_,oj,hoj,_⟩:=mem_ready.1 hj;have hjs:j<ops.size:=(Array.getElem?_eq_some_iff.1 hoj).1;rcases nQ with h1|⟨⟨h1,h2⟩,h3⟩
    ·omega
    ·exact tail_waits h2 h3 (Nat.le_of_ble_eq_true h1) inv _ i0 rfl hi0 QnS j h hj
  obtain⟨hun,oj,hoj,vb⟩:=mem_ready.1 hj;have hog:ops.getD j default=oj:=by simp [Array.getD_eq_getD_getElem?,hoj]
  exact Qgx hD hrd QdN tZ hI hjn hun (fun k hk=>by
   rw[hog]at hk;obtain⟨e,he,hb,rfl⟩:=VD.1 hk;exact vb e he hb) fun a' w' hI'=>ih _ a' w' (by have:=QgG hjn hun;omega) (inv.set hj hjn) hI'
theorem Ui{s:St}{id:Nat}(hf:N0 P ops σ hs=some s)(dX:d_ s.ic)(hS:Rk Γ σ a w)(hQ:∀a' w',Rk Γ s.σ a' w'→Q .normal a' w'):(Code.region id ops true).wp P Q a w:=by
 unfold N0 at hf;split at hf
 ·rename_i n cl jC;cases hc:(P.follows .mixedOrders&&Yv ops n)with
  |false=>rw[hc]at hf;cases hf
  |true =>
   rw[hc]at hf;simp only[cond_true]at hf;simp only[Bool.and_eq_true]at hc;split at hf
   ·rename_i done b ob hs2 hd;cases nr:Bw P ops (ops.toList.drop n) ⟨σ.N,dL σ.L done,dH σ.H done⟩ hs2 with
    |none=>rw[nr]at hf;cases hf
    |some s0 =>
     rw[nr]at hf;cases hf;rw[bC,bC]at dX;have hB:=hc.2;have hle:n≤ops.size:=by
      unfold Yv at hB;simp only[Bool.and_eq_true,Nat.ble_eq]at hB;exact hB.1.1.1.2
     have WS:(ops.toList.take n).length=n:=by simp;omega
     obtain⟨pre,e,hwf,vb⟩:=NY hd dX.1 (fun k=>by
      rcases Nat.lt_or_ge k n with h|h
      ·left;rw[List.getElem?_take,if_pos h,Nat.zero_add];simp
      ·right;rw[WS];exact h) UJ.nil
     rw[WS,Nat.zero_add]at hwf;have hD:Z_ P ops σ (dstsOf (ops.toList.take n)) cl n done b:=⟨hwf,fun j hj=>by
      have:=vb j (by rw[WS];exact hj)
      rw[Nat.zero_add]at this;exact this⟩
     refine wp_region_any hc.1 ?_
     have nQ:(left (Array.replicate ops.size false) n)+(ops.size-n)=ops.size:=by
      have:left (Array.replicate ops.size false) n=n:=by
       unfold left;rw[List.filter_eq_self.2 (fun i _=>by rw[getD_replicate_false];rfl)]
       simp
      omega
     obtain⟨hN,PW,φ,M,hF,hW,hφ⟩:=hS;have hinv:QhW Γ σ (dstsOf (ops.toList.take n)) done (Array.replicate ops.size false) a {w with drawn:=w.drawn+1}:=by
      refine⟨hN,PW,φ,M,fun t=>?_,?_,fun id hid _=>hφ id hid⟩
      ·have Of:Below w.heap.size w {w with drawn:=w.drawn+1}:=⟨rfl,rfl,rfl,Nat.le_refl _,fun _ _=>rfl⟩
       have he:=hW.Wz Of;rcases mr (nn:=dstsOf (ops.toList.take n)) (L:=σ.L) (S:=fun i=>(Array.replicate ops.size false).getD i false) (t:=t) (l:=done)with⟨y,hy,k1,k2,k3⟩|⟨k1,k2⟩
       ·rw[getD_replicate_false]at k2;cases k2
       ·rw[k2];cases(dstsOf (ops.toList.take n)).contains t with
        |true=>trivial
        |false=>exact AR.mono he (hF t)
      ·have Of:Below w.heap.size w {w with drawn:=w.drawn+1}:=⟨rfl,rfl,rfl,Nat.le_refl _,fun _ _=>rfl⟩
       refine(hW.grow Of).less fun id ob hid=>?_
       have e1:vT (fun i=>(Array.replicate ops.size false).getD i false) done id=none:=CI fun x _ _ _=>getD_replicate_false _ _
       unfold pH at hid;rw[e1]at hid;simp only at hid;rcases zW (H:=σ.H) (S:=fun i=>(Array.replicate ops.size false).getD i false) hwf id with⟨x,hx,h1,h2⟩|⟨h1,h2⟩
       ·rw[uF hwf hx h1 h2,getD_replicate_false]at hid;cases hid
       ·rw[h2]at hid;exact hid
     have QqF:HeadInv .any ops n (Array.replicate ops.size false):=
      ⟨by simp,fun j oj _ hl=>(by rw[getD_replicate_false]at hl;cases hl),fun t _ ht=>getD_in (by simpa using ht) (getD_replicate_false _ _)⟩
     have:=QfG (tail:=[]) hB hD dX.2.1 nr dX.2.2 hQ _ _ a _ rfl QqF hinv;rw[nQ]at this;exact this
   ·cases hf
 ·cases hf
end
end
section
set_option exponentiation.threshold 300
open Go.RowKit
section
variable {P : Program} {Γ : bn} {body : Code} {R : Exit → Act → World → Prop} {a : Act} {w : World} {hs : List Hint}
theorem UU(body:Code):∀(n p:Nat),p<2 ^ n→Yj body n p=Yj body (n+1) p
 |0,p,h=>by
  have:p=0:=by simpa using h
  subst this;rfl
 |n+1,p,h=>by
  show(bif Nat.ble p 1 then body else child (p % 2 == 1) (Yj body n (p / 2)))=(bif Nat.ble p 1 then body else child (p % 2 == 1) (Yj body (n+1) (p / 2)));rw[UU body n (p / 2) (by rw[Nat.pow_succ]at h;omega)]
theorem Yk{p:Nat}(h:(Nat.ble 1 p&&Nat.blt p OV)=true)(k:Bool):cd body (2*p+cond k 1 0)=child k (cd body p):=by
 rw[Bool.and_eq_true]at h;have h1:1≤p:=Nat.le_of_ble_eq_true h.1;have h2:p<2 ^ 250:=Nat.le_of_ble_eq_true h.2;have h3:p<2 ^ 299:=Nat.lt_of_lt_of_le h2 (Nat.pow_le_pow_right (by omega) (by omega))
 have h4:=UU body 299 p h3;show(bif Nat.ble (2*p+cond k 1 0) 1 then body else child ((2*p+cond k 1 0) % 2 == 1) (Yj body 299 ((2*p+cond k 1 0) / 2)))=child k (Yj body 300 p);have h5:Nat.ble (2*p+cond k 1 0) 1=false:=by
  rw[←Bool.not_eq_true];intro h;have:=Nat.le_of_ble_eq_true h;omega
 have h6:(2*p+cond k 1 0) / 2=p:=by cases k <;> simp <;> omega
 have h7:((2*p+cond k 1 0) % 2 == 1)=k:=by cases k <;> simp <;> omega
 rw[h5,h6,h7,h4];rfl
theorem Qdu{p:Nat}(h:(Nat.ble 1 p&&Nat.blt p OV)=true):cd body (2*p)=child false (cd body p):=Yk h false
theorem N6{id:Nat}:∀{k k':List It},U7 id k=some k'→exitTo id (k.map (It.item body))=some (k'.map (It.item body))
 | [],_,h=>by cases h
 | .c p ::k,k',h=>N6 (k:=k) h
 | .l p ::k,k',h=>N6 (k:=k) h
 | .b i ::k,k',h=>by
  simp only[U7]at h;simp only[List.map_cons,It.item,exitTo];cases hi:(i == id)with
  |true=>rw[hi]at h;cases h;rfl
  |false=>rw[hi]at h;exact N6 (k:=k) h
theorem Qbk{cf:Cf}{r:Rn}(hf:Qma P body cf hs=some r)(dX:d_ r.ic)(hS:Rk Γ cf.σ a w)(hK:∀a' w',Rk Γ r.cf.σ a' w'→KW P body r.cf.k R a' w'):KW P body cf.k R a w:=by
 intro b cs;have go:∀a' w',Rk Γ r.cf.σ a' w'→Steps P (lone (b.at a (cf.k.map (It.item body))) cs w) (lone (b.at a' (r.cf.k.map (It.item body))) cs w')→
   ∃e a' w',R e a' w'∧Arrives P (lone (b.at a (cf.k.map (It.item body))) cs w) b [] cs e a' w':=fun a' w' Rv nr=>let⟨e,a2,w2,hR,ha⟩:=hK a' w' Rv b cs;⟨e,a2,w2,hR,.of_steps nr ha⟩
 unfold Qma at hf;split at hf
 ·cases hf
 ·rename_i id k hk;cases hf;exact go a w hS (by rw[hk];exact .one step_inBlock)
 ·rename_i p k hk;cases hf;exact go a w hS (by rw[hk];exact .one step_inLoop)
 ·rename_i p k hk;cases hp:(Nat.ble 1 p&&Nat.blt p OV)with
  |false=>rw[hp]at hf;cases hf
  |true =>
   rw[hp]at hf;simp only[Bool.not_true,cond_false]at hf;rw[hk]at go ⊢;simp only[List.map_cons,It.item]at go ⊢;have h0:=Qdu (body:=body) hp;have h1:=Yk (body:=body) hp true;simp only[cond_true]at h1;split at hf
   ·rename_i hc;rw[hc]at go ⊢;cases hf;exact go a w hS (.one step_skip)
   ·rename_i x y hc;rw[hc]at go ⊢ h0 h1;cases hf;simp only[List.map_cons,It.item,h0,h1,child,cond_true,cond_false]at go;exact go a w hS (.one step_seq)
   ·rename_i id x hc;rw[hc]at go ⊢ h0;cases hf;simp only[List.map_cons,It.item,h0,child]at go;exact go a w hS (.one step_block)
   ·rename_i x hc;rw[hc]at go ⊢ h0;cases hf;simp only[List.map_cons,It.item,h0,child]at go;exact go a w hS (.one step_loop)
   ·rename_i c x y hc;split at hf
    ·rename_i b1 t jC hv;rw[hc]at go ⊢ h0 h1;cases hf;have hb:b1=t:=dX.1;obtain⟨hN,PW,φ,M,hF,hW,hφ⟩:=hS;have h2:=Mx hF c;rw[hv]at h2;have h3:=Ah h2;subst hb;refine go a w ⟨hN,PW,φ,M,hF,hW,hφ⟩ ?_
     have h4:=step_cond (P:=P) (b:=b) (k:=k.map (It.item body)) (cs:=cs) (w:=w) (x:=x) (y:=y) h3;cases b1 with
     |true=>simp only[List.map_cons,It.item,cond_true,Nat.add_zero,h0,child,cond_false];exact .one h4
     |false=>simp only[List.map_cons,It.item,cond_false,h1,child,cond_true];exact .one h4
    ·cases hf
   ·rename_i id hc;rw[hc]at go ⊢;cases hx:U7 id k with
    |none=>rw[hx]at hf;cases hf
    |some k' =>
     rw[hx]at hf;cases hf;exact go a w hS (.one (step_exit (N6 hx)))
   ·rename_i id ops draw hc;rw[hc]at go ⊢;have hw:∀s:St,(bif draw then N0 P ops cf.σ hs else Bw P ops ops.toList cf.σ hs)=some s→d_ s.ic→(Code.region id ops draw).wp P (fun e a' w'=>e=.normal∧Rk Γ s.σ a' w') a w:=by
     intro s R1 ho;cases draw with
     |true=>exact Ui R1 ho hS fun a' w' h=>⟨rfl,h⟩
     |false=>exact wp_region_list (Eo _ R1 ho hS fun a' w' h=>⟨rfl,h⟩)
    cases hx:(bif draw then N0 P ops cf.σ hs else Bw P ops ops.toList cf.σ hs)with
    |none=>rw[hx]at hf;cases hf
    |some s =>
     rw[hx]at hf;cases hf;obtain⟨e,a',w',⟨rfl,Rv⟩,har⟩:=hw s hx dX b (k.map (It.item body)) cs;exact go a' w' Rv har
   ·cases hf
theorem Kg:∀(n:Nat) {cf:Cf} {r:Rn} {hs:List Hint} {a:Act} {w:World},Zz P body n cf hs=some r→d_ r.ic→Rk Γ cf.σ a w→(∀a' w',Rk Γ r.cf.σ a' w'→KW P body r.cf.k R a' w')→KW P body cf.k R a w
 |0,cf,r,hs,a,w,hf,_,hS,hK=>by cases hf;exact hK a w hS
 |n+1,cf,r,hs,a,w,hf,dX,hS,hK=>by
  simp only[Zz]at hf;split at hf
  ·rename_i σ0 o0 Z4 hg;split at hf
   ·rename_i r1 h1;split at hf
    ·rename_i r2 h2;cases hf;simp only[bC]at dX;exact Qbk (cf:=⟨cf.k,σ0⟩) h1 dX.1.2 (KS hg dX.1.1 hS) fun a' w' Rv=>Kg n h2 dX.2 Rv hK
    ·cases hf
   ·cases hf
  ·cases hf
end
section
variable {P : Program} {Γ : bn} {φ φ2 : Pl} {M : Nat → Prop} {w : World} {a : Act} {m : Nat → Option Nat}
def Yq(φ:Pl)(ids:List Nat):Pl:=fun i=>match ids[i]? with
 |some j=>φ j
 |none=>none
theorem KO{ids:List Nat}{i j:Nat}(h:ids[i]?=some j):Yq φ ids i=φ j:=by unfold Yq;rw[h]
theorem Ww{ids:List Nat}:∀id k p,posOf ids 0 id=some k→φ id=some p→Yq φ ids k=some p:=fun id k p h hp=>(KO (by simpa using(M1 h).2)).trans hp
theorem QgO{live:List Nat}{σ:SS}{f:AV→AV}(t:Nat):look (live.map fun t=>(t,f (look σ.L t))) t=f (look σ.L t)∨look (live.map fun t=>(t,f (look σ.L t))) t=.RO:=by
 induction live with
 |nil=>exact .inr rfl
 |cons x r ih =>
  simp only[List.map_cons,look];cases h:(x == t)with
  |true =>
   have:x=t:=by simpa using h
   subst this;exact .inl rfl
  |false=>exact ih
theorem WJ{σ:SS}{ids:List Nat}{i:Nat}{CK:Ob}(h:hl (ids.map fun i=>(hl σ.H i).map (kQ m)) i=some CK):∃j ob,ids[i]?=some j∧hl σ.H j=some ob∧CK=kQ m ob:=by
 unfold hl at h;rw[List.getElem?_map]at h;cases hj:ids[i]? with
 |none=>rw[hj]at h;cases h
 |some j =>
  rw[hj]at h;simp only[Option.map_some,Option.join_some]at h;cases ho:(σ.H[j]?).join with
  |none=>rw[ho]at h;cases h
  |some ob=>rw[ho]at h;cases h;exact⟨j,ob,rfl,ho,rfl⟩
theorem QfE{σ:SS}{ids IN:List Nat}(hn:DC ids=true)(hp:VO IN ids=true)(SZ:∀p∈Γ.pins,p.1∈IN)(hW:Wd Γ φ M (hl σ.H) w):
  Wd Γ (Yq φ ids) M (hl (ids.map fun i=>(hl σ.H i).map (kQ (posOf ids 0)))) w:=by
 refine⟨fun i CK h=>?_,fun i j oi oj b Ci Cj h1 h2 h3 h4=>?_,hW.mlt,hW.m0,hW.OE,fun i ob b C h1 h2=>?_,hW.MH,hW.os,hW.tape,hW.output,hW.size,fun p hpp=>?_⟩
 ·obtain⟨j,ob,h1,h2,rfl⟩:=WJ h;exact Kb Ww (KO h1) (hW.ic j ob h2)
 ·obtain⟨i',T6,g1,g2,-⟩:=WJ h1;obtain⟨j',ob2,g3,g4,-⟩:=WJ h2;rw[KO g1]at h3;rw[KO g3]at h4;have:=hW.inj i' j' T6 ob2 b Ci Cj g2 g4 h3 h4;subst this;have hi:=(List.getElem?_eq_some_iff.1 g1).1;exact(List.getElem?_inj hi (MW hn)).1 (g1.trans g3.symm)
 ·obtain⟨i',T6,g1,g2,-⟩:=WJ h1;rw[KO g1]at h2;exact hW.own i' T6 b C g2 h2
 ·have h1:=hW.IN p hpp;have h2:=List.all_eq_true.1 hp p.1 (SZ p hpp);cases hi:ids[p.1]? with
  |none=>rw[hi]at h2;cases h2
  |some j =>
   rw[hi]at h2;have:p.1=j:=by simpa using h2
   rw[KO hi,←this];exact h1
theorem Yr{ids:List Nat}(f:Nat→Option Ob):∀id,(ids.map f).length≤id→Yq φ ids id=none:=fun id h=>by
 unfold Yq;rw[List.length_map]at h;rw[List.getElem?_eq_none h]
theorem Qh9{σ:SS}{live ids IN:List Nat}(hn:DC ids=true)(hp:VO IN ids=true)(SZ:∀p∈Γ.pins,p.1∈IN)(hS:Rk Γ σ a w):Rk Γ (cut live ids σ) a w:=by
 obtain⟨hN,PW,φ,M,hF,hW,hφ⟩:=hS;refine⟨hN,PW,Yq φ ids,M,fun t=>?_,QfE hn hp SZ hW,Yr _⟩
 rcases QgO (live:=live) (σ:=σ) (f:=O5 (posOf ids 0)) t with h|h
 ·show AR w M _ (look (live.map fun t=>(t,O5 (posOf ids 0) (look σ.L t))) t) _
  rw[h];exact O6 Ww (hF t)
 ·show AR w M _ (look (live.map fun t=>(t,O5 (posOf ids 0) (look σ.L t))) t) _
  rw[h];trivial
def Qev(tmps:Array Value):ResultVar→Sem Value
 | .tmp t=>pure (tmps.getD t undef)
 | .cell a t=>do loadVar t (←asAddr (tmps.getD a undef))
theorem Y5{α:Type}{f:α→Sem Value}:∀{xs:List α} {vs:List Value},Rs (fun x v=>(f x).run P w=.ok v w) xs vs→(xs.mapM f).run P w=.ok vs w
 | [],[],_=>rfl
 |x ::xs,v ::vs,h=>by
  rw[List.mapM_cons];simp only[Sem.run_bind,h.1,Result.andThen_ok,Y5 h.2,Sem.run_pure]
 | [],_ ::_,h=>h.elim
 |_ ::_,[],h=>h.elim
theorem Zv{fn:Func}{tmps:Array Value}{vs:List Value}(h:Rs (fun x v=>(Qev tmps x).run P w=.ok v w) fn.results.toList vs):
  (results fn tmps).run P w=.ok (if h:vs.toArray.size=1 then vs.toArray[0]else .tuple vs.toArray) w:=by
 have h1:=Y5 h;have h2:(fn.results.mapM (Qev tmps)).run P w=.ok vs.toArray w:=by
  rw[Array.mapM_eq_mapM_toList];simp only[map_eq_pure_bind,Sem.run_bind,h1,Result.andThen_ok,Sem.run_pure]
 have h3:results fn tmps=(do let vs ←fn.results.mapM (Qev tmps);pure (if h:vs.size=1 then vs[0]else .tuple vs)):=rfl
 rw[h3];simp only[Sem.run_bind,h2,Result.andThen_ok,Sem.run_pure]
theorem Qjs{L:Nat→AV}{h:Nat→Option Ob}{x:ResultVar}{c:Cm}(hx:Qjr L h P x=some c)(hF:∀t,AR w M φ (L t) (a.tmps.getD t undef))(hW:Wd Γ φ M h w):
  ∃v,(Qev a.tmps x).run P w=.ok v w∧CR w M φ c v:=by
 cases x with
 |tmp t =>
  simp only[Qjr]at hx;split at hx
  ·rename_i c0 hc;cases hx;have:=hF t;rw[hc]at this;exact⟨_,rfl,this⟩
  ·cases hx
 |cell t ty =>
  simp only[Qjr]at hx;split at hx
  ·rename_i id sz row off n TD h1 h2 h3;split at hx
   ·rename_i ob dX;split at hx
    ·rename_i cells tS mC;cases hc:(row == 0&&ob.sz == sz)with
     |false=>rw[hc]at hx;cases hx
     |true =>
      rw[hc]at hx;simp only[cond_true]at hx;simp only[Bool.and_eq_true,beq_iff_eq]at hc;have h4:=hF t;rw[h1]at h4;obtain⟨b,C,hφ,hv⟩:=(h4:zH w M φ (.op id sz row off) (a.tmps.getD t undef));have hO:=hW.ic id ob dX;obtain⟨v,hl,hcr⟩:=GZ (M:=M) (φ:=φ) (b:=b) (k:=row*sz) h2 h3 hx fun i l hl=>by
       have:=hO.Yl (i:=0) (.inr ⟨_,mC⟩) hφ (by rw[mC];rfl) i l hl
       rw[hc.1,Nat.zero_mul];rwa [Nat.zero_mul]at this
      refine⟨v,?_,hcr⟩;simp only[Qev,hv,Sem.run_bind];simpa [asAddr]using hl
    ·cases hx
   ·cases hx
  ·cases hx
theorem Zu{L:Nat→AV}{h:Nat→Option Ob}(hF:∀t,AR w M φ (L t) (a.tmps.getD t undef))(hW:Wd Γ φ M h w):∀{xs:List ResultVar} {cs:List Cm},QcX L h P xs=some cs→
  ∃vs,Rs (fun x v=>(Qev a.tmps x).run P w=.ok v w) xs vs∧Rs (CR w M φ) cs vs
 | [],cs,hx=>by cases hx;exact⟨[],trivial,trivial⟩
 |x ::xs,cs,hx=>by
  simp only[QcX]at hx;split at hx
  ·rename_i c Ug h1 h2;cases hx;obtain⟨v,g1,g2⟩:=Qjs h1 hF hW;obtain⟨vs,g3,g4⟩:=Zu hF hW h2;exact⟨v ::vs,⟨g1,g3⟩,g2,g4⟩
  ·cases hx
theorem Qg_:∀{cs:List Cm} {vs:List Value},Rs (CR w M φ) cs vs→AR w M φ (Qg9 cs) (if h:vs.toArray.size=1 then vs.toArray[0]else .tuple vs.toArray)
 | [],[],_=>⟨[],rfl,trivial⟩
 | [c],[v],h=>h.1
 |c ::d ::cs,v ::u ::vs,h=>by
  rw[dif_neg (by simp)]
  exact⟨_,rfl,h⟩
 | [],_ ::_,h=>h.elim
 |_ ::_,[],h=>h.elim
 | [_],_ ::_ ::_,h=>h.2.elim
 |_ ::_ ::_,[_],h=>h.2.elim
end
section
variable {P : Program} {fn : Func} {IN : List Nat} {Γ : bn} {r : AV} {H1 : List (Option Ob)}
theorem go_run(n:Nat)(live ids:List Nat)(hs:List Hint){cf cf':Cf}{ob:Prop}(h:Qmb P (DY fn) n live ids cf hs=some (cf',ob))(hp:VO IN ids=true)(dX:ob)
  (hg:Go P fn IN Γ r H1 cf'):Go P fn IN Γ r H1 cf:=by
 intro SZ a w hS;unfold Qmb at h;split at h
 ·rename_i rn hr;split at h
  ·rename_i σ o hgh;cases hn:DC ids with
   |false=>rw[hn]at h;cases h
   |true =>
    rw[hn]at h;cases h;rw[bC]at dX;exact Kg n hr dX.1 hS fun a' w' Rv=>hg SZ a' w' (Qh9 hn hp SZ (KS hgh dX.2 Rv))
  ·cases h
 ·cases h
theorem go_ret(n:Nat)(ids:List Nat)(hs:List Hint){cf:Cf}{ob:Prop}(h:Ql_ P fn n ids cf hs=some (r,H1,ob))(hp:VO IN ids=true)(dX:ob):Go P fn IN Γ r H1 cf:=by
 intro SZ a w hS;unfold Ql_ at h;split at h
 ·rename_i rn hr;cases hk:Qfr (DY fn) rn.cf.k with
  |false=>rw[hk]at h;cases h
  |true =>
   rw[hk]at h;simp only[cond_true]at h;split at h
   ·rename_i σ o hgh;split at h
    ·rename_i cs hcs;cases hn:DC ids with
     |false=>rw[hn]at h;cases h
     |true =>
      rw[hn]at h;cases h;rw[bC]at dX;refine Kg n hr dX.1 hS fun a' w' Rv=>?_
      obtain⟨hN,PW,φ,M,hF,hW,hφ⟩:=KS hgh dX.2 Rv;have hRR:∀e,(e=Exit.ret∨e=.normal)→RR P fn Γ (O5 (posOf ids 0) (Qg9 cs)) (ids.map fun i=>(hl σ.H i).map (kQ (posOf ids 0))) e a' w':=by
       intro e he;obtain⟨vs,h1,h2⟩:=Zu hF hW hcs;exact⟨he,PW,_,Yq φ ids,M,Zv h1,O6 Ww (Qg_ h2),QfE hn hp SZ hW,Yr _⟩
      intro b Ug;unfold Qfr at hk;split at hk
      ·rename_i Vl;rw[Vl];exact⟨.normal,a',w',hRR _ (.inr rfl),.refl _ _⟩
      ·rename_i p k Vl;unfold Qkm at hk;split at hk
       ·rename_i hc;rw[Vl];refine⟨.ret,a',w',hRR _ (.inl rfl),.code .ret ::k.map (It.item (DY fn)),?_⟩;simp only[List.map_cons,It.item,hc];exact .one step_ret
       ·cases hk
      ·cases hk
    ·cases h
   ·cases h
 ·cases h
structure Ev where
 hs:List Hint
 ob:Prop→Prop
 pf:∀q:Prop,q→ob q
def evH:List Ev→List Hint
 | []=>[]
 |e ::r=>e.hs++evH r
def evP:List Ev→Prop
 | []=>True
 |e ::r=>e.ob (evP r)
theorem Qk9:∀l:List Ev,evP l
 | []=>trivial
 |e ::r=>e.pf _ (Qk9 r)
theorem gn(n:Nat)(live ids:List Nat)(es:List Ev){cf cf':Cf}(hg:Go P fn IN Γ r H1 cf')(h:Qmb P (DY fn) n live ids cf (evH es)=some (cf',evP es):=by kernel_rfl)(hp:VO IN ids=true:=by kernel_rfl):Go P fn IN Γ r H1 cf:=
 go_run n live ids (evH es) h hp (Qk9 es) hg
theorem gr(n:Nat)(ids:List Nat)(es:List Ev){cf:Cf}(h:Ql_ P fn n ids cf (evH es)=some (r,H1,evP es):=by kernel_rfl)(hp:VO IN ids=true:=by kernel_rfl):Go P fn IN Γ r H1 cf:=go_ret n ids (evH es) h hp (Qk9 es)
def rp:Nat→Ev→Ev
 |0,_=>⟨[],fun q=>q,fun _ h=>h⟩
 |n+1,e=>⟨e.hs++(rp n e).hs,fun q=>e.ob ((rp n e).ob q),fun q h=>e.pf _ ((rp n e).pf q h)⟩
def hH(h:Hint):Ev:=⟨[h],fun q=>q,fun _ k=>k⟩
def hP:Ev:=hH .spec
def hW(n:Nat):Ev:=hH (.wait n)
def oO{p:Prop}(h:p):Ev:=⟨[],fun q=>p∧q,fun _ k=>⟨h,k⟩⟩
def oI(p:Prop):Ev:=oO (fun h:p=>h)
def oR(a b:Prop):Ev:=oO (fun h:a∧b=>h.2)
def bT{b:Bool}(h:b=true):Ev:=⟨[.bit true],fun q=>b=true∧q,fun _ k=>⟨h,k⟩⟩
def bF{b:Bool}(h:b=false):Ev:=⟨[.bit false],fun q=>b=false∧q,fun _ k=>⟨h,k⟩⟩
def tT:Ev:=bT (Eq.refl true)
def fF:Ev:=bF (Eq.refl false)
def nT{b:Bool}(h:b=false):Ev:=bT (QqK h)
def nF{b:Bool}(h:b=true):Ev:=bF (QqJ h)
def kF:Ev:=⟨[.skip],fun q=>(False→False)∧q,fun _ k=>⟨id,k⟩⟩
def nL{α:Type}(e:α→List Lf)(l:List α):Ev:=⟨[.num l.length],fun q=>(l.map e).length=l.length∧q,fun _ k=>⟨QqI e l,k⟩⟩
def cE{α:Type}(e:α→List Lf){l:List α}{i:Int}{a:α}(h:bq l i=some a):Ev:=⟨[.cells (e a)],fun q=>bq (l.map e) i=some (e a)∧q,fun _ k=>⟨getM e h,k⟩⟩
def rE{α:Type}(e:α→List Lf){l:List α}{i:Int}{a:α}(h:bq l i=some a):Ev:=⟨[.cells (e a)],fun q=>(l.map e)[0+i.toNat]?=some (e a)∧q,fun _ k=>⟨Qq1 e h,k⟩⟩
def yE{s:ByteArray}{i:Int}{b:UInt8}(h:Ru s i=some b):Ev:=⟨[.byte b],fun q=>Ru s i=some b∧q,fun _ k=>⟨h,k⟩⟩
def cI{P:Program}{f:FuncId}{args:List Cm}{H0:List Ob}{r:AV}{H1:List (Option Ob)}(ids:List Nat)(h:dF P f args H0 r H1):Ev:=⟨[.call ids r H1],fun q=>dF P f args H0 r H1∧q,fun _ k=>⟨h,k⟩⟩
def cC{P:Program}{f:FuncId}{args:List Cm}{H0:List Ob}{r:AV}{H1:List (Option Ob)}(h:dF P f args H0 r H1):Ev:=cI [] h
def eL{α:Type}(l:List α)(f:α→List Lf):Ev:=oO (Eq.refl (l.map f).length)
def aN{α:Type}(e:α→List Lf){l:List α}{b:Nat}(h:e_ l.length b)(hb:Nat.blt 0 b=true:=by rfl):Ev:=⟨[.rows (l.map e)],fun q=>l.map e=l.map e∧(l.map e).length*b≤140737488355328∧(l.map e).length≤9223372036854775807∧q,
 fun _ k=>⟨rfl,Qjc e h,QcK e (by simpa using hb) h,k⟩⟩
def aZ{α:Type}(e:α→List Lf){l:List α}{b:Nat}(h:e_ l.length b)(hb:Nat.blt 0 b=true:=by rfl):Ev:=⟨[.rows (l.map e)],fun q=>l.map e=l.map e∧(l.map e=[]→([]:List (List Lf))=[])∧(l.map e).length*b≤140737488355328∧(l.map e).length≤9223372036854775807∧q,
 fun _ k=>⟨rfl,neZ e l,Qjc e h,QcK e (by simpa using hb) h,k⟩⟩
def aO{α:Type}(e:α→List Lf){l m:List α}{b:Nat}(h:e_ (l++m).length b)(hb:Nat.blt 0 b=true:=by rfl):Ev:=⟨[.rows ((l++m).map e)],
 fun q=>(l.map e).length=(l.map e).length∧l.map e++m.map e=(l++m).map e∧((l++m).map e).length*b≤140737488355328∧((l++m).map e).length≤9223372036854775807∧q,
 fun _ k=>⟨rfl,QmX e l m,Qjc e h,QcK e (by simpa using hb) h,k⟩⟩
section
variable {w : World} {M : Nat → Prop} {φ : Pl} {m : List Nat}
theorem Rs.Qou{α β:Type}{R:α→β→Prop}{c c':α}(hw:∀v,R c' v→R c v):∀{xs:List α} {vs:List β} {k:Nat},xs[k]?=some c→Rs R (xs.set k c') vs→Rs R xs vs
 | [],_,_,hk,_=>by simp at hk
 |x ::xs,[],0,_,h=>h.elim
 |x ::xs,[],k+1,_,h=>h.elim
 |x ::xs,v ::vs,0,hk,h=>by
  have e:x=c:=by simpa using hk
  subst e;exact⟨hw v h.1,h.2⟩
 |x ::xs,v ::vs,k+1,hk,h=>⟨h.1,Rs.Qou hw (by simpa using hk) h.2⟩
theorem dF.Qi9{P:Program}{f:FuncId}{args:List Cm}{H0:List Ob}{r:AV}{H1:List (Option Ob)}(k sz:Nat)(h:dF P f args H0 r H1)(hk:args[k]?=some (.one (.sl false sz [])):=by rfl):dF P f (args.set k (.one .dO)) H0 r H1:=by
 obtain⟨h1,h2⟩:=h;refine⟨h1,fun w φ M0 uc hW hφ hr=>h2 w φ M0 uc hW hφ (Rs.Qou (fun v hv=>?_) hk hr)⟩
 have R2:IR w M0 .dO v:=hv;cases R2;exact IR.TG false sz none 0 fun h=>by cases h
end
section
variable {K V : Type}
def mE(ek:K→List Lf)(ev:V→Lf)(p:K×V):List Lf:=ev p.2 ::ek p.1
def kI(n:Int):List Lf:=[lI n]
def kS(s:ByteArray):List Lf:=[.str s]
def bM{α:Type}(Mi:TypeId)(l:List α)(e:α→List Lf):Ob:=⟨true,1,Mi,[] :: [] ::l.map e⟩
def oM{α:Type}(Mi:TypeId)(l:List α)(e:α→List Lf):Option Ob:=some (bM Mi l e)
theorem kqI(a b:Int):xw (kI a) (kI b)=some (bP a b):=by show some (bP a b&&true)=_;rw[Bool.and_true]
theorem kqS(a b:ByteArray):xw (kS a) (kS b)=some (T1 a b):=by show some (T1 a b&&true)=_;rw[Bool.and_true]
theorem Qd8{ek:K→List Lf}{eq:K→K→Bool}(hk:∀a b,xw (ek a) (ek b)=some (eq a b))(ev:V→Lf)(u:Unit)(l:List (K×V))(k:K)(z:V):Ho (l.map (mE ek ev)) (ek k) (ev z)=some (ev (pY eq l k z)):=by
 induction l with
 |nil=>rfl
 |cons p r ih =>
  show(match xw (ek k) (ek p.1)with
   |some true=>some (ev p.2)
   |some false=>Ho (r.map (mE ek ev)) (ek k) (ev z)
   |none=>none)=some (ev (pY eq (p ::r) k z))
  rw[hk];simp only[pY];cases eq k p.1 with
  |true=>rfl
  |false=>exact ih
theorem Qd9{ek:K→List Lf}{eq:K→K→Bool}(hk:∀a b,xw (ek a) (ek b)=some (eq a b))(ev:V→Lf)(u:Unit)(l:List (K×V))(k:K)(v:V):Ce (l.map (mE ek ev)) (ek k) (ev v)=some ((vh eq l k v).map (mE ek ev)):=by
 induction l with
 |nil=>rfl
 |cons p r ih =>
  show(match xw (ek k) (ek p.1)with
   |some true=>some ((ev v ::ek k) ::r.map (mE ek ev))
   |some false=>(Ce (r.map (mE ek ev)) (ek k) (ev v)).map ((ev p.2 ::ek p.1) :: ·)
   |none=>none)=some ((vh eq (p ::r) k v).map (mE ek ev))
  rw[hk];simp only[vh];cases eq k p.1 with
  |true=>rfl
  |false=>rw[ih];rfl
end
def cY{α:Type}(e:α→List Lf)(l m:List α):Ev:=⟨[.rows ((HA l m).map e),.num (PI l m)],
 fun q=>(l.map e).length=(l.map e).length∧min (m.map e).length (l.map e).length=PI l m∧(m.map e).take (PI l m)++(l.map e).drop (PI l m)=(HA l m).map e∧q,fun _ h=>⟨rfl,Qo8 e l m,Qo9 e l m,h⟩⟩
def mG{K V:Type}{ek:K→List Lf}{eq:K→K→Bool}(hk:∀a b,xw (ek a) (ek b)=some (eq a b))(ev:V→Lf)(l:List (K×V))(k:K)(z:V):Ev:=⟨[.cells [ev (pY eq l k z)]],fun q=>Ho (l.map (mE ek ev)) (ek k) (ev z)=some (ev (pY eq l k z))∧q,fun _ h=>⟨Qd8 hk ev () l k z,h⟩⟩
def mU{K V:Type}{ek:K→List Lf}{eq:K→K→Bool}(hk:∀a b,xw (ek a) (ek b)=some (eq a b))(ev:V→Lf)(l:List (K×V))(k:K)(v:V):Ev:=⟨[.rows ((vh eq l k v).map (mE ek ev))],fun q=>Ce (l.map (mE ek ev)) (ek k) (ev v)=some ((vh eq l k v).map (mE ek ev))∧q,fun _ h=>⟨Qd9 hk ev () l k v,h⟩⟩
def vI(t:Nat)(n:Int):Nat×AV:=(t,one (lI n))
def vB(t:Nat)(b:Bool):Nat×AV:=(t,one (.bool b))
def vS(t:Nat)(s:ByteArray):Nat×AV:=(t,one (.str s))
def vL{α:Type}(t sz:Nat)(l:List α)(e:α→List Lf):Nat×AV:=(t,one (lL sz l e))
def vO{α:Type}(t id sz:Nat)(l:List α)(e:α→List Lf):Nat×AV:=(t,one (lO id sz l e))
def vP(t id sz:Nat):Nat×AV:=(t,one (.op id sz 0 0))
def gG(c:List Lf):AV:=.cm (.agg c)
def bX(sz:Nat)(Mi:TypeId)(c:List Lf):Ob:=⟨true,sz,Mi,[c]⟩
def bS{α:Type}(sz:Nat)(Mi:TypeId)(l:List α)(e:α→List Lf):Ob:=⟨false,sz,Mi,l.map e⟩
def oX(sz:Nat)(Mi:TypeId)(c:List Lf):Option Ob:=some (bX sz Mi c)
def oS{α:Type}(sz:Nat)(Mi:TypeId)(l:List α)(e:α→List Lf):Option Ob:=some (bS sz Mi l e)
theorem oJ{α:Type}{a b:α}(h:some a=some b):b=a:=(Option.some.inj h).symm
theorem oK{α:Type}{a b:α}(h:some a=some b):a=b:=Option.some.inj h
theorem bk{S E:Type}{B:S→Option (S⊕E)}{C:S→Prop}{D:E→Prop}(Vn:∀s x,B s=some x→(∀⦃s'⦄,some (Sum.inl s')=some x→C s')→(∀⦃e⦄,some (Sum.inr e)=some x→D e)→C s):∀⦃s:S⦄ ⦃e:E⦄,aK B s=some e→D e→C s:=fun _ _ h hD=>QgP C D (fun s x h1 h2 h3=>Vn s x h1 (fun _ h=>h2 _ (oJ h)) (fun _ h=>h3 _ (oJ h))) h hD
theorem az{α:Type}{b:Bool}{x y:Option α}{r:α}:br b x y=some r↔(b=true∧x=some r)∨(b=false∧y=some r):=by
 cases b
 ·exact⟨fun h=>.inr ⟨rfl,h⟩,fun h=>h.elim (fun h=>nomatch h.1) fun h=>h.2⟩
 ·exact⟨fun h=>.inl ⟨rfl,h⟩,fun h=>h.elim (fun h=>h.2) fun h=>nomatch h.1⟩
theorem an{α β:Type}{o:Option α}{f:α→Option β}{r:β}:aS o f=some r↔∃a,o=some a∧f a=some r:=
 ⟨uD,fun⟨a,h,h'⟩=>by rw[h];exact h'⟩
theorem aq{α:Type}{p:Prop} [Decidable p] {x:Option α}{r:α}:eH p x=some r↔p∧x=some r:=
 ⟨NT,fun⟨h,h'⟩=>by unfold eH;rw[if_pos h];exact h'⟩
theorem zL(n:Nat):(0:Int)≤n:=Int.natCast_nonneg n
theorem lT(a b:Nat)(h:Nat.blt a b=true:=by rfl):(a:Int)<b:=by simpa using h
theorem oA{n:Int}(h:(n == 0)=false:=by rfl):n≠0:=by simpa using h
theorem go_amb(t:Nat){cf:Cf}(h:(match look cf.σ.L t with
  | .boo=>true
  |_=>false)=true) (h1:Go P fn IN Γ r H1 ⟨cf.k,⟨cf.σ.N,(t,one (.bool true)) ::cf.σ.L,cf.σ.H⟩⟩) (h2:Go P fn IN Γ r H1 ⟨cf.k,⟨cf.σ.N,(t,one (.bool false)) ::cf.σ.L,cf.σ.H⟩⟩):Go P fn IN Γ r H1 cf:=by
 intro SZ a w hS;obtain⟨hN,PW,φ,M,hF,hW,hφ⟩:=hS;have ht:=hF t;split at h
 ·rename_i he;rw[he]at ht;obtain⟨b,hb⟩:=ht;have key:Rk Γ ⟨cf.σ.N,(t,one (.bool b)) ::cf.σ.L,cf.σ.H⟩ a w:=⟨hN,PW,φ,M,Qc hF (by rw[hb];exact IR.bool b),hW,hφ⟩
  cases b
  ·exact h2 SZ a w key
  ·exact h1 SZ a w key
 ·cases h
theorem VB:∀{args:List Cm} {i t:Nat},look (BL i args) t=(if i≤t then(match args[t-i]? with
  |some c=>.cm c
  |none=>.RO)else .RO)
 | [],i,t=>by simp [BL,look]
 |c ::r,i,t=>by
  simp only[BL,look];by_cases h:i=t
  ·subst h;simp
  ·have:(i == t)=false:=by simpa using h
   rw[this,cond_false,VB];by_cases h1:i≤t
   ·rw[if_pos h1,if_pos (by omega),show t-i=(t-(i+1))+1 by omega];simp
   ·rw[if_neg h1,if_neg (by omega)]
theorem QcN{φ:Pl}:∀{H0:List Ob} {i:Nat} {p:Nat×Nat},p∈yF φ i H0→p.1∈Sq i H0
 | [],_,_,h=>by cases h
 |o ::r,i,p,h=>by
  simp only[yF,List.mem_append]at h;simp only[Sq,List.mem_append];rcases h with h|h
  ·left;split at h
   ·rename_i b C hb hφ;rw[hb];simp only[List.mem_singleton]at h;subst h;simp
   ·cases h
  ·right;exact QcN h
theorem QkQ{f:FuncId}{args:List Cm}{H0:List Ob}(hf:P.funcs[f]?=some fn)(hb:fn.body.isSome=true)(hn:(Nat.ble args.length fn.ntmps&&!(fn.name == "runtime.NumGoroutine"))=true)
  (h:∀Γ,Go P fn (Sq 0 H0) Γ r H1 ⟨[.c 1],⟨fn.ntmps,BL 0 args,H0.map some⟩⟩):dF P f args H0 r H1:=by
 rw[Bool.and_eq_true]at hn;refine⟨by unfold Wp;rw[hf];simp only[hn.2,hb,Bool.and_self],fun w φ M0 uc hW hφ hA cs=>?_⟩
 have hlen:=hA.len;have hle:args.length≤fn.ntmps:=Nat.le_of_ble_eq_true hn.1;obtain⟨c,hc⟩:=Option.isSome_iff_exists.1 hb;have hcd:DY fn=c:=by unfold DY;rw[hc];rfl
 let b:Frame:={ (default:Frame)with fn:=f,kind:=.normal}
 have Qlk:Frame.enter P f uc.toArray .normal =
   b.at {tmps:=uc.toArray++Array.replicate (fn.ntmps-uc.toArray.size) undef,defers:=[]} [.code c]:=by
  simp [Frame.enter,Frame.at,hf,hc,b]
 obtain⟨e,a',w',⟨he,hd,v,φ',M',hr,hv,sN,hφ'⟩,Qlg⟩:=h ⟨w,fun b=>∃id C,id<H0.length∧φ id=some (some (b,C)),M0,yF φ 0 H0⟩ (fun p hp=>QcN hp)
  {tmps:=uc.toArray++Array.replicate (fn.ntmps-uc.toArray.size) undef,defers:=[]} w
  ⟨by simp; omega,rfl,φ,M0,fun t=>by
   show AR w M0 φ (look (BL 0 args) t) _;rw[VB,if_pos (Nat.zero_le _),Nat.sub_zero];cases ha:args[t]? with
   |none=>trivial
   |some c =>
    obtain⟨v,h1,h2⟩:=hA.get ha;have mj:t<uc.length:=(List.getElem?_eq_some_iff.1 h1).1;have:(uc.toArray++Array.replicate (fn.ntmps-uc.toArray.size) undef).getD t undef=v:=by
     rw[Array.getD_eq_getD_getElem?,Array.getElem?_append_left (by simpa using mj)]
     simp [h1]
    show CR w M0 φ c ((uc.toArray++Array.replicate (fn.ntmps-uc.toArray.size) undef).getD t undef);rw[this];exact h2,by
   have:hl (H0.map some)=fun id=>H0[id]?:=by
    funext id;unfold hl;rw[List.getElem?_map];cases H0[id]? <;> rfl
   show Wd _ φ M0 (hl (H0.map some)) w;rw[this];exact hW,fun id hid=>hφ id (by simpa using hid)⟩ b cs
 have Qnt:([It.c 1].map (It.item (DY fn)))=[.code c]:=by rw[hcd];rfl
 rw[Qnt,←Qlk]at Qlg;rcases he with rfl|rfl
 ·obtain⟨todo,hs⟩:=Qlg;exact⟨.returned v,w',_,⟨v,φ',M',rfl,hv,sN,hφ'⟩,hs,rfl,rfl,hd,rfl,fn,hf,hr⟩
 ·exact⟨.returned v,w',_,⟨v,φ',M',rfl,hv,sN,hφ'⟩,Steps.trans Qlg (.one step_end),rfl,rfl,hd,rfl,fn,hf,hr⟩
theorem aU{f:FuncId}{args:List Cm}{H0:List Ob}(hf:P.funcs[f]?=some fn)(h:∀Γ,Go P fn (Sq 0 H0) Γ r H1 ⟨[.c 1],⟨fn.ntmps,BL 0 args,H0.map some⟩⟩)(hb:fn.body.isSome=true:=by kernel_rfl)(hn:(Nat.ble args.length fn.ntmps&&!(fn.name == "runtime.NumGoroutine"))=true:=by kernel_rfl):dF P f args H0 r H1:=QkQ hf hb hn h
end
end
section
open Go.RowKit Go.ChangeShapes Go.WideShapes Go.Deep
def Jo(n:Int):Prop:=-9223372036854775808≤n∧n≤9223372036854775807
structure Rd (α:Type) where
 size:Nat
 holds:World→List Value→α→Prop
 len:∀(w:World) (cs:List Value) (x:α),holds w cs x→cs.length=size
 ext:∀(w w':World) (cs:List Value) (x:α),Below w.heap.size w w'→holds w cs x→holds w' cs x
def SlR{α:Type}(r:Rd α)(w:World)(A:Option Addr)(xs:List α):Prop:=
 ∀(i:Nat) (x:α),xs[i]?=some x→∃b off cs,A=some ⟨b,off,none⟩∧b<w.heap.size∧r.holds w cs x∧∀(j:Nat) (u:Value),cs[j]?=some u→w.cell? ⟨b,off+i*r.size+j,none⟩=some u
theorem SlR.ext{α:Type}{r:Rd α}{w w':World}{A:Option Addr}{xs:List α}(h:SlR r w A xs)(hb:Below w.heap.size w w'):SlR r w' A xs:=fun i x hx=>by
 obtain⟨b,off,cs,hA,mj,h1,h2⟩:=h i x hx;exact⟨b,off,cs,hA,Nat.lt_of_lt_of_le mj hb.size,r.ext _ _ _ _ hb h1,fun j u hj=>(hb.cell (p:=⟨b,_,none⟩) mj).trans (h2 j u hj)⟩
theorem SlR.nil{α:Type}{r:Rd α}{w:World}{A:Option Addr}:SlR r w A []:=fun i x hx=>by simp at hx
namespace Rd
def int:Rd Int:={size:=1,holds:=fun _ cs n=>cs=[.int .i64 n]∧Jo n,len:=fun _ _ _ h=>by rw[h.1];rfl,ext:=fun _ _ _ _ _ h=>h}
def bool:Rd Bool:={size:=1,holds:=fun _ cs b=>cs=[.bool b],len:=fun _ _ _ h=>by rw[h];rfl,ext:=fun _ _ _ _ _ h=>h}
def str(N:Nat):Rd ByteArray:={size:=1,holds:=fun _ cs s=>cs=[.string s]∧s.size≤N,len:=fun _ _ _ h=>by rw[h.1];rfl,ext:=fun _ _ _ _ _ h=>h}
def unit:Rd Unit:={size:=0,holds:=fun _ cs _=>cs=[],len:=fun _ _ _ h=>by rw[h];rfl,ext:=fun _ _ _ _ _ h=>h}
def pair{α β:Type}(r:Rd α)(s:Rd β):Rd (α×β):=
 {size:=r.size+s.size,holds:=fun w cs x=>∃c d,cs=c++d∧r.holds w c x.1∧s.holds w d x.2,
  len:=fun w cs x h=>by
   obtain⟨c,d,rfl,h1,h2⟩:=h;rw[List.length_append,r.len _ _ _ h1,s.len _ _ _ h2],
  ext:=fun w w' cs x hb h=>by
   obtain⟨c,d,rfl,h1,h2⟩:=h;exact⟨c,d,rfl,r.ext _ _ _ _ hb h1,s.ext _ _ _ _ hb h2⟩}
def map{α β:Type}(r:Rd α)(f:α→β):Rd β:=
 {size:=r.size,holds:=fun w cs y=>∃x,r.holds w cs x∧f x=y,
  len:=fun w cs y h=>by obtain⟨x,h1,_⟩:=h;exact r.len _ _ _ h1,
  ext:=fun w w' cs y hb h=>by obtain⟨x,h1,h2⟩:=h;exact⟨x,r.ext _ _ _ _ hb h1,h2⟩}
def slice{α:Type}(N:Nat)(r:Rd α):Rd (List α):=
 {size:=1,holds:=fun w cs xs=>∃A c,cs=[.slice A xs.length c]∧xs.length≤N∧SlR r w A xs,
  len:=fun w cs xs h=>by obtain⟨A,c,rfl,_⟩:=h;rfl,
  ext:=fun w w' cs xs hb h=>by obtain⟨A,c,rfl,h1,h2⟩:=h;exact⟨A,c,rfl,h1,h2.ext hb⟩}
end Rd
section
variable {H : Type}
theorem Qfv(d:DataW H):1≤Rows.uptoBulk d:=by
 cases d with
 |lit l=>cases l <;> simp [Rows.uptoBulk]
 |_=>simp [Rows.uptoBulk]
theorem QQ:∀ds:List (DataW H),ds.length≤Rows.uptoBulkAll ds
 | []=>by simp
 |d ::ds=>by
  have h1:=Qfv d;have h2:=QQ ds;simp only[List.length_cons,Rows.uptoBulkAll];omega
theorem Da:∀{ds:List (DataW H)} {d:DataW H},d∈ds→Rows.uptoBulk d≤Rows.uptoBulkAll ds
 | [],d,h=>by simp at h
 |e ::ds,d,h=>by
  simp only[Rows.uptoBulkAll];rcases List.mem_cons.1 h with rfl|h
  ·omega
  ·have:=Da h;omega
def Fits(N:Nat)(d:DataW H):Prop:=N=maxLen∨Rows.uptoBulk d≤N
theorem Fits.agg{N:Nat}{ds:List (DataW H)}(h:Fits N (.agg ds)){d:DataW H}(hd:d∈ds):Fits N d:=by
 rcases h with h|h
 ·exact .inl h
 ·right;have:=Da hd;simp only[Rows.uptoBulk]at h;omega
theorem Fits.slice{N:Nat}{ds es:List (DataW H)}(h:Fits N (.slice ds es)){d:DataW H}(hd:d∈ds):Fits N d:=by
 rcases h with h|h
 ·exact .inl h
 ·right;have:=Da hd;simp only[Rows.uptoBulk]at h;omega
theorem Fits.len{N:Nat}{ds es:List (DataW H)}(h:Fits N (.slice ds es))(hl:ds.length≤maxLen):ds.length≤N:=by
 rcases h with h|h
 ·rw[h];exact hl
 ·have:=QQ ds;simp only[Rows.uptoBulk]at h;omega
theorem Fits.all{N:Nat}{ds:List (DataW H)}(h:N=maxLen∨Rows.uptoBulkAll ds≤N){d:DataW H}(hd:d∈ds):Fits N d:=by
 rcases h with h|h
 ·exact .inl h
 ·right;have:=Da hd;omega
end
structure kY (P:Program) (N:Nat) (t:TypeId) {α:Type} (r:Rd α):Prop where
 size:P.cellsOf t=r.size
 opens:∀(H:Type) (enc:TypeId×Value→H) (w:World) (fuel:Nat) (cs:List Value) (x:DataW H×List MemPlace),
  DataW.trod enc P w 0 (fun _=>true) true fuel t cs=some x→Fits N x.1→∃a,r.holds w cs a
section
variable {P : Program} {N : Nat} {t : TypeId}
theorem Qed(ht:P.underlying t=some (.int .i64))(hc:P.cellsOf t=1):kY P N t Rd.int:=⟨hc,fun H enc w fuel cs x h _=>by
 obtain⟨n,rfl,_,hw⟩:=DataW.trod_int ht h;exact⟨n,rfl,QaS hw⟩⟩
theorem Qa_(ht:P.underlying t=some .bool)(hc:P.cellsOf t=1):kY P N t Rd.bool:=⟨hc,fun H enc w fuel cs x h _=>by
 obtain⟨b,rfl,_⟩:=DataW.trod_bool ht h;exact⟨b,rfl⟩⟩
theorem Qee(ht:P.underlying t=some .string)(hc:P.cellsOf t=1):kY P N t (Rd.str N):=⟨hc,fun H enc w fuel cs x h hb=>by
 obtain⟨s,rfl,hx,hs⟩:=DataW.trod_string ht h;refine⟨s,rfl,?_⟩;rcases hb with hb|hb
 ·rw[hb];exact hs
 ·rw[hx]at hb;simp only[Rows.uptoBulk,Array.length_toList]at hb;have:s.size=s.data.size:=rfl;omega⟩
theorem kY.map{α β:Type}{r:Rd α}(h:kY P N t r)(f:α→β):kY P N t (r.map f):=⟨h.size,fun H enc w fuel cs x hx hb=>by
 obtain⟨a,ha⟩:=h.opens H enc w fuel cs x hx hb;exact⟨f a,a,ha,rfl⟩⟩
theorem Zb{e:TypeId}{α:Type}{r:Rd α}(ht:P.underlying t=some (.slice e))(hc:P.cellsOf t=1)(hr:kY P N e r)(QdU:0<r.size):kY P N t (r.slice N):=⟨hc,fun H enc w fuel cs x h hb=>by
 rcases open_slice ht h with⟨rfl,_⟩|⟨a,len,cap,m,n,D,Pl,rfl,_,hl,hm,hmm,hxe,vb⟩
 ·exact⟨[],none,0,rfl,Nat.zero_le _,SlR.nil⟩
 ·have hlm:len≤m:=by rw[hmm];split <;> omega
  have hxe:x.1=.slice ((List.range len).map D) ((List.range (m-len)).map fun j=>D (len+j)):=by rw[hxe]
  rw[hxe]at hb;have hlN:len≤N:=by have:=hb.len (by simp;omega);simpa using this
  have each:∀i,i<len→∃q:List Value×α,r.holds w q.1 q.2∧q.1.length=r.size∧∀j u,q.1[j]?=some u→w.cell? (a.add (i*r.size+j))=some u:=by
   intro i hi;obtain⟨Ug,h1,h2⟩:=vb i (by omega)
   obtain⟨y,hy⟩:=hr.opens H enc w n Ug _ h2 (hb.slice (List.mem_map.2 ⟨i,List.mem_range.2 hi,rfl⟩));obtain⟨_,hlen,tn⟩:=World.cells?_some h1;rw[hr.size]at tn hlen;refine⟨(Ug,y),hy,hlen,fun j u hj=>?_⟩
   have Vk:j<Ug.length:=(List.getElem?_eq_some_iff.1 hj).1;have:=tn j (by omega)
   rw[add_add,hj]at this;exact this
  obtain⟨b,off,spot⟩:=a;by_cases WI:len=0
  ·subst WI;exact⟨[],_,_,rfl,Nat.zero_le _,SlR.nil⟩
  ·have QnP:spot=none:=by
    obtain⟨q,_,h2,h3⟩:=each 0 (by omega)
    have h0:=h3 0 _ (List.getElem?_eq_getElem (by omega:0<q.1.length))
    simpa [Addr.add]using World.cell?_spot h0
   subst QnP;have key:∀k,k≤len→∃xs:List α,xs.length=k∧SlR r w (some ⟨b,off,none⟩) xs:=by
    intro k;induction k with
    |zero=>exact fun _=>⟨[],rfl,SlR.nil⟩
    |succ k ih =>
     intro hk;obtain⟨xs,h1,h2⟩:=ih (by omega)
     obtain⟨⟨Ug,y⟩,g1,g2,g3⟩:=each k (by omega)
     refine⟨xs++[y],by simp [h1],fun i x hx=>?_⟩
     rcases Nat.lt_or_ge i k with hi|hi
     ·rw[List.getElem?_append_left (by omega)]at hx
      exact h2 i x hx
     ·have hik:i=k:=by
       have:=(List.getElem?_eq_some_iff.1 hx).1;simp [h1]at this;omega
      subst hik;rw[List.getElem?_append_right (by omega),h1,Nat.sub_self]at hx
      have:y=x:=by simpa using hx
      subst this;have tn:∀(j:Nat) (u:Value),Ug[j]?=some u→w.cell? ⟨b,off+i*r.size+j,none⟩=some u:=fun j u hj=>by
       have:=g3 j u hj;rw[add_plain]at this;rw[←this];congr 2;omega
      refine⟨b,off,Ug,rfl,?_,g1,tn⟩;have h0:=tn 0 _ (List.getElem?_eq_getElem (by show 0<Ug.length;simp only at g2;omega))
      rcases Nat.lt_or_ge b w.heap.size with h|h
      ·exact h
      ·exfalso;unfold World.cell? at h0;rw[Array.getElem?_eq_none h]at h0;simp at h0
   obtain⟨xs,h1,h2⟩:=key len (Nat.le_refl _);exact⟨xs,_,_,by rw[h1],by omega,h2⟩⟩
inductive KK (P:Program) (N:Nat):List Field→Nat→(α:Type)→Rd α→Prop
 |nil {off:Nat}:KK P N [] off Unit Rd.unit
 |cons {f:Field} {fs:List Field} {off:Nat} {α β:Type} {r:Rd α} {s:Rd β}:f.offset=off→kY P N f.type r→KK P N fs (off+r.size) β s→KK P N (f ::fs) off (α×β) (Rd.pair r s)
theorem YC{w:World}{H:Type}{enc:TypeId×Value→H}{n:Nat}{cs:List Value}:∀{fs:List Field} {off:Nat} {α:Type} {r:Rd α},KK P N fs off α r→
  (∀f∈fs,∃y,DataW.trod enc P w 0 (fun _=>true) true n f.type ((cs.drop f.offset).take (P.cellsOf f.type))=some y∧Fits N y.1)→∃a,r.holds w ((cs.drop off).take r.size) a:=by
 intro fs off α r hF;induction hF with
 |nil=>exact fun _=>⟨(),by show List.take 0 _=[];simp⟩
 | @cons f fs off α β r s ho hr _ ih =>
  intro vb;obtain⟨y,hy,hyb⟩:=vb f (by simp)
  obtain⟨a,ha⟩:=hr.opens _ _ _ _ _ _ hy hyb;obtain⟨b,hb⟩:=ih (fun g hg=>vb g (by simp [hg]))
  rw[ho,hr.size]at ha;refine⟨(a,b),_,_,?_,ha,hb⟩;show List.take (r.size+s.size) _=_;rw[List.take_add,List.drop_drop]
theorem W7{fs:Array Field}{α:Type}{r:Rd α}(ht:P.underlying t=some (.struct fs))(hc:P.cellsOf t=r.size)(hF:KK P N fs.toList 0 α r):kY P N t r:=⟨hc,fun H enc w fuel cs x h hb=>by
 obtain⟨xs,n,_,hxe,hlen,hxl,hf⟩:=DataW.trod_struct ht h;have hxe:x.1=.agg (xs.map (·.1)):=by rw[hxe]
 rw[hxe]at hb;have:=YC (w:=w) (enc:=enc) (n:=n) (cs:=cs) hF (fun f hfm=>by
  obtain⟨i,hi⟩:=List.getElem?_of_mem hfm;have Uo:fs[i]?=some f:=by simpa using hi
  have mj:i<xs.length:=by rw[hxl];exact(Array.getElem?_eq_some_iff.1 Uo).1
  exact⟨xs[i],by rw[hf i f Uo,List.getElem?_eq_getElem mj],hb.agg (List.mem_map.2 ⟨xs[i],List.getElem_mem mj,rfl⟩)⟩)
 rwa [List.drop_zero,←hc,←hlen,List.take_length]at this⟩
theorem W6{e:TypeId}{α:Type}{r:Rd α}(ht:P.underlying t=some (.array 2 e))(hc:P.cellsOf t=r.size+r.size)(hr:kY P N e r):kY P N t (r.pair r):=⟨hc,fun H enc w fuel cs x h hb=>by
 obtain⟨xs,n,_,hxe,hlen,hxl,hf⟩:=DataW.trod_array ht h;have hxe:x.1=.agg (xs.map (·.1)):=by rw[hxe]
 rw[hxe]at hb;have h0:=hf 0 (by omega)
 have h1:=hf 1 (by omega)
 rw[hr.size]at h0 h1;have l0:0<xs.length:=by omega
 have l1:1<xs.length:=by omega
 obtain⟨a,ha⟩:=hr.opens _ _ _ _ _ _ (h0.trans (List.getElem?_eq_getElem l0)) (hb.agg (List.mem_map.2 ⟨xs[0],List.getElem_mem l0,rfl⟩));obtain⟨b,WH⟩:=hr.opens _ _ _ _ _ _ (h1.trans (List.getElem?_eq_getElem l1)) (hb.agg (List.mem_map.2 ⟨xs[1],List.getElem_mem l1,rfl⟩));refine⟨(a,b),_,_,?_,ha,WH⟩;rw[Nat.zero_mul,List.drop_zero,Nat.one_mul];have:cs=cs.take (r.size+r.size):=by rw[List.take_of_length_le (by omega)]
 conv=>lhs;rw[this]
 rw[List.take_add]⟩
end
end
section
open Go.RowKit Go.ChangeShapes Go.WideShapes Go.Deep
abbrev IRw(w:World):Lf→Value→Prop:=IR w (fun b=>b<w.heap.size)
def Qq{α:Type}(k:Nat)(enc:α→List Lf)(ok:α→Prop)(hk:∀x,(enc x).length=k):Rd α:=
 {size:=k,holds:=fun w cs x=>ok x∧Rs (IRw w) (enc x) cs,
  len:=fun w cs x h=>h.2.len.symm.trans (hk x),
  ext:=fun w w' cs x hb h=>⟨h.1,Rs.mono (fun _ _ h=>IR.mono (fun b WH=>hb.block b WH) (fun b WH=>Nat.lt_of_lt_of_le WH hb.size) h) h.2⟩}
def HE{α:Type}(r:Rd α)(e:α→List Lf)(ok:α→Prop):Prop:=∀w cs a,r.holds w cs a→ok a∧Rs (IRw w) (e a) cs
section
variable {α β : Type} {P : Program} {N : Nat} {t : TypeId}
theorem HE.rd{k:Nat}{enc:α→List Lf}{ok:α→Prop}{hk:∀x,(enc x).length=k}:HE (Qq k enc ok hk) enc ok:=fun _ _ _ h=>h
theorem HE.unit:HE Rd.unit (fun _=>[]) (fun _=>True):=fun _ _ _ h=>by cases h;exact⟨trivial,trivial⟩
theorem HE.pair{r:Rd α}{s:Rd β}{e:α→List Lf}{e':β→List Lf}{ok:α→Prop}{ok':β→Prop}(h:HE r e ok)(h':HE s e' ok'):HE (r.pair s) (fun x=>e x.1++e' x.2) (fun x=>ok x.1∧ok' x.2):=by
 rintro w cs a ⟨c,d,rfl,h1,h2⟩;obtain⟨g1,g2⟩:=h w c _ h1;obtain⟨g3,g4⟩:=h' w d _ h2;exact⟨⟨g1,g3⟩,Rs.append g2 g4⟩
theorem kY.mono{r:Rd α}{s:Rd β}(h:kY P N t r)(hs:r.size=s.size)(hi:∀w cs a,r.holds w cs a→∃b,s.holds w cs b):kY P N t s:=
 ⟨h.size.trans hs,fun H enc w fuel cs x hx hb=>let⟨a,ha⟩:=h.opens H enc w fuel cs x hx hb;hi w cs a ha⟩
theorem QlZ(ht:P.underlying t=some (.int .i64))(hc:P.cellsOf t=1):kY P N t (Qq 1 (fun n:Int=>[.int .i64 n]) Jo (fun _=>rfl)):=
 (Qed ht hc).mono rfl fun w cs a h=>⟨a,h.2,by rw[h.1];exact⟨.int _ _,trivial⟩⟩
theorem Qja(ht:P.underlying t=some .bool)(hc:P.cellsOf t=1):kY P N t (Qq 1 (fun b:Bool=>[.bool b]) (fun _=>True) (fun _=>rfl)):=
 (Qa_ ht hc).mono rfl fun w cs a h=>⟨a,trivial,by rw[h];exact⟨.bool _,trivial⟩⟩
theorem Ql0(ht:P.underlying t=some .string)(hc:P.cellsOf t=1):kY P N t (Qq 1 (fun s:ByteArray=>[.str s]) (fun s=>s.size≤N) (fun _=>rfl)):=
 (Qee ht hc).mono rfl fun w cs a h=>⟨a,h.2,by rw[h.1];exact⟨.str _,trivial⟩⟩
theorem Co{e:TypeId}{sz:Nat}{enc:α→List Lf}{ok:α→Prop}{hk:∀x,(enc x).length=sz}(ht:P.underlying t=some (.slice e))(hc:P.cellsOf t=1)(hr:kY P N e (Qq sz enc ok hk))(QdU:0<sz):
  kY P N t (Qq 1 (fun l:List α=>[.sl false sz (l.map enc)]) (fun l=>l.length≤N∧∀x∈l,ok x) (fun _=>rfl)):=⟨hc,fun H Qpa w fuel cs x h hb=>by
 obtain⟨xs,A,c,hcs,hlen,hS⟩:=(Zb ht hc hr QdU).opens H Qpa w fuel cs x h hb;have SX:xs.length≤c:=by
  rcases open_slice ht h with⟨h1,_⟩|⟨a,len,cap,m,n,D,Pl,h1,_,hl,_⟩
  ·rw[hcs]at h1;simp only[List.cons.injEq,Value.slice.injEq,and_true]at h1;omega
  ·rw[hcs]at h1;simp only[List.cons.injEq,Value.slice.injEq,and_true]at h1;omega
 have mA:∀x∈xs,ok x:=fun x hx=>by
  obtain⟨i,hi⟩:=List.getElem?_of_mem hx;obtain⟨b,off,Ug,_,_,h1,_⟩:=hS i x hi;exact h1.1
 refine⟨xs,⟨hlen,mA⟩,?_⟩;rw[hcs];refine⟨?_,trivial⟩;cases xs with
 |nil=>exact .TG false sz A c (fun h=>by cases h)
 |cons x0 xr =>
  obtain⟨b,off,cs0,hA,mj,_,_⟩:=hS 0 x0 rfl;subst hA;have key:∀(i:Nat) (c':List Lf) (j:Nat) (l:Lf),((x0 ::xr).map enc)[i]?=some c'→c'[j]?=some l→∃v,w.cell? ⟨b,off+i*sz+j,none⟩=some v∧IRw w l v:=by
   intro i c' j l hi hj;rw[List.getElem?_map]at hi;cases hx:(x0 ::xr)[i]? with
   |none=>rw[hx]at hi;cases hi
   |some y =>
    rw[hx]at hi;cases hi;obtain⟨b',Qt4,Ug,hA',_,⟨_,h1⟩,h2⟩:=hS i y hx;cases hA';obtain⟨v,hv,hr⟩:=h1.get hj;exact⟨v,h2 j v hv,hr⟩
  have hl2:(x0 ::xr).length=((x0 ::xr).map enc).length:=(List.length_map ..).symm;rw[hl2];refine .sl false sz _ b off c (fun i j=>(w.cell? ⟨b,off+i*sz+j,none⟩).getD undef) mj (by rw[List.length_map];exact SX) (fun h=>by cases h) ?_ ?_ ?_
  ·intro i c' hi;rw[List.getElem?_map]at hi;cases hx:(x0 ::xr)[i]? with
   |none=>rw[hx]at hi;cases hi
   |some y=>rw[hx]at hi;cases hi;exact hk y
  ·intro i c' j l hi hj;obtain⟨v,hv,_⟩:=key i c' j l hi hj;show _=some ((w.cell? ⟨b,off+i*sz+j,none⟩).getD undef);rw[hv];rfl
  ·intro i c' j l hi hj;obtain⟨v,hv,hr⟩:=key i c' j l hi hj;show IR w _ l ((w.cell? ⟨b,off+i*sz+j,none⟩).getD undef);rw[hv];exact hr⟩
theorem zA{fs:Array Field}{r:Rd α}{e:α→List Lf}{ok:α→Prop}{k:Nat}{enc:β→List Lf}{okT:β→Prop}{hk:∀x,(enc x).length=k}(ht:P.underlying t=some (.struct fs))(hc:P.cellsOf t=r.size)(hF:KK P N fs.toList 0 α r)
  (nQ:r.size=k) (hE:HE r e ok) (mk:α→β) (h1:∀a,enc (mk a)=e a) (h2:∀a,ok a→okT (mk a)):kY P N t (Qq k enc okT hk):=
 (W7 ht hc hF).mono nQ fun w cs a h=>⟨mk a,h2 a (hE w cs a h).1,by rw[h1];exact(hE w cs a h).2⟩
theorem Qea{e:TypeId}{sz:Nat}{Qic:α→List Lf}{ok0:α→Prop}{Vl:∀x,(Qic x).length=sz}{k:Nat}{enc:β→List Lf}{okT:β→Prop}{hk:∀x,(enc x).length=k}(ht:P.underlying t=some (.array 2 e))(hc:P.cellsOf t=sz+sz)(hr:kY P N e (Qq sz Qic ok0 Vl))
  (nQ:sz+sz=k) (mk:α→α→β) (h1:∀a b,enc (mk a b)=Qic a++Qic b) (h2:∀a b,ok0 a→ok0 b→okT (mk a b)):kY P N t (Qq k enc okT hk):=
 (W6 ht hc hr).mono nQ fun w cs a h=>by
  have:=HE.pair (HE.rd (hk:=Vl)) (HE.rd (hk:=Vl)) w cs a h;exact⟨mk a.1 a.2,h2 _ _ this.1.1 this.1.2,by rw[h1];exact this.2⟩
end
section
variable {P : Program} {f : FuncId} {w : World}
theorem QiV{M:Nat→Prop}{φ:Pl}{ls:List Lf}{vs:List Value}(h:Rs (IR w M) ls vs):Rs (LR w M φ) ls vs:=Rs.mono (fun _ _ h=>IR.lr h) h
theorem QgD{args:List Cm}{uc:List Value}(h:dF P f args [] (.cm (.one (.bool true))) [])(hv:Rs (CR w (fun b=>b<w.heap.size) (fun _=>none)) args uc):
  Calls P f uc.toArray w fun e w'=>e=.returned (.bool true)∧Below w.heap.size w w':=by
 refine(h.2 w (fun _=>none) (fun b=>b<w.heap.size) uc ?_ (fun _ _=>rfl) hv).mono ?_
 ·refine⟨fun id ob h=>by simp at h,fun i j oi oj b Ci Cj h=>by simp at h,fun b h=>h,fun b h=>h,fun b h=>.inl h,fun id ob b C h=>by simp at h,fun _ _ _=>rfl,rfl,rfl,rfl,Nat.le_refl _,fun p h=>by simp [yF]at h⟩
 ·rintro e w' ⟨v,φ',M',rfl,hv,hW,_⟩;cases hv;exact⟨rfl,hW.os,hW.tape,hW.output,hW.size,fun b hb=>hW.MH b hb (by rintro⟨id,C,h,_⟩;simp at h)⟩
theorem Qh2{ls:List Lf}{cs:Array Value}(h:Rs (IRw w) ls cs.toList):CR w (fun b=>b<w.heap.size) (fun _=>none) (.agg ls) (.agg cs):=⟨cs.toList,by simp,QiV h⟩
end
end
end Go.Proofs.YtbilkblifgaflaaGreatDoor
