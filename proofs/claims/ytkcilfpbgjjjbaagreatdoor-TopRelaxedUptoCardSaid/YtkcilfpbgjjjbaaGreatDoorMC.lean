/- Part MC. -/
import Derived.Test.YtkcilfpbgjjjbaaGreatDoorMI
import Derived.Test.YtkcilfpbgjjjbaaGreatDoorMB
import Derived.Test.YtkcilfpbgjjjbaaGreatDoorMA
import Derived.Test.YtkcilfpbgjjjbaaGreatDoorML
import Derived.Deep.Slices
import Derived.ChangeArms
import Derived.OpenShut
import Derived.WideShapes
set_option linter.unusedSimpArgs false
set_option linter.unusedVariables false
set_option linter.unusedSectionVars false
namespace Go.Proofs.YtkcilfpbgjjjbaaGreatDoor
section
open Go.RowKit
section
variable {P : Program} {G : bC} {U φ2 : Pl} {M : Nat -> Prop} {w : World} {a : Act} {m : Nat -> O Nat}
theorem Ma:∀{l:List Nat} {k id j:Nat},posOf l k id=some j->k<=j/\l[j-k]?=some id
 | [],_,_,_,h=>by cases h
 |x ::r,k,id,j,h=>by
  simp only[posOf]at h;cases hx:(x == id)with
  |true =>
   rw[hx]at h;cases h;have:x=id:=by simpa using hx
   subst this;exact⟨fa _,by simp⟩
  |false =>
   rw[hx]at h;obtain⟨h1,h2⟩:=Ma (l:=r) (k:=k+1) h;refine⟨by omega,?_⟩
   rw[show j-k=(j-(k+1))+1 by omega];simpa using h2
theorem Qd3(hm:∀id k p,m id=some k->U id=some p->φ2 k=some p){l:Lf}{v:Value}(h:vh w M U l v):vh w M φ2 (Uv m l) v:=by
 cases l with
 |op id sz row off =>
  obtain⟨b,C,h1,h2⟩:=h;simp only[Uv];cases hh:m id with
  |none=>subst h2;exact IR.any _ rfl
  |some k=>exact⟨b,C,hm id k _ hh h1,h2⟩
 |os id sz off len =>
  simp only[Uv];cases hh:m id with
  |none =>
   rcases h with⟨b,C,h1,h2,h3⟩|⟨h1,h2,h3,x,h4⟩
   ·subst h2;exact IR.any _ rfl
   ·subst h4;exact IR.any _ rfl
  |some k =>
   rcases h with⟨b,C,h1,h2⟩|⟨h1,h2⟩
   ·exact .inl ⟨b,C,hm id k _ hh h1,h2⟩
   ·exact .inr ⟨hm id k _ hh h1,h2⟩
 |fn f gZ=>cases(h:IR w M (.fn f gZ) v);exact IR.any _ rfl
 |mp id =>
  obtain⟨b,h1,h2⟩:=h;simp only[Uv];cases hh:m id with
  |none=>subst h2;exact IR.any _ rfl
  |some k=>exact⟨b,hm id k _ hh h1,h2⟩
 |bs id n sz =>
  obtain⟨b,h1,h2⟩:=h;simp only[Uv];cases hh:m id with
  |none=>subst h2;exact IR.any _ rfl
  |some k=>exact⟨b,hm id k _ hh h1,h2⟩
 |_=>exact h
theorem Qe5:∀{l:Lf},Xa (Uv m l)=false:=by
 intro l;cases l <;> simp only[Uv] <;>(try split) <;> rfl
theorem XI(hm:∀id k p,m id=some k->U id=some p->φ2 k=some p){l:Lf}{v:Value}(h:LR w M U l v):LR w M φ2 (Qfw m l) v:=by
 rcases LR.split h with⟨h1,h2⟩|⟨f,gZ,vs,rfl,rfl,h3⟩
 ·have:Qfw m l=Uv m l:=by cases l <;> first|rfl|cases h1
  rw[this,Qd Qe5];exact Qd3 hm h2
 ·exact⟨vs,rfl,Rs.Av (Rs.mono (λ_ _ h=>Qd3 hm h) h3)⟩
theorem N_(hm:∀id k p,m id=some k->U id=some p->φ2 k=some p){c:Cm}{v:Value}(h:CR w M U c v):CR w M φ2 (Qch m c) v:=by
 cases c with
 |one l=>exact XI hm h
 |agg ls=>obtain⟨vs,h1,h2⟩:=h;exact⟨vs,h1,Rs.Av (Rs.mono (λ_ _ h=>XI hm h) h2)⟩
theorem N9(hm:∀id k p,m id=some k->U id=some p->φ2 k=some p){c:AV}{v:Value}(h:AR w M U c v):AR w M φ2 (N8 m c) v:=by
 cases c with
 |cm c=>exact N_ hm h
 |j0 cs=>obtain⟨vs,h1,h2⟩:=h;exact⟨vs,h1,Rs.Av (Rs.mono (λ_ _ h=>N_ hm h) h2)⟩
 |gd p c=>exact⟨λhp=>N_ hm (h.1 hp),h.2⟩
 |PY=>trivial
 |pM=>exact h
 |vl u c=>exact⟨h.1,N_ hm h.2⟩
theorem VR{ob:Ob}:(jA m ob).box=ob.box:=by
 unfold jA;cases hb:(ob.box&&!isMap ob)
 ·rfl
 ·rfl
theorem QiL(hm:∀id k p,m id=some k->U id=some p->φ2 k=some p){i j:Nat}{ob:Ob}(he:φ2 i=U j)(hO:OC w M U j ob):OC w M φ2 i (jA m ob):=by
 have jI:(jA m ob).sz=ob.sz:=by unfold jA;cases(ob.box&&!isMap ob) <;> rfl
 have QsE:(jA m ob).J0=ob.J0:=by unfold jA;cases(ob.box&&!isMap ob) <;> rfl
 have QhG:(jA m ob).box=ob.box:=VR;have hlen:(jA m ob).rows.length=ob.rows.length:=by unfold jA;cases(ob.box&&!isMap ob) <;> simp
 have hnm:=hO.QlT;obtain⟨h0,h1⟩:=hO;refine⟨by rw[jI];exact h0,?_⟩
 rw[he]
 revert h1
 cases U j with
 |none=>exact id
 |some p=>cases p with
  |none =>
   rintro⟨h2,h3⟩;refine⟨?_,by rw[QhG];exact h3⟩
   unfold jA;rw[h3];exact h2
  |some q =>
   obtain⟨b,C⟩:=q;rintro⟨cur,g1,g2,g3,g4,g5,g6⟩;refine⟨cur,by rw[QsE];exact g1,by rw[jI];exact g2,by rw[hlen];exact g3,g4,by rw[QhG];exact g5,λi c hc=>?_⟩
   rw[jI,QhG];cases p9:ob.box with
   |false =>
    have e:jA m ob=ob:=by unfold jA;rw[p9];rfl
    rw[e]at hc;have:=g6 i c hc;rw[p9]at this;exact this
   |true =>
    have e:(jA m ob).rows=ob.rows.map λc=>c.map (Qfw m):=by unfold jA;rw[p9,hnm p9];rfl
    rw[e,Qc0]at hc;cases kZ:ob.rows[i]? with
    |none=>rw[kZ]at hc;cases hc
    |some c0 =>
     rw[kZ]at hc;cases hc;obtain⟨g7,g8⟩:=g6 i c0 kZ;refine⟨by rw[Qbn];exact g7,λj l hl=>?_⟩
     rw[Qc0]at hl;cases O8:c0[j]? with
     |none=>rw[O8]at hl;cases hl
     |some l0 =>
      rw[O8]at hl;cases hl;obtain⟨v,hv,hr⟩:=g8 j l0 O8;rw[p9,if_pos rfl]at hr;exact⟨v,hv,by rw[if_pos rfl];exact XI hm hr⟩
theorem Jl(hm:∀id k p,m id=some k->U id=some p->φ2 k=some p){i j:Nat}{ob:Ob}(he:φ2 i=U j)(hO:OR w M U j ob):OR w M φ2 i (jA m ob):=by
 rcases hO with hO|⟨hb,rs,b,es,BY,h1,h2,h3,h4⟩
 ·exact .inl (QiL hm he hO)
 ·have e:jA m ob=ob:=by unfold jA isMap;rw[h1];cases ob.box <;> rfl
  rw[e];exact .inr ⟨hb,rs,b,es,BY,h1,he.trans h2,h3,h4⟩
end
end
section
open Go.RowKit
section
variable {P : Program} {G : bC} {U φ' : Pl} {M M' : Nat -> Prop} {hD h : Nat -> O Ob} {w w' : World} {base : Nat} {L : Nat -> AV} {a : Act} {g : Prop} {hs : List Hint} {r : OD} {o : Oper}
theorem vh.free{l:Lf}{v:Value}(hf:Qdh l=true)(h:vh w M U l v):vh w M φ' l v:=by
 cases l <;> first|exact h|cases hf
theorem LR.free{l:Lf}{v:Value}(hf:Qht l=true)(h:LR w M U l v):LR w M φ' l v:=by
 rcases h.split with⟨hn,h0⟩|⟨f,gZ,vs,rfl,rfl,h2⟩
 ·rw[Qd hn];refine vh.free ?_ h0;cases l <;> first|exact hf|cases hn
 ·have hf':gZ.all Qdh=true:=hf;exact⟨vs,rfl,h2.imp_mem λx hx y h=>vh.free (Qc8.1 hf' x hx) h⟩
theorem CR.free{c:Cm}{v:Value}(hf:Ng c=true)(h:CR w M U c v):CR w M φ' c v:=by
 cases c with
 |one l=>exact LR.free hf h
 |agg ls =>
  obtain⟨vs,h1,h2⟩:=h;exact⟨vs,h1,h2.imp_mem λx hx y h=>LR.free (Qc8.1 hf x hx) h⟩
theorem AR.free{c:AV}{v:Value}(hf:Qbh c=true)(h:AR w M U c v):AR w M φ' c v:=by
 cases c with
 |cm c=>exact CR.free hf h
 |j0 cs =>
  obtain⟨vs,h1,h2⟩:=h;exact⟨vs,h1,h2.imp_mem λx hx y h=>CR.free (Qc8.1 hf x hx) h⟩
 |gd p c=>cases hf
 |PY=>trivial
 |pM=>exact h
 |vl u c=>cases hf
theorem LR.plain{l:Lf}{v:Value}(hf:Qb_ l = true)(h:LR w M U l v):LR w' M' φ' l v:= by
  cases l <;> first
    |(cases hf;done)
    | (have h' : IR w M _ v := h
       cases h'
       first |exact IR.int _ _ |exact IR.bool _ |exact IR.str _ |exact IR.any _ (by assumption))
theorem CR.plain{c:Cm}{v:Value}(hf:Qb9 c=true)(h:CR w M U c v):CR w' M' φ' c v:=by
 cases c with
 |one l=>exact LR.plain hf h
 |agg ls =>
  obtain⟨vs,h1,h2⟩:=h;exact⟨vs,h1,h2.imp_mem λx hx y h=>LR.plain (Qc8.1 hf x hx) h⟩
theorem AR.plain{c:AV}{v:Value}(hf:XC c=true)(h:AR w M U c v):AR w' M' φ' c v:=by
 cases c with
 |cm c=>exact CR.plain hf h
 |j0 cs =>
  obtain⟨vs,h1,h2⟩:=h;exact⟨vs,h1,h2.imp_mem λx hx y h=>CR.plain (Qc8.1 hf x hx) h⟩
 |gd p c=>cases hf
 |PY=>cases hf
 |pM=>cases hf
 |vl u c=>cases hf
def AI(M:Nat->Prop)(U:Pl)(hD:Nat->O Ob):Nat->Prop:=λb=>M b\/∃id ob C,hD id=some ob/\U id=some (some (b,C))
theorem AI.sub:∀b,M b->AI M U hD b:=λ_ h=>.inl h
theorem Qfe(hW:Wd G U M hD w)(fh:∀id ob,h id=some ob->hD id=some ob){l l':Lf}{v:Value}{ob:List Prop}(hl:QbT h l=some (l',ob))(ho:dF ob)(hv:LR w M U l v):IR w (AI M U hD) l' v:=by
 have QV:∀{l:Lf},IR w M l v->IR w (AI M U hD) l v:=λh=>h.mono (λ_ _=>rfl) AI.sub
 cases l with
 |os id sz off len =>
  simp only[QbT]at hl;split at hl
  ·rename_i o1 Qn;cases hc:(off == 0&&!o1.box&&o1.sz == sz)with
   |false=>rw[hc]at hl;cases hl
   |true =>
    rw[hc]at hl;cases hl;simp only[ma,Qbb,QbD]at hc;obtain⟨⟨rfl,p9⟩,jI⟩:=hc;obtain⟨hlen,-⟩:=ho;have hO:=hW.fU id o1 (fh id o1 Qn);rcases(hv:vh w M U (.os id sz 0 len) v)with⟨b,C,hφ,rfl,hle⟩|⟨hφ,_,rfl,A,rfl⟩
    ·obtain⟨h0,h1⟩:=hO.oc (.inl p9);rw[hφ]at h1;obtain⟨cur,g1,g2,g3,g4,g5,g6⟩:=h1;have px:∀(i:Nat) (c:List Lf) (j:Nat) (l:Lf),o1.rows[i]?=some c->c[j]?=some l->w.cell? ⟨b,0*sz+i*sz+j,none⟩=some ((cur[i*sz+j]?).getD undef)/\IR w (AI M U hD) l ((cur[i*sz+j]?).getD undef):=λi c j l hc hj=>by
      obtain⟨u,hu,hr⟩:=(g6 i c hc).2 j l hj;rw[p9]at hr;rw[jI]at hu;refine⟨?_,by rw[hu];exact IR.mono (λ_ _=>rfl) AI.sub (by simpa using hr)⟩
      simp only[World.cell?,g1,Qbx,Qbu];simp [hu]
     have key:IR w (AI M U hD) (.sl false sz o1.rows) (.slice (some ⟨b,0*sz,none⟩) o1.rows.length (C-0)):=
      IR.sl false sz o1.rows b (0*sz) (C-0) (λi j=>(cur[i*sz+j]?).getD undef) (.inr ⟨id,o1,C,fh id o1 Qn,hφ⟩) (by omega) (λh=>by cases h) (λi c hc=>by rw[(g6 i c hc).1,jI]) (λi c j l hc hj=>(px i c j l hc hj).1) (λi c j l hc hj=>(px i c j l hc hj).2)
     rw[hlen]at key;exact key
    ·have zI:o1.rows=[]:=Qdx hlen;rw[zI];exact(IR.QF false sz A 0 λh=>by cases h)
  ·cases hl
 |op id sz row off=>cases hl
 |fn f gZ=>cases hl
 |mp id=>cases hl
 |bs id n sz=>cases hl
 |any=>cases hl;exact QV hv
 |int k n=>cases hl;exact QV hv
 |bool b=>cases hl;exact QV hv
 |str s=>cases hl;exact QV hv
 |L3=>cases hl;exact QV hv
 |fk=>cases hl;exact QV hv
 |ip c off=>cases hl;exact QV hv
 |sl cl sz rows=>cases hl;exact QV hv
theorem S8(hW:Wd G U M hD w)(fh:∀id ob,h id=some ob->hD id=some ob):∀{ls nH:List Lf} {ob:List Prop},J6 h ls=some (nH,ob)->dF ob->nH.length=ls.length/\∀(j:Nat) (l':Lf),nH[j]?=some l'->∃l,ls[j]?=some l/\∀v,LR w M U l v->IR w (AI M U hD) l' v
 | [],_,_,hl,_=>by cases hl;exact⟨rfl,λj l' hj=>by simp at hj⟩
 |l ::ls,nH,ob,hl,ho=>by
  simp only[J6]at hl;split at hl
  ·rename_i x o1 xs o2 h1 h2;cases hl;rw[bp]at ho;obtain⟨g1,g2⟩:=S8 hW fh h2 ho.2;refine⟨by simp [g1],λj l' hj=>?_⟩
   cases j with
   |zero=>simp at hj;subst hj;exact⟨l,rfl,λv hv=>Qfe hW fh h1 ho.1 hv⟩
   |succ j=>exact g2 j l' (by simpa using hj)
  ·cases hl
theorem Zv(hW:Wd G U M hD w)(fh:∀id ob,h id=some ob->hD id=some ob){l l':Lf}{v:Value}{ob:List Prop}(hl:Qu h l=some (l',ob))(ho:dF ob)(hv:LR w M U l v):LR w (AI M U hD) φ' l' v:=by
 have QV:∀{l:Lf},IR w M l v->LR w (AI M U hD) φ' l v:=λh=>IR.lr (h.mono (λ_ _=>rfl) AI.sub)
 cases l with
 |os id sz off len =>
  simp only[Qu]at hl;split at hl
  ·rename_i o1 Qn;cases hc:(off == 0&&!o1.box&&o1.sz == sz)with
   |false =>
    rw[hc]at hl;simp only[Qdn]at hl;cases DH:(off == 0&&o1.box&&o1.sz == sz)with
    |false=>rw[DH]at hl;cases hl
    |true =>
     rw[DH]at hl;simp only[QaF]at hl;simp only[ma,Qbb]at DH;obtain⟨⟨rfl,p9⟩,jI⟩:=DH;unfold Xi at hl;split at hl
     ·rename_i cells jJ;cases MJ:J6 h cells with
      |none=>rw[MJ]at hl;cases hl
      |some p =>
       obtain⟨c',o2⟩:=p;rw[MJ]at hl;cases hl;obtain⟨hlen,ho2⟩:=ho;have hO:=hW.fU id o1 (fh id o1 Qn);obtain⟨bb,hbb⟩:=hO.boxed p9;obtain⟨g1,g2⟩:=S8 hW fh MJ ho2;rcases(hv:vh w M U (.os id sz 0 len) v)with⟨b,C,hφ,rfl,hle⟩|⟨hφ,_⟩
       ·rw[hbb]at hφ;cases hφ;obtain⟨h0,h1⟩:=hO.oc (.inr ⟨_,jJ⟩);rw[hbb]at h1;obtain⟨cur,k1,k2,k3,k4,k5,k6⟩:=h1;have k7:=k6 0 cells (by rw[jJ];rfl)
        have px:∀(j:Nat) (l':Lf),c'[j]?=some l'->∃u,w.cell? ⟨bb,0*sz+0*sz+j,none⟩=some u/\IR w (AI M U hD) l' u:=λj l' hj=>by
         obtain⟨l,hl1,k_⟩:=g2 j l' hj;obtain⟨u,hu,hr⟩:=k7.2 j l hl1;rw[p9,if_pos rfl]at hr;refine⟨u,?_,k_ u hr⟩;rw[Qbx,Qbu]at hu;simp only[World.cell?,k1,Qbx,Qbu];simpa using hu
        have key:IR w (AI M U hD) (.sl false sz [c']) (.slice (some ⟨bb,0*sz,none⟩) ([c']:List (List Lf)).length (1-0)):=by
         refine IR.sl false sz [c'] bb (0*sz) (1-0) (λi j=>(w.cell? ⟨bb,0*sz+i*sz+j,none⟩).getD undef) (.inr ⟨id,o1,1,fh id o1 Qn,hbb⟩) (by simp) (λh=>by cases h) (λi c hc=>?_) (λi c j l hc hj=>?_) (λi c j l hc hj=>?_)
         ·cases i with
          |zero=>simp at hc;subst hc;rw[g1,k7.1,jI]
          |succ i=>simp at hc
         ·cases i with
          |zero =>
           simp at hc;subst hc;obtain⟨u,hu,hr⟩:=px j l hj;rw[hu];rfl
          |succ i=>simp at hc
         ·cases i with
          |zero =>
           simp at hc;subst hc;obtain⟨u,hu,hr⟩:=px j l hj;rw[hu];exact hr
          |succ i=>simp at hc
        rw[<-hlen];exact IR.lr key
       ·rw[hbb]at hφ;cases hφ
     ·cases hl
   |true =>
    rw[hc]at hl;cases hl;simp only[ma,Qbb,QbD]at hc;obtain⟨⟨rfl,p9⟩,jI⟩:=hc;obtain⟨hlen,-⟩:=ho;have hO:=hW.fU id o1 (fh id o1 Qn);rcases(hv:vh w M U (.os id sz 0 len) v)with⟨b,C,hφ,rfl,hle⟩|⟨hφ,_,rfl,A,rfl⟩
    ·obtain⟨h0,h1⟩:=hO.oc (.inl p9);rw[hφ]at h1;obtain⟨cur,g1,g2,g3,g4,g5,g6⟩:=h1;have px:∀(i:Nat) (c:List Lf) (j:Nat) (l:Lf),o1.rows[i]?=some c->c[j]?=some l->w.cell? ⟨b,0*sz+i*sz+j,none⟩=some ((cur[i*sz+j]?).getD undef)/\IR w (AI M U hD) l ((cur[i*sz+j]?).getD undef):=λi c j l hc hj=>by
      obtain⟨u,hu,hr⟩:=(g6 i c hc).2 j l hj;rw[p9]at hr;rw[jI]at hu;refine⟨?_,by rw[hu];exact IR.mono (λ_ _=>rfl) AI.sub (by simpa using hr)⟩
      simp only[World.cell?,g1,Qbx,Qbu];simp [hu]
     have key:IR w (AI M U hD) (.sl false sz o1.rows) (.slice (some ⟨b,0*sz,none⟩) o1.rows.length (C-0)):=
      IR.sl false sz o1.rows b (0*sz) (C-0) (λi j=>(cur[i*sz+j]?).getD undef) (.inr ⟨id,o1,C,fh id o1 Qn,hφ⟩) (by omega) (λh=>by cases h) (λi c hc=>by rw[(g6 i c hc).1,jI]) (λi c j l hc hj=>(px i c j l hc hj).1) (λi c j l hc hj=>(px i c j l hc hj).2)
     rw[hlen]at key;exact IR.lr key
    ·have zI:o1.rows=[]:=Qdx hlen;rw[zI];exact IR.lr (IR.QF false sz A 0 λh=>by cases h)
  ·cases hl
 |op id sz row off =>
  simp only[Qu]at hl;split at hl
  ·rename_i o1 Qn;cases hc:(o1.box&&row == 0)with
   |false=>rw[hc]at hl;cases hl
   |true =>
    rw[hc]at hl;simp only[QaF]at hl;simp only[ma,Qbb]at hc;obtain⟨p9,rfl⟩:=hc;split at hl
    ·rename_i cells jJ;cases hi:cells.all O_ with
     |false=>rw[hi]at hl;cases hl
     |true =>
      rw[hi]at hl;cases hl;have hO:=hW.fU id o1 (fh id o1 Qn);obtain⟨b,C,hφ,rfl⟩:=(hv:vh w M U (.op id sz 0 off) v);have px:∀(j:Nat) (l:Lf),cells[j]?=some l->∃u,w.cell? ⟨b,0+j,none⟩=some u/\IR w M l u:=λj l hj=>by
       obtain⟨u,hu,hr⟩:=hO.UT (i:=0) (.inr ⟨_,jJ⟩) hφ (by rw[jJ];rfl) j l hj
       exact⟨u,by rw[Qbx]at hu;exact hu,LR.QV (Qc8.1 hi l (QaG hj)) hr⟩
      have key:IR w (AI M U hD) (.ip cells off) (.pointer (some ⟨b,0+off,none⟩)):=by
       refine IR.ip cells off b 0 (λi=>(w.cell? ⟨b,0+i,none⟩).getD undef) (.inr ⟨id,o1,C,fh id o1 Qn,hφ⟩) (λi l hl=>?_) (λi l hl=>?_)
       ·obtain⟨u,hu,hr⟩:=px i l hl;simp only[hu,QbG]
       ·obtain⟨u,hu,hr⟩:=px i l hl;simp only[hu,QbG];exact hr.mono (λ_ _=>rfl) AI.sub
      rw[show 0*sz+off=0+off by rw[Qbx]]
      exact IR.lr key
    ·cases hl
  ·cases hl
 |fn f gZ=>cases hl
 |mp id=>cases hl
 |bs id n sz=>cases hl
 |any=>cases hl;exact QV hv
 |int k n=>cases hl;exact QV hv
 |bool b=>cases hl;exact QV hv
 |str s=>cases hl;exact QV hv
 |L3=>cases hl;exact QV hv
 |fk=>cases hl;exact QV hv
 |ip c off=>cases hl;exact QV hv
 |sl cl sz rows=>cases hl;exact QV hv
theorem Qii{l l':Lf}{ob:List Prop}(hl:Qu h l=some (l',ob)):Xa l=false/\Xa l'=false:=by
 have mC:∀{c:Bool} {x:O (Lf×List Prop)},(bif c then x else none)=some (l',ob)->x=some (l',ob):=by
  intro c x hc;cases c
  ·cases hc
  ·exact hc
 cases l with
 |os id sz off len =>
  simp only[Qu]at hl;split at hl
  ·rename_i o1 Qn;cases hc:(off == 0&&!o1.box&&o1.sz == sz)with
   |true=>rw[hc]at hl;cases hl;exact⟨rfl,rfl⟩
   |false =>
    rw[hc]at hl;have h1:=mC hl;unfold Xi at h1;split at h1
    ·rename_i cells jJ;cases MJ:J6 h cells with
     |none=>rw[MJ]at h1;cases h1
     |some p=>rw[MJ]at h1;cases h1;exact⟨rfl,rfl⟩
    ·cases h1
  ·cases hl
 |op id sz row off =>
  simp only[Qu]at hl;split at hl
  ·have h1:=mC hl;split at h1
   ·cases mC h1;exact⟨rfl,rfl⟩
   ·cases h1
  ·cases hl
 |fn f gZ=>cases hl
 |mp id=>cases hl
 |bs id n sz=>cases hl
 |_=>cases hl;exact⟨rfl,rfl⟩
theorem Vp(hW:Wd G U M hD w)(fh:∀id ob,h id=some ob->hD id=some ob):∀{ls nH:List Lf} {vs:List Value} {ob:List Prop},S9 h ls=some (nH,ob)->dF ob->Rs (vh w M U) ls vs->Rs (vh w (AI M U hD) φ') nH vs
 | [],_,[],_,hl,_,_=>by cases hl;trivial
 |l ::ls,nH,v ::vs,ob,hl,ho,hr=>by
  simp only[S9]at hl;split at hl
  ·rename_i x o1 xs o2 h1 h2;cases hl;rw[bp]at ho;obtain⟨n1,n2⟩:=Qii h1;refine⟨?_,Vp hW fh h2 ho.2 hr.2⟩;rw[<-Qd n2];exact Zv hW fh h1 ho.1 (by rw[Qd n1];exact hr.1)
  ·cases hl
 | [],_,_ ::_,_,_,_,h=>h.elim
 |_ ::_,_,[],_,_,_,h=>h.elim
theorem Zw(hW:Wd G U M hD w)(fh:∀id ob,h id=some ob->hD id=some ob){l l':Lf}{v:Value}{ob:List Prop}(hl:Vr h l=some (l',ob))(ho:dF ob)(hv:LR w M U l v):LR w (AI M U hD) φ' l' v:=by
 cases l with
 |fn f gZ =>
  simp only[Vr]at hl;cases h1:S9 h gZ with
  |none=>rw[h1]at hl;cases hl
  |some p =>
   obtain⟨x,o1⟩:=p;rw[h1]at hl;cases hl;obtain⟨vs,e,hr⟩:=hv;exact⟨vs,e,Vp hW fh h1 ho hr⟩
 |_=>exact Zv hW fh (by simpa only[Vr]using hl) ho hv
theorem Vs(hW:Wd G U M hD w)(fh:∀id ob,h id=some ob->hD id=some ob):∀{ls nH:List Lf} {vs:List Value} {ob:List Prop},S_ h ls=some (nH,ob)->dF ob->Rs (LR w M U) ls vs->Rs (LR w (AI M U hD) φ') nH vs
 | [],_,[],_,hl,_,_=>by cases hl;trivial
 |l ::ls,nH,v ::vs,ob,hl,ho,hr=>by
  simp only[S_]at hl;split at hl
  ·rename_i x o1 xs o2 h1 h2;cases hl;rw[bp]at ho;exact⟨Zw hW fh h1 ho.1 hr.1,Vs hW fh h2 ho.2 hr.2⟩
  ·cases hl
 | [],_,_ ::_,_,_,_,h=>h.elim
 |_ ::_,_,[],_,_,_,h=>h.elim
theorem Qij(hW:Wd G U M hD w)(fh:∀id ob,h id=some ob->hD id=some ob){c c':Cm}{v:Value}{ob:List Prop}(hl:QdF h c=some (c',ob))(ho:dF ob)(hv:CR w M U c v):CR w (AI M U hD) φ' c' v:=by
 cases c with
 |one l =>
  simp only[QdF]at hl;cases h1:Vr h l with
  |none=>rw[h1]at hl;cases hl
  |some p=>obtain⟨x,o1⟩:=p;rw[h1]at hl;cases hl;exact Zw hW fh h1 ho hv
 |agg ls =>
  simp only[QdF]at hl;cases h1:S_ h ls with
  |none=>rw[h1]at hl;cases hl
  |some p =>
   obtain⟨x,o1⟩:=p;rw[h1]at hl;cases hl;obtain⟨vs,e,hr⟩:=hv;exact⟨vs,e,Vs hW fh h1 ho hr⟩
theorem Vq(hW:Wd G U M hD w)(fh:∀id ob,h id=some ob->hD id=some ob):∀{cs T8:List Cm} {vs:List Value} {ob:List Prop},Xj h cs=some (T8,ob)->dF ob->Rs (CR w M U) cs vs->Rs (CR w (AI M U hD) φ') T8 vs
 | [],_,[],_,hl,_,_=>by cases hl;trivial
 |l ::ls,nH,v ::vs,ob,hl,ho,hr=>by
  simp only[Xj]at hl;split at hl
  ·rename_i x o1 xs o2 h1 h2;cases hl;rw[bp]at ho;exact⟨Qij hW fh h1 ho.1 hr.1,Vq hW fh h2 ho.2 hr.2⟩
  ·cases hl
 | [],_,_ ::_,_,_,_,h=>h.elim
 |_ ::_,_,[],_,_,_,h=>h.elim
theorem Oh{c:Call}{f:Operand}{k:FuncId}{gZ:List Value}(ho:o.op=.call c)(hc:c.callee=.value f)(hf:a.eval f=.func (.func k) #[] gZ.toArray)(hk:Ij P k=true):
  (execOp a.eval o).run P w=.ok (.enter k (c.args.toList.map a.eval++gZ).toArray) w:=by
 unfold Ij at hk;split at hk
 ·rename_i fn hfn;simp only[ma,QbD]at hk;have hb:¬fn.body=none:=λe=>by rw[e]at hk;cases hk.2
  have lN:¬fn.name="runtime.NumGoroutine":=by simpa using hk.1
  have he:c.args.map a.eval++gZ.toArray=(c.args.toList.map a.eval++gZ).toArray:=by apply Qgf;simp
  simp [execOp,ho,resolve,hc,hf,Deferred.ofValue,invoke,callFunc,hfn,lN,hb,he]
 ·cases hk
theorem Wd.QlQ(hW:Wd G U M hD w)(fh:∀b,M b->M' b)(G6:∀b,M' b->M b\/(G.w0.heap.size<=b/\b<w.heap.size/\∀id ob C,hD id=some ob->U id≠some (some (b,C)))):Wd G U M' hD w:=by
 have he:Ex w M U w M' U:=⟨λ_ _=>rfl,fh,λ_ _ h=>h⟩
 refine⟨λid ob e=>(hW.fU id ob e).mono he λ_ _ _=>rfl,hW.inj,λb hb=>?_,λb hb=>fh b (hW.m0 b hb),λb hb=>?_,λid ob b C e p=>⟨λhb=>?_,(hW.own id ob b C e p).2⟩,hW.AO,hW.os,hW.tape,hW.output,hW.size,hW.HA,hW.zP⟩
 ·rcases G6 b hb with h|h
  ·exact hW.mlt b h
  ·exact h.2.1
 ·rcases G6 b hb with h|h
  ·exact hW.LW b h
  ·exact .inr (.inr h.1)
 ·rcases G6 b hb with h|h
  ·exact(hW.own id ob b C e p).1 h
  ·exact h.2.2 id ob C e p
theorem Qej(hM:∀b,M b->b<w.heap.size)(ht:∀b cs,(b,cs)∈UB->M b/\b<w.heap.size/\∃t s,w.heap[b]?=some (.cells cs t s)):Wd ⟨w,λb=>∃id C,id<([]:List Ob).length/\(λ_=>none:Pl) id=some (some (b,C)),M,wT (λ_=>none) 0 []⟩ (λ_=>none) M (λid=>([]:List Ob)[id]?) w:=
 ⟨λid ob e=>by simp at e,λi j oi oj b Ci Cj hi=>by simp at hi,hM,λ_ h=>h,λ_ h=>.inl h,λid ob b C e=>by simp at e,λ_ _ _=>rfl,rfl,rfl,rfl,fa _,λp hp=>by simp [wT]at hp,λb cs h=>⟨(ht b cs h).1,λ⟨id,C,hc,_⟩=>by simp at hc,(ht b cs h).2⟩⟩
theorem Ik{c:Call}(ho:o.op=.call c)(hf:So P h L c hs=some r)(dj:dF r.fU)(hF:∀t,AR w M U (L t) (a.tmps.getD t undef))(hW:Wd G U M hD w)(fh:∀id ob,h id=some ob->hD id=some ob){K:Act->World->Prop}
  (hK:∀v w' M',AR w' M' U r.v v->Wd G U M' hD w'->Ex w M U w' M' U->K (a.put o.dst v) w'):r.news=[]/\o.wp P a w K NQ:=by
 unfold So at hf;split at hf
 ·rename_i f hcf;split at hf
  ·rename_i k gZ A2 o1 r0 fK h1 h2;have yu:AR w M U (y6 L f) (a.eval f):=H9 hF f;rw[h1]at yu;obtain⟨qI,hcv,k8⟩:LR w M U (.fn (.func k) gZ) (a.eval f):=yu;have U_:Rs (CR w M U) (gZ.map Cm.one) qI:=by
    refine Rs.Av (k8.imp_mem λx hx y h=>?_)
    exact vh.lr h
   -- TJ Qo0 own say
   have go:∀{UM:List Cm} {M0:Nat->Prop} {r1:AV},dK P k UM [] r1 []->(∀b,M0 b->b<w.heap.size)->(∀b,M b->M0 b)->Rs (CR w M0 (λ_=>none)) UM (c.args.toList.map a.eval++qI)->
     (∀v w' M',Below w.heap.size w w'->AR w' M' (λ_=>none) r1 v->(∀b,M0 b->M' b)->(∀b,M' b->M0 b\/(w.heap.size<=b/\b<w'.heap.size))->K (a.put o.dst v) w')->o.wp P a w K NQ:=by
    intro UM M0 r1 hA hM hMM A8 hk;unfold Oper.wp;rw[Oh ho hcf hcv hA.1];show Calls P k _ w _;refine(hA.2 w (λ_=>none) M0 _ (Qej hM λb cs h=>⟨hMM b (hW.tab b cs h).1,(hW.tab b cs h).2⟩) (λ_ _=>rfl) A8).mono ?_
    rintro e w' ⟨v,φ',M',rfl,hr,sB,wy⟩;have hφn:φ'=λ_=>none:=funext λid=>wy id (QaD _)
    subst hφn;have AL:Below w.heap.size w w':=⟨sB.os,sB.tape,sB.output,sB.size,λb hb=>sB.AO b hb λ⟨id,C,h,_⟩=>by simp at h⟩
    refine hk v w' M' AL hr sB.m0 λb hb=>?_
    rcases sB.LW b hb with h|⟨id,C,h,_⟩|h
    ·exact .inl h
    ·simp at h
    ·exact .inr ⟨h,sB.mlt b hb⟩
   cases SR:(A2++gZ.map Cm.one).all Ng with
   |true =>
    rw[SR]at hf;simp only[QaF]at hf;cases td:Qbh r0 with
    |false=>rw[td]at hf;cases hf
    |true =>
     rw[td]at hf;cases hf;simp only[bp,dF]at dj;refine⟨rfl,go dj.2.1 (λb hb=>hW.mlt b hb) (λ_ h=>h) ?_ ?_⟩
     ·exact((vR hF trivial h2 dj.1).append U_).imp_mem λx hx y h=>CR.free (Qc8.1 SR x hx) h
     ·intro v w' M' AL hr Ud Ve;refine hK v w' M' (AR.free td hr) ((hW.grow AL).QlQ Ud λb hb=>?_) ⟨λb hb=>AL.block b (hW.mlt b hb),Ud,λ_ _ h=>h⟩
      rcases Ve b hb with h|h
      ·exact .inl h
      ·exact .inr ⟨QaE hW.size h.1,h.2,λid ob C e p=>by have:=(hW.own id ob b C e p).2.1;omega⟩
   |false =>
    rw[SR]at hf;simp only[Qdn]at hf;split at hf
    ·rename_i UM o2 h3;cases Dc:XC r0 with
     |false=>rw[Dc]at hf;cases hf
     |true =>
      rw[Dc]at hf;cases hf;simp only[bp,dF]at dj;refine⟨rfl,go (M0:=AI M U hD) dj.2.1 ?_ (λ_ h=>.inl h) (Vq hW fh h3 dj.1.2 ((vR hF trivial h2 dj.1.1).append U_)) ?_⟩
      ·rintro b (h|⟨id,ob,C,e,p⟩)
       ·exact hW.mlt b h
       ·exact(hW.own id ob b C e p).2.1
      ·intro v w' M' AL hr Ud Ve;exact hK v w' M (AR.plain Dc hr) (hW.grow AL) (hW.RD AL)
    ·cases hf
  ·cases hf
 ·cases hf
theorem Lw:∀{out:List (O Ob)} {fU:List Ob},UL out=some fU->out=fU.map some
 | [],_,h=>by cases h;rfl
 |some o ::r,fU,h=>by
  simp only[UL]at h;cases hr:UL r with
  |none=>rw[hr]at h;cases h
  |some os=>rw[hr]at h;cases h;rw[Lw hr];rfl
 |none ::_,_,h=>by cases h
theorem T4{c:Call}(ho:o.op=.call c)(hf:Wp P base L c hs=some r)(dj:dF r.fU)(hF:∀t,AR w M U (L t) (a.tmps.getD t undef))(hW:Wd G U M hD w)
  (td:∀id,base<=id->id<base+r.news.length->U id=none/\hD id=none) {K:Act->World->Prop}
  (hK:∀v w' φ' M',AR w' M' φ' r.v v->Wd G φ' M' (VL hD base r.news) w'->Ex w M U w' M' φ'->(∀id,φ' id≠none->U id≠none\/(base<=id/\id<base+r.news.length))->K (a.put o.dst v) w'):o.wp P a w K NQ:=by
 unfold Wp at hf;split at hf
 ·rename_i f hcf;split at hf
  ·rename_i k gZ A2 o1 r0 out fK h1 h2;split at hf
   ·rename_i fU Qs6;cases hc:((A2++gZ.map Cm.one).all Ng&&fU.all (λo=>!o.box))with
    |false=>rw[hc]at hf;cases hf
    |true =>
     rw[hc]at hf;cases hf;rw[ma]at hc;obtain⟨SR,QhG⟩:=hc;have LL:=Lw Qs6;subst LL;simp only[bp,dF]at dj;have yu:AR w M U (y6 L f) (a.eval f):=H9 hF f;rw[h1]at yu;obtain⟨qI,hcv,k8⟩:LR w M U (.fn (.func k) gZ) (a.eval f):=yu;have U_:Rs (CR w M U) (gZ.map Cm.one) qI:=by
      refine Rs.Av (k8.imp_mem λx hx y h=>?_)
      exact vh.lr h
     have A8:Rs (CR w M (λ_=>none)) (A2++gZ.map Cm.one) (c.args.toList.map a.eval++qI):=((vR hF trivial h2 dj.1).append U_).imp_mem λx hx y h=>CR.free (Qc8.1 SR x hx) h
     unfold Oper.wp;rw[Oh ho hcf hcv dj.2.1.1];show Calls P k _ w _;refine(dj.2.1.2 w (λ_=>none) M _ (Qej hW.mlt hW.tab) (λ_ _=>rfl) A8).mono ?_
     rintro e w' ⟨v,φ',M',rfl,hr,sB,wy⟩;rw[Qbn]at wy;have hhl:∀i,hl (fU.map some) i=fU[i]?:=λi=>by unfold hl;rw[Qc0];cases fU[i]? <;> rfl
     have AL:Below w.heap.size w w':=⟨sB.os,sB.tape,sB.output,sB.size,λb hb=>sB.AO b hb λ⟨id,C,h,_⟩=>by simp at h⟩
     have Ud:∀b,M b->M' b:=sB.m0;have Ve:∀b,M' b->M b\/w.heap.size<=b:=λb hb=>by
      rcases sB.LW b hb with h|⟨id,C,h,_⟩|h
      ·exact .inl h
      ·simp at h
      ·exact .inr h
     have Zb:Wd G U M' hD w':=(hW.grow AL).QlQ Ud λb hb=>by
      rcases Ve b hb with h|h
      ·exact .inl h
      ·exact .inr ⟨QaE hW.size h,sB.mlt b hb,λid ob C e p=>by have:=(hW.own id ob b C e p).2.1;omega⟩
     have O9:∀i ob b C,fU[i]?=some ob->φ' i=some (some (b,C))->¬M' b/\b<w'.heap.size/\w.heap.size<=b:=λi ob b C h p=>by
      obtain⟨g1,g2,g3⟩:=sB.own i ob b C ((hhl i).trans h) p;refine⟨g1,g2,?_⟩;rcases g3 with⟨id,C,h,_⟩|h
      ·simp at h
      ·exact h
     let φ2:Pl:=λi=>if base<=i/\i<base+fU.length then φ' (i-base)else U i
     have qc:∀i,base<=i->i<base+fU.length->φ2 i=φ' (i-base):=λi h1 h2=>if_pos ⟨h1,h2⟩
     have LL:∀i,¬(base<=i/\i<base+fU.length)->φ2 i=U i:=λi h=>if_neg h
     have Dc:∀i p,U i=some p->φ2 i=some p:=λi p h=>by
      by_cases hi:base<=i/\i<base+fU.length
      ·rw[(td i hi.1 hi.2).1]at h;cases h
      ·rw[LL i hi];exact h
     have hm:∀id k p,(some (base+id):O Nat)=some k->φ' id=some p->φ2 k=some p:=λid k p h hp=>by
      cases h;have iq:id<fU.length:=by
       rcases sh id fU.length with h|h
       ·exact h
       ·rw[wy id h]at hp;cases hp
      rw[qc _ (by omega) (by omega),show base+id-base=id by omega];exact hp
     have he:Ex w' M' U w' M' φ2:=⟨λ_ _=>rfl,λ_ h=>h,Dc⟩
     refine hK v w' φ2 M' (N9 hm hr) ?_ ⟨λb hb=>AL.block b (hW.mlt b hb),Ud,Dc⟩ λi hi=>?_
     ·have Qkr:∀{i ob},VL hD base fU i=some ob->(base<=i/\i<base+fU.length/\fU[i-base]?=some ob)\/(¬(base<=i/\i<base+fU.length)/\hD i=some ob):=λ{i ob} h=>by
       unfold VL at h;split at h
       ·rename_i hi;exact .inl ⟨hi.1,hi.2,h⟩
       ·rename_i hi;exact .inr ⟨hi,h⟩
      refine⟨λi ob h=>?_,λi j oi oj b Ci Cj h1 h2 h3 h4=>?_,sB.mlt,λb hb=>Ud b (hW.m0 b hb),λb hb=>?_,λi ob b C h1 h2=>?_,Zb.AO,Zb.os,Zb.tape,Zb.output,Zb.size,λp hp=>Dc _ _ (hW.HA p hp),hW.zP⟩
      ·rcases Qkr h with⟨g1,g2,g3⟩|⟨g1,g2⟩
       ·have hb:ob.box=false:=by simpa using Qc8.1 QhG ob (QaG g3)
        have:=Jl (m:=λj=>some (base+j)) (φ2:=φ2) (i:=i) (j:=i-base) hm (qc i g1 g2) (sB.fU (i-base) ob ((hhl _).trans g3))
        have e:jA (λj=>some (base+j)) ob=ob:=by unfold jA;rw[hb];rfl
        rw[e]at this;exact this
       ·exact(Zb.fU i ob g2).mono he λ_ _ _=>rfl
      ·rcases Qkr h1 with⟨g1,g2,g3⟩|⟨g1,g2⟩ <;> rcases Qkr h2 with⟨k1,k2,k3⟩|⟨k1,k2⟩
       ·rw[qc i g1 g2]at h3;rw[qc j k1 k2]at h4;have:=sB.inj (i-base) (j-base) oi oj b Ci Cj ((hhl _).trans g3) ((hhl _).trans k3) h3 h4;omega
       ·rw[qc i g1 g2]at h3;rw[LL j k1]at h4;have:=(O9 _ _ _ _ g3 h3).2.2;have:=(hW.own _ _ _ _ k2 h4).2.1;omega
       ·rw[LL i g1]at h3;rw[qc j k1 k2]at h4;have:=(O9 _ _ _ _ k3 h4).2.2;have:=(hW.own _ _ _ _ g2 h3).2.1;omega
       ·rw[LL i g1]at h3;rw[LL j k1]at h4;exact Zb.inj i j oi oj b Ci Cj g2 k2 h3 h4
      ·rcases Ve b hb with h|h
       ·exact hW.LW b h
       ·exact .inr (.inr (QaE hW.size h))
      ·rcases Qkr h1 with⟨g1,g2,g3⟩|⟨g1,g2⟩
       ·rw[qc i g1 g2]at h2;obtain⟨k1,k2,k3⟩:=O9 _ _ _ _ g3 h2;exact⟨k1,k2,.inr (QaE hW.size k3)⟩
       ·rw[LL i g1]at h2;exact Zb.own i ob b C g2 h2
     ·by_cases h:base<=i/\i<base+fU.length
      ·exact .inr h
      ·rw[LL i h]at hi;exact .inl hi
   ·cases hf
  ·cases hf
 ·cases hf
theorem OT(hf:dop P h base L o.op hs=some r)(dj:dF r.fU)(hF:∀t,AR w M U (L t) (a.tmps.getD t undef))(hW:Wd G U M hD w)(fh:∀id ob,h id=some ob->hD id=some ob)
  (td:∀id,base<=id->id<base+r.news.length->U id=none/\hD id=none) {K:Act->World->Prop}
  (hK:∀v w' φ' M',AR w' M' φ' r.v v->Wd G φ' M' (VL hD base r.news) w'->Ex w M U w' M' φ'->(∀id,φ' id≠none->U id≠none\/(base<=id/\id<base+r.news.length))->K (a.put o.dst v) w'):o.wp P a w K NQ:=by
 unfold dop at hf;split at hf
 ·rename_i r0 h1;cases hf;obtain⟨v,w',φ',dC,hr,sB,hp,hn,hb⟩:=J1 h1 dj trivial hF hW fh td;unfold Oper.wp;rw[dC];exact hK v w' φ' M hr sB ⟨hb,λ_ h=>h,hp⟩ hn
 ·split at hf
  ·rename_i c hc;split at hf
   ·rename_i r1 hf1;cases hf;obtain⟨hn,-⟩:=Ik (K:=λ_ _=>True) hc hf1 dj hF hW fh (λ_ _ _ _ _ _=>trivial)
    refine(Ik hc hf1 dj hF hW fh λv w' M' hr sB he=>?_).2
    exact hK v w' U M' hr (by rw[hn,ua];exact sB) he λ_ h=>.inl h
   ·exact T4 hc hf dj hF hW td hK
  ·cases hf
end
end
section
open Go.RowKit
section
variable {P : Program} {G : bC} {U φ' : Pl} {M M' : Nat -> Prop} {h : Nat -> O Ob} {w w' : World} {a : Act} {hs : List Hint} {o : Oper} {H : List (O Ob)} {L : List (Nat × AV)}
theorem qY{α:Type}{l vs:List α}{p:Nat}(hp:p+vs.length<=l.length)(k:Nat):(l.take p++vs++l.drop (p+vs.length))[k]?=if k<p then l[k]? else if k<p+vs.length then vs[k-p]? else l[k]?:=by
 by_cases h1:k<p
 ·rw[if_pos h1,Qds,Qdz (by simp;omega),QdL,if_pos h1]
 ·rw[if_neg h1];by_cases h2:k<p+vs.length
  ·rw[if_pos h2,Qdz (by simp;omega),Qe3 (by simp;omega)]
   congr 1;simp;omega
  ·rw[if_neg h2,Qe3 (by simp;omega),Qf_]
   congr 1;simp;omega
theorem BH{id:Nat}{x:O Ob}{i:Nat}(lN:i≠id):hl (H.set id x) i=hl H i:=by
 unfold hl;rw[QgP (Ne.symm lN)]
theorem nC{id:Nat}{ob:Ob}(e:hl H id=some ob):id<H.length:=by
 unfold hl at e;rcases sh id H.length with h|h
 ·exact h
 ·rw[Qbp h]at e;cases e
theorem w9{id:Nat}{x:O Ob}(iq:id<H.length):hl (H.set id x) id=x:=by
 unfold hl;rw[Qf8 iq];rfl
theorem WX{id:Nat}{ob:Ob}(iq:id<H.length):hl (H.set id (some ob))=λi=>if i=id then some ob else hl H i:=by
 funext i
 by_cases hi:i=id
 ·subst hi;rw[if_pos rfl,w9 iq]
 ·rw[if_neg hi,BH hi]
theorem WZ{x:O Ob}:hl (H++[x])=λi=>if i=H.length then x else hl H i:=by
 funext i
 unfold hl;by_cases hi:i=H.length
 ·subst hi;rw[if_pos rfl,Qe3 (fa _)];simp
 ·rw[if_neg hi];rcases sh i H.length with h|h
  ·rw[Qdz h]
  ·rw[Qbp (by simp;omega),Qbp h]
theorem Wd.write(hW:Wd G U M h w){id:Nat}{ob AH:Ob}{b C:Nat}{cur new:Array Value}(hh:h id=some ob)(hφ:U id=some (some (b,C)))(WT:w.heap[b]?=some (.cells cur ob.J0 (0,0)))(hO:OR (w.setRow b new) M U id AH):
  Wd G U M (λi=>if i=id then some AH else h i) (w.setRow b new)/\Ex w M U (w.setRow b new) M U:=by
 obtain⟨hm,iq,O9⟩:=hW.own id ob b C hh hφ;exact⟨hW.Rt hh hφ (λk hk=>setRow_other w b k new hk) (by simp) rfl rfl rfl hO,λc hc=>setRow_other w b c new λe=>hm (e▸hc),λ_ h=>h,λ_ _ h=>h⟩
theorem Wd.move(hW:Wd G U M h w){id iV:Nat}{ob:Ob}{p:O (Nat×Nat)}(hh:h id=some ob)(hφ:U id=some p)(wy:U iV=none)(B6:h iV=none):Wd G (JL U iV p) M (λi=>if i=iV then some ob else if i=id then none else h i) w:=by
 have lN:id≠iV:=λe=>by subst e;rw[hh]at B6;cases B6
 have he:Ex w M U w M (JL U iV p):=⟨λ_ _=>rfl,λ_ h=>h,uJ _ wy⟩
 have key:∀i o,(λi=>if i=iV then some ob else if i=id then none else h i) i=some o->(i=iV/\o=ob)\/(i≠iV/\i≠id/\h i=some o):=λi o e=>by
  by_cases h1:i=iV
  ·simp only[if_pos h1]at e;exact .inl ⟨h1,(QaL e).symm⟩
  ·simp only[if_neg h1]at e;by_cases h2:i=id
   ·rw[if_pos h2]at e;cases e
   ·rw[if_neg h2]at e;exact .inr ⟨h1,h2,e⟩
 refine⟨λi o e=>?_,λi j oi oj b Ci Cj hi hj pi pj=>?_,hW.mlt,hW.m0,hW.LW,λi o b C e q=>?_,hW.AO,hW.os,hW.tape,hW.output,hW.size,λq hq=>he.pl _ _ (hW.HA q hq),hW.zP⟩
 ·rcases key i o e with⟨rfl,rfl⟩|⟨h1,h2,h3⟩
  ·refine((hW.fU id o hh).mono he λ_ _ _=>rfl).ren ?_
   rw[eF,s9 _ lN,hφ]
  ·exact(hW.fU i o h3).mono he λ_ _ _=>rfl
 ·rcases key i oi hi with⟨rfl,rfl⟩|⟨h1,h2,h3⟩ <;> rcases key j oj hj with⟨rfl,rfl⟩|⟨g1,g2,g3⟩
  ·rfl
  ·rw[eF]at pi;rw[s9 _ g1]at pj;cases pi;exact absurd (hW.inj id j _ oj b Ci Cj hh g3 hφ pj).symm g2
  ·rw[eF]at pj;rw[s9 _ h1]at pi;cases pj;exact absurd (hW.inj i id oi _ b Ci Cj h3 hh pi hφ) h2
  ·rw[s9 _ h1]at pi;rw[s9 _ g1]at pj;exact hW.inj i j oi oj b Ci Cj h3 g3 pi pj
 ·rcases key i o e with⟨rfl,rfl⟩|⟨h1,h2,h3⟩
  ·rw[eF]at q;cases q;exact hW.own id o b C hh hφ
  ·rw[s9 _ h1]at q;exact hW.own i o b C h3 q
def Md(G:bC)(U:Pl)(M:Nat->Prop)(w:World)(r:Mes)(v:Value)(w':World):Prop:=
 ∃φ',AR w' M φ' r.v v/\Wd G φ' M (hl r.H) w'/\Ex w M U w' M φ'/\(∀id,r.H.length<=id->φ' id=none)
theorem yP{t:TypeId}{n b p:Nat}{e:TypeId}{v:Value}{cur:Array Value}(ht:CF P t=some n)(hn:v.cells.size=n)(hg:w.heap[b]?=some (.cells cur e (0,0)))(Et:p+n<=cur.size)(h1:∀u∈v.cells.toList,u.oneCell'=true):
  (storeVar t ⟨b,p,none⟩ v).run P w=.ok () (w.setRow b (cur.toList.take p++v.cells.toList++cur.toList.drop (p+v.cells.toList.length)).toArray):=by
 obtain⟨i,hi,jI⟩:=pW ht;have ir:=run_storeCells_at P b p e v.cells.toList 0 cur w hg (by rw[Qdy,hn];omega) h1
 simp only[QhF]at ir;simp only[storeVar,Sem.run_bind,run_sizeOf hi,Result.andThen_ok,hn,jI];rw[if_neg (by simp)]
 exact ir
theorem Qai{r:Mes}(hW:Wd G U M (hl H) w)(hF: ∀t,AR w M U (look L t) (a.tmps.getD t undef))(hφ: ∀id,H.length≤id→U id = none){t:TypeId}{x y:Operand}(ho:o.op = .store t x y)(hf:mop P H (look L) o.op hs = some r)(dj:dF r.fU):
    ∃w',(execOp a.eval o).run P w = .ok .skip w'/\Md G U M w r undef w':= by
  rw[ho]at hf;simp only[mop]at hf;split at hf
  · rename_i id sz row off o1 c o2 n h1 h2 ht;split at hf
    · rename_i ob hid;cases hc:(ob.sz == sz && n == c.cells.length)with
      |false => rw[hc]at hf;cases hf
      | true =>
        rw[hc]at hf;simp only[QaF]at hf;simp only[ma,Qbb]at hc;obtain⟨jI,hn⟩:= hc;have iq:= nC hid;have hO:= hW.fU id ob hid
        -- TJ Wq part, for Qjc TJ new rows are
        have go:(ob.box = false∨∃c,ob.rows = [c])→dF o1→dF o2→∀R:List (List Lf),(∀{b C:Nat} {cur:Array Value} {w':World},U id = some (some (b,C))→w.heap[b]? = some (.cells cur ob.J0 (0,0))→cur.size = C * ob.sz→ob.rows.length≤C→
              (∀i c,ob.rows[i]? = some c->c.length = ob.sz/\∀j l,c[j]? = some l->∃v,cur[i * ob.sz + j]? = some v/\(if ob.box then LR w M U l v else IR w M l v))->Rs (LR w M U) c.cells (a.eval y).cells.toList->Ex w M U w' M U->
              row * sz + off + n<=cur.size/\R.length<=C/\∀(i:Nat) (d:List Lf),R[i]? = some d->d.length = ob.sz/\∀(j:Nat) (l:Lf),d[j]? = some l->∃v,(cur.toList.take (row * sz + off) ++(a.eval y).cells.toList ++ cur.toList.drop (row * sz + off +(a.eval y).cells.toList.length))[i * ob.sz + j]? = some v/\(if ob.box then LR w' M U l v else IR w' M l v))->
            ∃w',(execOp a.eval o).run P w = .ok .skip w'/\∃φ',Wd G φ' M (hl (H.set id (some {ob with rows:= R}))) w'/\Ex w M U w' M φ'/\(∀id,H.length<=id->φ' id = none):= by
          intro hoc p1 p2 R key;obtain⟨b,C,Fj,hv⟩:vh w M U (.op id sz row off) (a.eval x):= cg hF h1 p1 trivial;have hy:=(cg hF h2 p2 trivial).cells;obtain⟨h0,QP⟩:= hO.oc hoc;rw[Fj]at QP;obtain⟨cur,g1,g2,g3,g4,g5,g6⟩:= QP;obtain⟨hm,Qpp,O9⟩:= hW.own id ob b C hid Fj;have y4:(a.eval y).cells.size = n:= by rw[<-Qdy,<-hy.len,hn]
          have hex: ∀new,Ex w M U (w.setRow b new) M U:= λnew =>⟨λc hc => setRow_other w b c new λe => hm (e▸hc),λ_ h => h,λ_ _ h => h⟩
          obtain⟨Et,hRC,O6⟩:= key Fj g1 g2 g3 g6 hy (hex (cur.toList.take (row * sz + off) ++(a.eval y).cells.toList ++ cur.toList.drop (row * sz + off +(a.eval y).cells.toList.length)).toArray);have dC:= yP (P:= P) ht y4 g1 Et (Rs.Pf hy);refine⟨w.setRow b (cur.toList.take (row * sz + off) ++(a.eval y).cells.toList ++ cur.toList.drop (row * sz + off +(a.eval y).cells.toList.length)).toArray,by simp only[execOp,ho,hv,Instr.storeAt,Instr.sureAddr,Sem.run_bind,Sem.run_pure,Result.andThen_ok,dC],U, ?_⟩
          have hO2:OR (w.setRow b (cur.toList.take (row * sz + off) ++(a.eval y).cells.toList ++ cur.toList.drop (row * sz + off +(a.eval y).cells.toList.length)).toArray) M U id {ob with rows:= R}:= by
            refine .inl ⟨h0, ?_⟩;rw[Fj];refine⟨_,setRow_heap w b cur _ ob.J0 (0,0) g1, ?_,hRC,g4,g5,λi c hc =>⟨(O6 i c hc).1,λj l hj => ?_⟩⟩
            · rw[<-g2];simp;omega
            · obtain⟨v,hv,hr⟩:=(O6 i c hc).2 j l hj;exact⟨v,by rw[Qju];exact hv,hr⟩
          obtain⟨q1,q2⟩:= hW.write hid Fj g1 hO2;rw[WX iq];exact⟨q1,q2,hφ⟩
        split at hf
        · rename_i p9 jJ;rename_i cells;cases DH:(row == 0 && Nat.ble (off + n) cells.length)with
          |false => rw[DH]at hf;cases hf
          | true =>
            rw[DH]at hf;cases hf;simp only[ma,Qbb,Qgg]at DH;obtain⟨rfl,Et⟩:= DH;simp only[bp]at dj;obtain⟨w',dC,φ',q1,q2,q3⟩:= go (.inr ⟨_,jJ⟩) dj.1 dj.2 [cells.take off ++ c.cells ++ cells.drop (off + n)] (λ{b C cur w'} Fj g1 g2 g3 g6 hy hex => by
              have y4:cells.length = ob.sz:=(g6 0 cells (by rw[jJ];rfl)).1
              have hC:1<=C:= by rw[jJ]at g3;simpa using g3
              have hle:ob.sz<=cur.size:= by rw[g2];exact Nat.le_mul_of_pos_left _ hC
              have yz:= hy.len;have Qbv:cur.toList.length = cur.size:= Qdy;refine⟨by rw[Qbx];omega,by simpa using hC,λi d hd => ?_⟩
              cases i with
              |succ i => simp at hd
              | zero =>
                obtain rfl:= QaL (show some _ = some d from hd);refine⟨by simp;omega,λj l hj => ?_⟩
                have h3:= qY (l:= cells) (vs:= c.cells) (p:= off) (by omega) j
                rw[hn]at hj;rw[h3]at hj;rw[Qbx,Qbu,Qbx,Qbu,qY (by omega)]
                have Pp: ∀l,cells[j]? = some l->∃v,cur.toList[j]? = some v/\(if ob.box = true then LR w' M U l v else IR w' M l v):= λl hl => by
                  obtain⟨v,hv,hr⟩:=(g6 0 cells (by rw[jJ];rfl)).2 j l hl
                  rw[Qbx,Qbu]at hv;rw[if_pos p9]at hr;exact⟨v,by simpa using hv,by rw[if_pos p9];exact hr.mono hex⟩
                by_cases j1:j < off
                · rw[if_pos j1]at hj ⊢;exact Pp l hj
                · rw[if_neg j1]at hj ⊢;by_cases j2:j < off + c.cells.length
                  · rw[if_pos j2]at hj;rw[if_pos (by omega)]
                    obtain⟨v,hv,hr⟩:= hy.get hj;exact⟨v,hv,by rw[if_pos p9];exact hr.mono hex⟩
                  · rw[if_neg j2]at hj;rw[if_neg (by omega)]
                    exact Pp l hj)
            exact⟨w',dC,φ',trivial,q1,q2,λid hid => q3 id (by simpa using hid)⟩
        · rename_i Pp R fK p9;cases DH:(Nat.ble (off + n) Pp.length && c.cells.all O_)with
          |false => rw[DH]at hf;cases hf
          | true =>
            rw[DH]at hf;cases hf;simp only[ma,Qgg]at DH;obtain⟨Et,QbA⟩:= DH;simp only[bp,dF]at dj;obtain⟨⟨p1,p2⟩,sK,hR, -⟩:= dj;obtain⟨w',dC,φ',q1,q2,q3⟩:= go (.inl p9) p1 p2 R (λ{b C cur w'} Fj g1 g2 g3 g6 hy hex => by
              have vH:Pp.length = ob.sz:=(g6 row Pp sK).1;have Qnc:=(pB.1 sK).1;have hle:(row + 1) * ob.sz<=cur.size:= by rw[g2];exact QdB _ (by omega)
              rw[Qb4,QfM]at hle;have yz:= hy.len;have Qbv:cur.toList.length = cur.size:= Qdy;subst jI;refine⟨by omega,by rw[<-hR];simpa using g3,λi d hd => ?_⟩
              have Xw: ∀i (d:List Lf) j l,ob.rows[i]? = some d->d[j]? = some l->∃v,cur.toList[i * ob.sz + j]? = some v/\(if ob.box = true then LR w' M U l v else IR w' M l v):= λi d j l hd hl => by
                obtain⟨v,hv,hr⟩:=(g6 i d hd).2 j l hl;rw[p9]at hr;exact⟨v,by simpa using hv,by rw[p9];exact IR.mono hex.ck hex.sub (by simpa using hr)⟩
              by_cases hi:i = row
              · subst hi;rw[<-hR,Qf8 Qnc]at hd;obtain rfl:= QaL hd;refine⟨by simp;omega,λj l hj => ?_⟩
                rw[hn,qY (by omega)]at hj
                rw[qY (by omega)]
                by_cases j1:j < off
                · rw[if_pos j1]at hj;rw[if_pos (by omega)];exact Xw i Pp j l sK hj
                · rw[if_neg j1]at hj;rw[if_neg (by omega)]
                  by_cases j2:j < off + c.cells.length
                  · rw[if_pos j2]at hj;rw[if_pos (by omega)]
                    obtain⟨v,hv,hr⟩:= hy.get hj;refine⟨v,by rw[show i * ob.sz + j - (i * ob.sz + off) = j - off by omega];exact hv, ?_⟩
                    rw[p9];exact IR.mono hex.ck hex.sub (LR.QV (Qc8.1 QbA l (QaG hj)) hr)
                  · rw[if_neg j2]at hj;rw[if_neg (by omega)];exact Xw i Pp j l sK hj
              · rw[<-hR,QgP (Ne.symm hi)]at hd;have yr:=(g6 i d hd).1;refine⟨yr,λj l hj => ?_⟩
                have hjl:=(pB.1 hj).1;rw[qY (by omega)]
                rcases sh i row with h5 |h5
                · have:(i + 1) * ob.sz<=row * ob.sz:= QdB _ h5;rw[Qb4,QfM]at this;rw[if_pos (by omega)];exact Xw i d j l hd hj
                · have:(row + 1) * ob.sz<=i * ob.sz:= QdB _ (by omega)
                  rw[Qb4,QfM]at this;rw[if_neg (by omega),if_neg (by omega)];exact Xw i d j l hd hj)
            exact⟨w',dC,φ',trivial,q1,q2,λid hid => q3 id (by simpa using hid)⟩
        · cases hf
    · cases hf
  · cases hf
end
end
section
open Go.RowKit
section
variable {P : Program} {G : bC} {U φ' : Pl} {M M' : Nat -> Prop} {h : Nat -> O Ob} {w w' : World} {a : Act} {hs : List Hint} {o : Oper} {H : List (O Ob)} {L : List (Nat × AV)}
theorem KS{t tx ty e:TypeId}{i:TypeInfo}{b n C k:Nat}{cur:Array Value}{x:Value}{news:List Value}(ht:P.underlying t=some (.slice e))(hi:P.info? e=some i)(hs:Src P i.size tx x k news w)(Qdv:n+k<=C)
  (hg:w.heap[b]?=some (.cells cur e (0,0))) (Et:n*i.size+news.length<=cur.size):
  (Builtin.append_ #[t,tx] ty #[.slice (some ⟨b,0,none⟩) n C,x]).run P w=.ok (.slice (some ⟨b,0,none⟩) (n+k) C) (w.setRow b (cur.toList.take (n*i.size)++news++cur.toList.drop (n*i.size+news.length)).toArray):=by
 have ir:=run_storeCells_at P b (n*i.size) e news 0 cur w hg (by simpa using Et) hs.one
 simp only[QhF]at ir;rcases hs.kind with⟨e',hk⟩|hk <;> simp [Builtin.append_,run_underlying ht,run_underlying hk,sizeOf,typeInfo,hi,hs.len,Qdv,hs.cells,Addr.add_lit,ir]
def Wo(G:bC)(U:Pl)(M:Nat->Prop)(hD:Nat->O Ob)(base:Nat)(w:World)(r:Wr)(v:Value)(w':World):Prop:=
 ∃φ' M',AR w' M' φ' r.v v/\Wd G φ' M' (VL (PZ hD r.AF) base r.news) w'/\Ex w M U w' M' φ'/\(∀id,φ' id≠none->U id≠none\/(base<=id/\id<base+r.news.length))
theorem Qi9{id i:Nat}{p:O (Nat×Nat)}(h:JL U id p i≠none):U i≠none\/i=id:=by
 by_cases hi:i=id
 ·exact .inr hi
 ·rw[s9 _ hi]at h;exact .inl h
theorem Tn{hD:Nat->O Ob}{id base:Nat}{ob:Ob}:VL (PZ hD [(id,none)]) base [ob]=λi=>if i=base then some ob else if i=id then none else hD i:=by
 rw[XD]
 funext i
 by_cases h:i=base
 ·rw[if_pos h,if_pos h]
 ·rw[if_neg h,if_neg h];unfold PZ;simp only[tg];by_cases h2:i=id
  ·subst h2;simp
  ·have:(id == i)=false:=by simpa using λe:id=i=>h2 e.symm
   rw[if_neg h2,this];rfl
theorem ZK{id:Nat}{ob:Ob}{b C:Nat}{cur:Array Value}(p9:ob.box=false)(WT:w.heap[b]?=some (.cells cur ob.J0 (0,0)))
  (g6:∀i c,ob.rows[i]?=some c->c.length=ob.sz/\∀j l,c[j]?=some l->∃v,cur[i*ob.sz+j]?=some v/\(if ob.box then LR w M U l v else IR w M l v)):
  ∃qU,Rs (IR w M) ob.rows.flatten qU/\w.rangeAt b 0 qU/\qU.length=ob.rows.length*ob.sz:=by
 obtain⟨qU,h1,h2⟩:=uG (w:=w) (R:=IR w M) (b:=b) (sz:=ob.sz) ob.rows 0 (λi c hc=>(g6 i c hc).1) λi c j l hc hj=>by
  obtain⟨v,hv,hr⟩:=(g6 i c hc).2 j l hj;rw[p9]at hr;exact⟨v,by simp only[World.cell?,WT,Qbu];simpa using hv,by simpa using hr⟩
 exact⟨qU,h1,h2,by rw[<-h1.len,sA (mem_row λi c hc=>(g6 i c hc).1)]⟩
theorem UC{hD:Nat->O Ob}{L:Nat->AV}{base:Nat}{r:Wr}(hW:Wd G U M hD w)(fh:∀id ob,h id=some ob->hD id=some ob)(hF:∀t,AR w M U (L t) (a.tmps.getD t undef))(td:∀id,base<=id->id<base+r.news.length->U id=none/\hD id=none){c:Call}(ho:o.op=.call c)(hc:c.callee=.builtin .append)(hf:R7 P h base L c hs=some r)(dj:dF r.fU):
  ∃v w',(execOp a.eval o).run P w=.ok (.value v) w'/\Wo G U M hD base w r v w':=by
 unfold R7 at hf;split at hf
 ·rename_i id sz off len x o1 t t' R fK A8 QhW;split at hf
  ·rename_i e ob jQ new o2 he hid hro;split at hf
   ·rename_i i z hi hz;generalize xQ:(t == t'&&off == 0&&sz == i.size&&ob.sz == sz&&!ob.box&&ob.J0 == e&&(jQ == sz||new.isEmpty)&&!XS id x)=cc at hf;cases cc with
    |false=>cases hf
    |true =>
     cases hf;simp only[ma,Qbb,QeZ,QbD,QkA]at xQ;obtain⟨⟨⟨⟨⟨⟨⟨rfl,rfl⟩,rfl⟩,jI⟩,p9⟩,rfl⟩,G6⟩,Qty⟩:=xQ;simp only[bp,dF]at dj;obtain⟨⟨p1,p2⟩,hlen,hR,kY,ky,-⟩:=dj;have ht:=jr he;obtain⟨i2,zv,Cc,Zl,S0,h0,Kp,hzl⟩:=uN (w:=w) (M:=M) (U:=U) hz;obtain rfl:i=i2:=by rw[hi]at Cc;exact QaL Cc
     have hA:=vR hF trivial A8 p1;obtain⟨vd,vx,hvs,hd,hx⟩:=hA.UN;obtain⟨cn,dC⟩:=Jo (P:=P) (w:=w) (a:=a) ho hc;have Qbq:c.args.map a.eval=#[vd,vx]:=by apply Qgf;simp [<-hvs]
     have QhX:c.argTypes=#[t,t]:=by apply Qgf;simp [QhW]
     rw[Qbq,QhX]at dC;have IH:∀v w',(Builtin.append_ #[t,t] o.type #[vd,vx]).run P w=.ok v w'->(execOp a.eval o).run P w=.ok (.value v) w':=λv w' hh=>by
      rw[dC];simp only[builtin,Sem.run_bind,hh];rfl
     obtain⟨news,G7,uY,hnl⟩:=PL (size:=i.size) hW fh ht hro p2 G6 (hx:LR w M U x vx) (λ_ _ _ _ _ _ _ _ _ _ _ _ _ h=>h)
     replace hid:=fh _ _ hid;have hO:=hW.fU id ob hid;have O5:R.length=len+new.length:=by rw[<-hR,Qay,hlen]
     obtain⟨QS,B6⟩:=td base (fa _) (by simp)
     have lN:id≠base:=λe=>by rw[e,B6]at hid;cases hid
     have Nn:∀(p:O (Nat×Nat)) (k:Nat),JL U base p k≠none->U k≠none\/(base<=k/\k<base+1):=λp k hk=>by
      rcases Qi9 hk with h|rfl
      ·exact .inl h
      ·exact .inr ⟨fa _,by omega⟩
     rcases(hd:vh w M U (.os id i.size 0 len) vd)with⟨b,C,Fj,rfl,hle⟩|⟨Fj,_,rfl,A,rfl⟩
     ·obtain⟨Vd,QP⟩:=hO.oc (.inl p9);rw[Fj]at QP;obtain⟨cur,g1,g2,g3,g4,g5,g6⟩:=QP;obtain⟨qU,q1,q2,q3⟩:=ZK (id:=id) (C:=C) p9 g1 g6;have Qp:∀(i:Nat) (c:List Lf),ob.rows[i]?=some c->c.length=ob.sz:=λi c hc=>(g6 i c hc).1
      rw[Qbx,Qgc]at IH;have hRr:∀(j:Nat) (c:List Lf),R[j]?=some c->c.length=i.size:=λj c hj=>by
       rw[<-hR]at hj;rcases sh j ob.rows.length with h|h
       ·rw[Qdz h]at hj;rw[<-jI];exact Qp j c hj
       ·rw[Qe3 h]at hj;exact hnl _ c hj
      by_cases Qdv:len+new.length<=C
      ·have Et:len*i.size+news.length<=cur.size:=by rw[G7.newsLen,g2,jI,<-Qb4];exact QdB _ Qdv
       have QR:=KS (P:=P) (ty:=o.type) ht hi G7 Qdv g1 Et;have hex:Ex w M U (w.setRow b (cur.toList.take (len*i.size)++news++cur.toList.drop (len*i.size+news.length)).toArray) M U:=by
        obtain⟨hm,_,_⟩:=hW.own id ob b C hid Fj;exact⟨λc hc=>setRow_other w b c _ λe=>hm (e▸hc),λ_ h=>h,λ_ _ h=>h⟩
       have QhV:cur.toList.take (len*i.size)=qU:=by
        apply Qga;intro k;rw[QdL];have vH:qU.length=len*i.size:=by rw[q3,hlen,jI]
        by_cases hk:k<len*i.size
        ·rw[if_pos hk];have:=q2 k _ (dr (show k<qU.length by omega))
         simp only[World.cell?,g1,Qbu]at this;rw[dr (show k<qU.length by omega)]
         simpa using this
        ·rw[if_neg hk,Qbp (by omega)]
       have hO2:OR (w.setRow b (cur.toList.take (len*i.size)++news++cur.toList.drop (len*i.size+news.length)).toArray) M U id ⟨false,i.size,ob.J0,R⟩:=by
        refine QaS (vs:=qU++news) (rest:=cur.toList.drop (len*i.size+news.length)) Fj ?_ h0 ?_ (by omega) g4 hRr ?_
        ·rw[QhV] ;exact setRow_heap w b cur _ ob.J0 (0,0) g1
        ·have h1:qU.length=len*i.size:=by rw[q3,hlen,jI]
         have h2:cur.size=C*i.size:=by rw[g2,jI]
         simp;omega
        ·rw[<-hR,QlE];exact(q1.append uY).mono λ_ _ h=>h.mono hex.ck hex.sub
       obtain⟨w1,w2⟩:=hW.write hid Fj g1 hO2;have hmv:=w1.move (id:=id) (iV:=base) (ob:=⟨false,i.size,ob.J0,R⟩) (p:=some (b,C)) (if_pos rfl) Fj QS (by rw[if_neg (Ne.symm lN)];exact B6)
       refine⟨_,_,IH _ _ QR,JL U base (some (b,C)),M,?_,?_,⟨w2.ck,w2.sub,uJ _ QS⟩,Nn _⟩
       ·exact .inl ⟨b,C,eF _ _ _,by rw[O5];simp,by omega⟩
       ·refine hmv.less λk AH hk=>?_
        rw[Tn]at hk;dsimp only at hk ⊢;by_cases h1:k=base
        ·rw[if_pos h1]at hk ⊢;exact hk
        ·rw[if_neg h1]at hk ⊢;by_cases h2:k=id
         ·rw[if_pos h2]at hk;cases hk
         ·rw[if_neg h2]at hk;rw[if_neg h2];simpa only[if_neg h2]using hk
      ·have hold:(Builtin.firstCells i.size len (.slice (some ⟨b,0,none⟩) len C)).run P w.drew=.ok qU.toArray w.drew:=
        run_firstCells_some w.drew i.size len ⟨b,0,none⟩ len C qU (by rw[q3,hlen,jI]) (λj v hj=>by rw[Addr.add_mid];exact q2 j v hj)
       obtain⟨C',w',QR,hb,QhP,QsR,hO2⟩:=O4 (id:=base) (rows:=R) (ty:=o.type) hW ht hi Zl S0 h0 hold G7 (by omega) (by omega) (by rw[<-O5];exact kY) (by rw[q3,hlen,jI]) O5 hRr (by rw[<-hR,QlE];exact q1.append uY) QS
       have hN:=hW.new (⟨false,i.size,ob.J0,R⟩:Ob) QS B6 hb (fa _) QhP hO2;refine⟨_,_,IH _ _ QR,JL U base (some (w.heap.size,C')),M,?_,?_,⟨λc hc=>hb.block c (hW.mlt c hc),λ_ h=>h,uJ _ QS⟩,Nn _⟩
       ·exact .inl ⟨w.heap.size,C',eF _ _ _,by rw[O5];simp,by omega⟩
       ·refine hN.less λk AH hk=>?_
        rw[Tn]at hk;dsimp only at hk ⊢;by_cases h1:k=base
        ·rw[if_pos h1]at hk ⊢;exact hk
        ·rw[if_neg h1]at hk ⊢;by_cases h2:k=id
         ·rw[if_pos h2]at hk;cases hk
         ·rw[if_neg h2]at hk;exact hk
     ·have zI:ob.rows=[]:=Qdx hlen;have QlC:∀(p:O (Nat×Nat)) (w':World),Wd G (JL U base p) M (λk=>if k=base then some ⟨false,i.size,ob.J0,R⟩else hD k) w'->Wd G (JL U base p) M (VL (PZ hD [(id,none)]) base [⟨false,i.size,ob.J0,R⟩]) w':=λp w' hN=>by
       refine hN.less λk AH hk=>?_
       rw[Tn]at hk;dsimp only at hk ⊢;by_cases h1:k=base
       ·rw[if_pos h1]at hk ⊢;exact hk
       ·rw[if_neg h1]at hk ⊢;by_cases h2:k=id
        ·rw[if_pos h2]at hk;cases hk
        ·rw[if_neg h2]at hk;exact hk
      by_cases B5:new.length=0
      ·have QpP:new=[]:=Qdx B5;have WQ:R=[]:=by rw[<-hR,zI,QpP];rfl
       rw[B5]at G7;have QR:=GQ (P:=P) (ty:=o.type) (A:=A) (n:=0) (c:=0) ht hi G7 (fa _);refine⟨_,_,IH _ _ QR,JL U base none,M,?_,QlC none w (hW.L2 (⟨false,i.size,ob.J0,R⟩:Ob) QS B6 WQ rfl h0),⟨λ_ _=>rfl,λ_ h=>h,uJ _ QS⟩,Nn none⟩
       exact .inr ⟨eF _ _ _,rfl,by rw[WQ];rfl,A,rfl⟩
      ·have hold:(Builtin.firstCells i.size 0 (.slice A 0 0)).run P w.drew=.ok ([]:List Value).toArray w.drew:=by cases A <;> simp [Builtin.firstCells,loadCells,loadCellsFrom]
       obtain⟨C',w',QR,hb,QhP,QsR,hO2⟩:=O4 (id:=base) (rows:=R) (ty:=o.type) hW ht hi Zl S0 h0 hold G7 (by omega) (by omega) (by rw[<-O5];exact kY) (by simp) O5 (λj c hj=>by rw[<-hR,zI]at hj;exact hnl j c (by simpa using hj)) (by rw[<-hR,zI];simpa using uY) QS
       refine⟨_,_,IH _ _ QR,JL U base (some (w.heap.size,C')),M,?_,QlC _ w' (hW.new (⟨false,i.size,ob.J0,R⟩:Ob) QS B6 hb (fa _) QhP hO2),⟨λc hc=>hb.block c (hW.mlt c hc),λ_ h=>h,uJ _ QS⟩,Nn _⟩
       exact .inl ⟨w.heap.size,C',eF _ _ _,by rw[O5];simp,by omega⟩
   ·cases hf
  ·cases hf
 ·cases hf
theorem XP{t ty e et:TypeId}{i:TypeInfo}{b len C k cap n:Nat}{A:O Addr}{cur:Array Value}{cs:List Value}(ht:P.underlying t=some (.slice e))(hi:P.info? e=some i)(hg:w.heap[b]?=some (.cells cur et (0,0)))(hn:Nat.min k len=n)
  (G7:(Builtin.firstCells i.size n (.slice A k cap)).run P w=.ok cs.toArray w) (Et:cs.length<=cur.size) (h1:∀u∈cs,u.oneCell'=true):
  (Builtin.copy_ #[t,t] ty #[.slice (some ⟨b,0,none⟩) len C,.slice A k cap]).run P w=.ok (goInt n) (w.setRow b (cs++cur.toList.drop cs.length).toArray):=by
 have ir:=run_storeCells_at P b 0 et cs 0 cur w hg (by simpa using Et) h1
 simp only[QhF,Qjp,Qlf,Qbu]at ir;simp [Builtin.copy_,run_underlying ht,Builtin.lenOf,sizeOf,typeInfo,hi,hn,G7,ir]
theorem Oj{t ty e:TypeId}{i:TypeInfo}{k cap:Nat}{A B:O Addr}(ht:P.underlying t=some (.slice e))(hi:P.info? e=some i):
  (Builtin.copy_ #[t,t] ty #[.slice B 0 0,.slice A k cap]).run P w=.ok (goInt 0) w:=by
 have hm:Nat.min k 0=0:=Nat.min_zero k;have hf:(Builtin.firstCells i.size 0 (.slice A k cap)).run P w=.ok #[] w:=by cases A <;> simp [Builtin.firstCells,loadCells,loadCellsFrom]
 cases B <;> simp [Builtin.copy_,run_underlying ht,Builtin.lenOf,sizeOf,typeInfo,hi,hm,hf,storeCells]
theorem Nd{α:Type}{sz:Nat}:∀{rows:List (List α)} (n:Nat),(∀c∈rows,c.length=sz)->(rows.take n).flatten=rows.flatten.take (n*sz)
 | [],n,_=>by simp
 |c ::r,0,_=>by simp
 |c ::r,n+1,h=>by
  have hc:=h c (by simp)
  rw[List.take_succ_cons,Qji,Qji,Nd n (λd hd=>h d (by simp [hd])),List.take_append,hc,Qb4,QfM,Qjg,QeR (show c.length<=n*sz+sz by omega)]
theorem Nc{α:Type}{sz:Nat}:∀{rows:List (List α)} (n:Nat),(∀c∈rows,c.length=sz)->(rows.drop n).flatten=rows.flatten.drop (n*sz)
 | [],n,_=>by simp
 |c ::r,0,_=>by simp
 |c ::r,n+1,h=>by
  have hc:=h c (by simp)
  rw[List.drop_succ_cons,Qji,Nc n (λd hd=>h d (by simp [hd])),List.drop_append,hc,Qb4,QfM,Qjg,List.drop_of_length_le (show c.length<=n*sz+sz by omega),Qlf]
theorem Tz{r:Mes}(hW:Wd G U M (hl H) w)(hF:∀t,AR w M U (look L t) (a.tmps.getD t undef))(hφ:∀id,H.length<=id->U id=none){c:Call}(ho:o.op=.call c)(hc:c.callee=.builtin .copy)(hf:mop P H (look L) o.op hs=some r)(dj:dF r.fU):
  ∃v w',(execOp a.eval o).run P w=.ok (.value v) w'/\Md G U M w r v w':=by
 rw[ho]at hf;simp only[mop,hc]at hf;split at hf
 ·rename_i id sz off len x o1 t t' R n fK A8 QhW;split at hf
  ·rename_i e ob jQ new o2 he hid hro;split at hf
   ·rename_i i hi;generalize xQ:(t == t'&&off == 0&&sz == i.size&&ob.sz == sz&&!ob.box&&(jQ == sz||new.isEmpty)&&!XS id x)=cc at hf;cases cc with
    |false=>cases hf
    |true =>
     cases hf;simp only[ma,Qbb,QeZ,QbD,QkA]at xQ;obtain⟨⟨⟨⟨⟨⟨rfl,rfl⟩,rfl⟩,jI⟩,p9⟩,G6⟩,Qty⟩:=xQ;simp only[bp,dF]at dj;obtain⟨⟨p1,p2⟩,hlen,Qm7,hR,-⟩:=dj;have ht:=jr he;have hA:=vR hF trivial A8 p1;obtain⟨vd,vx,hvs,hd,hx⟩:=hA.UN;obtain⟨cn,dC⟩:=Jo (P:=P) (w:=w) (a:=a) ho hc;have Qbq:c.args.map a.eval=#[vd,vx]:=by apply Qgf;simp [<-hvs]
     have QhX:c.argTypes=#[t,t]:=by apply Qgf;simp [QhW]
     rw[Qbq,QhX]at dC;have IH:∀v w',(Builtin.copy_ #[t,t] o.type #[vd,vx]).run P w=.ok v w'->(execOp a.eval o).run P w=.ok (.value v) w':=λv w' hh=>by
      rw[dC];simp only[builtin,Sem.run_bind,hh];rfl
     obtain⟨news,uY,hnl,A,cap,rfl,had⟩:=Qfz (size:=i.size) hW hro p2 G6 (hx:LR w M U x vx);have iq:=nC hid;have hO:=hW.fU id ob hid;have hO0:=hO;have Zk:AR w M U (one (.int .i64 n)) (goInt n):=IR.int _ _;rcases(hd:vh w M U (.os id i.size 0 len) vd)with⟨b,C,Fj,rfl,hle⟩|⟨Fj,_,rfl,B,rfl⟩
     ·obtain⟨Vd,QP⟩:=hO.oc (.inl p9);rw[Fj]at QP;obtain⟨cur,g1,g2,g3,g4,g5,g6⟩:=QP;obtain⟨qU,q1,q2,q3⟩:=ZK (id:=id) (C:=C) p9 g1 g6;have Qp:∀(i:Nat) (c:List Lf),ob.rows[i]?=some c->c.length=ob.sz:=λi c hc=>(g6 i c hc).1
      rw[Qbx,Qgc]at IH;have hnn:n<=new.length:=by omega
      have SW:n<=ob.rows.length:=by omega
      -- TJ cells Qk5 are copied
      have Qs2:=sA (mem_row hnl);have QpR:news.length=new.length*i.size:=by rw[<-uY.len,Qs2]
      have y4:(news.take (n*i.size)).length=n*i.size:=by
       rw[Qdo,QpR];exact Qh8 (QdB _ hnn)
      have Qnb:∀u∈news.take (n*i.size),u.oneCell'=true:=λu hu=>Rs.Pf (U:=U) (uY.mono λ_ _ h=>IR.lr h) u (Qi1 hu)
      have G7:(Builtin.firstCells i.size n (.slice A new.length cap)).run P w=.ok (news.take (n*i.size)).toArray w:=by
       by_cases B5:new=[]
       ·have SV:n=0:=by rw[B5]at hnn;simpa using hnn
        rw[SV,Qbx,Qjp];cases A <;> simp [Builtin.firstCells,loadCells,loadCellsFrom]
       ·obtain⟨ad,rfl,px⟩:=had B5;have:=run_loadCells_list (P:=P) (w:=w) ad (news.take (n*i.size)) (λj v hj=>by
         rw[QdL]at hj;split at hj
         ·exact px j v hj
         ·cases hj)
        rw[y4]at this;simpa [Builtin.firstCells]using this
      have Qsu:n*i.size<=cur.size:=by rw[g2,jI];exact QdB _ (by omega)
      have QR:=XP (P:=P) (ty:=o.type) (len:=len) (C:=C) ht hi g1 (show Nat.min new.length len=n by rw[<-hlen];exact Qm7) G7 (by rw[y4];exact Qsu) Qnb
      rw[y4]at QR;have hex:Ex w M U (w.setRow b (news.take (n*i.size)++cur.toList.drop (n*i.size)).toArray) M U:=by
       obtain⟨hm,_,_⟩:=hW.own id ob b C hid Fj;exact⟨λc hc=>setRow_other w b c _ λe=>hm (e▸hc),λ_ h=>h,λ_ _ h=>h⟩
      have QhV:cur.toList.take (len*i.size)=qU:=by
       apply Qga;intro k;rw[QdL];have vH:qU.length=len*i.size:=by rw[q3,hlen,jI]
       by_cases hk:k<len*i.size
       ·rw[if_pos hk];have:=q2 k _ (dr (show k<qU.length by omega))
        simp only[World.cell?,g1,Qbu]at this;rw[dr (show k<qU.length by omega)]
        simpa using this
       ·rw[if_neg hk,Qbp (by omega)]
      have O5:R.length=len:=by rw[<-hR,Qay,Qdo,Qk0];omega
      have hRr:∀(j:Nat) (c:List Lf),R[j]?=some c->c.length=ob.sz:=λj c hj=>by
       rw[<-hR]at hj;rcases sh j (new.take n).length with h|h
       ·rw[Qdz h,QdL]at hj;split at hj
        ·rw[jI];exact hnl j c hj
        ·cases hj
       ·rw[Qe3 h,Qf_]at hj;exact Qp _ c hj
      have hO2:OR (w.setRow b (news.take (n*i.size)++cur.toList.drop (n*i.size)).toArray) M U id {ob with rows:=R}:=by
       have key:({ob with rows:=R}:Ob)=⟨false,ob.sz,ob.J0,R⟩:=by rw[<-p9]
       have Va:cur.toList.drop (n*i.size)=qU.drop (n*i.size)++cur.toList.drop (len*i.size):=by
        rw[<-QhV,<-Qnm (by rw[Qdo];have h1:n*i.size<=len*i.size:=QdB _ (by omega);have h2:cur.toList.length=cur.size:=Qdy;omega),QmB]
       rw[key];refine QaS (vs:=news.take (n*i.size)++qU.drop (n*i.size)) (rest:=cur.toList.drop (len*i.size)) Fj ?_ Vd ?_ (by omega) g4 hRr ?_
       ·rw[Qds,<-Va];exact setRow_heap w b cur _ ob.J0 (0,0) g1
       ·rw[Qds,<-Va,Qay,y4,Qk0,Qdy,<-g2];omega
       ·rw[<-hR,QlE,Nd n (mem_row hnl),Nc n (mem_row Qp),jI];exact((uY.take _).append (q1.drop _)).mono λ_ _ h=>h.mono hex.ck hex.sub
      obtain⟨w1,w2⟩:=hW.write hid Fj g1 hO2;refine⟨_,_,IH _ _ QR,U,IR.int _ _,?_,w2,λk hk=>hφ k (by simpa using hk)⟩
      rw[WX iq];exact w1
     ·have zI:ob.rows=[]:=Qdx hlen;have B5:n=0:=by rw[zI]at Qm7;simpa using Qm7.symm
      subst B5;have WQ:R=[]:=by rw[<-hR,zI];simp
      have QR:=Oj (P:=P) (w:=w) (ty:=o.type) (k:=new.length) (cap:=cap) (A:=A) (B:=B) ht hi;refine⟨_,_,IH _ _ QR,U,IR.int _ _,?_,⟨λ_ _=>rfl,λ_ h=>h,λ_ _ h=>h⟩,λk hk=>hφ k (by simpa using hk)⟩
      have QhU:hl (H.set id (some {ob with rows:=R}))=hl H:=by
       rw[WX iq,WQ,<-zI]
       funext k
       by_cases hk:k=id
       ·rw[if_pos hk,hk,hid]
       ·rw[if_neg hk]
      rw[QhU];exact hW
   ·cases hf
  ·cases hf
 ·cases hf
end
end
section
open Go.RowKit
section
variable {P : Program} {G : bC} {U φ' : Pl} {M M' : Nat -> Prop} {h hD : Nat -> O Ob} {w w' : World} {a : Act} {hs : List Hint} {o : Oper} {L : Nat -> AV} {base : Nat} {r : Wr}
theorem L_:∀{ids:List Nat} {fU:List Ob},QdU h ids=some fU->fU.length=ids.length/\∀(j i:Nat),ids[j]?=some i->∃ob,fU[j]?=some ob/\h i=some ob
 | [],_,e=>by cases e;exact⟨rfl,λj i hj=>by simp at hj⟩
 |x ::ids,fU,e=>by
  simp only[QdU]at e;split at e
  ·rename_i ob os h1 h2;cases e;obtain⟨g1,g2⟩:=L_ h2;refine⟨by simp [g1],λj i hj=>?_⟩
   cases j with
   |zero=>simp at hj;subst hj;exact⟨ob,rfl,h1⟩
   |succ j=>exact g2 j i (by simpa using hj)
  ·cases e
theorem QdJ:∀{fU:List Ob},EO fU<=fU.length
 | []=>fa _
 |o ::r=>by
  simp only[EO];cases o.box
  ·simp
  ·have:=QdJ (fU:=r);simp only[QaF,QaA];omega
theorem QdK:∀{fU:List Ob} {j:Nat} {o:Ob},j<EO fU->fU[j]?=some o->o.box=true
 | [],j,_,h,_=>by simp [EO]at h
 |x ::r,j,o,h,e=>by
  simp only[EO]at h;cases hx:x.box with
  |false=>rw[hx]at h;simp at h
  |true =>
   rw[hx]at h;simp only[QaF]at h;cases j with
   |zero=>simp at e;subst e;exact hx
   |succ j=>exact QdK (fU:=r) (j:=j) (by omega) (by simpa using e)
theorem VJ{U:Pl}:∀{l:List Ob} {i:Nat} {p:Nat×Nat},p∈wT U i l->∃(j:Nat) (ob:Ob) (C:Nat),p.1=i+j/\l[j]?=some ob/\ob.box=true/\U (i+j)=some (some (p.2,C))
 | [],_,_,h=>by cases h
 |o ::r,i,p,h=>by
  simp only[wT,QaI]at h;rcases h with h|h
  ·split at h
   ·rename_i b C hb hφ;simp only[Qaz]at h;subst h;exact⟨0,o,C,rfl,rfl,hb,hφ⟩
   ·cases h
  ·obtain⟨j,ob,C,h1,h2,h3,h4⟩:=VJ h;exact⟨j+1,ob,C,by omega,by simpa using h2,h3,by rw[show i+(j+1)=i+1+j by omega];exact h4⟩
theorem ZN{U:Pl}:∀{l:List Ob} {i j:Nat} {ob:Ob} {b C:Nat},l[j]?=some ob->ob.box=true->U (i+j)=some (some (b,C))->(i+j,b)∈wT U i l
 | [],_,_,_,_,_,h,_,_=>by simp at h
 |o ::r,i,j,ob,b,C,h,hb,hφ=>by
  simp only[wT,QaI];cases j with
  |zero =>
   simp at h;subst h;left;rw[hb];rw[QhF]at hφ ⊢;rw[hφ];simp
  |succ j =>
   right;have:=ZN (l:=r) (i:=i+1) (j:=j) (by simpa using h) hb (by rw[show i+1+j=i+(j+1) by omega];exact hφ)
   rw[show i+1+j=i+(j+1) by omega]at this;exact this
theorem VE:∀{l:List Nat} {i j x:Nat},Dm l=true->l[i]?=some x->l[j]?=some x->i=j
 | [],_,_,_,_,h,_=>by simp at h
 |y ::l,i,j,x,hn,hi,hj=>by
  simp only[Dm,ma,QbD]at hn;have hy:∀k,l[k]?≠some y:=λk e=>by
   have h1:=hn.1;rw[<-QhA,List.contains_iff_mem]at h1;exact h1 (QaG e)
  cases i with
  |zero =>
   cases j with
   |zero=>rfl
   |succ j=>simp at hi hj;subst hi;exact absurd hj (hy j)
  |succ i =>
   cases j with
   |zero=>simp at hi hj;subst hj;exact absurd hi (hy i)
   |succ j=>exact QaB (·+1) (VE hn.2 (by simpa using hi) (by simpa using hj))
theorem WI{a b:List (Nat×O Ob)}{id:Nat}:tg (a++b) id=match tg a id with
  |some o=>some o
  |none=>tg b id:=by
 induction a with
 |nil=>rfl
 |cons x a ih =>
  obtain⟨u,o⟩:=x;simp only[Qhz,tg];cases(u == id)with
  |true=>rfl
  |false=>exact ih
theorem SF{id:Nat}:∀{ids:List Nat},tg (YF ids) id=if id∈ids then some none else none
 | []=>rfl
 |x ::ids=>by
  show(bif x == id then some none else tg (YF ids) id)=_;rw[SF];by_cases hx:x=id
  ·subst hx;simp
  ·have:(x == id)=false:=by simpa using hx
   rw[this];have DI:¬id=x:=λe=>hx e.symm
   simp [DI]
theorem U3{m:Nat->O Nat}{id:Nat}{o:O Ob}:∀{ids:List Nat} {fU:List Ob},tg (T3 m ids fU) id=some o->∃(j:Nat) (ob:Ob),ids[j]?=some id/\fU[j]?=some ob/\o=some (jA m ob)
 | [],_,h=>by cases h
 |_ ::_,[],h=>by cases h
 |x ::ids,y ::fU,h=>by
  simp only[T3,tg]at h;cases hx:(x == id)with
  |true =>
   rw[hx]at h;cases h;exact⟨0,y,by simpa using hx,rfl,rfl⟩
  |false =>
   rw[hx]at h;obtain⟨j,ob,h1,h2,h3⟩:=U3 (ids:=ids) (fU:=fU) h;exact⟨j+1,ob,by simpa using h1,by simpa using h2,h3⟩
theorem Iz{m:Nat->O Nat}{id:Nat}:∀{ids:List Nat} {fU:List Ob},ids.length<=fU.length->tg (T3 m ids fU) id=none->id ∉ ids
 | [],_,_,_=>by simp
 |_ ::_,[],h,_=>by simp at h
 |x ::ids,y ::fU,hl,h=>by
  simp only[T3,tg]at h;cases hx:(x == id)with
  |true=>rw[hx]at h;cases h
  |false =>
   rw[hx]at h;have:=Iz (ids:=ids) (fU:=fU) (by simpa using hl) h
   have DI:¬id=x:=λe=>by simp [e]at hx
   simp [DI,this]
theorem Qap{c:Call}(ho:o.op=.call c)(hf:Qef P h base L c hs=some r)(dj:dF r.fU)(hF:∀t,AR w M U (L t) (a.tmps.getD t undef))(hW:Wd G U M hD w)(fh:∀id ob,h id=some ob->hD id=some ob)
  (td:∀id,base<=id->id<base+r.news.length->U id=none/\hD id=none) {K:Act->World->Prop}
  (hK:∀v w',Wo G U M hD base w r v w'->K (a.put o.dst v) w'):o.wp P a w K NQ:=by
 unfold Qef at hf;split at hf
 ·rename_i f hcf;split at hf
  ·rename_i k gZ A2 o1 ids r0 out fK h1 h2;split at hf
   ·rename_i yG yH EK W0;cases hc:(Dm ids&&Nat.ble (EO yG) yH.length&&((yG.drop (EO yG)).all (λx=>!x.box)&&(yH.take (EO yG)).all (λx=>x.box)))with
    |false=>rw[hc]at hf;cases hf
    |true =>
     rw[hc]at hf;cases hf;simp only[ma,Qgg]at hc;obtain⟨⟨hnd,hnb⟩,-,-⟩:=hc;have LL:=Lw W0;subst LL;obtain⟨O8,yx⟩:=L_ EK;have QwI:=QdJ (fU:=yG);generalize QsZ:EO yG=nb at *;simp only[bp,dF]at dj;have yu:AR w M U (y6 L f) (a.eval f):=H9 hF f;rw[h1]at yu;obtain⟨qI,hcv,k8⟩:LR w M U (.fn (.func k) gZ) (a.eval f):=yu;have U_:Rs (CR w M U) (gZ.map Cm.one) qI:=by
      refine Rs.Av (k8.imp_mem λx hx y h=>?_)
      exact vh.lr h
     have QmJ:Rs (CR w M U) (A2++gZ.map Cm.one) (c.args.toList.map a.eval++qI):=(vR hF trivial h2 dj.1).append U_
     -- Qle TJ callee is handed
     let φc:Pl:=λj=>match ids[j]? with
      |some i=>U i
      |none=>none
     have hφc:∀j i,ids[j]?=some i->φc j=U i:=λj i hj=>by simp only[φc,hj]
     have QtC:∀j,ids.length<=j->φc j=none:=λj hj=>by simp only[φc,Qbp hj]
     have QhQ:∀j ob,(yG.map (jA (posOf ids 0)))[j]?=some ob->∃i Qz,ids[j]?=some i/\yG[j]?=some Qz/\ob=jA (posOf ids 0) Qz/\hD i=some Qz:=λj ob hj=>by
      rw[Qc0]at hj;cases ho0:yG[j]? with
      |none=>rw[ho0]at hj;cases hj
      |some Qz =>
       rw[ho0]at hj;cases hj;have iq:j<ids.length:=by rw[<-O8];exact(pB.1 ho0).1
       obtain⟨TZ,g1,g2⟩:=yx j ids[j] (dr iq);rw[ho0]at g1;cases g1;exact⟨ids[j],Qz,dr iq,ho0,rfl,fh _ _ g2⟩
     have hmc:∀id k p,posOf ids 0 id=some k->U id=some p->φc k=some p:=λid k p hk hp=>by
      obtain⟨-,g⟩:=Ma hk;rw[Qgc]at g;rw[hφc k id g];exact hp
     have QlB:(yG.map (jA (posOf ids 0))).length=ids.length:=by rw[Qbn,O8]
     have Qdt:∀b,(∃id C,id<(yG.map (jA (posOf ids 0))).length/\φc id=some (some (b,C)))->∃i ob C,i∈ids/\hD i=some ob/\U i=some (some (b,C)):=λb ⟨j,C,hj,hφj⟩=>by
      have Nl:j<ids.length:=by rw[<-QlB];exact hj
      obtain⟨TZ,g1,g2⟩:=yx j ids[j] (dr Nl);rw[hφc j _ (dr Nl)]at hφj;exact⟨ids[j],TZ,C,QaH Nl,fh _ _ g2,hφj⟩
     have hWc:Wd ⟨w,λb=>∃id C,id<(yG.map (jA (posOf ids 0))).length/\φc id=some (some (b,C)),M,wT φc 0 (yG.map (jA (posOf ids 0)))⟩ φc M (λid=>(yG.map (jA (posOf ids 0)))[id]?) w:=by
      refine⟨λj ob e=>?_,λi j oi oj b Ci Cj ei ej pi pj=>?_,hW.mlt,λ_ h=>h,λ_ h=>.inl h,λj ob b C e p=>?_,λ_ _ _=>rfl,rfl,rfl,rfl,fa _,λp hp=>?_,λb cs ht=>⟨(hW.tab b cs ht).1,λho=>by obtain⟨i,ob,C,_,g2,g3⟩:=Qdt b ho;exact(hW.own i ob b C g2 g3).1 (hW.tab b cs ht).1,(hW.tab b cs ht).2⟩⟩
      ·obtain⟨i,Qz,g1,g2,rfl,g4⟩:=QhQ j ob e;exact Jl hmc (hφc j i g1) (hW.fU i Qz g4)
      ·obtain⟨ii,oi0,g1,-,-,g4⟩:=QhQ i oi ei;obtain⟨jj,oj0,k1,-,-,k4⟩:=QhQ j oj ej;rw[hφc i ii g1]at pi;rw[hφc j jj k1]at pj;have:=hW.inj ii jj oi0 oj0 b Ci Cj g4 k4 pi pj;subst this;exact VE hnd g1 k1
      ·obtain⟨i,Qz,g1,g2,-,g4⟩:=QhQ j ob e;have p':=p;rw[hφc j i g1]at p;obtain⟨q1,q2,q3⟩:=hW.own i Qz b C g4 p;exact⟨q1,q2,.inl ⟨j,C,(pB.1 e).1,p'⟩⟩
      ·obtain⟨j,ob,C,e1,e2,e3,e4⟩:=VJ hp;rw[Qbu]at e1 e4;obtain⟨i,Qz,g1,g2,rfl,g4⟩:=QhQ j ob e2;rw[e1,e4];obtain⟨b1,q1⟩:=(Jl hmc (hφc j i g1) (hW.fU i Qz g4)).boxed e3;rw[e4]at q1;cases q1;rfl
     have A8:Rs (CR w M φc) ((A2++gZ.map Cm.one).map (Qch (posOf ids 0))) (c.args.toList.map a.eval++qI):=Rs.Av (QmJ.mono λ_ _ h=>N_ hmc h)
     unfold Oper.wp;rw[Oh ho hcf hcv dj.2.1.1];show Calls P k _ w _;refine(dj.2.1.2 w φc M _ hWc (λid hid=>QtC id (by rw[<-QlB];exact hid)) A8).mono ?_
     rintro e w' ⟨v,φ',M',rfl,hr,sB,wy⟩;rw[Qbn]at wy;have hhl:∀i,hl (yH.map some) i=yH[i]?:=λi=>by unfold hl;rw[Qc0];cases yH[i]? <;> rfl
     refine hK v w' ?_
     have hnw:((yH.drop nb).map (jA (vM ids nb base))).length=yH.length-nb:=by simp
     simp only[hnw]at td
     -- where TJ boxes lie
     have p9:∀j i,j<nb->ids[j]?=some i->∃b,U i=some (some (b,1))/\φ' j=some (some (b,1)):=λj i hj hi=>by
      obtain⟨Qz,g1,g2⟩:=yx j i hi;have RM:Qz.box=true:=QdK (by rw[QsZ];exact hj) g1
      obtain⟨b,Fj⟩:=(hW.fU i Qz (fh _ _ g2)).boxed RM;refine⟨b,Fj,?_⟩;have hm0:(yG.map (jA (posOf ids 0)))[j]?=some (jA (posOf ids 0) Qz):=by rw[Qc0,g1];rfl
      have:=sB.HA (0+j,b) (ZN (C:=1) hm0 (by rw[VR];exact RM) (by rw[Qbu,hφc j i hi,Fj]))
      rw[Qbu]at this;exact this
     let φ2:Pl:=λi=>if base<=i/\i<base+(yH.length-nb)then φ' (nb+(i-base))else U i
     have qc:∀i,base<=i->i<base+(yH.length-nb)->φ2 i=φ' (nb+(i-base)):=λi h1 h2=>if_pos ⟨h1,h2⟩
     have Qo:∀i,¬(base<=i/\i<base+(yH.length-nb))->φ2 i=U i:=λi h=>if_neg h
     have Dc:∀i p,U i=some p->φ2 i=some p:=λi p h=>by
      by_cases hi:base<=i/\i<base+(yH.length-nb)
      ·rw[(td i hi.1 hi.2).1]at h;cases h
      ·rw[Qo i hi];exact h
     have Zg:∀id k p,vM ids nb base id=some k->φ' id=some p->φ2 k=some p:=λid k p hk hp=>by
      unfold vM at hk;cases iq:Nat.blt id nb with
      |true =>
       rw[iq]at hk;have QhP:id<nb:=Qd9 iq;obtain⟨b,g1,g2⟩:=p9 id k QhP hk;rw[g2]at hp;cases hp;exact Dc _ _ g1
      |false =>
       rw[iq]at hk;cases hk;have RO:¬id<nb:=λh=>by
        have:Nat.blt id nb=true:=Qj2 h;rw[iq]at this;cases this
       have hid:id<yH.length:=by
        rcases sh id yH.length with h|h
        ·exact h
        ·rw[wy id h]at hp;cases hp
       rw[qc _ (by omega) (by omega),show nb+(base+(id-nb)-base)=id by omega];exact hp
     -- blocks Qk5 TJ callee was not handed
     have QhM:∀b,b<w.heap.size->(∀i ob C,i∈ids->hD i=some ob->U i≠some (some (b,C)))->w'.heap[b]?=w.heap[b]?:=λb hb hn=>sB.AO b hb λh=>by
      obtain⟨i,ob,C,g1,g2,g3⟩:=Qdt b h;exact hn i ob C g1 g2 g3
     have hMk:∀b,M b->w'.heap[b]?=w.heap[b]?:=λb hb=>QhM b (hW.mlt b hb) λi ob C g1 g2 g3=>(hW.own i ob b C g2 g3).1 hb
     have hex:Ex w M U w' M' φ2:=⟨hMk,sB.m0,Dc⟩;have jI:w.heap.size<=w'.heap.size:=sB.size;have uX:∀b,M' b->M b\/(∃i ob C,i∈ids/\hD i=some ob/\U i=some (some (b,C)))\/w.heap.size<=b:=λb hb=>by
      rcases sB.LW b hb with h|h|h
      ·exact .inl h
      ·exact .inr (.inl (Qdt b h))
      ·exact .inr (.inr h)
     have QhS:∀jj ob b C,yH[jj]?=some ob->φ' jj=some (some (b,C))->¬M' b/\b<w'.heap.size/\((∃i ob C,i∈ids/\hD i=some ob/\U i=some (some (b,C)))\/w.heap.size<=b):=λjj ob b C e p=>by
      obtain⟨g1,g2,g3⟩:=sB.own jj ob b C ((hhl jj).trans e) p;refine⟨g1,g2,?_⟩;rcases g3 with h|h
      ·exact .inl (Qdt b h)
      ·exact .inr h
     -- TJ objects Qk5 are there
     have QsU:(ids.take nb).length<=(yH.take nb).length:=by simp;omega
     have key:∀i ob,VL (PZ hD (T3 (vM ids nb base) (ids.take nb) (yH.take nb)++YF (ids.drop nb))) base ((yH.drop nb).map (jA (vM ids nb base))) i=some ob->
       (∃jj TZ,yH[jj]?=some TZ/\ob=jA (vM ids nb base) TZ/\φ2 i=φ' jj/\(∀i',vM ids nb base jj=some i'->i'=i)/\(vM ids nb base jj=some i))\/(¬(base<=i/\i<base+(yH.length-nb))/\i ∉ ids/\hD i=some ob):=λi ob e=>by
      unfold VL at e;rw[hnw]at e;by_cases hi:base<=i/\i<base+(yH.length-nb)
      ·rw[if_pos hi,Qc0,Qf_]at e;cases h3:yH[nb+(i-base)]? with
       |none=>rw[h3]at e;cases e
       |some TZ =>
        rw[h3]at e;cases e;have hid:vM ids nb base (nb+(i-base))=some i:=by
         unfold vM;have:Nat.blt (nb+(i-base)) nb=false:=by rw[<-QhA];intro h;have:=Qd9 h;omega
         rw[this];simp only[Qdn];congr 1;omega
        exact .inl ⟨nb+(i-base),TZ,h3,rfl,qc i hi.1 hi.2,λi' h=>by rw[hid]at h;exact(QaL h).symm,hid⟩
      ·rw[if_neg hi]at e;unfold PZ at e;rw[WI]at e;cases h3:tg (T3 (vM ids nb base) (ids.take nb) (yH.take nb)) i with
       |some ov =>
        rw[h3]at e;simp only at e;obtain⟨j,TZ,g1,g2,g3⟩:=U3 h3;rw[e]at g3;cases g3;rw[QdL]at g1 g2;have hj:j<nb:=by
         rcases sh j nb with h|h
         ·exact h
         ·rw[if_neg (by omega)]at g1;cases g1
        rw[if_pos hj]at g1 g2;obtain⟨b,q1,q2⟩:=p9 j i hj g1;have hid:vM ids nb base j=some i:=by
         unfold vM;have:Nat.blt j nb=true:=Qj2 hj;rw[this];exact g1
        exact .inl ⟨j,TZ,g2,rfl,by rw[Qo i hi,q1,q2],λi' h=>by rw[hid]at h;exact(QaL h).symm,hid⟩
       |none =>
        rw[h3]at e;simp only[SF]at e;have n1:=Iz QsU h3;by_cases hd:i∈ids.drop nb
        ·rw[if_pos hd]at e;cases e
        ·rw[if_neg hd]at e;refine .inr ⟨hi,λhm=>?_,e⟩
         rw[<-QmB nb ids,QaI]at hm;rcases hm with h|h
         ·exact n1 h
         ·exact hd h
     have hold:∀i ob b C,i ∉ ids->hD i=some ob->U i=some (some (b,C))->w'.heap[b]?=w.heap[b]?:=λi ob b C hi e p=>QhM b (hW.own i ob b C e p).2.1 λi2 ob2 C2 g1 g2 g3=>hi (by rw[hW.inj i i2 ob ob2 b C C2 e g2 p g3];exact g1)
     refine⟨φ2,M',N9 Zg hr,?_,hex,λi hi=>?_⟩
     ·refine⟨λi ob e=>?_,λi j oi oj b Ci Cj ei ej pi pj=>?_,sB.mlt,λb hb=>sB.m0 b (hW.m0 b hb),λb hb=>?_,λi ob b C e p=>?_,λb hb hn=>?_,sB.os.trans hW.os,sB.tape.trans hW.tape,sB.output.trans hW.output,QaE hW.size jI,λp hp=>Dc _ _ (hW.HA p hp),hW.zP⟩
      ·rcases key i ob e with⟨jj,TZ,g1,rfl,g3,-,-⟩|⟨g1,g2,g3⟩
       ·exact Jl Zg g3 (sB.fU jj TZ ((hhl jj).trans g1))
       ·exact(hW.fU i ob g3).mono hex λb C p=>hold i ob b C g2 g3 p
      ·rcases key i oi ei with⟨ii,oi1,g1,-,g3,g4,g5⟩|⟨g1,g2,g3⟩ <;> rcases key j oj ej with⟨jj,oj1,k1,-,k3,k4,k5⟩|⟨k1,k2,k3⟩
       ·rw[g3]at pi;rw[k3]at pj;have:=sB.inj ii jj oi1 oj1 b Ci Cj ((hhl ii).trans g1) ((hhl jj).trans k1) pi pj;subst this;exact k4 i g5
       ·exfalso;rw[g3]at pi;rw[Qo j k1]at pj;have iq:=(hW.own j oj b Cj k3 pj).2.1;rcases(QhS ii oi1 b Ci g1 pi).2.2 with⟨i2,ob2,C2,q1,q2,q3⟩|h
        ·exact k2 (by rw[hW.inj j i2 oj ob2 b Cj C2 k3 q2 pj q3];exact q1)
        ·omega
       ·exfalso;rw[k3]at pj;rw[Qo i g1]at pi;have iq:=(hW.own i oi b Ci g3 pi).2.1;rcases(QhS jj oj1 b Cj k1 pj).2.2 with⟨i2,ob2,C2,q1,q2,q3⟩|h
        ·exact g2 (by rw[hW.inj i i2 oi ob2 b Ci C2 g3 q2 pi q3];exact q1)
        ·omega
       ·rw[Qo i g1]at pi;rw[Qo j k1]at pj;exact hW.inj i j oi oj b Ci Cj g3 k3 pi pj
      ·rcases uX b hb with h|⟨i,ob,C,g1,g2,g3⟩|h
       ·exact hW.LW b h
       ·exact .inr (hW.own i ob b C g2 g3).2.2
       ·exact .inr (.inr (QaE hW.size h))
      ·rcases key i ob e with⟨jj,TZ,g1,-,g3,-,-⟩|⟨g1,g2,g3⟩
       ·rw[g3]at p;obtain⟨q1,q2,q3⟩:=QhS jj TZ b C g1 p;refine⟨q1,q2,?_⟩;rcases q3 with⟨i2,ob2,C2,s1,s2,s3⟩|h
        ·exact(hW.own i2 ob2 b C2 s2 s3).2.2
        ·exact .inr (QaE hW.size h)
       ·rw[Qo i g1]at p;obtain⟨q1,q2,q3⟩:=hW.own i ob b C g3 p;refine⟨λhb=>?_,Qby q2 jI,q3⟩
        rcases uX b hb with h|⟨i2,ob2,C2,s1,s2,s3⟩|h
        ·exact q1 h
        ·exact g2 (by rw[hW.inj i i2 ob ob2 b C C2 g3 s2 p s3];exact s1)
        ·omega
      ·refine(QhM b (Qby hb hW.size) λi ob C g1 g2 g3=>?_).trans (hW.AO b hb hn)
       rcases(hW.own i ob b C g2 g3).2.2 with h|h
       ·exact hn h
       ·omega
     ·by_cases h:base<=i/\i<base+(yH.length-nb)
      ·right;rw[hnw];exact h
      ·rw[Qo i h]at hi;exact .inl hi
   ·cases hf
  ·cases hf
 ·cases hf
theorem CG{id:Nat}{ob:O Ob}:PZ hD [(id,ob)]=λi=>if i=id then ob else hD i:=by
 funext i
 unfold PZ;simp only[tg];by_cases h2:i=id
 ·subst h2;simp
 ·have:(id == i)=false:=by simpa using λe:id=i=>h2 e.symm
  rw[if_neg h2,this];rfl
theorem Wd.QqR{h:Nat->O Ob}{w':World}(hW:Wd G U M h w){id:Nat}{ob AH:Ob}{b C:Nat}(hh:h id=some ob)(hφ:U id=some (some (b,C)))(LK:∀k,k<w.heap.size->k≠b->w'.heap[k]?=w.heap[k]?)(jI:w.heap.size<=w'.heap.size)
  (hos:w'.os=w.os) (htp:w'.tape=w.tape) (LL:w'.output=w.output) (hO:OR w' M U id AH):Wd G U M (λi=>if i=id then some AH else h i) w':=by
 obtain⟨hm,iq,O9⟩:=hW.own id ob b C hh hφ;have he:Ex w M U w' M U:=⟨λc hc=>LK c (hW.mlt c hc) λe=>hm (e▸hc),λ_ h=>h,λ_ _ h=>h⟩
 have SZ:∀i o,(λi=>if i=id then some AH else h i) i=some o->∃o',h i=some o':=λi o e=>by
  by_cases hi:i=id
  ·subst hi;exact⟨ob,hh⟩
  ·simp only[if_neg hi]at e;exact⟨o,e⟩
 refine⟨λi o e=>?_,λi j oi oj c Ci Cj hi hj pi pj=>?_,λc hc=>Qby (hW.mlt c hc) jI,hW.m0,hW.LW,λi o c C' e p=>?_,λc hc hn=>?_,hos.trans hW.os,htp.trans hW.tape,LL.trans hW.output,QaE hW.size jI,hW.HA,hW.zP⟩
 ·by_cases hi:i=id
  ·subst hi;simp only[if_true]at e;cases e;exact hO
  ·simp only[if_neg hi]at e;exact(hW.fU i o e).mono he λc C' hp=>LK c (hW.own i o c C' e hp).2.1 λhc=>hi (hW.inj i id o ob b C' C e hh (hc▸hp) hφ)
 ·obtain⟨oi',SU⟩:=SZ i oi hi;obtain⟨oj',Nl⟩:=SZ j oj hj;exact hW.inj i j oi' oj' c Ci Cj SU Nl pi pj
 ·obtain⟨o',ho'⟩:=SZ i o e;obtain⟨q1,q2,q3⟩:=hW.own i o' c C' ho' p;exact⟨q1,Qby q2 jI,q3⟩
 ·rw[LK c (Qby hc hW.size) λe=>?_]
  ·exact hW.AO c hc hn
  ·subst e;rcases O9 with h1|h1
   ·exact hn h1
   ·omega
theorem Qaq{c:Call}(ho:o.op=.call c)(hf:Qeg P h L c hs=some r)(dj:dF r.fU)(hF:∀t,AR w M U (L t) (a.tmps.getD t undef))(hW:Wd G U M hD w)(fh:∀id ob,h id=some ob->hD id=some ob){K:Act->World->Prop}
  (hK:∀v w',Wo G U M hD base w r v w'->K (a.put o.dst v) w'):o.wp P a w K NQ:=by
 unfold Qeg at hf;split at hf
 ·rename_i f hcf;split at hf
  ·rename_i k id sz off len rest o1 R fK h1 h2;split at hf
   ·rename_i ob hid;cases hc:(off == 0&&!ob.box&&ob.sz == sz&&rest.all Ng)with
    |false=>rw[hc]at hf;cases hf
    |true =>
     rw[hc]at hf;cases hf;simp only[ma,Qbb,QbD]at hc;obtain⟨⟨⟨rfl,p9⟩,jI⟩,SR⟩:=hc;simp only[bp,dF]at dj;obtain⟨Qm_,hlen,⟨y5,O5,y9,sK⟩,-⟩:=dj;have yu:AR w M U (y6 L f) (a.eval f):=H9 hF f;rw[h1]at yu;obtain⟨qI,hcv,k8⟩:LR w M U (.fn (.func k) []) (a.eval f):=yu;have Qsv:qI=[]:=by cases qI with
      |nil=>rfl
      |cons _ _=>exact k8.elim
     subst Qsv;have A8:=vR hF trivial h2 Qm_;generalize hvE:c.args.toList.map a.eval=vs at A8;cases vs with
     |nil=>exact A8.elim
     |cons v0 vr =>
      obtain⟨hv0,hvr⟩:=A8;have Qqb:Rs (CR w M (λ_=>none)) rest vr:=hvr.imp_mem λx hx y hy=>CR.free (Qc8.1 SR x hx) hy
      have Qtv:vh w M U (.os id sz 0 len) v0:=hv0;have hO:=hW.fU id ob (fh id ob hid);unfold Oper.wp;rw[Oh ho hcf hcv y5,hvE,Qf1];show Calls P k _ w _;rcases Qtv with⟨b,C,hφ,rfl,hle⟩|⟨hφ,-,O8,A,rfl⟩
      ·obtain⟨h0,QP⟩:=hO.oc (.inl p9);rw[hφ]at QP;obtain⟨cur,g1,g2,g3,g4,g5,g6⟩:=QP;obtain⟨q1,q2,q3⟩:=hW.own id ob b C (fh id ob hid) hφ;rw[Qbx,Qgc,<-hlen];refine(sK w M b C cur vr hW.mlt q1 q2 hW.tab g1 g2 g3 g4 (λi c hc=>⟨(g6 i c hc).1,λj l hj=>by
        obtain⟨v,hv,hr⟩:=(g6 i c hc).2 j l hj;rw[if_neg (by simp [p9])]at hr
        exact⟨v,hv,hr⟩⟩) Qqb).mono ?_
       rintro e w' ⟨rfl,e1,e2,e3,e4,e6,Km,e7,e8,e9⟩;refine hK _ w' ?_
       have hex:Ex w M U w' M U:=⟨λc hc=>e6 c (hW.mlt c hc) λe=>q1 (e▸hc),λ_ h=>h,λ_ _ h=>h⟩
       refine⟨U,M,.inl ⟨b,C,hφ,by simp,by show 0+R.length<=C;omega⟩,?_,hex,λ_ h=>.inl h⟩
       rw[ua,CG];refine hW.QqR (fh id ob hid) hφ e6 e4 e1 e2 e3 (.inl ⟨h0,?_⟩);rw[hφ];refine⟨Km,e7,e8,by show R.length<=C;omega,g4,g5,λi c hc=>⟨(e9 i c hc).1,λj l hj=>?_⟩⟩
       obtain⟨v,hv,hr⟩:=(e9 i c hc).2 j l hj;refine⟨v,hv,?_⟩;rw[if_neg (by simp [p9])]
       exact hr.mono hex.ck hex.sub
      ·obtain⟨h0,QP⟩:=hO.oc (.inl p9);rw[hφ]at QP;refine(y9 w M A vr QP.1 hW.mlt hW.tab Qqb).mono ?_
       rintro e w' ⟨⟨A',rfl⟩,hb⟩;refine hK _ w' ?_
       have hR:R=ob.rows:=by
        rw[QP.1]at O5 ⊢;exact Qdx (by simpa using O5)
       have WQ:R.length=0:=by rw[hR,QP.1];rfl
       refine⟨U,M,.inr ⟨hφ,rfl,WQ,A',rfl⟩,?_,hW.RD hb,λ_ h=>.inl h⟩
       rw[ua,CG];have:(λi=>if i=id then some {ob with rows:=R}else hD i)=hD:=by
        funext i
        by_cases hi:i=id
        ·subst hi;rw[if_pos rfl,fh i ob hid,hR]
        ·rw[if_neg hi]
       rw[this];exact hW.grow hb
   ·cases hf
  ·cases hf
 ·cases hf
theorem X8{t:TypeId}{x y:Operand}(hop:o.op=.store t x y)(hf:X7 P h L t x y hs=some r)(dj:dF r.fU)(hF:∀t,AR w M U (L t) (a.tmps.getD t undef))(hW:Wd G U M hD w)(fh:∀id ob,h id=some ob->hD id=some ob):
  ∃w',(execOp a.eval o).run P w=.ok .skip w'/\Wo G U M hD base w r undef w':=by
 unfold X7 at hf
 ·split at hf
  ·rename_i id sz row off o1 c o2 n h1 h2 ht;split at hf
   ·rename_i ob hid;split at hf
    ·rename_i cells p9 jJ;cases hc:(ob.sz == sz&&n == c.cells.length&&(row == 0&&Nat.ble (off+n) cells.length))with
     |false=>rw[hc]at hf;cases hf
     |true =>
      rw[hc]at hf;cases hf;simp only[ma,Qbb,Qgg]at hc;obtain⟨⟨jI,hn⟩,rfl,Et⟩:=hc;rw[bp]at dj;have hO:=hW.fU id ob (fh id ob hid);obtain⟨b,C,Fj,hv⟩:vh w M U (.op id sz 0 off) (a.eval x):=cg hF h1 dj.1 trivial;have hy:=(cg hF h2 dj.2 trivial).cells;obtain⟨h0,QP⟩:=hO.oc (.inr ⟨_,jJ⟩);rw[Fj]at QP;obtain⟨cur,g1,g2,g3,g4,g5,g6⟩:=QP;obtain⟨hm,Qpp,O9⟩:=hW.own id ob b C (fh id ob hid) Fj;have Qbv:(a.eval y).cells.size=n:=by rw[<-Qdy,<-hy.len,hn]
      have hex:∀new,Ex w M U (w.setRow b new) M U:=λnew=>⟨λc hc=>setRow_other w b c new λe=>hm (e▸hc),λ_ h=>h,λ_ _ h=>h⟩
      have y4:cells.length=ob.sz:=(g6 0 cells (by rw[jJ];rfl)).1
      have hC:1<=C:=by rw[jJ]at g3;simpa using g3
      have hle:ob.sz<=cur.size:=by rw[g2];exact Nat.le_mul_of_pos_left _ hC
      have yz:=hy.len;have Qsq:cur.toList.length=cur.size:=Qdy;have dC:=yP (P:=P) (p:=0*sz+off) ht Qbv g1 (by rw[Qbx];omega) (Rs.Pf hy)
      refine⟨w.setRow b (cur.toList.take (0*sz+off)++(a.eval y).cells.toList++cur.toList.drop (0*sz+off+(a.eval y).cells.toList.length)).toArray,by simp only[execOp,hop,hv,Instr.storeAt,Instr.sureAddr,Sem.run_bind,Sem.run_pure,Result.andThen_ok,dC],?_⟩
      suffices hs:Wd G U M (λi=>if i=id then some {ob with rows:=[cells.take off++c.cells++cells.drop (off+n)]}else hD i) (w.setRow b (cur.toList.take (0*sz+off)++(a.eval y).cells.toList++cur.toList.drop (0*sz+off+(a.eval y).cells.toList.length)).toArray)/\Ex w M U (w.setRow b (cur.toList.take (0*sz+off)++(a.eval y).cells.toList++cur.toList.drop (0*sz+off+(a.eval y).cells.toList.length)).toArray) M U by
       exact⟨U,M,trivial,by rw[ua,CG];exact hs.1,hs.2,λ_ h=>.inl h⟩
      refine hW.write (AH:={ob with rows:=[cells.take off++c.cells++cells.drop (off+n)]}) (fh id ob hid) Fj g1 (.inl ⟨h0,?_⟩);rw[Fj];refine⟨_,setRow_heap w b cur _ ob.J0 (0,0) g1,?_,by simpa using hC,g4,g5,λi d hd=>?_⟩
      ·rw[<-g2];simp;omega
      ·cases i with
       |succ i=>simp at hd
       |zero =>
        obtain rfl:=QaL (show some _=some d from hd);refine⟨by simp;omega,λj l hj=>?_⟩
        have h3:=qY (l:=cells) (vs:=c.cells) (p:=off) (by omega) j
        rw[hn]at hj;rw[h3]at hj;rw[Qju,Qbx,Qbu,Qbx,Qbu,qY (by omega)]
        have Pp:∀l,cells[j]?=some l->∃v,cur.toList[j]?=some v/\(if ob.box=true then LR (w.setRow b (cur.toList.take off++(a.eval y).cells.toList++cur.toList.drop (off+(a.eval y).cells.toList.length)).toArray) M U l v else IR (w.setRow b (cur.toList.take off++(a.eval y).cells.toList++cur.toList.drop (off+(a.eval y).cells.toList.length)).toArray) M l v):=λl hl=>by
         obtain⟨v,hv,hr⟩:=(g6 0 cells (by rw[jJ];rfl)).2 j l hl
         rw[Qbx,Qbu]at hv;rw[if_pos p9]at hr;exact⟨v,by simpa using hv,by rw[if_pos p9];exact hr.mono (hex _)⟩
        by_cases j1:j<off
        ·rw[if_pos j1]at hj ⊢;exact Pp l hj
        ·rw[if_neg j1]at hj ⊢;by_cases j2:j<off+c.cells.length
         ·rw[if_pos j2]at hj;rw[if_pos (by omega)]
          obtain⟨v,hv,hr⟩:=hy.get hj;exact⟨v,hv,by rw[if_pos p9];exact hr.mono (hex _)⟩
         ·rw[if_neg j2]at hj;rw[if_neg (by omega)]
          exact Pp l hj
    ·cases hf
   ·cases hf
  ·cases hf
theorem UD{t:TypeId}{x y:Operand}(hop:o.op=.store t x y)(hf:R8 P h L t x y hs=some r)(dj:dF r.fU)(hF:∀t,AR w M U (L t) (a.tmps.getD t undef))(hW:Wd G U M hD w)(fh:∀id ob,h id=some ob->hD id=some ob):
  ∃w',(execOp a.eval o).run P w=.ok .skip w'/\Wo G U M hD base w r undef w':=by
 unfold R8 at hf;split at hf
 ·rename_i id sz row off o1 c o2 n Pp R fK h1 h2 ht;split at hf
  ·rename_i ob hid;cases hc:(!ob.box&&(ob.sz == sz&&n == c.cells.length)&&(Nat.ble (off+n) Pp.length&&c.cells.all O_))with
   |false=>rw[hc]at hf;cases hf
   |true =>
    rw[hc]at hf;cases hf;simp only[ma,Qbb,Qgg,QbD]at hc;obtain⟨⟨p9,jI,hn⟩,Et,QbA⟩:=hc;simp only[bp,dF]at dj;obtain⟨⟨p1,p2⟩,sK,hR,-⟩:=dj;have hO:=hW.fU id ob (fh id ob hid);obtain⟨b,C,Fj,hv⟩:vh w M U (.op id sz row off) (a.eval x):=cg hF h1 p1 trivial;have hy:=(cg hF h2 p2 trivial).cells;obtain⟨h0,QP⟩:=hO.oc (.inl p9);rw[Fj]at QP;obtain⟨cur,g1,g2,g3,g4,g5,g6⟩:=QP;obtain⟨hm,Qpp,O9⟩:=hW.own id ob b C (fh id ob hid) Fj;have Qbv:(a.eval y).cells.size=n:=by rw[<-Qdy,<-hy.len,hn]
    have hex:Ex w M U (w.setRow b (cur.toList.take (row*sz+off)++(a.eval y).cells.toList++cur.toList.drop (row*sz+off+(a.eval y).cells.toList.length)).toArray) M U:=⟨λc hc=>setRow_other w b c _ λe=>hm (e▸hc),λ_ h=>h,λ_ _ h=>h⟩
    have vH:Pp.length=ob.sz:=(g6 row Pp sK).1;have Qnc:=(pB.1 sK).1;have hle:(row+1)*ob.sz<=cur.size:=by rw[g2];exact QdB _ (by omega)
    rw[Qb4,QfM]at hle;have yz:=hy.len;have Qsq:cur.toList.length=cur.size:=Qdy;subst jI;have dC:=yP (P:=P) (p:=row*ob.sz+off) ht Qbv g1 (by omega) (Rs.Pf hy)
    refine⟨w.setRow b (cur.toList.take (row*ob.sz+off)++(a.eval y).cells.toList++cur.toList.drop (row*ob.sz+off+(a.eval y).cells.toList.length)).toArray,by simp only[execOp,hop,hv,Instr.storeAt,Instr.sureAddr,Sem.run_bind,Sem.run_pure,Result.andThen_ok,dC],?_⟩
    suffices hs:Wd G U M (λi=>if i=id then some {ob with rows:=R}else hD i) (w.setRow b (cur.toList.take (row*ob.sz+off)++(a.eval y).cells.toList++cur.toList.drop (row*ob.sz+off+(a.eval y).cells.toList.length)).toArray)/\Ex w M U (w.setRow b (cur.toList.take (row*ob.sz+off)++(a.eval y).cells.toList++cur.toList.drop (row*ob.sz+off+(a.eval y).cells.toList.length)).toArray) M U by
     exact⟨U,M,trivial,by rw[ua,CG];exact hs.1,hs.2,λ_ h=>.inl h⟩
    refine hW.write (AH:={ob with rows:=R}) (fh id ob hid) Fj g1 (.inl ⟨h0,?_⟩);rw[Fj];refine⟨_,setRow_heap w b cur _ ob.J0 (0,0) g1,?_,by rw[<-hR];simpa using g3,g4,g5,λi d hd=>?_⟩
    ·rw[<-g2];simp;omega
    ·have Xw:∀i (d:List Lf) j l,ob.rows[i]?=some d->d[j]?=some l->∃v,cur.toList[i*ob.sz+j]?=some v/\(if ob.box=true then LR (w.setRow b (cur.toList.take (row*ob.sz+off)++(a.eval y).cells.toList++cur.toList.drop (row*ob.sz+off+(a.eval y).cells.toList.length)).toArray) M U l v else IR (w.setRow b (cur.toList.take (row*ob.sz+off)++(a.eval y).cells.toList++cur.toList.drop (row*ob.sz+off+(a.eval y).cells.toList.length)).toArray) M l v):=λi d j l hd hl=>by
      obtain⟨v,hv,hr⟩:=(g6 i d hd).2 j l hl;rw[p9]at hr;exact⟨v,by simpa using hv,by rw[p9];exact IR.mono hex.ck hex.sub (by simpa using hr)⟩
     by_cases hi:i=row
     ·subst hi;rw[<-hR,Qf8 Qnc]at hd;obtain rfl:=QaL hd;refine⟨by simp;omega,λj l hj=>?_⟩
      rw[hn,qY (by omega)]at hj
      rw[Qju,qY (by omega)]
      by_cases j1:j<off
      ·rw[if_pos j1]at hj;rw[if_pos (show i*ob.sz+j<i*ob.sz+off by omega)];exact Xw i Pp j l sK hj
      ·rw[if_neg j1]at hj;rw[if_neg (show ¬i*ob.sz+j<i*ob.sz+off by omega)]
       by_cases j2:j<off+c.cells.length
       ·rw[if_pos j2]at hj;rw[if_pos (show i*ob.sz+j<i*ob.sz+off+(a.eval y).cells.toList.length by omega)]
        obtain⟨v,hv,hr⟩:=hy.get hj;refine⟨v,by rw[show i*ob.sz+j-(i*ob.sz+off)=j-off by omega];exact hv,?_⟩
        rw[p9];exact IR.mono hex.ck hex.sub (LR.QV (Qc8.1 QbA l (QaG hj)) hr)
       ·rw[if_neg j2]at hj;rw[if_neg (show ¬i*ob.sz+j<i*ob.sz+off+(a.eval y).cells.toList.length by omega)];exact Xw i Pp j l sK hj
     ·rw[<-hR,QgP (Ne.symm hi)]at hd;have yr:=(g6 i d hd).1;refine⟨yr,λj l hj=>?_⟩
      have hjl:=(pB.1 hj).1;rw[Qju,qY (by omega)]
      rcases sh i row with h5|h5
      ·have:(i+1)*ob.sz<=row*ob.sz:=QdB _ h5;rw[Qb4,QfM]at this;rw[if_pos (show i*ob.sz+j<row*ob.sz+off by omega)];exact Xw i d j l hd hj
      ·have:(row+1)*ob.sz<=i*ob.sz:=QdB _ (by omega)
       rw[Qb4,QfM]at this;rw[if_neg (show ¬i*ob.sz+j<row*ob.sz+off by omega),if_neg (show ¬i*ob.sz+j<row*ob.sz+off+(a.eval y).cells.toList.length by omega)];exact Xw i d j l hd hj
  ·cases hf
 ·cases hf
theorem QcG{t:TypeId}{m k v:Operand}(hop:o.op=.mapUpdate t m k v)(hf:Qld P h L t m k v hs=some r)(dj:dF r.fU)(hF:∀t,AR w M U (L t) (a.tmps.getD t undef))(hW:Wd G U M hD w)(fh:∀id ob,h id=some ob->hD id=some ob):
  ∃w',(execOp a.eval o).run P w=.ok .skip w'/\Wo G U M hD base w r undef w':=by
 unfold Qld at hf;split at hf
 ·rename_i kt vt id o1 kl o2 vl o3 R fK hu h1 h2 h3;split at hf
  ·rename_i ob hid;split at hf
   ·rename_i rs hm;cases hc:(ob.box&&O_ vl&&IK P kt kl)with
    |false=>rw[hc]at hf;cases hf
    |true =>
     rw[hc]at hf;cases hf;simp only[ma]at hc;simp only[bp,dF]at dj;obtain⟨b,hφ,hv⟩:vh w M U (.mp id) (a.eval m):=cg hF h1 dj.1.1.1 trivial;have hk:CR w M U kl (a.eval k):=cg hF h2 dj.1.1.2 trivial;have hx:LR w M U vl (a.eval v):=cg hF h3 dj.1.2 trivial;have Yf:=S4 hc.2 hk;have Qm0:=fh id ob hid;obtain⟨b',es,BY,g1,g2,g3,g4⟩:=LV (hW.fU id ob Qm0) hm hc.1.1;rw[hφ]at g1;cases g1;have Ys:=Yf.check false
     -- TJ map as it is left
     have key:∀(es':Array MapEntry) (Qg3:Nat),Rs (BP w M) R es'.toList->(execOp a.eval o).run P w=.ok .skip {w with heap:=w.heap.setIfInBounds b (.map es' Qg3)}->
       ∃w',(execOp a.eval o).run P w=.ok .skip w'/\Wo G U M hD base w ⟨.PY,[(id,some {ob with rows:=[] :: [] ::R})],[],o1++o2++o3++[Cl rs kl.cells vl=some R],fK⟩ undef w':=λes' Qg3 hR dC=>by
      obtain⟨k1,k2⟩:=Go.MapKept.heap_set (o':=.map es' Qg3) g2;have hm0:=(hW.own id ob b 1 Qm0 hφ).1;have hex:Ex w M U {w with heap:=w.heap.setIfInBounds b (.map es' Qg3)} M U:=⟨λc hc=>k2 c λe=>hm0 (e▸hc),λ_ h=>h,λ_ _ h=>h⟩
      refine⟨_,dC,U,M,trivial,?_,hex,λ_ h=>.inl h⟩
      rw[ua,CG];exact hW.Rt Qm0 hφ (λc hc=>k2 c hc) (by simp) rfl rfl rfl (.inr ⟨hc.1.1,R,b,es',Qg3,rfl,hφ,k1,hR.mono λ_ _ h=>BP.mono hex.ck hex.sub h⟩)
     rcases Yf.put (LR.QV hc.1.2 hx) g3 dj.2.1 with⟨q1,q2⟩|⟨j,u,e,q1,q2,q3,q4⟩
     ·refine key (es.push {key:=a.eval k,val:=a.eval v,born:=BY}) (BY+1) (by rw[Array.toList_push];exact q2 BY) ?_
      simp [execOp,hop,hv,Instr.mapUpdate,run_underlying hu,Go.MapKept.run_getObj_map g2,Ys,q1,Go.MapKept.run_setObj_map _ g2,Result.andThen]
     ·have hej:es[j]?=some e:=by rw[<-Qmu];exact q2
      have ir:=Yf.stays;refine key (es.modify j λe=>{e with key:=a.eval k,val:=a.eval v}) BY ?_ ?_
      ·have:(es.modify j λe=>{e with key:=a.eval k,val:=a.eval v}).toList=es.toList.set j {e with key:=a.eval k,val:=a.eval v}:=by
        apply Qga;intro i;rw[Qmu,Array.getElem?_modify,List.getElem?_set];by_cases Qm:j=i
        ·subst Qm;have iq:=(pB.1 q2).1;have QpK:j<es.size:=by simpa using iq
         have OG:es[j]=e:=by rw[Qf7 QpK]at hej;exact QaL hej
         simp [QpK,OG]
        ·simp [Qm]
       rw[this];exact q4
      ·have hkk:(((es[j]?).map (·.key)).getD (a.eval k))=a.eval k:=by rw[hej];exact q3
       simp only[Option.map]at hkk;simp [execOp,hop,hv,Instr.mapUpdate,run_underlying hu,Go.MapKept.run_getObj_map g2,Ys,q1,Result.andThen];rw[hej];simp [q3,ir,Go.MapKept.run_setObj_map _ g2,Result.andThen]
   ·cases hf
  ·cases hf
 ·cases hf
theorem QcF{t:TypeId}{x hi:Operand}(hop:o.op=.slice t x none (some hi) none)(hf:Qlc P h L t x hi hs=some r)(dj:dF r.fU)(hF:∀t,AR w M U (L t) (a.tmps.getD t undef))(hW:Wd G U M hD w)(fh:∀id ob,h id=some ob->hD id=some ob):
  ∃v,(execOp a.eval o).run P w=.ok (.value v) w/\Wo G U M hD base w r v w:=by
 unfold Qlc at hf;split at hf
 ·rename_i id sz off len o1 kd n o2 e R fK h1 h2 he;split at hf
  ·rename_i ob hid;cases hc:(off == 0&&ob.sz == sz&&!ob.box&&CF P e == some sz)with
   |false=>rw[hc]at hf;cases hf
   |true =>
    rw[hc]at hf;cases hf;simp only[ma,Qbb,QbD]at hc;obtain⟨⟨⟨rfl,jI⟩,p9⟩,hts⟩:=hc;simp only[bp,dF]at dj;obtain⟨⟨p1,p2⟩,hlen,B5,SV,hR,-⟩:=dj;have hu:=jr he;obtain⟨i,Cc,his⟩:=pW hts;have hx:vh w M U (.os id sz 0 len) (a.eval x):=cg hF h1 p1 trivial;have hh:IR w M (.int kd n) (a.eval hi):=cg hF h2 p2 trivial;generalize QU:a.eval hi=hv at hh;cases hh;replace hid:=fh _ _ hid;have hO:=hW.fU id ob hid;have O5:R.length=n.toNat:=by rw[<-hR,Qdo];omega
    have dC:∀v,(Instr.sliceAt t (a.eval x) none (some (.int kd n)) none).run P w=.ok v w->(execOp a.eval o).run P w=.ok (.value v) w:=λv hv=>by simp [execOp,hop,QU,hv]
    have hex:Ex w M U w M U:=⟨λ_ _=>rfl,λ_ h=>h,λ_ _ h=>h⟩
    rcases hx with⟨b,C,Fj,hv,hle⟩|⟨Fj,_,O8,A,hv⟩
    ·rw[hv]at dC;obtain⟨Vd,QP⟩:=hO.oc (.inl p9);rw[Fj]at QP;obtain⟨cur,g1,g2,g3,g4,g5,g6⟩:=QP;have hb:=zW (P:=P) (w:=w) (wH:=true) (len:=len) (cap:=C-0) (lo:=none) (hi:=some (.int kd n)) (mx:=none) (ql:=none) (qh:=some n) (qm:=none) (.inl ⟨rfl,rfl⟩) (.inr ⟨kd,n,rfl,rfl⟩) (.inl ⟨rfl,rfl⟩) (λh=>by cases h) (by simp) (by simpa using B5) (by simp only[QbG,QfU];omega) (by simp) (by omega)
     have Zj:=dC _ (CA hu Cc hb);refine⟨_,Zj,U,M,?_,?_,hex,λ_ h=>.inl h⟩
     ·refine .inl ⟨b,C,Fj,?_,by omega⟩
      have z0:((none:O Int).getD 0).toNat=0:=rfl;have z1:((some n).getD (len:Int)).toNat=R.length:=by simp [O5]
      have z2:((none:O Int).getD ((C-0:Nat):Int)).toNat=C:=by simp
      rw[z0,z1,z2];simp only[Qgc,Qbx,Qjl];split <;> simp [Addr.add_mid]
     ·rw[ua,CG];refine hW.Rt hid Fj (λ_ _=>rfl) rfl rfl rfl rfl (.inl ⟨Vd,?_⟩)
      rw[Fj];refine⟨cur,g1,g2,by simp only;omega,g4,g5,λj c hc=>g6 j c ?_⟩
      simp only at hc;rw[<-hR,QdL]at hc;split at hc
      ·exact hc
      ·cases hc
    ·rw[hv]at dC;have zI:ob.rows=[]:=Qdx (by omega)
     have hn:n=0:=by rw[zI]at SV;simp only[QbH,QkZ]at SV;omega
     have WQ:R=[]:=by rw[<-hR,zI];simp
     subst WQ;have hb:=zW (P:=P) (w:=w) (wH:=true) (len:=0) (cap:=0) (lo:=none) (hi:=some (.int kd n)) (mx:=none) (ql:=none) (qh:=some n) (qm:=none) (.inl ⟨rfl,rfl⟩) (.inr ⟨kd,n,rfl,rfl⟩) (.inl ⟨rfl,rfl⟩) (λh=>by cases h) (by simp) (by simpa using B5) (by simp only[QbG,QfU];omega) (by simp) (by omega)
     have Zj:=dC _ (CA hu Cc hb);refine⟨_,Zj,U,M,?_,?_,hex,λ_ h=>.inl h⟩
     ·subst hn;exact .inr ⟨Fj,rfl,rfl,A,rfl⟩
     ·rw[ua,CG];have:(λi=>if i=id then some {ob with rows:=[]}else hD i)=hD:=by
       funext i
       by_cases hi:i=id
       ·subst hi;rw[if_pos rfl,hid];cases ob;simp only at zI;rw[zI]
       ·rw[if_neg hi]
      rw[this];exact hW
  ·cases hf
 ·cases hf
theorem We(hf:z6 P h base L o.op hs=some r)(dj:dF r.fU)(hF:∀t,AR w M U (L t) (a.tmps.getD t undef))(hW:Wd G U M hD w)(fh:∀id ob,h id=some ob->hD id=some ob)
  (td:∀id,base<=id->id<base+r.news.length->U id=none/\hD id=none) {K:Act->World->Prop}
  (hK:∀v w',Wo G U M hD base w r v w'->K (a.put o.dst v) w'):o.wp P a w K NQ:=by
 cases ho:o.op with
 |store t x y =>
  rw[ho]at hf;simp only[z6]at hf;split at hf
  ·rename_i r0 zI;cases hf;obtain⟨w',dC,hm⟩:=X8 (base:=base) ho zI dj hF hW fh;unfold Oper.wp;rw[dC];exact hK undef w' hm
  ·obtain⟨w',dC,hm⟩:=UD (base:=base) ho hf dj hF hW fh;unfold Oper.wp;rw[dC];exact hK undef w' hm
 |mapUpdate t m k v =>
  rw[ho]at hf;obtain⟨w',dC,hm⟩:=QcG (base:=base) ho hf dj hF hW fh;unfold Oper.wp;rw[dC];exact hK undef w' hm
 |slice t x lo hi mx =>
  rw[ho]at hf;cases lo with
  |some _=>simp only[z6]at hf;cases hf
  |none =>
   cases hi with
   |none=>simp only[z6]at hf;cases hf
   |some hi =>
    cases mx with
    |some _=>simp only[z6]at hf;cases hf
    |none =>
     simp only[z6]at hf;obtain⟨v,dC,hm⟩:=QcF (base:=base) ho hf dj hF hW fh;unfold Oper.wp;rw[dC];exact hK v w hm
 |call c =>
  rw[ho]at hf;simp only[z6]at hf;split at hf
  ·rename_i hc;obtain⟨v,w',dC,hm⟩:=UC hW fh hF td ho hc hf dj;unfold Oper.wp;rw[dC];exact hK v w' hm
  ·split at hf
   ·rename_i r0 zI;cases hf;exact Qap ho zI dj hF hW fh td hK
   ·exact Qaq ho hf dj hF hW fh hK
 |_=>rw[ho]at hf;simp only[z6]at hf;cases hf
theorem TP{op:Op}(hf:z6 P h base L op hs=some r):∀u∈r.AF,∃ob,h u.1=some ob:=by
 unfold z6 at hf;split at hf
 ·rename_i t x y;split at hf
  ·rename_i r0 ir;cases hf;unfold X7 at ir;split at ir
   ·split at ir
    ·rename_i ob hid;split at ir
     ·have mC:∀{c:Bool} {x:O Wr},(bif c then x else none)=some r->x=some r:=by
       intro c x hc;cases c
       ·cases hc
       ·exact hc
      cases mC ir;intro u hu;simp only[Qaz]at hu;subst hu;exact⟨ob,hid⟩
     ·cases ir
    ·cases ir
   ·cases ir
  ·unfold R8 at hf;split at hf
   ·split at hf
    ·rename_i ob hid;have mC:∀{c:Bool} {x:O Wr},(bif c then x else none)=some r->x=some r:=by
      intro c x hc;cases c
      ·cases hc
      ·exact hc
     cases mC hf;intro u hu;simp only[Qaz]at hu;subst hu;exact⟨ob,hid⟩
    ·cases hf
   ·cases hf
 ·unfold Qld at hf;split at hf
  ·split at hf
   ·rename_i ob hid;split at hf
    ·have mC:∀{c:Bool} {x:O Wr},(bif c then x else none)=some r->x=some r:=by
      intro c x hc;cases c
      ·cases hc
      ·exact hc
     cases mC hf;intro u hu;simp only[Qaz]at hu;subst hu;exact⟨ob,hid⟩
    ·cases hf
   ·cases hf
  ·cases hf
 ·unfold Qlc at hf;split at hf
  ·split at hf
   ·rename_i ob hid;have mC:∀{c:Bool} {x:O Wr},(bif c then x else none)=some r->x=some r:=by
     intro c x hc;cases c
     ·cases hc
     ·exact hc
    cases mC hf;intro u hu;simp only[Qaz]at hu;subst hu;exact⟨ob,hid⟩
   ·cases hf
  ·cases hf
 ·rename_i c;split at hf
  ·unfold R7 at hf;split at hf
   ·split at hf
    ·rename_i e ob jQ new o2 he hid hro;split at hf
     ·have mC:∀{c:Bool} {x:O Wr},(bif c then x else none)=some r->x=some r:=by
       intro c x hc;cases c
       ·cases hc
       ·exact hc
      cases mC hf;intro u hu;simp only[Qaz]at hu;subst hu;exact⟨ob,hid⟩
     ·cases hf
    ·cases hf
   ·cases hf
  ·split at hf
   ·rename_i r0 zI;cases hf;unfold Qef at zI;split at zI
    ·split at zI
     ·split at zI
      ·rename_i yG yH EK W0;have mC:∀{c:Bool} {x:O Wr},(bif c then x else none)=some r->x=some r:=by
        intro c x hc;cases c
        ·cases hc
        ·exact hc
       cases mC zI;obtain⟨-,yx⟩:=L_ EK;have rF:∀i,i∈(‹List Nat›:List Nat)->True:=λ_ _=>trivial
       intro u hu;simp only[QaI]at hu;have qc:∀i,i∈_->∃ob,h i=some ob:=λi hi=>by
        obtain⟨j,hj⟩:=QeT.1 hi;obtain⟨ob,-,g⟩:=yx j i hj;exact⟨ob,g⟩
       rcases hu with hu|hu
       ·refine qc _ ?_
        have key:∀{m:Nat->O Nat} {is:List Nat} {os:List Ob},u∈T3 m is os->u.1∈is:=by
         intro m is;induction is with
         |nil=>intro os h;cases h
         |cons x is ih =>
          intro os h;cases os with
          |nil=>cases h
          |cons y os =>
           simp only[T3,Qbt]at h;rcases h with rfl|h
           ·simp
           ·exact QaK _ (ih h)
        exact Qi1 (key hu)
       ·unfold YF at hu;obtain⟨i,hi,rfl⟩:=QdX.1 hu;exact qc _ (List.mem_of_mem_drop hi)
      ·cases zI
     ·cases zI
    ·cases zI
   ·unfold Qeg at hf;split at hf
    ·split at hf
     ·split at hf
      ·rename_i ob hid;have mC:∀{c:Bool} {x:O Wr},(bif c then x else none)=some r->x=some r:=by
        intro c x hc;cases c
        ·cases hc
        ·exact hc
       cases mC hf;intro u hu;simp only[Qaz]at hu;subst hu;exact⟨ob,hid⟩
      ·cases hf
     ·cases hf
    ·cases hf
 ·cases hf
end
end
section
open Go.RowKit
section
variable {P : Program} {G : bC} {U φ' : Pl} {M M' : Nat -> Prop} {h : Nat -> O Ob} {w w' : World} {a : Act} {hs : List Hint} {o : Oper} {H : List (O Ob)} {L : List (Nat × AV)}
theorem Qfj{r:Mes}(hW:Wd G U M (hl H) w)(hF:∀t,AR w M U (look L t) (a.tmps.getD t undef))(hφ:∀id,H.length<=id->U id=none)(hf:mop P H (look L) o.op hs=some r)(dj:dF r.fU){K:Act->World->Prop}
  (hK:∀v w',Md G U M w r v w'->K (a.put o.dst v) w'):o.wp P a w K NQ:=by
 cases ho:o.op with
 |store t x y =>
  obtain⟨w',dC,hm⟩:=Qai hW hF hφ ho hf dj;unfold Oper.wp;rw[dC];exact hK undef w' hm
 |call c =>
  have hf':=hf;rw[ho]at hf';simp only[mop]at hf';split at hf'
  ·rename_i hc;obtain⟨v,w',dC,hm⟩:=Tz hW hF hφ ho hc hf dj;unfold Oper.wp;rw[dC];exact hK v w' hm
  ·cases hf'
 |_=>rw[ho]at hf;simp only[mop]at hf;cases hf
def QoT(G:bC)(σ:SS)(tm:Array Value)(w:World)(U:Pl)(M:Nat->Prop):Prop:=
 (∀t,AR w M U (look σ.L t) (tm.getD t undef))/\Wd G U M (hl σ.H) w/\(∀id,σ.H.length<=id->U id=none)
section
variable {f : Lf -> Lf × List Prop} (hf : ∀ l v, LR w M U l v -> dF (f l).2 -> LR w M' U (f l).1 v)
include hf
theorem Qdk:∀{ls:List Lf} {vs:List Value},Rs (LR w M U) ls vs->dF (Er f ls).2->Rs (LR w M' U) (Er f ls).1 vs
 | [],[],_,_=>trivial
 |l ::ls,v ::vs,h,ho=>by
  simp only[Er,bp]at ho ⊢;exact⟨hf l v h.1 ho.1,Qdk h.2 ho.2⟩
 | [],_ ::_,h,_=>h.elim
 |_ ::_,[],h,_=>h.elim
theorem Qhx{c:Cm}{v:Value}(h:CR w M U c v)(ho:dF (gmC f c).2):CR w M' U (gmC f c).1 v:=by
 cases c with
 |one l=>exact hf l v h ho
 |agg ls=>obtain⟨vs,e,hr⟩:=h;exact⟨vs,e,Qdk hf hr ho⟩
theorem Qdj:∀{ls:List Cm} {vs:List Value},Rs (CR w M U) ls vs->dF (Qbl f ls).2->Rs (CR w M' U) (Qbl f ls).1 vs
 | [],[],_,_=>trivial
 |l ::ls,v ::vs,h,ho=>by
  simp only[Qbl,bp]at ho ⊢;exact⟨Qhx hf h.1 ho.1,Qdj h.2 ho.2⟩
 | [],_ ::_,h,_=>h.elim
 |_ ::_,[],h,_=>h.elim
theorem Qj_(he:Ex w M U w M' U){c:AV}{v:Value}(h:AR w M U c v)(ho:dF (QeO f c).2):AR w M' U (QeO f c).1 v:=by
 cases c with
 |cm c=>exact Qhx hf h ho
 |j0 cs=>obtain⟨vs,e,hr⟩:=h;exact⟨vs,e,Qdj hf hr ho⟩
 |gd p c=>exact AR.mono he (c:=.gd p c) h
 |PY=>trivial
 |pM=>exact h
 |vl u c=>exact AR.mono he (c:=.vl u c) h
omit hf in
theorem QdH(f:Lf->Lf×List Prop)(t:Nat):∀L:List (Nat×AV),look (uS f L).1 t=(QeO f (look L t)).1/\(dF (uS f L).2->dF (QeO f (look L t)).2)
 | []=>⟨rfl,λ_=>trivial⟩
 |(k,v) ::L=>by
  obtain⟨h1,h2⟩:=QdH f t L;simp only[uS,look,bp];cases hk:(k == t)with
  |true=>exact⟨rfl,λh=>h.1⟩
  |false=>exact⟨h1,λh=>h2 h.2⟩
theorem LG(he:Ex w M U w M' U){tm:Array Value}{L:List (Nat×AV)}(h:∀t,AR w M U (look L t) (tm.getD t undef))(ho:dF (uS f L).2):∀t,AR w M' U (look (uS f L).1 t) (tm.getD t undef):=λt=>by
 obtain⟨h1,h2⟩:=QdH f t L;rw[h1];exact Qj_ hf he (h t) (h2 ho)
omit hf in
theorem Y9:∀{ls:List Lf},(Er f ls).1.length=ls.length
 | []=>rfl
 |l ::ls=>by simp [Er,Y9 (ls:=ls)]
omit hf in
theorem Y8:∀{ls:List Lf} {j:Nat} {l':Lf},(Er f ls).1[j]?=some l'->∃l,ls[j]?=some l/\l'=(f l).1/\(dF (Er f ls).2->dF (f l).2)
 | [],_,_,h=>by simp [Er]at h
 |l ::ls,0,l',h=>by simp [Er]at h;exact⟨l,rfl,h.symm,λho=>by simp only[Er,bp]at ho;exact ho.1⟩
 |l ::ls,j+1,l',h=>by
  obtain⟨x,h1,h2,h3⟩:=Y8 (ls:=ls) (j:=j) (l':=l') (by simpa [Er]using h)
  exact⟨x,by simpa using h1,h2,λho=>h3 (by simp only[Er,bp]at ho;exact ho.2)⟩
omit hf in
theorem SN:∀{rs:List (List Lf)} {i:Nat} {c':List Lf},(zH f rs).1[i]?=some c'->∃c,rs[i]?=some c/\c'=(Er f c).1/\(dF (zH f rs).2->dF (Er f c).2)
 | [],_,_,h=>by simp [zH]at h
 |r ::rs,0,c',h=>by simp [zH]at h;exact⟨r,rfl,h.symm,λho=>by simp only[zH,bp]at ho;exact ho.1⟩
 |r ::rs,i+1,c',h=>by
  obtain⟨x,h1,h2,h3⟩:=SN (rs:=rs) (i:=i) (c':=c') (by simpa [zH]using h)
  exact⟨x,by simpa using h1,h2,λho=>h3 (by simp only[zH,bp]at ho;exact ho.2)⟩
omit hf in
theorem SO:∀{rs:List (List Lf)},(zH f rs).1.length=rs.length
 | []=>rfl
 |r ::rs=>by simp [zH,SO (rs:=rs)]
omit hf in
theorem QlA:∀{H:List (O Ob)} {id:Nat},hl (Yb f H).1 id=(WO f (hl H id)).1/\(dF (Yb f H).2->dF (WO f (hl H id)).2)
 | [],id=>⟨by simp [Yb,hl,WO],λ_=>by simp [hl,WO,dF]⟩
 |x ::H,0=>by
  simp only[Yb,bp];exact⟨by simp [hl],λh=>by simpa [hl]using h.1⟩
 |x ::H,id+1=>by
  obtain⟨h1,h2⟩:=QlA (H:=H) (id:=id);simp only[Yb,bp];exact⟨by simpa [hl]using h1,λh=>by simpa [hl]using h2 h.2⟩
omit hf in
theorem RG:∀{H:List (O Ob)},(Yb f H).1.length=H.length
 | []=>rfl
 |x ::H=>by simp [Yb,RG (H:=H)]
theorem Qka(he:Ex w M U w M' U){id:Nat}{ob AH:Ob}(hO:OR w M U id ob)(hg:(WO f (some ob)).1=some AH)(ho:dF (WO f (some ob)).2):OR w M' U id AH/\AH.box=ob.box:=by
 unfold WO at hg ho;rcases hO with hO|⟨hb,rs,b,es,BY,h1,h2⟩
 rotate_left
 ·have hm:isMap ob=true:=by unfold isMap;rw[h1];rfl
  simp only[hb,hm,QfW,Bool.and_false,Qdn]at hg;cases hg;exact⟨OR.mono he (.inr ⟨hb,rs,b,es,BY,h1,h2⟩) λ_ _ _=>rfl,rfl⟩
 cases hb:ob.box with
 |false=>simp only[hb,Qln,Qdn]at hg;cases hg;exact⟨OR.mono he (.inl hO) λ_ _ _=>rfl,hb⟩
 |true =>
  have hm:=hO.QlT hb;simp only[hb,hm,Qlo,Bool.and_true,QaF]at hg ho;cases hg;refine⟨?_,rfl⟩;obtain⟨h0,h1⟩:=hO;refine .inl ⟨h0,?_⟩;cases hφ:U id with
  |none=>rw[hφ]at h1;exact h1.elim
  |some p =>
   rw[hφ]at h1;cases p with
   |none=>rw[hb]at h1;cases h1.2
   |some bc =>
    obtain⟨b,C⟩:=bc;obtain⟨cur,g1,g2,g3,g4,g5,g6⟩:=h1;refine⟨cur,g1,g2,by rw[SO];exact g3,g4,λ_=>g5 hb,λi c' hc=>?_⟩
    obtain⟨c,hc1,rfl,DH⟩:=SN hc;refine⟨by rw[Y9];exact(g6 i c hc1).1,λj l' hj=>?_⟩
    obtain⟨l,hl1,rfl,k_⟩:=Y8 hj;obtain⟨v,hv,hr⟩:=(g6 i c hc1).2 j l hl1;rw[if_pos hb]at hr;exact⟨v,hv,by show(if true=true then _ else _);rw[if_pos rfl];exact hf l v hr (k_ (DH ho))⟩
theorem QmA(he:Ex w M U w M' U)(hW:Wd G U M (hl H) w)(ho:dF (Yb f H).2)(hm:∀b,M' b->M b\/(b<w.heap.size/\(G.QiD b\/G.w0.heap.size<=b)/\∀id ob C,hl H id=some ob->U id≠some (some (b,C)))):Wd G U M' (hl (Yb f H).1) w:=by
 have back:∀id AH,hl (Yb f H).1 id=some AH->∃ob,hl H id=some ob/\OR w M' U id AH:=λid AH e=>by
  obtain⟨h1,h2⟩:=QlA (f:=f) (H:=H) (id:=id);rw[h1]at e;cases hh:hl H id with
  |none=>rw[hh]at e;cases e
  |some ob =>
   rw[hh]at e h2;exact⟨ob,rfl,(Qka hf he (hW.fU id ob hh) e (h2 ho)).1⟩
 refine⟨λid AH e=>(back id AH e).choose_spec.2,λi j oi oj b Ci Cj hi hj=>hW.inj i j _ _ b Ci Cj (back i oi hi).choose_spec.1 (back j oj hj).choose_spec.1,λb hb=>?_,λb hb=>he.sub b (hW.m0 b hb),λb hb=>?_,λid AH b C e p=>?_,hW.AO,hW.os,hW.tape,hW.output,hW.size,hW.HA,hW.zP⟩
 ·rcases hm b hb with h|h
  ·exact hW.mlt b h
  ·exact h.1
 ·rcases hm b hb with h|h
  ·exact hW.LW b h
  ·exact .inr h.2.1
 ·obtain⟨ob,Qn,-⟩:=back id AH e;have:=hW.own id ob b C Qn p;refine⟨λhb=>?_,this.2⟩
  rcases hm b hb with h|h
  ·exact this.1 h
  ·exact h.2.2 id ob C Qn p
end
theorem QnE{M2:Nat->Prop}{id sz len:Nat}{ob:Ob}{v:Value}(hO:OR w M U id ob)(p9:ob.box=false)(jI:ob.sz=sz)(hlen:ob.rows.length=len)(hv:vh w M U (.os id sz 0 len) v)(hM:∀b,M b->M2 b)(Xf:∀b C,U id=some (some (b,C))->M2 b):
  IR w M2 (.sl false sz ob.rows) v:=by
 rcases hv with⟨b,C,hφ,rfl,hle⟩|⟨hφ,_,rfl,A,rfl⟩
 ·obtain⟨h0,h1⟩:=hO.oc (.inl p9);rw[hφ]at h1;obtain⟨cur,g1,g2,g3,g4,g5,g6⟩:=h1;have px:∀(i:Nat) (c:List Lf) (j:Nat) (l:Lf),ob.rows[i]?=some c->c[j]?=some l->w.cell? ⟨b,0*sz+i*sz+j,none⟩=some ((cur[i*sz+j]?).getD undef)/\IR w M2 l ((cur[i*sz+j]?).getD undef):=λi c j l hc hj=>by
   obtain⟨u,hu,hr⟩:=(g6 i c hc).2 j l hj;rw[p9]at hr;rw[jI]at hu;refine⟨?_,by rw[hu];exact IR.mono (λ_ _=>rfl) hM (by simpa using hr)⟩
   simp only[World.cell?,g1,Qbx,Qbu];simp [hu]
  have key:IR w M2 (.sl false sz ob.rows) (.slice (some ⟨b,0*sz,none⟩) ob.rows.length (C-0)):=
   IR.sl false sz ob.rows b (0*sz) (C-0) (λi j=>(cur[i*sz+j]?).getD undef) (Xf b C hφ) (by omega) (λh=>by cases h) (λi c hc=>by rw[(g6 i c hc).1,jI]) (λi c j l hc hj=>(px i c j l hc hj).1) (λi c j l hc hj=>(px i c j l hc hj).2)
  rw[hlen]at key;exact key
 ·have zI:ob.rows=[]:=Qdx hlen;rw[zI];exact IR.QF false sz A 0 λh=>by cases h
theorem QcJ{sz:Nat}{l l':Lf}{v:Value}(h:wkL sz l=some l')(hv:LR w M U l v):LR w M U l' v:=by
 unfold wkL at h;split at h
 ·cases h;have J5:IR w M .fk v:=hv;cases J5;exact IR.lr (IR.QF false sz none 0 λh=>by cases h)
 ·rename_i cl s rows;cases h;have J5:IR w M (.sl cl s rows) v:=hv;cases J5 with
  |QF _ _ A cap _=>exact IR.lr (IR.QF false s A cap λh=>by cases h)
  |sl _ _ _ b k cap vs hm hl y4 MJ hc hr=>exact IR.lr (IR.sl false s rows b k cap vs hm hl (λh=>by cases h) MJ hc hr)
 ·cases h
theorem Rs.set{R:Lf->Value->Prop}:∀{ls:List Lf} {vs:List Value} {k:Nat} {l':Lf},Rs R ls vs->(∀v,vs[k]?=some v->R l' v)->Rs R (ls.set k l') vs
 | [],[],_,_,_,_=>trivial
 |l ::ls,v ::vs,0,l',h,hk=>⟨hk v rfl,h.2⟩
 |l ::ls,v ::vs,k+1,l',h,hk=>⟨h.1,Rs.set h.2 λu hu=>hk u (by simpa using hu)⟩
 | [],_ ::_,_,_,h,_=>h.elim
 |_ ::_,[],_,_,h,_=>h.elim
theorem Qn_{k sz:Nat}{c c':Cm}{v:Value}(h:wkC k sz c=some c')(hv:CR w M U c v):CR w M U c' v:=by
 cases c with
 |one l =>
  simp only[wkC]at h;cases hk:(k == 0)with
  |false=>rw[hk]at h;cases h
  |true =>
   rw[hk]at h;simp only[QaF]at h;cases hl:wkL sz l with
   |none=>rw[hl]at h;cases h
   |some l'=>rw[hl]at h;cases h;exact QcJ hl hv
 |agg ls =>
  simp only[wkC]at h;split at h
  ·rename_i l hk;cases hl:wkL sz l with
   |none=>rw[hl]at h;cases h
   |some l' =>
    rw[hl]at h;cases h;obtain⟨vs,e,hr⟩:=hv;refine⟨vs,e,Rs.set hr λu hu=>?_⟩
    obtain⟨u',hu',TW⟩:=hr.get hk;rw[hu]at hu';cases hu';exact QcJ hl TW
  ·cases h
theorem Yw{id k:Nat}{ob:Ob}{cells:List Lf}{l l':Lf}(hW:Wd G U M (hl H) w)(hid:hl H id=some ob)(p9:ob.box=true)(jJ:ob.rows=[cells])(hk:cells[k]?=some l)(Ko:∀v,LR w M U l v->LR w M U l' v):
  Wd G U M (hl (H.set id (some {ob with rows:=[cells.set k l']}))) w:=by
 have hO:=hW.fU id ob hid;obtain⟨h0,h1⟩:=hO.oc (.inr ⟨_,jJ⟩);cases hφ:U id with
 |none=>rw[hφ]at h1;exact h1.elim
 |some p =>
  cases p with
  |none=>rw[hφ,p9]at h1;cases h1.2
  |some bc =>
   obtain⟨b,C⟩:=bc;rw[hφ]at h1;obtain⟨cur,g1,g2,g3,g4,g5,g6⟩:=h1;rw[WX (nC hid)];refine hW.Rt hid hφ (λ_ _=>rfl) rfl rfl rfl rfl (.inl ⟨h0,?_⟩)
   rw[hφ];refine⟨cur,g1,g2,by rw[jJ]at g3;simpa using g3,g4,g5,λi c hc=>?_⟩
   cases i with
   |succ i=>simp at hc
   |zero =>
    obtain rfl:=QaL (show some _=some c from hc);have h6:=g6 0 cells (by rw[jJ];rfl)
    refine⟨by rw[Qjm];exact h6.1,λj x hj=>?_⟩
    by_cases hjk:j=k
    ·subst hjk;have iq:=(pB.1 hk).1;rw[Qf8 iq]at hj;cases hj;obtain⟨v,hv,hr⟩:=h6.2 j l hk;rw[if_pos p9]at hr;exact⟨v,hv,by rw[if_pos p9];exact Ko v hr⟩
    ·rw[QgP (Ne.symm hjk)]at hj;exact h6.2 j x hj
theorem Pe{t:Nat}{v:AV}{L:List (Nat×AV)}{tm:Array Value}(h:∀t,AR w M U (look L t) (tm.getD t undef))(hv:AR w M U v (tm.getD t undef)):∀u,AR w M U (look ((t,v) ::L) u) (tm.getD u undef):=λu=>by
 simp only[look];cases hk:(t == u)with
 |true=>simp only[Qbb]at hk;subst hk;exact hv
 |false=>exact h u
theorem qv{tm:Array Value}:∀{hs fK:List Hint} {σ σ':SS} {ob:List Prop} {U:Pl} {M:Nat->Prop},ghost hs σ=some (σ',ob,fK)->dF ob->QoT G σ tm w U M->σ'.N=σ.N/\∃φ' M',QoT G σ' tm w φ' M'
 | [],_,σ,_,_,U,M,hg,_,hS=>by simp only[ghost]at hg;cases hg;exact⟨rfl,U,M,hS⟩
 |x ::hs,fK,σ,σ',ob,U,M,hg,ho,hS=>by
  obtain⟨hF,hW,hφ⟩:=hS;cases x with
  |wait n =>
   cases n with
   |zero=>simp only[ghost]at hg;exact qv hg ho ⟨hF,hW,hφ⟩
   |succ n=>simp only[ghost]at hg;cases hg;exact⟨rfl,U,M,hF,hW,hφ⟩
  |ng id =>
   simp only[ghost]at hg;split at hg
   ·rename_i o1 hid;cases p9:o1.box with
    |true=>rw[p9]at hg;cases hg
    |false =>
     rw[p9]at hg;simp only[Qdn]at hg;split at hg
     ·rename_i σ2 o2 Ve hg2;cases hg;simp only[bp]at ho;have hO:=hW.fU id o1 hid;have Xf:∀b,M b->(λb=>M b\/∃C,U id=some (some (b,C))) b:=λ_ h=>.inl h
      have he:Ex w M U w (λb=>M b\/∃C,U id=some (some (b,C))) U:=⟨λ_ _=>rfl,Xf,λ_ _ h=>h⟩
      have hf:∀l v,LR w M U l v->dF (Qbi id o1.sz o1.rows l).2->LR w (λb=>M b\/∃C,U id=some (some (b,C))) U (Qbi id o1.sz o1.rows l).1 v:=λl v hv hp=>by
       unfold Qbi at hp ⊢;split
       ·rename_i i s off len;cases hc:(i == id&&s == o1.sz&&off == 0)with
        |false=>exact hv.mono he
        |true =>
         simp only[hc,QaF]at hp;simp only[ma,Qbb]at hc;obtain⟨⟨rfl,rfl⟩,rfl⟩:=hc;exact IR.lr (QnE hO p9 rfl hp.1 hv Xf λb C h=>.inr ⟨C,h⟩)
       ·exact hv.mono he
      have hW0:Wd G U M (hl (σ.H.set id none)) w:=hW.less λk AH hk=>by
       by_cases uw:k=id
       ·subst uw;rw[w9 (nC hid)]at hk;cases hk
       ·rw[BH uw]at hk;exact hk
      have RL:=QmA hf he hW0 ho.1.2 λb hb=>by
       rcases hb with h|⟨C,h⟩
       ·exact .inl h
       ·obtain⟨q1,q2,q3⟩:=hW.own id o1 b C hid h;refine .inr ⟨q2,q3,λk AH C' hk hp=>?_⟩
        by_cases uw:k=id
        ·subst uw;rw[w9 (nC hid)]at hk;cases hk
        ·rw[BH uw]at hk;exact uw (hW.inj k id AH o1 b C' C hk hid hp h)
      obtain⟨hN,φ',M',QQ⟩:=qv hg2 ho.2 ⟨LG hf he hF ho.1.1,RL,λk hk=>hφ k (by simpa [RG]using hk)⟩
      exact⟨hN,φ',M',QQ⟩
     ·cases hg
   ·cases hg
  |Qmz id =>
   simp only[ghost]at hg;split at hg
   ·rename_i o1 hid;split at hg
    ·rename_i cells p9 jJ;cases hi:cells.all O_ with
     |false=>rw[hi]at hg;cases hg
     |true =>
      rw[hi]at hg;simp only[QaF]at hg;split at hg
      ·rename_i σ2 o2 Ve hg2;cases hg;simp only[bp]at ho;have hO:=hW.fU id o1 hid;have Xf:∀b,M b->(λb=>M b\/∃C,U id=some (some (b,C))) b:=λ_ h=>.inl h
       have he:Ex w M U w (λb=>M b\/∃C,U id=some (some (b,C))) U:=⟨λ_ _=>rfl,Xf,λ_ _ h=>h⟩
       have hf:∀l v,LR w M U l v->dF (SM id o1.sz cells l).2->LR w (λb=>M b\/∃C,U id=some (some (b,C))) U (SM id o1.sz cells l).1 v:=λl v hv hp=>by
        unfold SM;split
        ·rename_i i s row off;cases hc:(i == id&&row == 0)with
         |false=>exact hv.mono he
         |true =>
          simp only[ma,Qbb]at hc;obtain⟨rfl,rfl⟩:=hc;obtain⟨b,C,hφb,rfl⟩:=(hv:vh w M U (.op i s 0 off) v);have px:∀(j:Nat) (l:Lf),cells[j]?=some l->∃u,w.cell? ⟨b,0+j,none⟩=some u/\IR w M l u:=λj l hj=>by
           obtain⟨u,hu,hr⟩:=hO.UT (i:=0) (.inr ⟨_,jJ⟩) hφb (by rw[jJ];rfl) j l hj
           exact⟨u,by rw[Qbx]at hu;exact hu,LR.QV (Qc8.1 hi l (QaG hj)) hr⟩
          have key:IR w (λb=>M b\/∃C,U i=some (some (b,C))) (.ip cells off) (.pointer (some ⟨b,0+off,none⟩)):=by
           refine IR.ip cells off b 0 (λi=>(w.cell? ⟨b,0+i,none⟩).getD undef) (.inr ⟨C,hφb⟩) (λi l hl=>?_) (λi l hl=>?_)
           ·obtain⟨u,hu,hr⟩:=px i l hl;simp only[hu,QbG]
           ·obtain⟨u,hu,hr⟩:=px i l hl;simp only[hu,QbG];exact hr.mono (λ_ _=>rfl) Xf
          rw[show 0*s+off=0+off by rw[Qbx]]
          exact IR.lr key
        ·rename_i i n s;cases hc:(i == id&&(n*s == cells.length))with
         |false=>exact hv.mono he
         |true =>
          simp only[ma,Qbb]at hc;obtain⟨rfl,hns⟩:=hc;obtain⟨b,hφb,rfl⟩:=(hv:vh w M U (.bs i n s) v);have px:∀(j:Nat) (l:Lf),cells[j]?=some l->∃u,w.cell? ⟨b,0+j,none⟩=some u/\IR w M l u:=λj l hj=>by
           obtain⟨u,hu,hr⟩:=hO.UT (i:=0) (.inr ⟨_,jJ⟩) hφb (by rw[jJ];rfl) j l hj
           exact⟨u,by rw[Qbx]at hu;exact hu,LR.QV (Qc8.1 hi l (QaG hj)) hr⟩
          have Ys:∀(k:Nat) (c:List Lf) (j:Nat) (l:Lf),(chunk s n cells)[k]?=some c->c[j]?=some l->cells[k*s+j]?=some l:=λk c j l hk hj=>by
           obtain⟨qc,rfl⟩:=JW hk;rw[QdL]at hj;split at hj
           ·rw[Qf_]at hj;exact hj
           ·cases hj
          have key:IR w (λb=>M b\/∃C,U i=some (some (b,C))) (.sl false s (chunk s n cells)) (.slice (some ⟨b,0,none⟩) (chunk s n cells).length n):=by
           refine IR.sl false s (chunk s n cells) b 0 n (λk j=>(w.cell? ⟨b,0+k*s+j,none⟩).getD undef) (.inr ⟨1,hφb⟩) (by rw[JX];exact fa _) (λh=>by cases h) (λk c hk=>?_) (λk c j l hk hj=>?_) (λk c j l hk hj=>?_)
           ·obtain⟨qc,rfl⟩:=JW hk;have hle:(k+1)*s<=n*s:=QdB _ qc;rw[Qb4,QfM]at hle;simp;omega
           ·obtain⟨u,hu,hr⟩:=px _ l (Ys k c j l hk hj);rw[<-Qkg]at hu;simp only[hu,QbG]
           ·obtain⟨u,hu,hr⟩:=px _ l (Ys k c j l hk hj);rw[<-Qkg]at hu;simp only[hu,QbG];exact hr.mono (λ_ _=>rfl) Xf
          rw[JX]at key;exact IR.lr key
        ·exact hv.mono he
       have hW0:Wd G U M (hl (σ.H.set id none)) w:=hW.less λk AH hk=>by
        by_cases uw:k=id
        ·subst uw;rw[w9 (nC hid)]at hk;cases hk
        ·rw[BH uw]at hk;exact hk
       have RL:=QmA hf he hW0 ho.1.2 λb hb=>by
        rcases hb with h|⟨C,h⟩
        ·exact .inl h
        ·obtain⟨q1,q2,q3⟩:=hW.own id o1 b C hid h;refine .inr ⟨q2,q3,λk AH C' hk hp=>?_⟩
         by_cases uw:k=id
         ·subst uw;rw[w9 (nC hid)]at hk;cases hk
         ·rw[BH uw]at hk;exact uw (hW.inj k id AH o1 b C' C hk hid hp h)
       obtain⟨hN,φ',M',QQ⟩:=qv hg2 ho.2 ⟨LG hf he hF ho.1.1,RL,λk hk=>hφ k (by simpa [RG]using hk)⟩
       exact⟨hN,φ',M',QQ⟩
      ·cases hg
    ·cases hg
   ·cases hg
  |Dt id n =>
   simp only[ghost]at hg;split at hg
   ·rename_i σ2 o2 Ve hg2;cases hg;simp only[bp]at ho;have hf:∀l v,LR w M U l v->dF (Qcg id n l).2->LR w M U (Qcg id n l).1 v:=λl v hv hp=>by
     unfold Qcg at hp ⊢;split
     ·rename_i i s off len;cases hc:(i == id&&off == 0)with
      |false=>exact hv
      |true=>simp only[hc,QaF]at hp;obtain⟨rfl,-⟩:=hp;exact hv
     ·exact hv
    obtain⟨hN,φ',M',QQ⟩:=qv hg2 ho.2 ⟨LG hf (Ex.refl _ _ _) hF ho.1.1,QmA hf (Ex.refl _ _ _) hW ho.1.2 λb hb=>.inl hb,λk hk=>hφ k (by simpa [RG]using hk)⟩
    exact⟨hN,φ',M',QQ⟩
   ·cases hg
  |D1 t k sz =>
   simp only[ghost]at hg;split at hg
   ·rename_i c hc;split at hg
    ·rename_i c' W8;have hv:=hF t;rw[hc]at hv;obtain⟨hN,φ',M',QQ⟩:=qv hg ho ⟨Pe hF (Qn_ W8 hv:CR w M U c' _),hW,hφ⟩;exact⟨hN,φ',M',QQ⟩
    ·cases hg
   ·cases hg
  |nJ id k sz =>
   simp only[ghost]at hg;split at hg
   ·rename_i o1 hid;split at hg
    ·rename_i cells p9 jJ;split at hg
     ·rename_i l hk;split at hg
      ·rename_i l' W8;obtain⟨hN,φ',M',QQ⟩:=qv hg ho ⟨hF,Yw hW hid p9 jJ hk λv hv=>QcJ W8 hv,λk hk=>hφ k (by simpa using hk)⟩
       exact⟨hN,φ',M',QQ⟩
      ·cases hg
     ·cases hg
    ·cases hg
   ·cases hg
  |nP t sz e =>
   simp only[ghost]at hg;split at hg
   ·rename_i hc;cases hz:(sz == 0)with
    |true=>rw[hz]at hg;cases hg
    |false =>
     rw[hz]at hg;have hv:=hF t;rw[hc]at hv;have QS:U σ.H.length=none:=hφ _ (fa _);have B6:hl σ.H σ.H.length=none:=by unfold hl;rw[Qbp (fa _)];rfl
     have he:Ex w M U w M (JL U σ.H.length none):=⟨λ_ _=>rfl,λ_ h=>h,uJ _ QS⟩
     have J5:IR w M .fk (tm.getD t undef):=hv;have hvn:∃A,tm.getD t undef=.slice A 0 0:=by
      generalize tm.getD t undef=u at J5;cases J5;exact⟨none,rfl⟩
     obtain⟨hN,φ',M',QQ⟩:=qv hg ho ⟨Pe (λu=>AR.mono he (hF u)) (.inr ⟨eF _ _ _,rfl,rfl,hvn⟩:vh w M (JL U σ.H.length none) (.os σ.H.length sz 0 0) _),
      (by rw [WZ]; exact hW.L2 (⟨false,sz,e,[]⟩:Ob) QS B6 rfl rfl (by simp only [QhT] at hz; show 0<sz; omega)),λk hk=>by
       simp only[Qay,QeU]at hk;rw[s9 _ (by omega)];exact hφ k (by omega)⟩
     exact⟨hN,φ',M',QQ⟩
   ·cases hg
  |QaV id k sz e =>
   simp only[ghost]at hg;split at hg
   ·rename_i o1 hid;split at hg
    ·rename_i cells p9 jJ;split at hg
     ·rename_i hk;cases hz:(sz == 0)with
      |true=>rw[hz]at hg;cases hg
      |false =>
       rw[hz]at hg;simp only[Qdn]at hg;have QS:U σ.H.length=none:=hφ _ (fa _);have B6:hl σ.H σ.H.length=none:=by unfold hl;rw[Qbp (fa _)];rfl
       have he:Ex w M U w M (JL U σ.H.length none):=⟨λ_ _=>rfl,λ_ h=>h,uJ _ QS⟩
       have RL:Wd G (JL U σ.H.length none) M (hl (σ.H++[some ⟨false,sz,e,[]⟩])) w:=by
        rw[WZ];exact hW.L2 (⟨false,sz,e,[]⟩:Ob) QS B6 rfl rfl (by simp only[QhT]at hz;show 0<sz;omega)
       have iq:=nC hid;have QsK:hl (σ.H++[some ⟨false,sz,e,[]⟩]) id=some o1:=by rw[WZ];dsimp only;rw[if_neg (by omega)];exact hid
       have Zb:=Yw (k:=k) (l:=.fk) (l':=.os σ.H.length sz 0 0) RL QsK p9 jJ hk λv hv=>by
        have J5:IR w M .fk v:=hv;cases J5;exact .inr ⟨eF _ _ _,rfl,rfl,none,rfl⟩
       rw[List.set_append_left _ _ iq]at Zb;obtain⟨hN,φ',M',QQ⟩:=qv hg ho ⟨λu=>AR.mono he (hF u),Zb,λk hk=>by
        simp only[Qay,Qjm,QeU]at hk;rw[s9 _ (by omega)];exact hφ k (by omega)⟩
       exact⟨hN,φ',M',QQ⟩
     ·cases hg
    ·cases hg
   ·cases hg
  |bit b=>simp only[ghost]at hg;cases hg;exact⟨rfl,U,M,hF,hW,hφ⟩
  |spec=>simp only[ghost]at hg;cases hg;exact⟨rfl,U,M,hF,hW,hφ⟩
  |skip=>simp only[ghost]at hg;cases hg;exact⟨rfl,U,M,hF,hW,hφ⟩
  |cells c=>simp only[ghost]at hg;cases hg;exact⟨rfl,U,M,hF,hW,hφ⟩
  |rows c=>simp only[ghost]at hg;cases hg;exact⟨rfl,U,M,hF,hW,hφ⟩
  |num n=>simp only[ghost]at hg;cases hg;exact⟨rfl,U,M,hF,hW,hφ⟩
  |pos n=>simp only[ghost]at hg;cases hg;exact⟨rfl,U,M,hF,hW,hφ⟩
  |byte b=>simp only[ghost]at hg;cases hg;exact⟨rfl,U,M,hF,hW,hφ⟩
  |ints b=>simp only[ghost]at hg;cases hg;exact⟨rfl,U,M,hF,hW,hφ⟩
  |draw n cl=>simp only[ghost]at hg;cases hg;exact⟨rfl,U,M,hF,hW,hφ⟩
  |call i r out=>simp only[ghost]at hg;cases hg;exact⟨rfl,U,M,hF,hW,hφ⟩
end
end
section
open Go.RowKit
section
variable {P : Program} {G : bC} {U φ' : Pl} {M M' : Nat -> Prop} {w w' : World} {a : Act} {hs : List Hint} {o : Oper} {ops : Array Oper} {Q : Exit -> Act -> World -> Prop}
theorem Cr(a:Act)(d:O Nat)(v:Value):(a.put d v).tmps.size=a.tmps.size:=by
 cases d <;> simp [Act.put]
theorem put_defers(a:Act)(d:O Nat)(v:Value):(a.put d v).defers=a.defers:=by
 cases d <;> rfl
theorem XG{d t:Nat}{v:Value}(hd:d<a.tmps.size):(a.put (some d) v).tmps.getD t undef=if d=t then v else a.tmps.getD t undef:=by
 simp only[Act.put,QfZ,Array.getElem?_setIfInBounds];by_cases h:d=t
 ·subst h;rw[if_pos rfl,if_pos rfl,if_pos hd];rfl
 ·rw[if_neg h,if_neg h]
theorem Kc{N:Nat}{d:O Nat}{L:List (Nat×AV)}{v:AV}{cv:Value}(hd:Le N d=true)(hN:a.tmps.size=N)(hF:∀t,AR w M U (look L t) (a.tmps.getD t undef))(hv:AR w M U v cv):
  ∀t,AR w M U (look (NO d v L) t) ((a.put d cv).tmps.getD t undef):=λt=>by
 cases d with
 |none=>exact hF t
 |some d =>
  have iq:d<a.tmps.size:=by rw[hN];have:=Qd9 hd;omega
  rw[XG iq];simp only[NO,look];by_cases h:d=t
  ·subst h;rw[if_pos rfl];simp;exact hv
  ·rw[if_neg h];have:(d == t)=false:=by simpa using h
   rw[this];exact hF t
theorem WW{H:List (O Ob)}{news:List Ob}:hl (H++news.map some)=VL (hl H) H.length news:=by
 funext id
 unfold VL hl;by_cases h:H.length<=id/\id<H.length+news.length
 ·rw[if_pos h,Qe3 h.1,Qc0];cases news[id-H.length]? <;> rfl
 ·rw[if_neg h];rcases sh id H.length with h1|h1
  ·rw[Qdz h1]
  ·rw[Qbp (by simp;omega),Qbp h1]
theorem SL{H:List (O Ob)}{id:Nat}(h:H.length<=id):hl H id=none:=by
 unfold hl;rw[Qbp h];rfl
theorem E_{H:List (O Ob)}:∀{AF:List (Nat×O Ob)},(Z_ H AF).length=H.length
 | []=>rfl
 |(u,o) ::r=>by simp only[Z_,Qjm];exact E_
theorem WY{H:List (O Ob)}:∀{AF:List (Nat×O Ob)},(∀u∈AF,u.1<H.length)->hl (Z_ H AF)=PZ (hl H) AF
 | [],_=>rfl
 |(u,o) ::r,h=>by
  have ih:=WY (H:=H) (AF:=r) λx hx=>h x (QaK _ hx)
  have hu:u<(Z_ H r).length:=by rw[E_];exact h (u,o) Qbm
  funext i
  simp only[Z_];unfold PZ;simp only[tg];by_cases hi:u=i
  ·subst hi;rw[w9 hu];simp
  ·have:(u == i)=false:=by simpa using hi
   rw[BH (λe=>hi e.symm),ih,this];rfl
theorem Gy{σ:SS}{s:St}(hd:Le σ.N o.dst=true)(hf:Mz P o σ hs=some s)(dj:dF s.fU)(hS:QG G σ a w){K:Act->World->Prop}(hK:∀a' w',QG G s.σ a' w'->K a' w'):o.wp P a w K NQ:=by
 obtain⟨hN,O7,U,M,hF,hW,hφ⟩:=hS;unfold Mz at hf;split at hf
 ·rename_i r hr;cases hf;refine OT hr dj hF hW (λ_ _ h=>h) (λid h1 h2=>⟨hφ id h1,SL h1⟩) λv w' φ' M' hv sB he hn=>hK _ _ ⟨by rw[Cr];exact hN,by rw[put_defers];exact O7,φ',M',?_,?_,?_⟩
  ·exact Kc hd hN (λt=>AR.mono he (hF t)) hv
  ·rw[WW];exact sB
  ·intro id hid;simp only[Qay,Qbn]at hid;refine QhJ λh=>?_
   rcases hn id h with h1|h1
   ·exact h1 (hφ id (by omega))
   ·omega
 ·split at hf
  ·rename_i r hr;cases hf;refine Qfj hW hF hφ hr dj λv w' hm=>?_
   obtain⟨φ',hv,sB,he,wy⟩:=hm;exact hK _ _ ⟨by rw[Cr];exact hN,by rw[put_defers];exact O7,φ',M,Kc hd hN (λt=>AR.mono he (hF t)) hv,sB,wy⟩
  ·split at hf
   ·rename_i r hr;cases hf;refine We hr dj hF hW (λ_ _ h=>h) (λid h1 h2=>⟨hφ id h1,SL h1⟩) λv w' hm=>?_
    obtain⟨φ',M',hv,sB,he,hn⟩:=hm;refine hK _ _ ⟨by rw[Cr];exact hN,by rw[put_defers];exact O7,φ',M',Kc hd hN (λt=>AR.mono he (hF t)) hv,?_,?_⟩
    ·have hu:∀u∈r.AF,u.1<σ.H.length:=λu hu=>let⟨ob,h⟩:=TP hr u hu;nC h
     rw[WW,E_,WY hu];exact sB
    ·intro id hid;simp only[Qay,Qbn,E_]at hid;refine QhJ λh=>?_
     rcases hn id h with h1|h1
     ·exact h1 (hφ id (by omega))
     ·omega
   ·cases hf
theorem tc{L:Nat->AV}{j:Nat}{b:Bool}(hF:∀t,AR w M U (L t) (a.tmps.getD t undef)){v:AV}(hg:((ops[j]?).bind (·.dst)).map L=some v)(hv:∀cv,AR w M U v cv->cv=.bool b):yielded ops a.tmps j=some b:=by
 unfold yielded;cases hd:(ops[j]?).bind (·.dst)with
 |none=>rw[hd]at hg;cases hg
 |some t =>
  rw[hd]at hg;have h1:L t=v:=by simpa using hg
  have h2:=hF t;rw[h1]at h2;have h3:=hv _ h2;rw[QfZ]at h3;simp only[Qjj];cases ht:a.tmps[t]? with
  |none=>rw[ht]at h3;cases h3
  |some u=>rw[ht]at h3;simp at h3;subst h3;rfl
theorem Eb{L:Nat->AV}{j:Nat}(hF:∀t,AR w M U (L t) (a.tmps.getD t undef)){v:AV}(hg:((ops[j]?).bind (·.dst)).map L=some v)(hv:∀cv,AR w M U v cv->cv=undef):yielded ops a.tmps j=none:=by
 unfold yielded;cases hd:(ops[j]?).bind (·.dst)with
 |none=>rfl
 |some t =>
  rw[hd]at hg;have h1:L t=v:=by simpa using hg
  have h2:=hF t;rw[h1]at h2;have h3:=hv _ h2;rw[QfZ]at h3;simp only[Qjj];cases ht:a.tmps[t]? with
  |none=>rfl
  |some u=>rw[ht]at h3;simp at h3;subst h3;rfl
theorem Ay{b:Bool}{cv:Value}(h:AR w M U (.cm (.one (.bool b))) cv):cv=.bool b:=by
 have h':IR w M (.bool b) cv:=h;cases h';rfl
theorem TD{σ:SS}{p:Prop} [Decidable p] {r:OD}{v:AV}(hd:Le σ.N o.dst=true)(hw:Region.wanted o (yielded ops a.tmps)=decide p)(hN:a.tmps.size=σ.N)(O7:a.defers=[])(hF:∀t,AR w M U (look σ.L t) (a.tmps.getD t undef))(hW:Wd G U M (hl σ.H) w)(hφ:∀id,σ.H.length<=id->U id=none)
  (hf:AJ P (hl σ.H) σ.H.length p (look σ.L) o.op hs=some r) (lN:r.news.isEmpty=true) (hv:gdv p r.v=some v) (dj:dF r.fU) {K:Act->World->Prop} (hK:∀a' w',QG G ⟨σ.N,NO o.dst v σ.L,σ.H⟩ a' w'->K a' w'):
  (if Region.wanted o (yielded ops a.tmps)=true then o.wp P a w K NQ else K (a.put o.dst undef) w):=by
 rw[hw];have iF:∃c,r.v=.cm c/\v=.gd p c:=by
  unfold gdv at hv;split at hv
  ·rename_i c hc;cases hv;exact⟨c,hc,rfl⟩
  ·cases hv
 obtain⟨c,hc,rfl⟩:=iF;have y9:r.news=[]:=by simpa using lN
 by_cases hp:p
 ·rw[if_pos (by simpa using hp)]
  obtain⟨v,w',φ',dC,hr,sB,Dc,hn,hb⟩:=J1 (U:=U) (M:=M) (hD:=hl σ.H) hf dj hp hF hW (λ_ _ h=>h) (λid h1 h2=>⟨hφ id h1,SL h1⟩)
  unfold Oper.wp;rw[dC];have he:Ex w M U w' M φ':=⟨hb,λ_ h=>h,Dc⟩
  rw[hc]at hr;rw[y9,ua]at sB;refine hK _ _ ⟨by rw[Cr];exact hN,by rw[put_defers];exact O7,φ',M,Kc hd hN (λt=>AR.mono he (hF t)) ⟨λ_=>hr,λh=>absurd hp h⟩,sB,λid hid=>?_⟩
  refine QhJ λh=>?_
  rcases hn id h with h1|h1
  ·exact h1 (hφ id hid)
  ·rw[y9]at h1;simp at h1;omega
 ·rw[if_neg (by simpa using hp)]
  exact hK _ _ ⟨by rw[Cr];exact hN,by rw[put_defers];exact O7,U,M,Kc hd hN hF ⟨λh=>absurd h hp,λ_=>rfl⟩,hW,hφ⟩
theorem Mv{σ:SS}(hd:Le σ.N o.dst=true)(hS:QG G σ a w):QG G ⟨σ.N,NO o.dst und σ.L,σ.H⟩ (a.put o.dst undef) w:=by
 obtain⟨hN,O7,U,M,hF,hW,hφ⟩:=hS;exact⟨by rw[Cr];exact hN,by rw[put_defers];exact O7,U,M,Kc hd hN hF ⟨False.elim,λ_=>rfl⟩,hW,hφ⟩
theorem XX{σ:SS}{s:St}(hf:Qcy P ops o σ hs=some s)(dj:dF s.fU)(hS:QG G σ a w){K:Act->World->Prop}(hK:∀a' w',QG G s.σ a' w'->K a' w'):
  (if Region.wanted o (yielded ops a.tmps)=true then o.wp P a w K NQ else K (a.put o.dst undef) w):=by
 unfold Qcy at hf;cases hd:Le σ.N o.dst with
 |false=>rw[hd]at hf;cases hf
 |true =>
  rw[hd]at hf;simp only[QfW,Qdn]at hf;have hS0:=hS;obtain⟨hN,O7,U,M,hF,hW,hφ⟩:=hS;split at hf
  ·rename_i hg;have hw:Region.wanted o (yielded ops a.tmps)=true:=by unfold Region.wanted;rw[hg]
   rw[if_pos hw];exact Gy hd hf dj hS0 hK
  ·rename_i j want hg;have Yg:Region.wanted o (yielded ops a.tmps)=(yielded ops a.tmps j == some want):=by unfold Region.wanted;rw[hg]
   split at hf
   ·rename_i b t fK hv;have hy:yielded ops a.tmps j=some b:=tc hF hv λcv h=>Ay h
    cases iS:(t == want)with
    |true =>
     rw[iS]at hf;simp only[QaF]at hf;cases Zc:Mz P o σ fK with
     |none=>rw[Zc]at hf;cases hf
     |some s0 =>
      rw[Zc]at hf;cases hf;obtain⟨RN,ho⟩:=dj;rw[Yg,hy,RN,if_pos (by simpa using iS)]
      exact Gy hd Zc ho hS0 hK
    |false =>
     rw[iS]at hf;cases hf;obtain⟨RN,-⟩:=dj;rw[Yg,hy,RN,if_neg (by simpa using iS)]
     exact hK _ _ (Mv hd hS0)
   ·rename_i p b t fK hv;cases iS:(t == want)with
    |true =>
     rw[iS]at hf;simp only[QaF]at hf;cases Zc:Mz P o σ fK with
     |none=>rw[Zc]at hf;cases hf
     |some s0 =>
      rw[Zc]at hf;cases hf;obtain⟨⟨hp,RN⟩,ho⟩:=dj;have hy:yielded ops a.tmps j=some b:=tc (w:=w) (U:=U) (M:=M) hF hv λcv h=>Ay (w:=w) (U:=U) (M:=M) (h.1 hp)
      rw[Yg,hy,RN,if_pos (by simpa using iS)]
      exact Gy hd Zc ho hS0 hK
    |false =>
     rw[iS]at hf;cases hf;obtain⟨⟨hp,RN⟩,-⟩:=dj;have hy:yielded ops a.tmps j=some b:=tc (w:=w) (U:=U) (M:=M) hF hv λcv h=>Ay (w:=w) (U:=U) (M:=M) (h.1 hp)
     rw[Yg,hy,RN,if_neg (by simpa using iS)]
     exact hK _ _ (Mv hd hS0)
   ·rename_i p b fK hv;cases hf;have hy:yielded ops a.tmps j=none:=Eb (U:=U) (M:=M) hF hv λcv h=>h.2 dj.1
    rw[Yg,hy,if_neg (by simp)]
    exact hK _ _ (Mv hd hS0)
   ·rename_i b fK hv;have hy:yielded ops a.tmps j=some b:=tc hF hv λcv h=>Ay h
    split at hf
    ·rename_i r hr;cases lN:r.news.isEmpty with
     |false=>rw[lN]at hf;cases hf
     |true =>
      rw[lN]at hf;simp only[QaF]at hf;cases iF:gdv (b=want) r.v with
      |none=>rw[iF]at hf;cases hf
      |some v =>
       rw[iF]at hf;cases hf;exact TD (p:=b=want) hd (by rw[Yg,hy];cases b <;> cases want <;> rfl) hN O7 hF hW hφ hr lN iF dj hK
    ·cases hf
   ·rename_i p b fK hv;split at hf
    ·rename_i r hr;cases lN:r.news.isEmpty with
     |false=>rw[lN]at hf;cases hf
     |true =>
      rw[lN]at hf;simp only[QaF]at hf;cases iF:gdv (p/\b=want) r.v with
      |none=>rw[iF]at hf;cases hf
      |some v =>
       rw[iF]at hf;cases hf
       haveI:Decidable (p/\b=want):=Classical.propDecidable _
       refine TD (p:=p/\b=want) hd ?_ hN O7 hF hW hφ hr lN iF dj hK;rw[Yg];by_cases hp:p
       ·have hy:yielded ops a.tmps j=some b:=tc (w:=w) (U:=U) (M:=M) hF hv λcv h=>Ay (w:=w) (U:=U) (M:=M) (h.1 hp)
        rw[hy];by_cases hb:b=want
        ·simp [hp,hb]
        ·simp [hp,hb]
       ·have hy:yielded ops a.tmps j=none:=Eb (U:=U) (M:=M) hF hv λcv h=>h.2 hp
        rw[hy];simp [hp]
    ·cases hf
   ·cases hf
theorem J2{σ σ':SS}{ob:List Prop}{fK:List Hint}(hg:ghost hs σ=some (σ',ob,fK))(ho:dF ob)(hS:QG G σ a w):QG G σ' a w:=by
 obtain⟨hN,O7,U,M,hC⟩:=hS;obtain⟨h1,φ',M',h2⟩:=qv hg ho hC;exact⟨by rw[h1];exact hN,O7,φ',M',h2⟩
theorem D_:∀(l:List Oper) {σ:SS} {hs:List Hint} {s:St} {a:Act} {w:World},Bx P ops l σ hs=some s->dF s.fU->QG G σ a w->(∀a' w',QG G s.σ a' w'->Q .normal a' w')->wpList P ops Q l a w
 | [],σ,hs,s,a,w,hf,_,hS,hQ=>by cases hf;exact hQ a w hS
 |o ::l,σ,hs,s,a,w,hf,dj,hS,hQ=>by
  simp only[Bx]at hf;split at hf
  ·rename_i σ0 o0 Vd hg;split at hf
   ·rename_i s1 h1;split at hf
    ·rename_i s2 h2;cases hf;simp only[bp]at dj;have hS0:=J2 hg dj.1.1 hS;have h3:=XX (K:=wpList P ops Q l) h1 dj.1.2 hS0 λa' w' QQ=>D_ l h2 dj.2 QQ hQ
     simp only[wpList];split
     ·rename_i hw;rw[if_pos hw]at h3;exact .inl (Qek (λ_ _ h=>h) h3)
     ·rename_i hw;rw[if_neg hw]at h3;exact h3
    ·cases hf
   ·cases hf
  ·cases hf
end
end
section
open Go.RowKit
section
variable {P : Program} {G : bC} {U φ' : Pl} {M M' : Nat -> Prop} {w w' : World} {a : Act} {hs : List Hint} {o : Oper} {ops : Array Oper} {Q : Exit -> Act -> World -> Prop} {σ : SS} {mF : List Nat} {cl : List (Nat × Nat)}
inductive UJ (lo:Nat):List Dn->Nat->Nat->Prop
 |nil:UJ lo [] 0 lo
 |cons {r:List Dn} {i b:Nat} (dst:O Nat) (v:AV) (news:List Ob) (AF:List (Nat×O Ob)) (rd:List (Nat×Nat×Nat×List Lf)):UJ lo r i b->UJ lo (⟨i,dst,v,b,news,AF,rd⟩ ::r) (i+1) (b+news.length)
theorem UJ.lt{lo i b:Nat}{l:List Dn}(h:UJ lo l i b):lo<=b/\∀d∈l,d.i<i/\lo<=d.base/\d.base+d.news.length<=b:=by
 induction h with
 |nil=>exact⟨fa _,λd hd=>by cases hd⟩
 |cons dst v news AF rd _ ih =>
  refine⟨by omega,λd hd=>?_⟩
  rcases Qbt.1 hd with rfl|hd
  ·exact⟨Nat.lt_succ_self _,ih.1,fa _⟩
  ·have:=ih.2 d hd;omega
theorem UJ.inj{lo i b:Nat}{l:List Dn}(h:UJ lo l i b):∀x∈l,∀y∈l,x.i=y.i->x=y:=by
 induction h with
 |nil=>intro x hx;cases hx
 |cons dst v news AF rd h ih =>
  have hl:=h.lt.2;intro x hx y hy e;rcases Qbt.1 hx with rfl|hx <;> rcases Qbt.1 hy with rfl|hy
  ·rfl
  ·have:=(hl y hy).1;simp only at e;omega
  ·have:=(hl x hx).1;simp only at e;omega
  ·exact ih x hx y hy e
theorem Em{lo i b:Nat}{H:List (O Ob)}{S:Nat->Bool}{l:List Dn}(h:UJ lo l i b){id:Nat}(hid:b<=id\/id<lo):zd H S l id=hl H id:=by
 induction h with
 |nil=>rfl
 |cons dst v news AF rd h ih =>
  rename_i r i b;have lS:=h.lt.1;simp only[zd];have e1:(Nat.ble b id&&Nat.blt id (b+news.length))=false:=by
   rw[QmC];rcases hid with h1|h1
   ·right;rw[<-QhA];intro h2;have:=Qd9 h2;omega
   ·left;rw[<-QhA];intro h2;have:=Qd9 h2;omega
  rw[e1];refine ih ?_
  rcases hid with h1|h1
  ·left;omega
  ·right;exact h1
theorem uk{lo i b:Nat}{H:List (O Ob)}{S:Nat->Bool}{l:List Dn}(h:UJ lo l i b){d:Dn}(hd:d∈l){id:Nat}(h1:d.base<=id)(h2:id<d.base+d.news.length):zd H S l id=bif S d.i then d.news[id-d.base]? else none:=by
 induction h with
 |nil=>cases hd
 |cons dst v news AF rd h ih =>
  rename_i r i b;simp only[zd];rcases Qbt.1 hd with rfl|hd
  ·have e1:(Nat.ble b id&&Nat.blt id (b+news.length))=true:=by
    rw[ma];exact⟨Qj2 h1,Qj2 h2⟩
   rw[e1];rfl
  ·have:=(h.lt.2 d hd).2.2;have e1:(Nat.ble b id&&Nat.blt id (b+news.length))=false:=by
    rw[QmC];left;rw[<-QhA];intro h3;have:=Qd9 h3;omega
   rw[e1];exact ih hd
theorem Al{lo i b:Nat}{H:List (O Ob)}{S:Nat->Bool}{l:List Dn}(h:UJ lo l i b)(id:Nat):(∃d∈l,d.base<=id/\id<d.base+d.news.length)\/((b<=id\/id<lo)/\zd H S l id=hl H id):=by
 by_cases hid:b<=id\/id<lo
 ·exact .inr ⟨hid,Em h hid⟩
 ·left;induction h with
  |nil=>omega
  |cons dst v news AF rd h ih =>
   rename_i r i b;by_cases h1:b<=id
   ·exact⟨_,Qbm,h1,by simp only;omega⟩
   ·obtain⟨d,hd,h2⟩:=ih (by omega)
    exact⟨d,QaK _ hd,h2⟩
theorem lk{L:List (Nat×AV)}{S:Nat->Bool}{t:Nat}:∀{l:List Dn},(∃d∈l,d.dst=some t/\S d.i=true/\Am L mF S l t=d.v)\/((∀d∈l,d.dst=some t->S d.i=false)/\Am L mF S l t=bif mF.contains t then .PY else look L t)
 | []=>.inr ⟨λd hd=>(by cases hd),rfl⟩
 |d ::r=>by
  simp only[Am];cases hc:(d.dst == some t&&S d.i)with
  |true =>
   simp only[ma,Qbb]at hc;exact .inl ⟨d,Qbm,hc.1,hc.2,rfl⟩
  |false =>
   simp only[QmC,QhT]at hc;rcases lk (L:=L) (S:=S) (t:=t) (l:=r)with⟨x,hx,h1,h2,h3⟩|⟨h1,h2⟩
   ·exact .inl ⟨x,QaK _ hx,h1,h2,h3⟩
   ·refine .inr ⟨λx hx e=>?_,h2⟩
    rcases Qbt.1 hx with rfl|hx
    ·rcases hc with h|h
     ·exact absurd e h
     ·exact h
    ·exact h1 x hx e
theorem BF{id:Nat}{o:O Ob}:∀{l:List (Nat×O Ob)},tg l id=some o->(id,o)∈l
 | [],h=>by cases h
 |(u,x) ::r,h=>by
  simp only[tg]at h;cases hu:(u == id)with
  |true =>
   rw[hu]at h;cases h;have:u=id:=by simpa using hu
   subst this;simp
  |false=>rw[hu]at h;exact QaK _ (BF h)
theorem CH{S:Nat->Bool}{id:Nat}:∀{l:List Dn},(∀x∈l,∀ob,(id,ob)∈x.AF->S x.i=false)->vw S l id=none
 | [],_=>rfl
 |d ::r,h=>by
  have ih:=CH (S:=S) (id:=id) (l:=r) λx hx=>h x (QaK _ hx)
  simp only[vw];split
  ·rename_i ob hu;cases hc:S d.i with
   |false=>rw[hc]at hu;cases hu
   |true =>
    rw[hc]at hu;have:=h d Qbm ob (BF hu);rw[hc]at this;cases this
  ·exact ih
theorem JM{S S':Nat->Bool}{id:Nat}:∀{l:List Dn},(∀x∈l,∀ob,(id,ob)∈x.AF->S x.i=S' x.i)->vw S l id=vw S' l id
 | [],_=>rfl
 |d ::r,h=>by
  have ih:=JM (S:=S) (S':=S') (id:=id) (l:=r) λx hx=>h x (QaK _ hx)
  simp only[vw];rw[ih];cases hf:tg d.AF id with
  |none=>cases S d.i <;> cases S' d.i <;> rfl
  |some ob=>rw[h d Qbm ob (BF hf)]
theorem TM{S:Nat->Bool}{u:Nat}{o:O Ob}{d:Dn}(hu:tg d.AF u=some o)(hS:S d.i=true):∀{l:List Dn},d∈l->(∀x∈l,∀AH,(u,AH)∈x.AF->x=d)->vw S l u=some o
 |x ::r,hd,h=>by
  simp only[vw];split
  ·rename_i o' hu';cases hc:S x.i with
   |false=>rw[hc]at hu';cases hu'
   |true =>
    rw[hc]at hu';simp only[QaF]at hu';have:=h x Qbm o' (BF hu');subst this;rw[hu]at hu';exact hu'.symm
  ·rename_i hn;rcases Qbt.1 hd with rfl|hd
   ·rw[hS]at hn;simp only[QaF]at hn;rw[hu]at hn;cases hn
   ·exact TM hu hS hd λx hx=>h x (QaK _ hx)
theorem Wc{i id:Nat}{h:Nat->O Ob}{ob:Ob}(e:view ops cl i h id=some ob):h id=some ob/\∀j,Sq cl id=some j->j=i\/QgQ ops i j=true:=by
 unfold view at e;split at e
 ·rename_i j hj;cases hc:(j == i)with
  |false =>
   rw[hc]at e;simp only[Qdn]at e;split at e
   ·rename_i AH ho;cases hb:QgQ ops i j with
    |false=>rw[hb]at e;cases e
    |true =>
     rw[hb]at e;cases e;exact⟨ho,λj' h=>by rw[hj]at h;cases h;exact .inr hb⟩
   ·cases e
  |true=>rw[hc]at e;exact⟨e,λj' h=>by rw[hj]at h;cases h;exact .inl (by simpa using hc)⟩
 ·rename_i hj;exact⟨e,λj' h=>by rw[hj]at h;cases h⟩
theorem Yr{i j:Nat}{listed:Array Bool}(hb:QgQ ops i j=true)(y4:∀j k,listed.getD j false=true->k∈ju (ops.getD j default)->listed.getD k false=true)(hj:listed.getD j false=true):listed.getD i false=true:=by
 unfold QgQ at hb;obtain⟨k,hk,h⟩:=Qf0.1 hb;rw[QeZ]at h;rcases h with h|h
 ·have:k=i:=by simpa using h
  exact this▸y4 j k hj hk
 ·exact y4 k i (y4 j k hj hk) (by simpa using h)
def Qgj(P:Program)(ops:Array Oper)(σ:SS)(mF:List Nat)(cl:List (Nat×Nat))(d:Dn)(o:Oper)(post:List Dn):Prop:=
 (d.AF=[]/\∃(r:OD) (hs:List Hint),Qdd P ops o (view ops cl d.i (zd σ.H (ju o).contains post)) d.base (Am σ.L mF (ju o).contains post) hs=some r/\dF r.fU/\r.v=d.v/\r.news=d.news)\/
 (o.guard=none/\(∀u∈d.AF,Sq cl u.1=some d.i)/\∃(r:Wr) (hs:List Hint),z6 P (view ops cl d.i (zd σ.H (ju o).contains post)) d.base (Am σ.L mF (ju o).contains post) o.op hs=some r/\dF r.fU/\r.v=d.v/\r.news=d.news/\r.AF=d.AF)\/
 (o.guard=none/\d.AF=[]/\d.news=[]/\∃(q:Nat×Nat×Nat×List Lf) (Qz:List Prop),QiO P σ.H (Am σ.L mF (ju o).contains post) o.op=some (d.v,q,Qz)/\dF Qz/\q∈d.rd)
theorem Nh(h:BG o=true):o.guard=none:=by
 unfold BG at h;split at h
 ·assumption
 ·cases h
structure QaP (P:Program) (ops:Array Oper) (σ:SS) (mF:List Nat) (cl:List (Nat×Nat)) (n:Nat) (full:List Dn) (b:Nat):Prop where
 wf:UJ σ.H.length full n b
 op:∀j,j<n->∃(pre post:List Dn) (d:Dn) (o:Oper),full=pre++d ::post/\d.i=j/\ops[j]?=some o/\d.dst=o.dst/\Le σ.N o.dst=true/\UJ σ.H.length post j d.base/\Qgj P ops σ mF cl d o post
theorem M6:∀{l:List Oper} {i:Nat} {done:List Dn} {base:Nat} {hs:List Hint} {full:List Dn} {b:Nat} {ob:List Prop} {fK:List Hint},dgo P ops σ mF cl i l done base hs=some (full,b,ob,fK)->dF ob->(∀k,l[k]?=ops[i+k]?\/l.length<=k)->UJ σ.H.length done i base->
  ∃pre,full=pre++done/\UJ σ.H.length full (i+l.length) b/\∀k,k<l.length->∃(pre post:List Dn) (d:Dn) (o:Oper),full=pre++d ::post/\d.i=i+k/\ops[i+k]?=some o/\d.dst=o.dst/\Le σ.N o.dst=true/\UJ σ.H.length post (i+k) d.base/\Qgj P ops σ mF cl d o post
 | [],i,done,base,hs,full,b,ob,fK,hf,_,_,hw=>by
  simp only[dgo]at hf;cases hf;exact⟨[],rfl,hw,λk hk=>by simp at hk⟩
 |o ::l,i,done,base,hs,full,b,ob,fK,hf,ho,hl,hw=>by
  simp only[dgo]at hf;have h0:ops[i]?=some o:=by
   rcases hl 0 with h|h
   ·rw[QhF]at h;rw[<-h];rfl
   ·simp at h
  have Ko:∀k,l[k]?=ops[i+1+k]?\/l.length<=k:=λk=>by
   rcases hl (k+1)with h|h
   ·left;rw[show i+1+k=i+(k+1) by omega,<-h];rfl
   ·right;simpa using h
  cases hd:Le σ.N o.dst with
  |false=>rw[hd]at hf;cases hf
  |true =>
   rw[hd]at hf;simp only[QfW,Qdn]at hf;split at hf
   ·rename_i r hr;split at hf
    ·rename_i d1 b1 TZ Ud h1;cases hf;rw[bp]at ho;obtain⟨pre,e,hwf,o6⟩:=M6 h1 ho.2 Ko (UJ.cons o.dst r.v r.news [] [] hw);refine⟨pre++[⟨i,o.dst,r.v,base,r.news,[],[]⟩],by rw[e];simp,by rw[QaA,show i+(l.length+1)=i+1+l.length by omega];exact hwf,λk hk=>?_⟩
     cases k with
     |zero=>exact⟨pre,done,_,o,e,rfl,h0,rfl,hd,hw,.inl ⟨rfl,r,hs,hr,ho.1,rfl,rfl⟩⟩
     |succ k =>
      have:=o6 k (by simpa using hk)
      rw[show i+1+k=i+(k+1) by omega]at this
      exact this
    ·cases hf
   ·split at hf
    ·rename_i r ir;cases hc:(BG o&&r.AF.all (λu=>Sq cl u.1 == some i))with
     |false=>rw[hc]at hf;cases hf
     |true =>
      rw[hc]at hf;simp only[QaF]at hf;rw[ma]at hc;split at hf
      ·rename_i d1 b1 TZ Ud h1;cases hf;rw[bp]at ho;obtain⟨pre,e,hwf,o6⟩:=M6 h1 ho.2 Ko (UJ.cons o.dst r.v r.news r.AF [] hw);refine⟨pre++[⟨i,o.dst,r.v,base,r.news,r.AF,[]⟩],by rw[e];simp,by rw[QaA,show i+(l.length+1)=i+1+l.length by omega];exact hwf,λk hk=>?_⟩
       cases k with
       |zero=>exact⟨pre,done,_,o,e,rfl,h0,rfl,hd,hw,.inr (.inl ⟨Nh hc.1,λu hu=>by simpa using Qc8.1 hc.2 u hu,r,hs,ir,ho.1,rfl,rfl,rfl⟩)⟩
       |succ k =>
        have:=o6 k (by simpa using hk)
        rw[show i+1+k=i+(k+1) by omega]at this
        exact this
      ·cases hf
    ·split at hf
     ·rename_i v q Qz ir;cases hc:BG o with
      |false=>rw[hc]at hf;cases hf
      |true =>
       rw[hc]at hf;simp only[QaF]at hf;split at hf
       ·rename_i d1 b1 TZ Ud h1;cases hf;rw[bp]at ho;obtain⟨pre,e,hwf,o6⟩:=M6 h1 ho.2 Ko (UJ.cons o.dst v [] [] [q] hw);refine⟨pre++[⟨i,o.dst,v,base,[],[],[q]⟩],by rw[e];simp,by rw[QaA,show i+(l.length+1)=i+1+l.length by omega];exact hwf,λk hk=>?_⟩
        cases k with
        |zero=>exact⟨pre,done,_,o,e,rfl,h0,rfl,hd,hw,.inr (.inr ⟨Nh hc,rfl,rfl,q,Qz,ir,ho.1,by simp⟩)⟩
        |succ k =>
         have:=o6 k (by simpa using hk)
         rw[show i+1+k=i+(k+1) by omega]at this
         exact this
       ·cases hf
     ·cases hf
theorem YO{h hD:Nat->O Ob}{L:Nat->AV}{base:Nat}{r:OD}(hf:Qdd P ops o h base L hs=some r)(dj:dF r.fU)(hF:∀t,AR w M U (L t) (a.tmps.getD t undef))(hW:Wd G U M hD w)(fh:∀id ob,h id=some ob->hD id=some ob)
  (td:∀id,base<=id->id<base+r.news.length->U id=none/\hD id=none) {K:Act->World->Prop}
  (hK:∀v w' φ' M',AR w' M' φ' r.v v->Wd G φ' M' (VL hD base r.news) w'->Ex w M U w' M' φ'->(∀id,φ' id≠none->U id≠none\/(base<=id/\id<base+r.news.length))->K (a.put o.dst v) w'):
  (if Region.wanted o (yielded ops a.tmps)=true then o.wp P a w K NQ else K (a.put o.dst undef) w):=by
 unfold Qdd at hf;split at hf
 ·rename_i hg;have hw:Region.wanted o (yielded ops a.tmps)=true:=by unfold Region.wanted;rw[hg]
  rw[if_pos hw];exact OT hf dj hF hW fh td hK
 ·rename_i j want hg;have Yg:Region.wanted o (yielded ops a.tmps)=(yielded ops a.tmps j == some want):=by unfold Region.wanted;rw[hg]
  split at hf
  ·rename_i b t fK hv;have hy:yielded ops a.tmps j=some b:=tc hF hv λcv h=>Ay h
   cases iS:(t == want)with
   |true =>
    rw[iS]at hf;simp only[QaF]at hf;cases Zc:dop P h base L o.op fK with
    |none=>rw[Zc]at hf;cases hf
    |some r0 =>
     rw[Zc]at hf;cases hf;obtain⟨RN,ho⟩:=dj;rw[Yg,hy,RN,if_pos (by simpa using iS)]
     exact OT Zc ho hF hW fh td hK
   |false =>
    rw[iS]at hf;cases hf;obtain⟨RN,-⟩:=dj;rw[Yg,hy,RN,if_neg (by simpa using iS)]
    exact hK undef w U M ⟨False.elim,λ_=>rfl⟩ (by rw[ua];exact hW) (Ex.refl _ _ _) λ_ h=>.inl h
  ·rename_i p b fK hv;cases hf;have hy:yielded ops a.tmps j=none:=Eb (U:=U) (M:=M) hF hv λcv h=>h.2 dj.1
   rw[Yg,hy,if_neg (by simp)]
   exact hK undef w U M ⟨False.elim,λ_=>rfl⟩ (by rw[ua];exact hW) (Ex.refl _ _ _) λ_ h=>.inl h
  ·rename_i b fK hv;have hy:yielded ops a.tmps j=some b:=tc hF hv λcv h=>Ay h
   split at hf
   ·rename_i r0 hr;cases lN:r0.news.isEmpty with
    |false=>rw[lN]at hf;cases hf
    |true =>
     rw[lN]at hf;simp only[QaF]at hf;cases iF:gdv (b=want) r0.v with
     |none=>rw[iF]at hf;cases hf
     |some v =>
      rw[iF]at hf;cases hf;have y9:r0.news=[]:=by simpa using lN
      have QsJ:∃c,r0.v=.cm c/\v=.gd (b=want) c:=by
       unfold gdv at iF;split at iF
       ·rename_i c hc;cases iF;exact⟨c,hc,rfl⟩
       ·cases iF
      obtain⟨c,hc,rfl⟩:=QsJ;rw[Yg,hy];by_cases hp:b=want
      ·rw[if_pos (by simp [hp])]
       obtain⟨v,w',φ',dC,TW,sB,Dc,hn,hb⟩:=J1 (U:=U) (M:=M) (hD:=hD) hr dj hp hF hW fh (λid h1 h2=>by rw[y9]at h2;simp at h2;omega)
       unfold Oper.wp;rw[dC];rw[hc]at TW;rw[y9]at sB hn;exact hK v w' φ' M ⟨λ_=>TW,λh=>absurd hp h⟩ sB ⟨hb,λ_ h=>h,Dc⟩ hn
      ·rw[if_neg (by simp [hp])]
       exact hK undef w U M ⟨λh=>absurd h hp,λ_=>rfl⟩ (by rw[ua];exact hW) (Ex.refl _ _ _) λ_ h=>.inl h
   ·cases hf
  ·cases hf
def QjB(G:bC)(σ:SS)(mF:List Nat)(full:List Dn)(listed:Array Bool)(a:Act)(w:World):Prop:=
 a.tmps.size=σ.N/\a.defers=[]/\∃U M,(∀t,AR w M U (Am σ.L mF (λi=>listed.getD i false) full t) (a.tmps.getD t undef))/\Wd G U M (pv σ.H (λi=>listed.getD i false) full) w/\
  ∀id,σ.H.length<=id->(∀d∈full,listed.getD d.i false=true->¬(d.base<=id/\id<d.base+d.news.length))->U id=none
theorem Ph{o:Oper}{j:Nat}:j∈ju o↔∃e∈o.after,Region.binds .any e=true/\e.on=j:=by
 unfold ju;simp only[QdX,Qf2,Array.mem_toList_iff];constructor
 ·rintro⟨e,⟨h1,h2⟩,h3⟩;exact⟨e,h1,h2,h3⟩
 ·rintro⟨e,h1,h2,h3⟩;exact⟨e,⟨h1,h2⟩,h3⟩
theorem QaP.Qmm{n b:Nat}{full:List Dn}(hD:QaP P ops σ mF cl n full b):∀x∈full,∀u ob,(u,ob)∈x.AF->Sq cl u=some x.i:=λx hx u ob hu=>by
 obtain⟨pre,post,d,o,e,hdi,-,-,-,-,ir⟩:=hD.op x.i (hD.wf.lt.2 x hx).1;have:d=x:=hD.wf.inj d (by rw[e];simp) x hx hdi
 subst this;rcases ir with⟨h,-⟩|⟨-,h,-⟩|⟨-,h,-⟩
 ·rw[h]at hu;cases hu
 ·exact h (u,ob) hu
 ·rw[h]at hu;cases hu
theorem Ps{q:Nat×Nat×Nat×List Lf}{o:O Ob}:∀{l:List (Nat×O Ob)},dF (ZV q l)->(q.1,o)∈l->rdP q o
 | [],_,h=>by cases h
 |(u,x) ::r,ha,h=>by
  simp only[ZV]at ha;cases hu:(u == q.1)with
  |true =>
   rw[hu]at ha;rcases Qbt.1 h with h|h
   ·cases h;exact ha.1
   ·exact Ps ha.2 h
  |false =>
   rw[hu]at ha;rcases Qbt.1 h with h|h
   ·cases h;simp at hu
   ·exact Ps ha h
theorem VQ{q:Nat×Nat×Nat×List Lf}{o:O Ob}{x:Dn}:∀{l:List Dn},dF (VP q l)->x∈l->(q.1,o)∈x.AF->rdP q o
 |d ::r,ha,hx,h=>by
  simp only[VP,bp]at ha;rcases Qbt.1 hx with rfl|hx
  ·exact Ps ha.1 h
  ·exact VQ ha.2 hx h
theorem ZW{full:List Dn}{q:Nat×Nat×Nat×List Lf}:∀{l:List (Nat×Nat×Nat×List Lf)},dF (QkS full l)->q∈l->dF (VP q full)
 |d ::r,ha,hx=>by
  simp only[QkS,bp]at ha;rcases Qbt.1 hx with rfl|hx
  ·exact ha.1
  ·exact ZW ha.2 hx
theorem VO{full:List Dn}{d:Dn}{q:Nat×Nat×Nat×List Lf}:∀{l:List Dn},dF (VN full l)->d∈l->q∈d.rd->dF (VP q full)
 |x ::r,ha,hx,h=>by
  simp only[VN,bp]at ha;rcases Qbt.1 hx with rfl|hx
  ·exact ZW ha.1 h
  ·exact VO ha.2 hx h
theorem V8{S:Nat->Bool}{id:Nat}{o:O Ob}:∀{l:List Dn},vw S l id=some o->∃x∈l,(id,o)∈x.AF
 | [],h=>by cases h
 |d ::r,h=>by
  simp only[vw]at h;split at h
  ·rename_i ob hu;cases h;cases hS:S d.i with
   |false=>rw[hS]at hu;cases hu
   |true=>rw[hS]at hu;exact⟨d,Qbm,BF hu⟩
  ·obtain⟨x,hx,h1⟩:=V8 h;exact⟨x,QaK _ hx,h1⟩
theorem Qb7{r:Bool}{n off:Nat}{cs T8:List Lf}(h:(T8.drop off).take ((cs.drop off).take n).length=(cs.drop off).take n)(hr:(r||n == 1)=true){c:Cm}(hc:wb r n off cs=some c):wb r n off T8=some c:=by
 unfold wb at hc ⊢;cases r with
 |true =>
  simp only[QaF]at hc ⊢;cases hl:(((cs.drop off).take n).length == n)with
  |false=>rw[hl]at hc;cases hc
  |true =>
   have Ko:((cs.drop off).take n).length=n:=by simpa using hl
   rw[Ko]at h;rw[h,hl];rw[hl]at hc;exact hc
 |false =>
  have hn:n=1:=by simpa using hr
  subst hn;simp only[Qdn]at hc ⊢;cases ho:cs[off]? with
  |none=>rw[ho]at hc;cases hc
  |some x =>
   have iq:=(pB.1 ho).1;have h1:(cs.drop off).take 1=[x]:=by
    rw[List.take_one,List.head?_drop,ho];rfl
   rw[h1]at h;have h2:T8[off]?=some x:=by
    have h3:((T8.drop off).take ([x]:List Lf).length)[0]?=some x:=by rw[h];rfl
    rw[QdL]at h3;simpa using h3
   rw[h2,<-ho];exact hc
theorem Qh4{n b j:Nat}{full:List Dn}{listed:Array Bool}(hD:QaP P ops σ mF cl n full b)(hrd:dF (VN full full))(QeS:∀x∈full,∀y∈full,∀t,x.dst=some t->y.dst=some t->x=y)(rF:∀x∈full,∀t,x.dst=some t->mF.contains t=true)
  (inv:QjB G σ mF full listed a w) (Qsr:∀j k,listed.getD j false=true->k∈ju (ops.getD j default)->listed.getD k false=true) (hj:j<n) (hun:listed.getD j true=false) (Qe0:∀k∈ju (ops.getD j default),listed.getD k false=true) {K:Act->World->Prop} (hK:∀a' w',QjB G σ mF full (listed.setIfInBounds j true) a' w'->K a' w'):
  wpOp P ops Q j K a w:=by
 obtain⟨pre,post,d,o,Qlj,rfl,hoj,Ye,Qkk,Qqe,ir⟩:=hD.op j hj;obtain⟨hN,O7,U,M,hF,hW,hφ⟩:=inv;have Nk:∀x∈post,x∈full:=λx hx=>by rw[Qlj];simp [hx]
 have IF:d∈full:=by rw[Qlj];simp
 have Qe2:listed.getD d.i false=false:=getD_both hun;have hog:ops.getD d.i default=o:=by simp [QfZ,hoj]
 rw[hog]at Qe0;have iq:=hD.wf.lt;have Qki:=hD.Qmm;have Kq:∀k,k≠d.i->(listed.setIfInBounds d.i true).getD k false=listed.getD k false:=λk hk=>getD_set_ne false (Ne.symm hk)
 have qc:d.i<listed.size:=by
  rcases sh d.i listed.size with h|h
  ·exact h
  ·simp [QiQ h]at hun
 have Lk:(listed.setIfInBounds d.i true).getD d.i false=true:=by simp [QfZ,qc]
 -- TJ Qvu Qk5 it QtZ
 have hFL:∀t,AR w M U (Am σ.L mF (ju o).contains post t) (a.tmps.getD t undef):=λt=>by
  rcases lk (mF:=mF) (L:=σ.L) (S:=(ju o).contains) (t:=t) (l:=post)with⟨x,hx,h1,h2,h3⟩|⟨h1,h2⟩
  ·rw[h3];have wu:listed.getD x.i false=true:=Qe0 x.i (by simpa using h2)
   have h4:=hF t;rcases lk (mF:=mF) (L:=σ.L) (S:=λi=>listed.getD i false) (t:=t) (l:=full)with⟨y,hy,g1,g2,g3⟩|⟨g1,g2⟩
   ·rw[g3,QeS y hy x (Nk x hx) t g1 h1]at h4;exact h4
   ·rw[g1 x (Nk x hx) h1]at wu;cases wu
  ·rw[h2];cases hc:mF.contains t with
   |true=>trivial
   |false =>
    have h4:=hF t;rcases lk (mF:=mF) (L:=σ.L) (S:=λi=>listed.getD i false) (t:=t) (l:=full)with⟨y,hy,g1,g2,g3⟩|⟨g1,g2⟩
    ·rw[rF y hy t g1]at hc;cases hc
    ·rw[g2,hc]at h4;exact h4
 -- TJ objects Qk5 it QtZ
 have fh:∀id ob,view ops cl d.i (zd σ.H (ju o).contains post) id=some ob->pv σ.H (λi=>listed.getD i false) full id=some ob:=λid ob hv=>by
  obtain⟨hid,y4⟩:=Wc hv;have hu:vw (λi=>listed.getD i false) full id=none:=CH λx hx AH DI=>by
   rcases y4 x.i (Qki x hx id AH DI)with h|h
   ·rw[h];exact Qe2
   ·cases wu:listed.getD x.i false with
    |false=>rfl
    |true=>rw[Yr h Qsr wu]at Qe2;cases Qe2
  unfold pv;rw[hu];rcases Al (H:=σ.H) (S:=(ju o).contains) Qqe id with⟨x,hx,h1,h2⟩|⟨h1,h2⟩
  ·rw[uk Qqe hx h1 h2]at hid;simp only;rw[uk hD.wf (Nk x hx) h1 h2];cases hs:(ju o).contains x.i with
   |false=>rw[hs]at hid;cases hid
   |true =>
    rw[hs]at hid;have:listed.getD x.i false=true:=Qe0 x.i (by simpa using hs)
    rw[this];exact hid
  ·rw[h2]at hid;have lS:id<σ.H.length:=nC hid;simp only;rw[Em hD.wf (.inr lS)];exact hid
 -- Qle others have left is left
 have Zi:∀id,¬(d.base<=id/\id<d.base+d.news.length)->zd σ.H (λi=>(listed.setIfInBounds d.i true).getD i false) full id=zd σ.H (λi=>listed.getD i false) full id:=λid hi=>by
  rcases Al (H:=σ.H) (S:=λi=>(listed.setIfInBounds d.i true).getD i false) hD.wf id with⟨x,hx,h1,h2⟩|⟨h1,h2⟩
  ·have hxd:x.i≠d.i:=λe=>hi (by rw[<-hD.wf.inj x hx d IF e];exact⟨h1,h2⟩)
   rw[uk hD.wf hx h1 h2,uk hD.wf hx h1 h2,Kq _ hxd]
  ·rw[h2,Em hD.wf h1]
 have Qp9:∀id,(∀ob,(id,ob) ∉ d.AF)->vw (λi=>(listed.setIfInBounds d.i true).getD i false) full id=vw (λi=>listed.getD i false) full id:=λid lN=>JM λx hx ob hu=>by
  by_cases hxd:x.i=d.i
  ·have:=hD.wf.inj x hx d IF hxd;subst this;exact absurd hu (lN ob)
  ·exact Kq _ hxd
 -- TJ end of it
 have fin:∀v w' φ' M',AR w' M' φ' d.v v->Wd G φ' M' (pv σ.H (λi=>(listed.setIfInBounds d.i true).getD i false) full) w'->Ex w M U w' M' φ'->(∀id,φ' id≠none->U id≠none\/(d.base<=id/\id<d.base+d.news.length))->K (a.put o.dst v) w':=by
  intro v w' φ' M' hv sB he hn;refine hK _ _ ⟨by rw[Cr];exact hN,by rw[put_defers];exact O7,φ',M',?_,sB,?_⟩
  ·intro t;have h4:=AR.mono he (hF t);by_cases hdt:d.dst=some t
   ·have QmQ:t<a.tmps.size:=by
     rw[Ye]at hdt;rw[hdt]at Qkk;rw[hN];exact Qd9 Qkk
    rw[<-Ye,hdt,XG QmQ,if_pos rfl];rcases lk (mF:=mF) (L:=σ.L) (S:=λi=>(listed.setIfInBounds d.i true).getD i false) (t:=t) (l:=full)with⟨y,hy,g1,g2,g3⟩|⟨g1,g2⟩
    ·rw[g3,QeS y hy d IF t g1 hdt];exact hv
    ·have:=g1 d IF hdt;rw[Lk]at this;cases this
   ·have hgd:(a.put o.dst v).tmps.getD t undef=a.tmps.getD t undef:=by
     rw[<-Ye];cases hd2:d.dst with
     |none=>rfl
     |some u =>
      rw[hd2]at hdt;have QmQ:u<a.tmps.size:=by
       rw[Ye]at hd2;rw[hd2]at Qkk;rw[hN];exact Qd9 Qkk
      rw[XG QmQ,if_neg (λe=>hdt (by rw[e]))]
    rw[hgd];have QhU:Am σ.L mF (λi=>(listed.setIfInBounds d.i true).getD i false) full t=Am σ.L mF (λi=>listed.getD i false) full t:=by
     rcases lk (mF:=mF) (L:=σ.L) (S:=λi=>(listed.setIfInBounds d.i true).getD i false) (t:=t) (l:=full)with⟨y,hy,g1,g2,g3⟩|⟨g1,g2⟩
     ·have hyi:y.i≠d.i:=λe=>hdt (by rw[<-hD.wf.inj y hy d IF e];exact g1)
      rw[Kq _ hyi]at g2;rcases lk (mF:=mF) (L:=σ.L) (S:=λi=>listed.getD i false) (t:=t) (l:=full)with⟨z,hz,k1,k2,k3⟩|⟨k1,k2⟩
      ·rw[g3,k3,QeS y hy z hz t g1 k1]
      ·rw[k1 y hy g1]at g2;cases g2
     ·rcases lk (mF:=mF) (L:=σ.L) (S:=λi=>listed.getD i false) (t:=t) (l:=full)with⟨z,hz,k1,k2,k3⟩|⟨k1,k2⟩
      ·have hzi:z.i≠d.i:=λe=>hdt (by rw[<-hD.wf.inj z hz d IF e];exact k1)
       have:=g1 z hz k1;rw[Kq _ hzi,k2]at this;cases this
      ·rw[g2,k2]
    rw[QhU];exact h4
  ·intro id hid o6;refine QhJ λh=>?_
   rcases hn id h with h1|h1
   ·refine h1 (hφ id hid λx hx wu=>?_)
    by_cases hxd:x.i=d.i
    ·rw[hxd,Qe2]at wu;cases wu
    ·exact o6 x hx (by rw[Kq _ hxd];exact wu)
   ·exact o6 d IF Lk h1
 have hφn:∀id,d.base<=id->id<d.base+d.news.length->U id=none:=λid h1 h2=>by
  refine hφ id ?_ λx hx wu hxi=>?_
  ·have:=(iq.2 d IF).2.1;omega
  ·have:x=d:=by
    have e1:=uk (H:=[]) (S:=λi=>i == x.i) hD.wf hx hxi.1 hxi.2
    have e2:=uk (H:=[]) (S:=λi=>i == x.i) hD.wf IF h1 h2
    refine QhJ λlN=>?_
    have yv:d.i≠x.i:=λe=>lN (hD.wf.inj x hx d IF e.symm)
    have c1:(x.i == x.i)=true:=by simp
    have c2:(d.i == x.i)=false:=by simpa using yv
    simp only[c1,QaF]at e1;simp only[c2,Qdn]at e2;rw[e1]at e2;have hl:id-x.base<x.news.length:=by omega
    simp [dr hl]at e2
   rw[this,Qe2]at wu;cases wu
 have Qp_:∀id,d.base<=id->id<d.base+d.news.length->∀ob,vw (λi=>listed.getD i false) full id≠some (some ob):=λid h1 h2 ob hu=>by
  have hO:=hW.fU id ob (by unfold pv;rw[hu])
  exact hO.QnF (hφn id h1 h2)
 have td:∀id,d.base<=id->id<d.base+d.news.length->U id=none/\pv σ.H (λi=>listed.getD i false) full id=none:=λid h1 h2=>by
  refine⟨hφn id h1 h2,?_⟩;unfold pv;split
  ·rename_i ob hu;cases ob with
   |none=>rfl
   |some ob=>exact absurd hu (Qp_ id h1 h2 ob)
  ·rw[uk hD.wf IF h1 h2,Qe2];rfl
 -- Qle is there Qmh
 have Bp:∀{φ':Pl} {M':Nat->Prop} {w':World},Wd G φ' M' (VL (PZ (pv σ.H (λi=>listed.getD i false) full) d.AF) d.base d.news) w'->Wd G φ' M' (pv σ.H (λi=>(listed.setIfInBounds d.i true).getD i false) full) w':=λsB=>sB.less λid ob hid=>by
  unfold VL;by_cases hi:d.base<=id/\id<d.base+d.news.length
  ·rw[if_pos hi];unfold pv at hid;rw[uk hD.wf IF hi.1 hi.2,Lk]at hid;have hnn:∀o',(id,o') ∉ d.AF:=λo' hm=>by
    have y4:=Qki d IF id o' hm;rcases ir with⟨h,-⟩|⟨-,-,r,hs,ir,-,-,-,hru⟩|⟨-,h,-⟩
    ·rw[h]at hm;cases hm
    ·rw[<-hru]at hm;obtain⟨Qz,g⟩:=TP ir (id,o') hm;have:=fh id Qz g;rw[(td id hi.1 hi.2).2]at this;cases this
    ·rw[h]at hm;cases hm
   rw[Qp9 id hnn]at hid;split at hid
   ·rename_i o' hu;subst hid;exact absurd hu (Qp_ id hi.1 hi.2 ob)
   ·exact hid
  ·rw[if_neg hi];unfold PZ;cases hf:tg d.AF id with
   |some o' =>
    simp only;unfold pv at hid;rw[TM (d:=d) (u:=id) (o:=o') hf Lk IF (λx hx AH hu=>by
     have h1:=Qki x hx _ _ hu;have h2:=Qki d IF _ _ (BF hf);rw[h2]at h1;exact hD.wf.inj x hx d IF (QaL h1).symm)]at hid
    exact hid
   |none =>
    simp only;have hnn:∀o',(id,o') ∉ d.AF:=λo' hm=>by
     have:∀{l:List (Nat×O Ob)},(id,o')∈l->tg l id≠none:=by
      intro l;induction l with
      |nil=>intro h;cases h
      |cons y l ih =>
       obtain⟨u,x⟩:=y;intro h hn;simp only[tg]at hn;cases hu:(u == id)with
       |true=>rw[hu]at hn;cases hn
       |false =>
        rw[hu]at hn;rcases Qbt.1 h with h|h
        ·cases h;simp at hu
        ·exact ih h hn
     exact this hm hf
    unfold pv at hid ⊢;rw[Qp9 id hnn,Zi id hi]at hid;exact hid
 rcases ir with⟨Qnh,r,hs,ir,dj,mM,Zj⟩|⟨hgd,y4,r,hs,ir,dj,mM,Zj,hru⟩|⟨hgd,Qnh,B5,q,Qz,ir,dj,hqd⟩
 ·have key:=YO (U:=U) (M:=M) (w:=w) (a:=a) (G:=G) (hD:=pv σ.H (λi=>listed.getD i false) full) (K:=K) ir dj hFL hW fh (λid h1 h2=>by
   rw[Zj]at h2;exact td id h1 h2) λv w' φ' M' hv sB he hn=>fin v w' φ' M' (by rw[<-mM];exact hv) (Bp (by rw[Qnh,<-Zj];exact sB)) he (by rw[<-Zj];exact hn)
  unfold wpOp;simp only[hoj];split
  ·rename_i hw;rw[if_pos hw]at key;exact .inl (Qek (λ_ _ h=>h) key)
  ·rename_i hw;rw[if_neg hw]at key;exact key
 ·have hw:Region.wanted o (yielded ops a.tmps)=true:=by unfold Region.wanted;rw[hgd]
  unfold wpOp;simp only[hoj,hw,if_true];left;refine Qek (λ_ _ h=>h) (We (U:=U) (M:=M) (w:=w) (a:=a) (G:=G) (hD:=pv σ.H (λi=>listed.getD i false) full) (K:=K) ir dj hFL hW fh (λid h1 h2=>by
   rw[Zj]at h2;exact td id h1 h2) λv w' hm=>?_)
  obtain⟨φ',M',hv,sB,he,hn⟩:=hm;exact fin v w' φ' M' (by rw[<-mM];exact hv) (Bp (by rw[<-hru,<-Zj];exact sB)) he (by rw[<-Zj];exact hn)
 ·have hw:Region.wanted o (yielded ops a.tmps)=true:=by unfold Region.wanted;rw[hgd]
  unfold wpOp;simp only[hoj,hw,if_true];left
  -- TJ load,from TJ box as it is now
  have QhN:∃r:OD,AJ P (pv σ.H (λi=>listed.getD i false) full) d.base True (Am σ.L mF (ju o).contains post) o.op []=some r/\dF r.fU/\r.v=d.v/\r.news=[]:=by
   unfold QiO at ir;split at ir
   ·rename_i t x hop;split at ir
    ·rename_i id sz row off TZ m Tt hg ht htr;split at ir
     ·rename_i ob hid;split at ir
      ·rename_i cells p9 jJ;cases hc:(ob.sz == sz&&row == 0&&(Tt||m == 1))with
       |false=>rw[hc]at ir;cases ir
       |true =>
        rw[hc]at ir;simp only[QaF]at ir;cases hp:wb Tt m off cells with
        |none=>rw[hp]at ir;cases ir
        |some c =>
         rw[hp]at ir;simp only[Qjl,QlU,Qlq]at ir;obtain⟨hv,rfl,rfl⟩:=ir;simp only[ma,Qbb]at hc;have lS:id<σ.H.length:=nC hid;have Qs4:∃AH,pv σ.H (λi=>listed.getD i false) full id=some AH/\AH.box=true/\AH.sz=sz/\∃Wq,AH.rows=[Wq]/\wb Tt m off Wq=some c:=by
          unfold pv;cases hu:vw (λi=>listed.getD i false) full id with
          |none =>
           simp only;rw[Em hD.wf (.inr lS)];exact⟨ob,hid,p9,hc.1.1,cells,jJ,hp⟩
          |some o' =>
           obtain⟨x',DI,hxu⟩:=V8 hu;have hP:=VQ (VO hrd IF hqd) DI hxu;cases o' with
           |none=>exact hP.elim
           |some AH =>
            simp only[rdP,Qlq]at hP;obtain⟨p1,p2,p3⟩:=hP;refine⟨AH,rfl,p1,p2,?_⟩;cases vJ:AH.rows with
            |nil=>rw[vJ]at p3;cases p3
            |cons c0 r0 =>
             rw[vJ]at p3;simp only[Qfi,List.cons.injEq,List.map_eq_nil_iff]at p3;obtain⟨p4,rfl⟩:=p3;exact⟨c0,rfl,Qb7 p4 hc.2 hp⟩
         obtain⟨AH,k1,k2,k3,Wq,k4,k5⟩:=Qs4;refine⟨⟨.cm c,[],TZ,[]⟩,?_,dj,hv,rfl⟩;rw[hop];simp only[AJ,hg,ht,htr,k1,k2,k3,k4,k5,hc.1.2,beq_self_eq_true,QaF,Qjl]
      ·cases ir
     ·cases ir
    ·cases ir
   ·cases ir
  obtain⟨r,hr,hro,mM,Zj⟩:=QhN;obtain⟨v,w',φ',dC,TW,sB,Dc,hn,hb⟩:=J1 (U:=U) (M:=M) (hD:=pv σ.H (λi=>listed.getD i false) full) hr hro trivial hFL hW (λ_ _ h=>h) (λid h1 h2=>by rw[Zj]at h2;simp at h2;omega)
  refine Qek (λ_ _ h=>h) ?_
  unfold Oper.wp;rw[dC];rw[Zj]at sB hn;refine fin v w' φ' M (by rw[<-mM];exact TW) (Bp (by rw[Qnh,B5];exact sB)) ⟨hb,λ_ h=>h,Dc⟩ (λid h=>?_)
  rcases hn id h with h1|h1
  ·exact .inl h1
  ·simp at h1;omega
end
end
section
open Go.RowKit
section
variable {P : Program} {G : bC} {U φ' : Pl} {M M' : Nat -> Prop} {w w' : World} {a : Act} {hs : List Hint} {o : Oper} {ops : Array Oper} {Q : Exit -> Act -> World -> Prop} {σ : SS} {cl : List (Nat × Nat)}
theorem L4:∀{l:List Nat},Dm l=true->l.Nodup
 | [],_=>by simp
 |x ::l,h=>by
  simp only[Dm,ma,QbD]at h;rw[Qjn];exact⟨by simpa using h.1,L4 h.2⟩
theorem YP:∀{l:List Oper} {i j t:Nat} {x y:Oper},(dstsOf l).Nodup->l[i]?=some x->l[j]?=some y->x.dst=some t->y.dst=some t->i=j
 | [],i,_,_,_,_,_,h,_,_,_=>by simp at h
 |o ::l,0,0,_,_,_,_,_,_,_,_=>rfl
 |o ::l,0,j+1,t,x,y,hn,hi,hj,hx,hy=>by
  simp at hi hj;subst hi;have:dstsOf (o ::l)=t ::dstsOf l:=by simp [dstsOf,hx]
  rw[this,Qjn]at hn;exact absurd (QmN.2 ⟨y,QaG hj,hy⟩) hn.1
 |o ::l,i+1,0,t,x,y,hn,hi,hj,hx,hy=>by
  simp at hi hj;subst hj;have:dstsOf (o ::l)=t ::dstsOf l:=by simp [dstsOf,hy]
  rw[this,Qjn]at hn;exact absurd (QmN.2 ⟨x,QaG hi,hx⟩) hn.1
 |o ::l,i+1,j+1,t,x,y,hn,hi,hj,hx,hy=>by
  have QS:(dstsOf l).Nodup:=by
   unfold dstsOf at hn ⊢;rw[List.filterMap_cons]at hn;split at hn
   ·exact hn
   ·exact(Qjn.1 hn).2
  exact QaB (·+1) (YP (l:=l) QS (by simpa using hi) (by simpa using hj) hx hy)
theorem QdG{L:List (Nat×AV)}{t:Nat}:∀(l:List Dn),look (dL L l) t=Am L [] (λ_=>true) l t
 | []=>rfl
 |⟨i,d,v,b,n,u,q⟩ ::r=>by
  have ih:=QdG (L:=L) (t:=t) r;simp only[dL,Am,Bool.and_true];cases d with
  |none=>exact ih
  |some u =>
   simp only[NO,look];have:(some u == some t)=(u == t):=rfl;rw[this,ih]
theorem QaP.below{n b:Nat}{full:List Dn}{mF:List Nat}(hD:QaP P ops σ mF cl n full b):∀x∈full,∀u∈x.AF,u.1<x.base:=λx hx u hu=>by
 obtain⟨pre,post,d,o,e,hdi,-,-,-,hw,ir⟩:=hD.op x.i (hD.wf.lt.2 x hx).1;have:d=x:=hD.wf.inj d (by rw[e];simp) x hx hdi
 subst this;rcases ir with⟨h,-⟩|⟨-,-,r,hs,ir,-,-,-,hru⟩|⟨-,h,-⟩
 ·rw[h]at hu;cases hu
 rotate_left
 ·rw[h]at hu;cases hu
 ·rw[<-hru]at hu;obtain⟨Qz,h4⟩:=TP ir u hu;have h5:=(Wc h4).1;rcases Al (H:=σ.H) (S:=(ju o).contains) hw u.1 with⟨y,hy,k1,k2⟩|⟨k1,k2⟩
  ·have:=(hw.lt.2 y hy).2.2;omega
  ·rw[k2]at h5;have:=nC h5;have:=hw.lt.1;omega
theorem QpG{lo i b:Nat}{H:List (O Ob)}{l:List Dn}(h:UJ lo l i b)(lS:lo=H.length)(hb:∀x∈l,∀u∈x.AF,u.1<x.base):(dH H l).length=b/\hl (dH H l)=pv H (λ_=>true) l:=by
 induction h with
 |nil=>exact⟨lS.symm,rfl⟩
 |cons dst v news AF rd h ih =>
  rename_i r i b;obtain⟨h1,h2⟩:=ih λx hx=>hb x (QaK _ hx)
  have hup:∀id,b<=id->vw (λ_=>true) r id=none:=λid hid=>CH λx hx ob hu=>by
   have:=hb x (QaK _ hx) _ hu;have:=(h.lt.2 x hx).2.2;simp only at *;omega
  refine⟨by simp [dH,E_,h1],?_⟩
  simp only[dH];have hub:∀u∈AF,u.1<(dH H r).length:=λu hu=>by rw[h1];exact hb _ Qbm u hu
  rw[WW,E_,h1,WY hub,h2]
  funext id
  unfold VL;by_cases hi:b<=id/\id<b+news.length
  ·rw[if_pos hi];have e1:(Nat.ble b id&&Nat.blt id (b+news.length))=true:=by rw[ma];exact⟨Qj2 hi.1,Qj2 hi.2⟩
   have e2:vw (λ_=>true) (⟨i,dst,v,b,news,AF,rd⟩ ::r) id=none:=CH λx hx ob hu=>by
    rcases Qbt.1 hx with rfl|hx
    ·have:=hb _ Qbm _ hu;simp only at this;omega
    ·have:=hb x (QaK _ hx) _ hu;have:=(h.lt.2 x hx).2.2;simp only at *;omega
   unfold pv;rw[e2];simp only[zd,e1,QaF]
  ·rw[if_neg hi];have e1:(Nat.ble b id&&Nat.blt id (b+news.length))=false:=by
    rw[<-QhA,ma];intro⟨h3,h4⟩;exact hi ⟨Qd9 h3,Qd9 h4⟩
   unfold PZ pv;simp only[vw,QaF,zd,e1,Qdn];cases tg AF id <;> rfl
def left(listed:Array Bool)(n:Nat):Nat:=((List.range n).filter λi=>!listed.getD i false).length
theorem Qie{listed:Array Bool}{n j:Nat}(hj:j<n)(hl:listed.getD j true=false):left listed n=left (listed.setIfInBounds j true) n+1:=by
 have qc:j<listed.size:=by
  rcases sh j listed.size with h|h
  ·exact h
  ·simp [QiQ h]at hl
 have Lk:(listed.setIfInBounds j true).getD j false=true:=by simp [QfZ,qc]
 unfold left;have key:∀l:List Nat,l.Nodup->(j∈l->(l.filter λi=>!listed.getD i false).length=(l.filter λi=>!(listed.setIfInBounds j true).getD i false).length+1)/\(j ∉ l->(l.filter λi=>!listed.getD i false).length=(l.filter λi=>!(listed.setIfInBounds j true).getD i false).length):=by
  intro l;induction l with
  |nil=>intro _;exact⟨λh=>(by cases h),λ_=>rfl⟩
  |cons x l ih =>
   intro hn;rw[Qjn]at hn;obtain⟨ih1,ih2⟩:=ih hn.2;by_cases hx:x=j
   ·subst hx;refine⟨λ_=>?_,λh=>absurd Qbm h⟩
    rw[Qkc,Qkc,getD_both hl,Lk];simp only[Qlo,if_true,QfW,QmL,if_false,QaA];rw[ih2 hn.1]
   ·have hs:=getD_set_ne (listed:=listed) (i:=j) (j:=x) false (λe=>hx e.symm)
    refine⟨λh=>?_,λh=>?_⟩
    ·rw[Qkc,Qkc,hs];have hm:j∈l:=by rcases Qbt.1 h with h|h;exact absurd h.symm hx;exact h
     have:=ih1 hm;split <;>(try simp only[QaA]) <;> omega
    ·rw[Qkc,Qkc,hs];have:=ih2 λhm=>h (QaK _ hm)
     split <;>(try simp only[QaA]) <;> omega
 exact(key _ List.nodup_range).1 (Qf4.2 hj)
theorem Qfb{listed:Array Bool}{n:Nat}(h:left listed n=0):∀i,i<n->listed.getD i false=true:=λi hi=>by
 unfold left at h;have h1:=Qdx h;rw[List.filter_eq_nil_iff]at h1;have:=h1 i (Qf4.2 hi);simpa using this
theorem Qid{listed:Array Bool}{n:Nat}(h:left listed n≠0):∃i,i<n/\listed.getD i false=false/\∀k,k<i->listed.getD k false=true:=by
 unfold left at h;have hex:∃i,i<n/\listed.getD i false=false:=by
  cases h1:(List.range n).filter (λi=>!listed.getD i false)with
  |nil=>rw[h1]at h;exact absurd rfl h
  |cons x l =>
   have hx:x∈(List.range n).filter (λi=>!listed.getD i false):=by rw[h1];exact Qbm
   rw[Qf2,Qf4]at hx;exact⟨x,hx.1,by simpa using hx.2⟩
 have key:∀m i,i<=m->i<n->listed.getD i false=false->∃i,i<n/\listed.getD i false=false/\∀k,k<i->listed.getD k false=true:=by
  intro m;induction m with
  |zero=>intro i hi hn hf;exact⟨i,hn,hf,λk hk=>by omega⟩
  |succ m ih =>
   intro i hi hn hf;by_cases o6:∀k,k<i->listed.getD k false=true
   ·exact⟨i,hn,hf,o6⟩
   ·simp only[Classical.not_forall]at o6;obtain⟨k,hk,hk2⟩:=o6;exact ih k (by omega) (by omega) (by simpa using hk2)
 obtain⟨i,hi,hf⟩:=hex;exact key i i (fa _) hi hf
theorem Qhk{n b:Nat}{full:List Dn}{tail:List Oper}{s:St}{Ve:List Hint}(hB:YL ops n=true)(hD:QaP P ops σ (dstsOf (ops.toList.take n)) cl n full b)(hrd:dF (VN full full))(Qp5:Bx P ops (ops.toList.drop n) ⟨σ.N,dL σ.L full,dH σ.H full⟩ Ve=some s)(dj:dF s.fU)
  (hQ:∀a' w',QG G s.σ a' w'->Q .normal a' w'):∀(f:Nat) (listed:Array Bool) (a:Act) (w:World),left listed n=f->HeadInv .any ops n listed->QjB G σ (dstsOf (ops.toList.take n)) full listed a w->wpAny P .any ops Q (f+(ops.size-n)) listed a w:=by
 unfold YL at hB;simp only[ma,QeZ,Qbb,Qgg]at hB;obtain⟨⟨⟨⟨hnd,hle⟩,hpr⟩,jI⟩,Qtm⟩:=hB;have Qs0:=L4 hnd;have QeY:∀j,j<n->(ops.toList.take n)[j]?=ops[j]?:=λj hj=>by rw[QdL,if_pos hj];simp
 have Vb:∀x∈full,∃o,x.i<n/\ops[x.i]?=some o/\x.dst=o.dst:=λx hx=>by
  have hxi:=(hD.wf.lt.2 x hx).1;obtain⟨pre,post,d,o,e,hdi,ho,Ye,-⟩:=hD.op x.i hxi;have:d=x:=hD.wf.inj d (by rw[e];simp) x hx hdi
  subst this;exact⟨o,hxi,ho,Ye⟩
 have QeS:∀x∈full,∀y∈full,∀t,x.dst=some t->y.dst=some t->x=y:=λx hx y hy t ex ey=>by
  obtain⟨ox,hxn,hox,hdx⟩:=Vb x hx;obtain⟨oy,hyn,hoy,hdy⟩:=Vb y hy;exact hD.wf.inj x hx y hy (YP Qs0 (by rw[QeY _ hxn];exact hox) (by rw[QeY _ hyn];exact hoy) (hdx▸ex) (hdy▸ey))
 have rF:∀x∈full,∀t,x.dst=some t->(dstsOf (ops.toList.take n)).contains t=true:=λx hx t ex=>by
  obtain⟨ox,hxn,hox,hdx⟩:=Vb x hx;rw[List.contains_iff_mem];exact QmN.2 ⟨ox,QaG (by rw[QeY _ hxn];exact hox),hdx▸ex⟩
 intro f;induction f with
 |zero =>
  intro listed a w hf inv hI;rw[Qbu];have o6:=Qfb hf;have QpJ:listed=Qbz ops n:=by
   apply Array.ext_getElem?;intro k;unfold Qbz;simp only[Qju,Qc0];rcases sh k ops.size with hk|hk
   ·rw[List.getElem?_range hk];simp only[Qjl];by_cases yw:k<n
    ·have:=o6 k yw;have hks:k<listed.size:=by rw[inv.size];exact hk
     simp only[QfZ,Qf7 hks,QbG]at this;rw[Qf7 hks,this];have:Nat.blt k n=true:=Qj2 yw;rw[this]
    ·have:=inv.tail k (by omega) hk
     have hks:k<listed.size:=by rw[inv.size];exact hk
     simp only[QfZ,Qf7 hks,QbG]at this;rw[Qf7 hks,this];have:Nat.blt k n=false:=by rw[<-QhA];intro h;exact yw (Qd9 h)
     rw[this]
   ·rw[Qbp (by simpa using hk),QiQ (by rw[inv.size];exact hk)];rfl
  obtain⟨hN,O7,U,M,hF,hW,hφ⟩:=hI;obtain⟨Yn,hbh⟩:=QpG hD.wf rfl hD.below;have hSl:∀x∈full,listed.getD x.i false=true:=λx hx=>o6 x.i (Vb x hx).choose_spec.1
  have hS:QG G ⟨σ.N,dL σ.L full,dH σ.H full⟩ a w:=by
   refine⟨hN,O7,U,M,λt=>?_,?_,λid hid=>hφ id (by have:=hD.wf.lt.1;rw[Yn]at hid;omega) λx hx _ hxi=>by
    have:=(hD.wf.lt.2 x hx).2.2;rw[Yn]at hid;omega⟩
   ·rw[QdG];have h4:=hF t;rcases lk (mF:=([]:List Nat)) (L:=σ.L) (S:=λ_=>true) (t:=t) (l:=full)with⟨x,hx,g1,g2,g3⟩|⟨g1,g2⟩
    ·rw[g3];rcases lk (mF:=dstsOf (ops.toList.take n)) (L:=σ.L) (S:=λi=>listed.getD i false) (t:=t) (l:=full)with⟨y,hy,k1,k2,k3⟩|⟨k1,k2⟩
     ·rw[k3,QeS y hy x hx t k1 g1]at h4;exact h4
     ·have:=k1 x hx g1;rw[hSl x hx]at this;cases this
    ·rw[g2];have Qdq:∀x∈full,x.dst≠some t:=λx hx e=>by have:=g1 x hx e;cases this
     have Qs1:(dstsOf (ops.toList.take n)).contains t=false:=by
      rw[<-QhA,List.contains_iff_mem];intro hm;obtain⟨o,ho,hot⟩:=QmN.1 hm;obtain⟨j,hj⟩:=QeT.1 ho;have hjn:j<n:=by
       have:=(pB.1 hj).1;simp at this;omega
      obtain⟨pre,post,d,o2,e,hdi,ho2,Ye,-⟩:=hD.op j hjn;rw[QeY j hjn,ho2]at hj;cases hj;exact Qdq d (by rw[e];simp) (Ye.trans hot)
     rcases lk (mF:=dstsOf (ops.toList.take n)) (L:=σ.L) (S:=λi=>listed.getD i false) (t:=t) (l:=full)with⟨y,hy,k1,k2,k3⟩|⟨k1,k2⟩
     ·exact absurd k1 (Qdq y hy)
     ·rw[k2,Qs1]at h4;exact h4
   ·rw[hbh];refine hW.less λid ob hid=>?_
    have e1:vw (λi=>listed.getD i false) full id=vw (λ_=>true) full id:=JM λx hx _ _=>hSl x hx
    unfold pv at hid ⊢;rw[e1];have e2:zd σ.H (λi=>listed.getD i false) full id=zd σ.H (λ_=>true) full id:=by
     rcases Al (H:=σ.H) (S:=λ_=>true) hD.wf id with⟨x,hx,h1,h2⟩|⟨h1,h2⟩
     ·rw[uk hD.wf hx h1 h2,uk hD.wf hx h1 h2,hSl x hx]
     ·rw[h2,Em hD.wf h1]
    rw[e2];exact hid
  have hwl:=D_ (Q:=Q) (ops.toList.drop n) Qp5 dj hS hQ;have yr:(ops.toList.drop n).length=ops.size-n:=by simp
  have:=wpAny_of_seq (md:=.any) (ops:=ops) (Q':=Q) (ops.toList.drop n) n listed a w (λj=>by rw[Qf_];simp) (by rw[yr,QpJ];exact Qtm) hwl
  rw[yr]at this;exact this
 |succ f ih =>
  intro listed a w hf inv hI;rw[show f+1+(ops.size-n)=(f+(ops.size-n))+1 by omega]
  obtain⟨i0,hi0,hu0,QsT⟩:=Qid (listed:=listed) (n:=n) (by omega)
  have QmZ:i0<ops.size:=by omega
  have Qp7:listed.getD i0 true=false:=getD_in (by rw[inv.size];exact QmZ) hu0
  have Qdu:i0∈Region.ready .any ops listed:=by
   refine mem_ready.2 ⟨Qp7,_,Qf7 QmZ,λe he hb=>?_⟩
   have h1:=Qc8.1 hpr (ops[i0],i0) (by
    rw[QeT];refine⟨i0,?_⟩;rw[List.getElem?_zipIdx,QeY i0 hi0,Qf7 QmZ];simp)
   have h2:=Qc8.1 h1 e.on (Ph.2 ⟨e,he,hb,rfl⟩);exact QsT e.on (Qd9 h2)
  refine⟨λh=>(by rw[h]at Qdu;cases Qdu),λj hj=>?_⟩
  have hjn:j<n:=by
   rcases sh j n with h|h
   ·exact h
   ·exfalso;obtain⟨_,oj,hoj,_⟩:=mem_ready.1 hj;have hjs:j<ops.size:=(Qnn.1 hoj).1;rcases jI with h1|⟨⟨h1,h2⟩,h3⟩
    ·omega
    ·exact tail_waits h2 h3 (Qd9 h1) inv _ i0 rfl hi0 Qp7 j h hj
  obtain⟨hun,oj,hoj,o6⟩:=mem_ready.1 hj;have hog:ops.getD j default=oj:=by simp [QfZ,hoj]
  exact Qh4 hD hrd QeS rF hI (λj k hj hk=>by
   obtain⟨e,he,hb,rfl⟩:=Ph.1 hk;rcases sh j ops.size with hjs|hjs
   ·rw[QfZ,Qf7 hjs]at he;exact inv.closed j _ (Qf7 hjs) hj e he hb
   ·rw[QfZ,QiQ (by rw[inv.size];exact hjs)]at hj
    cases hj) hjn hun (λk hk=>by
   rw[hog]at hk;obtain⟨e,he,hb,rfl⟩:=Ph.1 hk;exact o6 e he hb) λa' w' hI'=>ih _ a' w' (by have:=Qie hjn hun;omega) (inv.set hj hjn) hI'
theorem T_{s:St}{id:Nat}(hf:M8 P ops σ hs=some s)(dj:dF s.fU)(hS:QG G σ a w)(hQ:∀a' w',QG G s.σ a' w'->Q .normal a' w'):(Code.region id ops true).wp P Q a w:=by
 unfold M8 at hf;split at hf
 ·rename_i n cl fK;cases hc:(P.follows .mixedOrders&&YL ops n)with
  |false=>rw[hc]at hf;cases hf
  |true =>
   rw[hc]at hf;simp only[QaF]at hf;simp only[ma]at hc;split at hf
   ·rename_i done b ob Ve hd;cases ir:Bx P ops (ops.toList.drop n) ⟨σ.N,dL σ.L done,dH σ.H done⟩ Ve with
    |none=>rw[ir]at hf;cases hf
    |some s0 =>
     rw[ir]at hf;cases hf;rw[bp,bp]at dj;have hB:=hc.2;have hle:n<=ops.size:=by
      unfold YL at hB;simp only[ma,Qgg]at hB;exact hB.1.1.1.2
     have htl:(ops.toList.take n).length=n:=by simp;omega
     obtain⟨pre,e,hwf,o6⟩:=M6 hd dj.1 (λk=>by
      rcases sh k n with h|h
      ·left;rw[QdL,if_pos h,Qbu];simp
      ·right;rw[htl];exact h) UJ.nil
     rw[htl,Qbu]at hwf;have hD:QaP P ops σ (dstsOf (ops.toList.take n)) cl n done b:=⟨hwf,λj hj=>by
      have:=o6 j (by rw[htl];exact hj)
      rw[Qbu]at this;exact this⟩
     refine wp_region_any hc.1 ?_
     have jI:(left (Array.replicate ops.size false) n)+(ops.size-n)=ops.size:=by
      have:left (Array.replicate ops.size false) n=n:=by
       unfold left;rw[QlF.2 (λi _=>by rw[getD_replicate_false];rfl)]
       simp
      omega
     obtain⟨hN,O7,U,M,hF,hW,hφ⟩:=hS;have hinv:QjB G σ (dstsOf (ops.toList.take n)) done (Array.replicate ops.size false) a {w with drawn:=w.drawn+1}:=by
      refine⟨hN,O7,U,M,λt=>?_,?_,λid hid _=>hφ id hid⟩
      ·have AL:Below w.heap.size w {w with drawn:=w.drawn+1}:=⟨rfl,rfl,rfl,fa _,λ_ _=>rfl⟩
       have he:=hW.RD AL;rcases lk (mF:=dstsOf (ops.toList.take n)) (L:=σ.L) (S:=λi=>(Array.replicate ops.size false).getD i false) (t:=t) (l:=done)with⟨y,hy,k1,k2,k3⟩|⟨k1,k2⟩
       ·rw[getD_replicate_false]at k2;cases k2
       ·rw[k2];cases(dstsOf (ops.toList.take n)).contains t with
        |true=>trivial
        |false=>exact AR.mono he (hF t)
      ·have AL:Below w.heap.size w {w with drawn:=w.drawn+1}:=⟨rfl,rfl,rfl,fa _,λ_ _=>rfl⟩
       refine(hW.grow AL).less λid ob hid=>?_
       have e1:vw (λi=>(Array.replicate ops.size false).getD i false) done id=none:=CH λx _ _ _=>getD_replicate_false _ _
       unfold pv at hid;rw[e1]at hid;simp only at hid;rcases Al (H:=σ.H) (S:=λi=>(Array.replicate ops.size false).getD i false) hwf id with⟨x,hx,h1,h2⟩|⟨h1,h2⟩
       ·rw[uk hwf hx h1 h2,getD_replicate_false]at hid;cases hid
       ·rw[h2]at hid;exact hid
     have QtD:HeadInv .any ops n (Array.replicate ops.size false):=
      ⟨by simp,λj oj _ hl=>(by rw[getD_replicate_false]at hl;cases hl),λt _ ht=>getD_in (by simpa using ht) (getD_replicate_false _ _)⟩
     have:=Qhk (tail:=[]) hB hD dj.2.1 ir dj.2.2 hQ _ _ a _ rfl QtD hinv;rw[jI]at this;exact this
   ·cases hf
 ·cases hf
end
end
section
set_option exponentiation.threshold 300
open Go.RowKit
section
variable {P : Program} {G : bC} {body : Code} {R : Exit -> Act -> World -> Prop} {a : Act} {w : World} {hs : List Hint}
theorem US(body:Code):∀(n p:Nat),p<2 ^ n->YA body n p=YA body (n+1) p
 |0,p,h=>by
  have:p=0:=by simpa using h
  subst this;rfl
 |n+1,p,h=>by
  show(bif Nat.ble p 1 then body else child (p % 2 == 1) (YA body n (p / 2)))=(bif Nat.ble p 1 then body else child (p % 2 == 1) (YA body (n+1) (p / 2)));rw[US body n (p / 2) (by rw[Qdw]at h;omega)]
theorem YB{p:Nat}(h:(Nat.ble 1 p&&Nat.blt p NM)=true)(k:Bool):cd body (2*p+cond k 1 0)=child k (cd body p):=by
 rw[ma]at h;have h1:1<=p:=Qd9 h.1;have h2:p<2 ^ 250:=Qd9 h.2;have h3:p<2 ^ 299:=Qby h2 (Qb2 (by omega) (by omega))
 have h4:=US body 299 p h3;show(bif Nat.ble (2*p+cond k 1 0) 1 then body else child ((2*p+cond k 1 0) % 2 == 1) (YA body 299 ((2*p+cond k 1 0) / 2)))=child k (YA body 300 p);have h5:Nat.ble (2*p+cond k 1 0) 1=false:=by
  rw[<-QhA];intro h;have:=Qd9 h;omega
 have h6:(2*p+cond k 1 0) / 2=p:=by cases k <;> simp <;> omega
 have h7:((2*p+cond k 1 0) % 2 == 1)=k:=by cases k <;> simp <;> omega
 rw[h5,h6,h7,h4];rfl
theorem QeH{p:Nat}(h:(Nat.ble 1 p&&Nat.blt p NM)=true):cd body (2*p)=child false (cd body p):=YB h false
theorem Iy{id:Nat}:∀{k k':List It},U2 id k=some k'->exitTo id (k.map (It.item body))=some (k'.map (It.item body))
 | [],_,h=>by cases h
 | .c p ::k,k',h=>Iy (k:=k) h
 | .l p ::k,k',h=>Iy (k:=k) h
 | .s p ::k,k',h=>Iy (k:=k) h
 | .b i ::k,k',h=>by
  simp only[U2]at h;simp only[Qfi,It.item,exitTo];cases hi:(i == id)with
  |true=>rw[hi]at h;cases h;rfl
  |false=>rw[hi]at h;exact Iy (k:=k) h
theorem step_inScope{b:Frame}{a:Act}{k:List Item}{cs:List Frame}{w:World}{c:Code}:step P (lone (b.at a (.inScope c ::k)) cs w)=.next (lone (b.at a k) cs w):=
 step_lone_go (by simp [stepG,stepG.exec,Frame.at])
theorem step_scope{b:Frame}{a:Act}{k:List Item}{cs:List Frame}{w:World}{c:Code}:step P (lone (b.at a (.code (.scope c) ::k)) cs w)=.next (lone (b.at a (.code c :: .inScope c ::k)) cs w):=
 step_lone_go (by simp [stepG,stepG.exec,Frame.at])
theorem Qck{cf:Cf}{r:Rn}(hf:QnS P body cf hs=some r)(dj:dF r.fU)(hS:QG G cf.σ a w)(hK:∀a' w',QG G r.cf.σ a' w'->KW P body r.cf.k R a' w'):KW P body cf.k R a w:=by
 intro b cs;have go:∀a' w',QG G r.cf.σ a' w'->Steps P (lone (b.at a (cf.k.map (It.item body))) cs w) (lone (b.at a' (r.cf.k.map (It.item body))) cs w')->
   ∃e a' w',R e a' w'/\Arrives P (lone (b.at a (cf.k.map (It.item body))) cs w) b [] cs e a' w':=λa' w' QQ ir=>let⟨e,a2,w2,hR,ha⟩:=hK a' w' QQ b cs;⟨e,a2,w2,hR,.of_steps ir ha⟩
 unfold QnS at hf;split at hf
 ·cases hf
 ·rename_i id k hk;cases hf;exact go a w hS (by rw[hk];exact .one step_inBlock)
 ·rename_i p k hk;cases hf;exact go a w hS (by rw[hk];exact .one step_inLoop)
 ·rename_i p k hk;cases hf;exact go a w hS (by rw[hk];exact .one step_inScope)
 ·rename_i p k hk;cases hp:(Nat.ble 1 p&&Nat.blt p NM)with
  |false=>rw[hp]at hf;cases hf
  |true =>
   rw[hp]at hf;simp only[QfW,Qdn]at hf;rw[hk]at go ⊢;simp only[Qfi,It.item]at go ⊢;have h0:=QeH (body:=body) hp;have h1:=YB (body:=body) hp true;simp only[QaF]at h1;split at hf
   ·rename_i hc;rw[hc]at go ⊢;cases hf;exact go a w hS (.one step_skip)
   ·rename_i x y hc;rw[hc]at go ⊢ h0 h1;cases hf;simp only[Qfi,It.item,h0,h1,child,QaF,Qdn]at go;exact go a w hS (.one step_seq)
   ·rename_i id x hc;rw[hc]at go ⊢ h0;cases hf;simp only[Qfi,It.item,h0,child]at go;exact go a w hS (.one step_block)
   ·rename_i x hc;rw[hc]at go ⊢ h0;cases hf;simp only[Qfi,It.item,h0,child]at go;exact go a w hS (.one step_loop)
   ·rename_i x hc;rw[hc]at go ⊢ h0;cases hf;simp only[Qfi,It.item,h0,child]at go;exact go a w hS (.one step_scope)
   ·rename_i l hc;rw[hc]at go ⊢;cases hf;exact go a w hS (.one step_label)
   ·rename_i c x y hc;split at hf
    ·rename_i b1 t fK hv;rw[hc]at go ⊢ h0 h1;cases hf;have hb:b1=t:=dj.1;obtain⟨hN,O7,U,M,hF,hW,hφ⟩:=hS;have h2:=H9 hF c;rw[hv]at h2;have h3:=Ay h2;subst hb;refine go a w ⟨hN,O7,U,M,hF,hW,hφ⟩ ?_
     have h4:=step_cond (P:=P) (b:=b) (k:=k.map (It.item body)) (cs:=cs) (w:=w) (x:=x) (y:=y) h3;cases b1 with
     |true=>simp only[Qfi,It.item,QaF,QhF,h0,child,Qdn];exact .one h4
     |false=>simp only[Qfi,It.item,Qdn,h1,child,QaF];exact .one h4
    ·cases hf
   ·rename_i id hc;rw[hc]at go ⊢;cases hx:U2 id k with
    |none=>rw[hx]at hf;cases hf
    |some k' =>
     rw[hx]at hf;cases hf;exact go a w hS (.one (step_exit (Iy hx)))
   ·rename_i id ops draw hc;rw[hc]at go ⊢;have hw:∀s:St,(bif draw then M8 P ops cf.σ hs else Bx P ops ops.toList cf.σ hs)=some s->dF s.fU->(Code.region id ops draw).wp P (λe a' w'=>e=.normal/\QG G s.σ a' w') a w:=by
     intro s Ud ho;cases draw with
     |true=>exact T_ Ud ho hS λa' w' h=>⟨rfl,h⟩
     |false=>exact wp_region_list (D_ _ Ud ho hS λa' w' h=>⟨rfl,h⟩)
    cases hx:(bif draw then M8 P ops cf.σ hs else Bx P ops ops.toList cf.σ hs)with
    |none=>rw[hx]at hf;cases hf
    |some s =>
     rw[hx]at hf;cases hf;obtain⟨e,a',w',⟨rfl,QQ⟩,har⟩:=hw s hx dj b (k.map (It.item body)) cs;exact go a' w' QQ har
   ·cases hf
theorem Jn:∀(n:Nat) {cf:Cf} {r:Rn} {hs:List Hint} {a:Act} {w:World},Z5 P body n cf hs=some r->dF r.fU->QG G cf.σ a w->(∀a' w',QG G r.cf.σ a' w'->KW P body r.cf.k R a' w')->KW P body cf.k R a w
 |0,cf,r,hs,a,w,hf,_,hS,hK=>by cases hf;exact hK a w hS
 |n+1,cf,r,hs,a,w,hf,dj,hS,hK=>by
  simp only[Z5]at hf;split at hf
  ·rename_i σ0 o0 Vd hg;split at hf
   ·rename_i r1 h1;split at hf
    ·rename_i r2 h2;cases hf;simp only[bp]at dj;exact Qck (cf:=⟨cf.k,σ0⟩) h1 dj.1.2 (J2 hg dj.1.1 hS) λa' w' QQ=>Jn n h2 dj.2 QQ hK
    ·cases hf
   ·cases hf
  ·cases hf
end
section
variable {P : Program} {G : bC} {U φ2 : Pl} {M : Nat -> Prop} {w : World} {a : Act} {m : Nat -> O Nat}
def YD(U:Pl)(ids:List Nat):Pl:=λi=>match ids[i]? with
 |some j=>U j
 |none=>none
theorem JY{ids:List Nat}{i j:Nat}(h:ids[i]?=some j):YD U ids i=U j:=by unfold YD;rw[h]
theorem WD{ids:List Nat}:∀id k p,posOf ids 0 id=some k->U id=some p->YD U ids k=some p:=λid k p h hp=>(JY (by simpa using(Ma h).2)).trans hp
theorem Qil{live:List Nat}{σ:SS}{f:AV->AV}(t:Nat):look (live.map λt=>(t,f (look σ.L t))) t=f (look σ.L t)\/look (live.map λt=>(t,f (look σ.L t))) t=.PY:=by
 induction live with
 |nil=>exact .inr rfl
 |cons x r ih =>
  simp only[Qfi,look];cases h:(x == t)with
  |true =>
   have:x=t:=by simpa using h
   subst this;exact .inl rfl
  |false=>exact ih
theorem WV{σ:SS}{ids:List Nat}{i:Nat}{AH:Ob}(h:hl (ids.map λi=>(hl σ.H i).map (jA m)) i=some AH):∃j ob,ids[i]?=some j/\hl σ.H j=some ob/\AH=jA m ob:=by
 unfold hl at h;rw[Qc0]at h;cases hj:ids[i]? with
 |none=>rw[hj]at h;cases h
 |some j =>
  rw[hj]at h;simp only[Qjl,Option.join_some]at h;cases ho:(σ.H[j]?).join with
  |none=>rw[ho]at h;cases h
  |some ob=>rw[ho]at h;cases h;exact⟨j,ob,rfl,ho,rfl⟩
theorem Qhd{σ:SS}{ids HA:List Nat}(hn:Dm ids=true)(hp:VI HA ids=true)(SX:∀p∈G.pins,p.1∈HA)(hW:Wd G U M (hl σ.H) w):
  Wd G (YD U ids) M (hl (ids.map λi=>(hl σ.H i).map (jA (posOf ids 0)))) w:=by
 refine⟨λi AH h=>?_,λi j oi oj b Ci Cj h1 h2 h3 h4=>?_,hW.mlt,hW.m0,hW.LW,λi ob b C h1 h2=>?_,hW.AO,hW.os,hW.tape,hW.output,hW.size,λp Fe=>?_,hW.zP⟩
 ·obtain⟨j,ob,h1,h2,rfl⟩:=WV h;exact Jl WD (JY h1) (hW.fU j ob h2)
 ·obtain⟨i',TZ,g1,g2,-⟩:=WV h1;obtain⟨j',ob2,g3,g4,-⟩:=WV h2;rw[JY g1]at h3;rw[JY g3]at h4;have:=hW.inj i' j' TZ ob2 b Ci Cj g2 g4 h3 h4;subst this;have hi:=(pB.1 g1).1;exact(List.getElem?_inj hi (L4 hn)).1 (g1.trans g3.symm)
 ·obtain⟨i',TZ,g1,g2,-⟩:=WV h1;rw[JY g1]at h2;exact hW.own i' TZ b C g2 h2
 ·have h1:=hW.HA p Fe;have h2:=Qc8.1 hp p.1 (SX p Fe);cases hi:ids[p.1]? with
  |none=>rw[hi]at h2;cases h2
  |some j =>
   rw[hi]at h2;have:p.1=j:=by simpa using h2
   rw[JY hi,<-this];exact h1
theorem YE{ids:List Nat}(f:Nat->O Ob):∀id,(ids.map f).length<=id->YD U ids id=none:=λid h=>by
 unfold YD;rw[Qbn]at h;rw[Qbp h]
theorem Qj1{σ:SS}{live ids HA:List Nat}(hn:Dm ids=true)(hp:VI HA ids=true)(SX:∀p∈G.pins,p.1∈HA)(hS:QG G σ a w):QG G (cut live ids σ) a w:=by
 obtain⟨hN,O7,U,M,hF,hW,hφ⟩:=hS;refine⟨hN,O7,YD U ids,M,λt=>?_,Qhd hn hp SX hW,YE _⟩
 rcases Qil (live:=live) (σ:=σ) (f:=N8 (posOf ids 0)) t with h|h
 ·show AR w M _ (look (live.map λt=>(t,N8 (posOf ids 0) (look σ.L t))) t) _
  rw[h];exact N9 WD (hF t)
 ·show AR w M _ (look (live.map λt=>(t,N8 (posOf ids 0) (look σ.L t))) t) _
  rw[h];trivial
def Qfy(tmps:Array Value):ResultVar->Sem Value
 | .tmp t=>pure (tmps.getD t undef)
 | .cell a t=>do loadVar t (<-asAddr (tmps.getD a undef))
theorem Zy{α:Type}{f:α->Sem Value}:∀{xs:List α} {vs:List Value},Rs (λx v=>(f x).run P w=.ok v w) xs vs->(xs.mapM f).run P w=.ok vs w
 | [],[],_=>rfl
 |x ::xs,v ::vs,h=>by
  rw[List.mapM_cons];simp only[Sem.run_bind,h.1,Result.andThen_ok,Zy h.2,Sem.run_pure]
 | [],_ ::_,h=>h.elim
 |_ ::_,[],h=>h.elim
theorem Z1{fn:Func}{tmps:Array Value}{vs:List Value}(h:Rs (λx v=>(Qfy tmps x).run P w=.ok v w) fn.results.toList vs):
  (results fn tmps).run P w=.ok (if h:vs.toArray.size=1 then vs.toArray[0]else .tuple vs.toArray) w:=by
 have h1:=Zy h;have h2:(fn.results.mapM (Qfy tmps)).run P w=.ok vs.toArray w:=by
  rw[Array.mapM_eq_mapM_toList];simp only[map_eq_pure_bind,Sem.run_bind,h1,Result.andThen_ok,Sem.run_pure]
 have h3:results fn tmps=(do let vs <-fn.results.mapM (Qfy tmps);pure (if h:vs.size=1 then vs[0]else .tuple vs)):=rfl
 rw[h3];simp only[Sem.run_bind,h2,Result.andThen_ok,Sem.run_pure]
theorem QkV{L:Nat->AV}{h:Nat->O Ob}{x:ResultVar}{c:Cm}(hx:QkU L h P x=some c)(hF:∀t,AR w M U (L t) (a.tmps.getD t undef))(hW:Wd G U M h w):
  ∃v,(Qfy a.tmps x).run P w=.ok v w/\CR w M U c v:=by
 cases x with
 |tmp t =>
  simp only[QkU]at hx;split at hx
  ·rename_i c0 hc;cases hx;have:=hF t;rw[hc]at this;exact⟨_,rfl,this⟩
  ·cases hx
 |cell t ty =>
  simp only[QkU]at hx;split at hx
  ·rename_i id sz row off n Tt h1 h2 h3;split at hx
   ·rename_i ob dj;split at hx
    ·rename_i cells p9 jJ;cases hc:(row == 0&&ob.sz == sz)with
     |false=>rw[hc]at hx;cases hx
     |true =>
      rw[hc]at hx;simp only[QaF]at hx;simp only[ma,Qbb]at hc;have h4:=hF t;rw[h1]at h4;obtain⟨b,C,hφ,hv⟩:=(h4:vh w M U (.op id sz row off) (a.tmps.getD t undef));have hO:=hW.fU id ob dj;obtain⟨v,hl,k8⟩:=Gp (M:=M) (U:=U) (b:=b) (k:=row*sz) h2 h3 hx λi l hl=>by
       have:=hO.UT (i:=0) (.inr ⟨_,jJ⟩) hφ (by rw[jJ];rfl) i l hl
       rw[hc.1,Qbx];rwa [Qbx]at this
      refine⟨v,?_,k8⟩;simp only[Qfy,hv,Sem.run_bind];simpa [asAddr]using hl
    ·cases hx
   ·cases hx
  ·cases hx
theorem Z0{L:Nat->AV}{h:Nat->O Ob}(hF:∀t,AR w M U (L t) (a.tmps.getD t undef))(hW:Wd G U M h w):∀{xs:List ResultVar} {cs:List Cm},Qd4 L h P xs=some cs->
  ∃vs,Rs (λx v=>(Qfy a.tmps x).run P w=.ok v w) xs vs/\Rs (CR w M U) cs vs
 | [],cs,hx=>by cases hx;exact⟨[],trivial,trivial⟩
 |x ::xs,cs,hx=>by
  simp only[Qd4]at hx;split at hx
  ·rename_i c T8 h1 h2;cases hx;obtain⟨v,g1,g2⟩:=QkV h1 hF hW;obtain⟨vs,g3,g4⟩:=Z0 hF hW h2;exact⟨v ::vs,⟨g1,g3⟩,g2,g4⟩
  ·cases hx
theorem QiN:∀{cs:List Cm} {vs:List Value},Rs (CR w M U) cs vs->AR w M U (QiM cs) (if h:vs.toArray.size=1 then vs.toArray[0]else .tuple vs.toArray)
 | [],[],_=>⟨[],rfl,trivial⟩
 | [c],[v],h=>h.1
 |c ::d ::cs,v ::u ::vs,h=>by
  rw[dif_neg (by simp)]
  exact⟨_,rfl,h⟩
 | [],_ ::_,h=>h.elim
 |_ ::_,[],h=>h.elim
 | [_],_ ::_ ::_,h=>h.2.elim
 |_ ::_ ::_,[_],h=>h.2.elim
end
section
variable {P : Program} {fn : Func} {HA : List Nat} {G : bC} {r : AV} {H1 : List (O Ob)}
theorem go_run(n:Nat)(live ids:List Nat)(hs:List Hint){cf cf':Cf}{ob:Prop}(h:QnT P (DG fn) n live ids cf hs=some (cf',ob))(hp:VI HA ids=true)(dj:ob)
  (hg:Go P fn HA G r H1 cf'):Go P fn HA G r H1 cf:=by
 intro SX a w hS;unfold QnT at h;split at h
 ·rename_i rn hr;split at h
  ·rename_i σ o hgh;cases hn:Dm ids with
   |false=>rw[hn]at h;cases h
   |true =>
    rw[hn]at h;cases h;rw[bp]at dj;exact Jn n hr dj.1 hS λa' w' QQ=>hg SX a' w' (Qj1 hn hp SX (J2 hgh dj.2 QQ))
  ·cases h
 ·cases h
theorem go_ret(n:Nat)(ids:List Nat)(hs:List Hint){cf:Cf}{ob:Prop}(h:QnQ P fn n ids cf hs=some (r,H1,ob))(hp:VI HA ids=true)(dj:ob):Go P fn HA G r H1 cf:=by
 intro SX a w hS;unfold QnQ at h;split at h
 ·rename_i rn hr;cases hk:QgL (DG fn) rn.cf.k with
  |false=>rw[hk]at h;cases h
  |true =>
   rw[hk]at h;simp only[QaF]at h;split at h
   ·rename_i σ o hgh;split at h
    ·rename_i cs k9;cases hn:Dm ids with
     |false=>rw[hn]at h;cases h
     |true =>
      rw[hn]at h;cases h;rw[bp]at dj;refine Jn n hr dj.1 hS λa' w' QQ=>?_
      obtain⟨hN,O7,U,M,hF,hW,hφ⟩:=J2 hgh dj.2 QQ;have hRR:∀e,(e=Exit.ret\/e=.normal)->RR P fn G (N8 (posOf ids 0) (QiM cs)) (ids.map λi=>(hl σ.H i).map (jA (posOf ids 0))) e a' w':=by
       intro e he;obtain⟨vs,h1,h2⟩:=Z0 hF hW k9;exact⟨he,O7,_,YD U ids,M,Z1 h1,N9 WD (QiN h2),Qhd hn hp SX hW,YE _⟩
      intro b T8;unfold QgL at hk;split at hk
      ·rename_i ur;rw[ur];exact⟨.normal,a',w',hRR _ (.inr rfl),.refl _ _⟩
      ·rename_i p k ur;unfold QlJ at hk;split at hk
       ·rename_i hc;rw[ur];refine⟨.ret,a',w',hRR _ (.inl rfl),.code .ret ::k.map (It.item (DG fn)),?_⟩;simp only[Qfi,It.item,hc];exact .one step_ret
       ·cases hk
      ·cases hk
    ·cases h
   ·cases h
 ·cases h
structure Ev where
 hs:List Hint
 ob:Prop->Prop
 pf:∀q:Prop,q->ob q
def evH:List Ev->List Hint
 | []=>[]
 |e ::r=>e.hs++evH r
def evP:List Ev->Prop
 | []=>True
 |e ::r=>e.ob (evP r)
theorem Qmv:∀l:List Ev,evP l
 | []=>trivial
 |e ::r=>e.pf _ (Qmv r)
theorem gn(n:Nat)(live ids:List Nat)(es:List Ev){cf cf':Cf}(hg:Go P fn HA G r H1 cf')(h:QnT P (DG fn) n live ids cf (evH es)=some (cf',evP es):=by kernel_rfl)(hp:VI HA ids=true:=by kernel_rfl):Go P fn HA G r H1 cf:=
 go_run n live ids (evH es) h hp (Qmv es) hg
theorem gr(n:Nat)(ids:List Nat)(es:List Ev){cf:Cf}(h:QnQ P fn n ids cf (evH es)=some (r,H1,evP es):=by kernel_rfl)(hp:VI HA ids=true:=by kernel_rfl):Go P fn HA G r H1 cf:=go_ret n ids (evH es) h hp (Qmv es)
def rp:Nat->Ev->Ev
 |0,_=>⟨[],λq=>q,λ_ h=>h⟩
 |n+1,e=>⟨e.hs++(rp n e).hs,λq=>e.ob ((rp n e).ob q),λq h=>e.pf _ ((rp n e).pf q h)⟩
def hH(h:Hint):Ev:=⟨[h],λq=>q,λ_ k=>k⟩
def hP:Ev:=hH .spec
def hW(n:Nat):Ev:=hH (.wait n)
def oO{p:Prop}(h:p):Ev:=⟨[],λq=>p/\q,λ_ k=>⟨h,k⟩⟩
def oI(p:Prop):Ev:=oO (λh:p=>h)
def oR(a b:Prop):Ev:=oO (λh:a/\b=>h.2)
def bT{b:Bool}(h:b=true):Ev:=⟨[.bit true],λq=>b=true/\q,λ_ k=>⟨h,k⟩⟩
def bF{b:Bool}(h:b=false):Ev:=⟨[.bit false],λq=>b=false/\q,λ_ k=>⟨h,k⟩⟩
def tT:Ev:=bT (Eq.refl true)
def fF:Ev:=bF (Eq.refl false)
def nT{b:Bool}(h:b=false):Ev:=bT (QtJ h)
def nF{b:Bool}(h:b=true):Ev:=bF (QtI h)
def kF:Ev:=⟨[.skip],λq=>(False->False)/\q,λ_ k=>⟨id,k⟩⟩
def nL{α:Type}(e:α->List Lf)(l:List α):Ev:=⟨[.num l.length],λq=>(l.map e).length=l.length/\q,λ_ k=>⟨QtG e l,k⟩⟩
def cE{α:Type}(e:α->List Lf){l:List α}{i:Int}{a:α}(h:bn l i=some a):Ev:=⟨[.cells (e a)],λq=>bn (l.map e) i=some (e a)/\q,λ_ k=>⟨getM e h,k⟩⟩
def rE{α:Type}(e:α->List Lf){l:List α}{i:Int}{a:α}(h:bn l i=some a):Ev:=⟨[.cells (e a)],λq=>(l.map e)[0+i.toNat]?=some (e a)/\q,λ_ k=>⟨QtY e h,k⟩⟩
def yE{s:I}{i:Int}{b:UInt8}(h:y8 s i=some b):Ev:=⟨[.byte b],λq=>y8 s i=some b/\q,λ_ k=>⟨h,k⟩⟩
def cI{P:Program}{f:FuncId}{args:List Cm}{H0:List Ob}{r:AV}{H1:List (O Ob)}(ids:List Nat)(h:dK P f args H0 r H1):Ev:=⟨[.call ids r H1],λq=>dK P f args H0 r H1/\q,λ_ k=>⟨h,k⟩⟩
def cC{P:Program}{f:FuncId}{args:List Cm}{H0:List Ob}{r:AV}{H1:List (O Ob)}(h:dK P f args H0 r H1):Ev:=cI [] h
def eL{α:Type}(l:List α)(f:α->List Lf):Ev:=oO (Eq.refl (l.map f).length)
def aN{α:Type}(e:α->List Lf){l:List α}{b:Nat}(h:fQ l.length b)(hb:Nat.blt 0 b=true:=by rfl):Ev:=⟨[.rows (l.map e)],λq=>l.map e=l.map e/\(l.map e).length*b<=140737488355328/\(l.map e).length<=9223372036854775807/\q,
 λ_ k=>⟨rfl,QkK e h,QdN e (by simpa using hb) h,k⟩⟩
def aZ{α:Type}(e:α->List Lf){l:List α}{b:Nat}(h:fQ l.length b)(hb:Nat.blt 0 b=true:=by rfl):Ev:=⟨[.rows (l.map e)],λq=>l.map e=l.map e/\(l.map e=[]->([]:List (List Lf))=[])/\(l.map e).length*b<=140737488355328/\(l.map e).length<=9223372036854775807/\q,
 λ_ k=>⟨rfl,neZ e l,QkK e h,QdN e (by simpa using hb) h,k⟩⟩
def aO{α:Type}(e:α->List Lf){l m:List α}{b:Nat}(h:fQ (l++m).length b)(hb:Nat.blt 0 b=true:=by rfl):Ev:=⟨[.rows ((l++m).map e)],
 λq=>(l.map e).length=(l.map e).length/\l.map e++m.map e=(l++m).map e/\((l++m).map e).length*b<=140737488355328/\((l++m).map e).length<=9223372036854775807/\q,
 λ_ k=>⟨rfl,QoY e l m,QkK e h,QdN e (by simpa using hb) h,k⟩⟩
section
variable {w : World} {M : Nat -> Prop} {U : Pl} {m : List Nat}
theorem Rs.QqL{α β:Type}{R:α->β->Prop}{c c':α}(hw:∀v,R c' v->R c v):∀{xs:List α} {vs:List β} {k:Nat},xs[k]?=some c->Rs R (xs.set k c') vs->Rs R xs vs
 | [],_,_,hk,_=>by simp at hk
 |x ::xs,[],0,_,h=>h.elim
 |x ::xs,[],k+1,_,h=>h.elim
 |x ::xs,v ::vs,0,hk,h=>by
  have e:x=c:=by simpa using hk
  subst e;exact⟨hw v h.1,h.2⟩
 |x ::xs,v ::vs,k+1,hk,h=>⟨h.1,Rs.QqL hw (by simpa using hk) h.2⟩
theorem dK.Qqp{P:Program}{f:FuncId}{args:List Cm}{H0:List Ob}{r:AV}{H1:List (O Ob)}(k sz:Nat)(h:dK P f args H0 r H1)(hk:args[k]?=some (.one (.sl false sz [])):=by rfl):dK P f (args.set k (.one .fk)) H0 r H1:=by
 obtain⟨h1,h2⟩:=h;refine⟨h1,λw U M0 iM hW hφ hr=>h2 w U M0 iM hW hφ (Rs.QqL (λv hv=>?_) hk hr)⟩
 have J5:IR w M0 .fk v:=hv;cases J5;exact IR.QF false sz none 0 λh=>by cases h
end
section
variable {K V : Type}
def mE(ek:K->List Lf)(ev:V->Lf)(p:K×V):List Lf:=ev p.2 ::ek p.1
def kI(n:Int):List Lf:=[lI n]
def bM{α:Type}(J0:TypeId)(l:List α)(e:α->List Lf):Ob:=⟨true,1,J0,[] :: [] ::l.map e⟩
def oM{α:Type}(J0:TypeId)(l:List α)(e:α->List Lf):O Ob:=some (bM J0 l e)
theorem Z2(a b:Int):xt (kI a) (kI b)=some (dk a b):=by show some (dk a b&&true)=_;rw[Bool.and_true]
theorem Qfk{ek:K->List Lf}{eq:K->K->Bool}(hk:∀a b,xt (ek a) (ek b)=some (eq a b))(ev:V->Lf)(u:Unit)(l:List (K×V))(k:K)(z:V):EN (l.map (mE ek ev)) (ek k) (ev z)=some (ev (wM eq l k z)):=by
 induction l with
 |nil=>rfl
 |cons p r ih =>
  show(match xt (ek k) (ek p.1)with
   |some true=>some (ev p.2)
   |some false=>EN (r.map (mE ek ev)) (ek k) (ev z)
   |none=>none)=some (ev (wM eq (p ::r) k z))
  rw[hk];simp only[wM];cases eq k p.1 with
  |true=>rfl
  |false=>exact ih
theorem Qfl{ek:K->List Lf}{eq:K->K->Bool}(hk:∀a b,xt (ek a) (ek b)=some (eq a b))(ev:V->Lf)(u:Unit)(l:List (K×V))(k:K)(v:V):Cl (l.map (mE ek ev)) (ek k) (ev v)=some ((EL eq l k v).map (mE ek ev)):=by
 induction l with
 |nil=>rfl
 |cons p r ih =>
  show(match xt (ek k) (ek p.1)with
   |some true=>some ((ev v ::ek k) ::r.map (mE ek ev))
   |some false=>(Cl (r.map (mE ek ev)) (ek k) (ev v)).map ((ev p.2 ::ek p.1) :: ·)
   |none=>none)=some ((EL eq (p ::r) k v).map (mE ek ev))
  rw[hk];simp only[EL];cases eq k p.1 with
  |true=>rfl
  |false=>rw[ih];rfl
end
def cY{α:Type}(e:α->List Lf)(l m:List α):Ev:=⟨[.rows ((Kl l m).map e),.num (OP l m)],
 λq=>(l.map e).length=(l.map e).length/\min (m.map e).length (l.map e).length=OP l m/\(m.map e).take (OP l m)++(l.map e).drop (OP l m)=(Kl l m).map e/\q,λ_ h=>⟨rfl,QrQ e l m,QrR e l m,h⟩⟩
def mG{K V:Type}{ek:K->List Lf}{eq:K->K->Bool}(hk:∀a b,xt (ek a) (ek b)=some (eq a b))(ev:V->Lf)(l:List (K×V))(k:K)(z:V):Ev:=⟨[.cells [ev (wM eq l k z)]],λq=>EN (l.map (mE ek ev)) (ek k) (ev z)=some (ev (wM eq l k z))/\q,λ_ h=>⟨Qfk hk ev () l k z,h⟩⟩
def mU{K V:Type}{ek:K->List Lf}{eq:K->K->Bool}(hk:∀a b,xt (ek a) (ek b)=some (eq a b))(ev:V->Lf)(l:List (K×V))(k:K)(v:V):Ev:=⟨[.rows ((EL eq l k v).map (mE ek ev))],λq=>Cl (l.map (mE ek ev)) (ek k) (ev v)=some ((EL eq l k v).map (mE ek ev))/\q,λ_ h=>⟨Qfl hk ev () l k v,h⟩⟩
def vI(t:Nat)(n:Int):Nat×AV:=(t,one (lI n))
def vB(t:Nat)(b:Bool):Nat×AV:=(t,one (.bool b))
def vS(t:Nat)(s:I):Nat×AV:=(t,one (.str s))
def vL{α:Type}(t sz:Nat)(l:List α)(e:α->List Lf):Nat×AV:=(t,one (lL sz l e))
def vO{α:Type}(t id sz:Nat)(l:List α)(e:α->List Lf):Nat×AV:=(t,one (lO id sz l e))
def vP(t id sz:Nat):Nat×AV:=(t,one (.op id sz 0 0))
def gG(c:List Lf):AV:=.cm (.agg c)
def bX(sz:Nat)(J0:TypeId)(c:List Lf):Ob:=⟨true,sz,J0,[c]⟩
def bS{α:Type}(sz:Nat)(J0:TypeId)(l:List α)(e:α->List Lf):Ob:=⟨false,sz,J0,l.map e⟩
def oX(sz:Nat)(J0:TypeId)(c:List Lf):O Ob:=some (bX sz J0 c)
def oS{α:Type}(sz:Nat)(J0:TypeId)(l:List α)(e:α->List Lf):O Ob:=some (bS sz J0 l e)
theorem oJ{α:Type}{a b:α}(h:some a=some b):b=a:=(QaL h).symm
theorem oK{α:Type}{a b:α}(h:some a=some b):a=b:=QaL h
theorem bz{S E:Type}{B:S->O (S⊕E)}{C:S->Prop}{D:E->Prop}(Vf:∀s x,B s=some x->(∀⦃s'⦄,some (Sum.inl s')=some x->C s')->(∀⦃e⦄,some (Sum.inr e)=some x->D e)->C s):∀⦃s:S⦄ ⦃e:E⦄,aL B s=some e->D e->C s:=λ_ _ h hD=>Qim C D (λs x h1 h2 h3=>Vf s x h1 (λ_ h=>h2 _ (oJ h)) (λ_ h=>h3 _ (oJ h))) h hD
theorem az{α:Type}{b:Bool}{x y:O α}{r:α}:br b x y=some r↔(b=true/\x=some r)\/(b=false/\y=some r):=by
 cases b
 ·exact⟨λh=>.inr ⟨rfl,h⟩,λh=>h.elim (λh=>nomatch h.1) λh=>h.2⟩
 ·exact⟨λh=>.inl ⟨rfl,h⟩,λh=>h.elim (λh=>h.2) λh=>nomatch h.1⟩
theorem aq{α β:Type}{o:O α}{f:α->O β}{r:β}:aQ o f=some r↔∃a,o=some a/\f a=some r:=
 ⟨Yv,λ⟨a,h,h'⟩=>by rw[h];exact h'⟩
theorem au{α β:Type}{o:O α}{f:α->O β}{g:O β}{r:β}:opt o f g=some r↔(∃a,o=some a/\f a=some r)\/(o=none/\g=some r):=by
 cases o
 ·exact⟨λh=>.inr ⟨rfl,h⟩,λh=>h.elim (λ⟨_,h,_⟩=>nomatch h) λh=>h.2⟩
 ·exact⟨λh=>.inl ⟨_,rfl,h⟩,λh=>h.elim (λ⟨_,h,h'⟩=>by cases h;exact h') λh=>nomatch h.1⟩
theorem ar{α:Type}{p:Prop} [Decidable p] {x:O α}{r:α}:ft p x=some r↔p/\x=some r:=
 ⟨Qg2,λ⟨h,h'⟩=>by unfold ft;rw[if_pos h];exact h'⟩
theorem zL(n:Nat):(0:Int)<=n:=QmP n
theorem lT(a b:Nat)(h:Nat.blt a b=true:=by rfl):(a:Int)<b:=by simpa using h
theorem oA{n:Int}(h:(n == 0)=false:=by rfl):n≠0:=by simpa using h
theorem go_amb(t:Nat){cf:Cf}(h:(match look cf.σ.L t with
  | .pM=>true
  |_=>false)=true) (h1:Go P fn HA G r H1 ⟨cf.k,⟨cf.σ.N,(t,one (.bool true)) ::cf.σ.L,cf.σ.H⟩⟩) (h2:Go P fn HA G r H1 ⟨cf.k,⟨cf.σ.N,(t,one (.bool false)) ::cf.σ.L,cf.σ.H⟩⟩):Go P fn HA G r H1 cf:=by
 intro SX a w hS;obtain⟨hN,O7,U,M,hF,hW,hφ⟩:=hS;have ht:=hF t;split at h
 ·rename_i he;rw[he]at ht;obtain⟨b,hb⟩:=ht;have key:QG G ⟨cf.σ.N,(t,one (.bool b)) ::cf.σ.L,cf.σ.H⟩ a w:=⟨hN,O7,U,M,Pe hF (by rw[hb];exact IR.bool b),hW,hφ⟩
  cases b
  ·exact h2 SX a w key
  ·exact h1 SX a w key
 ·cases h
theorem Vt:∀{args:List Cm} {i t:Nat},look (BR i args) t=(if i<=t then(match args[t-i]? with
  |some c=>.cm c
  |none=>.PY)else .PY)
 | [],i,t=>by simp [BR,look]
 |c ::r,i,t=>by
  simp only[BR,look];by_cases h:i=t
  ·subst h;simp
  ·have:(i == t)=false:=by simpa using h
   rw[this,Qdn,Vt];by_cases h1:i<=t
   ·rw[if_pos h1,if_pos (by omega),show t-i=(t-(i+1))+1 by omega];simp
   ·rw[if_neg h1,if_neg (by omega)]
theorem QdV{U:Pl}:∀{H0:List Ob} {i:Nat} {p:Nat×Nat},p∈wT U i H0->p.1∈Sk i H0
 | [],_,_,h=>by cases h
 |o ::r,i,p,h=>by
  simp only[wT,QaI]at h;simp only[Sk,QaI];rcases h with h|h
  ·left;split at h
   ·rename_i b C hb hφ;rw[hb];simp only[Qaz]at h;subst h;simp
   ·cases h
  ·right;exact QdV h
theorem Qmg{f:FuncId}{args:List Cm}{H0:List Ob}(hf:P.funcs[f]?=some fn)(hb:fn.body.isSome=true)(hn:(Nat.ble args.length fn.ntmps&&!(fn.name == "runtime.NumGoroutine"))=true)
  (h:∀G,Go P fn (Sk 0 H0) G r H1 ⟨[.c 1],⟨fn.ntmps,BR 0 args,H0.map some⟩⟩):dK P f args H0 r H1:=by
 rw[ma]at hn;refine⟨by unfold Ij;rw[hf];simp only[hn.2,hb,Bool.and_self],λw U M0 iM hW hφ hA cs=>?_⟩
 have hlen:=hA.len;have hle:args.length<=fn.ntmps:=Qd9 hn.1;obtain⟨c,hc⟩:=Qls.1 hb;have hcd:DG fn=c:=by unfold DG;rw[hc];rfl
 let b:Frame:={ (default:Frame)with fn:=f,kind:=.normal}
 have QmT:Frame.enter P f iM.toArray .normal =
   b.at {tmps:=iM.toArray++Array.replicate (fn.ntmps-iM.toArray.size) undef,defers:=[]} [.code c]:=by
  simp [Frame.enter,Frame.at,hf,hc,b]
 obtain⟨e,a',w',⟨he,hd,v,φ',M',hr,hv,sB,wy⟩,QmK⟩:=h ⟨w,λb=>∃id C,id<H0.length/\U id=some (some (b,C)),M0,wT U 0 H0⟩ (λp hp=>QdV hp)
  {tmps:=iM.toArray++Array.replicate (fn.ntmps-iM.toArray.size) undef,defers:=[]} w
  ⟨by simp; omega,rfl,U,M0,λt=>by
   show AR w M0 U (look (BR 0 args) t) _;rw[Vt,if_pos (QaD _),Qgc];cases ha:args[t]? with
   |none=>trivial
   |some c =>
    obtain⟨v,h1,h2⟩:=hA.get ha;have iq:t<iM.length:=(pB.1 h1).1;have:(iM.toArray++Array.replicate (fn.ntmps-iM.toArray.size) undef).getD t undef=v:=by
     rw[QfZ,Array.getElem?_append_left (by simpa using iq)]
     simp [h1]
    show CR w M0 U c ((iM.toArray++Array.replicate (fn.ntmps-iM.toArray.size) undef).getD t undef);rw[this];exact h2,by
   have:hl (H0.map some)=λid=>H0[id]?:=by
    funext id;unfold hl;rw[Qc0];cases H0[id]? <;> rfl
   show Wd _ U M0 (hl (H0.map some)) w;rw[this];exact hW,λid hid=>hφ id (by simpa using hid)⟩ b cs
 have QpC:([It.c 1].map (It.item (DG fn)))=[.code c]:=by rw[hcd];rfl
 rw[QpC,<-QmT]at QmK;rcases he with rfl|rfl
 ·obtain⟨todo,hs⟩:=QmK;exact⟨.returned v,w',_,⟨v,φ',M',rfl,hv,sB,wy⟩,hs,rfl,rfl,hd,rfl,fn,hf,hr⟩
 ·exact⟨.returned v,w',_,⟨v,φ',M',rfl,hv,sB,wy⟩,Steps.trans QmK (.one step_end),rfl,rfl,hd,rfl,fn,hf,hr⟩
theorem aX{f:FuncId}{args:List Cm}{H0:List Ob}(hf:P.funcs[f]?=some fn)(h:∀G,Go P fn (Sk 0 H0) G r H1 ⟨[.c 1],⟨fn.ntmps,BR 0 args,H0.map some⟩⟩)(hb:fn.body.isSome=true:=by kernel_rfl)(hn:(Nat.ble args.length fn.ntmps&&!(fn.name == "runtime.NumGoroutine"))=true:=by kernel_rfl):dK P f args H0 r H1:=Qmg hf hb hn h
end
end
section
open Go.RowKit Go.ChangeShapes Go.WideShapes Go.Deep
def II(n:Int):Prop:=-9223372036854775808<=n/\n<=9223372036854775807
structure Rd (α:Type) where
 size:Nat
 holds:World->List Value->α->Prop
 len:∀(w:World) (cs:List Value) (x:α),holds w cs x->cs.length=size
 ext:∀(w w':World) (cs:List Value) (x:α),Below w.heap.size w w'->holds w cs x->holds w' cs x
def SlR{α:Type}(r:Rd α)(w:World)(A:O Addr)(xs:List α):Prop:=
 ∀(i:Nat) (x:α),xs[i]?=some x->∃b off cs,A=some ⟨b,off,none⟩/\b<w.heap.size/\r.holds w cs x/\∀(j:Nat) (u:Value),cs[j]?=some u->w.cell? ⟨b,off+i*r.size+j,none⟩=some u
theorem SlR.ext{α:Type}{r:Rd α}{w w':World}{A:O Addr}{xs:List α}(h:SlR r w A xs)(hb:Below w.heap.size w w'):SlR r w' A xs:=λi x hx=>by
 obtain⟨b,off,cs,hA,iq,h1,h2⟩:=h i x hx;exact⟨b,off,cs,hA,Qby iq hb.size,r.ext _ _ _ _ hb h1,λj u hj=>(hb.cell (p:=⟨b,_,none⟩) iq).trans (h2 j u hj)⟩
theorem SlR.nil{α:Type}{r:Rd α}{w:World}{A:O Addr}:SlR r w A []:=λi x hx=>by simp at hx
namespace Rd
def int:Rd Int:={size:=1,holds:=λ_ cs n=>cs=[.int .i64 n]/\II n,len:=λ_ _ _ h=>by rw[h.1];rfl,ext:=λ_ _ _ _ _ h=>h}
def bool:Rd Bool:={size:=1,holds:=λ_ cs b=>cs=[.bool b],len:=λ_ _ _ h=>by rw[h];rfl,ext:=λ_ _ _ _ _ h=>h}
def str(N:Nat):Rd I:={size:=1,holds:=λ_ cs s=>cs=[.string s]/\s.size<=N,len:=λ_ _ _ h=>by rw[h.1];rfl,ext:=λ_ _ _ _ _ h=>h}
def unit:Rd Unit:={size:=0,holds:=λ_ cs _=>cs=[],len:=λ_ _ _ h=>by rw[h];rfl,ext:=λ_ _ _ _ _ h=>h}
def pair{α β:Type}(r:Rd α)(s:Rd β):Rd (α×β):=
 {size:=r.size+s.size,holds:=λw cs x=>∃c d,cs=c++d/\r.holds w c x.1/\s.holds w d x.2,
  len:=λw cs x h=>by
   obtain⟨c,d,rfl,h1,h2⟩:=h;rw[Qay,r.len _ _ _ h1,s.len _ _ _ h2],
  ext:=λw w' cs x hb h=>by
   obtain⟨c,d,rfl,h1,h2⟩:=h;exact⟨c,d,rfl,r.ext _ _ _ _ hb h1,s.ext _ _ _ _ hb h2⟩}
def map{α β:Type}(r:Rd α)(f:α->β):Rd β:=
 {size:=r.size,holds:=λw cs y=>∃x,r.holds w cs x/\f x=y,
  len:=λw cs y h=>by obtain⟨x,h1,_⟩:=h;exact r.len _ _ _ h1,
  ext:=λw w' cs y hb h=>by obtain⟨x,h1,h2⟩:=h;exact⟨x,r.ext _ _ _ _ hb h1,h2⟩}
def slice{α:Type}(N:Nat)(r:Rd α):Rd (List α):=
 {size:=1,holds:=λw cs xs=>∃A c,cs=[.slice A xs.length c]/\xs.length<=N/\SlR r w A xs,
  len:=λw cs xs h=>by obtain⟨A,c,rfl,_⟩:=h;rfl,
  ext:=λw w' cs xs hb h=>by obtain⟨A,c,rfl,h1,h2⟩:=h;exact⟨A,c,rfl,h1,h2.ext hb⟩}
end Rd
section
variable {H : Type}
theorem QgY(d:DataW H):1<=Rows.uptoBulk d:=by
 cases d with
 |lit l=>cases l <;> simp [Rows.uptoBulk]
 |_=>simp [Rows.uptoBulk]
theorem Qg:∀ds:List (DataW H),ds.length<=Rows.uptoBulkAll ds
 | []=>by simp
 |d ::ds=>by
  have h1:=QgY d;have h2:=Qg ds;simp only[QaA,Rows.uptoBulkAll];omega
theorem C7:∀{ds:List (DataW H)} {d:DataW H},d∈ds->Rows.uptoBulk d<=Rows.uptoBulkAll ds
 | [],d,h=>by simp at h
 |e ::ds,d,h=>by
  simp only[Rows.uptoBulkAll];rcases Qbt.1 h with rfl|h
  ·omega
  ·have:=C7 h;omega
def Fits(N:Nat)(d:DataW H):Prop:=N=maxLen\/Rows.uptoBulk d<=N
theorem Fits.agg{N:Nat}{ds:List (DataW H)}(h:Fits N (.agg ds)){d:DataW H}(hd:d∈ds):Fits N d:=by
 rcases h with h|h
 ·exact .inl h
 ·right;have:=C7 hd;simp only[Rows.uptoBulk]at h;omega
theorem Fits.slice{N:Nat}{ds es:List (DataW H)}(h:Fits N (.slice ds es)){d:DataW H}(hd:d∈ds):Fits N d:=by
 rcases h with h|h
 ·exact .inl h
 ·right;have:=C7 hd;simp only[Rows.uptoBulk]at h;omega
theorem Fits.len{N:Nat}{ds es:List (DataW H)}(h:Fits N (.slice ds es))(hl:ds.length<=maxLen):ds.length<=N:=by
 rcases h with h|h
 ·rw[h];exact hl
 ·have:=Qg ds;simp only[Rows.uptoBulk]at h;omega
theorem Fits.all{N:Nat}{ds:List (DataW H)}(h:N=maxLen\/Rows.uptoBulkAll ds<=N){d:DataW H}(hd:d∈ds):Fits N d:=by
 rcases h with h|h
 ·exact .inl h
 ·right;have:=C7 hd;omega
end
structure jm (P:Program) (N:Nat) (t:TypeId) {α:Type} (r:Rd α):Prop where
 size:P.cellsOf t=r.size
 opens:∀(H:Type) (enc:TypeId×Value->H) (w:World) (fuel:Nat) (cs:List Value) (x:DataW H×List MemPlace),
  DataW.trod enc P w 0 (λ_=>true) true fuel t cs=some x->Fits N x.1->∃a,r.holds w cs a
section
variable {P : Program} {N : Nat} {t : TypeId}
theorem Qfq(ht:P.underlying t=some (.int .i64))(hc:P.cellsOf t=1):jm P N t Rd.int:=⟨hc,λH enc w fuel cs x h _=>by
 obtain⟨n,rfl,_,hw⟩:=DataW.trod_int ht h;exact⟨n,rfl,LM hw⟩⟩
theorem Qb3(ht:P.underlying t=some .bool)(hc:P.cellsOf t=1):jm P N t Rd.bool:=⟨hc,λH enc w fuel cs x h _=>by
 obtain⟨b,rfl,_⟩:=DataW.trod_bool ht h;exact⟨b,rfl⟩⟩
theorem Qfr(ht:P.underlying t=some .string)(hc:P.cellsOf t=1):jm P N t (Rd.str N):=⟨hc,λH enc w fuel cs x h hb=>by
 obtain⟨s,rfl,hx,hs⟩:=DataW.trod_string ht h;refine⟨s,rfl,?_⟩;rcases hb with hb|hb
 ·rw[hb];exact hs
 ·rw[hx]at hb;simp only[Rows.uptoBulk,Qdy]at hb;have:s.size=s.data.size:=rfl;omega⟩
theorem jm.map{α β:Type}{r:Rd α}(h:jm P N t r)(f:α->β):jm P N t (r.map f):=⟨h.size,λH enc w fuel cs x hx hb=>by
 obtain⟨a,ha⟩:=h.opens H enc w fuel cs x hx hb;exact⟨f a,a,ha,rfl⟩⟩
theorem ZI{e:TypeId}{α:Type}{r:Rd α}(ht:P.underlying t=some (.slice e))(hc:P.cellsOf t=1)(hr:jm P N e r)(SY:0<r.size):jm P N t (r.slice N):=⟨hc,λH enc w fuel cs x h hb=>by
 rcases open_slice ht h with⟨rfl,_⟩|⟨a,len,cap,m,n,D,Pl,rfl,_,hl,hm,hmm,ZZ,o6⟩
 ·exact⟨[],none,0,rfl,QaD _,SlR.nil⟩
 ·have hlm:len<=m:=by rw[hmm];split <;> omega
  have ZZ:x.1=.slice ((List.range len).map D) ((List.range (m-len)).map λj=>D (len+j)):=by rw[ZZ]
  rw[ZZ]at hb;have hlN:len<=N:=by have:=hb.len (by simp;omega);simpa using this
  have each:∀i,i<len->∃q:List Value×α,r.holds w q.1 q.2/\q.1.length=r.size/\∀j u,q.1[j]?=some u->w.cell? (a.add (i*r.size+j))=some u:=by
   intro i hi;obtain⟨T8,h1,h2⟩:=o6 i (by omega)
   obtain⟨y,hy⟩:=hr.opens H enc w n T8 _ h2 (hb.slice (QdX.2 ⟨i,Qf4.2 hi,rfl⟩));obtain⟨_,hlen,px⟩:=World.cells?_some h1;rw[hr.size]at px hlen;refine⟨(T8,y),hy,hlen,λj u hj=>?_⟩
   have Nl:j<T8.length:=(pB.1 hj).1;have:=px j (by omega)
   rw[add_add,hj]at this;exact this
  obtain⟨b,off,spot⟩:=a;by_cases O8:len=0
  ·subst O8;exact⟨[],_,_,rfl,QaD _,SlR.nil⟩
  ·have Qp3:spot=none:=by
    obtain⟨q,_,h2,h3⟩:=each 0 (by omega)
    have h0:=h3 0 _ (dr (by omega:0<q.1.length))
    simpa [Addr.add]using World.cell?_spot h0
   subst Qp3;have key:∀k,k<=len->∃xs:List α,xs.length=k/\SlR r w (some ⟨b,off,none⟩) xs:=by
    intro k;induction k with
    |zero=>exact λ_=>⟨[],rfl,SlR.nil⟩
    |succ k ih =>
     intro hk;obtain⟨xs,h1,h2⟩:=ih (by omega)
     obtain⟨⟨T8,y⟩,g1,g2,g3⟩:=each k (by omega)
     refine⟨xs++[y],by simp [h1],λi x hx=>?_⟩
     rcases sh i k with hi|hi
     ·rw[Qdz (by omega)]at hx
      exact h2 i x hx
     ·have hik:i=k:=by
       have:=(pB.1 hx).1;simp [h1]at this;omega
      subst hik;rw[Qe3 (by omega),h1,Qkh]at hx
      have:y=x:=by simpa using hx
      subst this;have px:∀(j:Nat) (u:Value),T8[j]?=some u->w.cell? ⟨b,off+i*r.size+j,none⟩=some u:=λj u hj=>by
       have:=g3 j u hj;rw[add_plain]at this;rw[<-this];congr 2;omega
      refine⟨b,off,T8,rfl,?_,g1,px⟩;have h0:=px 0 _ (dr (by show 0<T8.length;simp only at g2;omega))
      rcases sh b w.heap.size with h|h
      ·exact h
      ·exfalso;unfold World.cell? at h0;rw[QiQ h]at h0;simp at h0
   obtain⟨xs,h1,h2⟩:=key len (fa _);exact⟨xs,_,_,by rw[h1],by omega,h2⟩⟩
inductive JR (P:Program) (N:Nat):List Field->Nat->(α:Type)->Rd α->Prop
 |nil {off:Nat}:JR P N [] off Unit Rd.unit
 |cons {f:Field} {fs:List Field} {off:Nat} {α β:Type} {r:Rd α} {s:Rd β}:f.offset=off->jm P N f.type r->JR P N fs (off+r.size) β s->JR P N (f ::fs) off (α×β) (Rd.pair r s)
theorem YV{w:World}{H:Type}{enc:TypeId×Value->H}{n:Nat}{cs:List Value}:∀{fs:List Field} {off:Nat} {α:Type} {r:Rd α},JR P N fs off α r->
  (∀f∈fs,∃y,DataW.trod enc P w 0 (λ_=>true) true n f.type ((cs.drop f.offset).take (P.cellsOf f.type))=some y/\Fits N y.1)->∃a,r.holds w ((cs.drop off).take r.size) a:=by
 intro fs off α r hF;induction hF with
 |nil=>exact λ_=>⟨(),by show List.take 0 _=[];simp⟩
 | @cons f fs off α β r s ho hr _ ih =>
  intro o6;obtain⟨y,hy,hyb⟩:=o6 f (by simp)
  obtain⟨a,ha⟩:=hr.opens _ _ _ _ _ _ hy hyb;obtain⟨b,hb⟩:=ih (λg hg=>o6 g (by simp [hg]))
  rw[ho,hr.size]at ha;refine⟨(a,b),_,_,?_,ha,hb⟩;show List.take (r.size+s.size) _=_;rw[List.take_add,QfV]
theorem Xy{fs:Array Field}{α:Type}{r:Rd α}(ht:P.underlying t=some (.struct fs))(hc:P.cellsOf t=r.size)(hF:JR P N fs.toList 0 α r):jm P N t r:=⟨hc,λH enc w fuel cs x h hb=>by
 obtain⟨xs,n,_,ZZ,hlen,wu,hf⟩:=DataW.trod_struct ht h;have ZZ:x.1=.agg (xs.map (·.1)):=by rw[ZZ]
 rw[ZZ]at hb;have:=YV (w:=w) (enc:=enc) (n:=n) (cs:=cs) hF (λf hfm=>by
  obtain⟨i,hi⟩:=QhO hfm;have SU:fs[i]?=some f:=by simpa using hi
  have iq:i<xs.length:=by rw[wu];exact(Qnn.1 SU).1
  exact⟨xs[i],by rw[hf i f SU,dr iq],hb.agg (QdX.2 ⟨xs[i],QaH iq,rfl⟩)⟩)
 rwa [Qjq,<-hc,<-hlen,QbC]at this⟩
theorem Xx{e:TypeId}{α:Type}{r:Rd α}(ht:P.underlying t=some (.array 2 e))(hc:P.cellsOf t=r.size+r.size)(hr:jm P N e r):jm P N t (r.pair r):=⟨hc,λH enc w fuel cs x h hb=>by
 obtain⟨xs,n,_,ZZ,hlen,wu,hf⟩:=DataW.trod_array ht h;have ZZ:x.1=.agg (xs.map (·.1)):=by rw[ZZ]
 rw[ZZ]at hb;have h0:=hf 0 (by omega)
 have h1:=hf 1 (by omega)
 rw[hr.size]at h0 h1;have l0:0<xs.length:=by omega
 have l1:1<xs.length:=by omega
 obtain⟨a,ha⟩:=hr.opens _ _ _ _ _ _ (h0.trans (dr l0)) (hb.agg (QdX.2 ⟨xs[0],QaH l0,rfl⟩));obtain⟨b,OE⟩:=hr.opens _ _ _ _ _ _ (h1.trans (dr l1)) (hb.agg (QdX.2 ⟨xs[1],QaH l1,rfl⟩));refine⟨(a,b),_,_,?_,ha,OE⟩;rw[Qbx,Qjq,QfM];have:cs=cs.take (r.size+r.size):=by rw[QeR (by omega)]
 conv=>lhs;rw[this]
 rw[List.take_add]⟩
end
end
section
open Go.RowKit Go.ChangeShapes Go.WideShapes Go.Deep
abbrev IRw(w:World):Lf->Value->Prop:=IR w (λb=>b<w.heap.size)
def NP{α:Type}(k:Nat)(enc:α->List Lf)(ok:α->Prop)(hk:∀x,(enc x).length=k):Rd α:=
 {size:=k,holds:=λw cs x=>ok x/\Rs (IRw w) (enc x) cs,
  len:=λw cs x h=>h.2.len.symm.trans (hk x),
  ext:=λw w' cs x hb h=>⟨h.1,Rs.mono (λ_ _ h=>IR.mono (λb OE=>hb.block b OE) (λb OE=>Qby OE hb.size) h) h.2⟩}
def HE{α:Type}(r:Rd α)(e:α->List Lf)(ok:α->Prop):Prop:=∀w cs a,r.holds w cs a->ok a/\Rs (IRw w) (e a) cs
section
variable {α β : Type} {P : Program} {N : Nat} {t : TypeId}
theorem HE.rd{k:Nat}{enc:α->List Lf}{ok:α->Prop}{hk:∀x,(enc x).length=k}:HE (NP k enc ok hk) enc ok:=λ_ _ _ h=>h
theorem HE.unit:HE Rd.unit (λ_=>[]) (λ_=>True):=λ_ _ _ h=>by cases h;exact⟨trivial,trivial⟩
theorem HE.pair{r:Rd α}{s:Rd β}{e:α->List Lf}{e':β->List Lf}{ok:α->Prop}{ok':β->Prop}(h:HE r e ok)(h':HE s e' ok'):HE (r.pair s) (λx=>e x.1++e' x.2) (λx=>ok x.1/\ok' x.2):=by
 rintro w cs a ⟨c,d,rfl,h1,h2⟩;obtain⟨g1,g2⟩:=h w c _ h1;obtain⟨g3,g4⟩:=h' w d _ h2;exact⟨⟨g1,g3⟩,Rs.append g2 g4⟩
theorem jm.mono{r:Rd α}{s:Rd β}(h:jm P N t r)(hs:r.size=s.size)(hi:∀w cs a,r.holds w cs a->∃b,s.holds w cs b):jm P N t s:=
 ⟨h.size.trans hs,λH enc w fuel cs x hx hb=>let⟨a,ha⟩:=h.opens H enc w fuel cs x hx hb;hi w cs a ha⟩
theorem Qny(ht:P.underlying t=some (.int .i64))(hc:P.cellsOf t=1):jm P N t (NP 1 (λn:Int=>[.int .i64 n]) II (λ_=>rfl)):=
 (Qfq ht hc).mono rfl λw cs a h=>⟨a,h.2,by rw[h.1];exact⟨.int _ _,trivial⟩⟩
theorem QkJ(ht:P.underlying t=some .bool)(hc:P.cellsOf t=1):jm P N t (NP 1 (λb:Bool=>[.bool b]) (λ_=>True) (λ_=>rfl)):=
 (Qb3 ht hc).mono rfl λw cs a h=>⟨a,trivial,by rw[h];exact⟨.bool _,trivial⟩⟩
theorem Qiy(ht:P.underlying t=some .string)(hc:P.cellsOf t=1):jm P N t (NP 1 (λs:I=>[.str s]) (λs=>s.size<=N) (λ_=>rfl)):=
 (Qfr ht hc).mono rfl λw cs a h=>⟨a,h.2,by rw[h.1];exact⟨.str _,trivial⟩⟩
theorem Ax{e:TypeId}{sz:Nat}{enc:α->List Lf}{ok:α->Prop}{hk:∀x,(enc x).length=sz}(ht:P.underlying t=some (.slice e))(hc:P.cellsOf t=1)(hr:jm P N e (NP sz enc ok hk))(SY:0<sz):
  jm P N t (NP 1 (λl:List α=>[.sl false sz (l.map enc)]) (λl=>l.length<=N/\∀x∈l,ok x) (λ_=>rfl)):=⟨hc,λH QrU w fuel cs x h hb=>by
 obtain⟨xs,A,c,k9,hlen,hS⟩:=(ZI ht hc hr SY).opens H QrU w fuel cs x h hb;have SQ:xs.length<=c:=by
  rcases open_slice ht h with⟨h1,_⟩|⟨a,len,cap,m,n,D,Pl,h1,_,hl,_⟩
  ·rw[k9]at h1;simp only[List.cons.injEq,Value.slice.injEq,and_true]at h1;omega
  ·rw[k9]at h1;simp only[List.cons.injEq,Value.slice.injEq,and_true]at h1;omega
 have y5:∀x∈xs,ok x:=λx hx=>by
  obtain⟨i,hi⟩:=QhO hx;obtain⟨b,off,T8,_,_,h1,_⟩:=hS i x hi;exact h1.1
 refine⟨xs,⟨hlen,y5⟩,?_⟩;rw[k9];refine⟨?_,trivial⟩;cases xs with
 |nil=>exact .QF false sz A c (λh=>by cases h)
 |cons x0 xr =>
  obtain⟨b,off,cs0,hA,iq,_,_⟩:=hS 0 x0 rfl;subst hA;have key:∀(i:Nat) (c':List Lf) (j:Nat) (l:Lf),((x0 ::xr).map enc)[i]?=some c'->c'[j]?=some l->∃v,w.cell? ⟨b,off+i*sz+j,none⟩=some v/\IRw w l v:=by
   intro i c' j l hi hj;rw[Qc0]at hi;cases hx:(x0 ::xr)[i]? with
   |none=>rw[hx]at hi;cases hi
   |some y =>
    rw[hx]at hi;cases hi;obtain⟨b',Qxz,T8,hA',_,⟨_,h1⟩,h2⟩:=hS i y hx;cases hA';obtain⟨v,hv,hr⟩:=h1.get hj;exact⟨v,h2 j v hv,hr⟩
  have k_:(x0 ::xr).length=((x0 ::xr).map enc).length:=(Qbn ..).symm;rw[k_];refine .sl false sz _ b off c (λi j=>(w.cell? ⟨b,off+i*sz+j,none⟩).getD undef) iq (by rw[Qbn];exact SQ) (λh=>by cases h) ?_ ?_ ?_
  ·intro i c' hi;rw[Qc0]at hi;cases hx:(x0 ::xr)[i]? with
   |none=>rw[hx]at hi;cases hi
   |some y=>rw[hx]at hi;cases hi;exact hk y
  ·intro i c' j l hi hj;obtain⟨v,hv,_⟩:=key i c' j l hi hj;show _=some ((w.cell? ⟨b,off+i*sz+j,none⟩).getD undef);rw[hv];rfl
  ·intro i c' j l hi hj;obtain⟨v,hv,hr⟩:=key i c' j l hi hj;show IR w _ l ((w.cell? ⟨b,off+i*sz+j,none⟩).getD undef);rw[hv];exact hr⟩
theorem zS{fs:Array Field}{r:Rd α}{e:α->List Lf}{ok:α->Prop}{k:Nat}{enc:β->List Lf}{okT:β->Prop}{hk:∀x,(enc x).length=k}(ht:P.underlying t=some (.struct fs))(hc:P.cellsOf t=r.size)(hF:JR P N fs.toList 0 α r)
  (jI:r.size=k) (hE:HE r e ok) (mk:α->β) (h1:∀a,enc (mk a)=e a) (h2:∀a,ok a->okT (mk a)):jm P N t (NP k enc okT hk):=
 (Xy ht hc hF).mono jI λw cs a h=>⟨mk a,h2 a (hE w cs a h).1,by rw[h1];exact(hE w cs a h).2⟩
theorem Qfp{e:TypeId}{sz:Nat}{Qj5:α->List Lf}{ok0:α->Prop}{ur:∀x,(Qj5 x).length=sz}{k:Nat}{enc:β->List Lf}{okT:β->Prop}{hk:∀x,(enc x).length=k}(ht:P.underlying t=some (.array 2 e))(hc:P.cellsOf t=sz+sz)(hr:jm P N e (NP sz Qj5 ok0 ur))
  (jI:sz+sz=k) (mk:α->α->β) (h1:∀a b,enc (mk a b)=Qj5 a++Qj5 b) (h2:∀a b,ok0 a->ok0 b->okT (mk a b)):jm P N t (NP k enc okT hk):=
 (Xx ht hc hr).mono jI λw cs a h=>by
  have:=HE.pair (HE.rd (hk:=ur)) (HE.rd (hk:=ur)) w cs a h;exact⟨mk a.1 a.2,h2 _ _ this.1.1 this.1.2,by rw[h1];exact this.2⟩
end
section
variable {P : Program} {f : FuncId} {w : World}
theorem Qkw{M:Nat->Prop}{U:Pl}{ls:List Lf}{vs:List Value}(h:Rs (IR w M) ls vs):Rs (LR w M U) ls vs:=Rs.mono (λ_ _ h=>IR.lr h) h
theorem Qib{args:List Cm}{iM:List Value}(ht:∀b cs,(b,cs)∈UB->b<w.heap.size/\∃t s,w.heap[b]?=some (.cells cs t s))(h:dK P f args [] (.cm (.one (.bool true))) [])(hv:Rs (CR w (λb=>b<w.heap.size) (λ_=>none)) args iM):
  Calls P f iM.toArray w λe w'=>e=.returned (.bool true)/\Below w.heap.size w w':=by
 refine(h.2 w (λ_=>none) (λb=>b<w.heap.size) iM ?_ (λ_ _=>rfl) hv).mono ?_
 ·refine⟨λid ob h=>by simp at h,λi j oi oj b Ci Cj h=>by simp at h,λb h=>h,λb h=>h,λb h=>.inl h,λid ob b C h=>by simp at h,λ_ _ _=>rfl,rfl,rfl,rfl,fa _,λp h=>by simp [wT]at h,λb cs h=>⟨(ht b cs h).1,λ⟨id,C,hc,_⟩=>by simp at hc,ht b cs h⟩⟩
 ·rintro e w' ⟨v,φ',M',rfl,hv,hW,_⟩;cases hv;exact⟨rfl,hW.os,hW.tape,hW.output,hW.size,λb hb=>hW.AO b hb (by rintro⟨id,C,h,_⟩;simp at h)⟩
theorem Wl{l:Lf}{v:Value}(h:IRw w l v):CR w (λb=>b<w.heap.size) (λ_=>none) (.one l) v:=IR.lr h
theorem QjO{ls:List Lf}{cs:Array Value}(h:Rs (IRw w) ls cs.toList):CR w (λb=>b<w.heap.size) (λ_=>none) (.agg ls) (.agg cs):=⟨cs.toList,by simp,Qkw h⟩
end
end
end Go.Proofs.YtkcilfpbgjjjbaaGreatDoor
