/- Part MC of the proof: texts GW GN GO GQ GH GR GS GT GU GV GR2 GX. -/
import Derived.Test.YtpkkaboonnedfaaDoorMB
import Derived.Test.YtpkkaboonnedfaaDoorMA
import Derived.Test.YtpkkaboonnedfaaDoorML
import Derived.Deep.Slices
import Derived.ChangeArms
import Derived.OpenShut
import Derived.WideShapes
namespace Go.Proofs.YtpkkaboonnedfaaDoor
set_option linter.unusedSimpArgs false
set_option linter.unusedVariables false
set_option linter.unusedSectionVars false
open Go.RowKit
section
variable {P : Program} {Γ : Gam} {φ φ2 : Pl} {M : Nat → Prop} {w : World} {a : Act} {m : Nat → Option Nat}
theorem Qf3:∀ {l:List Nat} {k id j:Nat},posOf l k id=some j→k≤j∧l[j-k]?=some id
 | [],_,_,_,h=>by cases h
 | x :: r,k,id,j,h=>by
  simp only [posOf] at h
  cases hx:(x == id) with
  | true =>
   rw [hx] at h; cases h
   have:x=id:=by simpa using hx
   subst this
   exact ⟨Nat.le_refl _,by simp⟩
  | false =>
   rw [hx] at h
   obtain ⟨h1,h2⟩:=Qf3 (l:=r) (k:=k+1) h
   refine ⟨by omega,?_⟩
   rw [show j-k=(j-(k+1))+1 by omega]; simpa using h2
theorem Qkl (hm:∀ id k p,m id=some k→φ id=some p→φ2 k=some p) {l:Lf} {v:Value} (h:LR0 w M φ l v):LR0 w M φ2 (ren0 m l) v:=by
 cases l with
 | op id sz row off =>
  obtain ⟨b,C,h1,h2⟩:=h
  simp only [ren0]
  cases hh:m id with
  | none=>subst h2; exact IR.any _ rfl
  | some k=>exact ⟨b,C,hm id k _ hh h1,h2⟩
 | os id sz off len =>
  simp only [ren0]
  cases hh:m id with
  | none =>
   rcases h with ⟨b,C,h1,h2,h3⟩|⟨h1,h2,h3,x,h4⟩
   ·subst h2; exact IR.any _ rfl
   ·subst h4; exact IR.any _ rfl
  | some k =>
   rcases h with ⟨b,C,h1,h2⟩|⟨h1,h2⟩
   ·exact .inl ⟨b,C,hm id k _ hh h1,h2⟩
   ·exact .inr ⟨hm id k _ hh h1,h2⟩
 | fn f caps=>cases (h:IR w M (.fn f caps) v); exact IR.any _ rfl
 | mp id =>
  obtain ⟨b,h1,h2⟩:=h
  simp only [ren0]
  cases hh:m id with
  | none=>subst h2; exact IR.any _ rfl
  | some k=>exact ⟨b,hm id k _ hh h1,h2⟩
 | _=>exact h
theorem QjL:∀ {l:Lf},isFn (ren0 m l)=false:=by
 intro l
 cases l <;> simp only [ren0] <;> (try split) <;> rfl
theorem Qjj (hm:∀ id k p,m id=some k→φ id=some p→φ2 k=some p) {l:Lf} {v:Value} (h:LR w M φ l v):LR w M φ2 (renL m l) v:=by
 rcases LR.split h with ⟨h1,h2⟩|⟨f,caps,vs,rfl,rfl,h3⟩
 ·have:renL m l=ren0 m l:=by cases l <;> first|rfl|cases h1
  rw [this,LR_eq QjL]
  exact Qkl hm h2
 ·exact ⟨vs,rfl,Rs.map_left (Rs.mono (fun _ _ h=>Qkl hm h) h3)⟩
theorem QhW (hm:∀ id k p,m id=some k→φ id=some p→φ2 k=some p) {c:Cm} {v:Value} (h:CR w M φ c v):CR w M φ2 (renC m c) v:=by
 cases c with
 | one l=>exact Qjj hm h
 | agg ls=>obtain ⟨vs,h1,h2⟩:=h; exact ⟨vs,h1,Rs.map_left (Rs.mono (fun _ _ h=>Qjj hm h) h2)⟩
theorem QgF (hm:∀ id k p,m id=some k→φ id=some p→φ2 k=some p) {c:AV} {v:Value} (h:AR w M φ c v):AR w M φ2 (renAV m c) v:=by
 cases c with
 | cm c=>exact QhW hm h
 | tup cs=>obtain ⟨vs,h1,h2⟩:=h; exact ⟨vs,h1,Rs.map_left (Rs.mono (fun _ _ h=>QhW hm h) h2)⟩
 | gd p c=>exact ⟨fun hp=>QhW hm (h.1 hp),h.2⟩
 | unk=>trivial
 | boo=>exact h
theorem QhX {ob:Ob}:(renOb m ob).box=ob.box:=by
 unfold renOb; cases hb:(ob.box&&!isMap ob)
 ·rfl
 ·rfl
theorem QkW (hm:∀ id k p,m id=some k→φ id=some p→φ2 k=some p) {i j:Nat} {ob:Ob} (he:φ2 i=φ j) (hO:OC w M φ j ob):OC w M φ2 i (renOb m ob):=by
 have hsz:(renOb m ob).sz=ob.sz:=by unfold renOb; cases (ob.box&&!isMap ob) <;> rfl
 have hety:(renOb m ob).ety=ob.ety:=by unfold renOb; cases (ob.box&&!isMap ob) <;> rfl
 have hbox:(renOb m ob).box=ob.box:=QhX
 have hlen:(renOb m ob).rows.length=ob.rows.length:=by unfold renOb; cases (ob.box&&!isMap ob) <;> simp
 have hnm:=hO.noMap
 obtain ⟨h0,h1⟩:=hO
 refine ⟨by rw [hsz]; exact h0,?_⟩
 rw [he]
 revert h1
 cases φ j with
 | none=>exact id
 | some p=>cases p with
  | none =>
   rintro ⟨h2,h3⟩
   refine ⟨?_,by rw [hbox]; exact h3⟩
   unfold renOb; rw [h3]; exact h2
  | some q =>
   obtain ⟨b,C⟩:=q
   rintro ⟨cur,g1,g2,g3,g4,g5,g6⟩
   refine ⟨cur,by rw [hety]; exact g1,by rw [hsz]; exact g2,by rw [hlen]; exact g3,g4,by rw [hbox]; exact g5,fun i c hc=>?_⟩
   rw [hsz,hbox]
   cases hbx:ob.box with
   | false =>
    have e:renOb m ob=ob:=by unfold renOb; rw [hbx]; rfl
    rw [e] at hc
    have:=g6 i c hc
    rw [hbx] at this; exact this
   | true =>
    have e:(renOb m ob).rows=ob.rows.map fun c=>c.map (renL m):=by unfold renOb; rw [hbx,hnm hbx]; rfl
    rw [e,List.getElem?_map] at hc
    cases hc0:ob.rows[i]? with
    | none=>rw [hc0] at hc; cases hc
    | some c0 =>
     rw [hc0] at hc; cases hc
     obtain ⟨g7,g8⟩:=g6 i c0 hc0
     refine ⟨by rw [List.length_map]; exact g7,fun j l hl=>?_⟩
     rw [List.getElem?_map] at hl
     cases hl0:c0[j]? with
     | none=>rw [hl0] at hl; cases hl
     | some l0 =>
      rw [hl0] at hl; cases hl
      obtain ⟨v,hv,hr⟩:=g8 j l0 hl0
      rw [hbx,if_pos rfl] at hr
      exact ⟨v,hv,by rw [if_pos rfl]; exact Qjj hm hr⟩
theorem Qf6 (hm:∀ id k p,m id=some k→φ id=some p→φ2 k=some p) {i j:Nat} {ob:Ob} (he:φ2 i=φ j) (hO:OR w M φ j ob):OR w M φ2 i (renOb m ob):=by
 rcases hO with hO|⟨hb,rs,b,es,clk,h1,h2,h3,h4⟩
 ·exact .inl (QkW hm he hO)
 ·have e:renOb m ob=ob:=by unfold renOb isMap; rw [h1]; cases ob.box <;> rfl
  rw [e]
  exact .inr ⟨hb,rs,b,es,clk,h1,he.trans h2,h3,h4⟩
end
end Go.Proofs.YtpkkaboonnedfaaDoor
namespace Go.Proofs.YtpkkaboonnedfaaDoor
set_option linter.unusedSimpArgs false
set_option linter.unusedVariables false
set_option linter.unusedSectionVars false
open Go.RowKit
section
variable {P : Program} {Γ : Gam} {φ φ' : Pl} {M M' : Nat → Prop} {hD h : Nat → Option Ob} {w w' : World} {base : Nat} {L : Nat → AV} {a : Act} {g : Prop} {hs : List Hint} {r : Res} {o : Oper}
theorem LR0.free {l:Lf} {v:Value} (hf:free0 l=true) (h:LR0 w M φ l v):LR0 w M φ' l v:=by
 cases l <;> first|exact h|cases hf
theorem LR.free {l:Lf} {v:Value} (hf:freeL l=true) (h:LR w M φ l v):LR w M φ' l v:=by
 rcases h.split with ⟨hn,h0⟩|⟨f,caps,vs,rfl,rfl,h2⟩
 ·rw [LR_eq hn]
  refine LR0.free ?_ h0
  cases l <;> first|exact hf|cases hn
 ·have hf':caps.all free0=true:=hf
  exact ⟨vs,rfl,h2.imp_mem fun x hx y h=>LR0.free (List.all_eq_true.1 hf' x hx) h⟩
theorem CR.free {c:Cm} {v:Value} (hf:freeC c=true) (h:CR w M φ c v):CR w M φ' c v:=by
 cases c with
 | one l=>exact LR.free hf h
 | agg ls =>
  obtain ⟨vs,h1,h2⟩:=h
  exact ⟨vs,h1,h2.imp_mem fun x hx y h=>LR.free (List.all_eq_true.1 hf x hx) h⟩
theorem AR.free {c:AV} {v:Value} (hf:QkD c=true) (h:AR w M φ c v):AR w M φ' c v:=by
 cases c with
 | cm c=>exact CR.free hf h
 | tup cs =>
  obtain ⟨vs,h1,h2⟩:=h
  exact ⟨vs,h1,h2.imp_mem fun x hx y h=>CR.free (List.all_eq_true.1 hf x hx) h⟩
 | gd p c=>cases hf
 | unk=>trivial
 | boo=>exact h
theorem LR.plain {l : Lf} {v : Value} (hf : QkV l = true) (h : LR w M φ l v) : LR w' M' φ' l v := by
  cases l <;> first
    | (cases hf; done)
    | (have h' : IR w M _ v := h
       cases h'
       first | exact IR.int _ _ | exact IR.bool _ | exact IR.str _ | exact IR.any _ (by assumption))
theorem CR.plain {c:Cm} {v:Value} (hf:QkU c=true) (h:CR w M φ c v):CR w' M' φ' c v:=by
 cases c with
 | one l=>exact LR.plain hf h
 | agg ls =>
  obtain ⟨vs,h1,h2⟩:=h
  exact ⟨vs,h1,h2.imp_mem fun x hx y h=>LR.plain (List.all_eq_true.1 hf x hx) h⟩
theorem AR.plain {c:AV} {v:Value} (hf:Qjd c=true) (h:AR w M φ c v):AR w' M' φ' c v:=by
 cases c with
 | cm c=>exact CR.plain hf h
 | tup cs =>
  obtain ⟨vs,h1,h2⟩:=h
  exact ⟨vs,h1,h2.imp_mem fun x hx y h=>CR.plain (List.all_eq_true.1 hf x hx) h⟩
 | gd p c=>cases hf
 | unk=>cases hf
 | boo=>cases hf
def Lent (M:Nat→Prop) (φ:Pl) (hD:Nat→Option Ob):Nat→Prop:=fun b=>M b∨∃ id ob C,hD id=some ob∧φ id=some (some (b,C))
theorem Lent.sub:∀ b,M b→Lent M φ hD b:=fun _ h=>.inl h
theorem QjP (hW:Wd Γ φ M hD w) (hsub:∀ id ob,h id=some ob→hD id=some ob) {l l':Lf} {v:Value} {ob:List Prop} (hl:QkO h l=some (l',ob)) (ho:allP ob) (hv:LR w M φ l v):IR w (Lent M φ hD) l' v:=by
 have imm:∀ {l:Lf},IR w M l v→IR w (Lent M φ hD) l v:=fun h=>h.mono (fun _ _=>rfl) Lent.sub
 cases l with
 | os id sz off len =>
  simp only [QkO] at hl
  split at hl
  ·rename_i o1 ho1
   cases hc:(off == 0&&!o1.box&&o1.sz == sz) with
   | false=>rw [hc] at hl; cases hl
   | true =>
    rw [hc] at hl; cases hl
    simp only [Bool.and_eq_true,beq_iff_eq,Bool.not_eq_true'] at hc
    obtain ⟨⟨rfl,hbx⟩,hsz⟩:=hc
    obtain ⟨hlen,-⟩:=ho
    have hO:=hW.obs id o1 (hsub id o1 ho1)
    rcases (hv:LR0 w M φ (.os id sz 0 len) v) with ⟨b,C,hφ,rfl,hle⟩|⟨hφ,_,rfl,A,rfl⟩
    ·obtain ⟨h0,h1⟩:=hO.oc (.inl hbx)
     rw [hφ] at h1
     obtain ⟨cur,g1,g2,g3,g4,g5,g6⟩:=h1
     have hcell:∀ (i:Nat) (c:List Lf) (j:Nat) (l:Lf),o1.rows[i]?=some c→c[j]?=some l→w.cell? ⟨b,0*sz+i*sz+j,none⟩=some ((cur[i*sz+j]?).getD undef)∧IR w (Lent M φ hD) l ((cur[i*sz+j]?).getD undef):=fun i c j l hc hj=>by
      obtain ⟨u,hu,hr⟩:=(g6 i c hc).2 j l hj
      rw [hbx] at hr
      rw [hsz] at hu
      refine ⟨?_,by rw [hu]; exact IR.mono (fun _ _=>rfl) Lent.sub (by simpa using hr)⟩
      simp only [World.cell?,g1,Nat.zero_mul,Nat.zero_add]
      simp [hu]
     have key:IR w (Lent M φ hD) (.sl false sz o1.rows) (.slice (some ⟨b,0*sz,none⟩) o1.rows.length (C-0)) :=
      IR.sl false sz o1.rows b (0*sz) (C-0) (fun i j=>(cur[i*sz+j]?).getD undef) (.inr ⟨id,o1,C,hsub id o1 ho1,hφ⟩) (by omega) (fun h=>by cases h) (fun i c hc=>by rw [(g6 i c hc).1,hsz]) (fun i c j l hc hj=>(hcell i c j l hc hj).1) (fun i c j l hc hj=>(hcell i c j l hc hj).2)
     rw [hlen] at key
     exact key
    ·have hr0:o1.rows=[]:=List.eq_nil_of_length_eq_zero hlen
     rw [hr0]
     exact (IR.sl0 false sz A 0 fun h=>by cases h)
  ·cases hl
 | op id sz row off=>cases hl
 | fn f caps=>cases hl
 | mp id=>cases hl
 | any=>cases hl; exact imm hv
 | int k n=>cases hl; exact imm hv
 | bool b=>cases hl; exact imm hv
 | str s=>cases hl; exact imm hv
 | nilp=>cases hl; exact imm hv
 | nils=>cases hl; exact imm hv
 | ip c off=>cases hl; exact imm hv
 | sl cl sz rows=>cases hl; exact imm hv
theorem QgW (hW:Wd Γ φ M hD w) (hsub:∀ id ob,h id=some ob→hD id=some ob):∀ {ls ls':List Lf} {ob:List Prop},Qgq h ls=some (ls',ob)→allP ob→ls'.length=ls.length∧∀ (j:Nat) (l':Lf),ls'[j]?=some l'→∃ l,ls[j]?=some l∧∀ v,LR w M φ l v→IR w (Lent M φ hD) l' v
 | [],_,_,hl,_=>by cases hl; exact ⟨rfl,fun j l' hj=>by simp at hj⟩
 | l :: ls,ls',ob,hl,ho=>by
  simp only [Qgq] at hl
  split at hl
  ·rename_i x o1 xs o2 h1 h2
   cases hl
   rw [Qag] at ho
   obtain ⟨g1,g2⟩:=QgW hW hsub h2 ho.2
   refine ⟨by simp [g1],fun j l' hj=>?_⟩
   cases j with
   | zero=>simp at hj; subst hj; exact ⟨l,rfl,fun v hv=>QjP hW hsub h1 ho.1 hv⟩
   | succ j=>exact g2 j l' (by simpa using hj)
  ·cases hl
theorem QiV (hW:Wd Γ φ M hD w) (hsub:∀ id ob,h id=some ob→hD id=some ob) {l l':Lf} {v:Value} {ob:List Prop} (hl:loan0 h l=some (l',ob)) (ho:allP ob) (hv:LR w M φ l v):LR w (Lent M φ hD) φ' l' v:=by
 have imm:∀ {l:Lf},IR w M l v→LR w (Lent M φ hD) φ' l v:=fun h=>IR.lr (h.mono (fun _ _=>rfl) Lent.sub)
 cases l with
 | os id sz off len =>
  simp only [loan0] at hl
  split at hl
  ·rename_i o1 ho1
   cases hc:(off == 0&&!o1.box&&o1.sz == sz) with
   | false =>
    rw [hc] at hl
    simp only [cond_false] at hl
    cases hc2:(off == 0&&o1.box&&o1.sz == sz) with
    | false=>rw [hc2] at hl; cases hl
    | true =>
     rw [hc2] at hl
     simp only [cond_true] at hl
     simp only [Bool.and_eq_true,beq_iff_eq] at hc2
     obtain ⟨⟨rfl,hbx⟩,hsz⟩:=hc2
     unfold QiX at hl
     split at hl
     ·rename_i cells hrows
      cases hls:Qgq h cells with
      | none=>rw [hls] at hl; cases hl
      | some p =>
       obtain ⟨c',o2⟩:=p
       rw [hls] at hl; cases hl
       obtain ⟨hlen,ho2⟩:=ho
       have hO:=hW.obs id o1 (hsub id o1 ho1)
       obtain ⟨bb,hbb⟩:=hO.boxed hbx
       obtain ⟨g1,g2⟩:=QgW hW hsub hls ho2
       rcases (hv:LR0 w M φ (.os id sz 0 len) v) with ⟨b,C,hφ,rfl,hle⟩|⟨hφ,_⟩
       ·rw [hbb] at hφ; cases hφ
        obtain ⟨h0,h1⟩:=hO.oc (.inr ⟨_,hrows⟩)
        rw [hbb] at h1
        obtain ⟨cur,k1,k2,k3,k4,k5,k6⟩:=h1
        have k7:=k6 0 cells (by rw [hrows]; rfl)
        have hcell:∀ (j:Nat) (l':Lf),c'[j]?=some l'→∃ u,w.cell? ⟨bb,0*sz+0*sz+j,none⟩=some u∧IR w (Lent M φ hD) l' u:=fun j l' hj=>by
         obtain ⟨l,hl1,hl2⟩:=g2 j l' hj
         obtain ⟨u,hu,hr⟩:=k7.2 j l hl1
         rw [hbx,if_pos rfl] at hr
         refine ⟨u,?_,hl2 u hr⟩
         rw [Nat.zero_mul,Nat.zero_add] at hu
         simp only [World.cell?,k1,Nat.zero_mul,Nat.zero_add]
         simpa using hu
        have key:IR w (Lent M φ hD) (.sl false sz [c']) (.slice (some ⟨bb,0*sz,none⟩) ([c']:List (List Lf)).length (1-0)):=by
         refine IR.sl false sz [c'] bb (0*sz) (1-0) (fun i j=>(w.cell? ⟨bb,0*sz+i*sz+j,none⟩).getD undef) (.inr ⟨id,o1,1,hsub id o1 ho1,hbb⟩) (by simp) (fun h=>by cases h) (fun i c hc=>?_) (fun i c j l hc hj=>?_) (fun i c j l hc hj=>?_)
         ·cases i with
          | zero=>simp at hc; subst hc; rw [g1,k7.1,hsz]
          | succ i=>simp at hc
         ·cases i with
          | zero =>
           simp at hc; subst hc
           obtain ⟨u,hu,hr⟩:=hcell j l hj
           rw [hu]; rfl
          | succ i=>simp at hc
         ·cases i with
          | zero =>
           simp at hc; subst hc
           obtain ⟨u,hu,hr⟩:=hcell j l hj
           rw [hu]; exact hr
          | succ i=>simp at hc
        rw [← hlen]
        exact IR.lr key
       ·rw [hbb] at hφ; cases hφ
     ·cases hl
   | true =>
    rw [hc] at hl; cases hl
    simp only [Bool.and_eq_true,beq_iff_eq,Bool.not_eq_true'] at hc
    obtain ⟨⟨rfl,hbx⟩,hsz⟩:=hc
    obtain ⟨hlen,-⟩:=ho
    have hO:=hW.obs id o1 (hsub id o1 ho1)
    rcases (hv:LR0 w M φ (.os id sz 0 len) v) with ⟨b,C,hφ,rfl,hle⟩|⟨hφ,_,rfl,A,rfl⟩
    ·obtain ⟨h0,h1⟩:=hO.oc (.inl hbx)
     rw [hφ] at h1
     obtain ⟨cur,g1,g2,g3,g4,g5,g6⟩:=h1
     have hcell:∀ (i:Nat) (c:List Lf) (j:Nat) (l:Lf),o1.rows[i]?=some c→c[j]?=some l→w.cell? ⟨b,0*sz+i*sz+j,none⟩=some ((cur[i*sz+j]?).getD undef)∧IR w (Lent M φ hD) l ((cur[i*sz+j]?).getD undef):=fun i c j l hc hj=>by
      obtain ⟨u,hu,hr⟩:=(g6 i c hc).2 j l hj
      rw [hbx] at hr
      rw [hsz] at hu
      refine ⟨?_,by rw [hu]; exact IR.mono (fun _ _=>rfl) Lent.sub (by simpa using hr)⟩
      simp only [World.cell?,g1,Nat.zero_mul,Nat.zero_add]
      simp [hu]
     have key:IR w (Lent M φ hD) (.sl false sz o1.rows) (.slice (some ⟨b,0*sz,none⟩) o1.rows.length (C-0)) :=
      IR.sl false sz o1.rows b (0*sz) (C-0) (fun i j=>(cur[i*sz+j]?).getD undef) (.inr ⟨id,o1,C,hsub id o1 ho1,hφ⟩) (by omega) (fun h=>by cases h) (fun i c hc=>by rw [(g6 i c hc).1,hsz]) (fun i c j l hc hj=>(hcell i c j l hc hj).1) (fun i c j l hc hj=>(hcell i c j l hc hj).2)
     rw [hlen] at key
     exact IR.lr key
    ·have hr0:o1.rows=[]:=List.eq_nil_of_length_eq_zero hlen
     rw [hr0]
     exact IR.lr (IR.sl0 false sz A 0 fun h=>by cases h)
  ·cases hl
 | op id sz row off =>
  simp only [loan0] at hl
  split at hl
  ·rename_i o1 ho1
   cases hc:(o1.box&&row == 0) with
   | false=>rw [hc] at hl; cases hl
   | true =>
    rw [hc] at hl
    simp only [cond_true] at hl
    simp only [Bool.and_eq_true,beq_iff_eq] at hc
    obtain ⟨hbx,rfl⟩:=hc
    split at hl
    ·rename_i cells hrows
     cases hi:cells.all immL with
     | false=>rw [hi] at hl; cases hl
     | true =>
      rw [hi] at hl; cases hl
      have hO:=hW.obs id o1 (hsub id o1 ho1)
      obtain ⟨b,C,hφ,rfl⟩:=(hv:LR0 w M φ (.op id sz 0 off) v)
      have hcell:∀ (j:Nat) (l:Lf),cells[j]?=some l→∃ u,w.cell? ⟨b,0+j,none⟩=some u∧IR w M l u:=fun j l hj=>by
       obtain ⟨u,hu,hr⟩:=hO.cell' (i:=0) (.inr ⟨_,hrows⟩) hφ (by rw [hrows]; rfl) j l hj
       exact ⟨u,by rw [Nat.zero_mul] at hu; exact hu,LR.imm (List.all_eq_true.1 hi l (List.mem_of_getElem? hj)) hr⟩
      have key:IR w (Lent M φ hD) (.ip cells off) (.pointer (some ⟨b,0+off,none⟩)):=by
       refine IR.ip cells off b 0 (fun i=>(w.cell? ⟨b,0+i,none⟩).getD undef) (.inr ⟨id,o1,C,hsub id o1 ho1,hφ⟩) (fun i l hl=>?_) (fun i l hl=>?_)
       ·obtain ⟨u,hu,hr⟩:=hcell i l hl; simp only [hu,Option.getD_some]
       ·obtain ⟨u,hu,hr⟩:=hcell i l hl; simp only [hu,Option.getD_some]; exact hr.mono (fun _ _=>rfl) Lent.sub
      rw [show 0*sz+off=0+off by rw [Nat.zero_mul]]
      exact IR.lr key
    ·cases hl
  ·cases hl
 | fn f caps=>cases hl
 | mp id=>cases hl
 | any=>cases hl; exact imm hv
 | int k n=>cases hl; exact imm hv
 | bool b=>cases hl; exact imm hv
 | str s=>cases hl; exact imm hv
 | nilp=>cases hl; exact imm hv
 | nils=>cases hl; exact imm hv
 | ip c off=>cases hl; exact imm hv
 | sl cl sz rows=>cases hl; exact imm hv
theorem QkP {l l':Lf} {ob:List Prop} (hl:loan0 h l=some (l',ob)):isFn l=false∧isFn l'=false:=by
 have bif_some:∀ {c:Bool} {x:Option (Lf×List Prop)},(bif c then x else none)=some (l',ob)→x=some (l',ob):=by
  intro c x hc; cases c
  ·cases hc
  ·exact hc
 cases l with
 | os id sz off len =>
  simp only [loan0] at hl
  split at hl
  ·rename_i o1 ho1
   cases hc:(off == 0&&!o1.box&&o1.sz == sz) with
   | true=>rw [hc] at hl; cases hl; exact ⟨rfl,rfl⟩
   | false =>
    rw [hc] at hl
    have h1:=bif_some hl
    unfold QiX at h1
    split at h1
    ·rename_i cells hrows
     cases hls:Qgq h cells with
     | none=>rw [hls] at h1; cases h1
     | some p=>rw [hls] at h1; cases h1; exact ⟨rfl,rfl⟩
    ·cases h1
  ·cases hl
 | op id sz row off =>
  simp only [loan0] at hl
  split at hl
  ·have h1:=bif_some hl
   split at h1
   ·cases bif_some h1; exact ⟨rfl,rfl⟩
   ·cases h1
  ·cases hl
 | fn f caps=>cases hl
 | mp id=>cases hl
 | _=>cases hl; exact ⟨rfl,rfl⟩
theorem QhF (hW:Wd Γ φ M hD w) (hsub:∀ id ob,h id=some ob→hD id=some ob):∀ {ls ls':List Lf} {vs:List Value} {ob:List Prop},QiW h ls=some (ls',ob)→allP ob→Rs (LR0 w M φ) ls vs→Rs (LR0 w (Lent M φ hD) φ') ls' vs
 | [],_,[],_,hl,_,_=>by cases hl; trivial
 | l :: ls,ls',v :: vs,ob,hl,ho,hr=>by
  simp only [QiW] at hl
  split at hl
  ·rename_i x o1 xs o2 h1 h2
   cases hl
   rw [Qag] at ho
   obtain ⟨n1,n2⟩:=QkP h1
   refine ⟨?_,QhF hW hsub h2 ho.2 hr.2⟩
   rw [← LR_eq n2]
   exact QiV hW hsub h1 ho.1 (by rw [LR_eq n1]; exact hr.1)
  ·cases hl
 | [],_,_ :: _,_,_,_,h=>h.elim
 | _ :: _,_,[],_,_,_,h=>h.elim
theorem QiY (hW:Wd Γ φ M hD w) (hsub:∀ id ob,h id=some ob→hD id=some ob) {l l':Lf} {v:Value} {ob:List Prop} (hl:loanL h l=some (l',ob)) (ho:allP ob) (hv:LR w M φ l v):LR w (Lent M φ hD) φ' l' v:=by
 cases l with
 | fn f caps =>
  simp only [loanL] at hl
  cases h1:QiW h caps with
  | none=>rw [h1] at hl; cases hl
  | some p =>
   obtain ⟨x,o1⟩:=p; rw [h1] at hl; cases hl
   obtain ⟨vs,e,hr⟩:=hv
   exact ⟨vs,e,QhF hW hsub h1 ho hr⟩
 | _=>exact QiV hW hsub (by simpa only [loanL] using hl) ho hv
theorem QhH (hW:Wd Γ φ M hD w) (hsub:∀ id ob,h id=some ob→hD id=some ob):∀ {ls ls':List Lf} {vs:List Value} {ob:List Prop},QiZ h ls=some (ls',ob)→allP ob→Rs (LR w M φ) ls vs→Rs (LR w (Lent M φ hD) φ') ls' vs
 | [],_,[],_,hl,_,_=>by cases hl; trivial
 | l :: ls,ls',v :: vs,ob,hl,ho,hr=>by
  simp only [QiZ] at hl
  split at hl
  ·rename_i x o1 xs o2 h1 h2
   cases hl
   rw [Qag] at ho
   exact ⟨QiY hW hsub h1 ho.1 hr.1,QhH hW hsub h2 ho.2 hr.2⟩
  ·cases hl
 | [],_,_ :: _,_,_,_,h=>h.elim
 | _ :: _,_,[],_,_,_,h=>h.elim
theorem QkQ (hW:Wd Γ φ M hD w) (hsub:∀ id ob,h id=some ob→hD id=some ob) {c c':Cm} {v:Value} {ob:List Prop} (hl:loanC h c=some (c',ob)) (ho:allP ob) (hv:CR w M φ c v):CR w (Lent M φ hD) φ' c' v:=by
 cases c with
 | one l =>
  simp only [loanC] at hl
  cases h1:loanL h l with
  | none=>rw [h1] at hl; cases hl
  | some p=>obtain ⟨x,o1⟩:=p; rw [h1] at hl; cases hl; exact QiY hW hsub h1 ho hv
 | agg ls =>
  simp only [loanC] at hl
  cases h1:QiZ h ls with
  | none=>rw [h1] at hl; cases hl
  | some p =>
   obtain ⟨x,o1⟩:=p; rw [h1] at hl; cases hl
   obtain ⟨vs,e,hr⟩:=hv
   exact ⟨vs,e,QhH hW hsub h1 ho hr⟩
theorem QhG (hW:Wd Γ φ M hD w) (hsub:∀ id ob,h id=some ob→hD id=some ob):∀ {cs cs':List Cm} {vs:List Value} {ob:List Prop},QjQ h cs=some (cs',ob)→allP ob→Rs (CR w M φ) cs vs→Rs (CR w (Lent M φ hD) φ') cs' vs
 | [],_,[],_,hl,_,_=>by cases hl; trivial
 | l :: ls,ls',v :: vs,ob,hl,ho,hr=>by
  simp only [QjQ] at hl
  split at hl
  ·rename_i x o1 xs o2 h1 h2
   cases hl
   rw [Qag] at ho
   exact ⟨QkQ hW hsub h1 ho.1 hr.1,QhG hW hsub h2 ho.2 hr.2⟩
  ·cases hl
 | [],_,_ :: _,_,_,_,h=>h.elim
 | _ :: _,_,[],_,_,_,h=>h.elim
theorem Qho {c:Call} {f:Operand} {k:FuncId} {caps:List Value} (ho:o.op=.call c) (hc:c.callee=.value f) (hf:a.eval f=.func (.func k) #[] caps.toArray) (hk:QjE P k=true) :
  (execOp a.eval o).run P w=.ok (.enter k (c.args.toList.map a.eval++caps).toArray) w:=by
 unfold QjE at hk
 split at hk
 ·rename_i fn hfn
  simp only [Bool.and_eq_true,Bool.not_eq_true'] at hk
  have hb:¬ fn.body=none:=fun e=>by rw [e] at hk; cases hk.2
  have hne:¬ fn.name="runtime.NumGoroutine":=by simpa using hk.1
  have he:c.args.map a.eval++caps.toArray=(c.args.toList.map a.eval++caps).toArray:=by apply Array.ext'; simp
  simp [execOp,ho,resolve,hc,hf,Deferred.ofValue,invoke,callFunc,hfn,hne,hb,he]
 ·cases hk
theorem Wd.moreM (hW:Wd Γ φ M hD w) (hsub:∀ b,M b→M' b) (hnew:∀ b,M' b→M b∨(Γ.w0.heap.size≤b∧b<w.heap.size∧∀ id ob C,hD id=some ob→φ id≠some (some (b,C)))):Wd Γ φ M' hD w:=by
 have he:Ex w M φ w M' φ:=⟨fun _ _=>rfl,hsub,fun _ _ h=>h⟩
 refine ⟨fun id ob e=>(hW.obs id ob e).mono he fun _ _ _=>rfl,hW.inj,fun b hb=>?_,fun b hb=>hsub b (hW.m0 b hb),fun b hb=>?_,fun id ob b C e p=>⟨fun hb=>?_,(hW.own id ob b C e p).2⟩,hW.keep,hW.os,hW.tape,hW.output,hW.size,hW.pin,hW.tbw⟩
 ·rcases hnew b hb with h|h
  ·exact hW.mlt b h
  ·exact h.2.1
 ·rcases hnew b hb with h|h
  ·exact hW.mold b h
  ·exact .inr (.inr h.1)
 ·rcases hnew b hb with h|h
  ·exact (hW.own id ob b C e p).1 h
  ·exact h.2.2 id ob C e p
theorem Qkq (hM:∀ b,M b→b<w.heap.size) (ht:∀ b cs,tab0=some (b,cs)→M b∧b<w.heap.size∧∃ t s,w.heap[b]?=some (.cells cs t s)):Wd ⟨w,fun b=>∃ id C,id<([]:List Ob).length∧(fun _=>none:Pl) id=some (some (b,C)),M,Qe3 (fun _=>none) 0 []⟩ (fun _=>none) M (fun id=>([]:List Ob)[id]?) w :=
 ⟨fun id ob e=>by simp at e,fun i j oi oj b Ci Cj hi=>by simp at hi,hM,fun _ h=>h,fun _ h=>.inl h,fun id ob b C e=>by simp at e,fun _ _ _=>rfl,rfl,rfl,rfl,Nat.le_refl _,fun p hp=>by simp [Qe3] at hp,fun b cs h=>⟨(ht b cs h).1,fun ⟨id,C,hc,_⟩=>by simp at hc,(ht b cs h).2⟩⟩
theorem QeR {c:Call} (ho:o.op=.call c) (hf:Qhb P h L c hs=some r) (hob:allP r.obs) (hF:∀ t,AR w M φ (L t) (a.tmps.getD t undef)) (hW:Wd Γ φ M hD w) (hsub:∀ id ob,h id=some ob→hD id=some ob) {K:Act→World→Prop}
  (hK:∀ v w' M',AR w' M' φ r.v v→Wd Γ φ M' hD w'→Ex w M φ w' M' φ→K (a.put o.dst v) w'):r.news=[]∧o.wp P a w K NQ:=by
 unfold Qhb at hf
 split at hf
 ·rename_i f hcf
  split at hf
  ·rename_i k caps args0 o1 r0 hs' h1 h2
   have hfv:AR w M φ (aev L f) (a.eval f):=Qha hF f
   rw [h1] at hfv
   obtain ⟨cvs,hcv,hcr⟩:LR w M φ (.fn (.func k) caps) (a.eval f):=hfv
   have hcaps:Rs (CR w M φ) (caps.map Cm.one) cvs:=by
    refine Rs.map_left (hcr.imp_mem fun x hx y h=>?_)
    exact LR0.lr h
   -- the callee's own say
   have go:∀ {args':List Cm} {M0:Nat→Prop} {r1:AV},AFn P k args' [] r1 []→(∀ b,M0 b→b<w.heap.size)→(∀ b,M b→M0 b)→Rs (CR w M0 (fun _=>none)) args' (c.args.toList.map a.eval++cvs) →
     (∀ v w' M',Below w.heap.size w w'→AR w' M' (fun _=>none) r1 v→(∀ b,M0 b→M' b)→(∀ b,M' b→M0 b∨(w.heap.size≤b∧b<w'.heap.size))→K (a.put o.dst v) w')→o.wp P a w K NQ:=by
    intro args' M0 r1 hA hM hMM hargs hk
    unfold Oper.wp
    rw [Qho ho hcf hcv hA.1]
    show Calls P k _ w _
    refine (hA.2 w (fun _=>none) M0 _ (Qkq hM fun b cs h=>⟨hMM b (hW.tab b cs h).1,(hW.tab b cs h).2⟩) (fun _ _=>rfl) hargs).mono ?_
    rintro e w' ⟨v,φ',M',rfl,hr,hW',hφ'⟩
    have hφn:φ'=fun _=>none:=funext fun id=>hφ' id (Nat.zero_le _)
    subst hφn
    have hbel:Below w.heap.size w w':=⟨hW'.os,hW'.tape,hW'.output,hW'.size,fun b hb=>hW'.keep b hb fun ⟨id,C,h,_⟩=>by simp at h⟩
    refine hk v w' M' hbel hr hW'.m0 fun b hb=>?_
    rcases hW'.mold b hb with h|⟨id,C,h,_⟩|h
    ·exact .inl h
    ·simp at h
    ·exact .inr ⟨h,hW'.mlt b hb⟩
   cases hfree:(args0++caps.map Cm.one).all freeC with
   | true =>
    rw [hfree] at hf
    simp only [cond_true] at hf
    cases hfr:QkD r0 with
    | false=>rw [hfr] at hf; cases hf
    | true =>
     rw [hfr] at hf; cases hf
     simp only [Qag,allP] at hob
     refine ⟨rfl,go hob.2.1 (fun b hb=>hW.mlt b hb) (fun _ h=>h) ?_ ?_⟩
     ·exact ((Qdu hF trivial h2 hob.1).append hcaps).imp_mem fun x hx y h=>CR.free (List.all_eq_true.1 hfree x hx) h
     ·intro v w' M' hbel hr hs1 hs2
      refine hK v w' M' (AR.free hfr hr) ((hW.grow hbel).moreM hs1 fun b hb=>?_) ⟨fun b hb=>hbel.block b (hW.mlt b hb),hs1,fun _ _ h=>h⟩
      rcases hs2 b hb with h|h
      ·exact .inl h
      ·exact .inr ⟨Nat.le_trans hW.size h.1,h.2,fun id ob C e p=>by have:=(hW.own id ob b C e p).2.1; omega⟩
   | false =>
    rw [hfree] at hf
    simp only [cond_false] at hf
    split at hf
    ·rename_i args' o2 h3
     cases hpl:Qjd r0 with
     | false=>rw [hpl] at hf; cases hf
     | true =>
      rw [hpl] at hf; cases hf
      simp only [Qag,allP] at hob
      refine ⟨rfl,go (M0:=Lent M φ hD) hob.2.1 ?_ (fun _ h=>.inl h) (QhG hW hsub h3 hob.1.2 ((Qdu hF trivial h2 hob.1.1).append hcaps)) ?_⟩
      ·rintro b (h|⟨id,ob,C,e,p⟩)
       ·exact hW.mlt b h
       ·exact (hW.own id ob b C e p).2.1
      ·intro v w' M' hbel hr hs1 hs2
       exact hK v w' M (AR.plain hpl hr) (hW.grow hbel) (hW.ex_grow hbel)
    ·cases hf
  ·cases hf
 ·cases hf
theorem QfN:∀ {out:List (Option Ob)} {obs:List Ob},allOb out=some obs→out=obs.map some
 | [],_,h=>by cases h; rfl
 | some o :: r,obs,h=>by
  simp only [allOb] at h
  cases hr:allOb r with
  | none=>rw [hr] at h; cases h
  | some os=>rw [hr] at h; cases h; rw [QfN hr]; rfl
 | none :: _,_,h=>by cases h
theorem QgN {c:Call} (ho:o.op=.call c) (hf:Qiz P base L c hs=some r) (hob:allP r.obs) (hF:∀ t,AR w M φ (L t) (a.tmps.getD t undef)) (hW:Wd Γ φ M hD w)
  (hfr:∀ id,base≤id→id<base+r.news.length→φ id=none∧hD id=none) {K:Act→World→Prop}
  (hK:∀ v w' φ' M',AR w' M' φ' r.v v→Wd Γ φ' M' (plc hD base r.news) w'→Ex w M φ w' M' φ'→(∀ id,φ' id≠none→φ id≠none∨(base≤id∧id<base+r.news.length))→K (a.put o.dst v) w'):o.wp P a w K NQ:=by
 unfold Qiz at hf
 split at hf
 ·rename_i f hcf
  split at hf
  ·rename_i k caps args0 o1 r0 out hs' h1 h2
   split at hf
   ·rename_i obs hobs
    cases hc:((args0++caps.map Cm.one).all freeC&&obs.all (fun o=>!o.box)) with
    | false=>rw [hc] at hf; cases hf
    | true =>
     rw [hc] at hf; cases hf
     rw [Bool.and_eq_true] at hc
     obtain ⟨hfree,hbox⟩:=hc
     have hout:=QfN hobs
     subst hout
     simp only [Qag,allP] at hob
     have hfv:AR w M φ (aev L f) (a.eval f):=Qha hF f
     rw [h1] at hfv
     obtain ⟨cvs,hcv,hcr⟩:LR w M φ (.fn (.func k) caps) (a.eval f):=hfv
     have hcaps:Rs (CR w M φ) (caps.map Cm.one) cvs:=by
      refine Rs.map_left (hcr.imp_mem fun x hx y h=>?_)
      exact LR0.lr h
     have hargs:Rs (CR w M (fun _=>none)) (args0++caps.map Cm.one) (c.args.toList.map a.eval++cvs):=((Qdu hF trivial h2 hob.1).append hcaps).imp_mem fun x hx y h=>CR.free (List.all_eq_true.1 hfree x hx) h
     unfold Oper.wp
     rw [Qho ho hcf hcv hob.2.1.1]
     show Calls P k _ w _
     refine (hob.2.1.2 w (fun _=>none) M _ (Qkq hW.mlt hW.tab) (fun _ _=>rfl) hargs).mono ?_
     rintro e w' ⟨v,φ',M',rfl,hr,hW',hφ'⟩
     rw [List.length_map] at hφ'
     have hhl:∀ i,hl (obs.map some) i=obs[i]?:=fun i=>by unfold hl; rw [List.getElem?_map]; cases obs[i]? <;> rfl
     have hbel:Below w.heap.size w w':=⟨hW'.os,hW'.tape,hW'.output,hW'.size,fun b hb=>hW'.keep b hb fun ⟨id,C,h,_⟩=>by simp at h⟩
     have hs1:∀ b,M b→M' b:=hW'.m0
     have hs2:∀ b,M' b→M b∨w.heap.size≤b:=fun b hb=>by
      rcases hW'.mold b hb with h|⟨id,C,h,_⟩|h
      ·exact .inl h
      ·simp at h
      ·exact .inr h
     have hW2:Wd Γ φ M' hD w':=(hW.grow hbel).moreM hs1 fun b hb=>by
      rcases hs2 b hb with h|h
      ·exact .inl h
      ·exact .inr ⟨Nat.le_trans hW.size h,hW'.mlt b hb,fun id ob C e p=>by have:=(hW.own id ob b C e p).2.1; omega⟩
     have hown:∀ i ob b C,obs[i]?=some ob→φ' i=some (some (b,C))→¬ M' b∧b<w'.heap.size∧w.heap.size≤b:=fun i ob b C h p=>by
      obtain ⟨g1,g2,g3⟩:=hW'.own i ob b C ((hhl i).trans h) p
      refine ⟨g1,g2,?_⟩
      rcases g3 with ⟨id,C,h,_⟩|h
      ·simp at h
      ·exact h
     let φ2:Pl:=fun i=>if base≤i∧i<base+obs.length then φ' (i-base) else φ i
     have hin:∀ i,base≤i→i<base+obs.length→φ2 i=φ' (i-base):=fun i h1 h2=>if_pos ⟨h1,h2⟩
     have hout:∀ i,¬ (base≤i∧i<base+obs.length)→φ2 i=φ i:=fun i h=>if_neg h
     have hpl:∀ i p,φ i=some p→φ2 i=some p:=fun i p h=>by
      by_cases hi:base≤i∧i<base+obs.length
      ·rw [(hfr i hi.1 hi.2).1] at h; cases h
      ·rw [hout i hi]; exact h
     have hm:∀ id k p,(some (base+id):Option Nat)=some k→φ' id=some p→φ2 k=some p:=fun id k p h hp=>by
      cases h
      have hlt:id<obs.length:=by
       rcases Nat.lt_or_ge id obs.length with h|h
       ·exact h
       ·rw [hφ' id h] at hp; cases hp
      rw [hin _ (by omega) (by omega),show base+id-base=id by omega]; exact hp
     have he:Ex w' M' φ w' M' φ2:=⟨fun _ _=>rfl,fun _ h=>h,hpl⟩
     refine hK v w' φ2 M' (QgF hm hr) ?_ ⟨fun b hb=>hbel.block b (hW.mlt b hb),hs1,hpl⟩ fun i hi=>?_
     ·have hplc:∀ {i ob},plc hD base obs i=some ob→(base≤i∧i<base+obs.length∧obs[i-base]?=some ob)∨(¬ (base≤i∧i<base+obs.length)∧hD i=some ob):=fun {i ob} h=>by
       unfold plc at h
       split at h
       ·rename_i hi; exact .inl ⟨hi.1,hi.2,h⟩
       ·rename_i hi; exact .inr ⟨hi,h⟩
      refine ⟨fun i ob h=>?_,fun i j oi oj b Ci Cj h1 h2 h3 h4=>?_,hW'.mlt,fun b hb=>hs1 b (hW.m0 b hb),fun b hb=>?_,fun i ob b C h1 h2=>?_,hW2.keep,hW2.os,hW2.tape,hW2.output,hW2.size,fun p hp=>hpl _ _ (hW.pin p hp),hW.tbw⟩
      ·rcases hplc h with ⟨g1,g2,g3⟩|⟨g1,g2⟩
       ·have hb:ob.box=false:=by simpa using List.all_eq_true.1 hbox ob (List.mem_of_getElem? g3)
        have:=Qf6 (m:=fun j=>some (base+j)) (φ2:=φ2) (i:=i) (j:=i-base) hm (hin i g1 g2) (hW'.obs (i-base) ob ((hhl _).trans g3))
        have e:renOb (fun j=>some (base+j)) ob=ob:=by unfold renOb; rw [hb]; rfl
        rw [e] at this; exact this
       ·exact (hW2.obs i ob g2).mono he fun _ _ _=>rfl
      ·rcases hplc h1 with ⟨g1,g2,g3⟩|⟨g1,g2⟩ <;> rcases hplc h2 with ⟨k1,k2,k3⟩|⟨k1,k2⟩
       ·rw [hin i g1 g2] at h3
        rw [hin j k1 k2] at h4
        have:=hW'.inj (i-base) (j-base) oi oj b Ci Cj ((hhl _).trans g3) ((hhl _).trans k3) h3 h4
        omega
       ·rw [hin i g1 g2] at h3
        rw [hout j k1] at h4
        have:=(hown _ _ _ _ g3 h3).2.2
        have:=(hW.own _ _ _ _ k2 h4).2.1
        omega
       ·rw [hout i g1] at h3
        rw [hin j k1 k2] at h4
        have:=(hown _ _ _ _ k3 h4).2.2
        have:=(hW.own _ _ _ _ g2 h3).2.1
        omega
       ·rw [hout i g1] at h3
        rw [hout j k1] at h4
        exact hW2.inj i j oi oj b Ci Cj g2 k2 h3 h4
      ·rcases hs2 b hb with h|h
       ·exact hW.mold b h
       ·exact .inr (.inr (Nat.le_trans hW.size h))
      ·rcases hplc h1 with ⟨g1,g2,g3⟩|⟨g1,g2⟩
       ·rw [hin i g1 g2] at h2
        obtain ⟨k1,k2,k3⟩:=hown _ _ _ _ g3 h2
        exact ⟨k1,k2,.inr (Nat.le_trans hW.size k3)⟩
       ·rw [hout i g1] at h2
        exact hW2.own i ob b C g2 h2
     ·by_cases h:base≤i∧i<base+obs.length
      ·exact .inr h
      ·rw [hout i h] at hi; exact .inl hi
   ·cases hf
  ·cases hf
 ·cases hf
theorem Qgw (hf:dop P h base L o.op hs=some r) (hob:allP r.obs) (hF:∀ t,AR w M φ (L t) (a.tmps.getD t undef)) (hW:Wd Γ φ M hD w) (hsub:∀ id ob,h id=some ob→hD id=some ob)
  (hfr:∀ id,base≤id→id<base+r.news.length→φ id=none∧hD id=none) {K:Act→World→Prop}
  (hK:∀ v w' φ' M',AR w' M' φ' r.v v→Wd Γ φ' M' (plc hD base r.news) w'→Ex w M φ w' M' φ'→(∀ id,φ' id≠none→φ id≠none∨(base≤id∧id<base+r.news.length))→K (a.put o.dst v) w'):o.wp P a w K NQ:=by
 unfold dop at hf
 split at hf
 ·rename_i r0 h1
  cases hf
  obtain ⟨v,w',φ',hrun,hr,hW',hp,hn,hb⟩:=QfH h1 hob trivial hF hW hsub hfr
  unfold Oper.wp
  rw [hrun]
  exact hK v w' φ' M hr hW' ⟨hb,fun _ h=>h,hp⟩ hn
 ·split at hf
  ·rename_i c hc
   split at hf
   ·rename_i r1 hf1
    cases hf
    obtain ⟨hn,-⟩:=QeR (K:=fun _ _=>True) hc hf1 hob hF hW hsub (fun _ _ _ _ _ _=>trivial)
    refine (QeR hc hf1 hob hF hW hsub fun v w' M' hr hW' he=>?_).2
    exact hK v w' φ M' hr (by rw [hn,Qd5]; exact hW') he fun _ h=>.inl h
   ·exact QgN hc hf hob hF hW hfr hK
  ·cases hf
end
end Go.Proofs.YtpkkaboonnedfaaDoor
namespace Go.Proofs.YtpkkaboonnedfaaDoor
set_option linter.unusedSimpArgs false
set_option linter.unusedVariables false
set_option linter.unusedSectionVars false
open Go.RowKit
section
variable {P : Program} {Γ : Gam} {φ φ' : Pl} {M M' : Nat → Prop} {h : Nat → Option Ob} {w w' : World} {a : Act} {hs : List Hint} {o : Oper} {H : List (Option Ob)} {L : List (Nat × AV)}
theorem QcW {α:Type} {l vs:List α} {p:Nat} (hp:p+vs.length≤l.length) (k:Nat):(l.take p++vs++l.drop (p+vs.length))[k]?=if k<p then l[k]? else if k<p+vs.length then vs[k-p]? else l[k]?:=by
 by_cases h1:k<p
 ·rw [if_pos h1,List.append_assoc,List.getElem?_append_left (by simp; omega),List.getElem?_take,if_pos h1]
 ·rw [if_neg h1]
  by_cases h2:k<p+vs.length
  ·rw [if_pos h2,List.getElem?_append_left (by simp; omega),List.getElem?_append_right (by simp; omega)]
   congr 1; simp; omega
  ·rw [if_neg h2,List.getElem?_append_right (by simp; omega),List.getElem?_drop]
   congr 1; simp; omega
theorem Qej {id:Nat} {x:Option Ob} {i:Nat} (hne:i≠id):hl (H.set id x) i=hl H i:=by
 unfold hl; rw [List.getElem?_set_ne (Ne.symm hne)]
theorem Qby {id:Nat} {ob:Ob} (e:hl H id=some ob):id<H.length:=by
 unfold hl at e
 rcases Nat.lt_or_ge id H.length with h|h
 ·exact h
 ·rw [List.getElem?_eq_none h] at e; cases e
theorem QcR {id:Nat} {x:Option Ob} (hlt:id<H.length):hl (H.set id x) id=x:=by
 unfold hl; rw [List.getElem?_set_self hlt]; rfl
theorem QjK {id:Nat} {ob:Ob} (hlt:id<H.length):hl (H.set id (some ob))=fun i=>if i=id then some ob else hl H i:=by
 funext i
 by_cases hi:i=id
 ·subst hi; rw [if_pos rfl,QcR hlt]
 ·rw [if_neg hi,Qej hi]
theorem QiN {x:Option Ob}:hl (H++[x])=fun i=>if i=H.length then x else hl H i:=by
 funext i
 unfold hl
 by_cases hi:i=H.length
 ·subst hi; rw [if_pos rfl,List.getElem?_append_right (Nat.le_refl _)]; simp
 ·rw [if_neg hi]
  rcases Nat.lt_or_ge i H.length with h|h
  ·rw [List.getElem?_append_left h]
  ·rw [List.getElem?_eq_none (by simp; omega),List.getElem?_eq_none h]
theorem Wd.write (hW:Wd Γ φ M h w) {id:Nat} {ob ob':Ob} {b C:Nat} {cur:Array Value} {new:Array Value} (hh:h id=some ob) (hφ:φ id=some (some (b,C))) (hcur:w.heap[b]?=some (.cells cur ob.ety (0,0))) (hO:OR (w.setRow b new) M φ id ob') :
  Wd Γ φ M (fun i=>if i=id then some ob' else h i) (w.setRow b new)∧Ex w M φ (w.setRow b new) M φ:=by
 obtain ⟨hm,hlt,hown⟩:=hW.own id ob b C hh hφ
 exact ⟨hW.turn hh hφ (fun k hk=>setRow_other w b k new hk) (by simp) rfl rfl rfl hO,fun c hc=>setRow_other w b c new fun e=>hm (e ▸ hc),fun _ h=>h,fun _ _ h=>h⟩
theorem Wd.move (hW:Wd Γ φ M h w) {id id':Nat} {ob:Ob} {p:Option (Nat×Nat)} (hh:h id=some ob) (hφ:φ id=some p) (hφ':φ id'=none) (hh':h id'=none):Wd Γ (upP φ id' p) M (fun i=>if i=id' then some ob else if i=id then none else h i) w:=by
 have hne:id≠id':=fun e=>by subst e; rw [hh] at hh'; cases hh'
 have he:Ex w M φ w M (upP φ id' p):=⟨fun _ _=>rfl,fun _ h=>h,Qew _ hφ'⟩
 have key:∀ i o,(fun i=>if i=id' then some ob else if i=id then none else h i) i=some o→(i=id'∧o=ob)∨(i≠id'∧i≠id∧h i=some o):=fun i o e=>by
  by_cases h1:i=id'
  ·simp only [if_pos h1] at e; exact .inl ⟨h1,(Option.some.inj e).symm⟩
  ·simp only [if_neg h1] at e
   by_cases h2:i=id
   ·rw [if_pos h2] at e; cases e
   ·rw [if_neg h2] at e; exact .inr ⟨h1,h2,e⟩
 refine ⟨fun i o e=>?_,fun i j oi oj b Ci Cj hi hj pi pj=>?_,hW.mlt,hW.m0,hW.mold,fun i o b C e q=>?_,hW.keep,hW.os,hW.tape,hW.output,hW.size,fun q hq=>he.pl _ _ (hW.pin q hq),hW.tbw⟩
 ·rcases key i o e with ⟨rfl,rfl⟩|⟨h1,h2,h3⟩
  ·refine ((hW.obs id o hh).mono he fun _ _ _=>rfl).ren ?_
   rw [QaS,QdE _ hne,hφ]
  ·exact (hW.obs i o h3).mono he fun _ _ _=>rfl
 ·rcases key i oi hi with ⟨rfl,rfl⟩|⟨h1,h2,h3⟩ <;> rcases key j oj hj with ⟨rfl,rfl⟩|⟨g1,g2,g3⟩
  ·rfl
  ·rw [QaS] at pi; rw [QdE _ g1] at pj
   cases pi
   exact absurd (hW.inj id j _ oj b Ci Cj hh g3 hφ pj).symm g2
  ·rw [QaS] at pj; rw [QdE _ h1] at pi
   cases pj
   exact absurd (hW.inj i id oi _ b Ci Cj h3 hh pi hφ) h2
  ·rw [QdE _ h1] at pi; rw [QdE _ g1] at pj; exact hW.inj i j oi oj b Ci Cj h3 g3 pi pj
 ·rcases key i o e with ⟨rfl,rfl⟩|⟨h1,h2,h3⟩
  ·rw [QaS] at q; cases q; exact hW.own id o b C hh hφ
  ·rw [QdE _ h1] at q; exact hW.own i o b C h3 q
def Md (Γ:Gam) (φ:Pl) (M:Nat→Prop) (w:World) (r:Mes) (v:Value) (w':World):Prop :=
 ∃ φ',AR w' M φ' r.v v∧Wd Γ φ' M (hl r.H) w'∧Ex w M φ w' M φ'∧(∀ id,r.H.length≤id→φ' id=none)
theorem QdN {t:TypeId} {n b p:Nat} {e:TypeId} {v:Value} {cur:Array Value} (ht:tsz P t=some n) (hn:v.cells.size=n) (hg:w.heap[b]?=some (.cells cur e (0,0))) (hfit:p+n≤cur.size) (h1:∀ u∈v.cells.toList,u.oneCell'=true) :
  (storeVar t ⟨b,p,none⟩ v).run P w=.ok () (w.setRow b (cur.toList.take p++v.cells.toList++cur.toList.drop (p+v.cells.toList.length)).toArray):=by
 obtain ⟨i,hi,hsz⟩:=Qce ht
 have hst:=run_storeCells_at P b p e v.cells.toList 0 cur w hg (by rw [Array.length_toList,hn]; omega) h1
 simp only [Nat.add_zero] at hst
 simp only [storeVar,Sem.run_bind,Qbu hi,Result.andThen_ok,hn,hsz]
 rw [if_neg (by simp)]
 exact hst
theorem Qin {r : Mes} (hW : Wd Γ φ M (hl H) w) (hF : ∀ t, AR w M φ (look L t) (a.tmps.getD t undef)) (hφ : ∀ id, H.length ≤ id → φ id = none) {t : TypeId} {x y : Operand} (ho : o.op = .store t x y) (hf : mop P H (look L) o.op hs = some r) (hob : allP r.obs) :
    ∃ w', (execOp a.eval o).run P w = .ok .skip w' ∧ Md Γ φ M w r undef w' := by
  rw [ho] at hf
  simp only [mop] at hf
  split at hf
  · rename_i id sz row off o1 c o2 n h1 h2 ht
    split at hf
    · rename_i ob hid
      cases hc : (ob.sz == sz && n == c.cells.length) with
      | false => rw [hc] at hf; cases hf
      | true =>
        rw [hc] at hf
        simp only [cond_true] at hf
        simp only [Bool.and_eq_true, beq_iff_eq] at hc
        obtain ⟨hsz, hn⟩ := hc
        have hlt := Qby hid
        have hO := hW.obs id ob hid
        -- the cells' part, for whatever the new rows are
        have go : (ob.box = false ∨ ∃ c, ob.rows = [c]) → allP o1 → allP o2 → ∀ R : List (List Lf), (∀ {b C : Nat} {cur : Array Value} {w' : World}, φ id = some (some (b, C)) → w.heap[b]? = some (.cells cur ob.ety (0, 0)) → cur.size = C * ob.sz → ob.rows.length ≤ C →
              (∀ i c, ob.rows[i]? = some c → c.length = ob.sz ∧ ∀ j l, c[j]? = some l → ∃ v, cur[i * ob.sz + j]? = some v ∧ (if ob.box then LR w M φ l v else IR w M l v)) → Rs (LR w M φ) c.cells (a.eval y).cells.toList → Ex w M φ w' M φ →
              row * sz + off + n ≤ cur.size ∧ R.length ≤ C ∧ ∀ (i : Nat) (d : List Lf), R[i]? = some d → d.length = ob.sz ∧ ∀ (j : Nat) (l : Lf), d[j]? = some l → ∃ v, (cur.toList.take (row * sz + off) ++ (a.eval y).cells.toList ++ cur.toList.drop (row * sz + off + (a.eval y).cells.toList.length))[i * ob.sz + j]? = some v ∧ (if ob.box then LR w' M φ l v else IR w' M l v)) →
            ∃ w', (execOp a.eval o).run P w = .ok .skip w' ∧ ∃ φ', Wd Γ φ' M (hl (H.set id (some { ob with rows := R }))) w' ∧ Ex w M φ w' M φ' ∧ (∀ id, H.length ≤ id → φ' id = none) := by
          intro hoc p1 p2 R key
          obtain ⟨b, C, hφi, hv⟩ : LR0 w M φ (.op id sz row off) (a.eval x) := Qat hF h1 p1 trivial
          have hy := (Qat hF h2 p2 trivial).cells
          obtain ⟨h0, hO'⟩ := hO.oc hoc
          rw [hφi] at hO'
          obtain ⟨cur, g1, g2, g3, g4, g5, g6⟩ := hO'
          obtain ⟨hm, hblt, hown⟩ := hW.own id ob b C hid hφi
          have hcl : (a.eval y).cells.size = n := by rw [← Array.length_toList, ← hy.len, hn]
          have hex : ∀ new, Ex w M φ (w.setRow b new) M φ := fun new => ⟨fun c hc => setRow_other w b c new fun e => hm (e ▸ hc), fun _ h => h, fun _ _ h => h⟩
          obtain ⟨hfit, hRC, hcells⟩ := key hφi g1 g2 g3 g6 hy (hex (cur.toList.take (row * sz + off) ++ (a.eval y).cells.toList ++ cur.toList.drop (row * sz + off + (a.eval y).cells.toList.length)).toArray)
          have hrun := QdN (P := P) ht hcl g1 hfit (Rs.lr_one hy)
          refine ⟨w.setRow b (cur.toList.take (row * sz + off) ++ (a.eval y).cells.toList ++ cur.toList.drop (row * sz + off + (a.eval y).cells.toList.length)).toArray, by simp only [execOp, ho, hv, Instr.storeAt, Instr.sureAddr, Sem.run_bind, Sem.run_pure, Result.andThen_ok, hrun], φ, ?_⟩
          have hO2 : OR (w.setRow b (cur.toList.take (row * sz + off) ++ (a.eval y).cells.toList ++ cur.toList.drop (row * sz + off + (a.eval y).cells.toList.length)).toArray) M φ id { ob with rows := R } := by
            refine .inl ⟨h0, ?_⟩
            rw [hφi]
            refine ⟨_, setRow_heap w b cur _ ob.ety (0, 0) g1, ?_, hRC, g4, g5, fun i c hc => ⟨(hcells i c hc).1, fun j l hj => ?_⟩⟩
            · rw [← g2]; simp; omega
            · obtain ⟨v, hv, hr⟩ := (hcells i c hc).2 j l hj
              exact ⟨v, by rw [List.getElem?_toArray]; exact hv, hr⟩
          obtain ⟨q1, q2⟩ := hW.write hid hφi g1 hO2
          rw [QjK hlt]
          exact ⟨q1, q2, hφ⟩
        split at hf
        · rename_i hbx hrows
          rename_i cells
          cases hc2 : (row == 0 && Nat.ble (off + n) cells.length) with
          | false => rw [hc2] at hf; cases hf
          | true =>
            rw [hc2] at hf; cases hf
            simp only [Bool.and_eq_true, beq_iff_eq, Nat.ble_eq] at hc2
            obtain ⟨rfl, hfit⟩ := hc2
            simp only [Qag] at hob
            obtain ⟨w', hrun, φ', q1, q2, q3⟩ := go (.inr ⟨_, hrows⟩) hob.1 hob.2 [cells.take off ++ c.cells ++ cells.drop (off + n)] (fun {b C cur w'} hφi g1 g2 g3 g6 hy hex => by
              have hcl : cells.length = ob.sz := (g6 0 cells (by rw [hrows]; rfl)).1
              have hC : 1 ≤ C := by rw [hrows] at g3; simpa using g3
              have hle : ob.sz ≤ cur.size := by rw [g2]; exact Nat.le_mul_of_pos_left _ hC
              have hvl := hy.len
              have hcl0 : cur.toList.length = cur.size := Array.length_toList
              refine ⟨by rw [Nat.zero_mul]; omega, by simpa using hC, fun i d hd => ?_⟩
              cases i with
              | succ i => simp at hd
              | zero =>
                obtain rfl := Option.some.inj (show some _ = some d from hd)
                refine ⟨by simp; omega, fun j l hj => ?_⟩
                have h3 := QcW (l := cells) (vs := c.cells) (p := off) (by omega) j
                rw [hn] at hj
                rw [h3] at hj
                rw [Nat.zero_mul, Nat.zero_add, Nat.zero_mul, Nat.zero_add, QcW (by omega)]
                have old : ∀ l, cells[j]? = some l → ∃ v, cur.toList[j]? = some v ∧ (if ob.box = true then LR w' M φ l v else IR w' M l v) := fun l hl => by
                  obtain ⟨v, hv, hr⟩ := (g6 0 cells (by rw [hrows]; rfl)).2 j l hl
                  rw [Nat.zero_mul, Nat.zero_add] at hv
                  rw [if_pos hbx] at hr
                  exact ⟨v, by simpa using hv, by rw [if_pos hbx]; exact hr.mono hex⟩
                by_cases j1 : j < off
                · rw [if_pos j1] at hj ⊢; exact old l hj
                · rw [if_neg j1] at hj ⊢
                  by_cases j2 : j < off + c.cells.length
                  · rw [if_pos j2] at hj
                    rw [if_pos (by omega)]
                    obtain ⟨v, hv, hr⟩ := hy.get hj
                    exact ⟨v, hv, by rw [if_pos hbx]; exact hr.mono hex⟩
                  · rw [if_neg j2] at hj
                    rw [if_neg (by omega)]
                    exact old l hj)
            exact ⟨w', hrun, φ', trivial, q1, q2, fun id hid => q3 id (by simpa using hid)⟩
        · rename_i old R hs' hbx
          cases hc2 : (Nat.ble (off + n) old.length && c.cells.all immL) with
          | false => rw [hc2] at hf; cases hf
          | true =>
            rw [hc2] at hf; cases hf
            simp only [Bool.and_eq_true, Nat.ble_eq] at hc2
            obtain ⟨hfit, himm⟩ := hc2
            simp only [Qag, allP] at hob
            obtain ⟨⟨p1, p2⟩, hrow, hR, -⟩ := hob
            obtain ⟨w', hrun, φ', q1, q2, q3⟩ := go (.inl hbx) p1 p2 R (fun {b C cur w'} hφi g1 g2 g3 g6 hy hex => by
              have hol : old.length = ob.sz := (g6 row old hrow).1
              have hrlt := (List.getElem?_eq_some_iff.1 hrow).1
              have hle : (row + 1) * ob.sz ≤ cur.size := by rw [g2]; exact Nat.mul_le_mul_right _ (by omega)
              rw [Nat.add_mul, Nat.one_mul] at hle
              have hvl := hy.len
              have hcl0 : cur.toList.length = cur.size := Array.length_toList
              subst hsz
              refine ⟨by omega, by rw [← hR]; simpa using g3, fun i d hd => ?_⟩
              have old' : ∀ i (d : List Lf) j l, ob.rows[i]? = some d → d[j]? = some l → ∃ v, cur.toList[i * ob.sz + j]? = some v ∧ (if ob.box = true then LR w' M φ l v else IR w' M l v) := fun i d j l hd hl => by
                obtain ⟨v, hv, hr⟩ := (g6 i d hd).2 j l hl
                rw [hbx] at hr
                exact ⟨v, by simpa using hv, by rw [hbx]; exact IR.mono hex.blk hex.sub (by simpa using hr)⟩
              by_cases hi : i = row
              · subst hi
                rw [← hR, List.getElem?_set_self hrlt] at hd
                obtain rfl := Option.some.inj hd
                refine ⟨by simp; omega, fun j l hj => ?_⟩
                rw [hn, QcW (by omega)] at hj
                rw [QcW (by omega)]
                by_cases j1 : j < off
                · rw [if_pos j1] at hj; rw [if_pos (by omega)]; exact old' i old j l hrow hj
                · rw [if_neg j1] at hj; rw [if_neg (by omega)]
                  by_cases j2 : j < off + c.cells.length
                  · rw [if_pos j2] at hj; rw [if_pos (by omega)]
                    obtain ⟨v, hv, hr⟩ := hy.get hj
                    refine ⟨v, by rw [show i * ob.sz + j - (i * ob.sz + off) = j - off by omega]; exact hv, ?_⟩
                    rw [hbx]
                    exact IR.mono hex.blk hex.sub (LR.imm (List.all_eq_true.1 himm l (List.mem_of_getElem? hj)) hr)
                  · rw [if_neg j2] at hj; rw [if_neg (by omega)]; exact old' i old j l hrow hj
              · rw [← hR, List.getElem?_set_ne (Ne.symm hi)] at hd
                have hdl := (g6 i d hd).1
                refine ⟨hdl, fun j l hj => ?_⟩
                have hjl := (List.getElem?_eq_some_iff.1 hj).1
                rw [QcW (by omega)]
                rcases Nat.lt_or_ge i row with h5 | h5
                · have : (i + 1) * ob.sz ≤ row * ob.sz := Nat.mul_le_mul_right _ h5
                  rw [Nat.add_mul, Nat.one_mul] at this
                  rw [if_pos (by omega)]; exact old' i d j l hd hj
                · have : (row + 1) * ob.sz ≤ i * ob.sz := Nat.mul_le_mul_right _ (by omega)
                  rw [Nat.add_mul, Nat.one_mul] at this
                  rw [if_neg (by omega), if_neg (by omega)]; exact old' i d j l hd hj)
            exact ⟨w', hrun, φ', trivial, q1, q2, fun id hid => q3 id (by simpa using hid)⟩
        · cases hf
    · cases hf
  · cases hf
end
end Go.Proofs.YtpkkaboonnedfaaDoor
namespace Go.Proofs.YtpkkaboonnedfaaDoor
set_option linter.unusedSimpArgs false
set_option linter.unusedVariables false
set_option linter.unusedSectionVars false
open Go.RowKit
section
variable {P : Program} {Γ : Gam} {φ φ' : Pl} {M M' : Nat → Prop} {h : Nat → Option Ob} {w w' : World} {a : Act} {hs : List Hint} {o : Oper} {H : List (Option Ob)} {L : List (Nat × AV)}
theorem Qe5 {t tx ty e:TypeId} {i:TypeInfo} {b n C k:Nat} {cur:Array Value} {x:Value} {news:List Value} (ht:P.underlying t=some (.slice e)) (hi:P.info? e=some i) (hs:Src P i.size tx x k news w) (hroom:n+k≤C)
  (hg:w.heap[b]?=some (.cells cur e (0,0))) (hfit:n*i.size+news.length≤cur.size) :
  (Builtin.append_ #[t,tx] ty #[.slice (some ⟨b,0,none⟩) n C,x]).run P w=.ok (.slice (some ⟨b,0,none⟩) (n+k) C) (w.setRow b (cur.toList.take (n*i.size)++news++cur.toList.drop (n*i.size+news.length)).toArray):=by
 have hst:=run_storeCells_at P b (n*i.size) e news 0 cur w hg (by simpa using hfit) hs.one
 simp only [Nat.add_zero] at hst
 rcases hs.kind with ⟨e',hk⟩|hk <;> simp [Builtin.append_,run_underlying ht,run_underlying hk,sizeOf,typeInfo,hi,hs.len,hroom,hs.cells,Addr.add_lit,hst]
def Wo (Γ:Gam) (φ:Pl) (M:Nat→Prop) (hD:Nat→Option Ob) (base:Nat) (w:World) (r:Wr) (v:Value) (w':World):Prop :=
 ∃ φ' M',AR w' M' φ' r.v v∧Wd Γ φ' M' (plc (updF hD r.upd) base r.news) w'∧Ex w M φ w' M' φ'∧(∀ id,φ' id≠none→φ id≠none∨(base≤id∧id<base+r.news.length))
theorem Qk1 {id i:Nat} {p:Option (Nat×Nat)} (h:upP φ id p i≠none):φ i≠none∨i=id:=by
 by_cases hi:i=id
 ·exact .inr hi
 ·rw [QdE _ hi] at h; exact .inl h
theorem Qhn {hD:Nat→Option Ob} {id base:Nat} {ob:Ob}:plc (updF hD [(id,none)]) base [ob]=fun i=>if i=base then some ob else if i=id then none else hD i:=by
 rw [Qje]
 funext i
 by_cases h:i=base
 ·rw [if_pos h,if_pos h]
 ·rw [if_neg h,if_neg h]
  unfold updF
  simp only [findU]
  by_cases h2:i=id
  ·subst h2; simp
  ·have:(id == i)=false:=by simpa using fun e:id=i=>h2 e.symm
   rw [if_neg h2,this]; rfl
theorem Qi6 {id:Nat} {ob:Ob} {b C:Nat} {cur:Array Value} (hbx:ob.box=false) (hcur:w.heap[b]?=some (.cells cur ob.ety (0,0)))
  (g6:∀ i c,ob.rows[i]?=some c→c.length=ob.sz∧∀ j l,c[j]?=some l→∃ v,cur[i*ob.sz+j]?=some v∧(if ob.box then LR w M φ l v else IR w M l v)) :
  ∃ olds,Rs (IR w M) ob.rows.flatten olds∧w.rangeAt b 0 olds∧olds.length=ob.rows.length*ob.sz:=by
 obtain ⟨olds,h1,h2⟩:=Qcp (w:=w) (R:=IR w M) (b:=b) (sz:=ob.sz) ob.rows 0 (fun i c hc=>(g6 i c hc).1) fun i c j l hc hj=>by
  obtain ⟨v,hv,hr⟩:=(g6 i c hc).2 j l hj
  rw [hbx] at hr
  exact ⟨v,by simp only [World.cell?,hcur,Nat.zero_add]; simpa using hv,by simpa using hr⟩
 exact ⟨olds,h1,h2,by rw [← h1.len,Qcg (Qfu fun i c hc=>(g6 i c hc).1)]⟩
theorem Qg9 {hD:Nat→Option Ob} {L:Nat→AV} {base:Nat} {r:Wr} (hW:Wd Γ φ M hD w) (hsub:∀ id ob,h id=some ob→hD id=some ob) (hF:∀ t,AR w M φ (L t) (a.tmps.getD t undef)) (hfr:∀ id,base≤id→id<base+r.news.length→φ id=none∧hD id=none) {c:Call} (ho:o.op=.call c) (hc:c.callee=.builtin .append) (hf:Qh4 P h base L c hs=some r) (hob:allP r.obs) :
  ∃ v w',(execOp a.eval o).run P w=.ok (.value v) w'∧Wo Γ φ M hD base w r v w':=by
 unfold Qh4 at hf
 split at hf
 ·rename_i id sz off len x o1 t t' R hs' hargs htys
  split at hf
  ·rename_i e ob sz' new o2 he hid hro
   split at hf
   ·rename_i i z hi hz
    generalize hcc:(t == t'&&off == 0&&sz == i.size&&ob.sz == sz&&!ob.box&&ob.ety == e&&(sz' == sz||new.isEmpty)&&!Qj1 id x)=cc at hf
    cases cc with
    | false=>cases hf
    | true =>
     cases hf
     simp only [Bool.and_eq_true,beq_iff_eq,Bool.or_eq_true,Bool.not_eq_true',List.isEmpty_iff] at hcc
     obtain ⟨⟨⟨⟨⟨⟨⟨rfl,rfl⟩,rfl⟩,hsz⟩,hbx⟩,rfl⟩,hnew⟩,hxid⟩:=hcc
     simp only [Qag,allP] at hob
     obtain ⟨⟨p1,p2⟩,hlen,hR,hby,h63,-⟩:=hob
     have ht:=Qbc he
     obtain ⟨i2,zv,hi2,hzv,hzs,h0,hrs,hzl⟩:=QcY (w:=w) (M:=M) (φ:=φ) hz
     obtain rfl:i=i2:=by rw [hi] at hi2; exact Option.some.inj hi2
     have hA:=Qdu hF trivial hargs p1
     obtain ⟨vd,vx,hvs,hd,hx⟩:=hA.args2
     obtain ⟨cn,hrun⟩:=Qfm (P:=P) (w:=w) (a:=a) ho hc
     have hargs':c.args.map a.eval=#[vd,vx]:=by apply Array.ext'; simp [← hvs]
     have htys':c.argTypes=#[t,t]:=by apply Array.ext'; simp [htys]
     rw [hargs',htys'] at hrun
     have hrun':∀ v w',(Builtin.append_ #[t,t] o.type #[vd,vx]).run P w=.ok v w'→(execOp a.eval o).run P w=.ok (.value v) w':=fun v w' hh=>by
      rw [hrun]; simp only [builtin,Sem.run_bind,hh]; rfl
     obtain ⟨news,hsrc,hnr,hnl⟩:=QgG (size:=i.size) hW hsub ht hro p2 hnew (hx:LR w M φ x vx) (fun _ _ _ _ _ _ _ _ _ _ _ _ _ h=>h)
     replace hid:=hsub _ _ hid
     have hO:=hW.obs id ob hid
     have hRl:R.length=len+new.length:=by rw [← hR,List.length_append,hlen]
     obtain ⟨hn',hh'⟩:=hfr base (Nat.le_refl _) (by simp)
     have hne:id≠base:=fun e=>by rw [e,hh'] at hid; cases hid
     have hlast:∀ (p:Option (Nat×Nat)) (k:Nat),upP φ base p k≠none→φ k≠none∨(base≤k∧k<base+1):=fun p k hk=>by
      rcases Qk1 hk with h|rfl
      ·exact .inl h
      ·exact .inr ⟨Nat.le_refl _,by omega⟩
     rcases (hd:LR0 w M φ (.os id i.size 0 len) vd) with ⟨b,C,hφi,rfl,hle⟩|⟨hφi,_,rfl,A,rfl⟩
     ·obtain ⟨hs0,hO'⟩:=hO.oc (.inl hbx)
      rw [hφi] at hO'
      obtain ⟨cur,g1,g2,g3,g4,g5,g6⟩:=hO'
      obtain ⟨olds,q1,q2,q3⟩:=Qi6 (id:=id) (C:=C) hbx g1 g6
      have hrl:∀ (i:Nat) (c:List Lf),ob.rows[i]?=some c→c.length=ob.sz:=fun i c hc=>(g6 i c hc).1
      rw [Nat.zero_mul,Nat.sub_zero] at hrun'
      have hRr:∀ (j:Nat) (c:List Lf),R[j]?=some c→c.length=i.size:=fun j c hj=>by
       rw [← hR] at hj
       rcases Nat.lt_or_ge j ob.rows.length with h|h
       ·rw [List.getElem?_append_left h] at hj; rw [← hsz]; exact hrl j c hj
       ·rw [List.getElem?_append_right h] at hj; exact hnl _ c hj
      by_cases hroom:len+new.length≤C
      ·have hfit:len*i.size+news.length≤cur.size:=by rw [hsrc.newsLen,g2,hsz,← Nat.add_mul]; exact Nat.mul_le_mul_right _ hroom
       have hap:=Qe5 (P:=P) (ty:=o.type) ht hi hsrc hroom g1 hfit
       have hex:Ex w M φ (w.setRow b (cur.toList.take (len*i.size)++news++cur.toList.drop (len*i.size+news.length)).toArray) M φ:=by
        obtain ⟨hm,_,_⟩:=hW.own id ob b C hid hφi
        exact ⟨fun c hc=>setRow_other w b c _ fun e=>hm (e ▸ hc),fun _ h=>h,fun _ _ h=>h⟩
       have htake:cur.toList.take (len*i.size)=olds:=by
        apply List.ext_getElem?
        intro k
        rw [List.getElem?_take]
        have hol:olds.length=len*i.size:=by rw [q3,hlen,hsz]
        by_cases hk:k<len*i.size
        ·rw [if_pos hk]
         have:=q2 k _ (List.getElem?_eq_getElem (show k<olds.length by omega))
         simp only [World.cell?,g1,Nat.zero_add] at this
         rw [List.getElem?_eq_getElem (show k<olds.length by omega)]
         simpa using this
        ·rw [if_neg hk,List.getElem?_eq_none (by omega)]
       have hO2:OR (w.setRow b (cur.toList.take (len*i.size)++news++cur.toList.drop (len*i.size+news.length)).toArray) M φ id ⟨false,i.size,ob.ety,R⟩:=by
        refine Qkr (vs:=olds++news) (rest:=cur.toList.drop (len*i.size+news.length)) hφi ?_ h0 ?_ (by omega) g4 hRr ?_
        ·rw [htake] ; exact setRow_heap w b cur _ ob.ety (0,0) g1
        ·have h1:olds.length=len*i.size:=by rw [q3,hlen,hsz]
         have h2:cur.size=C*i.size:=by rw [g2,hsz]
         simp; omega
        ·rw [← hR,List.flatten_append]; exact (q1.append hnr).mono fun _ _ h=>h.mono hex.blk hex.sub
       obtain ⟨w1,w2⟩:=hW.write hid hφi g1 hO2
       have hmv:=w1.move (id:=id) (id':=base) (ob:=⟨false,i.size,ob.ety,R⟩) (p:=some (b,C)) (if_pos rfl) hφi hn' (by rw [if_neg (Ne.symm hne)]; exact hh')
       refine ⟨_,_,hrun' _ _ hap,upP φ base (some (b,C)),M,?_,?_,⟨w2.blk,w2.sub,Qew _ hn'⟩,hlast _⟩
       ·exact .inl ⟨b,C,QaS _ _ _,by rw [hRl]; simp,by omega⟩
       ·refine hmv.less fun k ob' hk=>?_
        rw [Qhn] at hk; dsimp only at hk ⊢
        by_cases h1:k=base
        ·rw [if_pos h1] at hk ⊢; exact hk
        ·rw [if_neg h1] at hk ⊢
         by_cases h2:k=id
         ·rw [if_pos h2] at hk; cases hk
         ·rw [if_neg h2] at hk; rw [if_neg h2]; simpa only [if_neg h2] using hk
      ·have hold:(Builtin.firstCells i.size len (.slice (some ⟨b,0,none⟩) len C)).run P w.drew=.ok olds.toArray w.drew :=
        run_firstCells_some w.drew i.size len ⟨b,0,none⟩ len C olds (by rw [q3,hlen,hsz]) (fun j v hj=>by rw [Addr.add_mid]; exact q2 j v hj)
       obtain ⟨C',w',hap,hb,hlt',hle',hO2⟩:=Qgy (id:=base) (rows:=R) (ty:=o.type) hW ht hi hzv hzs h0 hold hsrc (by omega) (by omega) (by rw [← hRl]; exact hby) (by rw [q3,hlen,hsz]) hRl hRr (by rw [← hR,List.flatten_append]; exact q1.append hnr) hn'
       have hN:=hW.new (⟨false,i.size,ob.ety,R⟩:Ob) hn' hh' hb (Nat.le_refl _) hlt' hO2
       refine ⟨_,_,hrun' _ _ hap,upP φ base (some (w.heap.size,C')),M,?_,?_,⟨fun c hc=>hb.block c (hW.mlt c hc),fun _ h=>h,Qew _ hn'⟩,hlast _⟩
       ·exact .inl ⟨w.heap.size,C',QaS _ _ _,by rw [hRl]; simp,by omega⟩
       ·refine hN.less fun k ob' hk=>?_
        rw [Qhn] at hk; dsimp only at hk ⊢
        by_cases h1:k=base
        ·rw [if_pos h1] at hk ⊢; exact hk
        ·rw [if_neg h1] at hk ⊢
         by_cases h2:k=id
         ·rw [if_pos h2] at hk; cases hk
         ·rw [if_neg h2] at hk; exact hk
     ·have hr0:ob.rows=[]:=List.eq_nil_of_length_eq_zero hlen
      have hless:∀ (p:Option (Nat×Nat)) (w':World),Wd Γ (upP φ base p) M (fun k=>if k=base then some ⟨false,i.size,ob.ety,R⟩ else hD k) w'→Wd Γ (upP φ base p) M (plc (updF hD [(id,none)]) base [⟨false,i.size,ob.ety,R⟩]) w':=fun p w' hN=>by
       refine hN.less fun k ob' hk=>?_
       rw [Qhn] at hk; dsimp only at hk ⊢
       by_cases h1:k=base
       ·rw [if_pos h1] at hk ⊢; exact hk
       ·rw [if_neg h1] at hk ⊢
        by_cases h2:k=id
        ·rw [if_pos h2] at hk; cases hk
        ·rw [if_neg h2] at hk; exact hk
      by_cases hn0:new.length=0
      ·have hnew0:new=[]:=List.eq_nil_of_length_eq_zero hn0
       have hR0:R=[]:=by rw [← hR,hr0,hnew0]; rfl
       rw [hn0] at hsrc
       have hap:=Qez (P:=P) (ty:=o.type) (A:=A) (n:=0) (c:=0) ht hi hsrc (Nat.le_refl _)
       refine ⟨_,_,hrun' _ _ hap,upP φ base none,M,?_,hless none w (hW.newNil (⟨false,i.size,ob.ety,R⟩:Ob) hn' hh' hR0 rfl h0),⟨fun _ _=>rfl,fun _ h=>h,Qew _ hn'⟩,hlast none⟩
       exact .inr ⟨QaS _ _ _,rfl,by rw [hR0]; rfl,A,rfl⟩
      ·have hold:(Builtin.firstCells i.size 0 (.slice A 0 0)).run P w.drew=.ok ([]:List Value).toArray w.drew:=by cases A <;> simp [Builtin.firstCells,loadCells,loadCellsFrom]
       obtain ⟨C',w',hap,hb,hlt',hle',hO2⟩:=Qgy (id:=base) (rows:=R) (ty:=o.type) hW ht hi hzv hzs h0 hold hsrc (by omega) (by omega) (by rw [← hRl]; exact hby) (by simp) hRl (fun j c hj=>by rw [← hR,hr0] at hj; exact hnl j c (by simpa using hj)) (by rw [← hR,hr0]; simpa using hnr) hn'
       refine ⟨_,_,hrun' _ _ hap,upP φ base (some (w.heap.size,C')),M,?_,hless _ w' (hW.new (⟨false,i.size,ob.ety,R⟩:Ob) hn' hh' hb (Nat.le_refl _) hlt' hO2),⟨fun c hc=>hb.block c (hW.mlt c hc),fun _ h=>h,Qew _ hn'⟩,hlast _⟩
       exact .inl ⟨w.heap.size,C',QaS _ _ _,by rw [hRl]; simp,by omega⟩
   ·cases hf
  ·cases hf
 ·cases hf
theorem Qhp {t ty e et:TypeId} {i:TypeInfo} {b len C k cap n:Nat} {A:Option Addr} {cur:Array Value} {cs:List Value} (ht:P.underlying t=some (.slice e)) (hi:P.info? e=some i) (hg:w.heap[b]?=some (.cells cur et (0,0))) (hn:Nat.min k len=n)
  (hsrc:(Builtin.firstCells i.size n (.slice A k cap)).run P w=.ok cs.toArray w) (hfit:cs.length≤cur.size) (h1:∀ u∈cs,u.oneCell'=true) :
  (Builtin.copy_ #[t,t] ty #[.slice (some ⟨b,0,none⟩) len C,.slice A k cap]).run P w=.ok (goInt n) (w.setRow b (cs++cur.toList.drop cs.length).toArray):=by
 have hst:=run_storeCells_at P b 0 et cs 0 cur w hg (by simpa using hfit) h1
 simp only [Nat.add_zero,List.take_zero,List.nil_append,Nat.zero_add] at hst
 simp [Builtin.copy_,run_underlying ht,Builtin.lenOf,sizeOf,typeInfo,hi,hn,hsrc,hst]
theorem QfD {t ty e:TypeId} {i:TypeInfo} {k cap:Nat} {A B:Option Addr} (ht:P.underlying t=some (.slice e)) (hi:P.info? e=some i) :
  (Builtin.copy_ #[t,t] ty #[.slice B 0 0,.slice A k cap]).run P w=.ok (goInt 0) w:=by
 have hm:Nat.min k 0=0:=Nat.min_zero k
 have hf:(Builtin.firstCells i.size 0 (.slice A k cap)).run P w=.ok #[] w:=by cases A <;> simp [Builtin.firstCells,loadCells,loadCellsFrom]
 cases B <;> simp [Builtin.copy_,run_underlying ht,Builtin.lenOf,sizeOf,typeInfo,hi,hm,hf,storeCells]
theorem QfR {α:Type} {sz:Nat}:∀ {rows:List (List α)} (n:Nat),(∀ c∈rows,c.length=sz)→(rows.take n).flatten=rows.flatten.take (n*sz)
 | [],n,_=>by simp
 | c :: r,0,_=>by simp
 | c :: r,n+1,h=>by
  have hc:=h c (by simp)
  rw [List.take_succ_cons,List.flatten_cons,List.flatten_cons,QfR n (fun d hd=>h d (by simp [hd])),List.take_append,hc,Nat.add_mul,Nat.one_mul,Nat.add_sub_cancel,List.take_of_length_le (show c.length≤n*sz+sz by omega)]
theorem QfQ {α:Type} {sz:Nat}:∀ {rows:List (List α)} (n:Nat),(∀ c∈rows,c.length=sz)→(rows.drop n).flatten=rows.flatten.drop (n*sz)
 | [],n,_=>by simp
 | c :: r,0,_=>by simp
 | c :: r,n+1,h=>by
  have hc:=h c (by simp)
  rw [List.drop_succ_cons,List.flatten_cons,QfQ n (fun d hd=>h d (by simp [hd])),List.drop_append,hc,Nat.add_mul,Nat.one_mul,Nat.add_sub_cancel,List.drop_of_length_le (show c.length≤n*sz+sz by omega),List.nil_append]
theorem QgH {r:Mes} (hW:Wd Γ φ M (hl H) w) (hF:∀ t,AR w M φ (look L t) (a.tmps.getD t undef)) (hφ:∀ id,H.length≤id→φ id=none) {c:Call} (ho:o.op=.call c) (hc:c.callee=.builtin .copy) (hf:mop P H (look L) o.op hs=some r) (hob:allP r.obs) :
  ∃ v w',(execOp a.eval o).run P w=.ok (.value v) w'∧Md Γ φ M w r v w':=by
 rw [ho] at hf
 simp only [mop,hc] at hf
 split at hf
 ·rename_i id sz off len x o1 t t' R n hs' hargs htys
  split at hf
  ·rename_i e ob sz' new o2 he hid hro
   split at hf
   ·rename_i i hi
    generalize hcc:(t == t'&&off == 0&&sz == i.size&&ob.sz == sz&&!ob.box&&(sz' == sz||new.isEmpty)&&!Qj1 id x)=cc at hf
    cases cc with
    | false=>cases hf
    | true =>
     cases hf
     simp only [Bool.and_eq_true,beq_iff_eq,Bool.or_eq_true,Bool.not_eq_true',List.isEmpty_iff] at hcc
     obtain ⟨⟨⟨⟨⟨⟨rfl,rfl⟩,rfl⟩,hsz⟩,hbx⟩,hnew⟩,hxid⟩:=hcc
     simp only [Qag,allP] at hob
     obtain ⟨⟨p1,p2⟩,hlen,hmin,hR,-⟩:=hob
     have ht:=Qbc he
     have hA:=Qdu hF trivial hargs p1
     obtain ⟨vd,vx,hvs,hd,hx⟩:=hA.args2
     obtain ⟨cn,hrun⟩:=Qfm (P:=P) (w:=w) (a:=a) ho hc
     have hargs':c.args.map a.eval=#[vd,vx]:=by apply Array.ext'; simp [← hvs]
     have htys':c.argTypes=#[t,t]:=by apply Array.ext'; simp [htys]
     rw [hargs',htys'] at hrun
     have hrun':∀ v w',(Builtin.copy_ #[t,t] o.type #[vd,vx]).run P w=.ok v w'→(execOp a.eval o).run P w=.ok (.value v) w':=fun v w' hh=>by
      rw [hrun]; simp only [builtin,Sem.run_bind,hh]; rfl
     obtain ⟨news,hnr,hnl,A,cap,rfl,had⟩:=Qj0 (size:=i.size) hW hro p2 hnew (hx:LR w M φ x vx)
     have hlt:=Qby hid
     have hO:=hW.obs id ob hid
     have hO0:=hO
     have hval:AR w M φ (one (.int .i64 n)) (goInt n):=IR.int _ _
     rcases (hd:LR0 w M φ (.os id i.size 0 len) vd) with ⟨b,C,hφi,rfl,hle⟩|⟨hφi,_,rfl,B,rfl⟩
     ·obtain ⟨hs0,hO'⟩:=hO.oc (.inl hbx)
      rw [hφi] at hO'
      obtain ⟨cur,g1,g2,g3,g4,g5,g6⟩:=hO'
      obtain ⟨olds,q1,q2,q3⟩:=Qi6 (id:=id) (C:=C) hbx g1 g6
      have hrl:∀ (i:Nat) (c:List Lf),ob.rows[i]?=some c→c.length=ob.sz:=fun i c hc=>(g6 i c hc).1
      rw [Nat.zero_mul,Nat.sub_zero] at hrun'
      have hnn:n≤new.length:=by omega
      have hno:n≤ob.rows.length:=by omega
      -- the cells that are copied
      have hnl2:=Qcg (Qfu hnl)
      have hnlen:news.length=new.length*i.size:=by rw [← hnr.len,hnl2]
      have hcl:(news.take (n*i.size)).length=n*i.size:=by
       rw [List.length_take,hnlen]
       exact Nat.min_eq_left (Nat.mul_le_mul_right _ hnn)
      have hone:∀ u∈news.take (n*i.size),u.oneCell'=true:=fun u hu=>Rs.lr_one (φ:=φ) (hnr.mono fun _ _ h=>IR.lr h) u (List.mem_of_mem_take hu)
      have hsrc:(Builtin.firstCells i.size n (.slice A new.length cap)).run P w=.ok (news.take (n*i.size)).toArray w:=by
       by_cases hn0:new=[]
       ·have hn1:n=0:=by rw [hn0] at hnn; simpa using hnn
        rw [hn1,Nat.zero_mul,List.take_zero]
        cases A <;> simp [Builtin.firstCells,loadCells,loadCellsFrom]
       ·obtain ⟨ad,rfl,hcell⟩:=had hn0
        have:=run_loadCells_list (P:=P) (w:=w) ad (news.take (n*i.size)) (fun j v hj=>by
         rw [List.getElem?_take] at hj
         split at hj
         ·exact hcell j v hj
         ·cases hj)
        rw [hcl] at this
        simpa [Builtin.firstCells] using this
      have hcsz:n*i.size≤cur.size:=by rw [g2,hsz]; exact Nat.mul_le_mul_right _ (by omega)
      have hap:=Qhp (P:=P) (ty:=o.type) (len:=len) (C:=C) ht hi g1 (show Nat.min new.length len=n by rw [← hlen]; exact hmin) hsrc (by rw [hcl]; exact hcsz) hone
      rw [hcl] at hap
      have hex:Ex w M φ (w.setRow b (news.take (n*i.size)++cur.toList.drop (n*i.size)).toArray) M φ:=by
       obtain ⟨hm,_,_⟩:=hW.own id ob b C hid hφi
       exact ⟨fun c hc=>setRow_other w b c _ fun e=>hm (e ▸ hc),fun _ h=>h,fun _ _ h=>h⟩
      have htake:cur.toList.take (len*i.size)=olds:=by
       apply List.ext_getElem?
       intro k
       rw [List.getElem?_take]
       have hol:olds.length=len*i.size:=by rw [q3,hlen,hsz]
       by_cases hk:k<len*i.size
       ·rw [if_pos hk]
        have:=q2 k _ (List.getElem?_eq_getElem (show k<olds.length by omega))
        simp only [World.cell?,g1,Nat.zero_add] at this
        rw [List.getElem?_eq_getElem (show k<olds.length by omega)]
        simpa using this
       ·rw [if_neg hk,List.getElem?_eq_none (by omega)]
      have hRl:R.length=len:=by rw [← hR,List.length_append,List.length_take,List.length_drop]; omega
      have hRr:∀ (j:Nat) (c:List Lf),R[j]?=some c→c.length=ob.sz:=fun j c hj=>by
       rw [← hR] at hj
       rcases Nat.lt_or_ge j (new.take n).length with h|h
       ·rw [List.getElem?_append_left h,List.getElem?_take] at hj
        split at hj
        ·rw [hsz]; exact hnl j c hj
        ·cases hj
       ·rw [List.getElem?_append_right h,List.getElem?_drop] at hj
        exact hrl _ c hj
      have hO2:OR (w.setRow b (news.take (n*i.size)++cur.toList.drop (n*i.size)).toArray) M φ id { ob with rows:=R }:=by
       have key:({ ob with rows:=R }:Ob)=⟨false,ob.sz,ob.ety,R⟩:=by rw [← hbx]
       have hdr:cur.toList.drop (n*i.size)=olds.drop (n*i.size)++cur.toList.drop (len*i.size):=by
        rw [← htake,← List.drop_append_of_le_length (by rw [List.length_take]; have h1:n*i.size≤len*i.size:=Nat.mul_le_mul_right _ (by omega); have h2:cur.toList.length=cur.size:=Array.length_toList; omega),List.take_append_drop]
       rw [key]
       refine Qkr (vs:=news.take (n*i.size)++olds.drop (n*i.size)) (rest:=cur.toList.drop (len*i.size)) hφi ?_ hs0 ?_ (by omega) g4 hRr ?_
       ·rw [List.append_assoc,← hdr]; exact setRow_heap w b cur _ ob.ety (0,0) g1
       ·rw [List.append_assoc,← hdr,List.length_append,hcl,List.length_drop,Array.length_toList,← g2]; omega
       ·rw [← hR,List.flatten_append,QfR n (Qfu hnl),QfQ n (Qfu hrl),hsz]
        exact ((hnr.take _).append (q1.drop _)).mono fun _ _ h=>h.mono hex.blk hex.sub
      obtain ⟨w1,w2⟩:=hW.write hid hφi g1 hO2
      refine ⟨_,_,hrun' _ _ hap,φ,IR.int _ _,?_,w2,fun k hk=>hφ k (by simpa using hk)⟩
      rw [QjK hlt]; exact w1
     ·have hr0:ob.rows=[]:=List.eq_nil_of_length_eq_zero hlen
      have hn0:n=0:=by rw [hr0] at hmin; simpa using hmin.symm
      subst hn0
      have hR0:R=[]:=by rw [← hR,hr0]; simp
      have hap:=QfD (P:=P) (w:=w) (ty:=o.type) (k:=new.length) (cap:=cap) (A:=A) (B:=B) ht hi
      refine ⟨_,_,hrun' _ _ hap,φ,IR.int _ _,?_,⟨fun _ _=>rfl,fun _ h=>h,fun _ _ h=>h⟩,fun k hk=>hφ k (by simpa using hk)⟩
      have hsame:hl (H.set id (some { ob with rows:=R }))=hl H:=by
       rw [QjK hlt,hR0,← hr0]
       funext k
       by_cases hk:k=id
       ·rw [if_pos hk,hk,hid]
       ·rw [if_neg hk]
      rw [hsame]; exact hW
   ·cases hf
  ·cases hf
 ·cases hf
end
end Go.Proofs.YtpkkaboonnedfaaDoor
namespace Go.Proofs.YtpkkaboonnedfaaDoor
set_option linter.unusedSimpArgs false
set_option linter.unusedVariables false
set_option linter.unusedSectionVars false
open Go.RowKit
section
variable {P : Program} {Γ : Gam} {φ φ' : Pl} {M M' : Nat → Prop} {h hD : Nat → Option Ob} {w w' : World} {a : Act} {hs : List Hint} {o : Oper} {L : Nat → AV} {base : Nat} {r : Wr}
theorem Qf2:∀ {ids:List Nat} {obs:List Ob},pickF h ids=some obs→obs.length=ids.length∧∀ (j i:Nat),ids[j]?=some i→∃ ob,obs[j]?=some ob∧h i=some ob
 | [],_,e=>by cases e; exact ⟨rfl,fun j i hj=>by simp at hj⟩
 | x :: ids,obs,e=>by
  simp only [pickF] at e
  split at e
  ·rename_i ob os h1 h2
   cases e
   obtain ⟨g1,g2⟩:=Qf2 h2
   refine ⟨by simp [g1],fun j i hj=>?_⟩
   cases j with
   | zero=>simp at hj; subst hj; exact ⟨ob,rfl,h1⟩
   | succ j=>exact g2 j i (by simpa using hj)
  ·cases e
theorem Qke:∀ {obs:List Ob},nBox obs≤obs.length
 | []=>Nat.le_refl _
 | o :: r=>by
  simp only [nBox]
  cases o.box
  ·simp
  ·have:=Qke (obs:=r); simp only [cond_true,List.length_cons]; omega
theorem Qkf:∀ {obs:List Ob} {j:Nat} {o:Ob},j<nBox obs→obs[j]?=some o→o.box=true
 | [],j,_,h,_=>by simp [nBox] at h
 | x :: r,j,o,h,e=>by
  simp only [nBox] at h
  cases hx:x.box with
  | false=>rw [hx] at h; simp at h
  | true =>
   rw [hx] at h
   simp only [cond_true] at h
   cases j with
   | zero=>simp at e; subst e; exact hx
   | succ j=>exact Qkf (obs:=r) (j:=j) (by omega) (by simpa using e)
theorem QhR {φ:Pl}:∀ {l:List Ob} {i:Nat} {p:Nat×Nat},p∈Qe3 φ i l→∃ (j:Nat) (ob:Ob) (C:Nat),p.1=i+j∧l[j]?=some ob∧ob.box=true∧φ (i+j)=some (some (p.2,C))
 | [],_,_,h=>by cases h
 | o :: r,i,p,h=>by
  simp only [Qe3,List.mem_append] at h
  rcases h with h|h
  ·split at h
   ·rename_i b C hb hφ
    simp only [List.mem_singleton] at h
    subst h
    exact ⟨0,o,C,rfl,rfl,hb,hφ⟩
   ·cases h
  ·obtain ⟨j,ob,C,h1,h2,h3,h4⟩:=QhR h
   exact ⟨j+1,ob,C,by omega,by simpa using h2,h3,by rw [show i+(j+1)=i+1+j by omega]; exact h4⟩
theorem Qi9 {φ:Pl}:∀ {l:List Ob} {i j:Nat} {ob:Ob} {b C:Nat},l[j]?=some ob→ob.box=true→φ (i+j)=some (some (b,C))→(i+j,b)∈Qe3 φ i l
 | [],_,_,_,_,_,h,_,_=>by simp at h
 | o :: r,i,j,ob,b,C,h,hb,hφ=>by
  simp only [Qe3,List.mem_append]
  cases j with
  | zero =>
   simp at h; subst h
   left
   rw [hb]
   rw [Nat.add_zero] at hφ ⊢
   rw [hφ]; simp
  | succ j =>
   right
   have:=Qi9 (l:=r) (i:=i+1) (j:=j) (by simpa using h) hb (by rw [show i+1+j=i+(j+1) by omega]; exact hφ)
   rw [show i+1+j=i+(j+1) by omega] at this; exact this
theorem QhQ:∀ {l:List Nat} {i j x:Nat},noDup l=true→l[i]?=some x→l[j]?=some x→i=j
 | [],_,_,_,_,h,_=>by simp at h
 | y :: l,i,j,x,hn,hi,hj=>by
  simp only [noDup,Bool.and_eq_true,Bool.not_eq_true'] at hn
  have hy:∀ k,l[k]?≠some y:=fun k e=>by
   have h1:=hn.1
   rw [← Bool.not_eq_true,List.contains_iff_mem] at h1
   exact h1 (List.mem_of_getElem? e)
  cases i with
  | zero =>
   cases j with
   | zero=>rfl
   | succ j=>simp at hi hj; subst hi; exact absurd hj (hy j)
  | succ i =>
   cases j with
   | zero=>simp at hi hj; subst hj; exact absurd hi (hy i)
   | succ j=>exact congrArg (·+1) (QhQ hn.2 (by simpa using hi) (by simpa using hj))
theorem Qhf {a b:List (Nat×Option Ob)} {id:Nat}:findU (a++b) id=match findU a id with
  | some o=>some o
  | none=>findU b id:=by
 induction a with
 | nil=>rfl
 | cons x a ih =>
  obtain ⟨u,o⟩:=x
  simp only [List.cons_append,findU]
  cases (u == id) with
  | true=>rfl
  | false=>exact ih
theorem QgR {id:Nat}:∀ {ids:List Nat},findU (deadU ids) id=if id∈ids then some none else none
 | []=>rfl
 | x :: ids=>by
  show (bif x == id then some none else findU (deadU ids) id)=_
  rw [QgR]
  by_cases hx:x=id
  ·subst hx; simp
  ·have:(x == id)=false:=by simpa using hx
   rw [this]
   have hx':¬ id=x:=fun e=>hx e.symm
   simp [hx']
theorem QhA {m:Nat→Option Nat} {id:Nat} {o:Option Ob}:∀ {ids:List Nat} {obs:List Ob},findU (boxU m ids obs) id=some o→∃ (j:Nat) (ob:Ob),ids[j]?=some id∧obs[j]?=some ob∧o=some (renOb m ob)
 | [],_,h=>by cases h
 | _ :: _,[],h=>by cases h
 | x :: ids,y :: obs,h=>by
  simp only [boxU,findU] at h
  cases hx:(x == id) with
  | true =>
   rw [hx] at h; cases h
   exact ⟨0,y,by simpa using hx,rfl,rfl⟩
  | false =>
   rw [hx] at h
   obtain ⟨j,ob,h1,h2,h3⟩:=QhA (ids:=ids) (obs:=obs) h
   exact ⟨j+1,ob,by simpa using h1,by simpa using h2,h3⟩
theorem QeT {m:Nat→Option Nat} {id:Nat}:∀ {ids:List Nat} {obs:List Ob},ids.length≤obs.length→findU (boxU m ids obs) id=none→id ∉ ids
 | [],_,_,_=>by simp
 | _ :: _,[],h,_=>by simp at h
 | x :: ids,y :: obs,hl,h=>by
  simp only [boxU,findU] at h
  cases hx:(x == id) with
  | true=>rw [hx] at h; cases h
  | false =>
   rw [hx] at h
   have:=QeT (ids:=ids) (obs:=obs) (by simpa using hl) h
   have hx':¬ id=x:=fun e=>by simp [e] at hx
   simp [hx',this]
theorem Qio {c:Call} (ho:o.op=.call c) (hf:wCall P h base L c hs=some r) (hob:allP r.obs) (hF:∀ t,AR w M φ (L t) (a.tmps.getD t undef)) (hW:Wd Γ φ M hD w) (hsub:∀ id ob,h id=some ob→hD id=some ob)
  (hfr:∀ id,base≤id→id<base+r.news.length→φ id=none∧hD id=none) {K:Act→World→Prop}
  (hK:∀ v w',Wo Γ φ M hD base w r v w'→K (a.put o.dst v) w'):o.wp P a w K NQ:=by
 unfold wCall at hf
 split at hf
 ·rename_i f hcf
  split at hf
  ·rename_i k caps args0 o1 ids r0 out hs' h1 h2
   split at hf
   ·rename_i obs0 obs1 hp0 hp1
    cases hc:(noDup ids&&Nat.ble (nBox obs0) obs1.length&&((obs0.drop (nBox obs0)).all (fun x=>!x.box)&&(obs1.take (nBox obs0)).all (fun x=>x.box))) with
    | false=>rw [hc] at hf; cases hf
    | true =>
     rw [hc] at hf; cases hf
     simp only [Bool.and_eq_true,Nat.ble_eq] at hc
     obtain ⟨⟨hnd,hnb⟩,-,-⟩:=hc
     have hout:=QfN hp1
     subst hout
     obtain ⟨hl0,hpk⟩:=Qf2 hp0
     have hnb0:=Qke (obs:=obs0)
     generalize hnbE:nBox obs0=nb at *
     simp only [Qag,allP] at hob
     have hfv:AR w M φ (aev L f) (a.eval f):=Qha hF f
     rw [h1] at hfv
     obtain ⟨cvs,hcv,hcr⟩:LR w M φ (.fn (.func k) caps) (a.eval f):=hfv
     have hcaps:Rs (CR w M φ) (caps.map Cm.one) cvs:=by
      refine Rs.map_left (hcr.imp_mem fun x hx y h=>?_)
      exact LR0.lr h
     have hargs0:Rs (CR w M φ) (args0++caps.map Cm.one) (c.args.toList.map a.eval++cvs):=(Qdu hF trivial h2 hob.1).append hcaps
     -- what the callee is handed
     let φc:Pl:=fun j=>match ids[j]? with
      | some i=>φ i
      | none=>none
     have hφc:∀ j i,ids[j]?=some i→φc j=φ i:=fun j i hj=>by simp only [φc,hj]
     have hφcn:∀ j,ids.length≤j→φc j=none:=fun j hj=>by simp only [φc,List.getElem?_eq_none hj]
     have hobj:∀ j ob,(obs0.map (renOb (posOf ids 0)))[j]?=some ob→∃ i ob0,ids[j]?=some i∧obs0[j]?=some ob0∧ob=renOb (posOf ids 0) ob0∧hD i=some ob0:=fun j ob hj=>by
      rw [List.getElem?_map] at hj
      cases ho0:obs0[j]? with
      | none=>rw [ho0] at hj; cases hj
      | some ob0 =>
       rw [ho0] at hj; cases hj
       have hlt:j<ids.length:=by rw [← hl0]; exact (List.getElem?_eq_some_iff.1 ho0).1
       obtain ⟨ob1,g1,g2⟩:=hpk j ids[j] (List.getElem?_eq_getElem hlt)
       rw [ho0] at g1; cases g1
       exact ⟨ids[j],ob0,List.getElem?_eq_getElem hlt,ho0,rfl,hsub _ _ g2⟩
     have hmc:∀ id k p,posOf ids 0 id=some k→φ id=some p→φc k=some p:=fun id k p hk hp=>by
      obtain ⟨-,g⟩:=Qf3 hk
      rw [Nat.sub_zero] at g
      rw [hφc k id g]; exact hp
     have hlenO:(obs0.map (renOb (posOf ids 0))).length=ids.length:=by rw [List.length_map,hl0]
     have hown0:∀ b,(∃ id C,id<(obs0.map (renOb (posOf ids 0))).length∧φc id=some (some (b,C)))→∃ i ob C,i∈ids∧hD i=some ob∧φ i=some (some (b,C)):=fun b ⟨j,C,hj,hφj⟩=>by
      have hj':j<ids.length:=by rw [← hlenO]; exact hj
      obtain ⟨ob1,g1,g2⟩:=hpk j ids[j] (List.getElem?_eq_getElem hj')
      rw [hφc j _ (List.getElem?_eq_getElem hj')] at hφj
      exact ⟨ids[j],ob1,C,List.getElem_mem hj',hsub _ _ g2,hφj⟩
     have hWc:Wd ⟨w,fun b=>∃ id C,id<(obs0.map (renOb (posOf ids 0))).length∧φc id=some (some (b,C)),M,Qe3 φc 0 (obs0.map (renOb (posOf ids 0)))⟩ φc M (fun id=>(obs0.map (renOb (posOf ids 0)))[id]?) w:=by
      refine ⟨fun j ob e=>?_,fun i j oi oj b Ci Cj ei ej pi pj=>?_,hW.mlt,fun _ h=>h,fun _ h=>.inl h,fun j ob b C e p=>?_,fun _ _ _=>rfl,rfl,rfl,rfl,Nat.le_refl _,fun p hp=>?_,fun b cs ht=>⟨(hW.tab b cs ht).1,fun ho=>by obtain ⟨i,ob,C,_,g2,g3⟩:=hown0 b ho; exact (hW.own i ob b C g2 g3).1 (hW.tab b cs ht).1,(hW.tab b cs ht).2⟩⟩
      ·obtain ⟨i,ob0,g1,g2,rfl,g4⟩:=hobj j ob e
       exact Qf6 hmc (hφc j i g1) (hW.obs i ob0 g4)
      ·obtain ⟨ii,oi0,g1,-,-,g4⟩:=hobj i oi ei
       obtain ⟨jj,oj0,k1,-,-,k4⟩:=hobj j oj ej
       rw [hφc i ii g1] at pi
       rw [hφc j jj k1] at pj
       have:=hW.inj ii jj oi0 oj0 b Ci Cj g4 k4 pi pj
       subst this
       exact QhQ hnd g1 k1
      ·obtain ⟨i,ob0,g1,g2,-,g4⟩:=hobj j ob e
       have p':=p
       rw [hφc j i g1] at p
       obtain ⟨q1,q2,q3⟩:=hW.own i ob0 b C g4 p
       exact ⟨q1,q2,.inl ⟨j,C,(List.getElem?_eq_some_iff.1 e).1,p'⟩⟩
      ·obtain ⟨j,ob,C,e1,e2,e3,e4⟩:=QhR hp
       rw [Nat.zero_add] at e1 e4
       obtain ⟨i,ob0,g1,g2,rfl,g4⟩:=hobj j ob e2
       rw [e1,e4]
       obtain ⟨b1,q1⟩:=(Qf6 hmc (hφc j i g1) (hW.obs i ob0 g4)).boxed e3
       rw [e4] at q1
       cases q1; rfl
     have hargs:Rs (CR w M φc) ((args0++caps.map Cm.one).map (renC (posOf ids 0))) (c.args.toList.map a.eval++cvs):=Rs.map_left (hargs0.mono fun _ _ h=>QhW hmc h)
     unfold Oper.wp
     rw [Qho ho hcf hcv hob.2.1.1]
     show Calls P k _ w _
     refine (hob.2.1.2 w φc M _ hWc (fun id hid=>hφcn id (by rw [← hlenO]; exact hid)) hargs).mono ?_
     rintro e w' ⟨v,φ',M',rfl,hr,hW',hφ'⟩
     rw [List.length_map] at hφ'
     have hhl:∀ i,hl (obs1.map some) i=obs1[i]?:=fun i=>by unfold hl; rw [List.getElem?_map]; cases obs1[i]? <;> rfl
     refine hK v w' ?_
     have hnw:((obs1.drop nb).map (renOb (Qev ids nb base))).length=obs1.length-nb:=by simp
     simp only [hnw] at hfr
     -- where the boxes lie
     have hbx:∀ j i,j<nb→ids[j]?=some i→∃ b,φ i=some (some (b,1))∧φ' j=some (some (b,1)):=fun j i hj hi=>by
      obtain ⟨ob0,g1,g2⟩:=hpk j i hi
      have hb0:ob0.box=true:=Qkf (by rw [hnbE]; exact hj) g1
      obtain ⟨b,hφi⟩:=(hW.obs i ob0 (hsub _ _ g2)).boxed hb0
      refine ⟨b,hφi,?_⟩
      have hm0:(obs0.map (renOb (posOf ids 0)))[j]?=some (renOb (posOf ids 0) ob0):=by rw [List.getElem?_map,g1]; rfl
      have:=hW'.pin (0+j,b) (Qi9 (C:=1) hm0 (by rw [QhX]; exact hb0) (by rw [Nat.zero_add,hφc j i hi,hφi]))
      rw [Nat.zero_add] at this; exact this
     let φ2:Pl:=fun i=>if base≤i∧i<base+(obs1.length-nb) then φ' (nb+(i-base)) else φ i
     have hin:∀ i,base≤i→i<base+(obs1.length-nb)→φ2 i=φ' (nb+(i-base)):=fun i h1 h2=>if_pos ⟨h1,h2⟩
     have houtφ:∀ i,¬ (base≤i∧i<base+(obs1.length-nb))→φ2 i=φ i:=fun i h=>if_neg h
     have hpl:∀ i p,φ i=some p→φ2 i=some p:=fun i p h=>by
      by_cases hi:base≤i∧i<base+(obs1.length-nb)
      ·rw [(hfr i hi.1 hi.2).1] at h; cases h
      ·rw [houtφ i hi]; exact h
     have hm2:∀ id k p,Qev ids nb base id=some k→φ' id=some p→φ2 k=some p:=fun id k p hk hp=>by
      unfold Qev at hk
      cases hlt:Nat.blt id nb with
      | true =>
       rw [hlt] at hk
       have hlt':id<nb:=Nat.le_of_ble_eq_true hlt
       obtain ⟨b,g1,g2⟩:=hbx id k hlt' hk
       rw [g2] at hp; cases hp
       exact hpl _ _ g1
      | false =>
       rw [hlt] at hk; cases hk
       have hge:¬ id<nb:=fun h=>by
        have:Nat.blt id nb=true:=Nat.ble_eq_true_of_le h
        rw [hlt] at this; cases this
       have hid:id<obs1.length:=by
        rcases Nat.lt_or_ge id obs1.length with h|h
        ·exact h
        ·rw [hφ' id h] at hp; cases hp
       rw [hin _ (by omega) (by omega),show nb+(base+(id-nb)-base)=id by omega]; exact hp
     -- blocks that the callee was not handed
     have hkeep:∀ b,b<w.heap.size→(∀ i ob C,i∈ids→hD i=some ob→φ i≠some (some (b,C)))→w'.heap[b]?=w.heap[b]?:=fun b hb hn=>hW'.keep b hb fun h=>by
      obtain ⟨i,ob,C,g1,g2,g3⟩:=hown0 b h
      exact hn i ob C g1 g2 g3
     have hMk:∀ b,M b→w'.heap[b]?=w.heap[b]?:=fun b hb=>hkeep b (hW.mlt b hb) fun i ob C g1 g2 g3=>(hW.own i ob b C g2 g3).1 hb
     have hex:Ex w M φ w' M' φ2:=⟨hMk,hW'.m0,hpl⟩
     have hsz:w.heap.size≤w'.heap.size:=hW'.size
     have hm':∀ b,M' b→M b∨(∃ i ob C,i∈ids∧hD i=some ob∧φ i=some (some (b,C)))∨w.heap.size≤b:=fun b hb=>by
      rcases hW'.mold b hb with h|h|h
      ·exact .inl h
      ·exact .inr (.inl (hown0 b h))
      ·exact .inr (.inr h)
     have hown':∀ jj ob b C,obs1[jj]?=some ob→φ' jj=some (some (b,C))→¬ M' b∧b<w'.heap.size∧((∃ i ob C,i∈ids∧hD i=some ob∧φ i=some (some (b,C)))∨w.heap.size≤b):=fun jj ob b C e p=>by
      obtain ⟨g1,g2,g3⟩:=hW'.own jj ob b C ((hhl jj).trans e) p
      refine ⟨g1,g2,?_⟩
      rcases g3 with h|h
      ·exact .inl (hown0 b h)
      ·exact .inr h
     -- the objects that are there
     have hlt1:(ids.take nb).length≤(obs1.take nb).length:=by simp; omega
     have key:∀ i ob,plc (updF hD (boxU (Qev ids nb base) (ids.take nb) (obs1.take nb)++deadU (ids.drop nb))) base ((obs1.drop nb).map (renOb (Qev ids nb base))) i=some ob →
       (∃ jj ob1,obs1[jj]?=some ob1∧ob=renOb (Qev ids nb base) ob1∧φ2 i=φ' jj∧(∀ i',Qev ids nb base jj=some i'→i'=i)∧(Qev ids nb base jj=some i))∨(¬ (base≤i∧i<base+(obs1.length-nb))∧i ∉ ids∧hD i=some ob):=fun i ob e=>by
      unfold plc at e
      rw [hnw] at e
      by_cases hi:base≤i∧i<base+(obs1.length-nb)
      ·rw [if_pos hi,List.getElem?_map,List.getElem?_drop] at e
       cases h3:obs1[nb+(i-base)]? with
       | none=>rw [h3] at e; cases e
       | some ob1 =>
        rw [h3] at e; cases e
        have hid:Qev ids nb base (nb+(i-base))=some i:=by
         unfold Qev
         have:Nat.blt (nb+(i-base)) nb=false:=by rw [← Bool.not_eq_true]; intro h; have:=Nat.le_of_ble_eq_true h; omega
         rw [this]; simp only [cond_false]; congr 1; omega
        exact .inl ⟨nb+(i-base),ob1,h3,rfl,hin i hi.1 hi.2,fun i' h=>by rw [hid] at h; exact (Option.some.inj h).symm,hid⟩
      ·rw [if_neg hi] at e
       unfold updF at e
       rw [Qhf] at e
       cases h3:findU (boxU (Qev ids nb base) (ids.take nb) (obs1.take nb)) i with
       | some ov =>
        rw [h3] at e
        simp only at e
        obtain ⟨j,ob1,g1,g2,g3⟩:=QhA h3
        rw [e] at g3; cases g3
        rw [List.getElem?_take] at g1 g2
        have hj:j<nb:=by
         rcases Nat.lt_or_ge j nb with h|h
         ·exact h
         ·rw [if_neg (by omega)] at g1; cases g1
        rw [if_pos hj] at g1 g2
        obtain ⟨b,q1,q2⟩:=hbx j i hj g1
        have hid:Qev ids nb base j=some i:=by
         unfold Qev
         have:Nat.blt j nb=true:=Nat.ble_eq_true_of_le hj
         rw [this]; exact g1
        exact .inl ⟨j,ob1,g2,rfl,by rw [houtφ i hi,q1,q2],fun i' h=>by rw [hid] at h; exact (Option.some.inj h).symm,hid⟩
       | none =>
        rw [h3] at e
        simp only [QgR] at e
        have n1:=QeT hlt1 h3
        by_cases hd:i∈ids.drop nb
        ·rw [if_pos hd] at e; cases e
        ·rw [if_neg hd] at e
         refine .inr ⟨hi,fun hm=>?_,e⟩
         rw [← List.take_append_drop nb ids,List.mem_append] at hm
         rcases hm with h|h
         ·exact n1 h
         ·exact hd h
     have hold:∀ i ob b C,i ∉ ids→hD i=some ob→φ i=some (some (b,C))→w'.heap[b]?=w.heap[b]?:=fun i ob b C hi e p=>hkeep b (hW.own i ob b C e p).2.1 fun i2 ob2 C2 g1 g2 g3=>hi (by rw [hW.inj i i2 ob ob2 b C C2 e g2 p g3]; exact g1)
     refine ⟨φ2,M',QgF hm2 hr,?_,hex,fun i hi=>?_⟩
     ·refine ⟨fun i ob e=>?_,fun i j oi oj b Ci Cj ei ej pi pj=>?_,hW'.mlt,fun b hb=>hW'.m0 b (hW.m0 b hb),fun b hb=>?_,fun i ob b C e p=>?_,fun b hb hn=>?_,hW'.os.trans hW.os,hW'.tape.trans hW.tape,hW'.output.trans hW.output,Nat.le_trans hW.size hsz,fun p hp=>hpl _ _ (hW.pin p hp),hW.tbw⟩
      ·rcases key i ob e with ⟨jj,ob1,g1,rfl,g3,-,-⟩|⟨g1,g2,g3⟩
       ·exact Qf6 hm2 g3 (hW'.obs jj ob1 ((hhl jj).trans g1))
       ·exact (hW.obs i ob g3).mono hex fun b C p=>hold i ob b C g2 g3 p
      ·rcases key i oi ei with ⟨ii,oi1,g1,-,g3,g4,g5⟩|⟨g1,g2,g3⟩ <;> rcases key j oj ej with ⟨jj,oj1,k1,-,k3,k4,k5⟩|⟨k1,k2,k3⟩
       ·rw [g3] at pi
        rw [k3] at pj
        have:=hW'.inj ii jj oi1 oj1 b Ci Cj ((hhl ii).trans g1) ((hhl jj).trans k1) pi pj
        subst this
        exact k4 i g5
       ·exfalso
        rw [g3] at pi
        rw [houtφ j k1] at pj
        have hlt:=(hW.own j oj b Cj k3 pj).2.1
        rcases (hown' ii oi1 b Ci g1 pi).2.2 with ⟨i2,ob2,C2,q1,q2,q3⟩|h
        ·exact k2 (by rw [hW.inj j i2 oj ob2 b Cj C2 k3 q2 pj q3]; exact q1)
        ·omega
       ·exfalso
        rw [k3] at pj
        rw [houtφ i g1] at pi
        have hlt:=(hW.own i oi b Ci g3 pi).2.1
        rcases (hown' jj oj1 b Cj k1 pj).2.2 with ⟨i2,ob2,C2,q1,q2,q3⟩|h
        ·exact g2 (by rw [hW.inj i i2 oi ob2 b Ci C2 g3 q2 pi q3]; exact q1)
        ·omega
       ·rw [houtφ i g1] at pi
        rw [houtφ j k1] at pj
        exact hW.inj i j oi oj b Ci Cj g3 k3 pi pj
      ·rcases hm' b hb with h|⟨i,ob,C,g1,g2,g3⟩|h
       ·exact hW.mold b h
       ·exact .inr (hW.own i ob b C g2 g3).2.2
       ·exact .inr (.inr (Nat.le_trans hW.size h))
      ·rcases key i ob e with ⟨jj,ob1,g1,-,g3,-,-⟩|⟨g1,g2,g3⟩
       ·rw [g3] at p
        obtain ⟨q1,q2,q3⟩:=hown' jj ob1 b C g1 p
        refine ⟨q1,q2,?_⟩
        rcases q3 with ⟨i2,ob2,C2,s1,s2,s3⟩|h
        ·exact (hW.own i2 ob2 b C2 s2 s3).2.2
        ·exact .inr (Nat.le_trans hW.size h)
       ·rw [houtφ i g1] at p
        obtain ⟨q1,q2,q3⟩:=hW.own i ob b C g3 p
        refine ⟨fun hb=>?_,Nat.lt_of_lt_of_le q2 hsz,q3⟩
        rcases hm' b hb with h|⟨i2,ob2,C2,s1,s2,s3⟩|h
        ·exact q1 h
        ·exact g2 (by rw [hW.inj i i2 ob ob2 b C C2 g3 s2 p s3]; exact s1)
        ·omega
      ·refine (hkeep b (Nat.lt_of_lt_of_le hb hW.size) fun i ob C g1 g2 g3=>?_).trans (hW.keep b hb hn)
       rcases (hW.own i ob b C g2 g3).2.2 with h|h
       ·exact hn h
       ·omega
     ·by_cases h:base≤i∧i<base+(obs1.length-nb)
      ·right; rw [hnw]; exact h
      ·rw [houtφ i h] at hi; exact .inl hi
   ·cases hf
  ·cases hf
 ·cases hf
theorem QgM {id:Nat} {ob:Option Ob}:updF hD [(id,ob)]=fun i=>if i=id then ob else hD i:=by
 funext i
 unfold updF
 simp only [findU]
 by_cases h2:i=id
 ·subst h2; simp
 ·have:(id == i)=false:=by simpa using fun e:id=i=>h2 e.symm
  rw [if_neg h2,this]; rfl
theorem Qhs {t:TypeId} {x y:Operand} (hop:o.op=.store t x y) (hf:Qj5 P h L t x y hs=some r) (hob:allP r.obs) (hF:∀ t,AR w M φ (L t) (a.tmps.getD t undef)) (hW:Wd Γ φ M hD w) (hsub:∀ id ob,h id=some ob→hD id=some ob) :
  ∃ w',(execOp a.eval o).run P w=.ok .skip w'∧Wo Γ φ M hD base w r undef w':=by
 unfold Qj5 at hf
 ·split at hf
  ·rename_i id sz row off o1 c o2 n h1 h2 ht
   split at hf
   ·rename_i ob hid
    split at hf
    ·rename_i cells hbx hrows
     cases hc:(ob.sz == sz&&n == c.cells.length&&(row == 0&&Nat.ble (off+n) cells.length)) with
     | false=>rw [hc] at hf; cases hf
     | true =>
      rw [hc] at hf; cases hf
      simp only [Bool.and_eq_true,beq_iff_eq,Nat.ble_eq] at hc
      obtain ⟨⟨hsz,hn⟩,rfl,hfit⟩:=hc
      rw [Qag] at hob
      have hO:=hW.obs id ob (hsub id ob hid)
      obtain ⟨b,C,hφi,hv⟩:LR0 w M φ (.op id sz 0 off) (a.eval x):=Qat hF h1 hob.1 trivial
      have hy:=(Qat hF h2 hob.2 trivial).cells
      obtain ⟨h0,hO'⟩:=hO.oc (.inr ⟨_,hrows⟩)
      rw [hφi] at hO'
      obtain ⟨cur,g1,g2,g3,g4,g5,g6⟩:=hO'
      obtain ⟨hm,hblt,hown⟩:=hW.own id ob b C (hsub id ob hid) hφi
      have hcl0:(a.eval y).cells.size=n:=by rw [← Array.length_toList,← hy.len,hn]
      have hex:∀ new,Ex w M φ (w.setRow b new) M φ:=fun new=>⟨fun c hc=>setRow_other w b c new fun e=>hm (e ▸ hc),fun _ h=>h,fun _ _ h=>h⟩
      have hcl:cells.length=ob.sz:=(g6 0 cells (by rw [hrows]; rfl)).1
      have hC:1≤C:=by rw [hrows] at g3; simpa using g3
      have hle:ob.sz≤cur.size:=by rw [g2]; exact Nat.le_mul_of_pos_left _ hC
      have hvl:=hy.len
      have hcl1:cur.toList.length=cur.size:=Array.length_toList
      have hrun:=QdN (P:=P) (p:=0*sz+off) ht hcl0 g1 (by rw [Nat.zero_mul]; omega) (Rs.lr_one hy)
      refine ⟨w.setRow b (cur.toList.take (0*sz+off)++(a.eval y).cells.toList++cur.toList.drop (0*sz+off+(a.eval y).cells.toList.length)).toArray,by simp only [execOp,hop,hv,Instr.storeAt,Instr.sureAddr,Sem.run_bind,Sem.run_pure,Result.andThen_ok,hrun],?_⟩
      suffices hs:Wd Γ φ M (fun i=>if i=id then some { ob with rows:=[cells.take off++c.cells++cells.drop (off+n)] } else hD i) (w.setRow b (cur.toList.take (0*sz+off)++(a.eval y).cells.toList++cur.toList.drop (0*sz+off+(a.eval y).cells.toList.length)).toArray)∧Ex w M φ (w.setRow b (cur.toList.take (0*sz+off)++(a.eval y).cells.toList++cur.toList.drop (0*sz+off+(a.eval y).cells.toList.length)).toArray) M φ by
       exact ⟨φ,M,trivial,by rw [Qd5,QgM]; exact hs.1,hs.2,fun _ h=>.inl h⟩
      refine hW.write (ob':={ ob with rows:=[cells.take off++c.cells++cells.drop (off+n)] }) (hsub id ob hid) hφi g1 (.inl ⟨h0,?_⟩)
      rw [hφi]
      refine ⟨_,setRow_heap w b cur _ ob.ety (0,0) g1,?_,by simpa using hC,g4,g5,fun i d hd=>?_⟩
      ·rw [← g2]; simp; omega
      ·cases i with
       | succ i=>simp at hd
       | zero =>
        obtain rfl:=Option.some.inj (show some _=some d from hd)
        refine ⟨by simp; omega,fun j l hj=>?_⟩
        have h3:=QcW (l:=cells) (vs:=c.cells) (p:=off) (by omega) j
        rw [hn] at hj
        rw [h3] at hj
        rw [List.getElem?_toArray,Nat.zero_mul,Nat.zero_add,Nat.zero_mul,Nat.zero_add,QcW (by omega)]
        have old:∀ l,cells[j]?=some l→∃ v,cur.toList[j]?=some v∧(if ob.box=true then LR (w.setRow b (cur.toList.take off++(a.eval y).cells.toList++cur.toList.drop (off+(a.eval y).cells.toList.length)).toArray) M φ l v else IR (w.setRow b (cur.toList.take off++(a.eval y).cells.toList++cur.toList.drop (off+(a.eval y).cells.toList.length)).toArray) M l v):=fun l hl=>by
         obtain ⟨v,hv,hr⟩:=(g6 0 cells (by rw [hrows]; rfl)).2 j l hl
         rw [Nat.zero_mul,Nat.zero_add] at hv
         rw [if_pos hbx] at hr
         exact ⟨v,by simpa using hv,by rw [if_pos hbx]; exact hr.mono (hex _)⟩
        by_cases j1:j<off
        ·rw [if_pos j1] at hj ⊢; exact old l hj
        ·rw [if_neg j1] at hj ⊢
         by_cases j2:j<off+c.cells.length
         ·rw [if_pos j2] at hj
          rw [if_pos (by omega)]
          obtain ⟨v,hv,hr⟩:=hy.get hj
          exact ⟨v,hv,by rw [if_pos hbx]; exact hr.mono (hex _)⟩
         ·rw [if_neg j2] at hj
          rw [if_neg (by omega)]
          exact old l hj
    ·cases hf
   ·cases hf
  ·cases hf
theorem QjA {t:TypeId} {m k v:Operand} (hop:o.op=.mapUpdate t m k v) (hf:wMap P h L t m k v hs=some r) (hob:allP r.obs) (hF:∀ t,AR w M φ (L t) (a.tmps.getD t undef)) (hW:Wd Γ φ M hD w) (hsub:∀ id ob,h id=some ob→hD id=some ob) :
  ∃ w',(execOp a.eval o).run P w=.ok .skip w'∧Wo Γ φ M hD base w r undef w':=by
 unfold wMap at hf
 split at hf
 ·rename_i kt vt id o1 kl o2 vl o3 R hs' hu h1 h2 h3
  split at hf
  ·rename_i ob hid
   split at hf
   ·rename_i rs hm
    cases hc:(ob.box&&immL vl&&Qib P kt kl) with
    | false=>rw [hc] at hf; cases hf
    | true =>
     rw [hc] at hf; cases hf
     simp only [Bool.and_eq_true] at hc
     simp only [Qag,allP] at hob
     obtain ⟨b,hφ,hv⟩:LR0 w M φ (.mp id) (a.eval m):=Qat hF h1 hob.1.1.1 trivial
     have hk:CR w M φ kl (a.eval k):=Qat hF h2 hob.1.1.2 trivial
     have hx:LR w M φ vl (a.eval v):=Qat hF h3 hob.1.2 trivial
     have hkr:=QiT hc.2 hk
     have hidD:=hsub id ob hid
     obtain ⟨b',es,clk,g1,g2,g3,g4⟩:=QgX (hW.obs id ob hidD) hm hc.1.1
     rw [hφ] at g1; cases g1
     have hck:=hkr.check false
     -- the map as it is left
     have key:∀ (es':Array MapEntry) (clk':Nat),Rs (EntR w M) R es'.toList→(execOp a.eval o).run P w=.ok .skip { w with heap:=w.heap.setIfInBounds b (.map es' clk') } →
       ∃ w',(execOp a.eval o).run P w=.ok .skip w'∧Wo Γ φ M hD base w ⟨.unk,[(id,some { ob with rows:=[] :: [] :: R })],[],o1++o2++o3++[mpPut rs kl.cells vl=some R],hs'⟩ undef w':=fun es' clk' hR hrun=>by
      obtain ⟨k1,k2⟩:=Go.MapKept.heap_set (o':=.map es' clk') g2
      have hm0:=(hW.own id ob b 1 hidD hφ).1
      have hex:Ex w M φ { w with heap:=w.heap.setIfInBounds b (.map es' clk') } M φ:=⟨fun c hc=>k2 c fun e=>hm0 (e ▸ hc),fun _ h=>h,fun _ _ h=>h⟩
      refine ⟨_,hrun,φ,M,trivial,?_,hex,fun _ h=>.inl h⟩
      rw [Qd5,QgM]
      exact hW.turn hidD hφ (fun c hc=>k2 c hc) (by simp) rfl rfl rfl (.inr ⟨hc.1.1,R,b,es',clk',rfl,hφ,k1,hR.mono fun _ _ h=>EntR.mono hex.blk hex.sub h⟩)
     rcases hkr.put (LR.imm hc.1.2 hx) g3 hob.2.1 with ⟨q1,q2⟩|⟨j,u,e,q1,q2,q3,q4⟩
     ·refine key (es.push { key:=a.eval k,val:=a.eval v,born:=clk }) (clk+1) (by rw [Array.toList_push]; exact q2 clk) ?_
      simp [execOp,hop,hv,Instr.mapUpdate,run_underlying hu,Go.MapKept.run_getObj_map g2,hck,q1,Go.MapKept.run_setObj_map _ g2,Result.andThen]
     ·have hej:es[j]?=some e:=by rw [← Array.getElem?_toList]; exact q2
      have hst:=hkr.stays
      refine key (es.modify j fun e=>{ e with key:=a.eval k,val:=a.eval v }) clk ?_ ?_
      ·have:(es.modify j fun e=>{ e with key:=a.eval k,val:=a.eval v }).toList=es.toList.set j { e with key:=a.eval k,val:=a.eval v }:=by
        apply List.ext_getElem?
        intro i
        rw [Array.getElem?_toList,Array.getElem?_modify,List.getElem?_set]
        by_cases hij:j=i
        ·subst hij
         have hlt:=(List.getElem?_eq_some_iff.1 q2).1
         have hlt2:j<es.size:=by simpa using hlt
         have he2:es[j]=e:=by rw [Array.getElem?_eq_getElem hlt2] at hej; exact Option.some.inj hej
         simp [hlt2,he2]
        ·simp [hij]
       rw [this]; exact q4
      ·have hkk:(((es[j]?).map (·.key)).getD (a.eval k))=a.eval k:=by rw [hej]; exact q3
       simp only [Option.map] at hkk
       simp [execOp,hop,hv,Instr.mapUpdate,run_underlying hu,Go.MapKept.run_getObj_map g2,hck,q1,Result.andThen]
       rw [hej]
       simp [q3,hst,Go.MapKept.run_setObj_map _ g2,Result.andThen]
   ·cases hf
  ·cases hf
 ·cases hf
theorem Qjz {t:TypeId} {x hi:Operand} (hop:o.op=.slice t x none (some hi) none) (hf:wCut P h L t x hi hs=some r) (hob:allP r.obs) (hF:∀ t,AR w M φ (L t) (a.tmps.getD t undef)) (hW:Wd Γ φ M hD w) (hsub:∀ id ob,h id=some ob→hD id=some ob) :
  ∃ v,(execOp a.eval o).run P w=.ok (.value v) w∧Wo Γ φ M hD base w r v w:=by
 unfold wCut at hf
 split at hf
 ·rename_i id sz off len o1 kd n o2 e R hs' h1 h2 he
  split at hf
  ·rename_i ob hid
   cases hc:(off == 0&&ob.sz == sz&&!ob.box&&tsz P e == some sz) with
   | false=>rw [hc] at hf; cases hf
   | true =>
    rw [hc] at hf; cases hf
    simp only [Bool.and_eq_true,beq_iff_eq,Bool.not_eq_true'] at hc
    obtain ⟨⟨⟨rfl,hsz⟩,hbx⟩,hts⟩:=hc
    simp only [Qag,allP] at hob
    obtain ⟨⟨p1,p2⟩,hlen,hn0,hn1,hR,-⟩:=hob
    have hu:=Qbc he
    obtain ⟨i,hi2,his⟩:=Qce hts
    have hx:LR0 w M φ (.os id sz 0 len) (a.eval x):=Qat hF h1 p1 trivial
    have hh:IR w M (.int kd n) (a.eval hi):=Qat hF h2 p2 trivial
    generalize hv2:a.eval hi=hv at hh
    cases hh
    replace hid:=hsub _ _ hid
    have hO:=hW.obs id ob hid
    have hRl:R.length=n.toNat:=by rw [← hR,List.length_take]; omega
    have hrun:∀ v,(Instr.sliceAt t (a.eval x) none (some (.int kd n)) none).run P w=.ok v w→(execOp a.eval o).run P w=.ok (.value v) w:=fun v hv=>by simp [execOp,hop,hv2,hv]
    have hex:Ex w M φ w M φ:=⟨fun _ _=>rfl,fun _ h=>h,fun _ _ h=>h⟩
    rcases hx with ⟨b,C,hφi,hv,hle⟩|⟨hφi,_,hl0,A,hv⟩
    ·rw [hv] at hrun
     obtain ⟨hs0,hO'⟩:=hO.oc (.inl hbx)
     rw [hφi] at hO'
     obtain ⟨cur,g1,g2,g3,g4,g5,g6⟩:=hO'
     have hb:=Qdq (P:=P) (w:=w) (isS:=true) (len:=len) (cap:=C-0) (lo:=none) (hi:=some (.int kd n)) (mx:=none) (ql:=none) (qh:=some n) (qm:=none) (.inl ⟨rfl,rfl⟩) (.inr ⟨kd,n,rfl,rfl⟩) (.inl ⟨rfl,rfl⟩) (fun h=>by cases h) (by simp) (by simpa using hn0) (by simp only [Option.getD_some,Option.getD_none]; omega) (by simp) (by omega)
     have hrn:=hrun _ (Qd7 hu hi2 hb)
     refine ⟨_,hrn,φ,M,?_,?_,hex,fun _ h=>.inl h⟩
     ·refine .inl ⟨b,C,hφi,?_,by omega⟩
      have z0:((none:Option Int).getD 0).toNat=0:=rfl
      have z1:((some n).getD (len:Int)).toNat=R.length:=by simp [hRl]
      have z2:((none:Option Int).getD ((C-0:Nat):Int)).toNat=C:=by simp
      rw [z0,z1,z2]
      simp only [Nat.sub_zero,Nat.zero_mul,Option.map_some]
      split <;> simp [Addr.add_mid]
     ·rw [Qd5,QgM]
      refine hW.turn hid hφi (fun _ _=>rfl) rfl rfl rfl rfl (.inl ⟨hs0,?_⟩)
      rw [hφi]
      refine ⟨cur,g1,g2,by simp only; omega,g4,g5,fun j c hc=>g6 j c ?_⟩
      simp only at hc
      rw [← hR,List.getElem?_take] at hc
      split at hc
      ·exact hc
      ·cases hc
    ·rw [hv] at hrun
     have hr0:ob.rows=[]:=List.eq_nil_of_length_eq_zero (by omega)
     have hn:n=0:=by rw [hr0] at hn1; simp only [List.length_nil,Int.natCast_zero] at hn1; omega
     have hR0:R=[]:=by rw [← hR,hr0]; simp
     subst hR0
     have hb:=Qdq (P:=P) (w:=w) (isS:=true) (len:=0) (cap:=0) (lo:=none) (hi:=some (.int kd n)) (mx:=none) (ql:=none) (qh:=some n) (qm:=none) (.inl ⟨rfl,rfl⟩) (.inr ⟨kd,n,rfl,rfl⟩) (.inl ⟨rfl,rfl⟩) (fun h=>by cases h) (by simp) (by simpa using hn0) (by simp only [Option.getD_some,Option.getD_none]; omega) (by simp) (by omega)
     have hrn:=hrun _ (Qd7 hu hi2 hb)
     refine ⟨_,hrn,φ,M,?_,?_,hex,fun _ h=>.inl h⟩
     ·subst hn
      exact .inr ⟨hφi,rfl,rfl,A,rfl⟩
     ·rw [Qd5,QgM]
      have:(fun i=>if i=id then some { ob with rows:=[] } else hD i)=hD:=by
       funext i
       by_cases hi:i=id
       ·subst hi; rw [if_pos rfl,hid]; cases ob; simp only at hr0; rw [hr0]
       ·rw [if_neg hi]
      rw [this]; exact hW
  ·cases hf
 ·cases hf
theorem Qh5 (hf:wop P h base L o.op hs=some r) (hob:allP r.obs) (hF:∀ t,AR w M φ (L t) (a.tmps.getD t undef)) (hW:Wd Γ φ M hD w) (hsub:∀ id ob,h id=some ob→hD id=some ob)
  (hfr:∀ id,base≤id→id<base+r.news.length→φ id=none∧hD id=none) {K:Act→World→Prop}
  (hK:∀ v w',Wo Γ φ M hD base w r v w'→K (a.put o.dst v) w'):o.wp P a w K NQ:=by
 cases ho:o.op with
 | store t x y =>
  rw [ho] at hf
  obtain ⟨w',hrun,hm⟩:=Qhs (base:=base) ho hf hob hF hW hsub
  unfold Oper.wp
  rw [hrun]
  exact hK undef w' hm
 | mapUpdate t m k v =>
  rw [ho] at hf
  obtain ⟨w',hrun,hm⟩:=QjA (base:=base) ho hf hob hF hW hsub
  unfold Oper.wp
  rw [hrun]
  exact hK undef w' hm
 | slice t x lo hi mx =>
  rw [ho] at hf
  cases lo with
  | some _=>simp only [wop] at hf; cases hf
  | none =>
   cases hi with
   | none=>simp only [wop] at hf; cases hf
   | some hi =>
    cases mx with
    | some _=>simp only [wop] at hf; cases hf
    | none =>
     simp only [wop] at hf
     obtain ⟨v,hrun,hm⟩:=Qjz (base:=base) ho hf hob hF hW hsub
     unfold Oper.wp
     rw [hrun]
     exact hK v w hm
 | call c =>
  rw [ho] at hf
  simp only [wop] at hf
  split at hf
  ·rename_i hc
   obtain ⟨v,w',hrun,hm⟩:=Qg9 hW hsub hF hfr ho hc hf hob
   unfold Oper.wp
   rw [hrun]
   exact hK v w' hm
  ·exact Qio ho hf hob hF hW hsub hfr hK
 | _=>rw [ho] at hf; simp only [wop] at hf; cases hf
theorem Qht {op:Op} (hf:wop P h base L op hs=some r):∀ u∈r.upd,∃ ob,h u.1=some ob:=by
 unfold wop at hf
 split at hf
 ·rename_i t x y
  unfold Qj5 at hf
  split at hf
  ·split at hf
   ·rename_i ob hid
    split at hf
    ·have bif_some:∀ {c:Bool} {x:Option Wr},(bif c then x else none)=some r→x=some r:=by
      intro c x hc; cases c
      ·cases hc
      ·exact hc
     cases bif_some hf
     intro u hu
     simp only [List.mem_singleton] at hu
     subst hu
     exact ⟨ob,hid⟩
    ·cases hf
   ·cases hf
  ·cases hf
 ·unfold wMap at hf
  split at hf
  ·split at hf
   ·rename_i ob hid
    split at hf
    ·have bif_some:∀ {c:Bool} {x:Option Wr},(bif c then x else none)=some r→x=some r:=by
      intro c x hc; cases c
      ·cases hc
      ·exact hc
     cases bif_some hf
     intro u hu
     simp only [List.mem_singleton] at hu
     subst hu
     exact ⟨ob,hid⟩
    ·cases hf
   ·cases hf
  ·cases hf
 ·unfold wCut at hf
  split at hf
  ·split at hf
   ·rename_i ob hid
    have bif_some:∀ {c:Bool} {x:Option Wr},(bif c then x else none)=some r→x=some r:=by
     intro c x hc; cases c
     ·cases hc
     ·exact hc
    cases bif_some hf
    intro u hu
    simp only [List.mem_singleton] at hu
    subst hu
    exact ⟨ob,hid⟩
   ·cases hf
  ·cases hf
 ·rename_i c
  split at hf
  ·unfold Qh4 at hf
   split at hf
   ·split at hf
    ·rename_i e ob sz' new o2 he hid hro
     split at hf
     ·have bif_some:∀ {c:Bool} {x:Option Wr},(bif c then x else none)=some r→x=some r:=by
       intro c x hc; cases c
       ·cases hc
       ·exact hc
      cases bif_some hf
      intro u hu
      simp only [List.mem_singleton] at hu
      subst hu
      exact ⟨ob,hid⟩
     ·cases hf
    ·cases hf
   ·cases hf
  ·unfold wCall at hf
   split at hf
   ·split at hf
    ·split at hf
     ·rename_i obs0 obs1 hp0 hp1
      have bif_some:∀ {c:Bool} {x:Option Wr},(bif c then x else none)=some r→x=some r:=by
       intro c x hc; cases c
       ·cases hc
       ·exact hc
      cases bif_some hf
      obtain ⟨-,hpk⟩:=Qf2 hp0
      have hmem:∀ i,i∈(‹List Nat›:List Nat)→True:=fun _ _=>trivial
      intro u hu
      simp only [List.mem_append] at hu
      have hin:∀ i,i∈_→∃ ob,h i=some ob:=fun i hi=>by
       obtain ⟨j,hj⟩:=List.mem_iff_getElem?.1 hi
       obtain ⟨ob,-,g⟩:=hpk j i hj
       exact ⟨ob,g⟩
      rcases hu with hu|hu
      ·refine hin _ ?_
       have key:∀ {m:Nat→Option Nat} {is:List Nat} {os:List Ob},u∈boxU m is os→u.1∈is:=by
        intro m is
        induction is with
        | nil=>intro os h; cases h
        | cons x is ih =>
         intro os h
         cases os with
         | nil=>cases h
         | cons y os =>
          simp only [boxU,List.mem_cons] at h
          rcases h with rfl|h
          ·simp
          ·exact List.mem_cons_of_mem _ (ih h)
       exact List.mem_of_mem_take (key hu)
      ·unfold deadU at hu
       obtain ⟨i,hi,rfl⟩:=List.mem_map.1 hu
       exact hin _ (List.mem_of_mem_drop hi)
     ·cases hf
    ·cases hf
   ·cases hf
 ·cases hf
end
end Go.Proofs.YtpkkaboonnedfaaDoor
namespace Go.Proofs.YtpkkaboonnedfaaDoor
set_option linter.unusedSimpArgs false
set_option linter.unusedVariables false
set_option linter.unusedSectionVars false
open Go.RowKit
section
variable {P : Program} {Γ : Gam} {φ φ' : Pl} {M M' : Nat → Prop} {h : Nat → Option Ob} {w w' : World} {a : Act} {hs : List Hint} {o : Oper} {H : List (Option Ob)} {L : List (Nat × AV)}
theorem QjS {r:Mes} (hW:Wd Γ φ M (hl H) w) (hF:∀ t,AR w M φ (look L t) (a.tmps.getD t undef)) (hφ:∀ id,H.length≤id→φ id=none) (hf:mop P H (look L) o.op hs=some r) (hob:allP r.obs) {K:Act→World→Prop}
  (hK:∀ v w',Md Γ φ M w r v w'→K (a.put o.dst v) w'):o.wp P a w K NQ:=by
 cases ho:o.op with
 | store t x y =>
  obtain ⟨w',hrun,hm⟩:=Qin hW hF hφ ho hf hob
  unfold Oper.wp
  rw [hrun]
  exact hK undef w' hm
 | call c =>
  have hf':=hf
  rw [ho] at hf'
  simp only [mop] at hf'
  split at hf'
  ·rename_i hc
   obtain ⟨v,w',hrun,hm⟩:=QgH hW hF hφ ho hc hf hob
   unfold Oper.wp
   rw [hrun]
   exact hK v w' hm
  ·cases hf'
 | _=>rw [ho] at hf; simp only [mop] at hf; cases hf

def SimC (Γ:Gam) (σ:SS) (tm:Array Value) (w:World) (φ:Pl) (M:Nat→Prop):Prop :=
 (∀ t,AR w M φ (look σ.L t) (tm.getD t undef))∧Wd Γ φ M (hl σ.H) w∧(∀ id,σ.H.length≤id→φ id=none)
section
variable {f : Lf → Lf × List Prop} (hf : ∀ l v, LR w M φ l v → allP (f l).2 → LR w M' φ (f l).1 v)
include hf
theorem Qkb:∀ {ls:List Lf} {vs:List Value},Rs (LR w M φ) ls vs→allP (gmLs f ls).2→Rs (LR w M' φ) (gmLs f ls).1 vs
 | [],[],_,_=>trivial
 | l :: ls,v :: vs,h,ho=>by
  simp only [gmLs,Qag] at ho ⊢
  exact ⟨hf l v h.1 ho.1,Qkb h.2 ho.2⟩
 | [],_ :: _,h,_=>h.elim
 | _ :: _,[],h,_=>h.elim
theorem Qli {c:Cm} {v:Value} (h:CR w M φ c v) (ho:allP (gmC f c).2):CR w M' φ (gmC f c).1 v:=by
 cases c with
 | one l=>exact hf l v h ho
 | agg ls=>obtain ⟨vs,e,hr⟩:=h; exact ⟨vs,e,Qkb hf hr ho⟩
theorem Qka:∀ {ls:List Cm} {vs:List Value},Rs (CR w M φ) ls vs→allP (gmCs f ls).2→Rs (CR w M' φ) (gmCs f ls).1 vs
 | [],[],_,_=>trivial
 | l :: ls,v :: vs,h,ho=>by
  simp only [gmCs,Qag] at ho ⊢
  exact ⟨Qli hf h.1 ho.1,Qka h.2 ho.2⟩
 | [],_ :: _,h,_=>h.elim
 | _ :: _,[],h,_=>h.elim
theorem Qlh (he:Ex w M φ w M' φ) {c:AV} {v:Value} (h:AR w M φ c v) (ho:allP (gmAV f c).2):AR w M' φ (gmAV f c).1 v:=by
 cases c with
 | cm c=>exact Qli hf h ho
 | tup cs=>obtain ⟨vs,e,hr⟩:=h; exact ⟨vs,e,Qka hf hr ho⟩
 | gd p c=>exact AR.mono he (c:=.gd p c) h
 | unk=>trivial
 | boo=>exact h
omit hf in
theorem Qkd (f:Lf→Lf×List Prop) (t:Nat):∀ L:List (Nat×AV),look (Qdf f L).1 t=(gmAV f (look L t)).1∧(allP (Qdf f L).2→allP (gmAV f (look L t)).2)
 | []=>⟨rfl,fun _=>trivial⟩
 | (k,v) :: L=>by
  obtain ⟨h1,h2⟩:=Qkd f t L
  simp only [Qdf,look,Qag]
  cases hk:(k == t) with
  | true=>exact ⟨rfl,fun h=>h.1⟩
  | false=>exact ⟨h1,fun h=>h2 h.2⟩
theorem QfT (he:Ex w M φ w M' φ) {tm:Array Value} {L:List (Nat×AV)} (h:∀ t,AR w M φ (look L t) (tm.getD t undef)) (ho:allP (Qdf f L).2):∀ t,AR w M' φ (look (Qdf f L).1 t) (tm.getD t undef):=fun t=>by
 obtain ⟨h1,h2⟩:=Qkd f t L
 rw [h1]
 exact Qlh hf he (h t) (h2 ho)
omit hf in
theorem QiK:∀ {ls:List Lf},(gmLs f ls).1.length=ls.length
 | []=>rfl
 | l :: ls=>by simp [gmLs,QiK (ls:=ls)]
omit hf in
theorem QiJ:∀ {ls:List Lf} {j:Nat} {l':Lf},(gmLs f ls).1[j]?=some l'→∃ l,ls[j]?=some l∧l'=(f l).1∧(allP (gmLs f ls).2→allP (f l).2)
 | [],_,_,h=>by simp [gmLs] at h
 | l :: ls,0,l',h=>by simp [gmLs] at h; exact ⟨l,rfl,h.symm,fun ho=>by simp only [gmLs,Qag] at ho; exact ho.1⟩
 | l :: ls,j+1,l',h=>by
  obtain ⟨x,h1,h2,h3⟩:=QiJ (ls:=ls) (j:=j) (l':=l') (by simpa [gmLs] using h)
  exact ⟨x,by simpa using h1,h2,fun ho=>h3 (by simp only [gmLs,Qag] at ho; exact ho.2)⟩
omit hf in
theorem QgT:∀ {rs:List (List Lf)} {i:Nat} {c':List Lf},(Qfc f rs).1[i]?=some c'→∃ c,rs[i]?=some c∧c'=(gmLs f c).1∧(allP (Qfc f rs).2→allP (gmLs f c).2)
 | [],_,_,h=>by simp [Qfc] at h
 | r :: rs,0,c',h=>by simp [Qfc] at h; exact ⟨r,rfl,h.symm,fun ho=>by simp only [Qfc,Qag] at ho; exact ho.1⟩
 | r :: rs,i+1,c',h=>by
  obtain ⟨x,h1,h2,h3⟩:=QgT (rs:=rs) (i:=i) (c':=c') (by simpa [Qfc] using h)
  exact ⟨x,by simpa using h1,h2,fun ho=>h3 (by simp only [Qfc,Qag] at ho; exact ho.2)⟩
omit hf in
theorem QgU:∀ {rs:List (List Lf)},(Qfc f rs).1.length=rs.length
 | []=>rfl
 | r :: rs=>by simp [Qfc,QgU (rs:=rs)]
omit hf in
theorem hl_gm:∀ {H:List (Option Ob)} {id:Nat},hl (gmH f H).1 id=(gmOb f (hl H id)).1∧(allP (gmH f H).2→allP (gmOb f (hl H id)).2)
 | [],id=>⟨by simp [gmH,hl,gmOb],fun _=>by simp [hl,gmOb,allP]⟩
 | x :: H,0=>by
  simp only [gmH,Qag]
  exact ⟨by simp [hl],fun h=>by simpa [hl] using h.1⟩
 | x :: H,id+1=>by
  obtain ⟨h1,h2⟩:=hl_gm (H:=H) (id:=id)
  simp only [gmH,Qag]
  exact ⟨by simpa [hl] using h1,fun h=>by simpa [hl] using h2 h.2⟩
omit hf in
theorem QhB:∀ {H:List (Option Ob)},(gmH f H).1.length=H.length
 | []=>rfl
 | x :: H=>by simp [gmH,QhB (H:=H)]
theorem Qlj (he:Ex w M φ w M' φ) {id:Nat} {ob ob':Ob} (hO:OR w M φ id ob) (hg:(gmOb f (some ob)).1=some ob') (ho:allP (gmOb f (some ob)).2):OR w M' φ id ob'∧ob'.box=ob.box:=by
 unfold gmOb at hg ho
 rcases hO with hO|⟨hb,rs,b,es,clk,h1,h2⟩
 rotate_left
 ·have hm:isMap ob=true:=by unfold isMap; rw [h1]; rfl
  simp only [hb,hm,Bool.not_true,Bool.and_false,cond_false] at hg; cases hg
  exact ⟨OR.mono he (.inr ⟨hb,rs,b,es,clk,h1,h2⟩) fun _ _ _=>rfl,rfl⟩
 cases hb:ob.box with
 | false=>simp only [hb,Bool.false_and,cond_false] at hg; cases hg; exact ⟨OR.mono he (.inl hO) fun _ _ _=>rfl,hb⟩
 | true =>
  have hm:=hO.noMap hb
  simp only [hb,hm,Bool.not_false,Bool.and_true,cond_true] at hg ho; cases hg
  refine ⟨?_,rfl⟩
  obtain ⟨h0,h1⟩:=hO
  refine .inl ⟨h0,?_⟩
  cases hφ:φ id with
  | none=>rw [hφ] at h1; exact h1.elim
  | some p =>
   rw [hφ] at h1
   cases p with
   | none=>rw [hb] at h1; cases h1.2
   | some bc =>
    obtain ⟨b,C⟩:=bc
    obtain ⟨cur,g1,g2,g3,g4,g5,g6⟩:=h1
    refine ⟨cur,g1,g2,by rw [QgU]; exact g3,g4,fun _=>g5 hb,fun i c' hc=>?_⟩
    obtain ⟨c,hc1,rfl,hc2⟩:=QgT hc
    refine ⟨by rw [QiK]; exact (g6 i c hc1).1,fun j l' hj=>?_⟩
    obtain ⟨l,hl1,rfl,hl2⟩:=QiJ hj
    obtain ⟨v,hv,hr⟩:=(g6 i c hc1).2 j l hl1
    rw [if_pos hb] at hr
    exact ⟨v,hv,by show (if true=true then _ else _); rw [if_pos rfl]; exact hf l v hr (hl2 (hc2 ho))⟩
theorem gmWd (he:Ex w M φ w M' φ) (hW:Wd Γ φ M (hl H) w) (ho:allP (gmH f H).2) (hm:∀ b,M' b→M b∨(b<w.heap.size∧(Γ.own0 b∨Γ.w0.heap.size≤b)∧∀ id ob C,hl H id=some ob→φ id≠some (some (b,C)))):Wd Γ φ M' (hl (gmH f H).1) w:=by
 have back:∀ id ob',hl (gmH f H).1 id=some ob'→∃ ob,hl H id=some ob∧OR w M' φ id ob':=fun id ob' e=>by
  obtain ⟨h1,h2⟩:=hl_gm (f:=f) (H:=H) (id:=id)
  rw [h1] at e
  cases hh:hl H id with
  | none=>rw [hh] at e; cases e
  | some ob =>
   rw [hh] at e h2
   exact ⟨ob,rfl,(Qlj hf he (hW.obs id ob hh) e (h2 ho)).1⟩
 refine ⟨fun id ob' e=>(back id ob' e).choose_spec.2,fun i j oi oj b Ci Cj hi hj=>hW.inj i j _ _ b Ci Cj (back i oi hi).choose_spec.1 (back j oj hj).choose_spec.1,fun b hb=>?_,fun b hb=>he.sub b (hW.m0 b hb),fun b hb=>?_,fun id ob' b C e p=>?_,hW.keep,hW.os,hW.tape,hW.output,hW.size,hW.pin,hW.tbw⟩
 ·rcases hm b hb with h|h
  ·exact hW.mlt b h
  ·exact h.1
 ·rcases hm b hb with h|h
  ·exact hW.mold b h
  ·exact .inr h.2.1
 ·obtain ⟨ob,ho1,-⟩:=back id ob' e
  have:=hW.own id ob b C ho1 p
  refine ⟨fun hb=>?_,this.2⟩
  rcases hm b hb with h|h
  ·exact this.1 h
  ·exact h.2.2 id ob C ho1 p
end
theorem QlD {M2:Nat→Prop} {id sz len:Nat} {ob:Ob} {v:Value} (hO:OR w M φ id ob) (hbx:ob.box=false) (hsz:ob.sz=sz) (hlen:ob.rows.length=len) (hv:LR0 w M φ (.os id sz 0 len) v) (hM:∀ b,M b→M2 b) (hM2:∀ b C,φ id=some (some (b,C))→M2 b) :
  IR w M2 (.sl false sz ob.rows) v:=by
 rcases hv with ⟨b,C,hφ,rfl,hle⟩|⟨hφ,_,rfl,A,rfl⟩
 ·obtain ⟨h0,h1⟩:=hO.oc (.inl hbx)
  rw [hφ] at h1
  obtain ⟨cur,g1,g2,g3,g4,g5,g6⟩:=h1
  have hcell:∀ (i:Nat) (c:List Lf) (j:Nat) (l:Lf),ob.rows[i]?=some c→c[j]?=some l→w.cell? ⟨b,0*sz+i*sz+j,none⟩=some ((cur[i*sz+j]?).getD undef)∧IR w M2 l ((cur[i*sz+j]?).getD undef):=fun i c j l hc hj=>by
   obtain ⟨u,hu,hr⟩:=(g6 i c hc).2 j l hj
   rw [hbx] at hr
   rw [hsz] at hu
   refine ⟨?_,by rw [hu]; exact IR.mono (fun _ _=>rfl) hM (by simpa using hr)⟩
   simp only [World.cell?,g1,Nat.zero_mul,Nat.zero_add]
   simp [hu]
  have key:IR w M2 (.sl false sz ob.rows) (.slice (some ⟨b,0*sz,none⟩) ob.rows.length (C-0)) :=
   IR.sl false sz ob.rows b (0*sz) (C-0) (fun i j=>(cur[i*sz+j]?).getD undef) (hM2 b C hφ) (by omega) (fun h=>by cases h) (fun i c hc=>by rw [(g6 i c hc).1,hsz]) (fun i c j l hc hj=>(hcell i c j l hc hj).1) (fun i c j l hc hj=>(hcell i c j l hc hj).2)
  rw [hlen] at key
  exact key
 ·have hr0:ob.rows=[]:=List.eq_nil_of_length_eq_zero hlen
  rw [hr0]
  exact IR.sl0 false sz A 0 fun h=>by cases h
theorem Qk2 {sz:Nat} {l l':Lf} {v:Value} (h:wkL sz l=some l') (hv:LR w M φ l v):LR w M φ l' v:=by
 unfold wkL at h
 split at h
 ·cases h
  have hv':IR w M .nils v:=hv
  cases hv'
  exact IR.lr (IR.sl0 false sz none 0 fun h=>by cases h)
 ·rename_i cl s rows
  cases h
  have hv':IR w M (.sl cl s rows) v:=hv
  cases hv' with
  | sl0 _ _ A cap _=>exact IR.lr (IR.sl0 false s A cap fun h=>by cases h)
  | sl _ _ _ b k cap vs hm hl hcl hls hc hr=>exact IR.lr (IR.sl false s rows b k cap vs hm hl (fun h=>by cases h) hls hc hr)
 ·cases h
theorem Rs.set {R:Lf→Value→Prop}:∀ {ls:List Lf} {vs:List Value} {k:Nat} {l':Lf},Rs R ls vs→(∀ v,vs[k]?=some v→R l' v)→Rs R (ls.set k l') vs
 | [],[],_,_,_,_=>trivial
 | l :: ls,v :: vs,0,l',h,hk=>⟨hk v rfl,h.2⟩
 | l :: ls,v :: vs,k+1,l',h,hk=>⟨h.1,Rs.set h.2 fun u hu=>hk u (by simpa using hu)⟩
 | [],_ :: _,_,_,h,_=>h.elim
 | _ :: _,[],_,_,h,_=>h.elim
theorem QlF {k sz:Nat} {c c':Cm} {v:Value} (h:wkC k sz c=some c') (hv:CR w M φ c v):CR w M φ c' v:=by
 cases c with
 | one l =>
  simp only [wkC] at h
  cases hk:(k == 0) with
  | false=>rw [hk] at h; cases h
  | true =>
   rw [hk] at h
   simp only [cond_true] at h
   cases hl:wkL sz l with
   | none=>rw [hl] at h; cases h
   | some l'=>rw [hl] at h; cases h; exact Qk2 hl hv
 | agg ls =>
  simp only [wkC] at h
  split at h
  ·rename_i l hk
   cases hl:wkL sz l with
   | none=>rw [hl] at h; cases h
   | some l' =>
    rw [hl] at h; cases h
    obtain ⟨vs,e,hr⟩:=hv
    refine ⟨vs,e,Rs.set hr fun u hu=>?_⟩
    obtain ⟨u',hu',hr'⟩:=hr.get hk
    rw [hu] at hu'; cases hu'
    exact Qk2 hl hr'
  ·cases h
theorem Qiw {id k:Nat} {ob:Ob} {cells:List Lf} {l l':Lf} (hW:Wd Γ φ M (hl H) w) (hid:hl H id=some ob) (hbx:ob.box=true) (hrows:ob.rows=[cells]) (hk:cells[k]?=some l) (hl':∀ v,LR w M φ l v→LR w M φ l' v) :
  Wd Γ φ M (hl (H.set id (some { ob with rows:=[cells.set k l'] }))) w:=by
 have hO:=hW.obs id ob hid
 obtain ⟨h0,h1⟩:=hO.oc (.inr ⟨_,hrows⟩)
 cases hφ:φ id with
 | none=>rw [hφ] at h1; exact h1.elim
 | some p =>
  cases p with
  | none=>rw [hφ,hbx] at h1; cases h1.2
  | some bc =>
   obtain ⟨b,C⟩:=bc
   rw [hφ] at h1
   obtain ⟨cur,g1,g2,g3,g4,g5,g6⟩:=h1
   rw [QjK (Qby hid)]
   refine hW.turn hid hφ (fun _ _=>rfl) rfl rfl rfl rfl (.inl ⟨h0,?_⟩)
   rw [hφ]
   refine ⟨cur,g1,g2,by rw [hrows] at g3; simpa using g3,g4,g5,fun i c hc=>?_⟩
   cases i with
   | succ i=>simp at hc
   | zero =>
    obtain rfl:=Option.some.inj (show some _=some c from hc)
    have h6:=g6 0 cells (by rw [hrows]; rfl)
    refine ⟨by rw [List.length_set]; exact h6.1,fun j x hj=>?_⟩
    by_cases hjk:j=k
    ·subst hjk
     have hlt:=(List.getElem?_eq_some_iff.1 hk).1
     rw [List.getElem?_set_self hlt] at hj
     cases hj
     obtain ⟨v,hv,hr⟩:=h6.2 j l hk
     rw [if_pos hbx] at hr
     exact ⟨v,hv,by rw [if_pos hbx]; exact hl' v hr⟩
    ·rw [List.getElem?_set_ne (Ne.symm hjk)] at hj
     exact h6.2 j x hj
theorem QhJ {t:Nat} {v:AV} {L:List (Nat×AV)} {tm:Array Value} (h:∀ t,AR w M φ (look L t) (tm.getD t undef)) (hv:AR w M φ v (tm.getD t undef)):∀ u,AR w M φ (look ((t,v) :: L) u) (tm.getD u undef):=fun u=>by
 simp only [look]
 cases hk:(t == u) with
 | true=>simp only [beq_iff_eq] at hk; subst hk; exact hv
 | false=>exact h u
theorem QbO {tm:Array Value}:∀ {hs hs':List Hint} {σ σ':SS} {ob:List Prop} {φ:Pl} {M:Nat→Prop},ghost hs σ=some (σ',ob,hs')→allP ob→SimC Γ σ tm w φ M→σ'.N=σ.N∧∃ φ' M',SimC Γ σ' tm w φ' M'
 | [],_,σ,_,_,φ,M,hg,_,hS=>by simp only [ghost] at hg; cases hg; exact ⟨rfl,φ,M,hS⟩
 | x :: hs,hs',σ,σ',ob,φ,M,hg,ho,hS=>by
  obtain ⟨hF,hW,hφ⟩:=hS
  cases x with
  | wait n =>
   cases n with
   | zero=>simp only [ghost] at hg; exact QbO hg ho ⟨hF,hW,hφ⟩
   | succ n=>simp only [ghost] at hg; cases hg; exact ⟨rfl,φ,M,hF,hW,hφ⟩
  | frz id =>
   simp only [ghost] at hg
   split at hg
   ·rename_i o1 hid
    cases hbx:o1.box with
    | true=>rw [hbx] at hg; cases hg
    | false =>
     rw [hbx] at hg
     simp only [cond_false] at hg
     split at hg
     ·rename_i σ2 o2 hs2 hg2
      cases hg
      simp only [Qag] at ho
      have hO:=hW.obs id o1 hid
      have hM2:∀ b,M b→(fun b=>M b∨∃ C,φ id=some (some (b,C))) b:=fun _ h=>.inl h
      have he:Ex w M φ w (fun b=>M b∨∃ C,φ id=some (some (b,C))) φ:=⟨fun _ _=>rfl,hM2,fun _ _ h=>h⟩
      have hf:∀ l v,LR w M φ l v→allP (frzF id o1.sz o1.rows l).2→LR w (fun b=>M b∨∃ C,φ id=some (some (b,C))) φ (frzF id o1.sz o1.rows l).1 v:=fun l v hv hp=>by
       unfold frzF at hp ⊢
       split
       ·rename_i i s off len
        cases hc:(i == id&&s == o1.sz&&off == 0) with
        | false=>exact hv.mono he
        | true =>
         simp only [hc,cond_true] at hp
         simp only [Bool.and_eq_true,beq_iff_eq] at hc
         obtain ⟨⟨rfl,rfl⟩,rfl⟩:=hc
         exact IR.lr (QlD hO hbx rfl hp.1 hv hM2 fun b C h=>.inr ⟨C,h⟩)
       ·exact hv.mono he
      have hW0:Wd Γ φ M (hl (σ.H.set id none)) w:=hW.less fun k ob' hk=>by
       by_cases hki:k=id
       ·subst hki; rw [QcR (Qby hid)] at hk; cases hk
       ·rw [Qej hki] at hk; exact hk
      have hW1:=gmWd hf he hW0 ho.1.2 fun b hb=>by
       rcases hb with h|⟨C,h⟩
       ·exact .inl h
       ·obtain ⟨q1,q2,q3⟩:=hW.own id o1 b C hid h
        refine .inr ⟨q2,q3,fun k ob' C' hk hp=>?_⟩
        by_cases hki:k=id
        ·subst hki; rw [QcR (Qby hid)] at hk; cases hk
        ·rw [Qej hki] at hk; exact hki (hW.inj k id ob' o1 b C' C hk hid hp h)
      obtain ⟨hN,φ',M',hS'⟩:=QbO hg2 ho.2 ⟨QfT hf he hF ho.1.1,hW1,fun k hk=>hφ k (by simpa [QhB] using hk)⟩
      exact ⟨hN,φ',M',hS'⟩
     ·cases hg
   ·cases hg
  | frzB id =>
   simp only [ghost] at hg
   split at hg
   ·rename_i o1 hid
    split at hg
    ·rename_i cells hbx hrows
     cases hi:cells.all immL with
     | false=>rw [hi] at hg; cases hg
     | true =>
      rw [hi] at hg
      simp only [cond_true] at hg
      split at hg
      ·rename_i σ2 o2 hs2 hg2
       cases hg
       simp only [Qag] at ho
       have hO:=hW.obs id o1 hid
       have hM2:∀ b,M b→(fun b=>M b∨∃ C,φ id=some (some (b,C))) b:=fun _ h=>.inl h
       have he:Ex w M φ w (fun b=>M b∨∃ C,φ id=some (some (b,C))) φ:=⟨fun _ _=>rfl,hM2,fun _ _ h=>h⟩
       have hf:∀ l v,LR w M φ l v→allP (frzBF id o1.sz cells l).2→LR w (fun b=>M b∨∃ C,φ id=some (some (b,C))) φ (frzBF id o1.sz cells l).1 v:=fun l v hv hp=>by
        unfold frzBF
        split
        ·rename_i i s row off
         cases hc:(i == id&&row == 0) with
         | false=>exact hv.mono he
         | true =>
          simp only [Bool.and_eq_true,beq_iff_eq] at hc
          obtain ⟨rfl,rfl⟩:=hc
          obtain ⟨b,C,hφb,rfl⟩:=(hv:LR0 w M φ (.op i s 0 off) v)
          have hcell:∀ (j:Nat) (l:Lf),cells[j]?=some l→∃ u,w.cell? ⟨b,0+j,none⟩=some u∧IR w M l u:=fun j l hj=>by
           obtain ⟨u,hu,hr⟩:=hO.cell' (i:=0) (.inr ⟨_,hrows⟩) hφb (by rw [hrows]; rfl) j l hj
           exact ⟨u,by rw [Nat.zero_mul] at hu; exact hu,LR.imm (List.all_eq_true.1 hi l (List.mem_of_getElem? hj)) hr⟩
          have key:IR w (fun b=>M b∨∃ C,φ i=some (some (b,C))) (.ip cells off) (.pointer (some ⟨b,0+off,none⟩)):=by
           refine IR.ip cells off b 0 (fun i=>(w.cell? ⟨b,0+i,none⟩).getD undef) (.inr ⟨C,hφb⟩) (fun i l hl=>?_) (fun i l hl=>?_)
           ·obtain ⟨u,hu,hr⟩:=hcell i l hl; simp only [hu,Option.getD_some]
           ·obtain ⟨u,hu,hr⟩:=hcell i l hl; simp only [hu,Option.getD_some]; exact hr.mono (fun _ _=>rfl) hM2
          rw [show 0*s+off=0+off by rw [Nat.zero_mul]]
          exact IR.lr key
        ·exact hv.mono he
       have hW0:Wd Γ φ M (hl (σ.H.set id none)) w:=hW.less fun k ob' hk=>by
        by_cases hki:k=id
        ·subst hki; rw [QcR (Qby hid)] at hk; cases hk
        ·rw [Qej hki] at hk; exact hk
       have hW1:=gmWd hf he hW0 ho.1.2 fun b hb=>by
        rcases hb with h|⟨C,h⟩
        ·exact .inl h
        ·obtain ⟨q1,q2,q3⟩:=hW.own id o1 b C hid h
         refine .inr ⟨q2,q3,fun k ob' C' hk hp=>?_⟩
         by_cases hki:k=id
         ·subst hki; rw [QcR (Qby hid)] at hk; cases hk
         ·rw [Qej hki] at hk; exact hki (hW.inj k id ob' o1 b C' C hk hid hp h)
       obtain ⟨hN,φ',M',hS'⟩:=QbO hg2 ho.2 ⟨QfT hf he hF ho.1.1,hW1,fun k hk=>hφ k (by simpa [QhB] using hk)⟩
       exact ⟨hN,φ',M',hS'⟩
      ·cases hg
    ·cases hg
   ·cases hg
  | relen id n =>
   simp only [ghost] at hg
   split at hg
   ·rename_i σ2 o2 hs2 hg2
    cases hg
    simp only [Qag] at ho
    have hf:∀ l v,LR w M φ l v→allP (relF id n l).2→LR w M φ (relF id n l).1 v:=fun l v hv hp=>by
     unfold relF at hp ⊢
     split
     ·rename_i i s off len
      cases hc:(i == id&&off == 0) with
      | false=>exact hv
      | true=>simp only [hc,cond_true] at hp; obtain ⟨rfl,-⟩:=hp; exact hv
     ·exact hv
    obtain ⟨hN,φ',M',hS'⟩:=QbO hg2 ho.2 ⟨QfT hf (Ex.refl _ _ _) hF ho.1.1,gmWd hf (Ex.refl _ _ _) hW ho.1.2 fun b hb=>.inl hb,fun k hk=>hφ k (by simpa [QhB] using hk)⟩
    exact ⟨hN,φ',M',hS'⟩
   ·cases hg
  | nilS t k sz =>
   simp only [ghost] at hg
   split at hg
   ·rename_i c hc
    split at hg
    ·rename_i c' hwk
     have hv:=hF t
     rw [hc] at hv
     obtain ⟨hN,φ',M',hS'⟩:=QbO hg ho ⟨QhJ hF (QlF hwk hv:CR w M φ c' _),hW,hφ⟩
     exact ⟨hN,φ',M',hS'⟩
    ·cases hg
   ·cases hg
  | nilB id k sz =>
   simp only [ghost] at hg
   split at hg
   ·rename_i o1 hid
    split at hg
    ·rename_i cells hbx hrows
     split at hg
     ·rename_i l hk
      split at hg
      ·rename_i l' hwk
       obtain ⟨hN,φ',M',hS'⟩:=QbO hg ho ⟨hF,Qiw hW hid hbx hrows hk fun v hv=>Qk2 hwk hv,fun k hk=>hφ k (by simpa using hk)⟩
       exact ⟨hN,φ',M',hS'⟩
      ·cases hg
     ·cases hg
    ·cases hg
   ·cases hg
  | adopt t sz e =>
   simp only [ghost] at hg
   split at hg
   ·rename_i hc
    cases hz:(sz == 0) with
    | true=>rw [hz] at hg; cases hg
    | false =>
     rw [hz] at hg
     have hv:=hF t
     rw [hc] at hv
     have hn':φ σ.H.length=none:=hφ _ (Nat.le_refl _)
     have hh':hl σ.H σ.H.length=none:=by unfold hl; rw [List.getElem?_eq_none (Nat.le_refl _)]; rfl
     have he:Ex w M φ w M (upP φ σ.H.length none):=⟨fun _ _=>rfl,fun _ h=>h,Qew _ hn'⟩
     have hv':IR w M .nils (tm.getD t undef):=hv
     have hvn:∃ A,tm.getD t undef=.slice A 0 0:=by
      generalize tm.getD t undef=u at hv'
      cases hv'; exact ⟨none,rfl⟩
     obtain ⟨hN,φ',M',hS'⟩:=QbO hg ho ⟨QhJ (fun u=>AR.mono he (hF u)) (.inr ⟨QaS _ _ _,rfl,rfl,hvn⟩:LR0 w M (upP φ σ.H.length none) (.os σ.H.length sz 0 0) _),
      (by rw [QiN]; exact hW.newNil (⟨false,sz,e,[]⟩:Ob) hn' hh' rfl rfl (by simp only [beq_eq_false_iff_ne] at hz; show 0<sz; omega)),fun k hk=>by
       simp only [List.length_append,List.length_singleton] at hk
       rw [QdE _ (by omega)]; exact hφ k (by omega)⟩
     exact ⟨hN,φ',M',hS'⟩
   ·cases hg
  | adoptB id k sz e =>
   simp only [ghost] at hg
   split at hg
   ·rename_i o1 hid
    split at hg
    ·rename_i cells hbx hrows
     split at hg
     ·rename_i hk
      cases hz:(sz == 0) with
      | true=>rw [hz] at hg; cases hg
      | false =>
       rw [hz] at hg
       simp only [cond_false] at hg
       have hn':φ σ.H.length=none:=hφ _ (Nat.le_refl _)
       have hh':hl σ.H σ.H.length=none:=by unfold hl; rw [List.getElem?_eq_none (Nat.le_refl _)]; rfl
       have he:Ex w M φ w M (upP φ σ.H.length none):=⟨fun _ _=>rfl,fun _ h=>h,Qew _ hn'⟩
       have hW1:Wd Γ (upP φ σ.H.length none) M (hl (σ.H++[some ⟨false,sz,e,[]⟩])) w:=by
        rw [QiN]; exact hW.newNil (⟨false,sz,e,[]⟩:Ob) hn' hh' rfl rfl (by simp only [beq_eq_false_iff_ne] at hz; show 0<sz; omega)
       have hlt:=Qby hid
       have hid1:hl (σ.H++[some ⟨false,sz,e,[]⟩]) id=some o1:=by rw [QiN]; dsimp only; rw [if_neg (by omega)]; exact hid
       have hW2:=Qiw (k:=k) (l:=.nils) (l':=.os σ.H.length sz 0 0) hW1 hid1 hbx hrows hk fun v hv=>by
        have hv':IR w M .nils v:=hv
        cases hv'
        exact .inr ⟨QaS _ _ _,rfl,rfl,none,rfl⟩
       rw [List.set_append_left _ _ hlt] at hW2
       obtain ⟨hN,φ',M',hS'⟩:=QbO hg ho ⟨fun u=>AR.mono he (hF u),hW2,fun k hk=>by
        simp only [List.length_append,List.length_set,List.length_singleton] at hk
        rw [QdE _ (by omega)]; exact hφ k (by omega)⟩
       exact ⟨hN,φ',M',hS'⟩
     ·cases hg
    ·cases hg
   ·cases hg
  | bit b=>simp only [ghost] at hg; cases hg; exact ⟨rfl,φ,M,hF,hW,hφ⟩
  | spec=>simp only [ghost] at hg; cases hg; exact ⟨rfl,φ,M,hF,hW,hφ⟩
  | skip=>simp only [ghost] at hg; cases hg; exact ⟨rfl,φ,M,hF,hW,hφ⟩
  | cells c=>simp only [ghost] at hg; cases hg; exact ⟨rfl,φ,M,hF,hW,hφ⟩
  | rows c=>simp only [ghost] at hg; cases hg; exact ⟨rfl,φ,M,hF,hW,hφ⟩
  | num n=>simp only [ghost] at hg; cases hg; exact ⟨rfl,φ,M,hF,hW,hφ⟩
  | byte b=>simp only [ghost] at hg; cases hg; exact ⟨rfl,φ,M,hF,hW,hφ⟩
  | ints b=>simp only [ghost] at hg; cases hg; exact ⟨rfl,φ,M,hF,hW,hφ⟩
  | draw n cl=>simp only [ghost] at hg; cases hg; exact ⟨rfl,φ,M,hF,hW,hφ⟩
  | call i r out=>simp only [ghost] at hg; cases hg; exact ⟨rfl,φ,M,hF,hW,hφ⟩
end
end Go.Proofs.YtpkkaboonnedfaaDoor
namespace Go.Proofs.YtpkkaboonnedfaaDoor
set_option linter.unusedSimpArgs false
set_option linter.unusedVariables false
set_option linter.unusedSectionVars false
open Go.RowKit
section
variable {P : Program} {Γ : Gam} {φ φ' : Pl} {M M' : Nat → Prop} {w w' : World} {a : Act} {hs : List Hint} {o : Oper} {ops : Array Oper} {Q : Exit → Act → World → Prop}
theorem QeK (a:Act) (d:Option Nat) (v:Value):(a.put d v).tmps.size=a.tmps.size:=by
 cases d <;> simp [Act.put]
theorem QcV (a:Act) (d:Option Nat) (v:Value):(a.put d v).defers=a.defers:=by
 cases d <;> rfl
theorem Qjf {d t:Nat} {v:Value} (hd:d<a.tmps.size):(a.put (some d) v).tmps.getD t undef=if d=t then v else a.tmps.getD t undef:=by
 simp only [Act.put,Array.getD_eq_getD_getElem?,Array.getElem?_setIfInBounds]
 by_cases h:d=t
 ·subst h; rw [if_pos rfl,if_pos rfl,if_pos hd]; rfl
 ·rw [if_neg h,if_neg h]
theorem Qgt {N:Nat} {d:Option Nat} {L:List (Nat×AV)} {v:AV} {cv:Value} (hd:dstOk N d=true) (hN:a.tmps.size=N) (hF:∀ t,AR w M φ (look L t) (a.tmps.getD t undef)) (hv:AR w M φ v cv) :
  ∀ t,AR w M φ (look (putD d v L) t) ((a.put d cv).tmps.getD t undef):=fun t=>by
 cases d with
 | none=>exact hF t
 | some d =>
  have hlt:d<a.tmps.size:=by rw [hN]; have:=Nat.le_of_ble_eq_true hd; omega
  rw [Qjf hlt]
  simp only [putD,look]
  by_cases h:d=t
  ·subst h; rw [if_pos rfl]; simp; exact hv
  ·rw [if_neg h]
   have:(d == t)=false:=by simpa using h
   rw [this]; exact hF t
theorem QiL {H:List (Option Ob)} {news:List Ob}:hl (H++news.map some)=plc (hl H) H.length news:=by
 funext id
 unfold plc hl
 by_cases h:H.length≤id∧id<H.length+news.length
 ·rw [if_pos h,List.getElem?_append_right h.1,List.getElem?_map]
  cases news[id-H.length]? <;> rfl
 ·rw [if_neg h]
  rcases Nat.lt_or_ge id H.length with h1|h1
  ·rw [List.getElem?_append_left h1]
  ·rw [List.getElem?_eq_none (by simp; omega),List.getElem?_eq_none h1]
theorem Qhh {H:List (Option Ob)} {id:Nat} (h:H.length≤id):hl H id=none:=by
 unfold hl; rw [List.getElem?_eq_none h]; rfl
theorem Qfn {H:List (Option Ob)}:∀ {upd:List (Nat×Option Ob)},(setU H upd).length=H.length
 | []=>rfl
 | (u,o) :: r=>by simp only [setU,List.length_set]; exact Qfn
theorem QiM {H:List (Option Ob)}:∀ {upd:List (Nat×Option Ob)},(∀ u∈upd,u.1<H.length)→hl (setU H upd)=updF (hl H) upd
 | [],_=>rfl
 | (u,o) :: r,h=>by
  have ih:=QiM (H:=H) (upd:=r) fun x hx=>h x (List.mem_cons_of_mem _ hx)
  have hu:u<(setU H r).length:=by rw [Qfn]; exact h (u,o) List.mem_cons_self
  funext i
  simp only [setU]
  unfold updF
  simp only [findU]
  by_cases hi:u=i
  ·subst hi; rw [QcR hu]; simp
  ·have:(u == i)=false:=by simpa using hi
   rw [Qej (fun e=>hi e.symm),ih,this]; rfl
theorem QeL {σ:SS} {s:St} (hd:dstOk σ.N o.dst=true) (hf:Qhq P o σ hs=some s) (hob:allP s.obs) (hS:Sim Γ σ a w) {K:Act→World→Prop} (hK:∀ a' w',Sim Γ s.σ a' w'→K a' w'):o.wp P a w K NQ:=by
 obtain ⟨hN,hdf,φ,M,hF,hW,hφ⟩:=hS
 unfold Qhq at hf
 split at hf
 ·rename_i r hr
  cases hf
  refine Qgw hr hob hF hW (fun _ _ h=>h) (fun id h1 h2=>⟨hφ id h1,Qhh h1⟩) fun v w' φ' M' hv hW' he hn=>hK _ _ ⟨by rw [QeK]; exact hN,by rw [QcV]; exact hdf,φ',M',?_,?_,?_⟩
  ·exact Qgt hd hN (fun t=>AR.mono he (hF t)) hv
  ·rw [QiL]; exact hW'
  ·intro id hid
   simp only [List.length_append,List.length_map] at hid
   refine Classical.byContradiction fun h=>?_
   rcases hn id h with h1|h1
   ·exact h1 (hφ id (by omega))
   ·omega
 ·split at hf
  ·rename_i r hr
   cases hf
   refine QjS hW hF hφ hr hob fun v w' hm=>?_
   obtain ⟨φ',hv,hW',he,hφ'⟩:=hm
   exact hK _ _ ⟨by rw [QeK]; exact hN,by rw [QcV]; exact hdf,φ',M,Qgt hd hN (fun t=>AR.mono he (hF t)) hv,hW',hφ'⟩
  ·split at hf
   ·rename_i r hr
    cases hf
    refine Qh5 hr hob hF hW (fun _ _ h=>h) (fun id h1 h2=>⟨hφ id h1,Qhh h1⟩) fun v w' hm=>?_
    obtain ⟨φ',M',hv,hW',he,hn⟩:=hm
    refine hK _ _ ⟨by rw [QeK]; exact hN,by rw [QcV]; exact hdf,φ',M',Qgt hd hN (fun t=>AR.mono he (hF t)) hv,?_,?_⟩
    ·have hu:∀ u∈r.upd,u.1<σ.H.length:=fun u hu=>let ⟨ob,h⟩:=Qht hr u hu; Qby h
     rw [QiL,Qfn,QiM hu]; exact hW'
    ·intro id hid
     simp only [List.length_append,List.length_map,Qfn] at hid
     refine Classical.byContradiction fun h=>?_
     rcases hn id h with h1|h1
     ·exact h1 (hφ id (by omega))
     ·omega
   ·cases hf
theorem QbZ {L:Nat→AV} {j:Nat} {b:Bool} (hF:∀ t,AR w M φ (L t) (a.tmps.getD t undef)) {v:AV} (hg:((ops[j]?).bind (·.dst)).map L=some v) (hv:∀ cv,AR w M φ v cv→cv=.bool b):yielded ops a.tmps j=some b:=by
 unfold yielded
 cases hd:(ops[j]?).bind (·.dst) with
 | none=>rw [hd] at hg; cases hg
 | some t =>
  rw [hd] at hg
  have h1:L t=v:=by simpa using hg
  have h2:=hF t
  rw [h1] at h2
  have h3:=hv _ h2
  rw [Array.getD_eq_getD_getElem?] at h3
  simp only [Option.bind_some]
  cases ht:a.tmps[t]? with
  | none=>rw [ht] at h3; cases h3
  | some u=>rw [ht] at h3; simp at h3; subst h3; rfl
theorem Qec {L:Nat→AV} {j:Nat} (hF:∀ t,AR w M φ (L t) (a.tmps.getD t undef)) {v:AV} (hg:((ops[j]?).bind (·.dst)).map L=some v) (hv:∀ cv,AR w M φ v cv→cv=undef):yielded ops a.tmps j=none:=by
 unfold yielded
 cases hd:(ops[j]?).bind (·.dst) with
 | none=>rfl
 | some t =>
  rw [hd] at hg
  have h1:L t=v:=by simpa using hg
  have h2:=hF t
  rw [h1] at h2
  have h3:=hv _ h2
  rw [Array.getD_eq_getD_getElem?] at h3
  simp only [Option.bind_some]
  cases ht:a.tmps[t]? with
  | none=>rfl
  | some u=>rw [ht] at h3; simp at h3; subst h3; rfl
theorem Qd4 {b:Bool} {cv:Value} (h:AR w M φ (.cm (.one (.bool b))) cv):cv=.bool b:=by
 have h':IR w M (.bool b) cv:=h
 cases h'; rfl
theorem Qg6 {σ:SS} {p:Prop} [Decidable p] {r:Res} {v:AV} (hd:dstOk σ.N o.dst=true) (hw:Region.wanted o (yielded ops a.tmps)=decide p) (hN:a.tmps.size=σ.N) (hdf:a.defers=[]) (hF:∀ t,AR w M φ (look σ.L t) (a.tmps.getD t undef)) (hW:Wd Γ φ M (hl σ.H) w) (hφ:∀ id,σ.H.length≤id→φ id=none)
  (hf:fop P (hl σ.H) σ.H.length p (look σ.L) o.op hs=some r) (hne:r.news.isEmpty=true) (hv:gdv p r.v=some v) (hob:allP r.obs) {K:Act→World→Prop} (hK:∀ a' w',Sim Γ ⟨σ.N,putD o.dst v σ.L,σ.H⟩ a' w'→K a' w') :
  (if Region.wanted o (yielded ops a.tmps)=true then o.wp P a w K NQ else K (a.put o.dst undef) w):=by
 rw [hw]
 have hgv:∃ c,r.v=.cm c∧v=.gd p c:=by
  unfold gdv at hv
  split at hv
  ·rename_i c hc; cases hv; exact ⟨c,hc,rfl⟩
  ·cases hv
 obtain ⟨c,hc,rfl⟩:=hgv
 have hnil:r.news=[]:=by simpa using hne
 by_cases hp:p
 ·rw [if_pos (by simpa using hp)]
  obtain ⟨v,w',φ',hrun,hr,hW',hpl,hn,hb⟩:=QfH (φ:=φ) (M:=M) (hD:=hl σ.H) hf hob hp hF hW (fun _ _ h=>h) (fun id h1 h2=>⟨hφ id h1,Qhh h1⟩)
  unfold Oper.wp
  rw [hrun]
  have he:Ex w M φ w' M φ':=⟨hb,fun _ h=>h,hpl⟩
  rw [hc] at hr
  rw [hnil,Qd5] at hW'
  refine hK _ _ ⟨by rw [QeK]; exact hN,by rw [QcV]; exact hdf,φ',M,Qgt hd hN (fun t=>AR.mono he (hF t)) ⟨fun _=>hr,fun h=>absurd hp h⟩,hW',fun id hid=>?_⟩
  refine Classical.byContradiction fun h=>?_
  rcases hn id h with h1|h1
  ·exact h1 (hφ id hid)
  ·rw [hnil] at h1; simp at h1; omega
 ·rw [if_neg (by simpa using hp)]
  exact hK _ _ ⟨by rw [QeK]; exact hN,by rw [QcV]; exact hdf,φ,M,Qgt hd hN hF ⟨fun h=>absurd h hp,fun _=>rfl⟩,hW,hφ⟩
theorem Qf8 {σ:SS} (hd:dstOk σ.N o.dst=true) (hS:Sim Γ σ a w):Sim Γ ⟨σ.N,putD o.dst und σ.L,σ.H⟩ (a.put o.dst undef) w:=by
 obtain ⟨hN,hdf,φ,M,hF,hW,hφ⟩:=hS
 exact ⟨by rw [QeK]; exact hN,by rw [QcV]; exact hdf,φ,M,Qgt hd hN hF ⟨False.elim,fun _=>rfl⟩,hW,hφ⟩
theorem Qhr {σ:SS} {s:St} (hf:QkY P ops o σ hs=some s) (hob:allP s.obs) (hS:Sim Γ σ a w) {K:Act→World→Prop} (hK:∀ a' w',Sim Γ s.σ a' w'→K a' w') :
  (if Region.wanted o (yielded ops a.tmps)=true then o.wp P a w K NQ else K (a.put o.dst undef) w):=by
 unfold QkY at hf
 cases hd:dstOk σ.N o.dst with
 | false=>rw [hd] at hf; cases hf
 | true =>
  rw [hd] at hf
  simp only [Bool.not_true,cond_false] at hf
  have hS0:=hS
  obtain ⟨hN,hdf,φ,M,hF,hW,hφ⟩:=hS
  split at hf
  ·rename_i hg
   have hw:Region.wanted o (yielded ops a.tmps)=true:=by unfold Region.wanted; rw [hg]
   rw [if_pos hw]
   exact QeL hd hf hob hS0 hK
  ·rename_i j want hg
   have hwt:Region.wanted o (yielded ops a.tmps)=(yielded ops a.tmps j == some want):=by unfold Region.wanted; rw [hg]
   split at hf
   ·rename_i b t hs' hv
    have hy:yielded ops a.tmps j=some b:=QbZ hF hv fun cv h=>Qd4 h
    cases htw:(t == want) with
    | true =>
     rw [htw] at hf
     simp only [cond_true] at hf
     cases hdo:Qhq P o σ hs' with
     | none=>rw [hdo] at hf; cases hf
     | some s0 =>
      rw [hdo] at hf; cases hf
      obtain ⟨hbt,ho⟩:=hob
      rw [hwt,hy,hbt,if_pos (by simpa using htw)]
      exact QeL hd hdo ho hS0 hK
    | false =>
     rw [htw] at hf; cases hf
     obtain ⟨hbt,-⟩:=hob
     rw [hwt,hy,hbt,if_neg (by simpa using htw)]
     exact hK _ _ (Qf8 hd hS0)
   ·rename_i p b t hs' hv
    cases htw:(t == want) with
    | true =>
     rw [htw] at hf
     simp only [cond_true] at hf
     cases hdo:Qhq P o σ hs' with
     | none=>rw [hdo] at hf; cases hf
     | some s0 =>
      rw [hdo] at hf; cases hf
      obtain ⟨⟨hp,hbt⟩,ho⟩:=hob
      have hy:yielded ops a.tmps j=some b:=QbZ (w:=w) (φ:=φ) (M:=M) hF hv fun cv h=>Qd4 (w:=w) (φ:=φ) (M:=M) (h.1 hp)
      rw [hwt,hy,hbt,if_pos (by simpa using htw)]
      exact QeL hd hdo ho hS0 hK
    | false =>
     rw [htw] at hf; cases hf
     obtain ⟨⟨hp,hbt⟩,-⟩:=hob
     have hy:yielded ops a.tmps j=some b:=QbZ (w:=w) (φ:=φ) (M:=M) hF hv fun cv h=>Qd4 (w:=w) (φ:=φ) (M:=M) (h.1 hp)
     rw [hwt,hy,hbt,if_neg (by simpa using htw)]
     exact hK _ _ (Qf8 hd hS0)
   ·rename_i p b hs' hv
    cases hf
    have hy:yielded ops a.tmps j=none:=Qec (φ:=φ) (M:=M) hF hv fun cv h=>h.2 hob.1
    rw [hwt,hy,if_neg (by simp)]
    exact hK _ _ (Qf8 hd hS0)
   ·rename_i b hs' hv
    have hy:yielded ops a.tmps j=some b:=QbZ hF hv fun cv h=>Qd4 h
    split at hf
    ·rename_i r hr
     cases hne:r.news.isEmpty with
     | false=>rw [hne] at hf; cases hf
     | true =>
      rw [hne] at hf
      simp only [cond_true] at hf
      cases hgv:gdv (b=want) r.v with
      | none=>rw [hgv] at hf; cases hf
      | some v =>
       rw [hgv] at hf; cases hf
       exact Qg6 (p:=b=want) hd (by rw [hwt,hy]; cases b <;> cases want <;> rfl) hN hdf hF hW hφ hr hne hgv hob hK
    ·cases hf
   ·rename_i p b hs' hv
    split at hf
    ·rename_i r hr
     cases hne:r.news.isEmpty with
     | false=>rw [hne] at hf; cases hf
     | true =>
      rw [hne] at hf
      simp only [cond_true] at hf
      cases hgv:gdv (p∧b=want) r.v with
      | none=>rw [hgv] at hf; cases hf
      | some v =>
       rw [hgv] at hf; cases hf
       haveI:Decidable (p∧b=want):=Classical.propDecidable _
       refine Qg6 (p:=p∧b=want) hd ?_ hN hdf hF hW hφ hr hne hgv hob hK
       rw [hwt]
       by_cases hp:p
       ·have hy:yielded ops a.tmps j=some b:=QbZ (w:=w) (φ:=φ) (M:=M) hF hv fun cv h=>Qd4 (w:=w) (φ:=φ) (M:=M) (h.1 hp)
        rw [hy]
        by_cases hb:b=want
        ·simp [hp,hb]
        ·simp [hp,hb]
       ·have hy:yielded ops a.tmps j=none:=Qec (φ:=φ) (M:=M) hF hv fun cv h=>h.2 hp
        rw [hy]
        simp [hp]
    ·cases hf
   ·cases hf
theorem QfI {σ σ':SS} {ob:List Prop} {hs':List Hint} (hg:ghost hs σ=some (σ',ob,hs')) (ho:allP ob) (hS:Sim Γ σ a w):Sim Γ σ' a w:=by
 obtain ⟨hN,hdf,φ,M,hC⟩:=hS
 obtain ⟨h1,φ',M',h2⟩:=QbO hg ho hC
 exact ⟨by rw [h1]; exact hN,hdf,φ',M',h2⟩
theorem Qd8:∀ (l:List Oper) {σ:SS} {hs:List Hint} {s:St} {a:Act} {w:World},Qe7 P ops l σ hs=some s→allP s.obs→Sim Γ σ a w→(∀ a' w',Sim Γ s.σ a' w'→Q .normal a' w')→wpList P ops Q l a w
 | [],σ,hs,s,a,w,hf,_,hS,hQ=>by cases hf; exact hQ a w hS
 | o :: l,σ,hs,s,a,w,hf,hob,hS,hQ=>by
  simp only [Qe7] at hf
  split at hf
  ·rename_i σ0 o0 hs0 hg
   split at hf
   ·rename_i s1 h1
    split at hf
    ·rename_i s2 h2
     cases hf
     simp only [Qag] at hob
     have hS0:=QfI hg hob.1.1 hS
     have h3:=Qhr (K:=wpList P ops Q l) h1 hob.1.2 hS0 fun a' w' hS'=>Qd8 l h2 hob.2 hS' hQ
     simp only [wpList]
     split
     ·rename_i hw; rw [if_pos hw] at h3; exact .inl (wp_nq (fun _ _ h=>h) h3)
     ·rename_i hw; rw [if_neg hw] at h3; exact h3
    ·cases hf
   ·cases hf
  ·cases hf
end
end Go.Proofs.YtpkkaboonnedfaaDoor
namespace Go.Proofs.YtpkkaboonnedfaaDoor
set_option linter.unusedSimpArgs false
set_option linter.unusedVariables false
set_option linter.unusedSectionVars false
open Go.RowKit
section
variable {P : Program} {Γ : Gam} {φ φ' : Pl} {M M' : Nat → Prop} {w w' : World} {a : Act} {hs : List Hint} {o : Oper} {ops : Array Oper} {Q : Exit → Act → World → Prop} {σ : SS} {dsts : List Nat} {cl : List (Nat × Nat)}
inductive WFd (lo:Nat):List Dn→Nat→Nat→Prop
 | nil:WFd lo [] 0 lo
 | cons {r:List Dn} {i b:Nat} (dst:Option Nat) (v:AV) (news:List Ob) (upd:List (Nat×Option Ob)) (rd:List (Nat×Nat×Nat×List Lf)):WFd lo r i b→WFd lo (⟨i,dst,v,b,news,upd,rd⟩ :: r) (i+1) (b+news.length)
theorem WFd.lt {lo i b:Nat} {l:List Dn} (h:WFd lo l i b):lo≤b∧∀ d∈l,d.i<i∧lo≤d.base∧d.base+d.news.length≤b:=by
 induction h with
 | nil=>exact ⟨Nat.le_refl _,fun d hd=>by cases hd⟩
 | cons dst v news upd rd _ ih =>
  refine ⟨by omega,fun d hd=>?_⟩
  rcases List.mem_cons.1 hd with rfl|hd
  ·exact ⟨Nat.lt_succ_self _,ih.1,Nat.le_refl _⟩
  ·have:=ih.2 d hd; omega
theorem WFd.inj {lo i b:Nat} {l:List Dn} (h:WFd lo l i b):∀ x∈l,∀ y∈l,x.i=y.i→x=y:=by
 induction h with
 | nil=>intro x hx; cases hx
 | cons dst v news upd rd h ih =>
  have hl:=h.lt.2
  intro x hx y hy e
  rcases List.mem_cons.1 hx with rfl|hx <;> rcases List.mem_cons.1 hy with rfl|hy
  ·rfl
  ·have:=(hl y hy).1; simp only at e; omega
  ·have:=(hl x hx).1; simp only at e; omega
  ·exact ih x hx y hy e
theorem QeS {lo i b:Nat} {H:List (Option Ob)} {S:Nat→Bool} {l:List Dn} (h:WFd lo l i b) {id:Nat} (hid:b≤id∨id<lo):dheap H S l id=hl H id:=by
 induction h with
 | nil=>rfl
 | cons dst v news upd rd h ih =>
  rename_i r i b
  have hlo:=h.lt.1
  simp only [dheap]
  have e1:(Nat.ble b id&&Nat.blt id (b+news.length))=false:=by
   rw [Bool.and_eq_false_iff]
   rcases hid with h1|h1
   ·right; rw [← Bool.not_eq_true]; intro h2; have:=Nat.le_of_ble_eq_true h2; omega
   ·left; rw [← Bool.not_eq_true]; intro h2; have:=Nat.le_of_ble_eq_true h2; omega
  rw [e1]
  refine ih ?_
  rcases hid with h1|h1
  ·left; omega
  ·right; exact h1
theorem QcU {lo i b:Nat} {H:List (Option Ob)} {S:Nat→Bool} {l:List Dn} (h:WFd lo l i b) {d:Dn} (hd:d∈l) {id:Nat} (h1:d.base≤id) (h2:id<d.base+d.news.length):dheap H S l id=bif S d.i then d.news[id-d.base]? else none:=by
 induction h with
 | nil=>cases hd
 | cons dst v news upd rd h ih =>
  rename_i r i b
  simp only [dheap]
  rcases List.mem_cons.1 hd with rfl|hd
  ·have e1:(Nat.ble b id&&Nat.blt id (b+news.length))=true:=by
    rw [Bool.and_eq_true]; exact ⟨Nat.ble_eq_true_of_le h1,Nat.ble_eq_true_of_le h2⟩
   rw [e1]; rfl
  ·have:=(h.lt.2 d hd).2.2
   have e1:(Nat.ble b id&&Nat.blt id (b+news.length))=false:=by
    rw [Bool.and_eq_false_iff]; left; rw [← Bool.not_eq_true]; intro h3; have:=Nat.le_of_ble_eq_true h3; omega
   rw [e1]; exact ih hd
theorem Qdd {lo i b:Nat} {H:List (Option Ob)} {S:Nat→Bool} {l:List Dn} (h:WFd lo l i b) (id:Nat):(∃ d∈l,d.base≤id∧id<d.base+d.news.length)∨((b≤id∨id<lo)∧dheap H S l id=hl H id):=by
 by_cases hid:b≤id∨id<lo
 ·exact .inr ⟨hid,QeS h hid⟩
 ·left
  induction h with
  | nil=>omega
  | cons dst v news upd rd h ih =>
   rename_i r i b
   by_cases h1:b≤id
   ·exact ⟨_,List.mem_cons_self,h1,by simp only; omega⟩
   ·obtain ⟨d,hd,h2⟩:=ih (by omega)
    exact ⟨d,List.mem_cons_of_mem _ hd,h2⟩
theorem Qbj {L:List (Nat×AV)} {S:Nat→Bool} {t:Nat}:∀ {l:List Dn},(∃ d∈l,d.dst=some t∧S d.i=true∧dlook L dsts S l t=d.v)∨((∀ d∈l,d.dst=some t→S d.i=false)∧dlook L dsts S l t=bif dsts.contains t then .unk else look L t)
 | []=>.inr ⟨fun d hd=>(by cases hd),rfl⟩
 | d :: r=>by
  simp only [dlook]
  cases hc:(d.dst == some t&&S d.i) with
  | true =>
   simp only [Bool.and_eq_true,beq_iff_eq] at hc
   exact .inl ⟨d,List.mem_cons_self,hc.1,hc.2,rfl⟩
  | false =>
   simp only [Bool.and_eq_false_iff,beq_eq_false_iff_ne] at hc
   rcases Qbj (L:=L) (S:=S) (t:=t) (l:=r) with ⟨x,hx,h1,h2,h3⟩|⟨h1,h2⟩
   ·exact .inl ⟨x,List.mem_cons_of_mem _ hx,h1,h2,h3⟩
   ·refine .inr ⟨fun x hx e=>?_,h2⟩
    rcases List.mem_cons.1 hx with rfl|hx
    ·rcases hc with h|h
     ·exact absurd e h
     ·exact h
    ·exact h1 x hx e
theorem Qeg {id:Nat} {o:Option Ob}:∀ {l:List (Nat×Option Ob)},findU l id=some o→(id,o)∈l
 | [],h=>by cases h
 | (u,x) :: r,h=>by
  simp only [findU] at h
  cases hu:(u == id) with
  | true =>
   rw [hu] at h; cases h
   have:u=id:=by simpa using hu
   subst this; simp
  | false=>rw [hu] at h; exact List.mem_cons_of_mem _ (Qeg h)
theorem Qeb {S:Nat→Bool} {id:Nat}:∀ {l:List Dn},(∀ x∈l,∀ ob,(id,ob)∈x.upd→S x.i=false)→updOf S l id=none
 | [],_=>rfl
 | d :: r,h=>by
  have ih:=Qeb (S:=S) (id:=id) (l:=r) fun x hx=>h x (List.mem_cons_of_mem _ hx)
  simp only [updOf]
  split
  ·rename_i ob hu
   cases hc:S d.i with
   | false=>rw [hc] at hu; cases hu
   | true =>
    rw [hc] at hu
    have:=h d List.mem_cons_self ob (Qeg hu)
    rw [hc] at this; cases this
  ·exact ih
theorem Qfr {S S':Nat→Bool} {id:Nat}:∀ {l:List Dn},(∀ x∈l,∀ ob,(id,ob)∈x.upd→S x.i=S' x.i)→updOf S l id=updOf S' l id
 | [],_=>rfl
 | d :: r,h=>by
  have ih:=Qfr (S:=S) (S':=S') (id:=id) (l:=r) fun x hx=>h x (List.mem_cons_of_mem _ hx)
  simp only [updOf]
  rw [ih]
  cases hf:findU d.upd id with
  | none=>cases S d.i <;> cases S' d.i <;> rfl
  | some ob=>rw [h d List.mem_cons_self ob (Qeg hf)]
theorem Qg8 {S:Nat→Bool} {u:Nat} {o:Option Ob} {d:Dn} (hu:findU d.upd u=some o) (hS:S d.i=true):∀ {l:List Dn},d∈l→(∀ x∈l,∀ ob',(u,ob')∈x.upd→x=d)→updOf S l u=some o
 | x :: r,hd,h=>by
  simp only [updOf]
  split
  ·rename_i o' hu'
   cases hc:S x.i with
   | false=>rw [hc] at hu'; cases hu'
   | true =>
    rw [hc] at hu'
    simp only [cond_true] at hu'
    have:=h x List.mem_cons_self o' (Qeg hu')
    subst this
    rw [hu] at hu'; exact hu'.symm
  ·rename_i hn
   rcases List.mem_cons.1 hd with rfl|hd
   ·rw [hS] at hn; simp only [cond_true] at hn; rw [hu] at hn; cases hn
   ·exact Qg8 hu hS hd fun x hx=>h x (List.mem_cons_of_mem _ hx)
theorem Qh3 {i id:Nat} {h:Nat→Option Ob} {ob:Ob} (e:view cl i h id=some ob):h id=some ob∧∀ j,claim cl id=some j→j=i:=by
 unfold view at e
 split at e
 ·rename_i j hj
  cases hc:(j == i) with
  | false=>rw [hc] at e; cases e
  | true=>rw [hc] at e; exact ⟨e,fun j' h=>by rw [hj] at h; cases h; simpa using hc⟩
 ·rename_i hj; exact ⟨e,fun j' h=>by rw [hj] at h; cases h⟩
def Qk4 (P:Program) (ops:Array Oper) (σ:SS) (dsts:List Nat) (cl:List (Nat×Nat)) (d:Dn) (o:Oper) (post:List Dn):Prop :=
 (d.upd=[]∧∃ (r:Res) (hs:List Hint),dstep P ops o (view cl d.i (dheap σ.H (QbV o).contains post)) d.base (dlook σ.L dsts (QbV o).contains post) hs=some r∧allP r.obs∧r.v=d.v∧r.news=d.news) ∨
 (o.guard=none∧(∀ u∈d.upd,claim cl u.1=some d.i)∧∃ (r:Wr) (hs:List Hint),wop P (view cl d.i (dheap σ.H (QbV o).contains post)) d.base (dlook σ.L dsts (QbV o).contains post) o.op hs=some r∧allP r.obs∧r.v=d.v∧r.news=d.news∧r.upd=d.upd) ∨
 (o.guard=none∧d.upd=[]∧d.news=[]∧∃ (q:Nat×Nat×Nat×List Lf) (ob0:List Prop),rload P σ.H (dlook σ.L dsts (QbV o).contains post) o.op=some (d.v,q,ob0)∧allP ob0∧q∈d.rd)
theorem QfU (h:Qei o=true):o.guard=none:=by
 unfold Qei at h
 split at h
 ·assumption
 ·cases h
structure Done (P:Program) (ops:Array Oper) (σ:SS) (dsts:List Nat) (cl:List (Nat×Nat)) (n:Nat) (full:List Dn) (b:Nat):Prop where
 wf:WFd σ.H.length full n b
 op:∀ j,j<n→∃ (pre post:List Dn) (d:Dn) (o:Oper),full=pre++d :: post∧d.i=j∧ops[j]?=some o∧d.dst=o.dst∧dstOk σ.N o.dst=true∧WFd σ.H.length post j d.base∧Qk4 P ops σ dsts cl d o post
theorem Qgv:∀ {l:List Oper} {i:Nat} {done:List Dn} {base:Nat} {hs:List Hint} {full:List Dn} {b:Nat} {ob:List Prop} {hs':List Hint},dgo P ops σ dsts cl i l done base hs=some (full,b,ob,hs')→allP ob→(∀ k,l[k]?=ops[i+k]?∨l.length≤k)→WFd σ.H.length done i base →
  ∃ pre,full=pre++done∧WFd σ.H.length full (i+l.length) b∧∀ k,k<l.length→∃ (pre post:List Dn) (d:Dn) (o:Oper),full=pre++d :: post∧d.i=i+k∧ops[i+k]?=some o∧d.dst=o.dst∧dstOk σ.N o.dst=true∧WFd σ.H.length post (i+k) d.base∧Qk4 P ops σ dsts cl d o post
 | [],i,done,base,hs,full,b,ob,hs',hf,_,_,hw=>by
  simp only [dgo] at hf; cases hf
  exact ⟨[],rfl,hw,fun k hk=>by simp at hk⟩
 | o :: l,i,done,base,hs,full,b,ob,hs',hf,ho,hl,hw=>by
  simp only [dgo] at hf
  have h0:ops[i]?=some o:=by
   rcases hl 0 with h|h
   ·rw [Nat.add_zero] at h; rw [← h]; rfl
   ·simp at h
  have hl':∀ k,l[k]?=ops[i+1+k]?∨l.length≤k:=fun k=>by
   rcases hl (k+1) with h|h
   ·left; rw [show i+1+k=i+(k+1) by omega,← h]; rfl
   ·right; simpa using h
  cases hd:dstOk σ.N o.dst with
  | false=>rw [hd] at hf; cases hf
  | true =>
   rw [hd] at hf
   simp only [Bool.not_true,cond_false] at hf
   split at hf
   ·rename_i r hr
    split at hf
    ·rename_i d1 b1 ob1 hs1 h1
     cases hf
     rw [Qag] at ho
     obtain ⟨pre,e,hwf,hall⟩:=Qgv h1 ho.2 hl' (WFd.cons o.dst r.v r.news [] [] hw)
     refine ⟨pre++[⟨i,o.dst,r.v,base,r.news,[],[]⟩],by rw [e]; simp,by rw [List.length_cons,show i+(l.length+1)=i+1+l.length by omega]; exact hwf,fun k hk=>?_⟩
     cases k with
     | zero=>exact ⟨pre,done,_,o,e,rfl,h0,rfl,hd,hw,.inl ⟨rfl,r,hs,hr,ho.1,rfl,rfl⟩⟩
     | succ k =>
      have:=hall k (by simpa using hk)
      rw [show i+1+k=i+(k+1) by omega] at this
      exact this
    ·cases hf
   ·split at hf
    ·rename_i r hst
     cases hc:(Qei o&&r.upd.all (fun u=>claim cl u.1 == some i)) with
     | false=>rw [hc] at hf; cases hf
     | true =>
      rw [hc] at hf
      simp only [cond_true] at hf
      rw [Bool.and_eq_true] at hc
      split at hf
      ·rename_i d1 b1 ob1 hs1 h1
       cases hf
       rw [Qag] at ho
       obtain ⟨pre,e,hwf,hall⟩:=Qgv h1 ho.2 hl' (WFd.cons o.dst r.v r.news r.upd [] hw)
       refine ⟨pre++[⟨i,o.dst,r.v,base,r.news,r.upd,[]⟩],by rw [e]; simp,by rw [List.length_cons,show i+(l.length+1)=i+1+l.length by omega]; exact hwf,fun k hk=>?_⟩
       cases k with
       | zero=>exact ⟨pre,done,_,o,e,rfl,h0,rfl,hd,hw,.inr (.inl ⟨QfU hc.1,fun u hu=>by simpa using List.all_eq_true.1 hc.2 u hu,r,hs,hst,ho.1,rfl,rfl,rfl⟩)⟩
       | succ k =>
        have:=hall k (by simpa using hk)
        rw [show i+1+k=i+(k+1) by omega] at this
        exact this
      ·cases hf
    ·split at hf
     ·rename_i v q ob0 hst
      cases hc:Qei o with
      | false=>rw [hc] at hf; cases hf
      | true =>
       rw [hc] at hf
       simp only [cond_true] at hf
       split at hf
       ·rename_i d1 b1 ob1 hs1 h1
        cases hf
        rw [Qag] at ho
        obtain ⟨pre,e,hwf,hall⟩:=Qgv h1 ho.2 hl' (WFd.cons o.dst v [] [] [q] hw)
        refine ⟨pre++[⟨i,o.dst,v,base,[],[],[q]⟩],by rw [e]; simp,by rw [List.length_cons,show i+(l.length+1)=i+1+l.length by omega]; exact hwf,fun k hk=>?_⟩
        cases k with
        | zero=>exact ⟨pre,done,_,o,e,rfl,h0,rfl,hd,hw,.inr (.inr ⟨QfU hc,rfl,rfl,q,ob0,hst,ho.1,by simp⟩)⟩
        | succ k =>
         have:=hall k (by simpa using hk)
         rw [show i+1+k=i+(k+1) by omega] at this
         exact this
       ·cases hf
     ·cases hf
theorem Qh6 {h hD:Nat→Option Ob} {L:Nat→AV} {base:Nat} {r:Res} (hf:dstep P ops o h base L hs=some r) (hob:allP r.obs) (hF:∀ t,AR w M φ (L t) (a.tmps.getD t undef)) (hW:Wd Γ φ M hD w) (hsub:∀ id ob,h id=some ob→hD id=some ob)
  (hfr:∀ id,base≤id→id<base+r.news.length→φ id=none∧hD id=none) {K:Act→World→Prop}
  (hK:∀ v w' φ' M',AR w' M' φ' r.v v→Wd Γ φ' M' (plc hD base r.news) w'→Ex w M φ w' M' φ'→(∀ id,φ' id≠none→φ id≠none∨(base≤id∧id<base+r.news.length))→K (a.put o.dst v) w') :
  (if Region.wanted o (yielded ops a.tmps)=true then o.wp P a w K NQ else K (a.put o.dst undef) w):=by
 unfold dstep at hf
 split at hf
 ·rename_i hg
  have hw:Region.wanted o (yielded ops a.tmps)=true:=by unfold Region.wanted; rw [hg]
  rw [if_pos hw]
  exact Qgw hf hob hF hW hsub hfr hK
 ·rename_i j want hg
  have hwt:Region.wanted o (yielded ops a.tmps)=(yielded ops a.tmps j == some want):=by unfold Region.wanted; rw [hg]
  split at hf
  ·rename_i b t hs' hv
   have hy:yielded ops a.tmps j=some b:=QbZ hF hv fun cv h=>Qd4 h
   cases htw:(t == want) with
   | true =>
    rw [htw] at hf
    simp only [cond_true] at hf
    cases hdo:dop P h base L o.op hs' with
    | none=>rw [hdo] at hf; cases hf
    | some r0 =>
     rw [hdo] at hf; cases hf
     obtain ⟨hbt,ho⟩:=hob
     rw [hwt,hy,hbt,if_pos (by simpa using htw)]
     exact Qgw hdo ho hF hW hsub hfr hK
   | false =>
    rw [htw] at hf; cases hf
    obtain ⟨hbt,-⟩:=hob
    rw [hwt,hy,hbt,if_neg (by simpa using htw)]
    exact hK undef w φ M ⟨False.elim,fun _=>rfl⟩ (by rw [Qd5]; exact hW) (Ex.refl _ _ _) fun _ h=>.inl h
  ·rename_i p b hs' hv
   cases hf
   have hy:yielded ops a.tmps j=none:=Qec (φ:=φ) (M:=M) hF hv fun cv h=>h.2 hob.1
   rw [hwt,hy,if_neg (by simp)]
   exact hK undef w φ M ⟨False.elim,fun _=>rfl⟩ (by rw [Qd5]; exact hW) (Ex.refl _ _ _) fun _ h=>.inl h
  ·rename_i b hs' hv
   have hy:yielded ops a.tmps j=some b:=QbZ hF hv fun cv h=>Qd4 h
   split at hf
   ·rename_i r0 hr
    cases hne:r0.news.isEmpty with
    | false=>rw [hne] at hf; cases hf
    | true =>
     rw [hne] at hf
     simp only [cond_true] at hf
     cases hgv:gdv (b=want) r0.v with
     | none=>rw [hgv] at hf; cases hf
     | some v =>
      rw [hgv] at hf; cases hf
      have hnil:r0.news=[]:=by simpa using hne
      have hgv':∃ c,r0.v=.cm c∧v=.gd (b=want) c:=by
       unfold gdv at hgv
       split at hgv
       ·rename_i c hc; cases hgv; exact ⟨c,hc,rfl⟩
       ·cases hgv
      obtain ⟨c,hc,rfl⟩:=hgv'
      rw [hwt,hy]
      by_cases hp:b=want
      ·rw [if_pos (by simp [hp])]
       obtain ⟨v,w',φ',hrun,hr',hW',hpl,hn,hb⟩:=QfH (φ:=φ) (M:=M) (hD:=hD) hr hob hp hF hW hsub (fun id h1 h2=>by rw [hnil] at h2; simp at h2; omega)
       unfold Oper.wp
       rw [hrun]
       rw [hc] at hr'
       rw [hnil] at hW' hn
       exact hK v w' φ' M ⟨fun _=>hr',fun h=>absurd hp h⟩ hW' ⟨hb,fun _ h=>h,hpl⟩ hn
      ·rw [if_neg (by simp [hp])]
       exact hK undef w φ M ⟨fun h=>absurd h hp,fun _=>rfl⟩ (by rw [Qd5]; exact hW) (Ex.refl _ _ _) fun _ h=>.inl h
   ·cases hf
  ·cases hf
def InvD (Γ:Gam) (σ:SS) (dsts:List Nat) (full:List Dn) (listed:Array Bool) (a:Act) (w:World):Prop :=
 a.tmps.size=σ.N∧a.defers=[]∧∃ φ M,(∀ t,AR w M φ (dlook σ.L dsts (fun i=>listed.getD i false) full t) (a.tmps.getD t undef))∧Wd Γ φ M (QcT σ.H (fun i=>listed.getD i false) full) w ∧
  ∀ id,σ.H.length≤id→(∀ d∈full,listed.getD d.i false=true→¬ (d.base≤id∧id<d.base+d.news.length))→φ id=none
theorem QhK {o:Oper} {j:Nat}:j∈QbV o↔∃ e∈o.after,Region.binds .any e=true∧e.on=j:=by
 unfold QbV
 simp only [List.mem_map,List.mem_filter,Array.mem_toList_iff]
 constructor
 ·rintro ⟨e,⟨h1,h2⟩,h3⟩; exact ⟨e,h1,h2,h3⟩
 ·rintro ⟨e,h1,h2,h3⟩; exact ⟨e,⟨h1,h2⟩,h3⟩
theorem Done.claims {n b:Nat} {full:List Dn} (hD:Done P ops σ dsts cl n full b):∀ x∈full,∀ u ob,(u,ob)∈x.upd→claim cl u=some x.i:=fun x hx u ob hu=>by
 obtain ⟨pre,post,d,o,e,hdi,-,-,-,-,hst⟩:=hD.op x.i (hD.wf.lt.2 x hx).1
 have:d=x:=hD.wf.inj d (by rw [e]; simp) x hx hdi
 subst this
 rcases hst with ⟨h,-⟩|⟨-,h,-⟩|⟨-,h,-⟩
 ·rw [h] at hu; cases hu
 ·exact h (u,ob) hu
 ·rw [h] at hu; cases hu
theorem QgE {q:Nat×Nat×Nat×List Lf} {o:Option Ob}:∀ {l:List (Nat×Option Ob)},allP (rdOne q l)→(q.1,o)∈l→rdP q o
 | [],_,h=>by cases h
 | (u,x) :: r,ha,h=>by
  simp only [rdOne] at ha
  cases hu:(u == q.1) with
  | true =>
   rw [hu] at ha
   rcases List.mem_cons.1 h with h|h
   ·cases h; exact ha.1
   ·exact QgE ha.2 h
  | false =>
   rw [hu] at ha
   rcases List.mem_cons.1 h with h|h
   ·cases h; simp at hu
   ·exact QgE ha h
theorem QhV {q:Nat×Nat×Nat×List Lf} {o:Option Ob} {x:Dn}:∀ {l:List Dn},allP (rdUpd q l)→x∈l→(q.1,o)∈x.upd→rdP q o
 | d :: r,ha,hx,h=>by
  simp only [rdUpd,Qag] at ha
  rcases List.mem_cons.1 hx with rfl|hx
  ·exact QgE ha.1 h
  ·exact QhV ha.2 hx h
theorem Qjg {full:List Dn} {q:Nat×Nat×Nat×List Lf}:∀ {l:List (Nat×Nat×Nat×List Lf)},allP (rdQs full l)→q∈l→allP (rdUpd q full)
 | d :: r,ha,hx=>by
  simp only [rdQs,Qag] at ha
  rcases List.mem_cons.1 hx with rfl|hx
  ·exact ha.1
  ·exact Qjg ha.2 hx
theorem QhU {full:List Dn} {d:Dn} {q:Nat×Nat×Nat×List Lf}:∀ {l:List Dn},allP (rdObs full l)→d∈l→q∈d.rd→allP (rdUpd q full)
 | x :: r,ha,hx,h=>by
  simp only [rdObs,Qag] at ha
  rcases List.mem_cons.1 hx with rfl|hx
  ·exact Qjg ha.1 h
  ·exact QhU ha.2 hx h
theorem Qh2 {S:Nat→Bool} {id:Nat} {o:Option Ob}:∀ {l:List Dn},updOf S l id=some o→∃ x∈l,(id,o)∈x.upd
 | [],h=>by cases h
 | d :: r,h=>by
  simp only [updOf] at h
  split at h
  ·rename_i ob hu
   cases h
   cases hS:S d.i with
   | false=>rw [hS] at hu; cases hu
   | true=>rw [hS] at hu; exact ⟨d,List.mem_cons_self,Qeg hu⟩
  ·obtain ⟨x,hx,h1⟩:=Qh2 h; exact ⟨x,List.mem_cons_of_mem _ hx,h1⟩
theorem Qi7 {r:Bool} {n off:Nat} {cs cs':List Lf} (h:(cs'.drop off).take ((cs.drop off).take n).length=(cs.drop off).take n) (hr:(r||n == 1)=true) {c:Cm} (hc:partL r n off cs=some c):partL r n off cs'=some c:=by
 unfold partL at hc ⊢
 cases r with
 | true =>
  simp only [cond_true] at hc ⊢
  cases hl:(((cs.drop off).take n).length == n) with
  | false=>rw [hl] at hc; cases hc
  | true =>
   have hl':((cs.drop off).take n).length=n:=by simpa using hl
   rw [hl'] at h
   rw [h,hl]
   rw [hl] at hc
   exact hc
 | false =>
  have hn:n=1:=by simpa using hr
  subst hn
  simp only [cond_false] at hc ⊢
  cases ho:cs[off]? with
  | none=>rw [ho] at hc; cases hc
  | some x =>
   have hlt:=(List.getElem?_eq_some_iff.1 ho).1
   have h1:(cs.drop off).take 1=[x]:=by
    rw [List.take_one,List.head?_drop,ho]; rfl
   rw [h1] at h
   have h2:cs'[off]?=some x:=by
    have h3:((cs'.drop off).take ([x]:List Lf).length)[0]?=some x:=by rw [h]; rfl
    rw [List.getElem?_take] at h3
    simpa using h3
   rw [h2,← ho]; exact hc
theorem QkG {n b j:Nat} {full:List Dn} {listed:Array Bool} (hD:Done P ops σ dsts cl n full b) (hrd:allP (rdObs full full)) (hdst:∀ x∈full,∀ y∈full,∀ t,x.dst=some t→y.dst=some t→x=y) (hmem:∀ x∈full,∀ t,x.dst=some t→dsts.contains t=true)
  (inv:InvD Γ σ dsts full listed a w) (hj:j<n) (hun:listed.getD j true=false) (hpre:∀ k∈QbV (ops.getD j default),listed.getD k false=true) {K:Act→World→Prop} (hK:∀ a' w',InvD Γ σ dsts full (listed.setIfInBounds j true) a' w'→K a' w') :
  wpOp P ops Q j K a w:=by
 obtain ⟨pre,post,d,o,efull,rfl,hoj,hdd,hdok,hwfp,hst⟩:=hD.op j hj
 obtain ⟨hN,hdf,φ,M,hF,hW,hφ⟩:=inv
 have hfull:∀ x∈post,x∈full:=fun x hx=>by rw [efull]; simp [hx]
 have hdf':d∈full:=by rw [efull]; simp
 have hunf:listed.getD d.i false=false:=getD_both hun
 have hog:ops.getD d.i default=o:=by simp [Array.getD_eq_getD_getElem?,hoj]
 rw [hog] at hpre
 have hlt:=hD.wf.lt
 have hclm:=hD.claims
 have hset:∀ k,k≠d.i→(listed.setIfInBounds d.i true).getD k false=listed.getD k false:=fun k hk=>getD_set_ne false (Ne.symm hk)
 have hin:d.i<listed.size:=by
  rcases Nat.lt_or_ge d.i listed.size with h|h
  ·exact h
  ·simp [Array.getElem?_eq_none h] at hun
 have hself:(listed.setIfInBounds d.i true).getD d.i false=true:=by simp [Array.getD_eq_getD_getElem?,hin]
 -- the slots that it sees
 have hFL:∀ t,AR w M φ (dlook σ.L dsts (QbV o).contains post t) (a.tmps.getD t undef):=fun t=>by
  rcases Qbj (dsts:=dsts) (L:=σ.L) (S:=(QbV o).contains) (t:=t) (l:=post) with ⟨x,hx,h1,h2,h3⟩|⟨h1,h2⟩
  ·rw [h3]
   have hxl:listed.getD x.i false=true:=hpre x.i (by simpa using h2)
   have h4:=hF t
   rcases Qbj (dsts:=dsts) (L:=σ.L) (S:=fun i=>listed.getD i false) (t:=t) (l:=full) with ⟨y,hy,g1,g2,g3⟩|⟨g1,g2⟩
   ·rw [g3,hdst y hy x (hfull x hx) t g1 h1] at h4; exact h4
   ·rw [g1 x (hfull x hx) h1] at hxl; cases hxl
  ·rw [h2]
   cases hc:dsts.contains t with
   | true=>trivial
   | false =>
    have h4:=hF t
    rcases Qbj (dsts:=dsts) (L:=σ.L) (S:=fun i=>listed.getD i false) (t:=t) (l:=full) with ⟨y,hy,g1,g2,g3⟩|⟨g1,g2⟩
    ·rw [hmem y hy t g1] at hc; cases hc
    ·rw [g2,hc] at h4; exact h4
 -- the objects that it sees
 have hsub:∀ id ob,view cl d.i (dheap σ.H (QbV o).contains post) id=some ob→QcT σ.H (fun i=>listed.getD i false) full id=some ob:=fun id ob hv=>by
  obtain ⟨hid,hcl⟩:=Qh3 hv
  have hu:updOf (fun i=>listed.getD i false) full id=none:=Qeb fun x hx ob' hx'=>by
   have:=hcl x.i (hclm x hx id ob' hx')
   rw [this]; exact hunf
  unfold QcT
  rw [hu]
  rcases Qdd (H:=σ.H) (S:=(QbV o).contains) hwfp id with ⟨x,hx,h1,h2⟩|⟨h1,h2⟩
  ·rw [QcU hwfp hx h1 h2] at hid
   simp only
   rw [QcU hD.wf (hfull x hx) h1 h2]
   cases hs:(QbV o).contains x.i with
   | false=>rw [hs] at hid; cases hid
   | true =>
    rw [hs] at hid
    have:listed.getD x.i false=true:=hpre x.i (by simpa using hs)
    rw [this]; exact hid
  ·rw [h2] at hid
   have hlo:id<σ.H.length:=Qby hid
   simp only
   rw [QeS hD.wf (.inr hlo)]; exact hid
 -- what others have left is left
 have hrest:∀ id,¬ (d.base≤id∧id<d.base+d.news.length)→dheap σ.H (fun i=>(listed.setIfInBounds d.i true).getD i false) full id=dheap σ.H (fun i=>listed.getD i false) full id:=fun id hi=>by
  rcases Qdd (H:=σ.H) (S:=fun i=>(listed.setIfInBounds d.i true).getD i false) hD.wf id with ⟨x,hx,h1,h2⟩|⟨h1,h2⟩
  ·have hxd:x.i≠d.i:=fun e=>hi (by rw [← hD.wf.inj x hx d hdf' e]; exact ⟨h1,h2⟩)
   rw [QcU hD.wf hx h1 h2,QcU hD.wf hx h1 h2,hset _ hxd]
  ·rw [h2,QeS hD.wf h1]
 have hupd:∀ id,(∀ ob,(id,ob) ∉ d.upd)→updOf (fun i=>(listed.setIfInBounds d.i true).getD i false) full id=updOf (fun i=>listed.getD i false) full id:=fun id hne=>Qfr fun x hx ob hu=>by
  by_cases hxd:x.i=d.i
  ·have:=hD.wf.inj x hx d hdf' hxd
   subst this
   exact absurd hu (hne ob)
  ·exact hset _ hxd
 -- the end of it
 have fin:∀ v w' φ' M',AR w' M' φ' d.v v→Wd Γ φ' M' (QcT σ.H (fun i=>(listed.setIfInBounds d.i true).getD i false) full) w'→Ex w M φ w' M' φ'→(∀ id,φ' id≠none→φ id≠none∨(d.base≤id∧id<d.base+d.news.length))→K (a.put o.dst v) w':=by
  intro v w' φ' M' hv hW' he hn
  refine hK _ _ ⟨by rw [QeK]; exact hN,by rw [QcV]; exact hdf,φ',M',?_,hW',?_⟩
  ·intro t
   have h4:=AR.mono he (hF t)
   by_cases hdt:d.dst=some t
   ·have hdlt:t<a.tmps.size:=by
     rw [hdd] at hdt; rw [hdt] at hdok; rw [hN]; exact Nat.le_of_ble_eq_true hdok
    rw [← hdd,hdt,Qjf hdlt,if_pos rfl]
    rcases Qbj (dsts:=dsts) (L:=σ.L) (S:=fun i=>(listed.setIfInBounds d.i true).getD i false) (t:=t) (l:=full) with ⟨y,hy,g1,g2,g3⟩|⟨g1,g2⟩
    ·rw [g3,hdst y hy d hdf' t g1 hdt]; exact hv
    ·have:=g1 d hdf' hdt; rw [hself] at this; cases this
   ·have hgd:(a.put o.dst v).tmps.getD t undef=a.tmps.getD t undef:=by
     rw [← hdd]
     cases hd2:d.dst with
     | none=>rfl
     | some u =>
      rw [hd2] at hdt
      have hdlt:u<a.tmps.size:=by
       rw [hdd] at hd2; rw [hd2] at hdok; rw [hN]; exact Nat.le_of_ble_eq_true hdok
      rw [Qjf hdlt,if_neg (fun e=>hdt (by rw [e]))]
    rw [hgd]
    have hsame:dlook σ.L dsts (fun i=>(listed.setIfInBounds d.i true).getD i false) full t=dlook σ.L dsts (fun i=>listed.getD i false) full t:=by
     rcases Qbj (dsts:=dsts) (L:=σ.L) (S:=fun i=>(listed.setIfInBounds d.i true).getD i false) (t:=t) (l:=full) with ⟨y,hy,g1,g2,g3⟩|⟨g1,g2⟩
     ·have hyi:y.i≠d.i:=fun e=>hdt (by rw [← hD.wf.inj y hy d hdf' e]; exact g1)
      rw [hset _ hyi] at g2
      rcases Qbj (dsts:=dsts) (L:=σ.L) (S:=fun i=>listed.getD i false) (t:=t) (l:=full) with ⟨z,hz,k1,k2,k3⟩|⟨k1,k2⟩
      ·rw [g3,k3,hdst y hy z hz t g1 k1]
      ·rw [k1 y hy g1] at g2; cases g2
     ·rcases Qbj (dsts:=dsts) (L:=σ.L) (S:=fun i=>listed.getD i false) (t:=t) (l:=full) with ⟨z,hz,k1,k2,k3⟩|⟨k1,k2⟩
      ·have hzi:z.i≠d.i:=fun e=>hdt (by rw [← hD.wf.inj z hz d hdf' e]; exact k1)
       have:=g1 z hz k1
       rw [hset _ hzi,k2] at this; cases this
      ·rw [g2,k2]
    rw [hsame]; exact h4
  ·intro id hid hall
   refine Classical.byContradiction fun h=>?_
   rcases hn id h with h1|h1
   ·refine h1 (hφ id hid fun x hx hxl=>?_)
    by_cases hxd:x.i=d.i
    ·rw [hxd,hunf] at hxl; cases hxl
    ·exact hall x hx (by rw [hset _ hxd]; exact hxl)
   ·exact hall d hdf' hself h1
 have hφn:∀ id,d.base≤id→id<d.base+d.news.length→φ id=none:=fun id h1 h2=>by
  refine hφ id ?_ fun x hx hxl hxi=>?_
  ·have:=(hlt.2 d hdf').2.1; omega
  ·have:x=d:=by
    have e1:=QcU (H:=[]) (S:=fun i=>i == x.i) hD.wf hx hxi.1 hxi.2
    have e2:=QcU (H:=[]) (S:=fun i=>i == x.i) hD.wf hdf' h1 h2
    refine Classical.byContradiction fun hne=>?_
    have hii:d.i≠x.i:=fun e=>hne (hD.wf.inj x hx d hdf' e.symm)
    have c1:(x.i == x.i)=true:=by simp
    have c2:(d.i == x.i)=false:=by simpa using hii
    simp only [c1,cond_true] at e1
    simp only [c2,cond_false] at e2
    rw [e1] at e2
    have hl:id-x.base<x.news.length:=by omega
    simp [List.getElem?_eq_getElem hl] at e2
   rw [this,hunf] at hxl; cases hxl
 have hupn:∀ id,d.base≤id→id<d.base+d.news.length→∀ ob,updOf (fun i=>listed.getD i false) full id≠some (some ob):=fun id h1 h2 ob hu=>by
  have hO:=hW.obs id ob (by unfold QcT; rw [hu])
  exact hO.placed (hφn id h1 h2)
 have hfr:∀ id,d.base≤id→id<d.base+d.news.length→φ id=none∧QcT σ.H (fun i=>listed.getD i false) full id=none:=fun id h1 h2=>by
  refine ⟨hφn id h1 h2,?_⟩
  unfold QcT
  split
  ·rename_i ob hu
   cases ob with
   | none=>rfl
   | some ob=>exact absurd hu (hupn id h1 h2 ob)
  ·rw [QcU hD.wf hdf' h1 h2,hunf]; rfl
 -- what is there afterwards
 have hend:∀ {φ':Pl} {M':Nat→Prop} {w':World},Wd Γ φ' M' (plc (updF (QcT σ.H (fun i=>listed.getD i false) full) d.upd) d.base d.news) w'→Wd Γ φ' M' (QcT σ.H (fun i=>(listed.setIfInBounds d.i true).getD i false) full) w':=fun hW'=>hW'.less fun id ob hid=>by
  unfold plc
  by_cases hi:d.base≤id∧id<d.base+d.news.length
  ·rw [if_pos hi]
   unfold QcT at hid
   rw [QcU hD.wf hdf' hi.1 hi.2,hself] at hid
   have hnn:∀ o',(id,o') ∉ d.upd:=fun o' hm=>by
    have hcl:=hclm d hdf' id o' hm
    rcases hst with ⟨h,-⟩|⟨-,-,r,hs,hst,-,-,-,hru⟩|⟨-,h,-⟩
    ·rw [h] at hm; cases hm
    ·rw [← hru] at hm
     obtain ⟨ob0,g⟩:=Qht hst (id,o') hm
     have:=hsub id ob0 g
     rw [(hfr id hi.1 hi.2).2] at this; cases this
    ·rw [h] at hm; cases hm
   rw [hupd id hnn] at hid
   split at hid
   ·rename_i o' hu
    subst hid
    exact absurd hu (hupn id hi.1 hi.2 ob)
   ·exact hid
  ·rw [if_neg hi]
   unfold updF
   cases hf:findU d.upd id with
   | some o' =>
    simp only
    unfold QcT at hid
    rw [Qg8 (d:=d) (u:=id) (o:=o') hf hself hdf' (fun x hx ob' hu=>by
     have h1:=hclm x hx _ _ hu
     have h2:=hclm d hdf' _ _ (Qeg hf)
     rw [h2] at h1
     exact hD.wf.inj x hx d hdf' (Option.some.inj h1).symm)] at hid
    exact hid
   | none =>
    simp only
    have hnn:∀ o',(id,o') ∉ d.upd:=fun o' hm=>by
     have:∀ {l:List (Nat×Option Ob)},(id,o')∈l→findU l id≠none:=by
      intro l
      induction l with
      | nil=>intro h; cases h
      | cons y l ih =>
       obtain ⟨u,x⟩:=y
       intro h hn
       simp only [findU] at hn
       cases hu:(u == id) with
       | true=>rw [hu] at hn; cases hn
       | false =>
        rw [hu] at hn
        rcases List.mem_cons.1 h with h|h
        ·cases h; simp at hu
        ·exact ih h hn
     exact this hm hf
    unfold QcT at hid ⊢
    rw [hupd id hnn,hrest id hi] at hid
    exact hid
 rcases hst with ⟨hun0,r,hs,hst,hob,hrv,hrn⟩|⟨hgd,hcl,r,hs,hst,hob,hrv,hrn,hru⟩|⟨hgd,hun0,hn0,q,ob0,hst,hob,hqd⟩
 ·have key:=Qh6 (φ:=φ) (M:=M) (w:=w) (a:=a) (Γ:=Γ) (hD:=QcT σ.H (fun i=>listed.getD i false) full) (K:=K) hst hob hFL hW hsub (fun id h1 h2=>by
   rw [hrn] at h2
   exact hfr id h1 h2) fun v w' φ' M' hv hW' he hn=>fin v w' φ' M' (by rw [← hrv]; exact hv) (hend (by rw [hun0,← hrn]; exact hW')) he (by rw [← hrn]; exact hn)
  unfold wpOp
  simp only [hoj]
  split
  ·rename_i hw; rw [if_pos hw] at key; exact .inl (wp_nq (fun _ _ h=>h) key)
  ·rename_i hw; rw [if_neg hw] at key; exact key
 ·have hw:Region.wanted o (yielded ops a.tmps)=true:=by unfold Region.wanted; rw [hgd]
  unfold wpOp
  simp only [hoj,hw,if_true]
  left
  refine wp_nq (fun _ _ h=>h) (Qh5 (φ:=φ) (M:=M) (w:=w) (a:=a) (Γ:=Γ) (hD:=QcT σ.H (fun i=>listed.getD i false) full) (K:=K) hst hob hFL hW hsub (fun id h1 h2=>by
   rw [hrn] at h2
   exact hfr id h1 h2) fun v w' hm=>?_)
  obtain ⟨φ',M',hv,hW',he,hn⟩:=hm
  exact fin v w' φ' M' (by rw [← hrv]; exact hv) (hend (by rw [← hru,← hrn]; exact hW')) he (by rw [← hrn]; exact hn)
 ·have hw:Region.wanted o (yielded ops a.tmps)=true:=by unfold Region.wanted; rw [hgd]
  unfold wpOp
  simp only [hoj,hw,if_true]
  left
  -- the load,from the box as it is now
  have hload:∃ r:Res,fop P (QcT σ.H (fun i=>listed.getD i false) full) d.base True (dlook σ.L dsts (QbV o).contains post) o.op []=some r∧allP r.obs∧r.v=d.v∧r.news=[]:=by
   unfold rload at hst
   split at hst
   ·rename_i t x hop
    split at hst
    ·rename_i id sz row off ob1 m rw_ hg ht htr
     split at hst
     ·rename_i ob hid
      split at hst
      ·rename_i cells hbx hrows
       cases hc:(ob.sz == sz&&row == 0&&(rw_||m == 1)) with
       | false=>rw [hc] at hst; cases hst
       | true =>
        rw [hc] at hst
        simp only [cond_true] at hst
        cases hp:partL rw_ m off cells with
        | none=>rw [hp] at hst; cases hst
        | some c =>
         rw [hp] at hst
         simp only [Option.map_some,Option.some.injEq,Prod.mk.injEq] at hst
         obtain ⟨hv,rfl,rfl⟩:=hst
         simp only [Bool.and_eq_true,beq_iff_eq] at hc
         have hlo:id<σ.H.length:=Qby hid
         have hnow:∃ ob',QcT σ.H (fun i=>listed.getD i false) full id=some ob'∧ob'.box=true∧ob'.sz=sz∧∃ cells',ob'.rows=[cells']∧partL rw_ m off cells'=some c:=by
          unfold QcT
          cases hu:updOf (fun i=>listed.getD i false) full id with
          | none =>
           simp only
           rw [QeS hD.wf (.inr hlo)]
           exact ⟨ob,hid,hbx,hc.1.1,cells,hrows,hp⟩
          | some o' =>
           obtain ⟨x',hx',hxu⟩:=Qh2 hu
           have hP:=QhV (QhU hrd hdf' hqd) hx' hxu
           cases o' with
           | none=>exact hP.elim
           | some ob' =>
            simp only [rdP,Prod.mk.injEq] at hP
            obtain ⟨p1,p2,p3⟩:=hP
            refine ⟨ob',rfl,p1,p2,?_⟩
            cases hrr:ob'.rows with
            | nil=>rw [hrr] at p3; cases p3
            | cons c0 r0 =>
             rw [hrr] at p3
             simp only [List.map_cons,List.cons.injEq,List.map_eq_nil_iff] at p3
             obtain ⟨p4,rfl⟩:=p3
             exact ⟨c0,rfl,Qi7 p4 hc.2 hp⟩
         obtain ⟨ob',k1,k2,k3,cells',k4,k5⟩:=hnow
         refine ⟨⟨.cm c,[],ob1,[]⟩,?_,hob,hv,rfl⟩
         rw [hop]
         simp only [fop,hg,ht,htr,k1,k2,k3,k4,k5,hc.1.2,beq_self_eq_true,cond_true,Option.map_some]
      ·cases hst
     ·cases hst
    ·cases hst
   ·cases hst
  obtain ⟨r,hr,hro,hrv,hrn⟩:=hload
  obtain ⟨v,w',φ',hrun,hr',hW',hpl,hn,hb⟩:=QfH (φ:=φ) (M:=M) (hD:=QcT σ.H (fun i=>listed.getD i false) full) hr hro trivial hFL hW (fun _ _ h=>h) (fun id h1 h2=>by rw [hrn] at h2; simp at h2; omega)
  refine wp_nq (fun _ _ h=>h) ?_
  unfold Oper.wp
  rw [hrun]
  rw [hrn] at hW' hn
  refine fin v w' φ' M (by rw [← hrv]; exact hr') (hend (by rw [hun0,hn0]; exact hW')) ⟨hb,fun _ h=>h,hpl⟩ (fun id h=>?_)
  rcases hn id h with h1|h1
  ·exact .inl h1
  ·simp at h1; omega
end
end Go.Proofs.YtpkkaboonnedfaaDoor
namespace Go.Proofs.YtpkkaboonnedfaaDoor
set_option linter.unusedSimpArgs false
set_option linter.unusedVariables false
set_option linter.unusedSectionVars false
open Go.RowKit
section
variable {P : Program} {Γ : Gam} {φ φ' : Pl} {M M' : Nat → Prop} {w w' : World} {a : Act} {hs : List Hint} {o : Oper} {ops : Array Oper} {Q : Exit → Act → World → Prop} {σ : SS} {cl : List (Nat × Nat)}
theorem Qf0:∀ {l:List Nat},noDup l=true→l.Nodup
 | [],_=>by simp
 | x :: l,h=>by
  simp only [noDup,Bool.and_eq_true,Bool.not_eq_true'] at h
  rw [List.nodup_cons]
  exact ⟨by simpa using h.1,Qf0 h.2⟩
theorem QiG:∀ {l:List Oper} {i j t:Nat} {x y:Oper},(Qc9 l).Nodup→l[i]?=some x→l[j]?=some y→x.dst=some t→y.dst=some t→i=j
 | [],i,_,_,_,_,_,h,_,_,_=>by simp at h
 | o :: l,0,0,_,_,_,_,_,_,_,_=>rfl
 | o :: l,0,j+1,t,x,y,hn,hi,hj,hx,hy=>by
  simp at hi hj; subst hi
  have:Qc9 (o :: l)=t :: Qc9 l:=by simp [Qc9,hx]
  rw [this,List.nodup_cons] at hn
  exact absurd (List.mem_filterMap.2 ⟨y,List.mem_of_getElem? hj,hy⟩) hn.1
 | o :: l,i+1,0,t,x,y,hn,hi,hj,hx,hy=>by
  simp at hi hj; subst hj
  have:Qc9 (o :: l)=t :: Qc9 l:=by simp [Qc9,hy]
  rw [this,List.nodup_cons] at hn
  exact absurd (List.mem_filterMap.2 ⟨x,List.mem_of_getElem? hi,hx⟩) hn.1
 | o :: l,i+1,j+1,t,x,y,hn,hi,hj,hx,hy=>by
  have hn':(Qc9 l).Nodup:=by
   unfold Qc9 at hn ⊢
   rw [List.filterMap_cons] at hn
   split at hn
   ·exact hn
   ·exact (List.nodup_cons.1 hn).2
  exact congrArg (·+1) (QiG (l:=l) hn' (by simpa using hi) (by simpa using hj) hx hy)
theorem Qkc {L:List (Nat×AV)} {t:Nat}:∀ (l:List Dn),look (dL L l) t=dlook L [] (fun _=>true) l t
 | []=>rfl
 | ⟨i,d,v,b,n,u,q⟩ :: r=>by
  have ih:=Qkc (L:=L) (t:=t) r
  simp only [dL,dlook,Bool.and_true]
  cases d with
  | none=>exact ih
  | some u =>
   simp only [putD,look]
   have:(some u == some t)=(u == t):=rfl
   rw [this,ih]
theorem Done.below {n b:Nat} {full:List Dn} {dsts:List Nat} (hD:Done P ops σ dsts cl n full b):∀ x∈full,∀ u∈x.upd,u.1<x.base:=fun x hx u hu=>by
 obtain ⟨pre,post,d,o,e,hdi,-,-,-,hw,hst⟩:=hD.op x.i (hD.wf.lt.2 x hx).1
 have:d=x:=hD.wf.inj d (by rw [e]; simp) x hx hdi
 subst this
 rcases hst with ⟨h,-⟩|⟨-,-,r,hs,hst,-,-,-,hru⟩|⟨-,h,-⟩
 ·rw [h] at hu; cases hu
 rotate_left
 ·rw [h] at hu; cases hu
 ·rw [← hru] at hu
  obtain ⟨ob0,h4⟩:=Qht hst u hu
  have h5:=(Qh3 h4).1
  rcases Qdd (H:=σ.H) (S:=(QbV o).contains) hw u.1 with ⟨y,hy,k1,k2⟩|⟨k1,k2⟩
  ·have:=(hw.lt.2 y hy).2.2; omega
  ·rw [k2] at h5
   have:=Qby h5
   have:=hw.lt.1
   omega
theorem hl_dH {lo i b:Nat} {H:List (Option Ob)} {l:List Dn} (h:WFd lo l i b) (hlo:lo=H.length) (hb:∀ x∈l,∀ u∈x.upd,u.1<x.base):(dH H l).length=b∧hl (dH H l)=QcT H (fun _=>true) l:=by
 induction h with
 | nil=>exact ⟨hlo.symm,rfl⟩
 | cons dst v news upd rd h ih =>
  rename_i r i b
  obtain ⟨h1,h2⟩:=ih fun x hx=>hb x (List.mem_cons_of_mem _ hx)
  have hup:∀ id,b≤id→updOf (fun _=>true) r id=none:=fun id hid=>Qeb fun x hx ob hu=>by
   have:=hb x (List.mem_cons_of_mem _ hx) _ hu
   have:=(h.lt.2 x hx).2.2
   simp only at *; omega
  refine ⟨by simp [dH,Qfn,h1],?_⟩
  simp only [dH]
  have hub:∀ u∈upd,u.1<(dH H r).length:=fun u hu=>by rw [h1]; exact hb _ List.mem_cons_self u hu
  rw [QiL,Qfn,h1,QiM hub,h2]
  funext id
  unfold plc
  by_cases hi:b≤id∧id<b+news.length
  ·rw [if_pos hi]
   have e1:(Nat.ble b id&&Nat.blt id (b+news.length))=true:=by rw [Bool.and_eq_true]; exact ⟨Nat.ble_eq_true_of_le hi.1,Nat.ble_eq_true_of_le hi.2⟩
   have e2:updOf (fun _=>true) (⟨i,dst,v,b,news,upd,rd⟩ :: r) id=none:=Qeb fun x hx ob hu=>by
    rcases List.mem_cons.1 hx with rfl|hx
    ·have:=hb _ List.mem_cons_self _ hu
     simp only at this; omega
    ·have:=hb x (List.mem_cons_of_mem _ hx) _ hu
     have:=(h.lt.2 x hx).2.2
     simp only at *; omega
   unfold QcT
   rw [e2]
   simp only [dheap,e1,cond_true]
  ·rw [if_neg hi]
   have e1:(Nat.ble b id&&Nat.blt id (b+news.length))=false:=by
    rw [← Bool.not_eq_true,Bool.and_eq_true]
    intro ⟨h3,h4⟩
    exact hi ⟨Nat.le_of_ble_eq_true h3,Nat.le_of_ble_eq_true h4⟩
   unfold updF QcT
   simp only [updOf,cond_true,dheap,e1,cond_false]
   cases findU upd id <;> rfl
def left (listed:Array Bool) (n:Nat):Nat:=((List.range n).filter fun i=>!listed.getD i false).length
theorem QkN {listed:Array Bool} {n j:Nat} (hj:j<n) (hl:listed.getD j true=false):left listed n=left (listed.setIfInBounds j true) n+1:=by
 have hin:j<listed.size:=by
  rcases Nat.lt_or_ge j listed.size with h|h
  ·exact h
  ·simp [Array.getElem?_eq_none h] at hl
 have hself:(listed.setIfInBounds j true).getD j false=true:=by simp [Array.getD_eq_getD_getElem?,hin]
 unfold left
 have key:∀ l:List Nat,l.Nodup→(j∈l→(l.filter fun i=>!listed.getD i false).length=(l.filter fun i=>!(listed.setIfInBounds j true).getD i false).length+1)∧(j ∉ l→(l.filter fun i=>!listed.getD i false).length=(l.filter fun i=>!(listed.setIfInBounds j true).getD i false).length):=by
  intro l
  induction l with
  | nil=>intro _; exact ⟨fun h=>(by cases h),fun _=>rfl⟩
  | cons x l ih =>
   intro hn
   rw [List.nodup_cons] at hn
   obtain ⟨ih1,ih2⟩:=ih hn.2
   by_cases hx:x=j
   ·subst hx
    refine ⟨fun _=>?_,fun h=>absurd List.mem_cons_self h⟩
    rw [List.filter_cons,List.filter_cons,getD_both hl,hself]
    simp only [Bool.not_false,if_true,Bool.not_true,Bool.false_eq_true,if_false,List.length_cons]
    rw [ih2 hn.1]
   ·have hs:=getD_set_ne (listed:=listed) (i:=j) (j:=x) false (fun e=>hx e.symm)
    refine ⟨fun h=>?_,fun h=>?_⟩
    ·rw [List.filter_cons,List.filter_cons,hs]
     have hm:j∈l:=by rcases List.mem_cons.1 h with h|h; exact absurd h.symm hx; exact h
     have:=ih1 hm
     split <;> (try simp only [List.length_cons]) <;> omega
    ·rw [List.filter_cons,List.filter_cons,hs]
     have:=ih2 fun hm=>h (List.mem_cons_of_mem _ hm)
     split <;> (try simp only [List.length_cons]) <;> omega
 exact (key _ List.nodup_range).1 (List.mem_range.2 hj)
theorem QjO {listed:Array Bool} {n:Nat} (h:left listed n=0):∀ i,i<n→listed.getD i false=true:=fun i hi=>by
 unfold left at h
 have h1:=List.eq_nil_of_length_eq_zero h
 rw [List.filter_eq_nil_iff] at h1
 have:=h1 i (List.mem_range.2 hi)
 simpa using this
theorem QkM {listed:Array Bool} {n:Nat} (h:left listed n≠0):∃ i,i<n∧listed.getD i false=false∧∀ k,k<i→listed.getD k false=true:=by
 unfold left at h
 have hex:∃ i,i<n∧listed.getD i false=false:=by
  cases h1:(List.range n).filter (fun i=>!listed.getD i false) with
  | nil=>rw [h1] at h; exact absurd rfl h
  | cons x l =>
   have hx:x∈(List.range n).filter (fun i=>!listed.getD i false):=by rw [h1]; exact List.mem_cons_self
   rw [List.mem_filter,List.mem_range] at hx
   exact ⟨x,hx.1,by simpa using hx.2⟩
 have key:∀ m i,i≤m→i<n→listed.getD i false=false→∃ i,i<n∧listed.getD i false=false∧∀ k,k<i→listed.getD k false=true:=by
  intro m
  induction m with
  | zero=>intro i hi hn hf; exact ⟨i,hn,hf,fun k hk=>by omega⟩
  | succ m ih =>
   intro i hi hn hf
   by_cases hall:∀ k,k<i→listed.getD k false=true
   ·exact ⟨i,hn,hf,hall⟩
   ·simp only [Classical.not_forall] at hall
    obtain ⟨k,hk,hk2⟩:=hall
    exact ih k (by omega) (by omega) (by simpa using hk2)
 obtain ⟨i,hi,hf⟩:=hex
 exact key i i (Nat.le_refl _) hi hf
theorem Qkz {n b:Nat} {full:List Dn} {tail:List Oper} {s:St} {hs2:List Hint} (hB:drawB ops n=true) (hD:Done P ops σ (Qc9 (ops.toList.take n)) cl n full b) (hrd:allP (rdObs full full)) (htail:Qe7 P ops (ops.toList.drop n) ⟨σ.N,dL σ.L full,dH σ.H full⟩ hs2=some s) (hob:allP s.obs)
  (hQ:∀ a' w',Sim Γ s.σ a' w'→Q .normal a' w'):∀ (f:Nat) (listed:Array Bool) (a:Act) (w:World),left listed n=f→HeadInv .any ops n listed→InvD Γ σ (Qc9 (ops.toList.take n)) full listed a w→wpAny P .any ops Q (f+(ops.size-n)) listed a w:=by
 unfold drawB at hB
 simp only [Bool.and_eq_true,Bool.or_eq_true,beq_iff_eq,Nat.ble_eq] at hB
 obtain ⟨⟨⟨⟨hnd,hle⟩,hpr⟩,hsz⟩,hseq⟩:=hB
 have hnd':=Qf0 hnd
 have hopn:∀ j,j<n→(ops.toList.take n)[j]?=ops[j]?:=fun j hj=>by rw [List.getElem?_take,if_pos hj]; simp
 have hinfo:∀ x∈full,∃ o,x.i<n∧ops[x.i]?=some o∧x.dst=o.dst:=fun x hx=>by
  have hxi:=(hD.wf.lt.2 x hx).1
  obtain ⟨pre,post,d,o,e,hdi,ho,hdd,-⟩:=hD.op x.i hxi
  have:d=x:=hD.wf.inj d (by rw [e]; simp) x hx hdi
  subst this
  exact ⟨o,hxi,ho,hdd⟩
 have hdst:∀ x∈full,∀ y∈full,∀ t,x.dst=some t→y.dst=some t→x=y:=fun x hx y hy t ex ey=>by
  obtain ⟨ox,hxn,hox,hdx⟩:=hinfo x hx
  obtain ⟨oy,hyn,hoy,hdy⟩:=hinfo y hy
  exact hD.wf.inj x hx y hy (QiG hnd' (by rw [hopn _ hxn]; exact hox) (by rw [hopn _ hyn]; exact hoy) (hdx ▸ ex) (hdy ▸ ey))
 have hmem:∀ x∈full,∀ t,x.dst=some t→(Qc9 (ops.toList.take n)).contains t=true:=fun x hx t ex=>by
  obtain ⟨ox,hxn,hox,hdx⟩:=hinfo x hx
  rw [List.contains_iff_mem]
  exact List.mem_filterMap.2 ⟨ox,List.mem_of_getElem? (by rw [hopn _ hxn]; exact hox),hdx ▸ ex⟩
 intro f
 induction f with
 | zero =>
  intro listed a w hf inv hI
  rw [Nat.zero_add]
  have hall:=QjO hf
  have hlist:listed=QkF ops n:=by
   apply Array.ext_getElem?
   intro k
   unfold QkF
   simp only [List.getElem?_toArray,List.getElem?_map]
   rcases Nat.lt_or_ge k ops.size with hk|hk
   ·rw [List.getElem?_range hk]
    simp only [Option.map_some]
    by_cases hkn:k<n
    ·have:=hall k hkn
     have hks:k<listed.size:=by rw [inv.size]; exact hk
     simp only [Array.getD_eq_getD_getElem?,Array.getElem?_eq_getElem hks,Option.getD_some] at this
     rw [Array.getElem?_eq_getElem hks,this]
     have:Nat.blt k n=true:=Nat.ble_eq_true_of_le hkn
     rw [this]
    ·have:=inv.tail k (by omega) hk
     have hks:k<listed.size:=by rw [inv.size]; exact hk
     simp only [Array.getD_eq_getD_getElem?,Array.getElem?_eq_getElem hks,Option.getD_some] at this
     rw [Array.getElem?_eq_getElem hks,this]
     have:Nat.blt k n=false:=by rw [← Bool.not_eq_true]; intro h; exact hkn (Nat.le_of_ble_eq_true h)
     rw [this]
   ·rw [List.getElem?_eq_none (by simpa using hk),Array.getElem?_eq_none (by rw [inv.size]; exact hk)]; rfl
  obtain ⟨hN,hdf,φ,M,hF,hW,hφ⟩:=hI
  obtain ⟨hbl,hbh⟩:=hl_dH hD.wf rfl hD.below
  have hSl:∀ x∈full,listed.getD x.i false=true:=fun x hx=>hall x.i (hinfo x hx).choose_spec.1
  have hS:Sim Γ ⟨σ.N,dL σ.L full,dH σ.H full⟩ a w:=by
   refine ⟨hN,hdf,φ,M,fun t=>?_,?_,fun id hid=>hφ id (by have:=hD.wf.lt.1; rw [hbl] at hid; omega) fun x hx _ hxi=>by
    have:=(hD.wf.lt.2 x hx).2.2; rw [hbl] at hid; omega⟩
   ·rw [Qkc]
    have h4:=hF t
    rcases Qbj (dsts:=([]:List Nat)) (L:=σ.L) (S:=fun _=>true) (t:=t) (l:=full) with ⟨x,hx,g1,g2,g3⟩|⟨g1,g2⟩
    ·rw [g3]
     rcases Qbj (dsts:=Qc9 (ops.toList.take n)) (L:=σ.L) (S:=fun i=>listed.getD i false) (t:=t) (l:=full) with ⟨y,hy,k1,k2,k3⟩|⟨k1,k2⟩
     ·rw [k3,hdst y hy x hx t k1 g1] at h4; exact h4
     ·have:=k1 x hx g1; rw [hSl x hx] at this; cases this
    ·rw [g2]
     have hnone:∀ x∈full,x.dst≠some t:=fun x hx e=>by have:=g1 x hx e; cases this
     have hnd2:(Qc9 (ops.toList.take n)).contains t=false:=by
      rw [← Bool.not_eq_true,List.contains_iff_mem]
      intro hm
      obtain ⟨o,ho,hot⟩:=List.mem_filterMap.1 hm
      obtain ⟨j,hj⟩:=List.mem_iff_getElem?.1 ho
      have hjn:j<n:=by
       have:=(List.getElem?_eq_some_iff.1 hj).1
       simp at this; omega
      obtain ⟨pre,post,d,o2,e,hdi,ho2,hdd,-⟩:=hD.op j hjn
      rw [hopn j hjn,ho2] at hj
      cases hj
      exact hnone d (by rw [e]; simp) (hdd.trans hot)
     rcases Qbj (dsts:=Qc9 (ops.toList.take n)) (L:=σ.L) (S:=fun i=>listed.getD i false) (t:=t) (l:=full) with ⟨y,hy,k1,k2,k3⟩|⟨k1,k2⟩
     ·exact absurd k1 (hnone y hy)
     ·rw [k2,hnd2] at h4; exact h4
   ·rw [hbh]
    refine hW.less fun id ob hid=>?_
    have e1:updOf (fun i=>listed.getD i false) full id=updOf (fun _=>true) full id:=Qfr fun x hx _ _=>hSl x hx
    unfold QcT at hid ⊢
    rw [e1]
    have e2:dheap σ.H (fun i=>listed.getD i false) full id=dheap σ.H (fun _=>true) full id:=by
     rcases Qdd (H:=σ.H) (S:=fun _=>true) hD.wf id with ⟨x,hx,h1,h2⟩|⟨h1,h2⟩
     ·rw [QcU hD.wf hx h1 h2,QcU hD.wf hx h1 h2,hSl x hx]
     ·rw [h2,QeS hD.wf h1]
    rw [e2]; exact hid
  have hwl:=Qd8 (Q:=Q) (ops.toList.drop n) htail hob hS hQ
  have hdl:(ops.toList.drop n).length=ops.size-n:=by simp
  have:=wpAny_of_seq (md:=.any) (ops:=ops) (Q':=Q) (ops.toList.drop n) n listed a w (fun j=>by rw [List.getElem?_drop]; simp) (by rw [hdl,hlist]; exact hseq) hwl
  rw [hdl] at this
  exact this
 | succ f ih =>
  intro listed a w hf inv hI
  rw [show f+1+(ops.size-n)=(f+(ops.size-n))+1 by omega]
  obtain ⟨i0,hi0,hu0,hlow⟩:=QkM (listed:=listed) (n:=n) (by omega)
  have hi0s:i0<ops.size:=by omega
  have hu0':listed.getD i0 true=false:=getD_in (by rw [inv.size]; exact hi0s) hu0
  have hready0:i0∈Region.ready .any ops listed:=by
   refine mem_ready.2 ⟨hu0',_,Array.getElem?_eq_getElem hi0s,fun e he hb=>?_⟩
   have h1:=List.all_eq_true.1 hpr (ops[i0],i0) (by
    rw [List.mem_iff_getElem?]
    refine ⟨i0,?_⟩
    rw [List.getElem?_zipIdx,hopn i0 hi0,Array.getElem?_eq_getElem hi0s]; simp)
   have h2:=List.all_eq_true.1 h1 e.on (QhK.2 ⟨e,he,hb,rfl⟩)
   exact hlow e.on (Nat.le_of_ble_eq_true h2)
  refine ⟨fun h=>(by rw [h] at hready0; cases hready0),fun j hj=>?_⟩
  have hjn:j<n:=by
   rcases Nat.lt_or_ge j n with h|h
   ·exact h
   ·exfalso
    obtain ⟨_,oj,hoj,_⟩:=mem_ready.1 hj
    have hjs:j<ops.size:=(Array.getElem?_eq_some_iff.1 hoj).1
    rcases hsz with h1|⟨⟨h1,h2⟩,h3⟩
    ·omega
    ·exact tail_waits h2 h3 (Nat.le_of_ble_eq_true h1) inv _ i0 rfl hi0 hu0' j h hj
  obtain ⟨hun,oj,hoj,hall⟩:=mem_ready.1 hj
  have hog:ops.getD j default=oj:=by simp [Array.getD_eq_getD_getElem?,hoj]
  exact QkG hD hrd hdst hmem hI hjn hun (fun k hk=>by
   rw [hog] at hk
   obtain ⟨e,he,hb,rfl⟩:=QhK.1 hk
   exact hall e he hb) fun a' w' hI'=>ih _ a' w' (by have:=QkN hjn hun; omega) (inv.set hj hjn) hI'
theorem QgQ {s:St} {id:Nat} (hf:QgP P ops σ hs=some s) (hob:allP s.obs) (hS:Sim Γ σ a w) (hQ:∀ a' w',Sim Γ s.σ a' w'→Q .normal a' w'):(Code.region id ops true).wp P Q a w:=by
 unfold QgP at hf
 split at hf
 ·rename_i n cl hs'
  cases hc:(P.follows .mixedOrders&&drawB ops n) with
  | false=>rw [hc] at hf; cases hf
  | true =>
   rw [hc] at hf
   simp only [cond_true] at hf
   simp only [Bool.and_eq_true] at hc
   split at hf
   ·rename_i done b ob hs2 hd
    cases hst:Qe7 P ops (ops.toList.drop n) ⟨σ.N,dL σ.L done,dH σ.H done⟩ hs2 with
    | none=>rw [hst] at hf; cases hf
    | some s0 =>
     rw [hst] at hf; cases hf
     rw [Qag,Qag] at hob
     have hB:=hc.2
     have hle:n≤ops.size:=by
      unfold drawB at hB
      simp only [Bool.and_eq_true,Nat.ble_eq] at hB
      exact hB.1.1.1.2
     have htl:(ops.toList.take n).length=n:=by simp; omega
     obtain ⟨pre,e,hwf,hall⟩:=Qgv hd hob.1 (fun k=>by
      rcases Nat.lt_or_ge k n with h|h
      ·left; rw [List.getElem?_take,if_pos h,Nat.zero_add]; simp
      ·right; rw [htl]; exact h) WFd.nil
     rw [htl,Nat.zero_add] at hwf
     have hD:Done P ops σ (Qc9 (ops.toList.take n)) cl n done b:=⟨hwf,fun j hj=>by
      have:=hall j (by rw [htl]; exact hj)
      rw [Nat.zero_add] at this; exact this⟩
     refine wp_region_any hc.1 ?_
     have hsz:(left (Array.replicate ops.size false) n)+(ops.size-n)=ops.size:=by
      have:left (Array.replicate ops.size false) n=n:=by
       unfold left
       rw [List.filter_eq_self.2 (fun i _=>by rw [getD_replicate_false]; rfl)]
       simp
      omega
     obtain ⟨hN,hdf,φ,M,hF,hW,hφ⟩:=hS
     have hinv:InvD Γ σ (Qc9 (ops.toList.take n)) done (Array.replicate ops.size false) a { w with drawn:=w.drawn+1 }:=by
      refine ⟨hN,hdf,φ,M,fun t=>?_,?_,fun id hid _=>hφ id hid⟩
      ·have hbel:Below w.heap.size w { w with drawn:=w.drawn+1 }:=⟨rfl,rfl,rfl,Nat.le_refl _,fun _ _=>rfl⟩
       have he:=hW.ex_grow hbel
       rcases Qbj (dsts:=Qc9 (ops.toList.take n)) (L:=σ.L) (S:=fun i=>(Array.replicate ops.size false).getD i false) (t:=t) (l:=done) with ⟨y,hy,k1,k2,k3⟩|⟨k1,k2⟩
       ·rw [getD_replicate_false] at k2; cases k2
       ·rw [k2]
        cases (Qc9 (ops.toList.take n)).contains t with
        | true=>trivial
        | false=>exact AR.mono he (hF t)
      ·have hbel:Below w.heap.size w { w with drawn:=w.drawn+1 }:=⟨rfl,rfl,rfl,Nat.le_refl _,fun _ _=>rfl⟩
       refine (hW.grow hbel).less fun id ob hid=>?_
       have e1:updOf (fun i=>(Array.replicate ops.size false).getD i false) done id=none:=Qeb fun x _ _ _=>getD_replicate_false _ _
       unfold QcT at hid
       rw [e1] at hid
       simp only at hid
       rcases Qdd (H:=σ.H) (S:=fun i=>(Array.replicate ops.size false).getD i false) hwf id with ⟨x,hx,h1,h2⟩|⟨h1,h2⟩
       ·rw [QcU hwf hx h1 h2,getD_replicate_false] at hid; cases hid
       ·rw [h2] at hid; exact hid
     have inv0:HeadInv .any ops n (Array.replicate ops.size false) :=
      ⟨by simp,fun j oj _ hl=>(by rw [getD_replicate_false] at hl; cases hl),fun t _ ht=>getD_in (by simpa using ht) (getD_replicate_false _ _)⟩
     have:=Qkz (tail:=[]) hB hD hob.2.1 hst hob.2.2 hQ _ _ a _ rfl inv0 hinv
     rw [hsz] at this
     exact this
   ·cases hf
 ·cases hf
end
end Go.Proofs.YtpkkaboonnedfaaDoor
namespace Go.Proofs.YtpkkaboonnedfaaDoor
set_option linter.unusedSimpArgs false
set_option linter.unusedVariables false
set_option linter.unusedSectionVars false
set_option exponentiation.threshold 300
open Go.RowKit
section
variable {P : Program} {Γ : Gam} {body : Code} {R : Exit → Act → World → Prop} {a : Act} {w : World} {hs : List Hint}
theorem Qhv (body:Code):∀ (n p:Nat),p<2 ^ n→cdAt body n p=cdAt body (n+1) p
 | 0,p,h=>by
  have:p=0:=by simpa using h
  subst this; rfl
 | n+1,p,h=>by
  show (bif Nat.ble p 1 then body else child (p % 2 == 1) (cdAt body n (p / 2)))=(bif Nat.ble p 1 then body else child (p % 2 == 1) (cdAt body (n+1) (p / 2)))
  rw [Qhv body n (p / 2) (by rw [Nat.pow_succ] at h; omega)]
theorem QiB {p:Nat} (h:(Nat.ble 1 p&&Nat.blt p QgC)=true) (k:Bool):cd body (2*p+cond k 1 0)=child k (cd body p):=by
 rw [Bool.and_eq_true] at h
 have h1:1≤p:=Nat.le_of_ble_eq_true h.1
 have h2:p<2 ^ 250:=Nat.le_of_ble_eq_true h.2
 have h3:p<2 ^ 299:=Nat.lt_of_lt_of_le h2 (Nat.pow_le_pow_right (by omega) (by omega))
 have h4:=Qhv body 299 p h3
 show (bif Nat.ble (2*p+cond k 1 0) 1 then body else child ((2*p+cond k 1 0) % 2 == 1) (cdAt body 299 ((2*p+cond k 1 0) / 2)))=child k (cdAt body 300 p)
 have h5:Nat.ble (2*p+cond k 1 0) 1=false:=by
  rw [← Bool.not_eq_true]; intro h; have:=Nat.le_of_ble_eq_true h; omega
 have h6:(2*p+cond k 1 0) / 2=p:=by cases k <;> simp <;> omega
 have h7:((2*p+cond k 1 0) % 2 == 1)=k:=by cases k <;> simp <;> omega
 rw [h5,h6,h7,h4]; rfl
theorem QjF {p:Nat} (h:(Nat.ble 1 p&&Nat.blt p QgC)=true):cd body (2*p)=child false (cd body p):=QiB h false
theorem Qgx {id:Nat}:∀ {k k':List It},exitK id k=some k'→exitTo id (k.map (It.item body))=some (k'.map (It.item body))
 | [],_,h=>by cases h
 | .c p :: k,k',h=>Qgx (k:=k) h
 | .l p :: k,k',h=>Qgx (k:=k) h
 | .b i :: k,k',h=>by
  simp only [exitK] at h
  simp only [List.map_cons,It.item,exitTo]
  cases hi:(i == id) with
  | true=>rw [hi] at h; cases h; rfl
  | false=>rw [hi] at h; exact Qgx (k:=k) h
theorem Qjm {cf:Cf} {r:Rn} (hf:run1 P body cf hs=some r) (hob:allP r.obs) (hS:Sim Γ cf.σ a w) (hK:∀ a' w',Sim Γ r.cf.σ a' w'→KW P body r.cf.k R a' w'):KW P body cf.k R a w:=by
 intro b cs
 have go:∀ a' w',Sim Γ r.cf.σ a' w'→Steps P (lone (b.at a (cf.k.map (It.item body))) cs w) (lone (b.at a' (r.cf.k.map (It.item body))) cs w') →
   ∃ e a' w',R e a' w'∧Arrives P (lone (b.at a (cf.k.map (It.item body))) cs w) b [] cs e a' w':=fun a' w' hS' hst=>let ⟨e,a2,w2,hR,ha⟩:=hK a' w' hS' b cs; ⟨e,a2,w2,hR,.of_steps hst ha⟩
 unfold run1 at hf
 split at hf
 ·cases hf
 ·rename_i id k hk; cases hf; exact go a w hS (by rw [hk]; exact .one step_inBlock)
 ·rename_i p k hk; cases hf; exact go a w hS (by rw [hk]; exact .one step_inLoop)
 ·rename_i p k hk
  cases hp:(Nat.ble 1 p&&Nat.blt p QgC) with
  | false=>rw [hp] at hf; cases hf
  | true =>
   rw [hp] at hf
   simp only [Bool.not_true,cond_false] at hf
   rw [hk] at go ⊢
   simp only [List.map_cons,It.item] at go ⊢
   have h0:=QjF (body:=body) hp
   have h1:=QiB (body:=body) hp true
   simp only [cond_true] at h1
   split at hf
   ·rename_i hc; rw [hc] at go ⊢; cases hf; exact go a w hS (.one step_skip)
   ·rename_i x y hc
    rw [hc] at go ⊢ h0 h1; cases hf
    simp only [List.map_cons,It.item,h0,h1,child,cond_true,cond_false] at go
    exact go a w hS (.one step_seq)
   ·rename_i id x hc
    rw [hc] at go ⊢ h0; cases hf
    simp only [List.map_cons,It.item,h0,child] at go
    exact go a w hS (.one step_block)
   ·rename_i x hc
    rw [hc] at go ⊢ h0; cases hf
    simp only [List.map_cons,It.item,h0,child] at go
    exact go a w hS (.one step_loop)
   ·rename_i c x y hc
    split at hf
    ·rename_i b1 t hs' hv
     rw [hc] at go ⊢ h0 h1; cases hf
     have hb:b1=t:=hob.1
     obtain ⟨hN,hdf,φ,M,hF,hW,hφ⟩:=hS
     have h2:=Qha hF c
     rw [hv] at h2
     have h3:=Qd4 h2
     subst hb
     refine go a w ⟨hN,hdf,φ,M,hF,hW,hφ⟩ ?_
     have h4:=step_cond (P:=P) (b:=b) (k:=k.map (It.item body)) (cs:=cs) (w:=w) (x:=x) (y:=y) h3
     cases b1 with
     | true=>simp only [List.map_cons,It.item,cond_true,Nat.add_zero,h0,child,cond_false]; exact .one h4
     | false=>simp only [List.map_cons,It.item,cond_false,h1,child,cond_true]; exact .one h4
    ·cases hf
   ·rename_i id hc
    rw [hc] at go ⊢
    cases hx:exitK id k with
    | none=>rw [hx] at hf; cases hf
    | some k' =>
     rw [hx] at hf; cases hf
     exact go a w hS (.one (step_exit (Qgx hx)))
   ·rename_i id ops draw hc
    rw [hc] at go ⊢
    have hw:∀ s:St,(bif draw then QgP P ops cf.σ hs else Qe7 P ops ops.toList cf.σ hs)=some s→allP s.obs→(Code.region id ops draw).wp P (fun e a' w'=>e=.normal∧Sim Γ s.σ a' w') a w:=by
     intro s hs1 ho
     cases draw with
     | true=>exact QgQ hs1 ho hS fun a' w' h=>⟨rfl,h⟩
     | false=>exact wp_region_list (Qd8 _ hs1 ho hS fun a' w' h=>⟨rfl,h⟩)
    cases hx:(bif draw then QgP P ops cf.σ hs else Qe7 P ops ops.toList cf.σ hs) with
    | none=>rw [hx] at hf; cases hf
    | some s =>
     rw [hx] at hf; cases hf
     obtain ⟨e,a',w',⟨rfl,hS'⟩,har⟩:=hw s hx hob b (k.map (It.item body)) cs
     exact go a' w' hS' har
   ·cases hf
theorem Qfl:∀ (n:Nat) {cf:Cf} {r:Rn} {hs:List Hint} {a:Act} {w:World},runN' P body n cf hs=some r→allP r.obs→Sim Γ cf.σ a w→(∀ a' w',Sim Γ r.cf.σ a' w'→KW P body r.cf.k R a' w')→KW P body cf.k R a w
 | 0,cf,r,hs,a,w,hf,_,hS,hK=>by cases hf; exact hK a w hS
 | n+1,cf,r,hs,a,w,hf,hob,hS,hK=>by
  simp only [runN'] at hf
  split at hf
  ·rename_i σ0 o0 hs0 hg
   split at hf
   ·rename_i r1 h1
    split at hf
    ·rename_i r2 h2
     cases hf
     simp only [Qag] at hob
     exact Qjm (cf:=⟨cf.k,σ0⟩) h1 hob.1.2 (QfI hg hob.1.1 hS) fun a' w' hS'=>Qfl n h2 hob.2 hS' hK
    ·cases hf
   ·cases hf
  ·cases hf
end
section
variable {P : Program} {Γ : Gam} {φ φ2 : Pl} {M : Nat → Prop} {w : World} {a : Act} {m : Nat → Option Nat}
def cutP (φ:Pl) (ids:List Nat):Pl:=fun i=>match ids[i]? with
 | some j=>φ j
 | none=>none
theorem Qgo {ids:List Nat} {i j:Nat} (h:ids[i]?=some j):cutP φ ids i=φ j:=by unfold cutP; rw [h]
theorem QiE {ids:List Nat}:∀ id k p,posOf ids 0 id=some k→φ id=some p→cutP φ ids k=some p:=fun id k p h hp=>(Qgo (by simpa using (Qf3 h).2)).trans hp
theorem QkR {live:List Nat} {σ:SS} {f:AV→AV} (t:Nat):look (live.map fun t=>(t,f (look σ.L t))) t=f (look σ.L t)∨look (live.map fun t=>(t,f (look σ.L t))) t=.unk:=by
 induction live with
 | nil=>exact .inr rfl
 | cons x r ih =>
  simp only [List.map_cons,look]
  cases h:(x == t) with
  | true =>
   have:x=t:=by simpa using h
   subst this; exact .inl rfl
  | false=>exact ih
theorem QjJ {σ:SS} {ids:List Nat} {i:Nat} {ob':Ob} (h:hl (ids.map fun i=>(hl σ.H i).map (renOb m)) i=some ob'):∃ j ob,ids[i]?=some j∧hl σ.H j=some ob∧ob'=renOb m ob:=by
 unfold hl at h
 rw [List.getElem?_map] at h
 cases hj:ids[i]? with
 | none=>rw [hj] at h; cases h
 | some j =>
  rw [hj] at h
  simp only [Option.map_some,Option.join_some] at h
  cases ho:(σ.H[j]?).join with
  | none=>rw [ho] at h; cases h
  | some ob=>rw [ho] at h; cases h; exact ⟨j,ob,rfl,ho,rfl⟩
theorem Qlb {σ:SS} {ids pin:List Nat} (hn:noDup ids=true) (hp:pinOk pin ids=true) (hpin:∀ p∈Γ.pins,p.1∈pin) (hW:Wd Γ φ M (hl σ.H) w) :
  Wd Γ (cutP φ ids) M (hl (ids.map fun i=>(hl σ.H i).map (renOb (posOf ids 0)))) w:=by
 refine ⟨fun i ob' h=>?_,fun i j oi oj b Ci Cj h1 h2 h3 h4=>?_,hW.mlt,hW.m0,hW.mold,fun i ob b C h1 h2=>?_,hW.keep,hW.os,hW.tape,hW.output,hW.size,fun p hpp=>?_,hW.tbw⟩
 ·obtain ⟨j,ob,h1,h2,rfl⟩:=QjJ h
  exact Qf6 QiE (Qgo h1) (hW.obs j ob h2)
 ·obtain ⟨i',ob1,g1,g2,-⟩:=QjJ h1
  obtain ⟨j',ob2,g3,g4,-⟩:=QjJ h2
  rw [Qgo g1] at h3
  rw [Qgo g3] at h4
  have:=hW.inj i' j' ob1 ob2 b Ci Cj g2 g4 h3 h4
  subst this
  have hi:=(List.getElem?_eq_some_iff.1 g1).1
  exact (List.getElem?_inj hi (Qf0 hn)).1 (g1.trans g3.symm)
 ·obtain ⟨i',ob1,g1,g2,-⟩:=QjJ h1
  rw [Qgo g1] at h2
  exact hW.own i' ob1 b C g2 h2
 ·have h1:=hW.pin p hpp
  have h2:=List.all_eq_true.1 hp p.1 (hpin p hpp)
  cases hi:ids[p.1]? with
  | none=>rw [hi] at h2; cases h2
  | some j =>
   rw [hi] at h2
   have:p.1=j:=by simpa using h2
   rw [Qgo hi,← this]; exact h1
theorem QiF {ids:List Nat} (f:Nat→Option Ob):∀ id,(ids.map f).length≤id→cutP φ ids id=none:=fun id h=>by
 unfold cutP
 rw [List.length_map] at h
 rw [List.getElem?_eq_none h]
theorem Qla {σ:SS} {live ids pin:List Nat} (hn:noDup ids=true) (hp:pinOk pin ids=true) (hpin:∀ p∈Γ.pins,p.1∈pin) (hS:Sim Γ σ a w):Sim Γ (cut live ids σ) a w:=by
 obtain ⟨hN,hdf,φ,M,hF,hW,hφ⟩:=hS
 refine ⟨hN,hdf,cutP φ ids,M,fun t=>?_,Qlb hn hp hpin hW,QiF _⟩
 rcases QkR (live:=live) (σ:=σ) (f:=renAV (posOf ids 0)) t with h|h
 ·show AR w M _ (look (live.map fun t=>(t,renAV (posOf ids 0) (look σ.L t))) t) _
  rw [h]; exact QgF QiE (hF t)
 ·show AR w M _ (look (live.map fun t=>(t,renAV (posOf ids 0) (look σ.L t))) t) _
  rw [h]; trivial
def resF (tmps:Array Value):ResultVar→Sem Value
 | .tmp t=>pure (tmps.getD t undef)
 | .cell a t=>do loadVar t (← asAddr (tmps.getD a undef))
theorem Qi2 {α:Type} {f:α→Sem Value}:∀ {xs:List α} {vs:List Value},Rs (fun x v=>(f x).run P w=.ok v w) xs vs→(xs.mapM f).run P w=.ok vs w
 | [],[],_=>rfl
 | x :: xs,v :: vs,h=>by
  rw [List.mapM_cons]
  simp only [Sem.run_bind,h.1,Result.andThen_ok,Qi2 h.2,Sem.run_pure]
 | [],_ :: _,h=>h.elim
 | _ :: _,[],h=>h.elim
theorem Qif {fn:Func} {tmps:Array Value} {vs:List Value} (h:Rs (fun x v=>(resF tmps x).run P w=.ok v w) fn.results.toList vs) :
  (results fn tmps).run P w=.ok (if h:vs.toArray.size=1 then vs.toArray[0] else .tuple vs.toArray) w:=by
 have h1:=Qi2 h
 have h2:(fn.results.mapM (resF tmps)).run P w=.ok vs.toArray w:=by
  rw [Array.mapM_eq_mapM_toList]
  simp only [map_eq_pure_bind,Sem.run_bind,h1,Result.andThen_ok,Sem.run_pure]
 have h3:results fn tmps=(do let vs ← fn.results.mapM (resF tmps); pure (if h:vs.size=1 then vs[0] else .tuple vs)):=rfl
 rw [h3]
 simp only [Sem.run_bind,h2,Result.andThen_ok,Sem.run_pure]
theorem Qlp {L:Nat→AV} {h:Nat→Option Ob} {x:ResultVar} {c:Cm} (hx:resC L h P x=some c) (hF:∀ t,AR w M φ (L t) (a.tmps.getD t undef)) (hW:Wd Γ φ M h w) :
  ∃ v,(resF a.tmps x).run P w=.ok v w∧CR w M φ c v:=by
 cases x with
 | tmp t =>
  simp only [resC] at hx
  split at hx
  ·rename_i c0 hc
   cases hx
   have:=hF t
   rw [hc] at this
   exact ⟨_,rfl,this⟩
  ·cases hx
 | cell t ty =>
  simp only [resC] at hx
  split at hx
  ·rename_i id sz row off n rw_ h1 h2 h3
   split at hx
   ·rename_i ob hob
    split at hx
    ·rename_i cells hbx hrows
     cases hc:(row == 0&&ob.sz == sz) with
     | false=>rw [hc] at hx; cases hx
     | true =>
      rw [hc] at hx
      simp only [cond_true] at hx
      simp only [Bool.and_eq_true,beq_iff_eq] at hc
      have h4:=hF t
      rw [h1] at h4
      obtain ⟨b,C,hφ,hv⟩:=(h4:LR0 w M φ (.op id sz row off) (a.tmps.getD t undef))
      have hO:=hW.obs id ob hob
      obtain ⟨v,hl,hcr⟩:=Qe2 (M:=M) (φ:=φ) (b:=b) (k:=row*sz) h2 h3 hx fun i l hl=>by
       have:=hO.cell' (i:=0) (.inr ⟨_,hrows⟩) hφ (by rw [hrows]; rfl) i l hl
       rw [hc.1,Nat.zero_mul]; rwa [Nat.zero_mul] at this
      refine ⟨v,?_,hcr⟩
      simp only [resF,hv,Sem.run_bind]
      simpa [asAddr] using hl
    ·cases hx
   ·cases hx
  ·cases hx
theorem Qjk {L:Nat→AV} {h:Nat→Option Ob} (hF:∀ t,AR w M φ (L t) (a.tmps.getD t undef)) (hW:Wd Γ φ M h w):∀ {xs:List ResultVar} {cs:List Cm},resCs L h P xs=some cs →
  ∃ vs,Rs (fun x v=>(resF a.tmps x).run P w=.ok v w) xs vs∧Rs (CR w M φ) cs vs
 | [],cs,hx=>by cases hx; exact ⟨[],trivial,trivial⟩
 | x :: xs,cs,hx=>by
  simp only [resCs] at hx
  split at hx
  ·rename_i c cs' h1 h2
   cases hx
   obtain ⟨v,g1,g2⟩:=Qlp h1 hF hW
   obtain ⟨vs,g3,g4⟩:=Qjk hF hW h2
   exact ⟨v :: vs,⟨g1,g3⟩,g2,g4⟩
  ·cases hx
theorem QkX:∀ {cs:List Cm} {vs:List Value},Rs (CR w M φ) cs vs→AR w M φ (resAV cs) (if h:vs.toArray.size=1 then vs.toArray[0] else .tuple vs.toArray)
 | [],[],_=>⟨[],rfl,trivial⟩
 | [c],[v],h=>h.1
 | c :: d :: cs,v :: u :: vs,h=>by
  rw [dif_neg (by simp)]
  exact ⟨_,rfl,h⟩
 | [],_ :: _,h=>h.elim
 | _ :: _,[],h=>h.elim
 | [_],_ :: _ :: _,h=>h.2.elim
 | _ :: _ :: _,[_],h=>h.2.elim
end
section
variable {P : Program} {fn : Func} {pin : List Nat} {Γ : Gam} {r : AV} {H1 : List (Option Ob)}
theorem go_run (n:Nat) (live ids:List Nat) (hs:List Hint) {cf cf':Cf} {ob:Prop} (h:runC P (Qgf fn) n live ids cf hs=some (cf',ob)) (hp:pinOk pin ids=true) (hob:ob)
  (hg:Go P fn pin Γ r H1 cf'):Go P fn pin Γ r H1 cf:=by
 intro hpin a w hS
 unfold runC at h
 split at h
 ·rename_i rn hr
  split at h
  ·rename_i σ o hgh
   cases hn:noDup ids with
   | false=>rw [hn] at h; cases h
   | true =>
    rw [hn] at h; cases h
    rw [Qag] at hob
    exact Qfl n hr hob.1 hS fun a' w' hS'=>hg hpin a' w' (Qla hn hp hpin (QfI hgh hob.2 hS'))
  ·cases h
 ·cases h
theorem go_ret (n:Nat) (ids:List Nat) (hs:List Hint) {cf:Cf} {ob:Prop} (h:retC P fn n ids cf hs=some (r,H1,ob)) (hp:pinOk pin ids=true) (hob:ob):Go P fn pin Γ r H1 cf:=by
 intro hpin a w hS
 unfold retC at h
 split at h
 ·rename_i rn hr
  cases hk:atRet (Qgf fn) rn.cf.k with
  | false=>rw [hk] at h; cases h
  | true =>
   rw [hk] at h
   simp only [cond_true] at h
   split at h
   ·rename_i σ o hgh
    split at h
    ·rename_i cs hcs
     cases hn:noDup ids with
     | false=>rw [hn] at h; cases h
     | true =>
      rw [hn] at h; cases h
      rw [Qag] at hob
      refine Qfl n hr hob.1 hS fun a' w' hS'=>?_
      obtain ⟨hN,hdf,φ,M,hF,hW,hφ⟩:=QfI hgh hob.2 hS'
      have hRR:∀ e,(e=Exit.ret∨e=.normal)→RR P fn Γ (renAV (posOf ids 0) (resAV cs)) (ids.map fun i=>(hl σ.H i).map (renOb (posOf ids 0))) e a' w':=by
       intro e he
       obtain ⟨vs,h1,h2⟩:=Qjk hF hW hcs
       exact ⟨he,hdf,_,cutP φ ids,M,Qif h1,QgF QiE (QkX h2),Qlb hn hp hpin hW,QiF _⟩
      intro b cs'
      unfold atRet at hk
      split at hk
      ·rename_i hk0
       rw [hk0]
       exact ⟨.normal,a',w',hRR _ (.inr rfl),.refl _ _⟩
      ·rename_i p k hk0
       unfold isRet at hk
       split at hk
       ·rename_i hc
        rw [hk0]
        refine ⟨.ret,a',w',hRR _ (.inl rfl),.code .ret :: k.map (It.item (Qgf fn)),?_⟩
        simp only [List.map_cons,It.item,hc]
        exact .one step_ret
       ·cases hk
      ·cases hk
    ·cases h
   ·cases h
 ·cases h
structure Ev where
 hs:List Hint
 ob:Prop→Prop
 pf:∀ q:Prop,q→ob q
def evH:List Ev→List Hint
 | []=>[]
 | e :: r=>e.hs++evH r
def evP:List Ev→Prop
 | []=>True
 | e :: r=>e.ob (evP r)
theorem evOk:∀ l:List Ev,evP l
 | []=>trivial
 | e :: r=>e.pf _ (evOk r)
theorem gn (n:Nat) (live ids:List Nat) (es:List Ev) {cf cf':Cf} (hg:Go P fn pin Γ r H1 cf') (h:runC P (Qgf fn) n live ids cf (evH es)=some (cf',evP es):=by kernel_rfl) (hp:pinOk pin ids=true:=by kernel_rfl):Go P fn pin Γ r H1 cf :=
 go_run n live ids (evH es) h hp (evOk es) hg
theorem gr (n:Nat) (ids:List Nat) (es:List Ev) {cf:Cf} (h:retC P fn n ids cf (evH es)=some (r,H1,evP es):=by kernel_rfl) (hp:pinOk pin ids=true:=by kernel_rfl):Go P fn pin Γ r H1 cf:=go_ret n ids (evH es) h hp (evOk es)
def rp:Nat→Ev→Ev
 | 0,_=>⟨[],fun q=>q,fun _ h=>h⟩
 | n+1,e=>⟨e.hs++(rp n e).hs,fun q=>e.ob ((rp n e).ob q),fun q h=>e.pf _ ((rp n e).pf q h)⟩
def hH (h:Hint):Ev:=⟨[h],fun q=>q,fun _ k=>k⟩
def hP:Ev:=hH .spec
def hW (n:Nat):Ev:=hH (.wait n)
def oO {p:Prop} (h:p):Ev:=⟨[],fun q=>p∧q,fun _ k=>⟨h,k⟩⟩
def oI (p:Prop):Ev:=oO (fun h:p=>h)
def oR (a b:Prop):Ev:=oO (fun h:a∧b=>h.2)
def bT {b:Bool} (h:b=true):Ev:=⟨[.bit true],fun q=>b=true∧q,fun _ k=>⟨h,k⟩⟩
def bF {b:Bool} (h:b=false):Ev:=⟨[.bit false],fun q=>b=false∧q,fun _ k=>⟨h,k⟩⟩
def tT:Ev:=bT (Eq.refl true)
def fF:Ev:=bF (Eq.refl false)
def nT {b:Bool} (h:b=false):Ev:=bT (notT h)
def nF {b:Bool} (h:b=true):Ev:=bF (notF h)
def kF:Ev:=⟨[.skip],fun q=>(False→False)∧q,fun _ k=>⟨id,k⟩⟩
def nL {α:Type} (e:α→List Lf) (l:List α):Ev:=⟨[.num l.length],fun q=>(l.map e).length=l.length∧q,fun _ k=>⟨lenM e l,k⟩⟩
def cE {α:Type} (e:α→List Lf) {l:List α} {i:Int} {a:α} (h:getI l i=some a):Ev:=⟨[.cells (e a)],fun q=>getI (l.map e) i=some (e a)∧q,fun _ k=>⟨getM e h,k⟩⟩
def rE {α:Type} (e:α→List Lf) {l:List α} {i:Int} {a:α} (h:getI l i=some a):Ev:=⟨[.cells (e a)],fun q=>(l.map e)[0+i.toNat]?=some (e a)∧q,fun _ k=>⟨rowM e h,k⟩⟩
def yE {s:ByteArray} {i:Int} {b:UInt8} (h:getS s i=some b):Ev:=⟨[.byte b],fun q=>getS s i=some b∧q,fun _ k=>⟨h,k⟩⟩
def cI {P:Program} {f:FuncId} {args:List Cm} {H0:List Ob} {r:AV} {H1:List (Option Ob)} (ids:List Nat) (h:AFn P f args H0 r H1):Ev:=⟨[.call ids r H1],fun q=>AFn P f args H0 r H1∧q,fun _ k=>⟨h,k⟩⟩
def cC {P:Program} {f:FuncId} {args:List Cm} {H0:List Ob} {r:AV} {H1:List (Option Ob)} (h:AFn P f args H0 r H1):Ev:=cI [] h
def eL {α:Type} (l:List α) (f:α→List Lf):Ev:=oO (Eq.refl (l.map f).length)
def aN {α:Type} (e:α→List Lf) {l:List α} {b:Nat} (h:okN l.length b) (hb:Nat.blt 0 b=true:=by rfl):Ev:=⟨[.rows (l.map e)],fun q=>l.map e=l.map e∧(l.map e).length*b≤140737488355328∧(l.map e).length≤9223372036854775807∧q,
 fun _ k=>⟨rfl,okLe e h,okLe2 e (by simpa using hb) h,k⟩⟩
def aZ {α:Type} (e:α→List Lf) {l:List α} {b:Nat} (h:okN l.length b) (hb:Nat.blt 0 b=true:=by rfl):Ev:=⟨[.rows (l.map e)],fun q=>l.map e=l.map e∧(l.map e=[]→([]:List (List Lf))=[])∧(l.map e).length*b≤140737488355328∧(l.map e).length≤9223372036854775807∧q,
 fun _ k=>⟨rfl,neZ e l,okLe e h,okLe2 e (by simpa using hb) h,k⟩⟩
def aO {α:Type} (e:α→List Lf) {l m:List α} {b:Nat} (h:okN (l++m).length b) (hb:Nat.blt 0 b=true:=by rfl):Ev:=⟨[.rows ((l++m).map e)],
 fun q=>(l.map e).length=(l.map e).length∧l.map e++m.map e=(l++m).map e∧((l++m).map e).length*b≤140737488355328∧((l++m).map e).length≤9223372036854775807∧q,
 fun _ k=>⟨rfl,appM e l m,okLe e h,okLe2 e (by simpa using hb) h,k⟩⟩
section
variable {K V : Type}
def mE (ek:K→List Lf) (ev:V→Lf) (p:K×V):List Lf:=ev p.2 :: ek p.1
def kS (s:ByteArray):List Lf:=[.str s]
def bM {α:Type} (ety:TypeId) (l:List α) (e:α→List Lf):Ob:=⟨true,1,ety,[] :: [] :: l.map e⟩
def oM {α:Type} (ety:TypeId) (l:List α) (e:α→List Lf):Option Ob:=some (bM ety l e)
theorem kqS (a b:ByteArray):kEqs (kS a) (kS b)=some (eqY a b):=by show some (eqY a b&&true)=_; rw [Bool.and_true]
theorem QjT {ek:K→List Lf} {eq:K→K→Bool} (hk:∀ a b,kEqs (ek a) (ek b)=some (eq a b)) (ev:V→Lf) (u:Unit) (l:List (K×V)) (k:K) (z:V):mpGet (l.map (mE ek ev)) (ek k) (ev z)=some (ev (mGet eq l k z)):=by
 induction l with
 | nil=>rfl
 | cons p r ih =>
  show (match kEqs (ek k) (ek p.1) with
   | some true=>some (ev p.2)
   | some false=>mpGet (r.map (mE ek ev)) (ek k) (ev z)
   | none=>none)=some (ev (mGet eq (p :: r) k z))
  rw [hk]
  simp only [mGet]
  cases eq k p.1 with
  | true=>rfl
  | false=>exact ih
theorem QjU {ek:K→List Lf} {eq:K→K→Bool} (hk:∀ a b,kEqs (ek a) (ek b)=some (eq a b)) (ev:V→Lf) (u:Unit) (l:List (K×V)) (k:K) (v:V):mpPut (l.map (mE ek ev)) (ek k) (ev v)=some ((mPut eq l k v).map (mE ek ev)):=by
 induction l with
 | nil=>rfl
 | cons p r ih =>
  show (match kEqs (ek k) (ek p.1) with
   | some true=>some ((ev v :: ek k) :: r.map (mE ek ev))
   | some false=>(mpPut (r.map (mE ek ev)) (ek k) (ev v)).map ((ev p.2 :: ek p.1) :: ·)
   | none=>none)=some ((mPut eq (p :: r) k v).map (mE ek ev))
  rw [hk]
  simp only [mPut]
  cases eq k p.1 with
  | true=>rfl
  | false=>rw [ih]; rfl
end
def mG {K V:Type} {ek:K→List Lf} {eq:K→K→Bool} (hk:∀ a b,kEqs (ek a) (ek b)=some (eq a b)) (ev:V→Lf) (l:List (K×V)) (k:K) (z:V):Ev:=⟨[.cells [ev (mGet eq l k z)]],fun q=>mpGet (l.map (mE ek ev)) (ek k) (ev z)=some (ev (mGet eq l k z))∧q,fun _ h=>⟨QjT hk ev () l k z,h⟩⟩
def mU {K V:Type} {ek:K→List Lf} {eq:K→K→Bool} (hk:∀ a b,kEqs (ek a) (ek b)=some (eq a b)) (ev:V→Lf) (l:List (K×V)) (k:K) (v:V):Ev:=⟨[.rows ((mPut eq l k v).map (mE ek ev))],fun q=>mpPut (l.map (mE ek ev)) (ek k) (ev v)=some ((mPut eq l k v).map (mE ek ev))∧q,fun _ h=>⟨QjU hk ev () l k v,h⟩⟩
def vI (t:Nat) (n:Int):Nat×AV:=(t,one (lI n))
def vB (t:Nat) (b:Bool):Nat×AV:=(t,one (.bool b))
def vS (t:Nat) (s:ByteArray):Nat×AV:=(t,one (.str s))
def vL {α:Type} (t sz:Nat) (l:List α) (e:α→List Lf):Nat×AV:=(t,one (lL sz l e))
def vO {α:Type} (t id sz:Nat) (l:List α) (e:α→List Lf):Nat×AV:=(t,one (lO id sz l e))
def vP (t id sz:Nat):Nat×AV:=(t,one (.op id sz 0 0))
def gG (c:List Lf):AV:=.cm (.agg c)
def bX (sz:Nat) (ety:TypeId) (c:List Lf):Ob:=⟨true,sz,ety,[c]⟩
def bS {α:Type} (sz:Nat) (ety:TypeId) (l:List α) (e:α→List Lf):Ob:=⟨false,sz,ety,l.map e⟩
def oX (sz:Nat) (ety:TypeId) (c:List Lf):Option Ob:=some (bX sz ety c)
def oS {α:Type} (sz:Nat) (ety:TypeId) (l:List α) (e:α→List Lf):Option Ob:=some (bS sz ety l e)
theorem oJ {α:Type} {a b:α} (h:some a=some b):b=a:=(Option.some.inj h).symm
theorem oK {α:Type} {a b:α} (h:some a=some b):a=b:=Option.some.inj h
theorem Qbv {S E:Type} {B:S→Option (S⊕E)} {C:S→Prop} {D:E→Prop} (hstep:∀ s x,B s=some x→(∀ ⦃s'⦄,some (Sum.inl s')=some x→C s')→(∀ ⦃e⦄,some (Sum.inr e)=some x→D e)→C s):∀ ⦃s:S⦄ ⦃e:E⦄,loopF B s=some e→D e→C s:=fun _ _ h hD=>QkT C D (fun s x h1 h2 h3=>hstep s x h1 (fun _ h=>h2 _ (oJ h)) (fun _ h=>h3 _ (oJ h))) h hD
theorem QaE {α:Type} {b:Bool} {x y:Option α} {r:α}:br b x y=some r↔(b=true∧x=some r)∨(b=false∧y=some r):=by
 cases b
 ·exact ⟨fun h=>.inr ⟨rfl,h⟩,fun h=>h.elim (fun h=>nomatch h.1) fun h=>h.2⟩
 ·exact ⟨fun h=>.inl ⟨rfl,h⟩,fun h=>h.elim (fun h=>h.2) fun h=>nomatch h.1⟩
theorem Qal {α β:Type} {o:Option α} {f:α→Option β} {r:β}:bnd o f=some r↔∃ a,o=some a∧f a=some r :=
 ⟨Qkv,fun ⟨a,h,h'⟩=>by rw [h]; exact h'⟩
theorem Qam {α:Type} {p:Prop} [Decidable p] {x:Option α} {r:α}:chk p x=some r↔p∧x=some r :=
 ⟨Qkx,fun ⟨h,h'⟩=>by unfold chk; rw [if_pos h]; exact h'⟩
theorem zL (n:Nat):(0:Int)≤n:=Int.natCast_nonneg n
theorem oA {n:Int} (h:(n == 0)=false:=by rfl):n≠0:=by simpa using h
theorem QhI:∀ {args:List Cm} {i t:Nat},look (QeB i args) t=(if i≤t then (match args[t-i]? with
  | some c=>.cm c
  | none=>.unk) else .unk)
 | [],i,t=>by simp [QeB,look]
 | c :: r,i,t=>by
  simp only [QeB,look]
  by_cases h:i=t
  ·subst h; simp
  ·have:(i == t)=false:=by simpa using h
   rw [this,cond_false,QhI]
   by_cases h1:i≤t
   ·rw [if_pos h1,if_pos (by omega),show t-i=(t-(i+1))+1 by omega]; simp
   ·rw [if_neg h1,if_neg (by omega)]
theorem Qki {φ:Pl}:∀ {H0:List Ob} {i:Nat} {p:Nat×Nat},p∈Qe3 φ i H0→p.1∈Qiv i H0
 | [],_,_,h=>by cases h
 | o :: r,i,p,h=>by
  simp only [Qe3,List.mem_append] at h
  simp only [Qiv,List.mem_append]
  rcases h with h|h
  ·left
   split at h
   ·rename_i b C hb hφ
    rw [hb]
    simp only [List.mem_singleton] at h
    subst h; simp
   ·cases h
  ·right; exact Qki h
theorem Qlu {f:FuncId} {args:List Cm} {H0:List Ob} (hf:P.funcs[f]?=some fn) (hb:fn.body.isSome=true) (hn:(Nat.ble args.length fn.ntmps&&!(fn.name == "runtime.NumGoroutine"))=true)
  (h:∀ Γ,Go P fn (Qiv 0 H0) Γ r H1 ⟨[.c 1],⟨fn.ntmps,QeB 0 args,H0.map some⟩⟩):AFn P f args H0 r H1:=by
 rw [Bool.and_eq_true] at hn
 refine ⟨by unfold QjE; rw [hf]; simp only [hn.2,hb,Bool.and_self],fun w φ M0 vals hW hφ hA cs=>?_⟩
 have hlen:=hA.len
 have hle:args.length≤fn.ntmps:=Nat.le_of_ble_eq_true hn.1
 obtain ⟨c,hc⟩:=Option.isSome_iff_exists.1 hb
 have hcd:Qgf fn=c:=by unfold Qgf; rw [hc]; rfl
 let b:Frame:={ (default:Frame) with fn:=f,kind:=.normal }
 have henter:Frame.enter P f vals.toArray .normal =
   b.at { tmps:=vals.toArray++Array.replicate (fn.ntmps-vals.toArray.size) undef,defers:=[] } [.code c]:=by
  simp [Frame.enter,Frame.at,hf,hc,b]
 obtain ⟨e,a',w',⟨he,hd,v,φ',M',hr,hv,hW',hφ'⟩,harr⟩:=h ⟨w,fun b=>∃ id C,id<H0.length∧φ id=some (some (b,C)),M0,Qe3 φ 0 H0⟩ (fun p hp=>Qki hp)
  {tmps:=vals.toArray++Array.replicate (fn.ntmps-vals.toArray.size) undef,defers:=[] } w
  ⟨by simp; omega,rfl,φ,M0,fun t=>by
   show AR w M0 φ (look (QeB 0 args) t) _
   rw [QhI,if_pos (Nat.zero_le _),Nat.sub_zero]
   cases ha:args[t]? with
   | none=>trivial
   | some c =>
    obtain ⟨v,h1,h2⟩:=hA.get ha
    have hlt:t<vals.length:=(List.getElem?_eq_some_iff.1 h1).1
    have:(vals.toArray++Array.replicate (fn.ntmps-vals.toArray.size) undef).getD t undef=v:=by
     rw [Array.getD_eq_getD_getElem?,Array.getElem?_append_left (by simpa using hlt)]
     simp [h1]
    show CR w M0 φ c ((vals.toArray++Array.replicate (fn.ntmps-vals.toArray.size) undef).getD t undef)
    rw [this]; exact h2,by
   have:hl (H0.map some)=fun id=>H0[id]?:=by
    funext id; unfold hl; rw [List.getElem?_map]; cases H0[id]? <;> rfl
   show Wd _ φ M0 (hl (H0.map some)) w
   rw [this]; exact hW,fun id hid=>hφ id (by simpa using hid)⟩ b cs
 have hitem:([It.c 1].map (It.item (Qgf fn)))=[.code c]:=by rw [hcd]; rfl
 rw [hitem,← henter] at harr
 rcases he with rfl|rfl
 ·obtain ⟨todo,hs⟩:=harr
  exact ⟨.returned v,w',_,⟨v,φ',M',rfl,hv,hW',hφ'⟩,hs,rfl,rfl,hd,rfl,fn,hf,hr⟩
 ·exact ⟨.returned v,w',_,⟨v,φ',M',rfl,hv,hW',hφ'⟩,Steps.trans harr (.one step_end),rfl,rfl,hd,rfl,fn,hf,hr⟩
theorem QbK {f:FuncId} {args:List Cm} {H0:List Ob} (hf:P.funcs[f]?=some fn) (h:∀ Γ,Go P fn (Qiv 0 H0) Γ r H1 ⟨[.c 1],⟨fn.ntmps,QeB 0 args,H0.map some⟩⟩) (hb:fn.body.isSome=true:=by kernel_rfl) (hn:(Nat.ble args.length fn.ntmps&&!(fn.name == "runtime.NumGoroutine"))=true:=by kernel_rfl):AFn P f args H0 r H1:=Qlu hf hb hn h
end
end Go.Proofs.YtpkkaboonnedfaaDoor
namespace Go.Proofs.YtpkkaboonnedfaaDoor
set_option linter.unusedSimpArgs false
set_option linter.unusedVariables false
set_option linter.unusedSectionVars false
open Go.RowKit Go.ChangeShapes Go.WideShapes Go.Deep

def isI (n:Int):Prop:=-9223372036854775808≤n∧n≤9223372036854775807

structure Rd (α:Type) where
 size:Nat
 holds:World→List Value→α→Prop
 len:∀ (w:World) (cs:List Value) (x:α),holds w cs x→cs.length=size
 ext:∀ (w w':World) (cs:List Value) (x:α),Below w.heap.size w w'→holds w cs x→holds w' cs x

def SlR {α:Type} (r:Rd α) (w:World) (A:Option Addr) (xs:List α):Prop :=
 ∀ (i:Nat) (x:α),xs[i]?=some x→∃ b off cs,A=some ⟨b,off,none⟩∧b<w.heap.size∧r.holds w cs x∧∀ (j:Nat) (u:Value),cs[j]?=some u→w.cell? ⟨b,off+i*r.size+j,none⟩=some u

theorem SlR.ext {α:Type} {r:Rd α} {w w':World} {A:Option Addr} {xs:List α} (h:SlR r w A xs) (hb:Below w.heap.size w w'):SlR r w' A xs:=fun i x hx=>by
 obtain ⟨b,off,cs,hA,hlt,h1,h2⟩:=h i x hx
 exact ⟨b,off,cs,hA,Nat.lt_of_lt_of_le hlt hb.size,r.ext _ _ _ _ hb h1,fun j u hj=>(hb.cell (p:=⟨b,_,none⟩) hlt).trans (h2 j u hj)⟩
theorem SlR.nil {α:Type} {r:Rd α} {w:World} {A:Option Addr}:SlR r w A []:=fun i x hx=>by simp at hx

namespace Rd
def int:Rd Int:={ size:=1,holds:=fun _ cs n=>cs=[.int .i64 n]∧isI n,len:=fun _ _ _ h=>by rw [h.1]; rfl,ext:=fun _ _ _ _ _ h=>h }
def bool:Rd Bool:={ size:=1,holds:=fun _ cs b=>cs=[.bool b],len:=fun _ _ _ h=>by rw [h]; rfl,ext:=fun _ _ _ _ _ h=>h }
def str (N:Nat):Rd ByteArray:={ size:=1,holds:=fun _ cs s=>cs=[.string s]∧s.size≤N,len:=fun _ _ _ h=>by rw [h.1]; rfl,ext:=fun _ _ _ _ _ h=>h }
def unit:Rd Unit:={ size:=0,holds:=fun _ cs _=>cs=[],len:=fun _ _ _ h=>by rw [h]; rfl,ext:=fun _ _ _ _ _ h=>h }
def pair {α β:Type} (r:Rd α) (s:Rd β):Rd (α×β) :=
 {size:=r.size+s.size,holds:=fun w cs x=>∃ c d,cs=c++d∧r.holds w c x.1∧s.holds w d x.2,
  len:=fun w cs x h=>by
   obtain ⟨c,d,rfl,h1,h2⟩:=h
   rw [List.length_append,r.len _ _ _ h1,s.len _ _ _ h2],
  ext:=fun w w' cs x hb h=>by
   obtain ⟨c,d,rfl,h1,h2⟩:=h
   exact ⟨c,d,rfl,r.ext _ _ _ _ hb h1,s.ext _ _ _ _ hb h2⟩ }
def map {α β:Type} (r:Rd α) (f:α→β):Rd β :=
 {size:=r.size,holds:=fun w cs y=>∃ x,r.holds w cs x∧f x=y,
  len:=fun w cs y h=>by obtain ⟨x,h1,_⟩:=h; exact r.len _ _ _ h1,
  ext:=fun w w' cs y hb h=>by obtain ⟨x,h1,h2⟩:=h; exact ⟨x,r.ext _ _ _ _ hb h1,h2⟩ }
def slice {α:Type} (N:Nat) (r:Rd α):Rd (List α) :=
 {size:=1,holds:=fun w cs xs=>∃ A c,cs=[.slice A xs.length c]∧xs.length≤N∧SlR r w A xs,
  len:=fun w cs xs h=>by obtain ⟨A,c,rfl,_⟩:=h; rfl,
  ext:=fun w w' cs xs hb h=>by obtain ⟨A,c,rfl,h1,h2⟩:=h; exact ⟨A,c,rfl,h1,h2.ext hb⟩ }
end Rd

section
variable {H : Type}
theorem Qkw (d:DataW H):1≤Rows.uptoBulk d:=by
 cases d with
 | lit l=>cases l <;> simp [Rows.uptoBulk]
 | _=>simp [Rows.uptoBulk]
theorem Qgm:∀ ds:List (DataW H),ds.length≤Rows.uptoBulkAll ds
 | []=>by simp
 | d :: ds=>by
  have h1:=Qkw d
  have h2:=Qgm ds
  simp only [List.length_cons,Rows.uptoBulkAll]; omega
theorem Qee:∀ {ds:List (DataW H)} {d:DataW H},d∈ds→Rows.uptoBulk d≤Rows.uptoBulkAll ds
 | [],d,h=>by simp at h
 | e :: ds,d,h=>by
  simp only [Rows.uptoBulkAll]
  rcases List.mem_cons.1 h with rfl|h
  ·omega
  ·have:=Qee h; omega
def Fits (N:Nat) (d:DataW H):Prop:=N=maxLen∨Rows.uptoBulk d≤N
theorem Fits.agg {N:Nat} {ds:List (DataW H)} (h:Fits N (.agg ds)) {d:DataW H} (hd:d∈ds):Fits N d:=by
 rcases h with h|h
 ·exact .inl h
 ·right; have:=Qee hd; simp only [Rows.uptoBulk] at h; omega
theorem Fits.slice {N:Nat} {ds es:List (DataW H)} (h:Fits N (.slice ds es)) {d:DataW H} (hd:d∈ds):Fits N d:=by
 rcases h with h|h
 ·exact .inl h
 ·right; have:=Qee hd; simp only [Rows.uptoBulk] at h; omega
theorem Fits.len {N:Nat} {ds es:List (DataW H)} (h:Fits N (.slice ds es)) (hl:ds.length≤maxLen):ds.length≤N:=by
 rcases h with h|h
 ·rw [h]; exact hl
 ·have:=Qgm ds; simp only [Rows.uptoBulk] at h; omega
theorem Fits.all {N:Nat} {ds:List (DataW H)} (h:N=maxLen∨Rows.uptoBulkAll ds≤N) {d:DataW H} (hd:d∈ds):Fits N d:=by
 rcases h with h|h
 ·exact .inl h
 ·right; have:=Qee hd; omega
end

structure Opens (P:Program) (N:Nat) (t:TypeId) {α:Type} (r:Rd α):Prop where
 size:P.cellsOf t=r.size
 opens:∀ (H:Type) (enc:TypeId×Value→H) (w:World) (fuel:Nat) (cs:List Value) (x:DataW H×List MemPlace),
  DataW.trod enc P w 0 (fun _=>true) true fuel t cs=some x→Fits N x.1→∃ a,r.holds w cs a

section
variable {P : Program} {N : Nat} {t : TypeId}
theorem QjW (ht:P.underlying t=some (.int .i64)) (hc:P.cellsOf t=1):Opens P N t Rd.int:=⟨hc,fun H enc w fuel cs x h _=>by
 obtain ⟨n,rfl,_,hw⟩:=DataW.trod_int ht h
 exact ⟨n,rfl,QiO hw⟩⟩
theorem QjX (ht:P.underlying t=some .string) (hc:P.cellsOf t=1):Opens P N t (Rd.str N):=⟨hc,fun H enc w fuel cs x h hb=>by
 obtain ⟨s,rfl,hx,hs⟩:=DataW.trod_string ht h
 refine ⟨s,rfl,?_⟩
 rcases hb with hb|hb
 ·rw [hb]; exact hs
 ·rw [hx] at hb
  simp only [Rows.uptoBulk,Array.length_toList] at hb
  have:s.size=s.data.size:=rfl
  omega⟩

theorem Opens.map {α β:Type} {r:Rd α} (h:Opens P N t r) (f:α→β):Opens P N t (r.map f):=⟨h.size,fun H enc w fuel cs x hx hb=>by
 obtain ⟨a,ha⟩:=h.opens H enc w fuel cs x hx hb
 exact ⟨f a,a,ha,rfl⟩⟩

theorem Qic {e:TypeId} {α:Type} {r:Rd α} (ht:P.underlying t=some (.slice e)) (hc:P.cellsOf t=1) (hr:Opens P N e r) (hpos:0<r.size):Opens P N t (r.slice N):=⟨hc,fun H enc w fuel cs x h hb=>by
 rcases open_slice ht h with ⟨rfl,_⟩|⟨a,len,cap,m,n,D,Pl,rfl,_,hl,hm,hmm,hxe,hall⟩
 ·exact ⟨[],none,0,rfl,Nat.zero_le _,SlR.nil⟩
 ·have hlm:len≤m:=by rw [hmm]; split <;> omega
  have hxe:x.1=.slice ((List.range len).map D) ((List.range (m-len)).map fun j=>D (len+j)):=by rw [hxe]
  rw [hxe] at hb
  have hlN:len≤N:=by have:=hb.len (by simp; omega); simpa using this
  have each:∀ i,i<len→∃ q:List Value×α,r.holds w q.1 q.2∧q.1.length=r.size∧∀ j u,q.1[j]?=some u→w.cell? (a.add (i*r.size+j))=some u:=by
   intro i hi
   obtain ⟨cs',h1,h2⟩:=hall i (by omega)
   obtain ⟨y,hy⟩:=hr.opens H enc w n cs' _ h2 (hb.slice (List.mem_map.2 ⟨i,List.mem_range.2 hi,rfl⟩))
   obtain ⟨_,hlen,hcell⟩:=World.cells?_some h1
   rw [hr.size] at hcell hlen
   refine ⟨(cs',y),hy,hlen,fun j u hj=>?_⟩
   have hj':j<cs'.length:=(List.getElem?_eq_some_iff.1 hj).1
   have:=hcell j (by omega)
   rw [add_add,hj] at this
   exact this
  obtain ⟨b,off,spot⟩:=a
  by_cases hl0:len=0
  ·subst hl0
   exact ⟨[],_,_,rfl,Nat.zero_le _,SlR.nil⟩
  ·have hspot:spot=none:=by
    obtain ⟨q,_,h2,h3⟩:=each 0 (by omega)
    have h0:=h3 0 _ (List.getElem?_eq_getElem (by omega:0<q.1.length))
    simpa [Addr.add] using World.cell?_spot h0
   subst hspot
   have key:∀ k,k≤len→∃ xs:List α,xs.length=k∧SlR r w (some ⟨b,off,none⟩) xs:=by
    intro k
    induction k with
    | zero=>exact fun _=>⟨[],rfl,SlR.nil⟩
    | succ k ih =>
     intro hk
     obtain ⟨xs,h1,h2⟩:=ih (by omega)
     obtain ⟨⟨cs',y⟩,g1,g2,g3⟩:=each k (by omega)
     refine ⟨xs++[y],by simp [h1],fun i x hx=>?_⟩
     rcases Nat.lt_or_ge i k with hi|hi
     ·rw [List.getElem?_append_left (by omega)] at hx
      exact h2 i x hx
     ·have hik:i=k:=by
       have:=(List.getElem?_eq_some_iff.1 hx).1
       simp [h1] at this; omega
      subst hik
      rw [List.getElem?_append_right (by omega),h1,Nat.sub_self] at hx
      have:y=x:=by simpa using hx
      subst this
      have hcell:∀ (j:Nat) (u:Value),cs'[j]?=some u→w.cell? ⟨b,off+i*r.size+j,none⟩=some u:=fun j u hj=>by
       have:=g3 j u hj
       rw [add_plain] at this
       rw [← this]; congr 2; omega
      refine ⟨b,off,cs',rfl,?_,g1,hcell⟩
      have h0:=hcell 0 _ (List.getElem?_eq_getElem (by show 0<cs'.length; simp only at g2; omega))
      rcases Nat.lt_or_ge b w.heap.size with h|h
      ·exact h
      ·exfalso
       unfold World.cell? at h0
       rw [Array.getElem?_eq_none h] at h0
       simp at h0
   obtain ⟨xs,h1,h2⟩:=key len (Nat.le_refl _)
   exact ⟨xs,_,_,by rw [h1],by omega,h2⟩⟩

inductive Qgl (P:Program) (N:Nat):List Field→Nat→(α:Type)→Rd α→Prop
 | nil {off:Nat}:Qgl P N [] off Unit Rd.unit
 | cons {f:Field} {fs:List Field} {off:Nat} {α β:Type} {r:Rd α} {s:Rd β}:f.offset=off→Opens P N f.type r→Qgl P N fs (off+r.size) β s→Qgl P N (f :: fs) off (α×β) (Rd.pair r s)

theorem Qh8 {w:World} {H:Type} {enc:TypeId×Value→H} {n:Nat} {cs:List Value}:∀ {fs:List Field} {off:Nat} {α:Type} {r:Rd α},Qgl P N fs off α r →
  (∀ f∈fs,∃ y,DataW.trod enc P w 0 (fun _=>true) true n f.type ((cs.drop f.offset).take (P.cellsOf f.type))=some y∧Fits N y.1)→∃ a,r.holds w ((cs.drop off).take r.size) a:=by
 intro fs off α r hF
 induction hF with
 | nil=>exact fun _=>⟨(),by show List.take 0 _=[]; simp⟩
 | @cons f fs off α β r s ho hr _ ih =>
  intro hall
  obtain ⟨y,hy,hyb⟩:=hall f (by simp)
  obtain ⟨a,ha⟩:=hr.opens _ _ _ _ _ _ hy hyb
  obtain ⟨b,hb⟩:=ih (fun g hg=>hall g (by simp [hg]))
  rw [ho,hr.size] at ha
  refine ⟨(a,b),_,_,?_,ha,hb⟩
  show List.take (r.size+s.size) _=_
  rw [List.take_add,List.drop_drop]

theorem Qhm {fs:Array Field} {α:Type} {r:Rd α} (ht:P.underlying t=some (.struct fs)) (hc:P.cellsOf t=r.size) (hF:Qgl P N fs.toList 0 α r):Opens P N t r:=⟨hc,fun H enc w fuel cs x h hb=>by
 obtain ⟨xs,n,_,hxe,hlen,hxl,hf⟩:=DataW.trod_struct ht h
 have hxe:x.1=.agg (xs.map (·.1)):=by rw [hxe]
 rw [hxe] at hb
 have:=Qh8 (w:=w) (enc:=enc) (n:=n) (cs:=cs) hF (fun f hfm=>by
  obtain ⟨i,hi⟩:=List.getElem?_of_mem hfm
  have hi':fs[i]?=some f:=by simpa using hi
  have hlt:i<xs.length:=by rw [hxl]; exact (Array.getElem?_eq_some_iff.1 hi').1
  exact ⟨xs[i],by rw [hf i f hi',List.getElem?_eq_getElem hlt],hb.agg (List.mem_map.2 ⟨xs[i],List.getElem_mem hlt,rfl⟩)⟩)
 rwa [List.drop_zero,← hc,← hlen,List.take_length] at this⟩

end
end Go.Proofs.YtpkkaboonnedfaaDoor
namespace Go.Proofs.YtpkkaboonnedfaaDoor
set_option linter.unusedSimpArgs false
set_option linter.unusedVariables false
set_option linter.unusedSectionVars false
open Go.RowKit Go.ChangeShapes Go.WideShapes Go.Deep

abbrev IRw (w:World):Lf→Value→Prop:=IR w (fun b=>b<w.heap.size)
def rdE {α:Type} (k:Nat) (enc:α→List Lf) (ok:α→Prop) (hk:∀ x,(enc x).length=k):Rd α :=
 {size:=k,holds:=fun w cs x=>ok x∧Rs (IRw w) (enc x) cs,
  len:=fun w cs x h=>h.2.len.symm.trans (hk x),
  ext:=fun w w' cs x hb h=>⟨h.1,Rs.mono (fun _ _ h=>IR.mono (fun b hb'=>hb.block b hb') (fun b hb'=>Nat.lt_of_lt_of_le hb' hb.size) h) h.2⟩ }
def HE {α:Type} (r:Rd α) (e:α→List Lf) (ok:α→Prop):Prop:=∀ w cs a,r.holds w cs a→ok a∧Rs (IRw w) (e a) cs
section
variable {α β : Type} {P : Program} {N : Nat} {t : TypeId}
theorem HE.rd {k:Nat} {enc:α→List Lf} {ok:α→Prop} {hk:∀ x,(enc x).length=k}:HE (rdE k enc ok hk) enc ok:=fun _ _ _ h=>h
theorem HE.unit:HE Rd.unit (fun _=>[]) (fun _=>True):=fun _ _ _ h=>by cases h; exact ⟨trivial,trivial⟩
theorem HE.pair {r:Rd α} {s:Rd β} {e:α→List Lf} {e':β→List Lf} {ok:α→Prop} {ok':β→Prop} (h:HE r e ok) (h':HE s e' ok'):HE (r.pair s) (fun x=>e x.1++e' x.2) (fun x=>ok x.1∧ok' x.2):=by
 rintro w cs a ⟨c,d,rfl,h1,h2⟩
 obtain ⟨g1,g2⟩:=h w c _ h1
 obtain ⟨g3,g4⟩:=h' w d _ h2
 exact ⟨⟨g1,g3⟩,Rs.append g2 g4⟩
theorem Opens.mono {r:Rd α} {s:Rd β} (h:Opens P N t r) (hs:r.size=s.size) (hi:∀ w cs a,r.holds w cs a→∃ b,s.holds w cs b):Opens P N t s :=
 ⟨h.size.trans hs,fun H enc w fuel cs x hx hb=>let ⟨a,ha⟩:=h.opens H enc w fuel cs x hx hb; hi w cs a ha⟩
theorem QlB (ht:P.underlying t=some (.int .i64)) (hc:P.cellsOf t=1):Opens P N t (rdE 1 (fun n:Int=>[.int .i64 n]) isI (fun _=>rfl)) :=
 (QjW ht hc).mono rfl fun w cs a h=>⟨a,h.2,by rw [h.1]; exact ⟨.int _ _,trivial⟩⟩
theorem QlC (ht:P.underlying t=some .string) (hc:P.cellsOf t=1):Opens P N t (rdE 1 (fun s:ByteArray=>[.str s]) (fun s=>s.size≤N) (fun _=>rfl)) :=
 (QjX ht hc).mono rfl fun w cs a h=>⟨a,h.2,by rw [h.1]; exact ⟨.str _,trivial⟩⟩
theorem Qhl {e:TypeId} {sz:Nat} {enc:α→List Lf} {ok:α→Prop} {hk:∀ x,(enc x).length=sz} (ht:P.underlying t=some (.slice e)) (hc:P.cellsOf t=1) (hr:Opens P N e (rdE sz enc ok hk)) (hpos:0<sz) :
  Opens P N t (rdE 1 (fun l:List α=>[.sl false sz (l.map enc)]) (fun l=>l.length≤N∧∀ x∈l,ok x) (fun _=>rfl)):=⟨hc,fun H enc' w fuel cs x h hb=>by
 obtain ⟨xs,A,c,hcs,hlen,hS⟩:=(Qic ht hc hr hpos).opens H enc' w fuel cs x h hb
 have hcap:xs.length≤c:=by
  rcases open_slice ht h with ⟨h1,_⟩|⟨a,len,cap,m,n,D,Pl,h1,_,hl,_⟩
  ·rw [hcs] at h1
   simp only [List.cons.injEq,Value.slice.injEq,and_true] at h1
   omega
  ·rw [hcs] at h1
   simp only [List.cons.injEq,Value.slice.injEq,and_true] at h1
   omega
 have hok:∀ x∈xs,ok x:=fun x hx=>by
  obtain ⟨i,hi⟩:=List.getElem?_of_mem hx
  obtain ⟨b,off,cs',_,_,h1,_⟩:=hS i x hi
  exact h1.1
 refine ⟨xs,⟨hlen,hok⟩,?_⟩
 rw [hcs]
 refine ⟨?_,trivial⟩
 cases xs with
 | nil=>exact .sl0 false sz A c (fun h=>by cases h)
 | cons x0 xr =>
  obtain ⟨b,off,cs0,hA,hlt,_,_⟩:=hS 0 x0 rfl
  subst hA
  have key:∀ (i:Nat) (c':List Lf) (j:Nat) (l:Lf),((x0 :: xr).map enc)[i]?=some c'→c'[j]?=some l→∃ v,w.cell? ⟨b,off+i*sz+j,none⟩=some v∧IRw w l v:=by
   intro i c' j l hi hj
   rw [List.getElem?_map] at hi
   cases hx:(x0 :: xr)[i]? with
   | none=>rw [hx] at hi; cases hi
   | some y =>
    rw [hx] at hi; cases hi
    obtain ⟨b',off',cs',hA',_,⟨_,h1⟩,h2⟩:=hS i y hx
    cases hA'
    obtain ⟨v,hv,hr⟩:=h1.get hj
    exact ⟨v,h2 j v hv,hr⟩
  have hl2:(x0 :: xr).length=((x0 :: xr).map enc).length:=(List.length_map ..).symm
  rw [hl2]
  refine .sl false sz _ b off c (fun i j=>(w.cell? ⟨b,off+i*sz+j,none⟩).getD undef) hlt (by rw [List.length_map]; exact hcap) (fun h=>by cases h) ?_ ?_ ?_
  ·intro i c' hi
   rw [List.getElem?_map] at hi
   cases hx:(x0 :: xr)[i]? with
   | none=>rw [hx] at hi; cases hi
   | some y=>rw [hx] at hi; cases hi; exact hk y
  ·intro i c' j l hi hj
   obtain ⟨v,hv,_⟩:=key i c' j l hi hj
   show _=some ((w.cell? ⟨b,off+i*sz+j,none⟩).getD undef)
   rw [hv]; rfl
  ·intro i c' j l hi hj
   obtain ⟨v,hv,hr⟩:=key i c' j l hi hj
   show IR w _ l ((w.cell? ⟨b,off+i*sz+j,none⟩).getD undef)
   rw [hv]; exact hr⟩
theorem QgB {fs:Array Field} {r:Rd α} {e:α→List Lf} {ok:α→Prop} {k:Nat} {enc:β→List Lf} {okT:β→Prop} {hk:∀ x,(enc x).length=k} (ht:P.underlying t=some (.struct fs)) (hc:P.cellsOf t=r.size) (hF:Qgl P N fs.toList 0 α r)
  (hsz:r.size=k) (hE:HE r e ok) (mk:α→β) (h1:∀ a,enc (mk a)=e a) (h2:∀ a,ok a→okT (mk a)):Opens P N t (rdE k enc okT hk) :=
 (Qhm ht hc hF).mono hsz fun w cs a h=>⟨mk a,h2 a (hE w cs a h).1,by rw [h1]; exact (hE w cs a h).2⟩
end
section
variable {P : Program} {f : FuncId} {w : World}
theorem Qlk {M:Nat→Prop} {φ:Pl} {ls:List Lf} {vs:List Value} (h:Rs (IR w M) ls vs):Rs (LR w M φ) ls vs:=Rs.mono (fun _ _ h=>IR.lr h) h
theorem QkK {args:List Cm} {vals:List Value} (ht:∀ b cs,tab0=some (b,cs)→b<w.heap.size∧∃ t s,w.heap[b]?=some (.cells cs t s)) (h:AFn P f args [] (.cm (.one (.bool true))) []) (hv:Rs (CR w (fun b=>b<w.heap.size) (fun _=>none)) args vals) :
  Calls P f vals.toArray w fun e w'=>e=.returned (.bool true)∧Below w.heap.size w w':=by
 refine (h.2 w (fun _=>none) (fun b=>b<w.heap.size) vals ?_ (fun _ _=>rfl) hv).mono ?_
 ·refine ⟨fun id ob h=>by simp at h,fun i j oi oj b Ci Cj h=>by simp at h,fun b h=>h,fun b h=>h,fun b h=>.inl h,fun id ob b C h=>by simp at h,fun _ _ _=>rfl,rfl,rfl,rfl,Nat.le_refl _,fun p h=>by simp [Qe3] at h,fun b cs h=>⟨(ht b cs h).1,fun ⟨id,C,hc,_⟩=>by simp at hc,ht b cs h⟩⟩
 ·rintro e w' ⟨v,φ',M',rfl,hv,hW,_⟩
  cases hv
  exact ⟨rfl,hW.os,hW.tape,hW.output,hW.size,fun b hb=>hW.keep b hb (by rintro ⟨id,C,h,_⟩; simp at h)⟩
theorem Qk9 {ls:List Lf} {cs:Array Value} (h:Rs (IRw w) ls cs.toList):CR w (fun b=>b<w.heap.size) (fun _=>none) (.agg ls) (.agg cs):=⟨cs.toList,by simp,Qlk h⟩
end
end Go.Proofs.YtpkkaboonnedfaaDoor
