/- Part MQ. -/
import Derived.Test.YtbilkblifgaflaaGreatDoorMP
set_option linter.unusedSimpArgs false
set_option linter.unusedVariables false
set_option linter.unusedSectionVars false
namespace Go.Proofs.YtbilkblifgaflaaGreatDoor
theorem HM:∀(n:Nat) (l:List Nat),l.Nodup→(∀x∈l,x<n)→l.length≤n
 |0,l,_,h=>by
  cases l with
  |nil=>exact Nat.le_refl _
  |cons x r=>exact absurd (h x (by simp)) (by omega)
 |n+1,l,hd,h=>by
  have h1:=HM n (l.erase n) (hd.erase n) (fun x hx=>by
   have xi:=(List.Nodup.mem_erase_iff hd).1 hx;have:=h x xi.2;have:=xi.1;omega)
  have h2:l.length≤(l.erase n).length+1:=by rw[List.length_erase];split <;> omega
  omega
section
variable (il : Int) (np : Nat)
def ct(s:List Int)(v:Nat):Int:=s.getD v (-1)
def ya(s:List Int)(a:al):List Int:=
 if a.ai=il∧0≤ct s a.az.toNat∧(ct s a.cw.toNat<0∨s_ a (ct s a.az.toNat)<ct s a.cw.toNat)then s.set a.cw.toNat (s_ a (ct s a.az.toNat))else s
def ja(aI:List al)(s:List Int)(k:Nat):List Int:=(aI.take k).foldl (ya il) s
def pass(aI:List al)(s:List Int):List Int:=ja il aI s aI.length
def iter(aI:List al)(s:List Int):Nat→List Int
 |0=>s
 |j+1=>pass il aI (iter aI s j)
structure NB (B C:Int) (a:al):Prop where
 JN:0≤a.az
 JO:a.az<np
 Wu:0≤a.cw
 Wv:a.cw<np
 ge:∀t,0≤t→t≤B→t≤s_ a t
 le:∀t,0≤t→t≤B→s_ a t≤t+C
end
theorem Mi{s:List Int}{d v:Nat}{x:Int}(h:d<s.length):ct (s.set d x) v=if v=d then x else ct s v:=by
 unfold ct;rw[List.getD_eq_getElem?_getD,List.getD_eq_getElem?_getD,List.getElem?_set];by_cases hv:d=v
 ·subst hv;rw[if_pos rfl,if_pos h,if_pos rfl];rfl
 ·rw[if_neg hv,if_neg (fun e=>hv e.symm)]
theorem tP{il:Int}{aI:List al}{s:List Int}{k:Nat}{a:al}(h:aI[k]?=some a):ja il aI s (k+1)=ya il (ja il aI s k) a:=by
 unfold ja;rw[List.take_add_one,h,List.foldl_append];rfl
section
variable {il : Int} {np : Nat} {B C t0 : Int} {aI : List al}
def K8(il:Int)(s:List Int)(a:al):Prop:=a.ai=il→0≤ct s a.az.toNat→0≤ct s a.cw.toNat∧ct s a.cw.toNat≤s_ a (ct s a.az.toNat)
structure Inv (il:Int) (np:Nat) (C t0:Int) (aI:List al) (p k:Nat) (s:List Int) (level:Nat→Nat) (path:Nat→List Nat):Prop where
 len:s.length=np
 nodup:∀v,0≤ct s v→(path v).Nodup
 head:∀v,0≤ct s v→v∈path v
 elems:∀v,0≤ct s v→∀u∈path v,u<np∧0≤ct s u∧ct s u≤ct s v
 V3:∀v,0≤ct s v→level v+1≤(path v).length
 val:∀v,0≤ct s v→ct s v+C≤t0+C*(path v).length
 r1:∀a∈aI,level a.az.toNat+2≤p→K8 il s a
 r2:∀(i:Nat) (a:al),i<k→aI[i]?=some a→level a.az.toNat+1≤p→K8 il s a
theorem Inv.Qam{p k:Nat}{s:List Int}{level:Nat→Nat}{path:Nat→List Nat}(h:Inv il np C t0 aI p k s level path){v:Nat}(hv:0≤ct s v):(path v).length≤np:=HM np _ (h.nodup v hv) (fun x hx=>(h.elems v hv x hx).1)
theorem Inv.step{p k:Nat}{s:List Int}{level:Nat→Nat}{path:Nat→List Nat}(h:Inv il np C t0 aI p k s level path)(hC:0≤C)(hB:t0+C*np≤B){a:al}(ha:aI[k]?=some a)(hg:NB np B C a):
  ∃Yi Qal,Inv il np C t0 aI p (k+1) (ya il s a) Yi Qal∧(np≤p→ya il s a=s):=by
 unfold ya;by_cases hc:a.ai=il∧0≤ct s a.az.toNat∧(ct s a.cw.toNat<0∨s_ a (ct s a.az.toNat)<ct s a.cw.toNat)
 ·rw[if_pos hc];obtain⟨h1,h2,h3⟩:=hc;have hd:a.cw.toNat<s.length:=by rw[h.len];have:=hg.Wv;have:=hg.Wu;omega
  obtain⟨u,hu⟩:∃u,u=a.az.toNat:=⟨_,rfl⟩;obtain⟨v,hv⟩:∃v,v=a.cw.toNat:=⟨_,rfl⟩;rw[←hu]at h2 h3 ⊢;rw[←hv]at h3 hd ⊢;have A6:=h.Qam h2;have VW:=h.val u h2;have hCl:C*(path u).length≤C*np:=Int.mul_le_mul_of_nonneg_left (by omega) hC
  have U3:=hg.ge (ct s u) h2 (by omega)
  have hle:=hg.le (ct s u) h2 (by omega)
  obtain⟨x,hx⟩:∃x,x=s_ a (ct s u):=⟨_,rfl⟩;rw[←hx]at h3 U3 hle ⊢;have QeE:p≤level u+1:=by
   rcases Nat.lt_or_ge (level u+1) p with m9|QbB
   ·have:=h.r1 a (List.mem_of_getElem? ha) (by rw[←hu];omega) h1 (by rw[←hu];exact h2)
    rw[←hu,←hv,←hx]at this;omega
   ·exact QbB
  have Z0:v ∉ path u:=fun hm=>by
   have:=h.elems u h2 v hm;omega
  have Qc7:=h.V3 u h2;have huv:u≠v:=fun e=>Z0 (e▸h.head u h2)
  have ZZ:v<np:=by rw[←h.len];exact hd
  have XY:(v ::path u).Nodup:=List.nodup_cons.2 ⟨Z0,h.nodup u h2⟩;have WX:(v ::path u).length≤np:=HM np _ XY (fun y hy=>by
   rcases List.mem_cons.1 hy with rfl|hy
   ·exact ZZ
   ·exact(h.elems u h2 y hy).1)
  rw[List.length_cons]at WX;have hA:∀w,ct (s.set v x) w=if w=v then x else ct s w:=fun w=>Mi hd
  have Zf:ct (s.set v x) v=x:=by rw[hA,if_pos rfl]
  have VE:∀w,w≠v→ct (s.set v x) w=ct s w:=fun w hw=>by rw[hA,if_neg hw]
  -- WD a place on a path holds now
  have hold:∀w,0≤ct s w→0≤ct (s.set v x) w∧ct (s.set v x) w≤ct s w:=fun w hw=>by
   by_cases FH:w=v
   ·subst FH;rw[Zf];omega
   ·rw[VE w FH];omega
  have WT:∀a':al,a'.az.toNat≠v→K8 il s a'→K8 il (s.set v x) a':=fun a' ux hD hp hs=>by
   rw[VE _ ux]at hs ⊢;have:=hD hp hs;have:=hold _ this.1;omega
  refine⟨fun w=>if w=v then p else level w,fun w=>if w=v then v ::path u else path w,?_,fun X0=>absurd WX (by omega)⟩
  refine⟨by rw[List.length_set];exact h.len,fun w hw=>?_,fun w hw=>?_,fun w hw y hy=>?_,fun w hw=>?_,fun w hw=>?_,fun a' XK hl=>?_,fun i a' hi XK hl=>?_⟩
  ·by_cases FH:w=v
   ·simp only[FH,if_true];exact XY
   ·simp only[FH,if_false];rw[VE w FH]at hw;exact h.nodup w hw
  ·by_cases FH:w=v
   ·simp only[FH,if_true];exact List.mem_cons_self
   ·simp only[FH,if_false];rw[VE w FH]at hw;exact h.head w hw
  ·by_cases FH:w=v
   ·subst FH;simp only[if_true]at hy;rw[Zf];rcases List.mem_cons.1 hy with rfl|hy
    ·rw[Zf];exact⟨ZZ,by omega,by omega⟩
    ·have he:=h.elems u h2 y hy;have Z2:y≠w:=fun e=>Z0 (e▸hy)
     rw[VE y Z2];exact⟨he.1,he.2.1,by omega⟩
   ·simp only[FH,if_false]at hy;rw[VE w FH]at hw ⊢;have he:=h.elems w hw y hy;have ho:=hold y he.2.1;exact⟨he.1,ho.1,by omega⟩
  ·by_cases FH:w=v
   ·simp only[FH,if_true,List.length_cons];omega
   ·simp only[FH,if_false];rw[VE w FH]at hw;exact h.V3 w hw
  ·by_cases FH:w=v
   ·subst FH;simp only[if_true,List.length_cons];rw[Zf];have:C*((path u).length+1:Nat)=C*(path u).length+C:=by
     rw[Int.natCast_add,Int.mul_add];simp
    rw[this];omega
   ·simp only[FH,if_false];rw[VE w FH]at hw ⊢;exact h.val w hw
  ·by_cases FH:a'.az.toNat=v
   ·simp only[FH,if_true]at hl;omega
   ·simp only[FH,if_false]at hl;exact WT a' FH (h.r1 a' XK hl)
  ·by_cases FH:a'.az.toNat=v
   ·simp only[FH,if_true]at hl;omega
   ·simp only[FH,if_false]at hl;rcases Nat.lt_or_ge i k with XV|XV
    ·exact WT a' FH (h.r2 i a' XV XK hl)
    ·have XW:i=k:=by omega
     subst XW;have:a'=a:=Option.some.inj (XK.symm.trans ha);subst this;intro _ _;rw[←hu,←hv,Zf,VE u huv,←hx];omega
 ·rw[if_neg hc];refine⟨level,path,⟨h.len,h.nodup,h.head,h.elems,h.V3,h.val,h.r1,fun i a' hi XK hl=>?_⟩,fun _=>rfl⟩
  rcases Nat.lt_or_ge i k with XV|XV
  ·exact h.r2 i a' XV XK hl
  ·have XW:i=k:=by omega
   subst XW;have:a'=a:=Option.some.inj (XK.symm.trans ha);subst this;intro hp hs;have:¬(ct s a'.cw.toNat<0∨s_ a' (ct s a'.az.toNat)<ct s a'.cw.toNat):=fun hh=>hc ⟨hp,hs,hh⟩
   omega
theorem Inv.steps{p:Nat}{s:List Int}(hC:0≤C)(hB:t0+C*np≤B)(hg:∀a∈aI,NB np B C a)(h0:∃level path,Inv il np C t0 aI p 0 s level path):
  ∀k,k≤aI.length→(∃level path,Inv il np C t0 aI p k (ja il aI s k) level path)∧(np≤p→ja il aI s k=s)
 |0,_=>⟨h0,fun _=>rfl⟩
 |k+1,hk=>by
  obtain⟨⟨level,path,h⟩,hs⟩:=Inv.steps hC hB hg h0 k (by omega)
  have ha:aI[k]?=some (aI[k]'(by omega)):=List.getElem?_eq_getElem (by omega)
  obtain⟨l',p',h',XQ⟩:=h.step hC hB ha (hg _ (List.mem_of_getElem? ha));rw[tP ha];exact⟨⟨l',p',h'⟩,fun X0=>by rw[XQ X0,hs X0]⟩
theorem Inv.UC{s:List Int}(hC:0≤C)(hB:t0+C*np≤B)(hg:∀a∈aI,NB np B C a)(h0:∃level path,Inv il np C t0 aI 1 0 s level path):
  ∀j,(∃level path,Inv il np C t0 aI (j+1) 0 (iter il aI s j) level path)∧(np≤j+1→iter il aI s (j+1)=iter il aI s j)
 |0=>⟨h0,fun X0=>(Inv.steps hC hB hg h0 aI.length (Nat.le_refl _)).2 X0⟩
 |j+1=>by
  obtain⟨⟨level,path,h⟩,_⟩:=Inv.UC hC hB hg h0 j;obtain⟨⟨l',p',h'⟩,_⟩:=Inv.steps hC hB hg ⟨level,path,h⟩ aI.length (Nat.le_refl _);have W0:∃level path,Inv il np C t0 aI (j+1+1) 0 (iter il aI s (j+1)) level path:=by
   refine⟨l',p',h'.len,h'.nodup,h'.head,h'.elems,h'.V3,h'.val,fun a ha hl=>?_,fun i a hi=>absurd hi (by omega)⟩
   obtain⟨i,hi⟩:=List.getElem?_of_mem ha;exact h'.r2 i a (List.getElem?_eq_some_iff.1 hi).1 hi (by omega)
  exact⟨W0,fun X0=>(Inv.steps hC hB hg W0 aI.length (Nat.le_refl _)).2 X0⟩
end
theorem Za{np:Nat}{B:Int}{a:al}(h:AI np a):NB np B 73728 a:=
 ⟨h.JN,h.JO,h.Wu,h.Wv,fun t _ _=>FJ h t,fun t h0 _=>Vk h h0⟩
def use(il:Int)(s:List Int)(a:al):Prop:=a.ai=il∧0≤ct s a.az.toNat∧(ct s a.cw.toNat<0∨s_ a (ct s a.az.toNat)<ct s a.cw.toNat)
instance(il:Int)(s:List Int)(a:al):Decidable (use il s a):=inferInstanceAs (Decidable (_∧_∧_))
theorem wj{il:Int}{s:List Int}{a:al}(h:use il s a):ya il s a=s.set a.cw.toNat (s_ a (ct s a.az.toNat)):=if_pos h
theorem pw{il:Int}{s:List Int}{a:al}(h:¬use il s a):ya il s a=s:=if_neg h
theorem Dx{il:Int}{s:List Int}{a:al}:(ya il s a).length=s.length:=by unfold ya;split <;> simp
theorem HP{il:Int}{aI:List al}{s:List Int}{k:Nat}:(ja il aI s k).length=s.length:=by
 unfold ja;generalize aI.take k=l;induction l generalizing s with
 |nil=>rfl
 |cons a l ih=>rw[List.foldl_cons,ih,Dx]
theorem US{il:Int}{s:List Int}{a:al}{np:Nat}(hl:s.length=np)(ha:AI np a)(h:use il s a):ya il s a≠s:=fun e=>by
 rw[wj h]at e;have h1:=Mi (s:=s) (d:=a.cw.toNat) (v:=a.cw.toNat) (x:=s_ a (ct s a.az.toNat)) (by have:=ha.Wu;have:=ha.Wv;omega)
 rw[if_pos rfl,e]at h1;have h2:=FJ ha (ct s a.az.toNat);obtain⟨_,h3,h4⟩:=h;omega
theorem p7{s:List Int}{i:Int}(h0:0≤i)(h1:i<s.length):a4 s i=some (ct s i.toNat):=by
 rw[Vv h0 h1];unfold ct;rw[List.getD_eq_getElem?_getD,List.getElem?_eq_getElem];rfl
def EC(il:Int)(aI:List al)(s:List Int):Nat→Bool
 |0=>false
 |k+1=>EC il aI s k||(match aI[k]? with
  |some a=>decide (use il (ja il aI s k) a)
  |none=>false)
theorem IA{il:Int}{aI:List al}{s:List Int}:∀k,EC il aI s k=false→ja il aI s k=s
 |0,_=>rfl
 |k+1,h=>by
  simp only[EC,Ja]at h;have ih:=IA k h.1;cases ha:aI[k]? with
  |none =>
   unfold ja at ih ⊢;rw[List.take_of_length_le (by have:=List.getElem?_eq_none_iff.1 ha;omega)]at ih ⊢
   exact ih
  |some a =>
   have h2:=h.2;rw[ha]at h2;rw[tP ha,pw (of_decide_eq_false h2),ih]
theorem L7{il:Int}{aI:List al}{s:List Int}{np:Nat}(hl:s.length=np)(qo:∀a∈aI,AI np a):∀k,(∀j,j≤k→ja il aI s j=s)→EC il aI s k=false
 |0,_=>rfl
 |k+1,h=>by
  simp only[EC,Ja];refine⟨L7 hl qo k fun j hj=>h j (by omega),?_⟩
  cases ha:aI[k]? with
  |none=>rfl
  |some a =>
   refine decide_eq_false fun hu=>?_
   have h1:=h (k+1) (by omega)
   have h2:=h k (by omega)
   rw[tP ha,h2]at h1;rw[h2]at hu;exact US hl (qo a (List.mem_of_getElem? ha)) hu h1
section
variable {n : ah} {ai az t : Int}
def cS(np:Nat)(az t:Int):List Int:=(List.replicate np (-1)).set az.toNat t
theorem G4{np v:Nat}(h0:0≤az)(h1:az<np):ct (cS np az t) v=if v=az.toNat then t else -1:=by
 unfold cS;rw[Mi (by simp;omega)]
 congr 1;unfold ct;rw[List.getD_eq_getElem?_getD,List.getElem?_replicate];split <;> rfl
theorem SQ{aI:List al}{np:Nat}(h0:0≤az)(h1:az<np)(ht:0≤t):∃level path,Inv ai np 73728 t aI 1 0 (cS np az t) level path:=by
 have key:∀v,0≤ct (cS np az t) v→v=az.toNat∧ct (cS np az t) v=t:=fun v hv=>by
  rw[G4 h0 h1]at hv ⊢;split at hv
  ·rename_i h;exact⟨h,by rw[if_pos h]⟩
  ·omega
 refine⟨fun _=>0,fun v=>[v],by simp [cS],fun v _=>by simp,fun v _=>by simp,fun v hv u hu=>?_,fun v _=>by simp,fun v hv=>?_,fun a _ h=>by omega,fun i a h=>by omega⟩
 ·simp only[List.mem_singleton]at hu;subst hu;have:=(key u hv).1;exact⟨by omega,hv,Int.le_refl _⟩
 ·rw[(key v hv).2];simp
theorem Du(qo:td n)(h0:0≤az)(h1:az<n.av.length)(ht:0≤t)(S8:t≤1048576)(j k:Nat)(hk:k≤n.aI.length):
  (∀v,0≤ct (ja ai n.aI (iter ai n.aI (cS n.av.length az t) j) k) v→MF (ct (ja ai n.aI (iter ai n.aI (cS n.av.length az t) j) k) v))∧
  (n.av.length≤j+1→ja ai n.aI (iter ai n.aI (cS n.av.length az t) j) k=iter ai n.aI (cS n.av.length az t) j):=by
 have hg:∀a∈n.aI,NB n.av.length 1073741824 73728 a:=fun a ha=>Za (qo.all a ha)
 have hp:=qo.av;have hB:t+73728*(n.av.length:Int)≤1073741824:=by omega
 obtain⟨hI,_⟩:=Inv.UC (il:=ai) (by omega) hB hg (SQ (ai:=ai) (aI:=n.aI) h0 h1 ht) j
 obtain⟨⟨level,path,h⟩,XQ⟩:=Inv.steps (by omega) hB hg hI k hk
 refine⟨fun v hv=>⟨hv,?_⟩,XQ⟩
 have h2:=h.val v hv;have h3:=h.Qam hv;have:73728*((path v).length:Int)≤73728*(n.av.length:Int):=by omega
 omega
theorem Cd{aI:List al}{s:List Int}:∀j,(iter ai aI s j).length=s.length
 |0=>rfl
 |j+1=>by show(ja _ _ _ _).length=_;rw[HP,Cd j]
theorem Om{aI:List al}{s:List Int}{j:Nat}(h:pass ai aI (iter ai aI s j)=iter ai aI s j):∀d,iter ai aI s (j+d)=iter ai aI s j
 |0=>rfl
 |d+1=>by show pass ai aI (iter ai aI s (j+d))=_;rw[Om h d,h]
theorem UF{s:List Int}(qo:td n)(hl:s.length=n.av.length)(hT:∀k,k≤n.aI.length→∀v,0≤ct (ja ai n.aI s k) v→MF (ct (ja ai n.aI s k) v))(r:Int):
  aF (fun x=>fb n ai az r x.1 x.2) (s,0)=some (pass ai n.aI s):=by
 have S2:=qo.aI;refine eJ (B:=fun x:List Int×Int=>fb n ai az r x.1 x.2) n.aI.length (fun i=>(ja ai n.aI s i,(i:Int))) (by omega) (fun i hi=>?_) ?_
 ·have e1:n.aI[i]?=some n.aI[i]:=List.getElem?_eq_getElem hi;have ha:=qo.all _ (List.getElem_mem hi);show fb n ai az r (ja ai n.aI s i) (i:Int)=some (.inl (ja ai n.aI s (i+1),((i+1:Nat):Int)));rw[tP e1];unfold fb;rw[bu (by simp [aB];exact hi),ba e1,ax,inc (n:=n.aI.length) hi (by omega)]
  have hv:=hT i (by omega)
  generalize n.aI[i]=a at *;have hlen:(ja ai n.aI s i).length=n.av.length:=by rw[HP,hl]
  generalize ja ai n.aI s i=u at *;have g1:=p7 (s:=u) ha.JN (by rw[hlen];exact ha.JO)
  have g2:=p7 (s:=u) ha.Wu (by rw[hlen];exact ha.Wv)
  have TQ:((i+1:Nat):Int)=(i:Int)+1:=by omega
  rw[TQ];by_cases c1:a.ai=ai
  ·rw[bu (by simpa using c1),g1,ax]
   by_cases c2:0≤ct u a.az.toNat
   ·rw[bu (by simpa using c2),IS ha (hv _ c2),ax,g2,ax]
    by_cases c3:ct u a.cw.toNat<0
    ·rw[bu (by simpa using c3),wj ⟨c1,c2,.inl c3⟩];rfl
    ·rw[bm (by simpa using c3)]
     by_cases c4:s_ a (ct u a.az.toNat)<ct u a.cw.toNat
     ·rw[bu (by simpa using c4),wj ⟨c1,c2,.inr c4⟩];rfl
     ·rw[bm (by simpa using c4),pw (fun h=>by rcases h.2.2 with h|h;exact c3 h;exact c4 h)]
   ·rw[bm (by simpa using c2),pw (fun h=>c2 h.2.1)]
  ·rw[bm (by simpa using c1),pw (fun h=>c1 h.1)]
 ·show fb n ai az r _ (n.aI.length:Int)=_;unfold fb;rw[bm (by simp [aB])]
  rfl
theorem SD{s l0:List Int}(qo:td n)(hl:s.length=n.av.length)(hT:∀k,k≤n.aI.length→∀v,0≤ct (ja ai n.aI s k) v→MF (ct (ja ai n.aI s k) v)):
  aF (fun x=>eP n ai az l0 x.1 x.2.1 x.2.2) (s,false,0)=some (pass ai n.aI s,EC ai n.aI s n.aI.length):=by
 have S2:=qo.aI;refine eJ (B:=fun x:List Int×Bool×Int=>eP n ai az l0 x.1 x.2.1 x.2.2) n.aI.length (fun i=>(ja ai n.aI s i,EC ai n.aI s i,(i:Int))) (by omega) (fun i hi=>?_) ?_
 ·have e1:n.aI[i]?=some n.aI[i]:=List.getElem?_eq_getElem hi;have ha:=qo.all _ (List.getElem_mem hi);show eP n ai az l0 (ja ai n.aI s i) (EC ai n.aI s i) (i:Int)=some (.inl (ja ai n.aI s (i+1),EC ai n.aI s i||(match n.aI[i]? with
   |some a=>decide (use ai (ja ai n.aI s i) a)
   |none=>false),((i+1:Nat):Int)))
  rw[tP e1];unfold eP;rw[bu (by simp [aB];exact hi),ba e1,ax,inc (n:=n.aI.length) hi (by omega),e1]
  simp only;have hv:=hT i (by omega)
  generalize n.aI[i]=a at *;have hlen:(ja ai n.aI s i).length=n.av.length:=by rw[HP,hl]
  generalize ja ai n.aI s i=u at *;generalize EC ai n.aI s i=b;have g1:=p7 (s:=u) ha.JN (by rw[hlen];exact ha.JO)
  have g2:=p7 (s:=u) ha.Wu (by rw[hlen];exact ha.Wv)
  have TQ:((i+1:Nat):Int)=(i:Int)+1:=by omega
  rw[TQ,wW,ax,wW,ax,bu (show iJ n a.az=true from decide_eq_true ⟨ha.JN,ha.JO⟩),bu (show iJ n a.cw=true from decide_eq_true ⟨ha.Wu,ha.Wv⟩)];have yes:use ai u a→(decide (use ai u a))=true:=decide_eq_true;have no:¬use ai u a→(decide (use ai u a))=false:=decide_eq_false;by_cases c1:a.ai=ai
  ·rw[bm (by simpa using c1),g1,ax]
   by_cases c2:0≤ct u a.az.toNat
   ·rw[bm (by simpa using c2),Jm ha (hv _ c2),ax,g2,ax]
    by_cases c3:ct u a.cw.toNat<0
    ·rw[bu (by simpa using c3),wj ⟨c1,c2,.inl c3⟩,yes ⟨c1,c2,.inl c3⟩,Bool.or_true];rfl
    ·rw[bm (by simpa using c3)]
     by_cases c4:s_ a (ct u a.az.toNat)<ct u a.cw.toNat
     ·rw[bu (by simpa using c4),wj ⟨c1,c2,.inr c4⟩,yes ⟨c1,c2,.inr c4⟩,Bool.or_true];rfl
     ·have hn:¬use ai u a:=fun h=>by rcases h.2.2 with h|h;exact c3 h;exact c4 h
      rw[bm (by simpa using c4),pw hn,no hn,Bool.or_false]
   ·have hn:¬use ai u a:=fun h=>c2 h.2.1
    rw[bu (by simpa using c2),pw hn,no hn,Bool.or_false]
  ·have hn:¬use ai u a:=fun h=>c1 h.1
   rw[bu (by simpa using c1),pw hn,no hn,Bool.or_false]
 ·show eP n ai az l0 _ _ (n.aI.length:Int)=_;unfold eP;rw[bm (by simp [aB])]
  rfl
theorem V0{S E:Type}{B:S→Option (S⊕E)}(C:Nat→S→Prop)(Q:E→Prop)
  (h:∀m s,C m s→post (B s) fun x=>(∀s',x=.inl s'→∃m',m'<m∧C m' s')∧∀e,x=.inr e→Q e):∀(n m:Nat) (s:S),C m s→m<n→post (tp B n s) Q:=by
 intro n;induction n with
 |zero=>intro m s _ hm;omega
 |succ n ih =>
  intro m s hs hm;obtain⟨x,hx,h1,h2⟩:=h m s hs;simp only[tp,hx];cases x with
  |inl s' =>
   obtain⟨m',h3,h4⟩:=h1 s' rfl;exact ih m' s' h4 (by omega)
  |inr e=>exact⟨e,rfl,h2 e rfl⟩
theorem OM{S E:Type}{B:S→Option (S⊕E)}(C:Nat→S→Prop){Q:E→Prop}{s:S}(m:Nat)(hs:C m s)(hm:m<18446744073709551616)
  (h:∀m s,C m s→post (B s) fun x=>(∀s',x=.inl s'→∃m',m'<m∧C m' s')∧∀e,x=.inr e→Q e):post (aF B s) Q:=V0 C Q h _ m s hs hm
def uS(n:ah)(ai az t:Int):List Int:=
 if iJ n az=true then iter ai n.aI (cS n.av.length az t) n.av.length else List.replicate n.av.length (-1)
theorem all_none{aI:List al}(np k:Nat):ja ai aI (List.replicate np (-1)) k=List.replicate np (-1):=by
 unfold ja;generalize aI.take k=l;induction l with
 |nil=>rfl
 |cons a l ih =>
  rw[List.foldl_cons,pw,ih];intro h;have h1:=h.2.1;unfold ct at h1;rw[List.getD_eq_getElem?_getD,List.getElem?_replicate]at h1;split at h1 <;> simp at h1
theorem ND(np v:Nat):ct (List.replicate np (-1)) v=-1:=by
 unfold ct;rw[List.getD_eq_getElem?_getD,List.getElem?_replicate];split <;> rfl
theorem Ii(qo:td n)(ht:0≤t)(S8:t≤1048576):kZ n ai az t=some (uS n ai az t):=by
 have hp:=qo.av;unfold kZ;rw[show K1 (aB n.av) (aB n.av) 8 (0:Int)=some (List.replicate n.av.length 0) by unfold K1 aB;rw[if_pos (by omega)];simp,ax]
 have l1:aF (fun s=>eO n ai az t (List.replicate n.av.length 0) s.1 s.2) (List.replicate n.av.length 0,0)=some (List.replicate n.av.length (-1)):=by
  have:=eJ (B:=fun s:List Int×Int=>eO n ai az t (List.replicate n.av.length 0) s.1 s.2) (e:=List.replicate n.av.length (-1)) n.av.length (fun i=>(List.replicate i (-1)++List.replicate (n.av.length-i) 0,(i:Int))) (by omega) (fun i hi=>?_) ?_
  ·simpa using this
  ·show eO n ai az t _ (List.replicate i (-1)++List.replicate (n.av.length-i) 0) (i:Int)=some (.inl (List.replicate (i+1) (-1)++List.replicate (n.av.length-(i+1)) 0,((i+1:Nat):Int)));unfold eO;have hd:List.replicate (n.av.length-i) (0:Int)=0 ::List.replicate (n.av.length-(i+1)) 0:=by
    rw[show n.av.length-i=(n.av.length-(i+1))+1 by omega];rfl
   have hl:(List.replicate i (-1:Int)).length=i:=by simp
   have e1:(List.replicate i (-1:Int)++List.replicate (n.av.length-i) 0)[i]?=some 0:=by rw[List.getElem?_append_right (by omega),hl,Nat.sub_self,hd];rfl
   rw[bu (by simp [aB];exact hi),ba e1,ax,inc (n:=n.av.length) hi (by omega)]
   unfold fi;rw[Int.toNat_natCast,List.set_append_right _ _ (by omega),hl,Nat.sub_self,hd,List.set_cons_zero,List.replicate_succ' (n:=i)]
   simp
  ·show eO n ai az t _ _ (n.av.length:Int)=_;unfold eO;rw[bm (by simp [aB])]
   simp
 rw[l1,ax,wW,ax];unfold uS;by_cases hf:iJ n az=true
 ·rw[if_pos hf,bu hf];obtain⟨h0,h1⟩:=of_decide_eq_true hf;rw[p7 h0 (by simpa using h1),ax]
  apply post.eq;refine tQ ?_
  have pk:fi (List.replicate n.av.length (-1)) az t=cS n.av.length az t:=rfl;rw[pk];have hlen:∀j,(iter ai n.aI (cS n.av.length az t) j).length=n.av.length:=fun j=>by rw[Cd];simp [cS]
  refine OM (fun m s=>∃j:Nat,j≤n.av.length∧s.1=iter ai n.aI (cS n.av.length az t) j∧(s.2=true→j<n.av.length)∧(s.2=false→pass ai n.aI s.1=s.1)∧m=(n.av.length-j)+(if s.2=true then 1 else 0)) (n.av.length+1)
   ⟨0,Nat.zero_le _,rfl,fun _=>by omega,fun h=>by(cases h),by simp⟩ (by omega) ?_
  rintro m ⟨l,b⟩ ⟨j,hj,hl,hb,R_,hm⟩;simp only at hl hb R_ hm;subst hl;show post (kg n ai az _ _ b) _;unfold kg;have U7:=Du (ai:=ai) (t:=t) qo h0 h1 ht S8 j;cases b with
  |true =>
   have Ns:=hb rfl;rw[de,SD qo (hlen j) (fun k hk=>(U7 k hk).1),ax]
   refine⟨_,rfl,fun s' hs=>?_,fun _ h=>by cases h⟩
   cases hs;refine⟨_,?_,j+1,by omega,rfl,fun hu=>?_,fun hu=>?_,rfl⟩
   ·rw[hm];simp only[if_true];split <;> omega
   ·rcases Nat.lt_or_ge (j+1) n.av.length with h|h
    ·exact h
    ·exfalso;have h2:=L7 (il:=ai) (hlen j) qo.all n.aI.length (fun i hi=>(U7 i hi).2 h)
     simp only at hu;rw[h2]at hu;cases hu
   ·have h2:=IA _ hu;have h3:pass ai n.aI (iter ai n.aI (cS n.av.length az t) j)=iter ai n.aI (cS n.av.length az t) j:=h2;simp only;rw[h3,h3]
  |false =>
   refine fG ?_
   have h2:=Om (R_ rfl) (n.av.length-j);rw[show j+(n.av.length-j)=n.av.length by omega]at h2
   show post (some (iter ai n.aI (cS n.av.length az t) j)) _;rw[h2];exact bj.2 rfl
 ·rw[if_neg hf,bm (by simpa using hf)]
theorem uZ(qo:td n)(ht:0≤t)(S8:t≤1048576):mC n ai az t=some (uS n ai az t):=by
 have hp:=qo.av;unfold mC;have l1:aF (fun s=>e_ n ai az t s.1 s.2) ([],0)=some (if iJ n az=true then cS n.av.length az t else List.replicate n.av.length (-1)):=by
  let f:Nat→Int:=fun v=>if(v:Int)=az then t else -1
  have:=eJ (B:=fun s:List Int×Int=>e_ n ai az t s.1 s.2) (e:=(List.range n.av.length).map f) n.av.length (fun i=>((List.range i).map f,(i:Int))) (by omega) (fun i hi=>?_) ?_
  ·rw[show([]:List Int)=(List.range 0).map f from rfl,show(0:Int)=((0:Nat):Int)from rfl,this];congr 1;apply List.ext_getElem?;intro v;by_cases hv:v<n.av.length
   ·rw[List.getElem?_map,List.getElem?_range hv];show some (f v)=_;by_cases hf:iJ n az=true
    ·obtain⟨h0,h1⟩:=of_decide_eq_true hf;rw[if_pos hf];unfold cS;rw[List.getElem?_set];by_cases hc:(v:Int)=az
     ·rw[if_pos (by omega),if_pos (by simp;omega)];simp [f,hc]
     ·rw[if_neg (by omega),List.getElem?_replicate,if_pos hv];simp [f,hc]
    ·rw[if_neg hf,List.getElem?_replicate,if_pos hv];have hc:(v:Int)≠az:=fun h=>hf (decide_eq_true ⟨by omega,by omega⟩)
     simp [f,hc]
   ·rw[List.getElem?_eq_none (by simp;omega),List.getElem?_eq_none]
    split
    ·simp [cS];omega
    ·simp;omega
  ·show e_ n ai az t ((List.range i).map f) (i:Int)=some (.inl ((List.range (i+1)).map f,((i+1:Nat):Int)));unfold e_;rw[bu (by simp [aB];exact hi),inc (n:=n.av.length) hi (by omega),List.range_succ,List.map_append]
   by_cases hc:(i:Int)=az
   ·rw[bu (by simpa using hc),cr (ca (by simp;omega))]
    simp [f,hc]
   ·rw[bm (by simpa using hc),cr (ca (by simp;omega))]
    simp [f,hc]
  ·show e_ n ai az t _ (n.av.length:Int)=_;unfold e_;rw[bm (by simp [aB])]
 rw[l1,ax];have key:∀s0:List Int,s0.length=n.av.length→(∀j k,k≤n.aI.length→∀v,0≤ct (ja ai n.aI (iter ai n.aI s0 j) k) v→MF (ct (ja ai n.aI (iter ai n.aI s0 j) k) v))→
   aF (fun s=>fa n ai az s.1 s.2) (s0,0)=some (iter ai n.aI s0 n.av.length):=by
  intro s0 hl hT;refine eJ (B:=fun s:List Int×Int=>fa n ai az s.1 s.2) n.av.length (fun i=>(iter ai n.aI s0 i,(i:Int))) (by omega) (fun i hi=>?_) ?_
  ·show fa n ai az (iter ai n.aI s0 i) (i:Int)=some (.inl (iter ai n.aI s0 (i+1),((i+1:Nat):Int)));unfold fa;rw[bu (by simp [aB];exact hi),UF qo (by rw[Cd];exact hl) (fun k hk=>hT i k hk),ax,inc (n:=n.av.length) hi (by omega)]
   rfl
  ·show fa n ai az _ (n.av.length:Int)=_;unfold fa;rw[bm (by simp [aB])]
 unfold uS;by_cases hf:iJ n az=true
 ·obtain⟨h0,h1⟩:=of_decide_eq_true hf;rw[if_pos hf,if_pos hf,key _ (by simp [cS]) (fun j k hk=>(Du qo h0 h1 ht S8 j k hk).1),ax]
 ·have hit:∀j,iter ai n.aI (List.replicate n.av.length (-1)) j=List.replicate n.av.length (-1):=fun j=>by
   induction j with
   |zero=>rfl
   |succ j ih=>show ja _ _ (iter _ _ _ j) _=_;rw[ih,all_none]
  rw[if_neg hf,if_neg hf,key _ (by simp) (fun j k hk v hv=>by rw[hit,all_none,ND]at hv;omega),hit,ax]
end
end Go.Proofs.YtbilkblifgaflaaGreatDoor
