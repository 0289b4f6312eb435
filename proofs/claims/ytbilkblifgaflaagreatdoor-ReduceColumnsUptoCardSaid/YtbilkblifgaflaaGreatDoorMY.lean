/- Part MY. -/
import Derived.Test.YtbilkblifgaflaaGreatDoorMP
import Derived.Test.YtbilkblifgaflaaGreatDoorMR
import Derived.Test.YtbilkblifgaflaaGreatDoorMQ
import Derived.Test.YtbilkblifgaflaaGreatDoorMX
set_option linter.unusedSimpArgs false
set_option linter.unusedVariables false
set_option linter.unusedSectionVars false
namespace Go.Proofs.YtbilkblifgaflaaGreatDoor
noncomputable section
theorem Qao(s:ByteArray):∀(k i:Nat) (r:List UInt8),s.size-i=k→(ByteArray.toList.loop s i r).length=r.length+k:=by
 intro k;induction k with
 |zero =>
  intro i r h;unfold ByteArray.toList.loop;rw[if_neg (by omega)]
  simp
 |succ k ih =>
  intro i r h;unfold ByteArray.toList.loop;rw[if_pos (by omega),ih (i+1) _ (by omega)]
  simp;omega
theorem UR(s:ByteArray):s.toList.length=s.size:=by
 unfold ByteArray.toList;rw[Qao s s.size 0 [] (by omega)]
 simp
theorem W3(s:ByteArray):zG s=ik s:=by
 have e:(Jb s ByteArray.empty||cQ (xq s) 16)=(aT (xq s) 1||cQ (xq s) 16):=by
  congr 1;rw[Bool.eq_iff_iff,fS];unfold Jb xq;rw[beq_iff_eq];have hl:=UR s;have he:ByteArray.empty.toList=[]:=List.eq_nil_of_length_eq_zero (by rw[UR];rfl)
  rw[he];constructor
  ·intro h;rw[h]at hl;simp at hl;omega
  ·intro h;exact List.eq_nil_of_length_eq_zero (by omega)
 unfold zG ik;rw[e];rfl
section
variable {K V : Type} {eq : K → K → Bool}
theorem Qd6(he:∀a b,eq a b=true↔a=b){m:List (K×V)}{k k':K}{v z:V}:pY eq (vh eq m k v) k' z=bif eq k' k then v else pY eq m k' z:=by
 induction m with
 |nil=>rfl
 |cons p r ih =>
  unfold vh;cases h1:eq k p.1 with
  |true =>
   have h1':=(he _ _).1 h1;unfold pY;simp only[cond_true,h1'];cases eq k' p.1 <;> rfl
  |false =>
   show pY eq (p ::vh eq r k v) k' z=_;unfold pY;cases h2:eq k' p.1 with
   |true =>
    have h2':=(he _ _).1 h2;have:eq k' k=false:=by
     cases h3:eq k' k with
     |false=>rfl
     |true =>
      have:=(he _ _).1 h3;rw[←this,h2']at h1;rw[(he _ _).2 rfl]at h1;cases h1
    rw[this];rfl
   |false =>
    simp only[cond_false];exact ih
theorem ZD(he:∀a b,eq a b=true↔a=b){α:Type}(f:α→K)(l:List α):∀k:K,pY eq (l.foldl (fun m a=>vh eq m (f a) true) []) k false=l.any fun a=>eq k (f a):=by
 have key:∀(l:List α) (m:List (K×Bool)) (k:K),pY eq (l.foldl (fun m a=>vh eq m (f a) true) m) k false=(pY eq m k false||l.any fun a=>eq k (f a)):=by
  intro l;induction l with
  |nil=>intro m k;simp
  |cons a r ih =>
   intro m k;rw[List.foldl_cons,ih,Qd6 he,List.any_cons];cases eq k (f a)with
   |true=>simp
   |false=>simp
 intro k;rw[key];rfl
end
theorem QbY(a b:ByteArray):T1 a b=true↔a=b:=by
 cases a with
 |mk x =>
  cases b with
  |mk y =>
   show(x == y)=true↔_;rw[beq_iff_eq,ByteArray.mk.injEq]
theorem QlV(a b:aV):aV.XT a b=true↔a=b:=by
 cases a;cases b;simp [aV.XT,aV.mk.injEq]
section
variable {α β : Type}
theorem QbQ{p:Prop} [Decidable p] {x:Option α}{K:α→Option β}:aS (eH p x) K=eH p (aS x K):=by unfold eH;split <;> rfl
theorem zQ{K:α→Option β}:aS none K=none:=rfl
theorem FQ{b:Bool}{x y:Option α}:br (!b) x y=br b y x:=by cases b <;> rfl
theorem zm{o:Option α}{f g:α→Option β}(h:∀a,f a=g a):aS o f=aS o g:=by cases o with|none=>rfl|some a=>exact h a
theorem Xv{l:List α}{i:Nat}(hi:i≤l.length):vw l 0 (i:Int)=some (l.take i):=by unfold vw;rw[if_pos (by omega)];simp
theorem Qc7{l:List α}{i k:Nat}{a:α}(h:(l.take i)[k]?=some a):k<i∧l[k]?=some a:=by
 have hk:=(List.getElem?_eq_some_iff.1 h).1;rw[List.length_take]at hk;rw[List.getElem?_take,if_pos (by omega)]at h
 exact⟨by omega,h⟩
end
section
variable {r b : Bool} {e : Int} {c : List Int} {K J : List Int → Option (List Int)} {β : Type}
theorem Qfq:aS (bO b e c) K=br b (K c) (eH (e_ (c++[e]).length 8) (K (c++[e]))):=by
 unfold bO;cases b with
 |true=>rfl
 |false=>rw[cL,cL,QbQ,ai]
theorem Nr(hK:∀c,K c=J c):aS (bO b e c) K=br b (J c) (eH (e_ (c++[e]).length 8) (J (c++[e]))):=by rw[Qfq,hK,hK]
theorem Qjz(hK:∀c,K c=J c):aS (bO (!b) e c) K=br b (eH (e_ (c++[e]).length 8) (J (c++[e]))) (J c):=by rw[Qfq,hK,hK,FQ]
theorem R9(hK:∀c,K c=J c):aS (bO false e c) K=eH (e_ (c++[e]).length 8) (J (c++[e])):=by rw[Qfq,hK,hK,cL]
theorem S4{n lo hi:Int}{K J:Bool→Option β}(h:∀b,K b=J b):aS (cN n lo hi) K=aS (cr n lo hi) J:=h _
theorem Qfu{b:Bool}{n lo hi:Int}(hK:∀c,K c=J c):br b (aS (cN n lo hi) fun r=>aS (bO r e c) K) (aS (bO false e c) K)=br b (aS (cr n lo hi) fun r=>br r (J c) (eH (e_ (c++[e]).length 8) (J (c++[e])))) (eH (e_ (c++[e]).length 8) (J (c++[e]))):=by
 cases b with
 |true=>rw[dc,dc];exact S4 fun b=>Nr hK
 |false=>rw[cL,cL];exact R9 hK
end
theorem QiA{l:List ag}{t:ag}(hl:l.length≤1048576):dw l t=some (l.any fun a=>Jb a.name t.name):=by
 unfold dw e9;have:=vo hl (fun a:ag=>Jb a.name t.name) (fun k=>(.inr (k:Int):Unit⊕Int)) (N:=.inl ()) (B:=fun s=>cu l t s) (fun i a h=>by
  show cu l t i=_;unfold cu xF;rw[cB h,ai,gP h hl,zn]) (by
  show cu l t l.length=_;unfold cu;rw[bW])
 rw[bY this,←m7];unfold sH;cases Lg (fun a:ag=>Jb a.name t.name) l <;> rfl
theorem QaV{l:List ag}{i:Nat}{s:ByteArray}(hi:i≤l.length)(hl:l.length≤1048576):mT l (i:Int) s=some ((l.take i).any fun a=>Jb a.name s):=by
 have hlen:(l.take i).length=i:=by rw[List.length_take];omega
 unfold mT;rw[bY (eh (B:=fun x=>eC l (i:Int) s x) (l:=l.take i) (by omega) (fun a=>Jb a.name s) (y:=(.inr true:Unit⊕Bool)) (N:=.inl ()) (fun k a h=>by
  obtain⟨h1,h2⟩:=Qc7 h;show eC l (i:Int) s (k:Int)=_;unfold eC;rw[bl (by simp;omega),bt h2,ai,gP h2 hl,zn]) (by
  rw[hlen];show eC l (i:Int) s (i:Int)=_;unfold eC;rw[a_ (by simp)]))]
 cases(l.take i).any fun a=>Jb a.name s <;> rfl
theorem Qk1{c d:List Int}(hc:c.length≤1048576):rN c d=iC c (aC d):=by
 unfold rN iC;refine S4 fun b=>?_
 have h1:eG c=some (c.any fun n=>!(bZ n 0&&jD n 1000)):=by
  unfold eG gp;have:=vo hc (fun n:Int=>!(bZ n 0&&jD n 1000)) (fun k=>(.inr (k:Int):Unit⊕Int)) (N:=.inl ()) (B:=fun s=>cS c s) (fun i a h=>by
   show cS c i=_;unfold cS u9 cN;rw[cB h,ai,ai,gP h hc,zn]) (by
   show cS c c.length=_;unfold cS;rw[bW])
  rw[bY this,←m7];unfold sH;cases Lg (fun n:Int=>!(bZ n 0&&jD n 1000)) c <;> rfl
 have h2:aK (fun s=>dn c s) 0=some (if(c.any fun n=>!(bZ n 0&&jD n 1000))=true then(.inr false:Unit⊕Bool)else .inl ()):=eh (B:=fun s=>dn c s) hc (fun n=>!(bZ n 0&&jD n 1000)) (fun i a h=>by
  show dn c i=_;unfold dn cr;rw[cB h,ai,gP h hc];cases(bZ a 0&&jD a 1000) <;> rfl) (by
  show dn c c.length=_;unfold dn;rw[bW])
 rw[h1,ai,bY h2];cases c.any fun n=>!(bZ n 0&&jD n 1000) <;> rfl
theorem Qhp{n:ak}{l:List ag}(hl:l.length≤1048576)(hI:∀t∈l,t.cap.length≤1048576)(i:Int):xE n l i=jN n l i:=by
 unfold xE jN;cases hg:bq l i with
 |none=>rfl
 |some t =>
  obtain⟨k,rfl⟩:∃k:Nat,i=k:=by
   unfold bq at hg;split at hg
   ·exact⟨i.toNat,by omega⟩
   ·cases hg
  have hk:l[k]?=some t:=by
   unfold bq at hg;rw[if_pos (by omega),Int.toNat_natCast]at hg
   exact hg
  have XQ:=(List.getElem?_eq_some_iff.1 hk).1;have SX:=hI t (List.mem_of_getElem? hk);obtain⟨t0,ht0⟩:∃t0,l[0]?=some t0:=⟨_,List.getElem?_eq_getElem (show 0<l.length by omega)⟩
  have hd:kJ l=some (aC t0.cap):=by
   rw[NZ];cases l with
   |nil=>simp at ht0
   |cons a r=>simp at ht0;subst ht0;rfl
  rw[ai,ai,W3];refine zm fun r=>Nr (J:=fun c=>iD n l (k:Int) t c) fun c=>?_
  unfold iD;rw[Xv (by omega),ai,QiA (by rw[List.length_take];omega),ai,QaV (by omega) hl,ai]
  refine Qjz (J:=fun c=>iE n l t c) fun c=>?_
  unfold iE;refine S4 fun b=>Nr (J:=fun c=>iF n l t c) fun c=>?_
  unfold iF;refine S4 fun b=>Qfu (J:=fun c=>iG l t c) fun c=>?_
  unfold iG;rw[show bq l 0=some t0 from bt (k:=0) ht0,ai,hd,ai,Qk1 SX];refine zm fun r=>Nr (J:=fun c=>iH t c) fun c=>?_
  unfold iH;refine S4 fun b=>Nr (J:=fun c=>iI t c) fun c=>?_
  unfold iI;refine S4 fun b=>?_
  have hb:((!b)||cQ t.bp 4096)=!(b&&jD t.bp 4096):=by
   rw[Bool.not_and];congr 1;rw[Bool.eq_iff_iff,qi,Bool.not_eq_true',Q8]
  rw[hb,FQ];refine Nr (J:=fun c=>iJ t c) fun c=>?_
  unfold iJ;refine S4 fun b=>Qfu (J:=fun c=>iK t c) fun c=>?_
  unfold iK;refine S4 fun b=>?_
  cases b with
  |false=>rw[cL,cL];exact R9 (J:=fun c=>some c) fun c=>rfl
  |true =>
   rw[dc,dc];refine S4 fun b=>?_
   cases b with
   |false=>rw[cL,cL];exact R9 (J:=fun c=>some c) fun c=>rfl
   |true =>
    rw[dc,dc];refine S4 fun b=>?_
    cases b with
    |false=>rw[cL,cL];exact R9 (J:=fun c=>some c) fun c=>rfl
    |true =>
     rw[dc,dc];exact S4 fun b=>Nr (J:=fun c=>some c) fun c=>rfl
theorem Qk5:∀b:Nat,b<10→∀a:Nat,a<10→nD ((10*b+a:Nat):Int)=dh ((10*b+a:Nat):Int):=by decide +kernel
theorem QbV(i:Nat)(h:i<100):nD (i:Int)=dh (i:Int):=by
 have:=Qk5 (i / 10) (by omega) (i % 10) (by omega)
 rwa [show 10*(i / 10)+i % 10=i by omega]at this
theorem ZQ{i:Int}(h0:0≤i)(h1:i<100):nh i=dh i:=by
 obtain⟨k,rfl⟩:∃k:Nat,i=k:=⟨i.toNat,by omega⟩
 unfold nh;rw[QbV k (by omega)]
 cases dh (k:Int) <;> rfl
theorem ZS{n:ak}{l:List ag}(hl:l.length≤100)(hI:∀t∈l,t.cap.length≤1048576):w_ n l=k_ n l:=by
 have hB:∀s:List aa×Int,rL n l s.1 s.2=fU n l s.1 s.2:=fun s=>by
  unfold rL fU;rw[Qhp (by omega) hI]
  cases hb:aT s.2 (aC l)with
  |false=>rw[cL,cL]
  |true =>
   rw[dc,dc];cases hr:jN n l s.2 with
   |none=>rw[zQ,zQ]
   |some r =>
    rw[ai,ai];have h0:0≤s.2:=by
     unfold jN at hr;obtain⟨a,ha,_⟩:=uD hr;unfold bq at ha;split at ha
     ·assumption
     ·cases ha
    rw[fS,aC]at hb;have hf:∀q:List aa×Int,rM n l s.2 r q.1 q.2=ml n l s.2 r q.1 q.2:=fun q=>by
     unfold rM ml;rw[ZQ h0 (by omega)]
    rw[show(fun q:List aa×Int=>rM n l s.2 r q.1 q.2)=fun q=>ml n l s.2 r q.1 q.2 from funext hf]
 have hJ:∀l1,rK n l l1=j0 n l l1:=fun l1=>by
  unfold rK j0;rw[show(fun s:List aa×Int=>rL n l s.1 s.2)=fun s=>fU n l s.1 s.2 from funext hB]
 unfold w_ k_;rw[hJ,hJ];rfl
section
variable {r b : Bool} {e : Int} {c : List Int} {K J : List Int → Option (List Int)} {β : Type}
theorem Yb:aS (bV b e c) K=br b (K c) (eH (e_ (c++[e]).length 8) (K (c++[e]))):=by
 unfold bV;cases b with
 |true=>rfl
 |false=>rw[cL,cL,QbQ,ai]
theorem QH(hK:∀c,K c=J c):aS (bV b e c) K=br b (J c) (eH (e_ (c++[e]).length 8) (J (c++[e]))):=by rw[Yb,hK,hK]
theorem Xy(hK:∀c,K c=J c):aS (bV false e c) K=eH (e_ (c++[e]).length 8) (J (c++[e])):=by rw[Yb,hK,hK,cL]
theorem QlP{n lo hi:Int}{K J:Bool→Option β}(h:∀b,K b=J b):aS (gM n lo hi) K=aS (eI n lo hi) J:=h _
theorem Qk0{b:Bool}{n lo hi:Int}(hK:∀c,K c=J c):br b (aS (gM n lo hi) fun r=>aS (bV r e c) K) (aS (bV false e c) K)=br b (aS (eI n lo hi) fun r=>br r (J c) (eH (e_ (c++[e]).length 8) (J (c++[e])))) (eH (e_ (c++[e]).length 8) (J (c++[e]))):=by
 cases b with
 |true=>rw[dc,dc];exact QlP fun b=>QH hK
 |false=>rw[cL,cL];exact Xy hK
end
theorem Qf0{l:List af}{t:af}(hl:l.length≤1048576):cX l t=some (l.any fun a=>Jb a.name t.name):=by
 unfold cX eM;have:=vo hl (fun a:af=>Jb a.name t.name) (fun k=>(.inr (k:Int):Unit⊕Int)) (N:=.inl ()) (B:=fun s=>ca l t s) (fun i a h=>by
  show ca l t i=_;unfold ca yD;rw[cB h,ai,gP h hl,zn]) (by
  show ca l t l.length=_;unfold ca;rw[bW])
 rw[bY this,←m7];unfold sH;cases Lg (fun a:af=>Jb a.name t.name) l <;> rfl
theorem Qew{a:List Int}{bL:Int}(ha:a.length≤1048576):xb a bL=k9 a bL:=by
 have h1:aK (fun s=>lV a bL s) 0=some (if(a.any fun n=>aT n 0||cQ n 1000)=true then(.inr false:Unit⊕Bool)else .inl ()):=eh (B:=fun s=>lV a bL s) ha (fun n=>aT n 0||cQ n 1000) (fun i x h=>by
  show lV a bL i=_;unfold lV;rw[cB h,gP h ha,zn]) (by
  show lV a bL a.length=_;unfold lV;rw[bW])
 have h2:aK (fun s=>dS a s) 0=some (if(a.any fun n=>aT n 0||cQ n 1000)=true then(.inr false:Unit⊕Bool)else .inl ()):=eh (B:=fun s=>dS a s) ha (fun n=>aT n 0||cQ n 1000) (fun i x h=>by
  show dS a i=_;unfold dS;rw[cB h,gP h ha];cases aT x 0 <;> cases cQ x 1000 <;> rfl) (by
  show dS a a.length=_;unfold dS;rw[bW])
 unfold xb k9;rw[bY h1,bY h2];have he:cA (aC a) bL=!bP (aC a) bL:=rfl;rw[he,FQ];cases(a.any fun n=>aT n 0||cQ n 1000) <;> cases bP (aC a) bL <;> rfl
theorem Wb(s:aM):nj s=dY s:=by
 unfold nj xu dY;have e:(bP s.place (-1)&&(bP s.bm 0&&(bP s.bp 0&&(bP s.bz 0&&true))))=(((bP s.place (-1)&&bP s.bm 0)&&bP s.bp 0)&&bP s.bz 0):=by
  cases bP s.place (-1) <;> cases bP s.bm 0 <;> cases bP s.bp 0 <;> cases bP s.bz 0 <;> rfl
 rw[e];cases(((bP s.place (-1)&&bP s.bm 0)&&bP s.bp 0)&&bP s.bz 0)with
 |true=>rfl
 |false =>
  rw[cL,cL,ai,ai,ai];by_cases h:0≤s.place∧0≤s.bm∧s.bm≤s.bp∧s.bp≤4096∧0≤s.bz∧s.bz≤4096
  ·rw[bl (by rw[kP];omega),bl (by rw[BK,kP,ui];omega),bl (by rw[BK,BK,kP,ui,ui];omega),bl (by rw[BK,kP,ui];omega),a_ (by simp only[Ql,jG,nq];omega)]
  ·rw[bl (b:=((((((aT s.place 0)||(aT s.bm 0))||(cQ s.bm s.bp))||(cQ s.bp 4096))||(aT s.bz 0))||(cQ s.bz 4096))) (by simp only[XX,fS,qi];omega)]
   cases h1:bZ s.place 0 with
   |false=>rfl
   |true =>
    cases h2:(bZ s.bm 0&&jD s.bm 4096)with
    |false=>rfl
    |true =>
     cases h3:((bZ s.bp 0&&jD s.bp 4096)&&jD s.bm s.bp)with
     |false=>rfl
     |true =>
      cases h4:(bZ s.bz 0&&jD s.bz 4096)with
      |false=>rfl
      |true =>
       exfalso;simp only[BK,kP,ui]at h1 h2 h3 h4;omega
theorem Qa5{o:af}{types:Int}{c:List Int}:aS (nf o types) (fun r=>aS (bV r 2 c) fun q=>some q)=fz types o c:=by
 unfold nf fz gM eI;simp only[ai];cases(bZ o.dA (-1)&&jD o.dA 1000000)with
 |false=>rw[cL,cL,ai];exact Xy (J:=fun c=>some c) fun c=>rfl
 |true =>
  rw[dc,dc,ai];have hb:((((((!(bZ o.split 1&&jD o.split 4))||((cQ o.split 1)&&((cA o.pick.place (-1))&&(cA o.drop.place (-1)))))||(aT o.bI (-1)))||(bZ o.bI types))||(aT o.now (-1)))||(bZ o.now types)) =
    !(((((((bZ o.split 1&&jD o.split 4)&&(((bP o.split 1)||(bP o.pick.place (-1)))||(bP o.drop.place (-1))))&&(bZ o.bI (-1)))&&(aT o.bI types))&&(bZ o.now (-1)))&&(aT o.now types))):=by
   rw[Bool.eq_iff_iff];simp only[XX,BK,ntT,ntF,T9,Ql,qi,nq,kP,Hk,fS,jG,ui,Q8,pJ,xC,wk,J0,Bool.not_eq_true',Bool.and_eq_false_iff,Bool.or_eq_false_iff];omega
  rw[hb,FQ];exact QH (J:=fun c=>some c) fun c=>rfl
theorem Qeg{n:ak}{bL types:Int}{l:List af}(hl:l.length≤1048576)(hI:∀t∈l,t.load.length≤1048576)(i:Int):yC n bL types l i=fX (aC n.aD) bL types l i:=by
 unfold yC fX;cases hg:bq l i with
 |none=>rfl
 |some t =>
  obtain⟨k,rfl⟩:∃k:Nat,i=k:=by
   unfold bq at hg;split at hg
   ·exact⟨i.toNat,by omega⟩
   ·cases hg
  have hk:l[k]?=some t:=by
   unfold bq at hg;rw[if_pos (by omega),Int.toNat_natCast]at hg
   exact hg
  have XQ:=(List.getElem?_eq_some_iff.1 hk).1;have Qgb:=hI t (List.mem_of_getElem? hk);have hlen:(l.take k).length=k:=by rw[List.length_take];omega
  rw[ai,ai,W3];refine zm fun r=>?_
  rw[Yb];have main:∀c:List Int,c.length≤1→(aS (vw l 0 (k:Int)) fun l1=>aS (cX l1 t) fun r2=>aS (bV (!r2) 6 c) fun r3=>aS (xb t.load bL) fun r4=>aS (bV r4 17 r3) fun r5=>dq (aC n.aD) types t r5)=fy (aC n.aD) bL types l (k:Int) t c:=fun c hc=>by
   unfold fy;have EJ:aK (fun s=>dk (aC n.aD) bL types l (k:Int) t c s) 0=some (if((l.take k).any fun a=>Jb a.name t.name)=true then c++[6]else c):=eh (B:=fun s=>dk (aC n.aD) bL types l (k:Int) t c s) (l:=l.take k) (by omega) (fun a=>Jb a.name t.name) (fun j a h=>by
    obtain⟨h1,h2⟩:=Qc7 h;show dk (aC n.aD) bL types l (k:Int) t c (j:Int)=_;unfold dk;rw[bl (by simp;omega),bt h2,ai,gP h2 hl,ch (cW (by simp;omega)),zn]) (by
    rw[hlen];show dk (aC n.aD) bL types l (k:Int) t c (k:Int)=_;unfold dk;rw[a_ (by simp)])
   rw[Xv (by omega),ai,Qf0 (by omega),ai,bY EJ,Yb,FQ,Qew Qgb]
   cases(l.take k).any fun a=>Jb a.name t.name with
   |true =>
    rw[dc,if_pos rfl,ch (cW (by simp;omega))]
    exact zm fun r=>QH (J:=fun c=>dq (aC n.aD) types t c) fun c=>rfl
   |false =>
    rw[cL,if_neg (by decide)]
    exact zm fun r=>QH (J:=fun c=>dq (aC n.aD) types t c) fun c=>rfl
  have tail:∀c:List Int,(aS (gM t.pick.place (-1) (dZ .i64 (aC n.aD) 1)) fun r6=>br r6 (aS (gM t.drop.place (-1) (dZ .i64 (aC n.aD) 1)) fun r7=>aS (bV r7 11 c) fun r8=>dT types t r8) (aS (bV false 11 c) fun r8=>dT types t r8))=dq (aC n.aD) types t c:=fun c=>by
   unfold dq;exact QlP fun b=>Qk0 (J:=fun c=>dT types t c) fun c=>rfl
  have t3:∀c:List Int,(aS (bV ((cA t.pick.place (-1))||(cA t.drop.place (-1))) 19 c) fun r9=>eX types t r9)=dT types t c:=fun c=>by
   unfold dT;have hb:(cA t.pick.place (-1)||cA t.drop.place (-1))=!(bP t.pick.place (-1)&&bP t.drop.place (-1)):=by
    unfold cA;rw[Bool.not_and];rfl
   rw[hb,Yb,FQ]
  have t6:∀c:List Int,(aS (gM t.bD 0 1073741823) fun r18=>aS (bV r18 18 c) fun J5=>aS (nf t types) fun r20=>aS (bV r20 2 J5) fun r21=>some r21)=dI types t c:=fun c=>by
   unfold dI;exact QlP fun b=>QH (J:=fun c=>iL types t c) fun c=>Qa5
  have t4:∀c:List Int,(aS (nj t.pick) fun Xf=>br (bP Xf 0) (aS (nj t.drop) fun Ft=>aS (bV (bP Ft 0) 14 c) fun XY=>dI types t XY) (aS (bV false 14 c) fun XY=>dI types t XY))=eX types t c:=fun c=>by
   unfold eX;rw[Wb,Wb];refine zm fun a=>?_
   have hn:∀a:Int,cA a 0=!bP a 0:=fun a=>rfl
   rw[hn,FQ];cases bP a 0 with
   |false=>rw[cL,cL];exact Xy (J:=fun c=>dI types t c) fun c=>rfl
   |true =>
    rw[dc,dc];refine zm fun d=>?_
    rw[hn,FQ];exact QH (J:=fun c=>dI types t c) fun c=>rfl
  rw[←main [] (by simp),←main [5] (by simp)]
  simp only[←tail,←t3,←t4,←t6];rfl
theorem Xa{n:ak}{bL types:Int}{l:List af}(hl:l.length≤100)(hI:∀t∈l,t.load.length≤1048576):xk n bL types l=fJ n bL types l:=by
 have hB:∀s:List aa×Int,si n bL types l s.1 s.2=eD n bL types l s.1 s.2:=fun s=>by
  unfold si eD;rw[Qeg (by omega) hI]
  cases hb:aT s.2 (aC l)with
  |false=>rw[cL,cL]
  |true =>
   rw[dc,dc];cases hr:fX (aC n.aD) bL types l s.2 with
   |none=>rw[zQ,zQ]
   |some r =>
    rw[ai,ai];have h0:0≤s.2:=by
     unfold fX at hr;obtain⟨a,ha,_⟩:=uD hr;unfold bq at ha;split at ha
     ·assumption
     ·cases ha
    rw[fS,aC]at hb;have hf:∀q:List aa×Int,sj n bL types l s.2 r q.1 q.2=mm n bL types l s.2 r q.1 q.2:=fun q=>by
     unfold sj mm;rw[ZQ h0 (by omega)]
    rw[show(fun q:List aa×Int=>sj n bL types l s.2 r q.1 q.2)=fun q=>mm n bL types l s.2 r q.1 q.2 from funext hf]
 have hJ:∀l1,sg n bL types l l1=fV n bL types l l1:=fun l1=>by
  unfold sg fV;rw[show(fun s:List aa×Int=>si n bL types l s.1 s.2)=fun s=>eD n bL types l s.1 s.2 from funext hB]
 unfold xk fJ;rw[hJ,hJ]
def X1(B:Nat):Prop:=∀i:Nat,i<B→∃s,nD (i:Int)=some s∧dh (i:Int)=some s∧s.size≤21
theorem NW:X1 100:=fun i hi=>by
 obtain⟨s,hs,hl⟩:=u7 (i:Int) (K0 (by omega))
 exact⟨s,by rw[QbV i hi,hs],hs,hl⟩
theorem Qan(s:ByteArray):∀(k i:Nat) (r:List UInt8),s.size-i=k→ByteArray.toList.loop s i r=r.reverse++s.data.toList.drop i:=by
 intro k;induction k with
 |zero =>
  intro i r h;unfold ByteArray.toList.loop;rw[if_neg (by omega),List.drop_eq_nil_of_le (by rw[Array.length_toList];exact(by omega:s.size≤i)),List.append_nil]
 |succ k ih =>
  intro i r h;have hi:i<s.data.toList.length:=by rw[Array.length_toList];exact(by omega:i<s.size)
  unfold ByteArray.toList.loop;rw[if_pos (by omega),ih (i+1) _ (by omega),List.drop_eq_getElem_cons hi,List.reverse_cons,List.append_assoc]
  congr 1;have hs:i<s.data.size:=by rw[Array.length_toList]at hi;exact hi
  have:s.get! i=s.data.toList[i]:=by
   show(s.data[i]!)=_;rw[getElem!_pos s.data i hs,Array.getElem_toList]
  rw[this];rfl
theorem Qid(a b:ByteArray):Jb a b=T1 a b:=by
 have h:∀s:ByteArray,s.toList=s.data.toList:=fun s=>by
  unfold ByteArray.toList;rw[Qan s s.size 0 [] (by omega)]
  simp
 rw[Bool.eq_iff_iff,QbY];unfold Jb;rw[beq_iff_eq,h,h];constructor
 ·intro he;cases a;cases b;rw[ByteArray.mk.injEq];exact Array.toList_inj.1 he
 ·rintro rfl;rfl
theorem Qie(a b:ByteArray):T1 a b=T1 b a:=by rw[Bool.eq_iff_iff,QbY,QbY];exact eq_comm
section
variable {n : ak} {B : Nat} {l : List aB} {a : aw} {known : List (aV × Bool)} {tr : List aa}
theorem QeL(hB:X1 B)(hl:l.length≤B):jU l=fI l:=by
 have hf:∀s:List aa×Int,im l s.1 s.2=gD l s.1 s.2:=fun s=>by
  unfold im gD;cases hb:aT s.2 (aC l)with
  |false=>rw[cL,cL]
  |true =>
   rw[dc,dc];cases hg:bq l s.2 with
   |none=>rw[zQ,zQ]
   |some p =>
    obtain⟨k,hk⟩:∃k:Nat,s.2=k:=by
     unfold bq at hg;split at hg
     ·exact⟨s.2.toNat,by omega⟩
     ·cases hg
    rw[fS,aC]at hb;obtain⟨r,r1,r2,_⟩:=hB k (by omega)
    rw[ai,ai,hk,r1,ai,r2,ai];unfold ni;rw[ai];have hc:((!(bZ p.t 0&&jD p.t 4096))||aT p.a p.t||cQ p.a (aY .i64 p.t 4096))=((((aT p.t 0)||(cQ p.t 4096))||(aT p.a p.t))||(cQ p.a (aY .i64 p.t 4096))):=by
     congr 2;rw[Bool.eq_iff_iff,ntT,T9,XX,Hk,Q8,fS,qi]
    have hJ:∀c,n5 l (k:Int) p r c=iB l (k:Int) p c:=fun c=>by
     unfold n5 iB;rw[r2,ai]
    rw[hc,hJ,hJ]
 have hJ:∀c,n0 l c=jX l c:=fun c=>by
  unfold n0 jX;rw[show(fun s:List aa×Int=>im l s.1 s.2)=fun s=>gD l s.1 s.2 from funext hf]
 unfold jU fI;rw[hJ,hJ];congr 1;rw[Bool.eq_iff_iff];simp only[XX,pJ,fS,qi,aC];omega
def V0(l:List aB)(i:Nat):Bool:=match l[i]? with
 |none=>false
 |some p=>!((bZ p.t 0&&jD p.t 4096)&&(bZ p.a 0&&jD p.a 4096))||(decide (0<i)&&(match l[i-1]? with
  |some q=>jD p.t q.t
  |none=>false))
def vR(l:List aB):Nat→List Int
 |0=>[]
 |k+1=>vR l k++if V0 l k=true then [2]else []
def Pk(l:List aB):List Int:=(if l.length>16 then [4]else [])++vR l l.length
theorem K8:∀k,(vR l k).length≤k
 |0=>Nat.le_refl _
 |k+1=>by have:=K8 k;unfold vR;rw[List.length_append];split <;> simp <;> omega
theorem V1:(Pk l).length≤l.length+1:=by
 have:=K8 (l:=l) l.length;unfold Pk;rw[List.length_append];split <;> simp <;> omega
theorem Qc4{p:aB}(e:l[0]?=some p):V0 l 0=!((bZ p.t 0&&jD p.t 4096)&&(bZ p.a 0&&jD p.a 4096)):=by
 unfold V0;rw[e];simp
theorem Qc5{p q:aB}{i:Nat}(h0:0<i)(e:l[i]?=some p)(e0:l[i-1]?=some q):V0 l i=(!((bZ p.t 0&&jD p.t 4096)&&(bZ p.a 0&&jD p.a 4096))||jD p.t q.t):=by
 unfold V0;rw[e];simp only;rw[e0];simp [h0]
theorem TI(k:Nat):vR l (k+1)=vR l k++if V0 l k=true then [2]else []:=rfl
theorem Qjw(hl:l.length≤1048576):vi l=some (Pk l):=by
 have main:∀c:List Int,c.length≤1→qt l c=some (c++vR l l.length):=fun c hc=>by
  unfold qt;have:=dj l.length (fun i=>(c++vR l i,(i:Int))) (B:=fun s:List Int×Int=>kN l s.1 s.2) (e:=c++vR l l.length) (by omega) (fun i hi=>by
   have e1:l[i]?=some l[i]:=List.getElem?_eq_getElem hi;have hE:=K8 (l:=l) i;have mA:e_ ((c++vR l i)++[2]).length 8:=cW (by simp only[List.length_append,List.length_singleton];omega)
   have qf:aY .i64 (i:Int) 1=((i+1:Nat):Int):=by rw[ig (by omega) (by omega)];omega
   show kN l (c++vR l i) (i:Int)=some (.inl (c++vR l (i+1),((i+1:Nat):Int)));unfold kN vj;rw[bl (by simp only[fS,aC];omega),bt e1,ai,ai,ai,qf,ch mA,TI]
   generalize l[i]=p at e1;rcases Nat.eq_zero_or_pos i with h0|h0
   ·rw[a_ (b:=cQ (i:Int) 0) (by simp only[nq];omega)]
    subst h0;rw[Qc4 e1];cases(bZ p.t 0&&jD p.t 4096) <;> cases(bZ p.a 0&&jD p.a 4096) <;> simp
   ·have e0:l[i-1]?=some (l[i-1]'(by omega)):=List.getElem?_eq_getElem _
    have hs:dZ .i64 (i:Int) 1=((i-1:Nat):Int):=by rw[v9 (by omega) (by omega)];omega
    rw[bl (b:=cQ (i:Int) 0) (by simp only[qi];omega),hs,bt e0,ai,Qc5 h0 e1 e0]
    cases(bZ p.t 0&&jD p.t 4096) <;> cases(bZ p.a 0&&jD p.a 4096) <;> cases jD p.t (l[i-1]'(by omega)).t <;> simp) (by
   show kN l (c++vR l l.length) (l.length:Int)=_;unfold kN;rw[a_ (by simp [aC])])
  rw[bY (show aK (fun s:List Int×Int=>kN l s.1 s.2) (c,0)=_ by simpa [vR]using this)]
 unfold vi Pk;by_cases h:l.length>16
 ·rw[bl (by simp [aC];omega),ch (cW (by simp)),main [4] (by simp),if_pos h]
 ·rw[a_ (by simp [aC];omega),main [] (by simp),if_neg h]
def Sj(a:aw):Bool:=((((aT a.aj 0)||(cQ a.aj 7))||(aT a.cT 0))||(cQ a.cT 10000))||(bP a.aE a.dE)
def inA(n:ak)(a:aw):Bool:=f_ n a.aE&&f_ n a.dE
def Wk(a:aw)(kn:Bool)(tr:List aa):List Int:=(if kn=true then [6]else [])++(tr.map (·.IK)++Pk a.eU)
def Rl(n:ak)(a:aw)(kn:Bool)(tr:List aa):List Int:=(if inA n a=true then []else [11])++((if Sj a=true then [2]else [])++Wk a kn tr)
theorem Qfm{kn:Bool}:(Rl n a kn tr).length≤4+tr.length+a.eU.length:=by
 have:=V1 (l:=a.eU);unfold Rl Wk;simp only[List.length_append,List.length_map];split <;> split <;> split <;> simp <;> omega
theorem Qfn(ht:jU a.dM=some tr)(WS:tr.length≤2097153)(hs:a.eU.length≤1048576){l c:List Int}(hc:c.length≤100):sf a known l c=some (c++(tr.map (·.IK)++Pk a.eU)):=by
 unfold sf;rw[ht,ai];have:=dj tr.length (fun i=>(c++(tr.take i).map (·.IK),(i:Int))) (B:=fun s:List Int×Int=>lZ a known l tr s.1 s.2) (e:=c++tr.map (·.IK)) (by omega) (fun i hi=>by
  have e1:tr[i]?=some tr[i]:=List.getElem?_eq_getElem hi;have qf:aY .i64 (i:Int) 1=((i+1:Nat):Int):=by rw[ig (by omega) (by omega)];omega
  show lZ a known l tr (c++(tr.take i).map (·.IK)) (i:Int)=_;unfold lZ;rw[bl (by simp only[fS,aC];omega),bt e1,ai,ch (cW (by simp only[List.length_append,List.length_map,List.length_take,List.length_singleton];omega)),qf,List.take_add_one,e1,Option.toList_some,List.map_append,←List.append_assoc]
  rfl) (by
  show lZ a known l tr (c++(tr.take tr.length).map (·.IK)) (tr.length:Int)=_;unfold lZ;rw[a_ (by simp [aC]),List.take_length])
 have S0:=V1 (l:=a.eU);rw[bY (show aK (fun s:List Int×Int=>lZ a known l tr s.1 s.2) (c,0)=_ by simpa using this),Qjw hs,ai,ch (cW (by simp only[List.length_append,List.length_map];omega)),List.append_assoc]
theorem Wl(ht:jU a.dM=some tr)(WS:tr.length≤2097153)(hs:a.eU.length≤1048576){l c:List Int}(hc:c.length≤99):pZ a known l c=some (c++Wk a (pY aV.XT known (aV.mk a.aE a.dE a.aj) false) tr):=by
 unfold pZ nd Wk;rw[ai];cases pY aV.XT known (aV.mk a.aE a.dE a.aj) false with
 |true=>rw[dc,ch (cW (by simp;omega)),Qfn ht WS hs (by simp;omega),if_pos rfl,List.append_assoc]
 |false=>rw[cL,Qfn ht WS hs (by omega),if_neg (by decide),List.nil_append]
theorem Qfo{c:List Int}:uR a known c=pZ a known c c:=rfl
theorem QkX(ht:jU a.dM=some tr)(WS:tr.length≤2097153)(hs:a.eU.length≤1048576):Ag n a known=some (Rl n a (pY aV.XT known (aV.mk a.aE a.dE a.aj) false) tr):=by
 have hJ1:∀l:List Int,l.length≤90→se a known l=some (l++((if Sj a=true then [2]else [])++Wk a (pY aV.XT known (aV.mk a.aE a.dE a.aj) false) tr)):=fun l hl=>by
  unfold se;show br (Sj a) _ _=_;cases Sj a with
  |true=>rw[dc,ch (cW (by simp;omega)),Wl ht WS hs (by simp;omega),if_pos rfl,List.append_assoc]
  |false=>rw[cL,Wl ht WS hs (by omega),if_neg (by decide),List.nil_append]
 unfold Ag Rl inA;rw[Cq,ai,Cq,ai];cases f_ n a.aE with
 |true =>
  cases f_ n a.dE with
  |true=>rw[dc,dc,hJ1 [] (by simp)];rfl
  |false=>rw[dc,cL,ch (cW (by simp)),hJ1 [11] (by simp)];rfl
 |false =>
  rw[cL,ch (cW (by simp))]
  show br (Sj a) _ _=_;cases Sj a with
  |true =>
   rw[dc,ch (cW (by simp)),Qfo,Wl ht WS hs (by simp)]
   simp
  |false =>
   rw[cL,Qfo,Wl ht WS hs (by simp)]
   simp
def zr(r:ByteArray)(e:Int):aa:=aa.mk e (cM ct r)
theorem QcT{r:ByteArray}{l0 c:List aa}(hs:a.eU.length≤1048576)(hc:c.length≤3000000):fE r a l0 c=some (c++(vR a.eU a.eU.length).map (zr r)):=by
 unfold fE;have:=dj a.eU.length (fun i=>(c++(vR a.eU i).map (zr r),(i:Int))) (B:=fun s:List aa×Int=>dz r a l0 s.1 s.2) (e:=c++(vR a.eU a.eU.length).map (zr r)) (by omega) (fun i hi=>by
  have e1:a.eU[i]?=some a.eU[i]:=List.getElem?_eq_getElem hi;have hE:=K8 (l:=a.eU) i;have mA:e_ ((c++(vR a.eU i).map (zr r))++[aa.mk 2 (cM ct r)]).length 24:=cW (by simp only[List.length_append,List.length_map,List.length_singleton];omega)
  have qf:aY .i64 (i:Int) 1=((i+1:Nat):Int):=by rw[ig (by omega) (by omega)];omega
  show dz r a l0 (c++(vR a.eU i).map (zr r)) (i:Int)=some (.inl (c++(vR a.eU (i+1)).map (zr r),((i+1:Nat):Int)));unfold dz nR;rw[bl (by simp only[fS,aC];omega),bt e1,ai,ai,ai,qf,ch mA,TI]
  generalize a.eU[i]=p at e1;have hf:zr r 2=aa.mk 2 (cM ct r):=rfl;rcases Nat.eq_zero_or_pos i with h0|h0
  ·rw[a_ (b:=cQ (i:Int) 0) (by simp only[nq];omega)]
   subst h0;rw[Qc4 e1];cases(bZ p.t 0&&jD p.t 4096) <;> cases(bZ p.a 0&&jD p.a 4096) <;> simp [hf]
  ·have e0:a.eU[i-1]?=some (a.eU[i-1]'(by omega)):=List.getElem?_eq_getElem _
   have hs:dZ .i64 (i:Int) 1=((i-1:Nat):Int):=by rw[v9 (by omega) (by omega)];omega
   rw[bl (b:=cQ (i:Int) 0) (by simp only[qi];omega),hs,bt e0,ai,Qc5 h0 e1 e0]
   cases(bZ p.t 0&&jD p.t 4096) <;> cases(bZ p.a 0&&jD p.a 4096) <;> cases jD p.t (a.eU[i-1]'(by omega)).t <;> simp [hf]) (by
  show dz r a l0 (c++(vR a.eU a.eU.length).map (zr r)) (a.eU.length:Int)=_;unfold dz;rw[a_ (by simp [aC])])
 rw[bY (show aK (fun s:List aa×Int=>dz r a l0 s.1 s.2) (c,0)=_ by simpa [vR]using this)]
theorem QcS{r:ByteArray}{l0 c:List aa}(ht:fI a.dM=some tr)(WS:tr.length≤2097153)(hs:a.eU.length≤1048576)(hc:c.length≤100):gg r a l0 c=some (c++(tr.map (·.IK)++Pk a.eU).map (zr r)):=by
 unfold gg;rw[ht,ai];have:=dj tr.length (fun i=>(c++((tr.take i).map (·.IK)).map (zr r),(i:Int))) (B:=fun s:List aa×Int=>dy r a l0 tr s.1 s.2) (e:=c++(tr.map (·.IK)).map (zr r)) (by omega) (fun i hi=>by
  have e1:tr[i]?=some tr[i]:=List.getElem?_eq_getElem hi;have qf:aY .i64 (i:Int) 1=((i+1:Nat):Int):=by rw[ig (by omega) (by omega)];omega
  show dy r a l0 tr (c++((tr.take i).map (·.IK)).map (zr r)) (i:Int)=_;unfold dy;rw[bl (by simp only[fS,aC];omega),bt e1,ai,ch (cW (by simp only[List.length_append,List.length_map,List.length_take,List.length_singleton];omega)),qf,List.take_add_one,e1,Option.toList_some,List.map_append,List.map_append,←List.append_assoc]
  rfl) (by
  show dy r a l0 tr (c++((tr.take tr.length).map (·.IK)).map (zr r)) (tr.length:Int)=_;unfold dy;rw[a_ (by simp [aC]),List.take_length])
 rw[bY (show aK (fun s:List aa×Int=>dy r a l0 tr s.1 s.2) (c,0)=_ by simpa using this)]
 unfold Pk;by_cases h:a.eU.length>16
 ·rw[bl (by simp [aC];omega),ch (cW (by simp only[List.length_append,List.length_map,List.length_singleton];omega)),QcT hs (by simp only[List.length_append,List.length_map,List.length_singleton];omega),if_pos h]
  simp [zr]
 ·rw[a_ (by simp [aC];omega),QcT hs (by simp only[List.length_append,List.length_map];omega),if_neg h]
  simp
def knA(n:ak)(i:Nat)(a:aw):Bool:=(n.bj.take i).any fun b=>aV.XT (aV.mk a.aE a.dE a.aj) (aV.mk b.aE b.dE b.aj)
theorem QjI{r:ByteArray}{l0 l1:List aa}{i:Nat}(hi:i<n.bj.length)(hal:n.bj.length≤1048576):aK (fun s:Bool×Int=>dx n (i:Int) r a l0 l1 s.1 s.2) (false,0)=some (knA n i a):=by
 have:=dj i (fun k=>((n.bj.take k).any fun b=>aV.XT (aV.mk a.aE a.dE a.aj) (aV.mk b.aE b.dE b.aj),(k:Int))) (B:=fun s:Bool×Int=>dx n (i:Int) r a l0 l1 s.1 s.2) (e:=knA n i a) (by omega) (fun k hk=>by
  have e1:n.bj[k]?=some (n.bj[k]'(by omega)):=List.getElem?_eq_getElem _
  have qf:aY .i64 (k:Int) 1=((k+1:Nat):Int):=by rw[ig (by omega) (by omega)];omega
  show dx n (i:Int) r a l0 l1 ((n.bj.take k).any _) (k:Int)=_;unfold dx;rw[bl (by simp;omega),bt e1,ai,qf,List.take_add_one,e1,Option.toList_some,List.any_append]
  congr 3;simp only[List.any_cons,List.any_nil,Bool.or_false,aV.XT];congr 1;rw[Bool.eq_iff_iff];simp [and_assoc]) (by
  show dx n (i:Int) r a l0 l1 _ (i:Int)=_;unfold dx;rw[a_ (by simp)];rfl)
 simpa using this
theorem Qjp{r:ByteArray}{i:Nat}(hi:n.bj[i]?=some a)(hal:n.bj.length≤1048576)(hr:dh (i:Int)=some r)(WQ:r.size≤21)(ht:fI a.dM=some tr)(WS:tr.length≤2097153)(hs:a.eU.length≤1048576):jZ n (i:Int)=some ((Rl n a (knA n i a) tr).map (zr r)):=by
 have mj:=(List.getElem?_eq_some_iff.1 hi).1;have hJ2:∀l c:List aa,c.length≤90→gf n (i:Int) r a l c=some (c++(Wk a (knA n i a) tr).map (zr r)):=fun l c hc=>by
  unfold gf Wk;rw[bY (QjI mj hal)];cases knA n i a with
  |true=>rw[dc,ch (cW (by simp;omega)),QcS ht WS hs (by simp;omega),if_pos rfl];simp [zr]
  |false=>rw[cL,QcS ht WS hs (by omega),if_neg (by decide),List.nil_append]
 have hJ1:∀l:List aa,l.length≤80→gb n (i:Int) r a l=some (l++((if Sj a=true then [2]else [])++Wk a (knA n i a) tr).map (zr r)):=fun l hl=>by
  unfold gb;show br (Sj a) _ _=_;cases Sj a with
  |true=>rw[dc,ch (cW (by simp;omega)),hJ2 _ _ (by simp;omega),if_pos rfl];simp [zr]
  |false=>rw[cL,hJ2 _ _ (by omega),if_neg (by decide),List.nil_append]
 unfold jZ;rw[hr,ai,ch (by show 4+r.size≤_;omega),bt hi,ai]
 have ry:((((aT a.aE 0)||(bZ a.aE (aC n.aD)))||(aT a.dE 0))||(bZ a.dE (aC n.aD)))=!inA n a:=by
  unfold inA f_;rw[Bool.eq_iff_iff];simp only[XX,fS,kP,aC,ntT,T9,decide_eq_false_iff_not];omega
 rw[ry,FQ];unfold Rl;cases inA n a with
 |true=>rw[dc,hJ1 [] (by simp)];simp
 |false=>rw[cL,ch (cW (by simp)),hJ1 _ (by simp)];simp [zr]
end
def I4(k:Nat):ByteArray:=(dh (k:Int)).getD ByteArray.empty
def Y9(s:ByteArray):Bool:=(ik s).getD false
def trA(a:aw):List aa:=(fI a.dM).getD []
def plE(n:ak)(k:Nat):List aa:=match n.aD[k]? with
 |none=>[]
 |some s=>if Y9 s=true then(if(n.aD.take k).any (fun b=>T1 s b)=true then [aa.mk 6 (cM e7 (I4 k))]else [])else [aa.mk 5 (cM e7 (I4 k))]
def OU(n:ak):Nat→List aa
 |0=>[]
 |k+1=>OU n k++plE n k
def arE(n:ak)(k:Nat):List aa:=match n.bj[k]? with
 |none=>[]
 |some a=>(Rl n a (knA n k a) (trA a)).map (zr (I4 k))
def Nx(n:ak):Nat→List aa
 |0=>[]
 |k+1=>Nx n k++arE n k
def Qg(n:ak):List aa:=((if n.aD.length>24 then [aa.mk 4 iy]else [])++OU n n.aD.length)++((if n.bj.length>1024 then [aa.mk 4 qZ]else [])++Nx n n.bj.length)
section
variable {n : ak} {B : Nat}
theorem Qjf(k:Nat):(plE n k).length≤1:=by
 unfold plE;split
 ·simp
 ·split
  ·split <;> simp
  ·simp
theorem R5:∀k,(OU n k).length≤k
 |0=>Nat.le_refl _
 |k+1=>by
  have h1:=R5 k;have h2:=Qjf (n:=n) k;unfold OU;rw[List.length_append];omega
theorem Wx(hB:X1 B){k:Nat}(hk:k<B):nh (k:Int)=some (I4 k)∧dh (k:Int)=some (I4 k)∧(I4 k).size≤21:=by
 obtain⟨s,s1,s2,s3⟩:=hB k hk;have:I4 k=s:=by unfold I4;rw[s2];rfl
 rw[this];refine⟨?_,s2,s3⟩;unfold nh;rw[s1];rfl
theorem QcI(hn:Mw n){s:ByteArray}(hs:s∈n.aD):ik s=some (Y9 s):=by
 obtain⟨b,hb,_⟩:=KZ s (hn.names s hs);unfold Y9;rw[hb];rfl
theorem Zi(k:Nat):OU n (k+1)=OU n k++plE n k:=rfl
theorem X9(k:Nat):Nx n (k+1)=Nx n k++arE n k:=rfl
theorem Zn(hn:Mw n)(hB:X1 B)(hp:n.aD.length≤B){l0 l:List aa}(hl:l0.length≤1):aK (fun s:List aa×List (ByteArray×Bool)×Int=>jQ n l s.1 s.2.1 s.2.2) (l0,[],0)=some (l0++OU n n.aD.length):=by
 have AK:=hn.aD;have:=dj n.aD.length (fun i=>(l0++OU n i,(n.aD.take i).foldl (fun m s=>vh T1 m s true) [],(i:Int))) (B:=fun s:List aa×List (ByteArray×Bool)×Int=>jQ n l s.1 s.2.1 s.2.2) (e:=l0++OU n n.aD.length) (by omega) (fun i hi=>by
  have e:n.aD[i]?=some n.aD[i]:=List.getElem?_eq_getElem hi;have qf:aY .i64 (i:Int) 1=((i+1:Nat):Int):=by rw[ig (by omega) (by omega)];omega
  obtain⟨d1,d2,d3⟩:=Wx hB (show i<B by omega)
  have hlen:=R5 (n:=n) i;have mA:∀f:aa,e_ ((l0++OU n i)++[f]).length 24:=fun f=>cW (by simp only[List.length_append,List.length_singleton];omega)
  have QnO:=ZD (eq:=T1) QbY (fun s:ByteArray=>s) (n.aD.take i) n.aD[i]
  show jQ n l (l0++OU n i) ((n.aD.take i).foldl (fun m s=>vh T1 m s true) []) (i:Int)=some (.inl (l0++OU n (i+1),(n.aD.take (i+1)).foldl (fun m s=>vh T1 m s true) [],((i+1:Nat):Int)))
  unfold jQ;rw[bl (by simp [aC];omega),bt e,ai,d1,ai,ch (by show 6+(I4 i).size≤_;omega),W3,QcI hn (List.getElem_mem hi),ai,QnO,ch (mA _),ch (mA _),Zi]
  unfold po plE;rw[e,qf,List.take_add_one,e,Option.toList_some,List.foldl_append];simp only;cases Y9 n.aD[i]with
  |true =>
   cases(n.aD.take i).any (fun b=>T1 n.aD[i] b) <;> simp
  |false=>simp) (by
  show jQ n l (l0++OU n n.aD.length) ((n.aD.take n.aD.length).foldl (fun m s=>vh T1 m s true) []) (n.aD.length:Int)=_
  unfold jQ;rw[a_ (by simp [aC])])
 simpa [OU]using this
theorem Qer(hn:Mw n){l l1:List aa}{r:ByteArray}{i:Nat}{s:ByteArray}(hs:n.aD[i]?=some s):aK (fun q:Bool×Int=>cH n l l1 (i:Int) r q.1 q.2) (false,0)=some ((n.aD.take i).any fun b=>T1 s b):=by
 have AK:=hn.aD;have hi:=(List.getElem?_eq_some_iff.1 hs).1;have:=dj i (fun k=>((n.aD.take k).any (fun b=>T1 s b),(k:Int))) (B:=fun q:Bool×Int=>cH n l l1 (i:Int) r q.1 q.2) (e:=(n.aD.take i).any fun b=>T1 s b) (by omega) (fun k hk=>by
  have e1:n.aD[k]?=some (n.aD[k]'(by omega)):=List.getElem?_eq_getElem _
  have qf:aY .i64 (k:Int) 1=((k+1:Nat):Int):=by rw[ig (by omega) (by omega)];omega
  show cH n l l1 (i:Int) r ((n.aD.take k).any fun b=>T1 s b) (k:Int)=_
  unfold cH;rw[bl (by simp;omega),bt e1,ai,bt hs,ai,qf,List.take_add_one,e1,Option.toList_some,List.any_append,Qid,Qie]
  cases(n.aD.take k).any fun b=>T1 s b <;> simp) (by
  show cH n l l1 (i:Int) r ((n.aD.take i).any fun b=>T1 s b) (i:Int)=_
  unfold cH;rw[a_ (by simp)])
 simpa using this
theorem Tw(hn:Mw n)(hB:X1 B)(hp:n.aD.length≤B){l0 l:List aa}(hl:l0.length≤1):fc n l0=some (l0++OU n n.aD.length):=by
 have AK:=hn.aD;unfold fc;have:=dj n.aD.length (fun i=>(l0++OU n i,(i:Int))) (B:=fun s:List aa×Int=>cG n l0 s.1 s.2) (e:=l0++OU n n.aD.length) (by omega) (fun i hi=>by
  have e:n.aD[i]?=some n.aD[i]:=List.getElem?_eq_getElem hi;have qf:aY .i64 (i:Int) 1=((i+1:Nat):Int):=by rw[ig (by omega) (by omega)];omega
  obtain⟨d1,d2,d3⟩:=Wx hB (show i<B by omega)
  have hlen:=R5 (n:=n) i;have mA:∀f:aa,e_ ((l0++OU n i)++[f]).length 24:=fun f=>cW (by simp only[List.length_append,List.length_singleton];omega)
  show cG n l0 (l0++OU n i) (i:Int)=some (.inl (l0++OU n (i+1),((i+1:Nat):Int)));unfold cG;rw[bl (by simp [aC];omega),d2,ai,ch (by show 6+(I4 i).size≤_;omega),bt e,ai,QcI hn (List.getElem_mem hi),ai,bY (Qer hn e),ch (mA _),ch (mA _),qf,Zi]
  unfold plE;rw[e];simp only;cases Y9 n.aD[i]with
  |true =>
   cases(n.aD.take i).any (fun b=>T1 n.aD[i] b) <;> simp
  |false=>simp) (by
  show cG n l0 (l0++OU n n.aD.length) (n.aD.length:Int)=_;unfold cG;rw[a_ (by simp [aC])])
 rw[bY (show aK (fun s:List aa×Int=>cG n l0 s.1 s.2) (l0,0)=_ by simpa [OU]using this)]
theorem Qby{a:aw}(hI:QkJ a):fI a.dM=some (trA a)∧(trA a).length≤2097153:=by
 obtain⟨r,hr,h1,_⟩:=zD hI.dM hI.pts;have:trA a=r:=by unfold trA;rw[hr];rfl
 rw[this];have:=hI.dM;exact⟨hr,by omega⟩
theorem Wi(hn:Mw n)(k:Nat):(arE n k).length≤3145733:=by
 unfold arE;split
 ·simp
 ·rename_i a ha;have hI:=hn.Qdl a (List.mem_of_getElem? ha);have h1:=(Qby hI).2;have h2:=hI.eU;have h3:=Qfm (n:=n) (a:=a) (kn:=knA n k a) (tr:=trA a);rw[List.length_map];omega
theorem Wj(hn:Mw n):∀k,(Nx n k).length≤3145733*k
 |0=>Nat.le_refl _
 |k+1=>by
  have h1:=Wj hn k;have h2:=Wi hn k;unfold Nx;rw[List.length_append];omega
theorem QaW{i:Nat}{a:aw}:pY aV.XT ((n.bj.take i).foldl (fun m a=>vh aV.XT m (aV.mk a.aE a.dE a.aj) true) []) (aV.mk a.aE a.dE a.aj) false=knA n i a:=
 ZD (eq:=aV.XT) QlV (fun a:aw=>aV.mk a.aE a.dE a.aj) (n.bj.take i) (aV.mk a.aE a.dE a.aj)
theorem VR(hn:Mw n)(hB:X1 B)(hp:n.bj.length≤B)(ht:∀a∈n.bj,a.dM.length≤B){l0 l:List aa}(hl:l0.length≤1048578):pq n l l0=some (l0++Nx n n.bj.length):=by
 have hal:=hn.bj;unfold pq;have:=dj n.bj.length (fun i=>(l0++Nx n i,(n.bj.take i).foldl (fun m a=>vh aV.XT m (aV.mk a.aE a.dE a.aj) true) [],(i:Int))) (B:=fun s:List aa×List (aV×Bool)×Int=>jR n l s.1 s.2.1 s.2.2) (e:=l0++Nx n n.bj.length) (by omega) (fun i hi=>by
  have e:n.bj[i]?=some n.bj[i]:=List.getElem?_eq_getElem hi;have tZ:=List.getElem_mem hi;have hI:=hn.Qdl _ tZ;have qf:aY .i64 (i:Int) 1=((i+1:Nat):Int):=by rw[ig (by omega) (by omega)];omega
  obtain⟨d1,d2,d3⟩:=Wx hB (show i<B by omega)
  obtain⟨t1,t2⟩:=Qby hI;have htr:jU n.bj[i].dM=some (trA n.bj[i]):=by rw[QeL hB (ht _ tZ)];exact t1
  have hlen:=Wj hn i;have hE:=Wi hn i;have hEe:arE n i=(Rl n n.bj[i] (knA n i n.bj[i]) (trA n.bj[i])).map (zr (I4 i)):=by unfold arE;rw[e]
  rw[hEe,List.length_map]at hE;show jR n l (l0++Nx n i) ((n.bj.take i).foldl _ []) (i:Int)=some (.inl (l0++Nx n (i+1),(n.bj.take (i+1)).foldl _ [],((i+1:Nat):Int)));unfold jR;rw[bl (by simp [aC];omega),bt e,ai,QkX htr t2 hI.eU,ai,QaW]
  rw[List.take_add_one,e,Option.toList_some,List.foldl_append,X9,hEe];generalize n.bj[i]=a at *;generalize Rl n a (knA n i a) (trA a)=E at hE ⊢;generalize(n.bj.take i).foldl (fun m a=>vh aV.XT m (aV.mk a.aE a.dE a.aj) true) []=M
  have ry:=dj E.length (fun j=>((l0++Nx n i)++(E.take j).map (zr (I4 i)),(j:Int))) (B:=fun s:List aa×Int=>jS n l M (i:Int) a E s.1 s.2) (e:=(l0++Nx n i)++E.map (zr (I4 i))) (by omega) (fun j hj=>by
   have e1:E[j]?=some E[j]:=List.getElem?_eq_getElem hj;have Qna:aY .i64 (j:Int) 1=((j+1:Nat):Int):=by rw[ig (by omega) (by omega)];omega
   show jS n l M (i:Int) a E ((l0++Nx n i)++(E.take j).map (zr (I4 i))) (j:Int)=_;unfold jS;rw[bl (by simp only[fS,aC];omega),bt e1,ai,d1,ai,ch (by show 4+(I4 i).size≤_;omega),ch (cW (by simp only[List.length_append,List.length_map,List.length_take,List.length_singleton];omega)),Qna,List.take_add_one,e1,Option.toList_some,List.map_append,←List.append_assoc]
   rfl) (by
   show jS n l M (i:Int) a E ((l0++Nx n i)++(E.take E.length).map (zr (I4 i))) (E.length:Int)=_;unfold jS;rw[a_ (by simp [aC]),List.take_length])
  rw[bY (show aK (fun s:List aa×Int=>jS n l M (i:Int) a E s.1 s.2) (l0++Nx n i,0)=_ by simpa using ry)]
  unfold nd;rw[ai,qf];rfl) (by
  show jR n l (l0++Nx n n.bj.length) ((n.bj.take n.bj.length).foldl _ []) (n.bj.length:Int)=_;unfold jR;rw[a_ (by simp [aC])])
 rw[bY (show aK (fun s:List aa×List (aV×Bool)×Int=>jR n l s.1 s.2.1 s.2.2) (l0,[],0)=_ by simpa [Nx]using this)]
theorem Zs(hn:Mw n)(hB:X1 B)(hp:n.bj.length≤B){l0:List aa}(hl:l0.length≤1048578):jY n l0=some (l0++Nx n n.bj.length):=by
 have hal:=hn.bj;unfold jY;have:=dj n.bj.length (fun i=>(l0++Nx n i,(i:Int))) (B:=fun s:List aa×Int=>eB n l0 s.1 s.2) (e:=l0++Nx n n.bj.length) (by omega) (fun i hi=>by
  have e:n.bj[i]?=some n.bj[i]:=List.getElem?_eq_getElem hi;have tZ:=List.getElem_mem hi;have hI:=hn.Qdl _ tZ;have qf:aY .i64 (i:Int) 1=((i+1:Nat):Int):=by rw[ig (by omega) (by omega)];omega
  obtain⟨d1,d2,d3⟩:=Wx hB (show i<B by omega)
  obtain⟨t1,t2⟩:=Qby hI;have hlen:=Wj hn i;have hE:=Wi hn i;have hEe:arE n i=(Rl n n.bj[i] (knA n i n.bj[i]) (trA n.bj[i])).map (zr (I4 i)):=by unfold arE;rw[e]
  show eB n l0 (l0++Nx n i) (i:Int)=some (.inl (l0++Nx n (i+1),((i+1:Nat):Int)));unfold eB;rw[bl (by simp [aC];omega),Qjp e hal d2 d3 t1 t2 hI.eU,ai,←hEe,ch (cW (by simp only[List.length_append];omega)),qf,X9,List.append_assoc]) (by
  show eB n l0 (l0++Nx n n.bj.length) (n.bj.length:Int)=_;unfold eB;rw[a_ (by simp [aC])])
 rw[bY (show aK (fun s:List aa×Int=>eB n l0 s.1 s.2) (l0,0)=_ by simpa [Nx]using this)]
theorem K1(hn:Mw n)(hB:X1 B)(hp:n.aD.length≤B)(ha:n.bj.length≤B)(ht:∀a∈n.bj,a.dM.length≤B):wm n=some (Qg n)∧jM n=some (Qg n):=by
 have AK:=hn.aD;have hal:=hn.bj;have hlen:=R5 (n:=n) n.aD.length;constructor
 ·have main:∀l0:List aa,l0.length≤1→pn n l0=some ((l0++OU n n.aD.length)++((if n.bj.length>1024 then [aa.mk 4 qZ]else [])++Nx n n.bj.length)):=fun l0 h0=>by
   unfold pn;rw[bY (Zn hn hB hp h0)];by_cases h:n.bj.length>1024
   ·rw[bl (by simp [aC];omega),ch (cW (by simp only[List.length_append,List.length_singleton];omega)),VR hn hB ha ht (by simp only[List.length_append,List.length_singleton];omega),if_pos h]
    simp
   ·rw[a_ (by simp [aC];omega),VR hn hB ha ht (by simp only[List.length_append];omega),if_neg h]
    simp
  unfold wm Qg;by_cases h:n.aD.length>24
  ·rw[bl (by simp [aC];omega),ch (cW (by simp)),main _ (by simp),if_pos h]
  ·rw[a_ (by simp [aC];omega),main _ (by simp),if_neg h]
 ·have main:fN n=some ((if n.aD.length>24 then [aa.mk 4 iy]else [])++OU n n.aD.length):=by
   unfold fN;by_cases h:n.aD.length>24
   ·rw[bl (by simp [aC];omega),ch (cW (by simp)),Tw hn hB hp (l:=[]) (by simp),if_pos h]
   ·rw[a_ (by simp [aC];omega),Tw hn hB hp (l:=[]) (by simp),if_neg h]
  unfold jM Qg;rw[main,ai];have hle:((if n.aD.length>24 then [aa.mk 4 iy]else [])++OU n n.aD.length).length≤1048577:=by
   rw[List.length_append];split <;> simp <;> omega
  generalize(if n.aD.length>24 then [aa.mk 4 iy]else [])++OU n n.aD.length=l0 at hle
  by_cases h:n.bj.length>1024
  ·rw[bl (by simp [aC];omega),ch (cW (by simp only[List.length_append,List.length_singleton];omega)),Zs hn hB ha (by simp only[List.length_append,List.length_singleton];omega),if_pos h]
   simp
  ·rw[a_ (by simp [aC];omega),Zs hn hB ha (by omega),if_neg h]
   simp
end
def zi(t:Bool)(p q:aI):Bool:=(bP p.x0 q.x0&&bP p.x1 q.x1)||(t&&(bP p.x0 q.x1&&bP p.x1 q.x0))
def T_(ah:Int)(p:aI):Bool:=((((aT p.x0 0)||(bZ p.x0 ah))||(aT p.x1 0))||(bZ p.x1 ah))||(bP p.x0 p.x1)
def pE(t:Bool)(ah:Int)(l:List aI)(i:Nat):Nat:=match l[i]? with
 |none=>0
 |some p=>if(T_ ah p||(l.take i).any (zi t p))=true then 1 else 0
def pN(t:Bool)(ah:Int)(l:List aI):Nat→Nat
 |0=>0
 |k+1=>pN t ah l k+pE t ah l k
def Hs(t:Bool)(ah:Int)(l:List aI):Nat:=(if l.length>16 then 1 else 0)+pN t ah l l.length
def RP(r:List aa)(k:Nat):Prop:=r.length=k∧∀f∈r,f.di.size≤64
theorem RP.snoc{r:List aa}{k:Nat}{f:aa}(h:RP r k)(hf:f.di.size≤64):RP (r++[f]) (k+1):=by
 refine⟨by simp [h.1],fun g hg=>?_⟩
 rcases List.mem_append.1 hg with hg|hg
 ·exact h.2 g hg
 ·rw[List.mem_singleton.1 hg];exact hf
section
variable {t : Bool} {ah : Int} {l : List aI} {word : ByteArray} {p : aI}
theorem Qol(i:Nat):pE t ah l i≤1:=by
 unfold pE;split
 ·omega
 ·split <;> omega
theorem Qg0:∀k,pN t ah l k≤k
 |0=>Nat.le_refl _
 |k+1=>by
  have h1:=Qg0 k;have h2:=Qol (t:=t) (ah:=ah) (l:=l) k;unfold pN;omega
theorem Qok{i:Nat}(h:l[i]?=some p):pE t ah l i=if(T_ ah p||(l.take i).any (zi t p))=true then 1 else 0:=by
 unfold pE;rw[h]
theorem Qdx:∀d:Nat,d<10→(TC (zV .i32 (aY .i64 48 (d:Int)))).size=1:=by decide +kernel
theorem U2:∀(k fuel n:Nat),n<10 ^ k→1≤k→k≤20→k≤fuel→n<9223372036854775808→∃s,tH fuel (n:Int)=some s∧s.size≤k
 |0,_,_,_,h,_,_,_=>by omega
 |k+1,0,_,_,_,_,h,_=>by omega
 |k+1,fuel+1,n,hn,_,va,hf,hb=>by
  have hr:C6 (n:Int) 10=((n % 10:Nat):Int):=by unfold C6;rw[Int.tmod_eq_emod_of_nonneg (by omega)];rfl
  have h1:=Qdx (n % 10) (Nat.mod_lt _ (by omega))
  show ∃s,tG (tH fuel) (n:Int)=some s∧s.size≤k+1;unfold tG;rw[hr];by_cases dN:n<10
  ·rw[bl (by rw[fS];omega)]
   exact⟨_,rfl,by omega⟩
  ·rw[a_ (by rw[jG];omega)]
   have hq:uw .i64 (n:Int) 10=((n / 10:Nat):Int):=by
    have h2:((n:Int)).tdiv 10=((n / 10:Nat):Int):=by rw[Int.tdiv_eq_ediv_of_nonneg (by omega)];rfl
    rw[Qg3 (by rw[h2];omega) (by rw[h2];omega),h2]
   have hk1:1≤k:=by
    rcases Nat.eq_zero_or_pos k with rfl|h
    ·simp at hn;omega
    ·exact h
   obtain⟨s,hs,nQ⟩:=U2 k fuel (n / 10) (by rw[Nat.pow_succ]at hn;omega) hk1 (by omega) (by omega) (by omega)
   rw[hq,hs,ai,ch (by omega)]
   exact⟨_,rfl,by rw[kZ];omega⟩
theorem U3{i:Nat}(hi:i<1048576):∃s,zJ (i:Int)=some s∧s.size≤7:=U2 7 sU i (by omega) (by omega) (by omega) (by unfold sU;omega) (by omega)
theorem QgR(a b:aI):An a b=some (zi true a b):=by
 unfold An zi;cases bP a.x0 b.x0 <;> cases bP a.x1 b.x1 <;> cases bP a.x0 b.x1 <;> rfl
theorem QfK(a b:aI):Am a b=some (zi false a b):=by
 unfold Am zi;cases bP a.x0 b.x0 <;> cases bP a.x1 b.x1 <;> rfl
theorem Qgt:((bZ p.x0 0&&aT p.x0 ah)&&((bZ p.x1 0&&aT p.x1 ah)&&!bP p.x0 p.x1))=!T_ ah p:=by
 unfold T_;rw[Bool.eq_iff_iff];simp only[BK,ntT,Ql,kP,fS,jG,Hk,xC];omega
theorem MY{B:List aa×Int→Option ((List aa×Int)⊕List aa)}{l0:List aa}{k0:Nat}(h0:RP l0 k0)(Vl:k0≤1)(hl:l.length≤1048576)
  (step:∀(i:Nat) (p:aI) (out:List aa),l[i]?=some p→out.length≤1048577→∃s:ByteArray,s.size≤64∧∃e:Int,B (out,(i:Int))=some (.inl (if(T_ ah p||(l.take i).any (zi t p))=true then out++[aa.mk e s]else out,(i:Int)+1)))
  (fin:∀out,B (out,(l.length:Int))=some (.inr out)):post (aK B (l0,0)) fun r=>RP r (k0+pN t ah l l.length):=by
 refine fj (fun s=>∃i:Nat,s.2=(i:Int)∧i≤l.length∧RP s.1 (k0+pN t ah l i)) (fun s=>l.length-s.2.toNat) ⟨0,rfl,Nat.zero_le _,h0⟩ (by simp;omega) ?_
 rintro⟨out,_⟩ ⟨i,rfl,hi,hS⟩;have hN:=Qg0 (t:=t) (ah:=ah) (l:=l) i;have hS1:=hS.1;simp only at hS1;rcases Nat.lt_or_ge i l.length with h|h
 ·have e:l[i]?=some l[i]:=List.getElem?_eq_getElem h;obtain⟨s,hs,er,hB⟩:=step i _ out e (by omega)
  rw[hB];refine fO ⟨⟨i+1,by simp,h,?_⟩,by show l.length-((i:Int)+1).toNat<l.length-(i:Int).toNat;omega⟩
  show RP (if(T_ ah l[i]||(l.take i).any (zi t l[i]))=true then out++[aa.mk er s]else out) (k0+(pN t ah l i+pE t ah l i))
  rw[Qok e];split
  ·exact hS.snoc hs
  ·exact hS
 ·obtain rfl:i=l.length:=by omega
  rw[fin];exact ef hS
theorem Ts(hl:l.length≤1048576)(hw:word.size≤20){l0:List aa}{k0:Nat}(h0:RP l0 k0)(Vl:k0≤1):post (iw ah word l l0) fun r=>RP r (k0+pN true ah l l.length):=by
 unfold iw;refine b_ (MY (t:=true) (ah:=ah) (l:=l) h0 Vl hl (B:=fun s=>fH ah word l s.1 s.2) (fun i p out e ho=>?_) (fun out=>?_)) fun r hr=>bg.2 hr
 ·have hi:=(List.getElem?_eq_some_iff.1 e).1;obtain⟨s,hs,nQ⟩:=U3 (show i<1048576 by omega)
  have R1:cj.size=1:=rfl;refine⟨cM (cM word cj) s,by rw[kZ,kZ];omega,?_⟩
  have mA:∀f:aa,e_ (out++[f]).length 24:=fun f=>cW (by simp;omega)
  have BR:=Qgt (p:=p) (ah:=ah);have S0:(l.take i).length=i:=by rw[List.length_take];omega
  show ∃e,fH ah word l out (i:Int)=_;unfold fH o9;rw[bl (by simp [aC];omega),inc hi hl,bt e,ai,ch (by omega),hs,ai,ch (by rw[kZ];omega),ai,ai,ch (mA _),Xv (by omega),ai]
  have EJ:aK (fun q=>eZ ah word l out (i:Int) p s (l.take i) q) 0=some (if((l.take i).any (zi true p))=true then out++[aa.mk 6 (cM (cM word cj) s)]else out):=eh (B:=fun q=>eZ ah word l out (i:Int) p s (l.take i) q) (l:=l.take i) (by omega) (zi true p) (fun j a h=>by
   show eZ ah word l out (i:Int) p s (l.take i) (j:Int)=_;unfold eZ;rw[cB h,QgR,ai,ch (mA _),gP h (by omega),zn]) (by
   show eZ ah word l out (i:Int) p s (l.take i) ((l.take i).length:Int)=_;unfold eZ;rw[bW])
  rw[bY EJ];cases hb:T_ ah p with
  |true =>
   refine⟨2,?_⟩;rw[hb]at BR;rw[Bool.true_or,if_pos rfl];cases h1:(bZ p.x0 0&&aT p.x0 ah)with
   |false=>rfl
   |true =>
    cases h2:(bZ p.x1 0&&aT p.x1 ah)with
    |false=>rfl
    |true =>
     rw[h1,h2]at BR;have:bP p.x0 p.x1=true:=by
      cases h3:bP p.x0 p.x1 with
      |true=>rfl
      |false=>rw[h3]at BR;cases BR
     rw[dc,dc,this];rfl
  |false =>
   refine⟨6,?_⟩;rw[hb]at BR;simp only[Bool.not_false,Bool.and_eq_true,Bool.not_eq_true']at BR;rw[show(bZ p.x0 0&&aT p.x0 ah)=true from by rw[BR.1.1,BR.1.2];rfl,show(bZ p.x1 0&&aT p.x1 ah)=true from by rw[BR.2.1.1,BR.2.1.2];rfl,dc,dc,BR.2.2,cL,Bool.false_or]
 ·show fH ah word l out (l.length:Int)=_;unfold fH;rw[a_ (by simp [aC])]
theorem Tr(hl:l.length≤1048576)(hw:word.size≤20){l0:List aa}{k0:Nat}(h0:RP l0 k0)(Vl:k0≤1):post (lx ah word l l0) fun r=>RP r (k0+pN false ah l l.length):=by
 unfold lx;refine b_ (MY (t:=false) (ah:=ah) (l:=l) h0 Vl hl (B:=fun s=>gY ah word l s.1 s.2) (fun i p out e ho=>?_) (fun out=>?_)) fun r hr=>bg.2 hr
 ·have hi:=(List.getElem?_eq_some_iff.1 e).1;obtain⟨s,hs,nQ⟩:=U3 (show i<1048576 by omega)
  have R1:cj.size=1:=rfl;refine⟨cM (cM word cj) s,by rw[kZ,kZ];omega,?_⟩
  have mA:∀f:aa,e_ (out++[f]).length 24:=fun f=>cW (by simp;omega)
  have BR:=Qgt (p:=p) (ah:=ah);have S0:(l.take i).length=i:=by rw[List.length_take];omega
  show ∃e,gY ah word l out (i:Int)=_;unfold gY o9;rw[bl (by simp [aC];omega),inc hi hl,bt e,ai,ch (by omega),hs,ai,ch (by rw[kZ];omega),ai,ai,ch (mA _),Xv (by omega),ai]
  have EJ:aK (fun q=>gl ah word l out (i:Int) p s (l.take i) q) 0=some (if((l.take i).any (zi false p))=true then out++[aa.mk 6 (cM (cM word cj) s)]else out):=eh (B:=fun q=>gl ah word l out (i:Int) p s (l.take i) q) (l:=l.take i) (by omega) (zi false p) (fun j a h=>by
   show gl ah word l out (i:Int) p s (l.take i) (j:Int)=_;unfold gl;rw[cB h,QfK,ai,ch (mA _),gP h (by omega),zn]) (by
   show gl ah word l out (i:Int) p s (l.take i) ((l.take i).length:Int)=_;unfold gl;rw[bW])
  rw[bY EJ];cases hb:T_ ah p with
  |true =>
   refine⟨2,?_⟩;rw[hb]at BR;rw[Bool.true_or,if_pos rfl];cases h1:(bZ p.x0 0&&aT p.x0 ah)with
   |false=>rfl
   |true =>
    cases h2:(bZ p.x1 0&&aT p.x1 ah)with
    |false=>rfl
    |true =>
     rw[h1,h2]at BR;have:bP p.x0 p.x1=true:=by
      cases h3:bP p.x0 p.x1 with
      |true=>rfl
      |false=>rw[h3]at BR;cases BR
     rw[dc,dc,this];rfl
  |false =>
   refine⟨6,?_⟩;rw[hb]at BR;simp only[Bool.not_false,Bool.and_eq_true,Bool.not_eq_true']at BR;rw[show(bZ p.x0 0&&aT p.x0 ah)=true from by rw[BR.1.1,BR.1.2];rfl,show(bZ p.x1 0&&aT p.x1 ah)=true from by rw[BR.2.1.1,BR.2.1.2];rfl,dc,dc,BR.2.2,cL,Bool.false_or]
 ·show gY ah word l out (l.length:Int)=_;unfold gY;rw[a_ (by simp [aC])]
theorem VW(hl:l.length≤1048576)(hw:word.size≤20){l0:List aa}{k0:Nat}(h0:RP l0 k0)(Vl:k0≤1):post (jn ah l word t l0) fun r=>RP r (k0+pN t ah l l.length):=by
 unfold jn;refine b_ (MY (t:=t) (ah:=ah) (l:=l) h0 Vl hl (B:=fun s=>eF ah l word t s.1 s.2) (fun i p out e ho=>?_) (fun out=>?_)) fun r hr=>bg.2 hr
 ·have hi:=(List.getElem?_eq_some_iff.1 e).1;obtain⟨s,hs,nQ⟩:=I5 (show i<1048576 by omega)
  have R1:cj.size=1:=rfl;refine⟨cM (cM word cj) s,by rw[kZ,kZ];omega,?_⟩
  have mA:∀f:aa,e_ (out++[f]).length 24:=fun f=>cW (by simp;omega)
  show ∃e,eF ah l word t out (i:Int)=_;unfold eF;have XS:aK (fun q:Bool×Int=>fe ah l word t out (i:Int) p s q.1 q.2) (false,0)=some ((l.take i).any (zi t p)):=by
   have:=dj i (fun k=>((l.take k).any (zi t p),(k:Int))) (B:=fun q:Bool×Int=>fe ah l word t out (i:Int) p s q.1 q.2) (e:=(l.take i).any (zi t p)) (by omega) (fun k hk=>by
    have e1:l[k]?=some (l[k]'(by omega)):=List.getElem?_eq_getElem _
    have qf:aY .i64 (k:Int) 1=((k+1:Nat):Int):=by rw[ig (by omega) (by omega)];omega
    show fe ah l word t out (i:Int) p s ((l.take k).any (zi t p)) (k:Int)=_;unfold fe;rw[bl (by simp;omega),bt e1,ai,qf,List.take_add_one,e1,Option.toList_some,List.any_append]
    generalize l[k]'(by omega)=q
    simp only[List.any_cons,List.any_nil,Bool.or_false];have sy:∀a b:Int,bP a b=bP b a:=fun a b=>by rw[Bool.eq_iff_iff,pJ,pJ];exact eq_comm
    unfold zi;rw[sy q.x0 p.x0,sy q.x1 p.x1,sy q.x0 p.x1,sy q.x1 p.x0];cases(l.take k).any _ <;> cases bP p.x0 q.x0 <;> cases bP p.x1 q.x1 <;> cases t <;> cases bP p.x1 q.x0 <;> cases bP p.x0 q.x1 <;> rfl) (by
    show fe ah l word t out (i:Int) p s ((l.take i).any (zi t p)) (i:Int)=_;unfold fe;rw[a_ (by simp)])
   simpa using this
  rw[bl (by simp [aC];omega),inc hi hl,bt e,ai,ch (by omega),hs,ai,ch (by rw[kZ];omega),bY XS,ch (mA _),ch (mA _)]
  show ∃e,br (T_ ah p) _ _=_;cases T_ ah p with
  |true=>exact⟨2,rfl⟩
  |false =>
   refine⟨6,?_⟩;rw[cL,zn,Bool.false_or];split <;> rfl
 ·show eF ah l word t out (l.length:Int)=_;unfold eF;rw[a_ (by simp [aC])]
theorem Qa9(hw:word.size≤20){e:Int}:RP [aa.mk e word] 1:=⟨rfl,fun f hf=>by rw[List.mem_singleton.1 hf];show word.size≤64;omega⟩
theorem Qa4:RP [] 0:=⟨rfl,fun f hf=>by cases hf⟩
theorem Fq:Hs t ah l≤1+l.length:=by
 have:=Qg0 (t:=t) (ah:=ah) (l:=l) l.length;unfold Hs;split <;> omega
theorem Qop(hl:l.length≤1048576)(hw:word.size≤20):post (mI ah word l) fun r=>RP r (Hs true ah l):=by
 unfold mI Hs;refine bA (fun h=>dd (cW (by simp)) ?_) (fun h=>?_)
 ·rw[if_pos (by rw[qi,aC]at h;omega)];exact Ts hl hw (Qa9 hw) (Nat.le_refl _)
 ·rw[if_neg (by rw[nq,aC]at h;omega)];exact Ts hl hw Qa4 (by omega)
theorem Qoo(hl:l.length≤1048576)(hw:word.size≤20):post (qY ah word l) fun r=>RP r (Hs false ah l):=by
 unfold qY Hs;refine bA (fun h=>dd (cW (by simp)) ?_) (fun h=>?_)
 ·rw[if_pos (by rw[qi,aC]at h;omega)];exact Tr hl hw (Qa9 hw) (Nat.le_refl _)
 ·rw[if_neg (by rw[nq,aC]at h;omega)];exact Tr hl hw Qa4 (by omega)
theorem Qot(hl:l.length≤1048576)(hw:word.size≤20):post (ki ah l word t) fun r=>RP r (Hs t ah l):=by
 unfold ki Hs;refine bA (fun h=>dd (cW (by simp)) ?_) (fun h=>?_)
 ·rw[if_pos (by rw[qi,aC]at h;omega)];exact VW hl hw (Qa9 hw) (Nat.le_refl _)
 ·rw[if_neg (by rw[nq,aC]at h;omega)];exact VW hl hw Qa4 (by omega)
theorem Qoj:qe ah l word t=ki ah l word t:=rfl
end
theorem RP.app{a b:List aa}{j k:Nat}(ha:RP a j)(hb:RP b k):RP (a++b) (j+k):=by
 refine⟨by simp [ha.1,hb.1],fun f hf=>?_⟩
 rcases List.mem_append.1 hf with hf|hf
 ·exact ha.2 f hf
 ·exact hb.2 f hf
theorem Qbf{ah:Int}{a b:List aI}(ha:a.length≤1048576)(hb:b.length≤1048576):post (Al ah a b) fun r=>RP r (Hs true ah a+Hs false ah b):=by
 have h1:=Fq (t:=true) (ah:=ah) (l:=a);have h2:=Fq (t:=false) (ah:=ah) (l:=b);unfold Al;refine b_ (Qop ha (by show 5≤20;omega)) fun r hr=>b_ (Qoo hb (by show 6≤20;omega)) fun q hq=>?_
 have:=hr.1;have:=hq.1;exact dd (cW (by simp;omega)) (bg.2 (hr.app hq))
theorem Qeq{ah:Int}{a b:List aI}(ha:a.length≤1048576)(hb:b.length≤1048576):post (ld ah a b) fun r=>RP r (Hs true ah a+Hs false ah b):=by
 have h1:=Fq (t:=true) (ah:=ah) (l:=a);have h2:=Fq (t:=false) (ah:=ah) (l:=b);unfold ld;rw[Qoj];refine b_ (Qot ha (by show 5≤20;omega)) fun r hr=>b_ (Qot hb (by show 6≤20;omega)) fun q hq=>?_
 have:=hr.1;have:=hq.1;exact dd (cW (by simp;omega)) (bg.2 (hr.app hq))
section
variable {x : ae}
theorem DI{word:ByteArray}{r:List aa}(hw:word.size≤20)(hr:r.length≤5000000000000)(hs:∀f∈r,f.di.size≤64):post (nt word r) fun x=>x.length=r.length:=by
 unfold nt;have hm:KY 0 (aC r) 24 (aa.mk 0 ByteArray.empty)=some []:=by unfold KY aC;rw[if_pos (by omega)];rfl
 rw[hm,ai];refine tW ?_
 refine fj (fun s=>∃k:Nat,s.2=(k:Int)∧k≤r.length∧s.1.length=k) (fun s=>r.length-s.2.toNat) ⟨0,rfl,Nat.zero_le _,rfl⟩ (by simp;omega) ?_
 rintro⟨out,_⟩ ⟨k,rfl,hk,hl⟩;show post (qI word r out (k:Int)) _;unfold qI qH;refine bA (fun hb=>?_) (fun hb=>ef (bg.2 ?_))
 ·simp only[fS,aC]at hb;simp only at hl;have wP:k<r.length:=by omega
  have e1:r[k]?=some r[k]:=List.getElem?_eq_getElem wP;have hsk:(r[k]).di.size≤64:=hs _ (List.getElem_mem wP);have qf:aY .i64 (k:Int) 1=(k:Int)+1:=ig (by omega) (by omega)
  have R1:cj.size=1:=rfl;rw[bt e1,ai,qf];have leaf:∀f:aa,post (eH (e_ (out++[f]).length 24) (some (Sum.inl (out++[f],(k:Int)+1):(List aa×Int)⊕(List aa)))) fun x=>(∀s',x=.inl s'→(∃k:Nat,s'.2=(k:Int)∧k≤r.length∧s'.1.length=k)∧r.length-s'.2.toNat<r.length-((out,(k:Int)):List aa×Int).2.toNat)∧∀e,x=.inr e→post (some e) fun x=>x.length=r.length:=
   fun f=>dd (cW (by simp;omega)) (fO ⟨⟨k+1,by simp,by omega,by simp;omega⟩,by simp;omega⟩)
  exact bA (fun _=>leaf _) (fun _=>dd (by omega) (dd (by rw[kZ];omega) (leaf _)))
 ·simp only[jG,aC]at hb;simp only at hl;omega
theorem Qar{a b c d:List aa}(h:a.length+b.length+c.length+d.length≤5000000000000):fA [a,b,c,d]=some (a++b++c++d):=by
 have l1:aK (fun s:Int×Int=>cJ [a,b,c,d] s.1 s.2) (0,0)=some ((a.length+b.length+c.length+d.length:Nat):Int):=by
  have:=dj 4 (fun k=>(((([a,b,c,d].take k).map List.length).sum:Nat),(k:Int))) (B:=fun s:Int×Int=>cJ [a,b,c,d] s.1 s.2) (e:=((a.length+b.length+c.length+d.length:Nat):Int)) (by omega) (fun k hk=>by
   have e1:[a,b,c,d][k]?=some ([a,b,c,d][k]'(by simpa using hk)):=List.getElem?_eq_getElem _
   have qf:aY .i64 (k:Int) 1=((k+1:Nat):Int):=by rw[ig (by omega) (by omega)];omega
   have hs:(([a,b,c,d].take (k+1)).map List.length).sum=(([a,b,c,d].take k).map List.length).sum+([a,b,c,d][k]'(by simpa using hk)).length:=by
    rw[List.take_add_one,e1,Option.toList_some,List.map_append,List.sum_append];simp
   have hle:(([a,b,c,d].take (k+1)).map List.length).sum≤5000000000000:=by
    have:k=0∨k=1∨k=2∨k=3:=by omega
    rcases this with rfl|rfl|rfl|rfl <;> simp <;> omega
   show cJ [a,b,c,d] (((([a,b,c,d].take k).map List.length).sum:Nat):Int) (k:Int)=some (.inl (((([a,b,c,d].take (k+1)).map List.length).sum:Nat),((k+1:Nat):Int)));unfold cJ;rw[bl (by simp [aC];omega),bt e1,ai,qf]
   rw[hs]at hle ⊢;unfold aC;rw[ig (by omega) (by omega),a_ (by rw[jG];omega)]
   simp) (by
   show cJ [a,b,c,d] (((([a,b,c,d].take 4).map List.length).sum:Nat):Int) ((4:Nat):Int)=_;unfold cJ;rw[a_ (by simp [aC])]
   simp;omega)
  simpa using this
 have l2:ew ((a.length+b.length+c.length+d.length:Nat):Int)=some []:=by
  unfold ew;have hz:dZ .i64 (((a.length+b.length+c.length+d.length:Nat)):Int) (dZ .i64 0 0)=((a.length+b.length+c.length+d.length:Nat):Int):=by
   rw[v9 (a:=(0:Int)) (b:=0) (by omega) (by omega),v9 (by omega) (by omega)];omega
  rw[hz,a_ (by rw[jG];omega)]
  by_cases h0:0<a.length+b.length+c.length+d.length
  ·rw[bl (by rw[qi];omega)]
   unfold KY;rw[if_pos (by omega),ai]
   unfold vw;rw[if_pos (by simp;omega)]
   rfl
  ·rw[a_ (by rw[nq];omega)]
 have l3:aK (fun s:List aa×Int=>cK [a,b,c,d] s.1 s.2) ([],0)=some (a++b++c++d):=by
  have:=dj 4 (fun k=>(([a,b,c,d].take k).flatten,(k:Int))) (B:=fun s:List aa×Int=>cK [a,b,c,d] s.1 s.2) (e:=a++b++c++d) (by omega) (fun k hk=>by
   have e1:[a,b,c,d][k]?=some ([a,b,c,d][k]'(by simpa using hk)):=List.getElem?_eq_getElem _
   have qf:aY .i64 (k:Int) 1=((k+1:Nat):Int):=by rw[ig (by omega) (by omega)];omega
   have hs:([a,b,c,d].take (k+1)).flatten=([a,b,c,d].take k).flatten++([a,b,c,d][k]'(by simpa using hk)):=by
    rw[List.take_add_one,e1,Option.toList_some,List.flatten_append];simp
   have hle:(([a,b,c,d].take (k+1)).flatten).length≤5000000000000:=by
    have:k=0∨k=1∨k=2∨k=3:=by omega
    rcases this with rfl|rfl|rfl|rfl <;> simp <;> omega
   show cK [a,b,c,d] (([a,b,c,d].take k).flatten) (k:Int)=some (.inl (([a,b,c,d].take (k+1)).flatten,((k+1:Nat):Int)));unfold cK;rw[hs]at hle ⊢;rw[bl (by simp [aC];omega),bt e1,ai,qf,ch (cW (by omega))]) (by
   show cK [a,b,c,d] (([a,b,c,d].take 4).flatten) ((4:Nat):Int)=_;unfold cK;rw[a_ (by simp [aC])]
   simp)
  simpa using this
 unfold fA;rw[bY l1,l2,ai,bY l3]
structure Rj (x:ae):Prop where
 aD:x.bG.aD.length≤100
 bj:x.bG.bj.length≤100
 dM:∀a∈x.bG.bj,a.dM.length≤100
 types:x.types.length≤100
 ah:x.ah.length≤100
theorem Qgw(hI:BI x)(hF:Rj x):∃rp rr,rQ x=some rp∧dg x=some rr∧rp.length=rr.length:=by
 have h1:=hI.types;have h2:=hI.ah;have h3:=hI.db;have h4:=hI.before;have h5:=hI.bG.bj;obtain⟨n1,n2⟩:=K1 hI.bG NW hF.aD hF.bj hF.dM;obtain⟨r,hr,hE⟩:=zE (n:=x.bG) hI.bG;rw[n2]at hr;cases hr;have l1:=hE.S7;have s1:∀f∈Qg x.bG,f.di.size≤64:=hE.sms;obtain⟨t,ht,htE⟩:=NP (n:=x.bG) hI.bG.aD h1 hI.Qhn;have l2:=htE.S7;have s2:∀f∈t,f.di.size≤64:=htE.sms;have QZ:w_ x.bG x.types=some t:=by rw[ZS hF.types fun y hy=>(hI.Qhn y hy).cap];exact ht
 have hd:wN x.types=some (eN x.types:Int):=NZ (l0:=x.types);obtain⟨o,ho,hoE⟩:=NR (n:=x.bG) (types:=x.types.length) (bL:=eN x.types) hI.bG.aD h2 hI.QgZ;have l3:=hoE.S7;have s3:∀f∈o,f.di.size≤64:=hoE.sms;have ho':xk x.bG (eN x.types:Int) (aC x.types) x.ah=some o:=by rw[Xa hF.ah fun y hy=>(hI.QgZ y hy).load];exact ho
 obtain⟨p,hp,hpS⟩:=Qbf (ah:=aC x.ah) h3 h4;obtain⟨q,hq,hqS⟩:=Qeq (ah:=aC x.ah) h3 h4;have b1:=Fq (t:=true) (ah:=aC x.ah) (l:=x.db);have b2:=Fq (t:=false) (ah:=aC x.ah) (l:=x.before);have lp:=hpS.1;have lq:=hqS.1;obtain⟨u1,hu1,k1⟩:=DI (word:=p5) (show 3≤20 by omega) (by omega) s1
 obtain⟨u2,hu2,k2⟩:=DI (word:=yM) (show 5≤20 by omega) (by omega) s2
 obtain⟨u3,hu3,k3⟩:=DI (word:=wA) (show 6≤20 by omega) (by omega) s3
 obtain⟨u4,hu4,k4⟩:=DI (word:=yL) (show 5≤20 by omega) (by omega) hpS.2
 obtain⟨v1,hv1,j1⟩:=(tf (word:=p5) (show 3≤20 by omega) (by omega) s1:post (gh p5 _) _)
 obtain⟨v2,S1,j2⟩:=tf (word:=yM) (show 5≤20 by omega) (by omega) s2
 obtain⟨v3,hv3,j3⟩:=tf (word:=wA) (show 6≤20 by omega) (by omega) s3
 obtain⟨v4,hv4,j4⟩:=tf (word:=yL) (show 5≤20 by omega) (by omega) hqS.2
 have QlM:gh p5 (Qg x.bG)=some v1:=hv1;refine⟨u1++u2++u3++u4,((v1++v2)++v3)++v4,?_,?_,by simp;omega⟩
 ·unfold rQ;rw[n1,ai,hu1,ai,QZ,ai,hu2,ai,hd,ai,ho',ai,hu3,ai,hp,ai,hu4,ai,Qar (by omega),ai]
 ·unfold dg;rw[n2,ai,QlM,ai,ht,ai,S1,ai,ch (cW (by simp;omega)),NZ,ai,show aC x.types=((x.types.length:Nat):Int)from rfl,ho,ai,hv3,ai,ch (cW (by simp;omega)),hq,ai,hv4,ai,ch (cW (by simp;omega))]
theorem QdX(hI:BI x)(hF:Rj x):∃rp rr,rQ x=some rp∧dg x=some rr∧rp.length=rr.length∧(rr=[]→cD x):=by
 obtain⟨rp,rr,h1,h2,h3⟩:=Qgw hI hF;obtain⟨q,hq,hP⟩:=NS hI;rw[h2]at hq;cases hq;exact⟨rp,rr,h1,h2,h3,hP⟩
end
section
variable {n : ak} {aj aE dE t : Int}
theorem KT{C:List Int→Prop}{bj:List aw}{s:List Int}(h0:C s)(hs:∀(u:List Int) (a:aw),a∈bj→C u→C (DL aj u a)):∀j,C (iter aj bj s j)
 |0=>h0
 |j+1=>by
  have ih:=KT h0 hs j;show C (pass aj bj (iter aj bj s j));unfold pass mF;rw[List.take_length];generalize iter aj bj s j=u at ih;have key:∀(l:List aw),(∀a∈l,a∈bj)→∀u,C u→C (l.foldl (DL aj) u):=by
   intro l;induction l with
   |nil=>intro _ u hu;exact hu
   |cons a r ihl =>
    intro hl u hu;exact ihl (fun b hb=>hl b (List.mem_cons_of_mem _ hb)) _ (hs u a (hl a (List.mem_cons_self ..)) hu)
  exact key bj (fun a ha=>ha) u ih
theorem SB(h0:0≤aE)(h1:aE<n.aD.length):sF n aj aE t=iter aj n.bj (aH n.aD.length aE t) n.aD.length:=by
 unfold sF;rw[if_pos (by unfold f_;simp;omega)]
theorem N4:(sF n aj aE t).length=n.aD.length:=by
 unfold sF;split
 ·rw[Jp];simp [aH]
 ·simp
theorem SC(mA:tj n)(h0:0≤aE)(h1:aE<n.aD.length)(ht:0≤t)(QZ:t≤1048576){a:aw}(ha:a∈n.bj):UH aj (sF n aj aE t) a:=by
 obtain⟨i,hi⟩:=List.getElem?_of_mem ha;have hil:=(List.getElem?_eq_some_iff.1 hi).1;have hp:=K3 (aj:=aj) (t:=t) mA h0 h1 ht QZ n.aD.length;have e1:=(hp i (by omega)).2 (by omega)
 have e2:=(hp (i+1) (by omega)).2 (by omega)
 rw[zC hi,e1]at e2;have hl:(iter aj n.bj (aH n.aD.length aE t) n.aD.length).length=n.aD.length:=by rw[Jp];simp [aH]
 rw[SB h0 h1];have WO:¬use aj (iter aj n.bj (aH n.aD.length aE t) n.aD.length) a:=fun hu=>Qhr hl (mA.all a ha) hu e2
 intro hpr tY;unfold use at WO;have:¬(di (iter aj n.bj (aH n.aD.length aE t) n.aD.length) a.dE.toNat<0∨zN a (di (iter aj n.bj (aH n.aD.length aE t) n.aD.length) a.aE.toNat)<di (iter aj n.bj (aH n.aD.length aE t) n.aD.length) a.dE.toNat):=fun h=>WO ⟨hpr,tY,h⟩
 omega
theorem Tx{s:List Int}{a:aw}(hl:s.length=n.aD.length)(ha:Hh n.aD.length a)(v:Nat):di (DL aj s a) v=di s v∨(use aj s a∧v=a.dE.toNat∧di (DL aj s a) v=zN a (di s a.aE.toNat)):=by
 by_cases hu:use aj s a
 ·rw[BG hu,Wm (by have:=ha.to0;have:=ha.to1;omega)]
  by_cases hv:v=a.dE.toNat
  ·rw[if_pos hv];exact .inr ⟨hu,hv,rfl⟩
  ·rw[if_neg hv];exact .inl rfl
 ·rw[vn hu];exact .inl rfl
theorem N3(mA:tj n)(h0:0≤aE)(h1:aE<n.aD.length)(ht:0≤t):0≤di (sF n aj aE t) aE.toNat∧di (sF n aj aE t) aE.toNat≤t:=by
 rw[SB h0 h1];have:=KT (aj:=aj) (C:=fun s=>s.length=n.aD.length∧0≤di s aE.toNat∧di s aE.toNat≤t) (bj:=n.bj) (s:=aH n.aD.length aE t) ⟨by simp [aH],by rw[Pm h0 h1,if_pos rfl];omega⟩ (fun u a ha hu=>by
  obtain⟨u1,u2,u3⟩:=hu;have hA:=mA.all a ha;refine⟨by rw[K5];exact u1,?_⟩
  rcases Tx (aj:=aj) u1 hA aE.toNat with h|⟨h2,h3,h4⟩
  ·rw[h];exact⟨u2,u3⟩
  ·rw[h4];have QW:=NG hA (di u a.aE.toNat);obtain⟨_,k1,k2⟩:=h2;rw[←h3]at k2;omega) n.aD.length
 exact this.2
theorem U5(mA:tj n)(h0:0≤aE)(h1:aE<n.aD.length)(ht:0≤t){S:List Int}(hS:∀a∈n.bj,UH aj S a)(hf:0≤di S aE.toNat∧di S aE.toNat≤t)(v:Nat)(hv:0≤di (sF n aj aE t) v):
  0≤di S v∧di S v≤di (sF n aj aE t) v:=by
 rw[SB h0 h1]at hv ⊢;have:=KT (aj:=aj) (C:=fun s=>s.length=n.aD.length∧∀v,0≤di s v→0≤di S v∧di S v≤di s v) (bj:=n.bj) (s:=aH n.aD.length aE t) ⟨by simp [aH],fun v hv=>by
  rw[Pm h0 h1]at hv ⊢;split at hv
  ·rename_i h;subst h;rw[if_pos rfl];exact hf
  ·omega⟩ (fun u a ha hu=>by
  obtain⟨u1,u2⟩:=hu;have hA:=mA.all a ha;refine⟨by rw[K5];exact u1,fun v hv=>?_⟩
  rcases Tx (aj:=aj) u1 hA v with h|⟨h2,h3,h4⟩
  ·rw[h]at hv ⊢;exact u2 v hv
  ·rw[h4];obtain⟨k0,k1,k2⟩:=h2;obtain⟨s1,s2⟩:=u2 _ k1;obtain⟨d1,d2⟩:=hS a ha k0 s1;have hm:=PB hA s2;rw[h3];omega) n.aD.length
 exact this.2 v hv
theorem Yy(mA:tj n)(h0:0≤aE)(h1:aE<n.aD.length){d e:Int}(hd:0≤d)(hde:d≤e)(he:e≤1048576)(v:Nat)(hv:0≤di (sF n aj aE e) v):0≤di (sF n aj aE d) v∧di (sF n aj aE d) v≤di (sF n aj aE e) v:=by
 have hf:=N3 (aj:=aj) mA h0 h1 hd;exact U5 mA h0 h1 (by omega) (fun a ha=>SC mA h0 h1 hd (by omega) ha) ⟨hf.1,by omega⟩ v hv
end
structure Qfa (x:ae):Prop where
 ah:x.ah.length≤3
 types:x.types.length≤3
 aD:x.bG.aD.length≤6
 bj:x.bG.bj.length≤30
 dM:∀a∈x.bG.bj,a.dM.length≤20
section
variable {x : ae} {o : af} {t : ag} {place d : Int}
theorem Qav(hI:BI x):post (uI x) fun ok=>ok=true→Qfa x:=by
 have hal:=hI.bG.bj;unfold uI;refine bA (fun _=>bg.2 fun h=>by cases h) (fun h=>?_)
 simp only[Ql,nq,aC]at h;obtain⟨⟨⟨h1,h2⟩,h3⟩,h4⟩:=h;rw[bY (eh (B:=fun s=>kg x s) (l:=x.bG.bj) (by omega) (fun a=>cQ (aC a.dM) 20||cQ (aC a.eU) 20) (y:=(.inr false:Unit⊕Bool)) (N:=.inl ()) (fun i a h=>by
  show kg x i=_;unfold kg;rw[cB h,gP h (by omega)]
  cases cQ (aC a.dM) 20 <;> cases cQ (aC a.eU) 20 <;> rfl) (by
  show kg x x.bG.bj.length=_;unfold kg;rw[bW]))]
 by_cases ha:(x.bG.bj.any fun a=>cQ (aC a.dM) 20||cQ (aC a.eU) 20)=true
 ·rw[if_pos ha,q7];exact bg.2 fun h=>by cases h
 ·rw[if_neg ha,en];refine bg.2 fun _=>⟨by omega,by omega,by omega,by omega,fun a hm=>?_⟩
  have:=List.any_eq_false.1 (by simpa using ha:(x.bG.bj.any fun a=>cQ (aC a.dM) 20||cQ (aC a.eU) 20)=false) a hm
  simp only[Bool.or_eq_true,qi,aC,not_or]at this;omega
theorem Qfa.Qpc(h:Qfa x):Rj x:=⟨by have:=h.aD;omega,by have:=h.bj;omega,fun a ha=>by have:=h.dM a ha;omega,by have:=h.types;omega,by have:=h.ah;omega⟩
theorem Qhb(hI:BI x)(hF:Rj x):∃b,oU x=some b∧(∃rr,dg x=some rr∧b=decide (rr.length=0))∧(b=true→cD x):=by
 obtain⟨rp,rr,h1,h2,h3,h4⟩:=QdX hI hF;refine⟨decide (rr.length=0),?_,⟨rr,h2,rfl⟩,fun h=>h4 (List.eq_nil_of_length_eq_zero (of_decide_eq_true h))⟩
 unfold oU;rw[h1,ai];congr 1;rw[Bool.eq_iff_iff,pJ,decide_eq_true_eq,aC];omega
def mR(x:ae)(t:ag):List Int:=sF x.bG t.aj t.aE t.bm
def eO(x:ae):bs:=bs.mk x (x.types.map (mR x))
theorem SF(hx:cD x):sq x=some (eO x):=by
 have h6:=hx.types;unfold sq eO;have:=dj x.types.length (fun i=>((x.types.take i).map (mR x),(i:Int))) (B:=fun s:List (List Int)×Int=>iY x s.1 s.2) (e:=x.types.map (mR x)) (by omega) (fun i hi=>by
  have e:x.types[i]?=some x.types[i]:=List.getElem?_eq_getElem hi;have hT:=hx.Sa _ (List.getElem_mem hi);have ho:=hT.XV;have hc:=hT.bp;show iY x ((x.types.take i).map (mR x)) (i:Int)=_;unfold iY;rw[cB e,QT hx.bG ho.1 (by omega),ai,ch (cW (by simp only[List.length_append,List.length_map,List.length_take,List.length_singleton];omega)),gP e (by omega),List.take_add_one,e,Option.toList_some,List.map_append]
  rfl) (by
  show iY x ((x.types.take x.types.length).map (mR x)) (x.types.length:Int)=_;unfold iY;rw[a_ (by simp [aC]),List.take_length])
 rw[bY (show aK (fun s:List (List Int)×Int=>iY x s.1 s.2) ([],0)=_ by simpa using this)]
def iT(x:ae)(o:af):List ag:=x.types.filter fun t=>zM t o.bD
theorem X5(ht:0≤t.bD∧t.bD≤1073741823){s:Int}(hs:0≤s∧s≤1073741823):rb t s=some (zM t s)∧nS t s=some (zM t s):=by
 obtain⟨b,b1,b2⟩:=Qfj ht hs;have:zM t s=b:=by unfold zM;rw[b1];rfl
 rw[this];exact⟨b1,b2⟩
def uZ(x:ae)(place out:Int)(t:ag):Int:=if 0≤di (mR x t) place.toNat∧(out<0∨di (mR x t) place.toNat<out)then di (mR x t) place.toNat else out
def lU(x:ae)(o:af)(place:Int):Int:=(iT x o).foldl (uZ x place) (-1)
theorem MD{α β:Type}{f:β→α→β}{l:List α}{b:β}{i:Nat}{a:α}(h:l[i]?=some a):(l.take (i+1)).foldl f b=f ((l.take i).foldl f b) a:=by
 rw[List.take_add_one,h,Option.toList_some,List.foldl_append];rfl
theorem Qau(hx:cD x)(ho:o∈x.ah)(h0:0≤place)(h1:place<x.bG.aD.length):mH (eO x) o place=some (lU x o place):=by
 have h6:=hx.types;have hs:=(hx.ord o ho).bD;have hff:lU x o place=x.types.foldl (fun out t=>if zM t o.bD=true then uZ x place out t else out) (-1):=by
  unfold lU iT;rw[List.foldl_filter]
 rw[hff];unfold mH;have:=dj x.types.length (fun i=>((x.types.take i).foldl (fun out t=>if zM t o.bD=true then uZ x place out t else out) (-1),(i:Int))) (B:=fun s:Int×Int=>eY (eO x) o place s.1 s.2) (e:=x.types.foldl (fun out t=>if zM t o.bD=true then uZ x place out t else out) (-1)) (by omega) (fun i hi=>by
  have e:x.types[i]?=some x.types[i]:=List.getElem?_eq_getElem hi;have e2:(eO x).xD[i]?=some (mR x x.types[i]):=by show(x.types.map (mR x))[i]?=_;rw[List.getElem?_map,e];rfl
  have hl:(mR x x.types[i]).length=x.bG.aD.length:=N4;have ek:aY .i64 (i:Int) 1=((i+1:Nat):Int):=(ig (by omega) (by omega)).trans (by omega)
  show eY (eO x) o place _ (i:Int)=_;unfold eY;rw[bl (show aT (i:Int) (aC (eO x).x.types)=true by rw[fS];show(i:Int)<(x.types.length:Int);omega),show bq (eO x).x.types (i:Int)=some x.types[i]from bt e,ai,bt e2,ai,wg h0 (by omega),ai,(X5 (hx.Sa _ (List.getElem_mem hi)).bD hs).1,ai,ek,MD e]
  generalize(x.types.take i).foldl (fun out t=>if zM t o.bD=true then uZ x place out t else out) (-1)=w
  unfold uZ;rw[zn];cases zM x.types[i] o.bD with
  |false=>simp
  |true =>
   simp only[Bool.true_and,Bool.and_eq_true,Bool.or_eq_true,kP,fS,if_true];split <;> rfl) (by
  show eY (eO x) o place _ (x.types.length:Int)=_;unfold eY;rw[a_ (show aT (x.types.length:Int) (aC (eO x).x.types)=false by rw[jG];show(x.types.length:Int)≤(x.types.length:Int);omega),List.take_length])
 rw[bY (show aK (fun s:Int×Int=>eY (eO x) o place s.1 s.2) (-1,0)=_ by simpa using this)]
theorem QjE(hx:cD x)(ht:t∈x.types)(h0:0≤place)(h1:place<x.bG.aD.length):sd x t place=some (di (mR x t) place.toNat):=by
 have hT:=hx.Sa t ht;have ho:=hT.XV;have hc:=hT.bp;have hl:(mR x t).length=x.bG.aD.length:=N4;unfold sd;rw[AA hx.bG ho.1 (by omega),ai]
 show br (aT place 0||bZ place (aC (mR x t))) _ (aS (bq (mR x t) place) _)=_;rw[a_ (by simp [aC,hl];omega),wg h0 (by omega),ai]
theorem Qif(hx:cD x)(h0:0≤place)(h1:place<x.bG.aD.length):sc x (iT x o) place=some (lU x o place):=by
 have h6:=hx.types;have hlen:(iT x o).length≤x.types.length:=List.length_filter_le ..;unfold sc lU;have:=dj (iT x o).length (fun i=>(((iT x o).take i).foldl (uZ x place) (-1),(i:Int))) (B:=fun s:Int×Int=>eE x (iT x o) place s.1 s.2) (e:=(iT x o).foldl (uZ x place) (-1)) (by omega) (fun i hi=>by
  have e:(iT x o)[i]?=some (iT x o)[i]:=List.getElem?_eq_getElem hi;have hm:(iT x o)[i]∈x.types:=(List.mem_filter.1 (List.getElem_mem hi)).1;have ek:aY .i64 (i:Int) 1=((i+1:Nat):Int):=(ig (by omega) (by omega)).trans (by omega)
  show eE x (iT x o) place (((iT x o).take i).foldl (uZ x place) (-1)) (i:Int)=_;unfold eE;rw[bl (by simp [aC];omega),bt e,ai,QjE hx hm h0 h1,ai,ek,MD e,zn]
  generalize((iT x o).take i).foldl (uZ x place) (-1)=w;unfold uZ;simp only[Bool.and_eq_true,Bool.or_eq_true,kP,fS];split <;> rfl) (by
  show eE x (iT x o) place (((iT x o).take (iT x o).length).foldl (uZ x place) (-1)) ((iT x o).length:Int)=_;unfold eE;rw[a_ (by simp [aC]),List.take_length])
 rw[bY (show aK (fun s:Int×Int=>eE x (iT x o) place s.1 s.2) (-1,0)=_ by simpa using this)]
def Qu(x:ae)(t:ag)(place d:Int):Bool:=bZ (di (sF x.bG t.aj place d) t.dE.toNat) 0&&jD (di (sF x.bG t.aj place d) t.dE.toNat) t.bp
def mz(x:ae)(o:af)(place d:Int):Bool:=(iT x o).any fun t=>Qu x t place d
theorem Xl(hx:cD x)(ho:o∈x.ah)(hd:0≤d)(hd':d≤1048576):nz (eO x) o place d=some (mz x o place d):=by
 have h6:=hx.types;have hs:=(hx.ord o ho).bD;have QlB:∀t∈x.types,mc t o (eO x) place d=some (zM t o.bD&&Qu x t place d):=fun t ht=>by
  have hT:=hx.Sa t ht;have hto:=hT.dE;have hl:(sF x.bG t.aj place d).length=x.bG.aD.length:=N4;unfold mc;rw[(X5 hT.bD hs).1,ai,show(eO x).x.bG=x.bG from rfl,QT hx.bG hd hd',ai,wg hto.1 (by omega),ai]
  cases zM t o.bD <;> rfl
 have Qiz:mz x o place d=x.types.any fun t=>zM t o.bD&&Qu x t place d:=by
  unfold mz iT;rw[List.any_filter]
 rw[Qiz];unfold nz eu eS;have:=vo (l:=x.types) (by omega) (fun t=>zM t o.bD&&Qu x t place d) (fun k=>(.inr (k:Int):Unit⊕Int)) (N:=.inl ()) (B:=fun s=>ck (eO x).x.types o (eO x) place d s) (fun i a h=>by
  show ck x.types o (eO x) place d i=_;unfold ck;rw[cB h,QlB a (List.mem_of_getElem? h),ai,gP h (by omega),zn]) (by
  show ck x.types o (eO x) place d x.types.length=_;unfold ck;rw[bW])
 rw[bY this,←m7];unfold sH;cases Lg (fun t=>zM t o.bD&&Qu x t place d) x.types <;> rfl
theorem Zw(hx:cD x)(ht:t∈x.types)(hd:0≤d)(hd':d≤1048576):wV x t place d=some (Qu x t place d):=by
 have hT:=hx.Sa t ht;have hto:=hT.dE;have hl:(sF x.bG t.aj place d).length=x.bG.aD.length:=N4;unfold wV Qu;rw[AA hx.bG hd hd',ai,bl (by simp [aC,hl];omega),wg hto.1 (by omega),ai,zn]
 cases h:bZ (di (sF x.bG t.aj place d) t.dE.toNat) 0 <;> simp
theorem Qha(hx:cD x)(h0:0≤place)(h1:place<x.bG.aD.length){e:Int}(hd:0≤d)(hde:d≤e)(he:e≤1048576)(h:mz x o place e=true):mz x o place d=true:=by
 unfold mz at h ⊢;obtain⟨t,ht,hr⟩:=List.any_eq_true.1 h;refine List.any_eq_true.2 ⟨t,ht,?_⟩;unfold Qu at hr ⊢;rw[Bool.and_eq_true,kP,ui]at hr ⊢;have:=Yy (aj:=t.aj) hx.bG h0 h1 hd hde he t.dE.toNat hr.1;omega
end
section
variable {x : ae} {o : af} {s r : aM} {a : aw} {place : Int}
theorem Qnb{i j:Nat}(h:i<1048576)(h':j<1048576):zV .i64 (wZ .u64 (zV .u64 (aY .i64 (i:Int) (j:Int))) 1)=(((i+j) / 2:Nat):Int):=by
 rw[ig (by omega) (by omega)]
 unfold zV wZ;rw[IntKind.wrap_u64,IntKind.wrap_i64];have e:(2:Int) ^ min (Int.toNat 1) (IntKind.u64.bits)=2:=by decide
 rw[e,Int.fdiv_eq_ediv_of_nonneg _ (by omega)]
 omega
theorem Qhe{c:bs}{c1:af}{c2:aM}{c3:Int}(p:Nat→Bool)(M:Nat)(hM:M≤5000)(hp:∀k,k<M→ln (k:Int) c c1 c2 c3=some (!p k)):post (oF (M:Int) c c1 c2 c3) fun r=>∃n:Nat,r=(n:Int)∧n≤M∧(n=0∨p (n-1)=true)∧(n=M∨p n=false):=by
 unfold oF;refine b_ (R:=fun r=>∃n:Nat,r=(n:Int)∧n≤M∧(n=0∨p (n-1)=true)∧(n=M∨p n=false)) ?_ fun r hr=>bg.2 hr
 refine fj (fun s:Int×Int=>∃i j:Nat,s=((i:Int),(j:Int))∧i≤j∧j≤M∧(i=0∨p (i-1)=true)∧(j=M∨p j=false)) (fun s=>(s.2-s.1).toNat) ⟨0,M,rfl,Nat.zero_le _,Nat.le_refl _,.inl rfl,.inl rfl⟩ (by simp;omega) ?_
 rintro _ ⟨i,j,rfl,T5,hjM,h1,h2⟩;show post (mg c c1 c2 c3 (i:Int) (j:Int)) _;unfold mg;refine bA (fun hb=>?_) (fun hb=>ef ?_)
 ·rw[fS]at hb;have mj:i<j:=by omega
  have hh:(i+j) / 2<j:=by omega
  have hi:i≤(i+j) / 2:=by omega
  rw[Qnb (by omega) (by omega),hp _ (by omega),ai]
  generalize(i+j) / 2=h at hh hi;have ek:aY .i64 (h:Int) 1=((h+1:Nat):Int):=(ig (by omega) (by omega)).trans (by omega)
  rw[ek];refine bA (fun hr=>fO ⟨⟨i,h,rfl,hi,by omega,h1,.inr (by simpa using hr)⟩,?_⟩) (fun hr=>fO ⟨⟨h+1,j,rfl,hh,hjM,.inr (by simpa using hr),h2⟩,?_⟩)
  ·show((h:Int)-(i:Int)).toNat<((j:Int)-(i:Int)).toNat;omega
  ·show((j:Int)-((h+1:Nat):Int)).toNat<((j:Int)-(i:Int)).toNat;omega
 ·rw[jG]at hb;have:i=j:=by omega
  subst this;exact⟨i,rfl,hjM,h1,h2⟩
structure Qae (x:ae) (o:af) (s r:aM):Prop where
 place:r.place=s.place
 bz:r.bz=s.bz
 cases:(r=s∧(s.place<0∨lU x o s.place<0∨s.bp<lU x o s.place∨∀b,max s.bm (lU x o s.place)≤b→b≤s.bp→mz x o s.place (b+s.bz)=false))∨
  (0≤s.place∧0≤lU x o s.place∧r.bm=max s.bm (lU x o s.place)∧r.bm≤r.bp∧r.bp≤s.bp∧mz x o s.place (r.bp+s.bz)=true∧∀b,r.bp<b→b≤s.bp→mz x o s.place (b+s.bz)=false)
theorem Qa3(hx:cD x)(Z4:0≤s.bz)(R1:s.bz≤4096){f:Int}(hc:s.bp≤4096)(hop:0≤max s.bm f)(hle:max s.bm f≤s.bp):post (aK (fun b=>qW x (iT x o) s f b) s.bp) fun e =>
  (e=.inl ()∧∀b,max s.bm f≤b→b≤s.bp→mz x o s.place (b+s.bz)=false)∨(∃b,e=.inr (aM.mk s.place (max s.bm f) b s.bz)∧max s.bm f≤b∧b≤s.bp∧mz x o s.place (b+s.bz)=true∧∀b',b<b'→b'≤s.bp→mz x o s.place (b'+s.bz)=false):=by
 have h6:=hx.types;have hlen:(iT x o).length≤x.types.length:=List.length_filter_le ..;refine fj (fun b=>b≤s.bp∧max s.bm f-1≤b∧∀b',b<b'→b'≤s.bp→mz x o s.place (b'+s.bz)=false) (fun b=>(b-(max s.bm f-1)).toNat) ⟨by omega,by omega,fun b' h h'=>by omega⟩ (by omega) ?_
 rintro b ⟨XO,XP,hb3⟩;show post (qW x (iT x o) s f b) _;unfold qW;have em:zz s.bm f=max s.bm f:=Bn ..;rw[em];refine bA (fun hb=>?_) (fun hb=>ef ?_)
 ·rw[kP]at hb;have ea:aY .i64 b s.bz=b+s.bz:=ig (by omega) (by omega)
  have:=eh (l:=iT x o) (by omega) (fun t=>Qu x t s.place (b+s.bz)) (y:=(.inr (aM.mk s.place (max s.bm f) b s.bz):Unit⊕aM)) (N:=.inl ()) (B:=fun i=>lj x (iT x o) s f b i) (fun i a h=>by
   show lj x (iT x o) s f b i=_;unfold lj;rw[cB h,ea,Zw hx (List.mem_filter.1 (List.mem_of_getElem? h)).1 (by omega) (by omega),ai,gP h (by omega),em,zn]) (by
   show lj x (iT x o) s f b (iT x o).length=_;unfold lj;rw[bW])
  rw[bY this];have hr:mz x o s.place (b+s.bz)=(iT x o).any fun t=>Qu x t s.place (b+s.bz):=rfl
  rw[←hr];cases hq:mz x o s.place (b+s.bz)with
  |true=>exact ef (.inr ⟨b,rfl,hb,XO,hq,hb3⟩)
  |false =>
   have es:dZ .i64 b 1=b-1:=v9 (by omega) (by omega)
   rw[es];refine fO ⟨⟨by omega,by omega,fun b' h h'=>?_⟩,?_⟩
   ·rcases Decidable.em (b'=b)with e|e
    ·rw[e];exact hq
    ·exact hb3 b' (by omega) h'
   ·show(b-1-(max s.bm f-1)).toNat<(b-(max s.bm f-1)).toNat;omega
 ·rw[Hk]at hb;exact .inl ⟨rfl,fun b' h h'=>hb3 b' (by omega) h'⟩
theorem QdA(hx:cD x)(h0:place<0):sc x (iT x o) place=some (-1):=by
 have h6:=hx.types;have hlen:(iT x o).length≤x.types.length:=List.length_filter_le ..;unfold sc;have:=dj (iT x o).length (fun i=>((-1:Int),(i:Int))) (B:=fun s:Int×Int=>eE x (iT x o) place s.1 s.2) (e:=-1) (by omega) (fun i hi=>by
  have e:(iT x o)[i]?=some (iT x o)[i]:=List.getElem?_eq_getElem hi;have hm:(iT x o)[i]∈x.types:=(List.mem_filter.1 (List.getElem_mem hi)).1;have hT:=hx.Sa _ hm;have ho:=hT.XV;have hc:=hT.bp;have ek:aY .i64 (i:Int) 1=((i+1:Nat):Int):=(ig (by omega) (by omega)).trans (by omega)
  show eE x (iT x o) place (-1) (i:Int)=_;unfold eE;have e2:sd x (iT x o)[i] place=some (-1):=by
   unfold sd;rw[AA hx.bG ho.1 (by omega),ai,bl]
   rw[XX];left;rw[fS];exact h0
  rw[bl (by simp [aC];omega),bt e,ai,e2,ai,a_ (show(bZ (-1) 0&&(aT (-1) 0||aT (-1) (-1)))=false by decide),ek]) (by
  show eE x (iT x o) place (-1) ((iT x o).length:Int)=_;unfold eE;rw[a_ (by simp [aC])])
 rw[bY (show aK (fun s:Int×Int=>eE x (iT x o) place s.1 s.2) (-1,0)=_ by simpa using this)]
theorem QcQ{α:Type}{o:Option α}{Q:α→Prop}(h:post o Q):∃a,o=some a∧Q a:=h
theorem Qbw(hx:cD x)(ho:o∈x.ah)(hs:IQ x.bG.aD.length s):∃r,jx (eO x) o s=some r∧yv x (iT x o) s=some r∧Qae x o s r:=by
 unfold jx yv;rcases hs with⟨hp,_,_,_⟩|⟨h0,h1,h2,h3,h4,h5,h7⟩
 ·refine⟨s,bl (by rw[fS];omega),?_,⟨rfl,rfl,.inl ⟨rfl,.inl (by omega)⟩⟩⟩
  rw[QdA hx (by omega),ai,bl (by simp only[XX,fS];omega)]
 ·rw[a_ (by rw[jG];omega),Qau hx ho h0 h1,ai,Qif hx h0 h1,ai]
  have hbr:((aT s.place 0||aT (lU x o s.place) 0)||cQ (lU x o s.place) s.bp)=(aT (lU x o s.place) 0||cQ (lU x o s.place) s.bp):=by
   rw[show aT s.place 0=false by rw[jG];omega];rfl
  rw[hbr];by_cases hf:lU x o s.place<0∨s.bp<lU x o s.place
  ·have hb:(aT (lU x o s.place) 0||cQ (lU x o s.place) s.bp)=true:=by rw[XX,fS,qi];omega
   refine⟨s,bl hb,bl hb,⟨rfl,rfl,.inl ⟨rfl,.inr ?_⟩⟩⟩;rcases hf with hf|hf
   ·exact .inl hf
   ·exact .inr (.inl hf)
  ·have hb:(aT (lU x o s.place) 0||cQ (lU x o s.place) s.bp)=false:=by rw[Ql,jG,nq];omega
   rw[a_ hb,a_ hb];have em:zz s.bm (lU x o s.place)=max s.bm (lU x o s.place):=Bn ..;rw[em];have h0f:0≤lU x o s.place:=by omega
   have hop:0≤max s.bm (lU x o s.place):=by omega
   have hle:max s.bm (lU x o s.place)≤s.bp:=by omega
   obtain⟨e,e1,e2⟩:=QcQ (Qa3 (o:=o) (f:=lU x o s.place) hx h5 h7 h4 hop hle);rw[bY e1];generalize QnI:max s.bm (lU x o s.place)=op at hop hle e2;have hM:aY .i64 (dZ .i64 s.bp op) 1=(((s.bp-op+1).toNat:Nat):Int):=by
    rw[v9 (by omega) (by omega),ig (by omega) (by omega)];omega
   rw[hM];have hpk:∀k,k<(s.bp-op+1).toNat→ln (k:Int) (eO x) o s op=some (!(mz x o s.place (op+(k:Int)+s.bz))):=fun k hk=>by
    unfold ln;rw[ig (a:=op) (by omega) (by omega),ig (by omega) (by omega),Xl hx ho (by omega) (by omega),ai]
   obtain⟨nI,n1,n,rfl,n2,n3,n4⟩:=QcQ (Qhe (fun k=>mz x o s.place (op+(k:Int)+s.bz)) _ (by omega) hpk)
   rw[n1,ai];have mono:∀b b',op≤b→b≤b'→b'≤s.bp→mz x o s.place (b'+s.bz)=true→mz x o s.place (b+s.bz)=true:=fun b b' g1 g2 g3 g4=>Qha hx h0 h1 (by omega) (by omega) (by omega) g4
   rcases Nat.eq_zero_or_pos n with hn|hn
   ·subst hn;have WO:∀b,op≤b→b≤s.bp→mz x o s.place (b+s.bz)=false:=fun b g1 g2=>by
     cases hq:mz x o s.place (b+s.bz)with
     |false=>rfl
     |true =>
      have:=mono op b (by omega) g1 g2 hq
      rcases n4 with n4|n4
      ·omega
      ·have n4':mz x o s.place (op+((0:Nat):Int)+s.bz)=false:=n4;rw[show op+((0:Nat):Int)=op by omega,this]at n4'
       cases n4'
    refine⟨s,bl rfl,?_,⟨rfl,rfl,.inl ⟨rfl,.inr (.inr (.inr (by rw[QnI];exact WO)))⟩⟩⟩
    rcases e2 with⟨e2,_⟩|⟨b,_,g1,g2,g3,_⟩
    ·rw[e2];rfl
    ·rw[WO b g1 g2]at g3;cases g3
   ·have xG:mz x o s.place (op+(n:Int)-1+s.bz)=true:=by
     rcases n3 with n3|n3
     ·omega
     ·have n3':mz x o s.place (op+((n-1:Nat):Int)+s.bz)=true:=n3;rw[show op+((n-1:Nat):Int)=op+(n:Int)-1 by omega]at n3'
      exact n3'
    have WO:∀b,op+(n:Int)-1<b→b≤s.bp→mz x o s.place (b+s.bz)=false:=fun b g1 g2=>by
     cases hq:mz x o s.place (b+s.bz)with
     |false=>rfl
     |true =>
      have:=mono (op+(n:Int)) b (by omega) (by omega) g2 hq
      rcases n4 with n4|n4
      ·omega
      ·have n4':mz x o s.place (op+(n:Int)+s.bz)=false:=n4;rw[this]at n4';cases n4'
    refine⟨aM.mk s.place op (op+(n:Int)-1) s.bz,?_,?_,⟨rfl,rfl,.inr ⟨h0,h0f,QnI.symm,?_,?_,xG,WO⟩⟩⟩
    ·rw[a_ (by rw[xC];omega),ig (by omega) (by omega),v9 (by omega) (by omega)]
    ·rcases e2 with⟨_,e2⟩|⟨b,e2,g1,g2,g3,g4⟩
     ·rw[e2 _ (by omega) (by omega)]at xG;cases xG
     ·have:b=op+(n:Int)-1:=by
       rcases Int.lt_trichotomy b (op+(n:Int)-1)with g|g|g
       ·rw[g4 _ g (by omega)]at xG;cases xG
       ·exact g
       ·rw[WO b g g2]at g3;cases g3
      rw[e2,this];rfl
    ·show op≤op+(n:Int)-1;omega
    ·show op+(n:Int)-1≤s.bp;omega
end
section
variable {x : ae} {o : af} {s r : aM} {a : aw} {place : Int}
def Hf(x:ae)(o:af)(s:aM):aM:=(jx (eO x) o s).getD s
theorem vC(hx:cD x)(ho:o∈x.ah)(hs:IQ x.bG.aD.length s):jx (eO x) o s=some (Hf x o s)∧yv x (iT x o) s=some (Hf x o s)∧Qae x o s (Hf x o s):=by
 obtain⟨r,h1,h2,h3⟩:=Qbw hx ho hs;have:Hf x o s=r:=by unfold Hf;rw[h1];rfl
 rw[this];exact⟨h1,h2,h3⟩
def qo(x:ae)(o:af):af:=if o.off=true then o else af.mk o.name o.load (Hf x o o.pick) (Hf x o o.drop) o.bD o.dA o.split o.bI o.now o.off
def Hg(x:ae):ae:=ae.mk x.bG x.types (x.ah.map (qo x)) x.db x.before
theorem QeA{α:Type}{l:List α}{i:Nat}{y z:α}:gZ (gZ l (i:Int) y) (i:Int) z=l.set i z:=by
 unfold gZ;rw[Int.toNat_natCast,List.set_set]
theorem QgQ{α E:Type}{l:List α}(hl:l.length≤1048576)(f:α→α){B:List α×Int→Option ((List α×Int)⊕E)}{e:E}(hs:∀(i:Nat) (a:α) (m:List α),l[i]?=some a→m.length=l.length→m[i]?=some a→B (m,(i:Int))=some (.inl (m.set i (f a),(i:Int)+1)))(he:∀m:List α,m.length=l.length→m=l.map f→B (m,(l.length:Int))=some (.inr e)):aK B (l,0)=some e:=by
 have:=dj (B:=B) (e:=e) l.length (fun i=>((l.take i).map f++l.drop i,(i:Int))) (by omega) (fun i hi=>by
  have e1:l[i]?=some l[i]:=List.getElem?_eq_getElem hi;have hlen:((l.take i).map f).length=i:=by simp;omega
  rw[hs i l[i] ((l.take i).map f++l.drop i) e1 (by simp;omega) (by rw[List.getElem?_append_right (by omega),hlen,Nat.sub_self,List.getElem?_drop];simp)]
  congr 1;congr 1;rw[Prod.mk.injEq];refine⟨?_,by omega⟩
  rw[List.drop_eq_getElem_cons hi,List.set_append_right _ _ (by omega),hlen,Nat.sub_self,List.set_cons_zero,List.take_add_one,e1,Option.toList_some,List.map_append,List.append_assoc]
  rfl) (by
  rw[List.take_length,List.drop_length,List.append_nil];exact he _ (by simp) rfl)
 simpa using this
theorem Qbx(hx:cD x)(hF:Rj x)(hr:oU x=some true):yI x=some (Hg x,0):=by
 have dN:=hx.ah;unfold yI;rw[hr,ai,bl rfl,SF hx,ai];have hc:eV x.ah=some x.ah:=by
  unfold eV;rw[ch (cW (by omega))]
  cases hq:x.ah with
  |nil=>rfl
  |cons b l=>rfl
 rw[hc,ai,bY (QgQ (B:=fun s=>mv x (eO x) x.ah s.1 s.2) (l:=x.ah) (e:=x.ah.map (qo x)) (by omega) (qo x) (fun i a m h hm Z2=>by
  have ha:=List.mem_of_getElem? h;have hO:=hx.ord a ha;have ek:aY .i64 (i:Int) 1=(i:Int)+1:=ig (by omega) (by have:=(List.getElem?_eq_some_iff.1 h).1;omega)
  show mv x (eO x) x.ah m (i:Int)=_;unfold mv;rw[bl (show aT (i:Int) (aC x.ah)=true by rw[fS];show(i:Int)<(x.ah.length:Int);have:=(List.getElem?_eq_some_iff.1 h).1;omega),bt Z2,ai,ek]
  unfold qo;cases Jk:a.off with
  |true =>
   rw[bl rfl,if_pos rfl];rw[show m.set i a=m from List.ext_getElem? fun j=>by
    rw[List.getElem?_set];split
    ·rename_i hj;subst hj;rw[Z2];split
     ·rfl
     ·rename_i hj;exact absurd (List.getElem?_eq_some_iff.1 Z2).1 hj
    ·rfl]
  |false =>
   rw[a_ rfl,(vC hx ha hO.pick).1,ai,(vC hx ha hO.drop).1,ai,if_neg (by simp),QeA]) (fun m hm he=>by
  show mv x (eO x) x.ah m (x.ah.length:Int)=_;unfold mv;rw[a_ (by simp [aC]),he]))]
 rfl
end
section
variable {x : ae} {o : af} {s r : aM} {a : aw} {place : Int} {t : ag}
theorem Qia{n:ak}{aj aE t:Int}(mA:tj n)(h0:0≤aE)(h1:aE<n.aD.length)(ht:0≤t)(QZ:t≤1048576){v:Nat}(hv:0≤di (sF n aj aE t) v):NA (di (sF n aj aE t) v):=by
 have:=(K3 (aj:=aj) (t:=t) mA h0 h1 ht QZ n.aD.length 0 (Nat.zero_le _)).1 v;rw[SB h0 h1]at hv ⊢;exact this hv
def Rh(x:ae)(a:aw)(t:ag):Bool:=decide (t.aj=a.aj∧0≤di (mR x t) a.aE.toNat∧(goN x.bG a.aj a.aE a.dE (di (mR x t) a.aE.toNat)).2.2=0∧(goN x.bG a.aj a.aE a.dE (di (mR x t) a.aE.toNat)).1≤t.bp)
def Vs(x:ae)(a:aw):Bool:=x.types.any (Rh x a)
def Qfp(x:ae):ae:=ae.mk (ak.mk x.bG.aD (x.bG.bj.filter (Vs x))) x.types x.ah x.db x.before
theorem XF(h:Rh x a t=true):t.aj=a.aj∧0≤di (mR x t) a.aE.toNat∧(goN x.bG a.aj a.aE a.dE (di (mR x t) a.aE.toNat)).2.2=0∧(goN x.bG a.aj a.aE a.dE (di (mR x t) a.aE.toNat)).1≤t.bp:=of_decide_eq_true h
theorem QfH(hx:cD x)(ht:t∈x.types){v:Nat}(hv:0≤di (mR x t) v):NA (di (mR x t) v):=by
 have hT:=hx.Sa t ht;have ho:=hT.XV;have hc:=hT.bp;have hf:=hT.aE;exact Qia hx.bG hf.1 hf.2 ho.1 (by omega) hv
theorem QeM(hx:cD x)(ha:a∈x.bG.bj):qX (eO x) a=some (Vs x a):=by
 have h6:=hx.types;have hA:=hx.bG.all a ha;have f0:=hA.Vc;have f1:=hA.Vd;unfold qX;rw[bY (eh (B:=fun s=>gX (eO x) a s) (l:=x.types) (by omega) (Rh x a) (y:=(.inr true:Unit⊕Bool)) (N:=.inl ()) (fun i t h=>by
  have hm:=List.mem_of_getElem? h;have e2:(eO x).xD[i]?=some (mR x t):=by show(x.types.map (mR x))[i]?=_;rw[List.getElem?_map,h];rfl
  have hl:(mR x t).length=x.bG.aD.length:=N4;show gX (eO x) a (i:Int)=_;unfold gX;rw[bl (show aT (i:Int) (aC (eO x).x.types)=true by rw[fS];show(i:Int)<(x.types.length:Int);have:=(List.getElem?_eq_some_iff.1 h).1;omega),show bq (eO x).x.types (i:Int)=some t from bt h,ai,bt e2,ai,wg f0 (by omega),ai,gP h (by omega)]
  by_cases hq:t.aj=a.aj∧0≤di (mR x t) a.aE.toNat
  ·rw[a_ (by rw[Ql,J0,jG];exact hq),show(eO x).x.bG=x.bG from rfl,go_eq hx.bG _ _ _ (QfH hx hm hq.2),ai]
   by_cases hg:(goN x.bG a.aj a.aE a.dE (di (mR x t) a.aE.toNat)).2.2=0∧(goN x.bG a.aj a.aE a.dE (di (mR x t) a.aE.toNat)).1≤t.bp
   ·rw[bl (by rw[BK,pJ,ui];exact hg),if_pos (show Rh x a t=true from decide_eq_true ⟨hq.1,hq.2,hg.1,hg.2⟩)]
   ·rw[a_ (by rw[T9,xC,Q8];omega),if_neg (show ¬Rh x a t=true from fun h=>hg (XF h).2.2)]
  ·rw[bl (by rw[XX,wk,fS];omega),if_neg (show ¬Rh x a t=true from fun h=>hq ⟨(XF h).1,(XF h).2.1⟩)]) (by
  show gX (eO x) a (x.types.length:Int)=_;unfold gX;rw[a_ (show aT (x.types.length:Int) (aC (eO x).x.types)=false by rw[jG];show(x.types.length:Int)≤(x.types.length:Int);omega)]))]
 show _=some (x.types.any (Rh x a));cases x.types.any (Rh x a) <;> rfl
theorem Qdm(hx:cD x)(hr:oU x=some true):Aj x=some (Qfp x,0):=by
 have hn:=hx.bG.bj;unfold Aj;rw[hr,ai,bl rfl,SF hx,ai,bY (Jt (B:=fun s:List aw×Int=>ny x (eO x) s.1 s.2) (l:=x.bG.bj) (by omega) (Vs x) id [] (fun s i a h S0=>by
  have hi:=(List.getElem?_eq_some_iff.1 h).1;simp only[List.length_nil]at S0;show ny x (eO x) s i=_;unfold ny;rw[cB h,QeM hx (List.mem_of_getElem? h),ai,gP h (by omega),ch (cW (by simp;omega))]
  cases Vs x a <;> rfl) (fun s=>by
  show ny x (eO x) s x.bG.bj.length=_;unfold ny;rw[bW];rfl))]
 rfl
end
section
variable {x : ae}
theorem Qes{α:Type}{l:List α}{B:Int→Option (Int⊕(Unit⊕Bool))}(hl:l.length≤1048576)(hB:∀(i:Nat) (a:α),l[i]?=some a→B i=some (.inl ((i:Int)+1)))(xG:B l.length=some (.inr (.inl ()))):aK B 0=some (.inl ()):=
 dj (B:=B) l.length (fun i=>(i:Int)) (by omega) (fun i hi=>(hB i l[i] (List.getElem?_eq_getElem hi)).trans (by congr 2)) xG
theorem QjG(hI:BI x):BI (Hg x):=⟨hI.bG,hI.types,by show(x.ah.map (qo x)).length≤_;rw[List.length_map];exact hI.ah,hI.db,hI.before,hI.Qhn,fun o ho=>by
 obtain⟨a,ha,rfl⟩:=List.mem_map.1 ho;have:=hI.QgZ a ha;unfold qo;split
 ·exact this
 ·exact⟨this.name,this.load⟩⟩
theorem QjF(hF:Rj x):Rj (Hg x):=⟨hF.aD,hF.bj,hF.dM,hF.types,by show(x.ah.map (qo x)).length≤_;rw[List.length_map];exact hF.ah⟩
theorem QkY(hI:BI x):BI (Qfp x):=⟨⟨hI.bG.aD,Nat.le_trans (List.length_filter_le ..) hI.bG.bj,hI.bG.names,fun a ha=>hI.bG.Qdl a (List.mem_filter.1 ha).1⟩,hI.types,hI.ah,hI.db,hI.before,hI.Qhn,hI.QgZ⟩
end
section
variable {x : ae}
theorem Qh3:pd=some true:=by kernel_rfl
end
theorem QfM{α:Type}{l:List α}{p q:α→Bool}(hu:∀a∈l,∀b∈l,q a=true→q b=true→a=b){a:α}(ha:l.find? q=some a):(l.filter p).find? q=if p a=true then some a else none:=by
 have hm:=List.mem_of_find?_eq_some ha;have hq:=List.find?_some ha;by_cases hp:p a=true
 ·rw[if_pos hp];cases hf:(l.filter p).find? q with
  |none=>exact absurd hq (List.find?_eq_none.1 hf a (List.mem_filter.2 ⟨hm,hp⟩))
  |some b=>rw[hu a hm b (List.mem_filter.1 (List.mem_of_find?_eq_some hf)).1 hq (List.find?_some hf)]
 ·rw[if_neg hp];refine List.find?_eq_none.2 fun b hb hqb=>?_
  obtain⟨h1,h2⟩:=List.mem_filter.1 hb;exact hp (by rw[hu a hm b h1 hq hqb];exact h2)
def MC(n:ak)(p:aw→Bool):ak:=ak.mk n.aD (n.bj.filter p)
section
variable {n : ak} {pr a b t d e : Int}
theorem QjS(h:tj n){u v:aw}(hu:u∈n.bj)(hv:v∈n.bj)(h1:EK pr a b u=true)(h2:EK pr a b v=true):u=v:=by
 obtain⟨i,hi⟩:=List.getElem?_of_mem hu;obtain⟨j,hj⟩:=List.getElem?_of_mem hv;have e1:=of_decide_eq_true h1;have e2:=of_decide_eq_true h2;rcases Nat.lt_trichotomy i j with mj|heq|mj
 ·exact absurd ⟨by rw[e1.1,e2.1],by rw[e1.2.1,e2.2.1],by rw[e1.2.2,e2.2.2]⟩ (h.once j i v u mj hj hi)
 ·subst heq;rw[hi]at hj;exact Option.some.inj hj
 ·exact absurd ⟨by rw[e1.1,e2.1],by rw[e1.2.1,e2.2.1],by rw[e1.2.2,e2.2.2]⟩ (h.once i j u v mj hi hj)
theorem U8(h:tj n)(p:aw→Bool):(((nG n pr a b).2=true∧p (nG n pr a b).1=true)∧nG (MC n p) pr a b=nG n pr a b)∨(¬((nG n pr a b).2=true∧p (nG n pr a b).1=true)∧(nG (MC n p) pr a b).2=false):=by
 have e:(MC n p).bj=n.bj.filter p:=rfl;unfold nG;rw[e];cases hf:n.bj.find? (EK pr a b)with
 |none =>
  have:(n.bj.filter p).find? (EK pr a b)=none:=List.find?_eq_none.2 fun b hb=>List.find?_eq_none.1 hf b (List.mem_filter.1 hb).1
  rw[this];exact .inr ⟨fun h=>(by have:=h.1;cases this),rfl⟩
 |some u =>
  rw[QfM (p:=p) (fun x hx y hy h1 h2=>QjS h hx hy h1 h2) hf]
  by_cases hp:p u=true
  ·rw[if_pos hp];exact .inl ⟨⟨rfl,hp⟩,rfl⟩
  ·rw[if_neg hp];exact .inr ⟨fun h=>hp h.2,rfl⟩
theorem Qin(h:tj n){p:aw→Bool}(h0:(goN (MC n p) pr a b t).2.2=0):goN (MC n p) pr a b t=goN n pr a b t:=by
 have AK:∀i,f_ (MC n p) i=f_ n i:=fun i=>rfl
 unfold goN at h0 ⊢;rw[AK,AK]at h0 ⊢;split at h0
 ·rename_i h1;rw[if_pos h1,if_pos h1];split at h0
  ·rename_i h2;rw[if_pos h2,if_pos h2]
  ·rename_i h2;rw[if_neg h2,if_neg h2];rcases U8 h p (pr:=pr) (a:=a) (b:=b)with⟨_,k3⟩|⟨_,k3⟩
   ·rw[k3]
   ·rw[k3]at h0;simp at h0
 ·simp at h0
theorem QfR(h:tj n){p:aw→Bool}(h0:(goN n pr a b t).2.2=0)(hp:a≠b→p (nG n pr a b).1=true):goN (MC n p) pr a b t=goN n pr a b t:=by
 have AK:∀i,f_ (MC n p) i=f_ n i:=fun i=>rfl
 unfold goN at h0 ⊢;rw[AK,AK];split at h0
 ·rename_i h1;rw[if_pos h1,if_pos h1];split at h0
  ·rename_i h2;rw[if_pos h2,if_pos h2]
  ·rename_i h2;rw[if_neg h2,if_neg h2];split at h0
   ·rename_i h3;rcases U8 h p (pr:=pr) (a:=a) (b:=b)with⟨_,k3⟩|⟨k1,_⟩
    ·rw[k3]
    ·exact absurd ⟨h3,hp h2⟩ k1
   ·simp at h0
 ·simp at h0
theorem Qb8(h0:(goN n pr a b t).2.2=0)(sR:a≠b):(nG n pr a b).2=true∧(goN n pr a b t).1=zN (nG n pr a b).1 t:=by
 unfold goN at h0 ⊢;split at h0
 ·rename_i h1;rw[if_pos h1];simp only[if_neg sR]at h0 ⊢;split at h0
  ·rename_i h3;exact⟨h3,by rw[if_pos h3]⟩
  ·simp at h0
 ·simp at h0
theorem QfT(h0:(goN n pr a a t).2.2=0):(goN n pr a a t).1=t:=by
 unfold goN at h0 ⊢;split at h0
 ·rename_i h1;rw[if_pos h1,if_pos rfl]
 ·simp at h0
theorem Qk8(mA:tj n)(h0:0≤a)(h1:a<n.aD.length)(ht:0≤t){v:Nat}(hv:0≤di (sF n pr a t) v):t≤di (sF n pr a t) v:=by
 rw[SB h0 h1]at hv ⊢;have:=KT (aj:=pr) (C:=fun s=>s.length=n.aD.length∧∀v,0≤di s v→t≤di s v) (bj:=n.bj) (s:=aH n.aD.length a t) ⟨by simp [aH],fun v hv=>by
  rw[Pm h0 h1]at hv ⊢;split at hv
  ·rename_i h;subst h;rw[if_pos rfl];exact Int.le_refl _
  ·omega⟩ (fun u c hc hu=>by
  obtain⟨u1,u2⟩:=hu;have hA:=mA.all c hc;refine⟨by rw[K5];exact u1,fun v hv=>?_⟩
  rcases Tx (aj:=pr) u1 hA v with h|⟨h2,h3,h4⟩
  ·rw[h]at hv ⊢;exact u2 v hv
  ·rw[h4];obtain⟨k0,k1,k2⟩:=h2;have:=u2 _ k1;have QW:=NG hA (di u c.aE.toNat);omega) n.aD.length
 exact this.2 v hv
theorem Qat(mA:tj n)(h0:0≤a)(h1:a<n.aD.length)(ht:0≤t)(QZ:t≤1048576){p q:Int}(hp:0≤di (sF n pr a t) p.toNat)(hd:di (sF n pr a t) p.toNat≤d)(hg:(goN n pr p q d).2.2=0):
  0≤di (sF n pr a t) q.toNat∧di (sF n pr a t) q.toNat≤(goN n pr p q d).1:=by
 by_cases hpq:p=q
 ·subst hpq;rw[QfT hg];exact⟨hp,hd⟩
 ·obtain⟨f1,f2⟩:=Qb8 hg hpq;obtain⟨f3,f4⟩:=Bx f1;have e:=of_decide_eq_true f4;have hD:=SC (aj:=pr) mA h0 h1 ht QZ f3 e.2.2 (by rw[e.1];exact hp)
  rw[e.1,e.2.1]at hD;rw[f2];have hm:=PB (mA.all _ f3) hd;exact⟨hD.1,by omega⟩
theorem Qib(mA:tj n){p q:Int}(hp0:0≤p)(hp1:p<n.aD.length)(hq0:0≤q)(hq1:q<n.aD.length)(hd:0≤d)(hd':d≤1048576)(hg:(goN n pr p q d).2.2=0)(he:(goN n pr p q d).1≤e){v:Nat}(hv:0≤di (sF n pr q e) v):
  0≤di (sF n pr p d) v∧di (sF n pr p d) v≤di (sF n pr q e) v:=by
 have hf:=N3 (aj:=pr) mA hp0 hp1 hd;have hq:=Qat (pr:=pr) mA hp0 hp1 hd hd' hf.1 hf.2 hg;exact U5 mA hq0 hq1 (by omega) (fun c hc=>SC mA hp0 hp1 hd hd' hc) ⟨hq.1,by omega⟩ v hv
end
def lF(x:ae):ae:=Qfp (Hg x)
def Qgz(x:ae):aw→Bool:=Vs (Hg x)
theorem Xi(x:ae):(lF x).bG=MC x.bG (Qgz x):=rfl
def Ey(x:ae)(t:ag)(s r:aM):Prop:=r=s∨∃o∈x.ah,t∈iT x o∧Qae x o s r
section
variable {x : ae} {t : ag} {o : af} {s r : aM} {pl : Int}
theorem SK:∀(l:List ag) (out:Int),(0≤out→0≤l.foldl (uZ x pl) out∧l.foldl (uZ x pl) out≤out)∧∀t∈l,0≤di (mR x t) pl.toNat→0≤l.foldl (uZ x pl) out∧l.foldl (uZ x pl) out≤di (mR x t) pl.toNat
 | [],out=>⟨fun h=>⟨h,Int.le_refl _⟩,fun _ h=>by cases h⟩
 |c ::l,out=>by
  rw[List.foldl_cons];obtain⟨i1,i2⟩:=SK l (uZ x pl out c);have hs:0≤out→0≤uZ x pl out c∧uZ x pl out c≤out:=fun h=>by
   unfold uZ;split <;> omega
  refine⟨fun h=>?_,fun t ht h=>?_⟩
  ·have:=i1 (hs h).1;have:=hs h;omega
  ·rcases List.mem_cons.1 ht with e|e
   ·have hc:0≤uZ x pl out c∧uZ x pl out c≤di (mR x t) pl.toNat:=by
     rw[e]at h ⊢;unfold uZ;split <;> omega
    have:=i1 hc.1;omega
   ·exact i2 t e h
theorem Qdz(ht:t∈iT x o)(h:0≤di (mR x t) pl.toNat):0≤lU x o pl∧lU x o pl≤di (mR x t) pl.toNat:=(SK (iT x o) (-1)).2 t ht h
theorem Ey.place(h:Ey x t s r):r.place=s.place:=h.elim (fun e=>by rw[e]) fun⟨_,_,_,k⟩=>k.place
theorem Ey.bz(h:Ey x t s r):r.bz=s.bz:=h.elim (fun e=>by rw[e]) fun⟨_,_,_,k⟩=>k.bz
theorem Ey.bm(h:Ey x t s r){g:Int}(h0:0≤di (mR x t) s.place.toNat)(hg:di (mR x t) s.place.toNat≤g):max g r.bm=max g s.bm:=by
 rcases h with e|⟨o,_,ha,k⟩
 ·rw[e]
 ·have hf:=Qdz ha h0;rcases k.cases with⟨e,_⟩|⟨_,_,e,_⟩
  ·rw[e]
  ·rw[e];omega
theorem Ey.QfA(h:Ey x t s r):r.bp≤s.bp:=by
 rcases h with e|⟨o,_,ha,k⟩
 ·rw[e];exact Int.le_refl _
 ·rcases k.cases with⟨e,_⟩|⟨_,_,_,_,e,_⟩
  ·rw[e];exact Int.le_refl _
  ·exact e
theorem Ey.bp(h:Ey x t s r){g:Int}(hs:s.bm≤s.bp)(hg:g≤s.bp)(hr:Qu x t s.place (max g s.bm+s.bz)=true):g≤r.bp:=by
 rcases h with e|⟨o,_,ha,k⟩
 ·rw[e];exact hg
 ·rcases k.cases with⟨e,_⟩|⟨_,_,_,_,_,_,e⟩
  ·rw[e];exact hg
  ·refine Classical.byContradiction fun hn=>?_
   have:=e (max g s.bm) (by omega) (by omega)
   unfold mz at this;exact absurd hr (List.any_eq_false.1 this t ha)
end
structure IP (x:ae) (t:ag) (aG gz:List aM):Prop where
 ok:cD x
 Sa:t∈x.types
 UE:qk x.bG t aG
 Qc9:qk (lF x).bG t gz
 len:gz.length=aG.length
 aD:∀s∈aG,0≤s.place∧s.place<x.bG.aD.length
 rel:∀(k:Nat) s r,aG[k]?=some s→gz[k]?=some r→Ey x t s r
section
variable {x : ae} {t : ag} {aG gz : List aM} {k : Nat}
theorem IP.stop(h:IP x t aG gz)(k:Nat):Ey x t (cV t aG k) (cV t gz k):=by
 have hl:=h.len;by_cases hk:k<aG.length
 ·exact h.rel k _ _ (Aq hk) (Aq (by omega))
 ·rw[vA hk,vA (by omega)];exact .inl rfl
theorem IP.Zj(h:IP x t aG gz)(k:Nat):0≤(cV t aG k).place∧(cV t aG k).place<x.bG.aD.length:=by
 by_cases hk:k<aG.length
 ·exact h.aD _ (List.mem_of_getElem? (Aq (t:=t) hk))
 ·rw[vA hk];exact(h.ok.Sa t h.Sa).dE
theorem Bz(hk:k+1≤aG.length):fD t aG (k+1)=(cV t aG k).place:=by
 show(aG.getD k Mu).place=_;rw[List.getD_eq_getElem?_getD,Aq (t:=t) (by omega:k<aG.length)];rfl
theorem IP.Qih(h:IP x t aG gz)(hk:k≤aG.length):0≤fD t aG k∧fD t aG k<x.bG.aD.length:=by
 cases k with
 |zero=>exact(h.ok.Sa t h.Sa).aE
 |succ k=>rw[Bz hk];exact h.Zj k
theorem IP.WE(h:IP x t aG gz)(hk:k≤aG.length):fD t gz k=fD t aG k:=by
 cases k with
 |zero=>rfl
 |succ k=>rw[Bz hk,Bz (by rw[h.len];exact hk)];exact(h.stop k).place
theorem IP.kept(h:IP x t aG gz){a b d:Int}(h0:0≤di (mR x t) a.toNat)(hd:di (mR x t) a.toNat≤d)(hg:(goN x.bG t.aj a b d).2.2=0)(hc:(goN x.bG t.aj a b d).1≤t.bp):goN (lF x).bG t.aj a b d=goN x.bG t.aj a b d:=by
 rw[Xi];refine QfR h.ok.bG hg fun sR=>?_
 obtain⟨f1,f2⟩:=Qb8 hg sR;obtain⟨f3,f4⟩:=Bx f1;have e:=of_decide_eq_true f4;refine List.any_eq_true.2 ⟨t,h.Sa,decide_eq_true ?_⟩;show t.aj=(nG x.bG t.aj a b).1.aj∧0≤di (mR x t) (nG x.bG t.aj a b).1.aE.toNat∧(goN x.bG (nG x.bG t.aj a b).1.aj (nG x.bG t.aj a b).1.aE (nG x.bG t.aj a b).1.dE (di (mR x t) (nG x.bG t.aj a b).1.aE.toNat)).2.2=0∧(goN x.bG (nG x.bG t.aj a b).1.aj (nG x.bG t.aj a b).1.aE (nG x.bG t.aj a b).1.dE (di (mR x t) (nG x.bG t.aj a b).1.aE.toNat)).1≤t.bp;rw[e.1,e.2.1,e.2.2];have he:(goN x.bG t.aj a b (di (mR x t) a.toNat)).2.2=0:=by rw[Qim (t':=d)];exact hg
 have hm:=QfS h.ok.bG hd he;exact⟨rfl,h0,he,by omega⟩
end
section
variable {x : ae} {t : ag} {aG gz : List aM} {k : Nat} {l : au} {c : Bool}
theorem QfF(hT:qk x.bG t aG)(hl:Ew k l):l.ready≤jh t l c∧0≤jh t l c∧jh t l c≤1048576:=by
 have h1:=hl.Tt;have h2:=hl.Xg;have h3:=hT.rest;unfold jh;split <;> omega
theorem Y_{n n':ak}(hlen:gz.length=aG.length)(hf:fD t gz k=fD t aG k)(hp:(cV t gz k).place=(cV t aG k).place)(hs:(cV t gz k).bz=(cV t aG k).bz)
  (hg:goN n' t.aj (fD t aG k) (cV t aG k).place (jh t l c)=goN n t.aj (fD t aG k) (cV t aG k).place (jh t l c))
  (ho:max (goN n t.aj (fD t aG k) (cV t aG k).place (jh t l c)).1 (cV t gz k).bm=max (goN n t.aj (fD t aG k) (cV t aG k).place (jh t l c)).1 (cV t aG k).bm)
  (h1:(goN n t.aj (fD t aG k) (cV t aG k).place (jh t l c)).1≤(cV t aG k).bp) (h2:(goN n t.aj (fD t aG k) (cV t aG k).place (jh t l c)).1≤(cV t gz k).bp):wI n' t gz l k c=wI n t aG l k c:=by
 unfold wI W4;rw[hf,hp,hg,hs,ho,hlen];rw[if_neg (show ¬(cV t gz k).bp<_ by omega),if_neg (show ¬(cV t aG k).bp<_ by omega)]
 unfold shS;rw[ho,hlen]
theorem Qhh(h:IP x t aG gz):∀(b:List Bool) (k:Nat) (l:au),k+b.length=aG.length+1→k≤aG.length→Ew k l→(0≤di (mR x t) (fD t aG k).toNat∧di (mR x t) (fD t aG k).toNat≤l.ready)→(runK x.bG t aG b k l).2=0→
  runK (lF x).bG t gz b k l=runK x.bG t aG b k l∧0≤di (sF x.bG t.aj (fD t aG k) l.ready) t.dE.toNat∧di (sF x.bG t.aj (fD t aG k) l.ready) t.dE.toNat≤t.bp
 | [],k,l,hk,wP,_,_,_=>by simp at hk;omega
 |c ::r,k,l,hk,wP,hl,hf,h0=>by
  simp only[runK]at h0 ⊢;simp only[List.length_cons]at hk;have mA:=h.ok.bG;have hT:=h.ok.Sa t h.Sa;by_cases hn:(wI x.bG t aG l k c).2=0
  ·rw[if_neg (by simpa using hn)]at h0
   obtain⟨g0,g1,g2,g3⟩:=Ei h.UE hl hn;have Qf4:=QfF (c:=c) h.UE hl;have hfi:=h.Qih wP;have hpi:=h.Zj k;have hS:=h.UE.cV k;have tY:0≤di (mR x t) (fD t aG k).toNat∧di (mR x t) (fD t aG k).toNat≤jh t l c:=⟨hf.1,by omega⟩
   have hgo:=Qat (pr:=t.aj) mA hT.aE.1 hT.aE.2 hT.XV.1 (by have:=hT.XV;have:=hT.bp;omega) tY.1 tY.2 g0
   have QW:=(Jg mA (SA h.UE hl) g0).1;have hrd:(wI x.bG t aG l k c).1.ready=max (goN x.bG t.aj (fD t aG k) (cV t aG k).place (jh t l c)).1 (cV t aG k).bm+(cV t aG k).bz:=by rw[g3]
   have h4:=hS.VL;have h5:=hS.TF;have key:runK (lF x).bG t gz r (k+1) (wI x.bG t aG l k c).1=runK x.bG t aG r (k+1) (wI x.bG t aG l k c).1∧0≤di (sF x.bG t.aj (cV t aG k).place (wI x.bG t aG l k c).1.ready) t.dE.toNat∧di (sF x.bG t.aj (cV t aG k).place (wI x.bG t aG l k c).1.ready) t.dE.toNat≤t.bp:=by
    by_cases XQ:k<aG.length
    ·have ih:=Qhh h r (k+1) (wI x.bG t aG l k c).1 (by omega) (by omega) (ON h.UE hl XQ hn) (by rw[Bz (by omega),hrd];exact⟨hgo.1,by have:=hgo.2;unfold mR;omega⟩) h0
     rwa [Bz (by omega)]at ih
    ·have hr:r=[]:=List.eq_nil_of_length_eq_zero (by omega)
     subst hr;have he:=vA (t:=t) XQ;refine⟨rfl,?_⟩;have h6:0≤(wI x.bG t aG l k c).1.ready:=by rw[hrd];omega
     have h7:=N3 (aj:=t.aj) mA hpi.1 hpi.2 h6;have h8:(wI x.bG t aG l k c).1.ready≤t.bp:=by
      rw[hrd];rw[he]at g1 h4 ⊢;have e1:(Uj t).bm=0:=rfl;have e2:(Uj t).bz=0:=rfl;have e3:(Uj t).bp=t.bp:=rfl;rw[e1,e2];rw[e3]at g1;have:=hT.XV;omega
     have e4:(cV t aG k).place=t.dE:=by rw[he];rfl
     rw[e4]at h7 ⊢;exact⟨h7.1,by omega⟩
   obtain⟨k1,k2,k3⟩:=key;have hrb:Qu x t (cV t aG k).place (max (goN x.bG t.aj (fD t aG k) (cV t aG k).place (jh t l c)).1 (cV t aG k).bm+(cV t aG k).bz)=true:=by
    rw[hrd]at k2 k3;unfold Qu;simp only[BK,kP,ui];exact⟨k2,k3⟩
   have hR:=h.stop k;have IM:=hR.bp hS.Th g1 hrb;have Uq:=hR.bm hgo.1 hgo.2;have hrg:=Qk8 (pr:=t.aj) mA hpi.1 hpi.2 (by rw[hrd];omega) k2
   have hgc:(goN x.bG t.aj (fD t aG k) (cV t aG k).place (jh t l c)).1≤t.bp:=by rw[hrd]at hrg k3;omega
   have hnn:wI (lF x).bG t gz l k c=wI x.bG t aG l k c:=
    Y_ h.len (h.WE wP) hR.place hR.bz (h.kept tY.1 tY.2 g0 hgc) Uq g1 IM
   rw[hnn,if_neg (by simpa using hn),if_neg (by simpa using hn)]
   refine⟨k1,?_⟩;have hw:=Qib (pr:=t.aj) mA hfi.1 hfi.2 hpi.1 hpi.2 Qf4.2.1 Qf4.2.2 g0 (e:=(wI x.bG t aG l k c).1.ready) (by rw[hrd];omega) k2
   have hm:=Yy (aj:=t.aj) mA hfi.1 hfi.2 hl.Tt Qf4.1 Qf4.2.2 _ hw.1;exact⟨hm.1,by omega⟩
  ·rw[if_pos hn]at h0;exact absurd h0 hn
theorem Qhi(h:IP x t aG gz):∀(b:List Bool) (k:Nat) (l:au),k+b.length=aG.length+1→k≤aG.length→Ew k l→(0≤di (mR x t) (fD t aG k).toNat∧di (mR x t) (fD t aG k).toNat≤l.ready)→(runK (lF x).bG t gz b k l).2=0→
  runK (lF x).bG t gz b k l=runK x.bG t aG b k l
 | [],k,l,hk,wP,_,_,_=>rfl
 |c ::r,k,l,hk,wP,hl,hf,h0=>by
  simp only[runK]at h0 ⊢;simp only[List.length_cons]at hk;have mA:=h.ok.bG;have hT:=h.ok.Sa t h.Sa;by_cases hn:(wI (lF x).bG t gz l k c).2=0
  ·rw[if_neg (by simpa using hn)]at h0
   obtain⟨g0,g1,g2,g3⟩:=Ei h.Qc9 hl hn;have hR:=h.stop k;rw[h.WE wP,hR.place]at g0 g1;have hgg:=Qin (p:=Qgz x) mA g0;rw[Xi,hgg]at g1;rw[Xi,hgg]at g0;have Qf4:=QfF (c:=c) h.UE hl;have tY:0≤di (mR x t) (fD t aG k).toNat∧di (mR x t) (fD t aG k).toNat≤jh t l c:=⟨hf.1,by omega⟩
   have hgo:=Qat (pr:=t.aj) mA hT.aE.1 hT.aE.2 hT.XV.1 (by have:=hT.XV;have:=hT.bp;omega) tY.1 tY.2 g0
   have Uq:=hR.bm hgo.1 hgo.2;have IM:=hR.QfA;have hnn:wI (lF x).bG t gz l k c=wI x.bG t aG l k c:=
    Y_ h.len (h.WE wP) hR.place hR.bz hgg Uq (by omega) g1
   rw[hnn]at h0 hn ⊢;rw[if_neg (by simpa using hn),if_neg (by simpa using hn)]
   by_cases XQ:k<aG.length
   ·obtain⟨q0,q1,q2,q3⟩:=Ei h.UE hl hn;have h4:=(h.UE.cV k).TF;exact Qhi h r (k+1) (wI x.bG t aG l k c).1 (by omega) (by omega) (ON h.UE hl XQ hn) (by
     rw[Bz (by omega),q3]
     refine⟨hgo.1,?_⟩;have:=hgo.2;show di (sF x.bG t.aj t.aE t.bm) _≤max _ _+_;omega) h0
   ·have hr:r=[]:=List.eq_nil_of_length_eq_zero (by omega)
    subst hr;rfl
  ·rw[if_pos hn]at h0;exact absurd h0 hn
end
structure X3 (o q:af):Prop where
 load:q.load=o.load
 bD:q.bD=o.bD
 off:q.off=o.off
 last:q.bI=o.bI
 now:q.now=o.now
 pick:q.pick.place=o.pick.place
 drop:q.drop.place=o.drop.place
structure jg (x y:ae):Prop where
 types:y.types=x.types
 db:y.db=x.db
 before:y.before=x.before
 len:y.ah.length=x.ah.length
 ord:∀(i:Nat) o,x.ah[i]?=some o→∃q,y.ah[i]?=some q∧X3 o q
section
variable {x y : ae} {l : List ab} {r : ay} {v : ab}
theorem jg.di(h:jg x y)(i:Nat):(x.ah[i]?=none∧y.ah[i]?=none)∨∃o q,x.ah[i]?=some o∧y.ah[i]?=some q∧X3 o q:=by
 cases hx:x.ah[i]? with
 |none =>
  refine .inl ⟨rfl,?_⟩;have:=List.getElem?_eq_none_iff.1 hx;exact List.getElem?_eq_none_iff.2 (by rw[h.len];exact this)
 |some o =>
  obtain⟨q,h1,h2⟩:=h.ord i o hx;exact .inr ⟨o,q,rfl,h1,h2⟩
theorem jg.QlR(h:jg x y):Pw y=Pw x:=by funext v;unfold Pw;rw[h.len]
theorem jg.Qjb(h:jg x y):LC y=LC x:=by
 funext v;unfold LC
 rcases h.di v.aL.toNat with⟨e1,e2⟩|⟨o,q,e1,e2,k⟩
 ·rw[e1,e2]
 ·rw[e1,e2];exact k.off
theorem jg.QjN(h:jg x y)(o:Int):gN y o=gN x o:=by
 unfold gN;rcases h.di o.toNat with⟨e1,e2⟩|⟨o,q,e1,e2,k⟩
 ·rw[e1,e2]
 ·rw[e1,e2];simp only;rw[k.pick,k.drop]
theorem jg.Qg1(h:jg x y):vN y l=vN x l:=by
 funext v;unfold vN;rw[h.QjN]
theorem jg.Qc0(h:jg x y):Kk y l=Kk x l:=by
 unfold Kk;rw[h.QlR,h.Qjb,h.Qg1,h.db,h.before]
theorem jg.QgL(h:jg x y)(i d:Nat):sP y i d=sP x i d:=by
 unfold sP;rcases h.di i with⟨e1,e2⟩|⟨o,q,e1,e2,k⟩
 ·rw[e1,e2]
 ·rw[e1,e2];simp only;rw[k.load]
theorem jg.Ql6(h:jg x y)(i:Nat):pk0 y i=pk0 x i:=by
 unfold pk0;rcases h.di i with⟨e1,e2⟩|⟨o,q,e1,e2,k⟩
 ·rw[e1,e2]
 ·rw[e1,e2];simp only;rw[k.pick]
theorem jg.QgK(h:jg x y):sO y l=sO x l:=by
 funext k d
 unfold sO;rw[h.len];congr 1
 funext i
 unfold Ry Uw;rw[h.QgL,h.Ql6]
theorem jg.DT(h:jg x y):bU y r=bU x r:=by unfold bU;rw[h.types]
theorem jg.Qb0(h:jg x y):YD y r=YD x r:=by
 unfold YD jc;rw[h.DT,h.QgK,h.types]
theorem jg.Zf(h:jg x y):∀k,fT y r k=fT x r k
 |0=>rfl
 |k+1=>by
  unfold fT;rw[h.Zf k];cases r.ar[k]? with
  |none=>rfl
  |some v =>
   simp only;by_cases h0:0≤v.aL
   ·rw[if_pos h0,if_pos h0];rcases h.di v.aL.toNat with⟨e1,e2⟩|⟨o,q,e1,e2,k⟩
    ·rw[e1,e2]
    ·rw[e1,e2];simp only;rw[k.now,k.last]
   ·rw[if_neg h0,if_neg h0]
theorem jg.QcY(h:jg x y){s:aQ}:ZC y r s=ZC x r s:=by
 unfold ZC;rw[h.DT,h.Zf]
theorem jg.VZ(h:jg x y):p7 y r v=p7 x r v:=by
 unfold p7;rcases h.di v.aL.toNat with⟨e1,e2⟩|⟨o,q,e1,e2,k⟩
 ·rw[e1,e2]
 ·rw[e1,e2];simp only;rw[k.bD,h.DT]
theorem jg.Qjh(h:jg x y):RE y r=RE x r:=by unfold RE;rw[h.types]
theorem X3.UO{o q:af}(k:X3 o q):(atS v q).place=(atS v o).place:=by
 cases hd:v.drop with
 |true=>rw[Si hd,Si hd];exact k.drop
 |false=>rw[Sh hd,Sh hd];exact k.pick
theorem jg.Qbv(h:jg x y):(qj y v).isSome=(qj x v).isSome:=by
 unfold qj;by_cases h0:0≤v.aL
 ·rw[if_pos h0,if_pos h0];rcases h.di v.aL.toNat with⟨e1,e2⟩|⟨o,q,e1,e2,k⟩
  ·rw[e1,e2]
  ·rw[e1,e2];simp only;rw[k.UO];split <;> rfl
 ·rw[if_neg h0,if_neg h0]
theorem jg.To(h:jg x y):rq y r=rq x r:=by
 unfold rq;rw[h.Qjh];congr 2
 funext v
 exact h.Qbv
theorem Wy(hx:cD x)(hR:mM r)(h9:Em r){s:aQ}{b:List Bool}(h:Qdf x r s b):Uk x r=(s,ZC x r s,0):=by
 obtain⟨e1,_,_,_,e5⟩:=Bh hx hR h9;have hc:(Uk x r).2.2=0:=by
  have hv:=hR.ar;have hs:=h.seq;have ht:=h.aR;have hq:=Pe hs;have va:=hq.short hx;have a1:wY x r=some 0:=by
   have:(r.ar.any (fun v=>!p7 x r v))=false:=by
    rw[List.any_eq_false];intro v hv;rw[h.Qh0 v hv];simp
   unfold wY;rw[bY (eh (B:=fun s=>iu x r s) hv (fun v=>!p7 x r v) (y:=(.inr 18:Unit⊕Int)) (N:=.inl ()) (fun i a h=>by
    obtain⟨o,g1,g2,g3,_⟩:=Wh (r:=r) hx ht (rP hq.Vo (List.mem_of_getElem? h));show iu x r i=_;unfold iu;rw[cB h,(Nw ht.1 ht.2).1,ai,g1,ai,g2,ai,gP h hv];cases p7 x r a <;> rfl) (by
    show iu x r r.ar.length=_;unfold iu;rw[bW])),this]
   rfl
  obtain⟨f1,_⟩:=QbH (r:=r) hx (by omega) hs ht
  obtain⟨A,hA,pA⟩:=UQ hx hR h9;have hA2:A.2=0:=by
   rcases pA with⟨a1,_⟩|⟨_,⟨a,_,_,ea⟩|⟨na,_⟩⟩
   ·exact absurd ⟨h.Qek,h.aP⟩ a1
   ·rw[ea]
   ·exact absurd h.full (na b)
  unfold me at e1;rw[a_ (by simp [aC];omega),ND hx hv,ai,a_ (by simpa using hs),a1,ai,a_ (by decide),f1,ai,a_ (by simpa using h.fits),hA,ai,a_ (by simpa using hA2),X4 hx hv ht,ai]at e1
  rw[←Option.some.inj e1]
 obtain⟨e6,b',hE⟩:=e5 hc;have hb:=Y6 hE.full h.full hE.min h.min;have hs:(Uk x r).1=s:=by rw[hE.dD,h.dD,hb]
 rw[hs]at e6;exact Prod.ext hs (Prod.ext e6 hc)
end
section
variable {x : ae} {t : ag} {o : af} {l : List ab} {r : ay} {v : ab} {s : aM} {b : List Bool} {m : Nat} {k : Ky}
theorem KH(hx:cD x)(ho:o∈x.ah):X3 o (qo x o):=by
 have hO:=hx.ord o ho;unfold qo;split
 ·exact⟨rfl,rfl,rfl,rfl,rfl,rfl,rfl⟩
 ·exact⟨rfl,rfl,rfl,rfl,rfl,(vC hx ho hO.pick).2.2.place,(vC hx ho hO.drop).2.2.place⟩
theorem QcU{i:Nat}(h:x.ah[i]?=some o):(lF x).ah[i]?=some (qo x o):=by
 show(x.ah.map (qo x))[i]?=_;rw[List.getElem?_map,h];rfl
theorem BF(hx:cD x):jg x (lF x):=⟨rfl,rfl,rfl,by show(x.ah.map (qo x)).length=_;rw[List.length_map],fun i o h=>⟨_,QcU h,KH hx (List.mem_of_getElem? h)⟩⟩
theorem QeI(hx:cD x)(ht:bU x r∈x.types)(ha:p7 x r v=true)(hs:qj x v=some s):∃s',qj (lF x) v=some s'∧Ey x (bU x r) s s':=by
 unfold qj at hs ⊢;by_cases h0:0≤v.aL
 ·rw[if_pos h0]at hs ⊢;cases he:x.ah[v.aL.toNat]? with
  |none=>rw[he]at hs;cases hs
  |some o =>
   have hm:=List.mem_of_getElem? he;have hO:=hx.ord o hm;have hk:=KH hx hm;rw[he]at hs;rw[QcU he];simp only at hs ⊢;rw[hk.UO];split at hs
   ·rename_i hp;rw[if_pos hp];refine⟨_,rfl,?_⟩;rw[←Option.some.inj hs];have hab:bU x r∈iT x o:=by
     unfold iT;refine List.mem_filter.2 ⟨ht,?_⟩;unfold p7 at ha;rw[he]at ha;exact ha
    unfold qo;cases Jk:o.off with
    |true=>rw[if_pos rfl];exact .inl rfl
    |false =>
     rw[if_neg (by simp)]
     refine .inr ⟨o,hm,hab,?_⟩;cases hd:v.drop with
     |true=>rw[Si hd,Si hd];exact(vC hx hm hO.drop).2.2
     |false=>rw[Sh hd,Sh hd];exact(vC hx hm hO.pick).2.2
   ·cases hs
 ·rw[if_neg h0]at hs;cases hs
theorem QcV(hx:cD x)(hy:cD (lF x))(hp:rq x r=true)(ha:∀v∈r.ar,p7 x r v=true):IP x (bU x r) (bh x r) (bh (lF x) r):=by
 have hA:=BF hx;have hp':rq (lF x) r=true:=by rw[hA.To];exact hp
 have hT:=Sb (wx hp);have hT2:bU x r∈x.types:=hT.2;have Qc9:=TU hy hp';rw[hA.DT]at Qc9;refine⟨hx,hT2,TU hx hp,Qc9,by rw[tX,tX],fun s hs=>?_,fun k s s' h1 h2=>?_⟩
 ·obtain⟨i,hi⟩:=List.getElem?_of_mem hs;obtain⟨v,_,hv⟩:=KD hp hi;have:=TQ hx hv;exact⟨this.1,this.2.1⟩
 ·obtain⟨v,v1,v2⟩:=KD hp h1;obtain⟨w,w1,w2⟩:=KD hp' h2;rw[v1]at w1;cases w1;obtain⟨q,q1,q2⟩:=QeI hx hT2 (ha v (List.mem_of_getElem? v1)) v2;rw[w2]at q1;cases q1;exact q2
section
variable {aG gz : List aM} {aH : Int} {aP : List Bool}
theorem Qjv(h:IP x t aG gz)(hs:0≤aH∧aH≤4096):Ew 0 (uA t aH)∧(0≤di (mR x t) (fD t aG 0).toNat∧di (mR x t) (fD t aG 0).toNat≤(uA t aH).ready):=by
 have hT:=h.ok.Sa t h.Sa;have hf:=N3 (aj:=t.aj) h.ok.bG hT.aE.1 hT.aE.2 hT.XV.1;refine⟨RT h.UE hs,hf.1,?_⟩;have:di (mR x t) t.aE.toNat≤t.bm:=hf.2;show di (mR x t) t.aE.toNat≤max t.bm aH;omega
theorem Qa8(h:IP x t aG gz)(hs:0≤aH∧aH≤4096)(hb:b.length=aG.length+1):(okB x.bG t aG aH b↔okB (lF x).bG t gz aH b)∧(okB x.bG t aG aH b→pL (lF x).bG t gz aH b=pL x.bG t aG aH b):=by
 obtain⟨h1,h2⟩:=Qjv h hs;have e1:okB x.bG t aG aH b→preB (lF x).bG t gz aH b=preB x.bG t aG aH b:=fun h0=>(Qhh h b 0 _ (by omega) (Nat.zero_le _) h1 h2 h0).1
 have e2:okB (lF x).bG t gz aH b→preB (lF x).bG t gz aH b=preB x.bG t aG aH b:=fun h0=>Qhi h b 0 _ (by omega) (Nat.zero_le _) h1 h2 h0
 refine⟨⟨fun h0=>?_,fun h0=>?_⟩,fun h0=>?_⟩
 ·unfold okB;rw[e1 h0];exact h0
 ·unfold okB;rw[←e2 h0];exact h0
 ·unfold pL;rw[e1 h0]
theorem BP(h:IP x t aG gz)(hs:0≤aH∧aH≤4096):(y3 x.bG t aG aH aP b↔y3 (lF x).bG t gz aH aP b)∧(y3 x.bG t aG aH aP b→pL (lF x).bG t gz aH b=pL x.bG t aG aH b):=by
 have hl:=h.len;unfold y3;rw[hl];refine⟨⟨fun⟨a1,a2,a3⟩=>⟨a1,a2,(Qa8 h hs a1).1.1 a3⟩,fun⟨a1,a2,a3⟩=>⟨a1,a2,(Qa8 h hs a1).1.2 a3⟩⟩,fun⟨a1,a2,a3⟩=>(Qa8 h hs a1).2 a3⟩
theorem QcE(h:IP x t aG gz)(hs:0≤aH∧aH≤4096)(hb:y3 x.bG t aG aH aP b):Uu x.bG t aG aH aP b↔Uu (lF x).bG t gz aH aP b:=by
 have e:∀q,y3 x.bG t aG aH aP q→wc (lF x).bG t gz aH q=wc x.bG t aG aH q:=fun q hq=>by
  unfold wc;rw[(BP h hs).2 hq]
 unfold Uu;constructor
 ·intro hm q hq;have hq':=(BP h hs).1.2 hq;rw[e b hb,e q hq'];exact hm q hq'
 ·intro hm q hq;have:=hm q ((BP h hs).1.1 hq);rw[e b hb,e q hq]at this;exact this
end
theorem QfJ(hx:cD x)(hy:cD (lF x)){s:aQ}:Qdf x r s b↔Qdf (lF x) r s b:=by
 have hA:=BF hx;have WS:(lF x).types=x.types:=rfl;constructor
 ·intro h;have hS:=QcV hx hy h.Qek h.Qh0;have nr:0≤r.aH∧r.aH≤4096:=by
   have:=of_decide_eq_true (wx h.Qek);exact⟨this.2.2.1,this.2.2.2.1⟩
  refine⟨h.aR,by rw[hA.Qc0];exact h.seq,fun v hv=>by rw[hA.VZ];exact h.Qh0 v hv,by rw[hA.Qb0];exact h.fits,by rw[hA.To];exact h.Qek,h.aP,?_,?_,?_⟩
  ·rw[hA.DT];exact(BP hS nr).1.1 h.full
  ·rw[hA.DT];exact(QcE hS nr h.full).1 h.min
  ·rw[hA.DT,(BP hS nr).2 h.full];exact h.dD
 ·intro h;have hp:rq x r=true:=by rw[←hA.To];exact h.Qek
  have ha:∀v∈r.ar,p7 x r v=true:=fun v hv=>by rw[←hA.VZ];exact h.Qh0 v hv
  have hS:=QcV hx hy hp ha;have nr:0≤r.aH∧r.aH≤4096:=by
   have:=of_decide_eq_true (wx hp);exact⟨this.2.2.1,this.2.2.2.1⟩
  have hf:=h.full;have hm:=h.min;have hs:=h.dD;rw[hA.DT]at hf hm hs;have hf':=(BP hS nr).1.2 hf;refine⟨h.aR,by rw[←hA.Qc0];exact h.seq,ha,by rw[←hA.Qb0];exact h.fits,hp,h.aP,hf',(QcE hS nr hf').2 hm,?_⟩
  rw[←(BP hS nr).2 hf'];exact hs
theorem Ql8(hx:cD x)(hy:cD (lF x))(hR:mM r)(h9:Em r)(h:(T7 x r).2=0∨(T7 (lF x) r).2=0):T7 (lF x) r=T7 x r:=by
 have hA:=BF hx;have he:Uk (lF x) r=Uk x r:=by
  rcases h with h|h
  ·obtain⟨_,_,_,_,e5⟩:=Bh hx hR h9;obtain⟨_,b,hE⟩:=e5 (Zm hx hR h9 h);rw[Wy hy hR h9 ((QfJ hx hy).1 hE),hA.QcY,←Wy hx hR h9 hE]
  ·obtain⟨_,_,_,_,e5⟩:=Bh hy hR h9;obtain⟨_,b,hE⟩:=e5 (Zm hy hR h9 h);have hE':=(QfJ hx hy).2 hE;rw[Wy hx hR h9 hE',←hA.QcY,←Wy hy hR h9 hE]
 have e1:=(Bh hx hR h9).1;have e2:=(Bh hy hR h9).1;have:lu (lF x) r=lu x r:=by
  unfold lu;rw[e1,e2,he]
 unfold T7;rw[this]
theorem Xh(hf:u5 x)(hy:cD (lF x)):u5 (lF x):=⟨hy,by rw[(BF hf.ok).len];exact hf.few⟩
theorem DU(hf:u5 x)(hy:cD (lF x)){c:ay}(hR:mM c):(At x c m l↔At (lF x) c m l)∧(At x c m l→NB (lF x) c l=NB x c l):=by
 have key:l.length≤1048576→((T7 x (rW c l)).2=0∨(T7 (lF x) (rW c l)).2=0)→T7 (lF x) (rW c l)=T7 x (rW c l):=fun hl h=>by
  have h8:l.length≤8:=by
   rcases h with h|h
   ·have:=(Qbe hf hR hl h).FU.six hf;omega
   ·have:=(Qbe (Xh hf hy) hR hl h).FU.six (Xh hf hy);omega
  obtain⟨h1,h2⟩:=Qjo hR h8;exact Ql8 hf.ok hy h1 h2 h
 refine⟨⟨fun⟨a1,a2,a3⟩=>⟨a1,by rw[key a1 (.inl a2)];exact a2,a3⟩,fun⟨a1,a2,a3⟩=>⟨a1,by rw[←key a1 (.inr a2)];exact a2,a3⟩⟩,fun⟨a1,a2,a3⟩=>?_⟩
 unfold NB;rw[key a1 (.inl a2)]
theorem Qfw(hf:u5 x)(hy:cD (lF x)){c:ay}(hR:mM c):zR (lF x) c m l k↔zR x c m l k:=by
 constructor
 ·rintro⟨t,h1,h2⟩;have h3:=(DU hf hy hR).1.2 h1;exact⟨t,h3,by rw[h2,(DU hf hy hR).2 h3]⟩
 ·rintro⟨t,h1,h2⟩;exact⟨t,(DU hf hy hR).1.1 h1,by rw[h2,(DU hf hy hR).2 h1]⟩
theorem QeF(hf:u5 x)(hy:cD (lF x)){c:ay}(hR:mM c):CB (lF x) c m=CB x c m:=by
 funext k
 unfold CB;apply propext;split
 ·constructor
  ·rintro⟨h1,h2⟩;have h3:=(DU hf hy hR).1.2 h1;exact⟨h3,by rw[h2,(DU hf hy hR).2 h3]⟩
  ·rintro⟨h1,h2⟩;exact⟨(DU hf hy hR).1.1 h1,by rw[h2,(DU hf hy hR).2 h1]⟩
 ·exact Qfw hf hy hR
theorem Qfs(hf:u5 x)(hy:cD (lF x)){c:ay}(hR:mM c){ba:Int}:EA (lF x) c ba=EA x c ba:=by
 unfold EA Zc;rw[QeF hf hy hR,(BF hf.ok).len];rfl
theorem Yp(hf:u5 x)(hy:cD (lF x)){c:ay}(hR:mM c){fit:Nat→Bool}:∀j,Db (lF x) c fit j=Db x c fit j
 |0=>rfl
 |j+1=>by unfold Db;rw[Yp hf hy hR j,Qfs hf hy hR]
theorem QbK(hf:u5 x)(hy:cD (lF x)):∀k,k≤6→ru (lF x) k=ru x k
 |0,_=>rfl
 |k+1,h=>by
  unfold ru;rw[QbK hf hy k (by omega),Yp hf hy (Qdo (kI6 (by omega))),(BF hf.ok).len]
end
structure ue (o q:af):Prop where
 name:q.name=o.name
 load:q.load=o.load
 bD:q.bD=o.bD
 dA:q.dA=o.dA
 split:q.split=o.split
 last:q.bI=o.bI
 now:q.now=o.now
 pick:q.pick.place=o.pick.place
 drop:q.drop.place=o.drop.place
 Qkz:dY q.pick=dY o.pick
 QjW:dY q.drop=dY o.drop
section
variable {types np bL : Int} {o q : af} {l : List af} {f : af → af} {n : ak} {x : ae}
theorem ue.j5(h:ue o q):fz types q=fz types o:=by
 funext l;unfold fz;rw[h.dA,h.split,h.pick,h.drop,h.last,h.now]
theorem ue.j7(h:ue o q):iL types q=iL types o:=by
 funext l;unfold iL;rw[h.dA,h.split,h.pick,h.drop,h.last,h.now]
theorem ue.j9(h:ue o q):ka types q=ka types o:=by
 funext l;unfold ka;rw[h.dA,h.split,h.pick,h.drop,h.last,h.now]
theorem ue.j11(h:ue o q):jm types q=jm types o:=by
 funext l;unfold jm;rw[h.dA,h.split,h.pick,h.drop,h.last,h.now]
theorem ue.j6(h:ue o q):dI types q=dI types o:=by
 funext l;unfold dI;rw[h.bD,h.j7]
theorem ue.j10(h:ue o q):jl types q=jl types o:=by
 funext l;unfold jl;rw[h.bD,h.j11]
theorem ue.j4(h:ue o q):eX types q=eX types o:=by
 funext l;unfold eX;rw[h.Qkz,h.QjW,h.bD,h.j5,h.j6]
theorem ue.j8(h:ue o q):j_ types q=j_ types o:=by
 funext l;unfold j_;rw[h.Qkz,h.QjW,h.bD,h.j9,h.j10]
theorem ue.j3(h:ue o q):dT types q=dT types o:=by
 funext l;unfold dT;rw[h.pick,h.drop,h.j4]
theorem ue.j2(h:ue o q):dq np types q=dq np types o:=by
 funext l;unfold dq;rw[h.pick,h.drop,h.j3,h.j8]
theorem YM{α β:Type}{l:List α}{f:α→β}{i:Int}:bq (l.map f) i=(bq l i).map f:=by
 unfold bq;split
 ·rw[List.getElem?_map]
 ·rfl
theorem Qb4{α:Type}{l:List α}{i:Int}{a:α}(h:bq l i=some a):a∈l:=by
 unfold bq at h;split at h
 ·exact List.mem_of_getElem? h
 ·cases h
theorem Qez(hf:∀o∈l,ue o (f o))(i:Int):fX np bL types (l.map f) i=fX np bL types l i:=by
 have h1:∀(o:af),ue o (f o)→∀l1,fy np bL types (l.map f) i (f o) l1=fy np bL types l i o l1:=fun o h l1=>by
  unfold fy;have e:(fun s=>dk np bL types (l.map f) i (f o) l1 s)=fun s=>dk np bL types l i o l1 s:=by
   funext s
   unfold dk;rw[YM,h.name];cases hg:bq l s with
   |none=>simp only[Option.map_none,zQ]
   |some a =>
    rw[Option.map_some,ai,ai,(hf a (Qb4 hg)).name]
  rw[e,h.load,h.j2]
 unfold fX;rw[YM];cases hg:bq l i with
 |none=>simp only[Option.map_none,zQ]
 |some o =>
  have h:=hf o (Qb4 hg);rw[Option.map_some,ai,ai,h.name,h1 o h,h1 o h]
theorem Ym(hf:∀o∈l,ue o (f o)):fJ n bL types (l.map f)=fJ n bL types l:=by
 have hl:aC (l.map f)=aC l:=by unfold aC;rw[List.length_map]
 have e:∀l1,fV n bL types (l.map f) l1=fV n bL types l l1:=fun l1=>by
  unfold fV;have e:(fun s:List aa×Int=>eD n bL types (l.map f) s.1 s.2)=fun s=>eD n bL types l s.1 s.2:=by
   funext s
   unfold eD;rw[hl,Qez hf];rfl
  rw[e]
 unfold fJ;rw[hl,e,e]
theorem ZR(hx:cD x)(ho:o∈x.ah):ue o (qo x o):=by
 have hO:=hx.ord o ho;have hk:=KH hx ho;have w:∀s:aM,IQ x.bG.aD.length s→dY (Hf x o s)=dY s:=fun s hs=>by
  have hT:=(vC hx ho hs).2.2;rcases hT.cases with⟨e,_⟩|⟨h0,h1,h2,h3,h4,_,_⟩
  ·rw[e]
  ·have hp:=hT.place;have hv:=hT.bz;generalize Hf x o s=r at *;rcases hs with⟨hq,_⟩|⟨q0,q1,q2,q3,q4,q5,q6⟩
   ·omega
   ·unfold dY;rw[a_ (by simp only[T9,xC];omega),a_ (by simp only[Ql,jG,nq];omega),a_ (by simp only[T9,xC];omega),a_ (by simp only[Ql,jG,nq];omega)]
 unfold qo;split
 ·exact⟨rfl,rfl,rfl,rfl,rfl,rfl,rfl,rfl,rfl,rfl,rfl⟩
 ·exact⟨rfl,rfl,rfl,rfl,rfl,rfl,rfl,(vC hx ho hO.pick).2.2.place,(vC hx ho hO.drop).2.2.place,w _ hO.pick,w _ hO.drop⟩
theorem Yn(hx:cD x):dg (Hg x)=dg x:=by
 have e1:∀d t,fJ x.bG d t (x.ah.map (qo x))=fJ x.bG d t x.ah:=fun d t=>Ym fun o ho=>ZR hx ho
 have e2:aC (x.ah.map (qo x))=aC x.ah:=by unfold aC;rw[List.length_map]
 show aS (jM x.bG) (fun r=>aS (gh p5 r) fun r1=>aS (k_ x.bG x.types) fun r2=>aS (jO yM r2) fun r3=>eH (e_ (r1++r3).length 24) (aS (kJ x.types) fun r4=>aS (fJ x.bG r4 (aC x.types) (x.ah.map (qo x))) fun r5=>aS (jO wA r5) fun r6=>eH (e_ ((r1++r3)++r6).length 24) (aS (ld (aC (x.ah.map (qo x))) x.db x.before) fun r7=>aS (jO yL r7) fun r8=>eH (e_ (((r1++r3)++r6)++r8).length 24) (some (((r1++r3)++r6)++r8)))))=_
 rw[e2];simp only[e1];rfl
theorem QcO{p:aw→Bool}:∀k,OU (MC n p) k=OU n k
 |0=>rfl
 |k+1=>by unfold OU;rw[QcO k];rfl
theorem QbN:∀k,Nx n k=[]→∀i,i<k→arE n i=[]
 |0,_,i,h=>by omega
 |k+1,h,i,hi=>by
  unfold Nx at h;obtain⟨h1,h2⟩:=List.append_eq_nil_iff.1 h;rcases Nat.lt_or_ge i k with h3|h3
  ·exact QbN k h1 i h3
  ·rw[show i=k by omega];exact h2
theorem Qfl:∀k,(∀i,i<k→arE n i=[])→Nx n k=[]
 |0,_=>rfl
 |k+1,h=>by
  unfold Nx;rw[Qfl k fun i hi=>h i (by omega),h k (by omega)];rfl
theorem X_{a:aw}{kn:Bool}{tr:List aa}:Rl n a kn tr=[]↔inA n a=true∧Sj a=false∧kn=false∧tr=[]∧Pk a.eU=[]:=by
 unfold Rl Wk;simp only[List.append_eq_nil_iff];cases inA n a <;> cases Sj a <;> cases kn <;> simp
theorem KF{α:Type}{p:α→Bool}:∀(l:List α) (i:Nat) (a:α),(l.filter p)[i]?=some a→∃j,l[j]?=some a∧∀b∈(l.filter p).take i,b∈l.take j
 | [],i,a,h=>by simp at h
 |c ::l,i,a,h=>by
  by_cases hc:p c=true
  ·rw[List.filter_cons_of_pos hc]at h ⊢;cases i with
   |zero=>exact⟨0,by simpa using h,fun b hb=>by simp at hb⟩
   |succ i =>
    simp only[List.getElem?_cons_succ]at h;obtain⟨j,h1,h2⟩:=KF l i a h;refine⟨j+1,by simpa using h1,fun b hb=>?_⟩
    rw[List.take_succ_cons]at hb ⊢;rcases List.mem_cons.1 hb with e|e
    ·rw[e];exact List.mem_cons_self ..
    ·exact List.mem_cons_of_mem _ (h2 b e)
  ·rw[List.filter_cons_of_neg hc]at h ⊢;obtain⟨j,h1,h2⟩:=KF l i a h;refine⟨j+1,by simpa using h1,fun b hb=>?_⟩
   rw[List.take_succ_cons];exact List.mem_cons_of_mem _ (h2 b hb)
theorem QgU{p:aw→Bool}(h:Qg n=[]):Qg (MC n p)=[]:=by
 have hle:(n.bj.filter p).length≤n.bj.length:=List.length_filter_le ..;unfold Qg at h ⊢;simp only[List.append_eq_nil_iff]at h ⊢;obtain⟨⟨h1,h2⟩,h3,h4⟩:=h;refine⟨⟨h1,?_⟩,?_,?_⟩
 ·rw[QcO];exact h2
 ·rw[if_neg];intro hgt;rw[if_pos (show n.bj.length>1024 by have:(n.bj.filter p).length>1024:=hgt;omega)]at h3
  cases h3
 ·refine Qfl _ fun i hi=>?_
  unfold arE;cases he:(MC n p).bj[i]? with
  |none=>rfl
  |some a =>
   obtain⟨j,j1,j2⟩:=KF n.bj i a he;have hj:=(List.getElem?_eq_some_iff.1 j1).1;have hA:=QbN _ h4 j hj;unfold arE at hA;rw[j1]at hA;simp only[List.map_eq_nil_iff]at hA ⊢;obtain⟨g1,g2,g3,g4,g5⟩:=X_.1 hA;refine X_.2 ⟨g1,g2,?_,g4,g5⟩;unfold knA at g3 ⊢;rw[List.any_eq_false]at g3 ⊢;exact fun b hb=>g3 b (j2 b hb)
theorem Qi6(hI:BI x)(hF:Rj x)(h:dg x=some []):Qg x.bG=[]:=by
 have n2:=(K1 hI.bG NW hF.aD hF.bj hF.dM).2;obtain⟨r,hr,hE⟩:=zE (n:=x.bG) hI.bG;rw[n2]at hr;cases hr;have l1:=hE.S7;have h5:=hI.bG.bj;have s1:∀f∈Qg x.bG,f.di.size≤64:=hE.sms;obtain⟨v1,hv1,j1⟩:=(tf (word:=p5) (show 3≤20 by omega) (by omega) s1:post (gh p5 _) _)
 have QlM:gh p5 (Qg x.bG)=some v1:=hv1;unfold dg at h;rw[n2,ai,QlM,ai]at h;obtain⟨r2,_,h⟩:=uD h;obtain⟨r3,_,h⟩:=uD h;obtain⟨r4,_,h⟩:=uD (NT h).2;obtain⟨r5,_,h⟩:=uD h;obtain⟨r6,_,h⟩:=uD h;obtain⟨r7,_,h⟩:=uD (NT h).2;obtain⟨r8,_,h⟩:=uD h;have h9:=Option.some.inj (NT h).2;simp only[List.append_eq_nil_iff]at h9;have hv:v1=[]:=h9.1.1.1;rw[hv]at j1;exact List.eq_nil_of_length_eq_zero j1.symm
theorem Qdv{p:aw→Bool}(hI:BI x)(hF:Rj x)(hx:cD x)(h:dg x=some []):dg (ae.mk (MC x.bG p) x.types x.ah x.db x.before)=some []:=by
 have QnB:Qg x.bG=[]:=Qi6 hI hF h;have n2:=(K1 hI.bG NW hF.aD hF.bj hF.dM).2;have hI':Mw (MC x.bG p):=⟨hI.bG.aD,Nat.le_trans (List.length_filter_le ..) hI.bG.bj,hI.bG.names,fun a ha=>hI.bG.Qdl a (List.mem_filter.1 ha).1⟩
 have m2:=(K1 hI' NW hF.aD (Nat.le_trans (List.length_filter_le ..) hF.bj) (fun a ha=>hF.dM a (List.mem_filter.1 ha).1)).2
 rw[QgU QnB]at m2;rw[QnB]at n2;unfold dg at h ⊢;rw[n2]at h;show aS (jM (MC x.bG p)) _=_;rw[m2];exact h
end
section
variable {x : ae}
def Qe8(l:List Bool)(v:Int):Prop:=∀y:ae,y.ah.map (·.off)=l→xH y=some v∧yk y=some v
theorem QkS:Qe8 [] 0:=fun y h=>by
 obtain⟨n,t,o,u,v⟩:=y;have:o=[]:=List.map_eq_nil_iff.1 h;subst this;exact⟨by kernel_rfl,by kernel_rfl⟩
theorem QkT(p:Bool):∃v,Qe8 [p] v:=by
 cases p
 ·refine⟨1,fun y h=>?_⟩
  obtain⟨n,t,o,u,v⟩:=y;obtain _|⟨a,_|⟨b,o⟩⟩:=o <;> simp at h
  obtain⟨a1,a2,a3,a4,a5,a6,a7,a8,a9,a10⟩:=a;simp at h;subst h;exact⟨by kernel_rfl,by kernel_rfl⟩
 ·refine⟨0,fun y h=>?_⟩
  obtain⟨n,t,o,u,v⟩:=y;obtain _|⟨a,_|⟨b,o⟩⟩:=o <;> simp at h
  obtain⟨a1,a2,a3,a4,a5,a6,a7,a8,a9,a10⟩:=a;simp at h;subst h;exact⟨by kernel_rfl,by kernel_rfl⟩
theorem QkU(p q:Bool):∃v,Qe8 [p,q] v:=by
 refine⟨(if p then 0 else 1)+(if q then 0 else 2),fun y h=>?_⟩
 obtain⟨n,t,o,u,v⟩:=y;obtain _|⟨a,_|⟨b,_|⟨c,o⟩⟩⟩:=o <;> simp at h
 obtain⟨a1,a2,a3,a4,a5,a6,a7,a8,a9,a10⟩:=a;obtain⟨b1,b2,b3,b4,b5,b6,b7,b8,b9,b10⟩:=b;obtain⟨rfl,rfl⟩:=h;cases a10 <;> cases b10 <;> exact⟨by kernel_rfl,by kernel_rfl⟩
theorem QkV(p q r:Bool):∃v,Qe8 [p,q,r] v:=by
 refine⟨(if p then 0 else 1)+(if q then 0 else 2)+(if r then 0 else 4),fun y h=>?_⟩
 obtain⟨n,t,o,u,v⟩:=y;obtain _|⟨a,_|⟨b,_|⟨c,_|⟨d,o⟩⟩⟩⟩:=o <;> simp at h
 obtain⟨a1,a2,a3,a4,a5,a6,a7,a8,a9,a10⟩:=a;obtain⟨b1,b2,b3,b4,b5,b6,b7,b8,b9,b10⟩:=b;obtain⟨c1,c2,c3,c4,c5,c6,c7,c8,c9,c10⟩:=c;obtain⟨rfl,rfl,rfl⟩:=h;cases a10 <;> cases b10 <;> cases c10 <;> exact⟨by kernel_rfl,by kernel_rfl⟩
theorem Qdk:∀l:List Bool,l.length≤3→∃v,Qe8 l v
 | [],_=>⟨0,QkS⟩
 | [p],_=>QkT p
 | [p,q],_=>QkU p q
 | [p,q,r],_=>QkV p q r
 |_ ::_ ::_ ::_ ::_,h=>by simp at h
def Vt(l:List al)(v:Int):Int:=l.foldl (fun s c=>wG .i64 s c.ba) v
theorem Vu{l:List al}(hl:l.length≤1048576){v:Int}{B:Int×Int→Option ((Int×Int)⊕Int)}(hB:∀(i:Nat) (c:al) (s:Int),l[i]?=some c→B (s,(i:Int))=some (.inl (wG .i64 s c.ba,(i:Int)+1)))(he:∀s,B (s,(l.length:Int))=some (.inr s)):aK B (v,0)=some (Vt l v):=by
 have:=dj l.length (fun i=>(Vt (l.take i) v,(i:Int))) (B:=B) (e:=Vt l v) (by omega) (fun i hi=>by
  have e:l[i]?=some l[i]:=List.getElem?_eq_getElem hi;rw[hB i l[i] _ e];congr 2;rw[Prod.mk.injEq];refine⟨?_,by omega⟩
  unfold Vt;rw[MD e]) (by
  rw[List.take_length];exact he _)
 simpa [Vt]using this
theorem QX(hf:u5 x){v:Int}(h:xH x=some v):nV x=some (Vt (ru x x.types.length) v):=by
 have h6:=hf.ok.types;have hlen:=IT hf x.types.length;unfold nV;rw[Ye hf,ai,h,ai,bY (Vu (B:=fun s:Int×Int=>jw (ru x x.types.length,0) s.1 s.2) (l:=ru x x.types.length) (by omega) (fun i c s e=>by
  show jw (ru x x.types.length,0) s (i:Int)=_;unfold jw;rw[cB e,gP e (by omega)]) (fun s=>by
  show jw (ru x x.types.length,0) s ((ru x x.types.length).length:Int)=_;unfold jw;rw[bW]))]
theorem Qaq{l:List al}(hl:l.length≤1048576)(h:∀c∈l,Qe9 c):pM l l=some true:=by
 unfold pM;rw[a_ (by simp),bY (Qes (B:=fun s=>gB l l s) (l:=l) hl (fun i a e=>by
  show gB l l i=_;unfold gB;rw[cB e,bt e,ai,Qmd (h a (List.mem_of_getElem? e)),ai,dc,gP e hl]) (by
  show gB l l l.length=_;unfold gB;rw[bW])),en]
theorem QeK:(Hg x).ah.map (·.off)=x.ah.map (·.off):=by
 show(x.ah.map (qo x)).map (·.off)=_;rw[List.map_map];refine List.map_congr_left fun o _=>?_
 show(qo x o).off=o.off;unfold qo;split <;> rfl
theorem Qep(hI:BI x)(hF:Rj x)(hx:cD x)(h:dg x=some []):rj x=some (lF x,0)∧dg (lF x)=some []∧cD (lF x):=by
 have h1:dg (Hg x)=some []:=by rw[Yn hx];exact h
 have hIt:=QjG hI;have hFt:=QjF hF;have key:∀{y:ae},BI y→Rj y→dg y=some []→oU y=some true∧cD y:=fun{y} i1 i2 i3=>by
  obtain⟨b,b1,⟨rr,b2,b3⟩,b4⟩:=Qhb i1 i2;rw[i3]at b2;cases b2;have:b=true:=by rw[b3];rfl
  subst this;exact⟨b1,b4 rfl⟩
 obtain⟨r1,_⟩:=key hI hF h;obtain⟨r2,hxt⟩:=key hIt hFt h1;have h2:dg (lF x)=some []:=Qdv (p:=Vs (Hg x)) hIt hFt hxt h1;have hF2:Rj (lF x):=⟨hFt.aD,Nat.le_trans (List.length_filter_le ..) hFt.bj,fun a ha=>hFt.dM a (List.mem_filter.1 ha).1,hFt.types,hFt.ah⟩
 obtain⟨_,hxr⟩:=key (QkY hIt) hF2 h2;refine⟨?_,h2,hxr⟩;unfold rj;rw[Qbx hx hF r1,ai,a_ (show cA (0:Int) 0=false by decide),Qdm hxt r2,ai]
 rfl
theorem La(hI:BI x):m8 x=some true:=by
 unfold m8;rw[Qh3];obtain⟨b,h1,h2⟩:=Qav hI;rw[h1,ai];cases b with
 |false=>rfl
 |true =>
  have h3:=h2 rfl;have hF:=h3.Qpc;obtain⟨rr,hr,hP⟩:=NS hI;rw[bl rfl,hr,ai];cases rr with
  |cons f l=>rw[bl (by simp [aC])];rfl
  |nil =>
   have hx:=hP rfl;obtain⟨g1,g2,g3⟩:=Qep hI hF hx hr;have hf:u5 x:=⟨hx,h3.ah⟩;have hf':=Xh hf g3;have h6:=hx.types;have hlen:=IT hf x.types.length;obtain⟨v,hv⟩:=Qdk (x.ah.map (·.off)) (by rw[List.length_map];exact h3.ah)
   obtain⟨v1,v2⟩:=hv x rfl;obtain⟨v3,_⟩:=hv (lF x) QeK;have ha:ru (lF x) (lF x).types.length=ru x x.types.length:=QbK hf g3 _ h6;have e1:=QX hf v1;have e2:=QX hf' v3;rw[ha]at e2;have e3:=O4 hf';rw[ha]at e3;rw[a_ (show cQ (aC ([]:List aa)) 0=false by decide),g1,ai,a_ (show cA (0:Int) 0=false by decide),g2,ai,a_ (show cQ (aC ([]:List aa)) 0=false by decide),O4 hf,ai,e3,ai,v2,ai]
   rw[bY (Vu (v:=v) (B:=fun s:Int×Int=>eP x (lF x,0) (ru x x.types.length,0) (ru x x.types.length,0) s.1 s.2) (l:=ru x x.types.length) (by omega) (fun i c s e=>by
    show eP x (lF x,0) (ru x x.types.length,0) (ru x x.types.length,0) s (i:Int)=_;unfold eP;rw[cB e,gP e (by omega)]) (fun s=>by
    show eP x (lF x,0) (ru x x.types.length,0) (ru x x.types.length,0) s ((ru x x.types.length).length:Int)=_;unfold eP;rw[bW]))]
   rw[Qaq (by omega) (Yo hf _ h6),ai,dc,e1,ai,bl (by simp),e2,ai,bl (by simp)]
   rfl
end
end
end Go.Proofs.YtbilkblifgaflaaGreatDoor
