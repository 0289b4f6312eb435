/- Part MY. -/
import Derived.Test.YtbilkblifgaflaaGreatDoorMP
import Derived.Test.YtbilkblifgaflaaGreatDoorMR
import Derived.Test.YtbilkblifgaflaaGreatDoorMQ
import Derived.Test.YtbilkblifgaflaaGreatDoorMX
set_option linter.unusedSimpArgs false
set_option linter.unusedVariables false
set_option linter.unusedSectionVars false
namespace Go.Proofs.YtbilkblifgaflaaGreatDoor
noncomputable section
theorem Pz(s:ByteArray):∀(k i:Nat) (r:List UInt8),s.size-i=k→(ByteArray.toList.loop s i r).length=r.length+k:=by
 intro k;induction k with
 |zero =>
  intro i r h;unfold ByteArray.toList.loop;rw[if_neg (by omega)]
  simp
 |succ k ih =>
  intro i r h;unfold ByteArray.toList.loop;rw[if_pos (by omega),ih (i+1) _ (by omega)]
  simp;omega
theorem Lg(s:ByteArray):s.toList.length=s.size:=by
 unfold ByteArray.toList;rw[Pz s s.size 0 [] (by omega)]
 simp
theorem MO(s:ByteArray):ue s=fe s:=by
 have e:(qn s ByteArray.empty||bU (rh s) 16)=(aS (rh s) 1||bU (rh s) 16):=by
  congr 1;rw[Bool.eq_iff_iff,ik];unfold qn rh;rw[beq_iff_eq];have hl:=Lg s;have he:ByteArray.empty.toList=[]:=List.eq_nil_of_length_eq_zero (by rw[Lg];rfl)
  rw[he];constructor
  ·intro h;rw[h]at hl;simp at hl;omega
  ·intro h;exact List.eq_nil_of_length_eq_zero (by omega)
 unfold ue fe;rw[e];rfl
section
variable {K V : Type} {eq : K → K → Bool}
theorem Sr(he:∀a b,eq a b=true↔a=b){m:List (K×V)}{k k':K}{v z:V}:oH eq (sw eq m k v) k' z=bif eq k' k then v else oH eq m k' z:=by
 induction m with
 |nil=>rfl
 |cons p r ih =>
  unfold sw;cases h1:eq k p.1 with
  |true =>
   have h1':=(he _ _).1 h1;unfold oH;simp only[cond_true,h1'];cases eq k' p.1 <;> rfl
  |false =>
   show oH eq (p ::sw eq r k v) k' z=_;unfold oH;cases h2:eq k' p.1 with
   |true =>
    have h2':=(he _ _).1 h2;have:eq k' k=false:=by
     cases h3:eq k' k with
     |false=>rfl
     |true =>
      have:=(he _ _).1 h3;rw[←this,h2']at h1;rw[(he _ _).2 rfl]at h1;cases h1
    rw[this];rfl
   |false =>
    simp only[cond_false];exact ih
theorem OY(he:∀a b,eq a b=true↔a=b){α:Type}(f:α→K)(l:List α):∀k:K,oH eq (l.foldl (fun m a=>sw eq m (f a) true) []) k false=l.any fun a=>eq k (f a):=by
 have key:∀(l:List α) (m:List (K×Bool)) (k:K),oH eq (l.foldl (fun m a=>sw eq m (f a) true) m) k false=(oH eq m k false||l.any fun a=>eq k (f a)):=by
  intro l;induction l with
  |nil=>intro m k;simp
  |cons a r ih =>
   intro m k;rw[List.foldl_cons,ih,Sr he,List.any_cons];cases eq k (f a)with
   |true=>simp
   |false=>simp
 intro k;rw[key];rfl
end
theorem QP(a b:ByteArray):KD a b=true↔a=b:=by
 cases a with
 |mk x =>
  cases b with
  |mk y =>
   show(x == y)=true↔_;rw[beq_iff_eq,ByteArray.mk.injEq]
theorem Yg(a b:aE):aE.Nx a b=true↔a=b:=by
 cases a;cases b;simp [aE.Nx,aE.mk.injEq]
section
variable {α β : Type}
theorem QI{p:Prop} [Decidable p] {x:Option α}{K:α→Option β}:aG (dr p x) K=dr p (aG x K):=by unfold dr;split <;> rfl
theorem uq{K:α→Option β}:aG none K=none:=rfl
theorem zH{b:Bool}{x y:Option α}:br (!b) x y=br b y x:=by cases b <;> rfl
theorem tE{o:Option α}{f g:α→Option β}(h:∀a,f a=g a):aG o f=aG o g:=by cases o with|none=>rfl|some a=>exact h a
theorem Nc{l:List α}{i:Nat}(hi:i≤l.length):wa l 0 (i:Int)=some (l.take i):=by unfold wa;rw[if_pos (by omega)];simp
theorem RK{l:List α}{i k:Nat}{a:α}(h:(l.take i)[k]?=some a):k<i∧l[k]?=some a:=by
 have hk:=(List.getElem?_eq_some_iff.1 h).1;rw[List.length_take]at hk;rw[List.getElem?_take,if_pos (by omega)]at h
 exact⟨by omega,h⟩
end
section
variable {r b : Bool} {e : Int} {c : List Int} {K J : List Int → Option (List Int)} {β : Type}
theorem Tt:aG (a_ b e c) K=br b (K c) (dr (d_ (c++[e]).length 8) (K (c++[e]))):=by
 unfold a_;cases b with
 |true=>rfl
 |false=>rw[cP,cP,QI,ax]
theorem FA(hK:∀c,K c=J c):aG (a_ b e c) K=br b (J c) (dr (d_ (c++[e]).length 8) (J (c++[e]))):=by rw[Tt,hK,hK]
theorem Wn(hK:∀c,K c=J c):aG (a_ (!b) e c) K=br b (dr (d_ (c++[e]).length 8) (J (c++[e]))) (J c):=by rw[Tt,hK,hK,zH]
theorem Jf(hK:∀c,K c=J c):aG (a_ false e c) K=dr (d_ (c++[e]).length 8) (J (c++[e])):=by rw[Tt,hK,hK,cP]
theorem JW{n lo hi:Int}{K J:Bool→Option β}(h:∀b,K b=J b):aG (bI n lo hi) K=aG (bp n lo hi) J:=h _
theorem Tx{b:Bool}{n lo hi:Int}(hK:∀c,K c=J c):br b (aG (bI n lo hi) fun r=>aG (a_ r e c) K) (aG (a_ false e c) K)=br b (aG (bp n lo hi) fun r=>br r (J c) (dr (d_ (c++[e]).length 8) (J (c++[e])))) (dr (d_ (c++[e]).length 8) (J (c++[e]))):=by
 cases b with
 |true=>rw[de,de];exact JW fun b=>FA hK
 |false=>rw[cP,cP];exact Jf hK
end
theorem VG{l:List ag}{t:ag}(hl:l.length≤1048576):cg l t=some (l.any fun a=>qn a.name t.name):=by
 unfold cg dn;have:=Jd hl (fun a:ag=>qn a.name t.name) (fun k=>(.inr (k:Int):Unit⊕Int)) (N:=.inl ()) (B:=fun s=>bs l t s) (fun i a h=>by
  show bs l t i=_;unfold bs rI;rw[jq h,ax,vQ h hl,QJ]) (by
  show bs l t l.length=_;unfold bs;rw[hZ])
 rw[eg this,←I7];unfold Ye;cases Rh (fun a:ag=>qn a.name t.name) l <;> rfl
theorem P0{l:List ag}{i:Nat}{s:ByteArray}(hi:i≤l.length)(hl:l.length≤1048576):jh l (i:Int) s=some ((l.take i).any fun a=>qn a.name s):=by
 have hlen:(l.take i).length=i:=by rw[List.length_take];omega
 unfold jh;rw[eg (qg (B:=fun x=>cX l (i:Int) s x) (l:=l.take i) (by omega) (fun a=>qn a.name s) (y:=(.inr true:Unit⊕Bool)) (N:=.inl ()) (fun k a h=>by
  obtain⟨h1,h2⟩:=RK h;show cX l (i:Int) s (k:Int)=_;unfold cX;rw[bu (by simp;omega),ba h2,ax,vQ h2 hl,QJ]) (by
  rw[hlen];show cX l (i:Int) s (i:Int)=_;unfold cX;rw[bm (by simp)]))]
 cases(l.take i).any fun a=>qn a.name s <;> rfl
theorem XB{c d:List Int}(hc:c.length≤1048576):mK c d=fr c (aB d):=by
 unfold mK fr;refine JW fun b=>?_
 have h1:c9 c=some (c.any fun n=>!(bP n 0&&kP n 1000)):=by
  unfold c9 eG;have:=Jd hc (fun n:Int=>!(bP n 0&&kP n 1000)) (fun k=>(.inr (k:Int):Unit⊕Int)) (N:=.inl ()) (B:=fun s=>bL c s) (fun i a h=>by
   show bL c i=_;unfold bL pg bI;rw[jq h,ax,ax,vQ h hc,QJ]) (by
   show bL c c.length=_;unfold bL;rw[hZ])
  rw[eg this,←I7];unfold Ye;cases Rh (fun n:Int=>!(bP n 0&&kP n 1000)) c <;> rfl
 have h2:aF (fun s=>b0 c s) 0=some (if(c.any fun n=>!(bP n 0&&kP n 1000))=true then(.inr false:Unit⊕Bool)else .inl ()):=qg (B:=fun s=>b0 c s) hc (fun n=>!(bP n 0&&kP n 1000)) (fun i a h=>by
  show b0 c i=_;unfold b0 bp;rw[jq h,ax,vQ h hc];cases(bP a 0&&kP a 1000) <;> rfl) (by
  show b0 c c.length=_;unfold b0;rw[hZ])
 rw[h1,ax,eg h2];cases c.any fun n=>!(bP n 0&&kP n 1000) <;> rfl
theorem UQ{n:ah}{l:List ag}(hl:l.length≤1048576)(hI:∀t∈l,t.cap.length≤1048576)(i:Int):rH n l i=gu n l i:=by
 unfold rH gu;cases hg:a4 l i with
 |none=>rfl
 |some t =>
  obtain⟨k,rfl⟩:∃k:Nat,i=k:=by
   unfold a4 at hg;split at hg
   ·exact⟨i.toNat,by omega⟩
   ·cases hg
  have hk:l[k]?=some t:=by
   unfold a4 at hg;rw[if_pos (by omega),Int.toNat_natCast]at hg
   exact hg
  have hkl:=(List.getElem?_eq_some_iff.1 hk).1;have Mv:=hI t (List.mem_of_getElem? hk);obtain⟨t0,ht0⟩:∃t0,l[0]?=some t0:=⟨_,List.getElem?_eq_getElem (show 0<l.length by omega)⟩
  have hd:gX l=some (aB t0.cap):=by
   rw[F1];cases l with
   |nil=>simp at ht0
   |cons a r=>simp at ht0;subst ht0;rfl
  rw[ax,ax,MO];refine tE fun r=>FA (J:=fun c=>ft n l (k:Int) t c) fun c=>?_
  unfold ft;rw[Nc (by omega),ax,VG (by rw[List.length_take];omega),ax,P0 (by omega) hl,ax]
  refine Wn (J:=fun c=>fu n l t c) fun c=>?_
  unfold fu;refine JW fun b=>FA (J:=fun c=>fv n l t c) fun c=>?_
  unfold fv;refine JW fun b=>Tx (J:=fun c=>fw l t c) fun c=>?_
  unfold fw;rw[show a4 l 0=some t0 from ba (k:=0) ht0,ax,hd,ax,XB Mv];refine tE fun r=>FA (J:=fun c=>fx t c) fun c=>?_
  unfold fx;refine JW fun b=>FA (J:=fun c=>fy t c) fun c=>?_
  unfold fy;refine JW fun b=>?_
  have hb:((!b)||bU t.aQ 4096)=!(b&&kP t.aQ 4096):=by
   rw[Bool.not_and];congr 1;rw[Bool.eq_iff_iff,qS,Bool.not_eq_true',Is]
  rw[hb,zH];refine FA (J:=fun c=>fz t c) fun c=>?_
  unfold fz;refine JW fun b=>Tx (J:=fun c=>fA t c) fun c=>?_
  unfold fA;refine JW fun b=>?_
  cases b with
  |false=>rw[cP,cP];exact Jf (J:=fun c=>some c) fun c=>rfl
  |true =>
   rw[de,de];refine JW fun b=>?_
   cases b with
   |false=>rw[cP,cP];exact Jf (J:=fun c=>some c) fun c=>rfl
   |true =>
    rw[de,de];refine JW fun b=>?_
    cases b with
    |false=>rw[cP,cP];exact Jf (J:=fun c=>some c) fun c=>rfl
    |true =>
     rw[de,de];exact JW fun b=>FA (J:=fun c=>some c) fun c=>rfl
theorem XD:∀b:Nat,b<10→∀a:Nat,a<10→jL ((10*b+a:Nat):Int)=bV ((10*b+a:Nat):Int):=by decide +kernel
theorem QM(i:Nat)(h:i<100):jL (i:Int)=bV (i:Int):=by
 have:=XD (i / 10) (by omega) (i % 10) (by omega)
 rwa [show 10*(i / 10)+i % 10=i by omega]at this
theorem O9{i:Int}(h0:0≤i)(h1:i<100):jy i=bV i:=by
 obtain⟨k,rfl⟩:∃k:Nat,i=k:=⟨i.toNat,by omega⟩
 unfold jy;rw[QM k (by omega)]
 cases bV (k:Int) <;> rfl
theorem Pa{n:ah}{l:List ag}(hl:l.length≤100)(hI:∀t∈l,t.cap.length≤1048576):qR n l=ib n l:=by
 have hB:∀s:List aa×Int,mI n l s.1 s.2=ed n l s.1 s.2:=fun s=>by
  unfold mI ed;rw[UQ (by omega) hI]
  cases hb:aS s.2 (aB l)with
  |false=>rw[cP,cP]
  |true =>
   rw[de,de];cases hr:gu n l s.2 with
   |none=>rw[uq,uq]
   |some r =>
    rw[ax,ax];have h0:0≤s.2:=by
     unfold gu at hr;obtain⟨a,ha,_⟩:=pZ hr;unfold a4 at ha;split at ha
     ·assumption
     ·cases ha
    rw[ik,aB]at hb;have hf:∀q:List aa×Int,mJ n l s.2 r q.1 q.2=iR n l s.2 r q.1 q.2:=fun q=>by
     unfold mJ iR;rw[O9 h0 (by omega)]
    rw[show(fun q:List aa×Int=>mJ n l s.2 r q.1 q.2)=fun q=>iR n l s.2 r q.1 q.2 from funext hf]
 have hJ:∀l1,mH n l l1=gJ n l l1:=fun l1=>by
  unfold mH gJ;rw[show(fun s:List aa×Int=>mI n l s.1 s.2)=fun s=>ed n l s.1 s.2 from funext hB]
 unfold qR ib;rw[hJ,hJ];rfl
section
variable {r b : Bool} {e : Int} {c : List Int} {K J : List Int → Option (List Int)} {β : Type}
theorem NL:aG (bk b e c) K=br b (K c) (dr (d_ (c++[e]).length 8) (K (c++[e]))):=by
 unfold bk;cases b with
 |true=>rfl
 |false=>rw[cP,cP,QI,ax]
theorem H7(hK:∀c,K c=J c):aG (bk b e c) K=br b (J c) (dr (d_ (c++[e]).length 8) (J (c++[e]))):=by rw[NL,hK,hK]
theorem Nf(hK:∀c,K c=J c):aG (bk false e c) K=dr (d_ (c++[e]).length 8) (J (c++[e])):=by rw[NL,hK,hK,cP]
theorem Yb{n lo hi:Int}{K J:Bool→Option β}(h:∀b,K b=J b):aG (eQ n lo hi) K=aG (c_ n lo hi) J:=h _
theorem XA{b:Bool}{n lo hi:Int}(hK:∀c,K c=J c):br b (aG (eQ n lo hi) fun r=>aG (bk r e c) K) (aG (bk false e c) K)=br b (aG (c_ n lo hi) fun r=>br r (J c) (dr (d_ (c++[e]).length 8) (J (c++[e])))) (dr (d_ (c++[e]).length 8) (J (c++[e]))):=by
 cases b with
 |true=>rw[de,de];exact Yb fun b=>H7 hK
 |false=>rw[cP,cP];exact Nf hK
end
theorem TO{l:List ab}{t:ab}(hl:l.length≤1048576):bO l t=some (l.any fun a=>qn a.name t.name):=by
 unfold bO da;have:=Jd hl (fun a:ab=>qn a.name t.name) (fun k=>(.inr (k:Int):Unit⊕Int)) (N:=.inl ()) (B:=fun s=>bl l t s) (fun i a h=>by
  show bl l t i=_;unfold bl sG;rw[jq h,ax,vQ h hl,QJ]) (by
  show bl l t l.length=_;unfold bl;rw[hZ])
 rw[eg this,←I7];unfold Ye;cases Rh (fun a:ab=>qn a.name t.name) l <;> rfl
theorem SK{a:List Int}{bt:Int}(ha:a.length≤1048576):qU a bt=ia a bt:=by
 have h1:aF (fun s=>iK a bt s) 0=some (if(a.any fun n=>aS n 0||bU n 1000)=true then(.inr false:Unit⊕Bool)else .inl ()):=qg (B:=fun s=>iK a bt s) ha (fun n=>aS n 0||bU n 1000) (fun i x h=>by
  show iK a bt i=_;unfold iK;rw[jq h,vQ h ha,QJ]) (by
  show iK a bt a.length=_;unfold iK;rw[hZ])
 have h2:aF (fun s=>cH a s) 0=some (if(a.any fun n=>aS n 0||bU n 1000)=true then(.inr false:Unit⊕Bool)else .inl ()):=qg (B:=fun s=>cH a s) ha (fun n=>aS n 0||bU n 1000) (fun i x h=>by
  show cH a i=_;unfold cH;rw[jq h,vQ h ha];cases aS x 0 <;> cases bU x 1000 <;> rfl) (by
  show cH a a.length=_;unfold cH;rw[hZ])
 unfold qU ia;rw[eg h1,eg h2];have he:bK (aB a) bt=!aW (aB a) bt:=rfl;rw[he,zH];cases(a.any fun n=>aS n 0||bU n 1000) <;> cases aW (aB a) bt <;> rfl
theorem L9(s:aK):jA s=cN s:=by
 unfold jA rj cN;have e:(aW s.place (-1)&&(aW s.aH 0&&(aW s.aQ 0&&(aW s.aR 0&&true))))=(((aW s.place (-1)&&aW s.aH 0)&&aW s.aQ 0)&&aW s.aR 0):=by
  cases aW s.place (-1) <;> cases aW s.aH 0 <;> cases aW s.aQ 0 <;> cases aW s.aR 0 <;> rfl
 rw[e];cases(((aW s.place (-1)&&aW s.aH 0)&&aW s.aQ 0)&&aW s.aR 0)with
 |true=>rfl
 |false =>
  rw[cP,cP,ax,ax,ax];by_cases h:0≤s.place∧0≤s.aH∧s.aH≤s.aQ∧s.aQ≤4096∧0≤s.aR∧s.aR≤4096
  ·rw[bu (by rw[tl];omega),bu (by rw[EG,tl,xK];omega),bu (by rw[EG,EG,tl,xK,xK];omega),bu (by rw[EG,tl,xK];omega),bm (by simp only[Ja,jn,kO];omega)]
  ·rw[bu (b:=((((((aS s.place 0)||(aS s.aH 0))||(bU s.aH s.aQ))||(bU s.aQ 4096))||(aS s.aR 0))||(bU s.aR 4096))) (by simp only[Tb,ik,qS];omega)]
   cases h1:bP s.place 0 with
   |false=>rfl
   |true =>
    cases h2:(bP s.aH 0&&kP s.aH 4096)with
    |false=>rfl
    |true =>
     cases h3:((bP s.aQ 0&&kP s.aQ 4096)&&kP s.aH s.aQ)with
     |false=>rfl
     |true =>
      cases h4:(bP s.aR 0&&kP s.aR 4096)with
      |false=>rfl
      |true =>
       exfalso;simp only[EG,tl,xK]at h1 h2 h3 h4;omega
theorem Qe{o:ab}{types:Int}{c:List Int}:aG (jv o types) (fun r=>aG (bk r 2 c) fun q=>some q)=dE types o c:=by
 unfold jv dE eQ c_;simp only[ax];cases(bP o.bg (-1)&&kP o.bg 1000000)with
 |false=>rw[cP,cP,ax];exact Nf (J:=fun c=>some c) fun c=>rfl
 |true =>
  rw[de,de,ax];have hb:((((((!(bP o.split 1&&kP o.split 4))||((bU o.split 1)&&((bK o.pick.place (-1))&&(bK o.drop.place (-1)))))||(aS o.a3 (-1)))||(bP o.a3 types))||(aS o.now (-1)))||(bP o.now types)) =
    !(((((((bP o.split 1&&kP o.split 4)&&(((aW o.split 1)||(aW o.pick.place (-1)))||(aW o.drop.place (-1))))&&(bP o.a3 (-1)))&&(aS o.a3 types))&&(bP o.now (-1)))&&(aS o.now types))):=by
   rw[Bool.eq_iff_iff];simp only[Tb,EG,ntT,ntF,Mc,Ja,qS,kO,tl,JQ,ik,jn,xK,Is,tk,yZ,Rt,LJ,Bool.not_eq_true',Bool.and_eq_false_iff,Bool.or_eq_false_iff];omega
  rw[hb,zH];exact H7 (J:=fun c=>some c) fun c=>rfl
theorem SB{n:ah}{bt types:Int}{l:List ab}(hl:l.length≤1048576)(hI:∀t∈l,t.load.length≤1048576)(i:Int):sF n bt types l i=ep (aB n.av) bt types l i:=by
 unfold sF ep;cases hg:a4 l i with
 |none=>rfl
 |some t =>
  obtain⟨k,rfl⟩:∃k:Nat,i=k:=by
   unfold a4 at hg;split at hg
   ·exact⟨i.toNat,by omega⟩
   ·cases hg
  have hk:l[k]?=some t:=by
   unfold a4 at hg;rw[if_pos (by omega),Int.toNat_natCast]at hg
   exact hg
  have hkl:=(List.getElem?_eq_some_iff.1 hk).1;have TX:=hI t (List.mem_of_getElem? hk);have hlen:(l.take k).length=k:=by rw[List.length_take];omega
  rw[ax,ax,MO];refine tE fun r=>?_
  rw[NL];have main:∀c:List Int,c.length≤1→(aG (wa l 0 (k:Int)) fun l1=>aG (bO l1 t) fun r2=>aG (bk (!r2) 6 c) fun r3=>aG (qU t.load bt) fun r4=>aG (bk r4 17 r3) fun r5=>b7 (aB n.av) types t r5)=dD (aB n.av) bt types l (k:Int) t c:=fun c hc=>by
   unfold dD;have JT:aF (fun s=>bY (aB n.av) bt types l (k:Int) t c s) 0=some (if((l.take k).any fun a=>qn a.name t.name)=true then c++[6]else c):=qg (B:=fun s=>bY (aB n.av) bt types l (k:Int) t c s) (l:=l.take k) (by omega) (fun a=>qn a.name t.name) (fun j a h=>by
    obtain⟨h1,h2⟩:=RK h;show bY (aB n.av) bt types l (k:Int) t c (j:Int)=_;unfold bY;rw[bu (by simp;omega),ba h2,ax,vQ h2 hl,cr (ca (by simp;omega)),QJ]) (by
    rw[hlen];show bY (aB n.av) bt types l (k:Int) t c (k:Int)=_;unfold bY;rw[bm (by simp)])
   rw[Nc (by omega),ax,TO (by omega),ax,eg JT,NL,zH,SK TX]
   cases(l.take k).any fun a=>qn a.name t.name with
   |true =>
    rw[de,if_pos rfl,cr (ca (by simp;omega))]
    exact tE fun r=>H7 (J:=fun c=>b7 (aB n.av) types t c) fun c=>rfl
   |false =>
    rw[cP,if_neg (by decide)]
    exact tE fun r=>H7 (J:=fun c=>b7 (aB n.av) types t c) fun c=>rfl
  have tail:∀c:List Int,(aG (eQ t.pick.place (-1) (dA .i64 (aB n.av) 1)) fun r6=>br r6 (aG (eQ t.drop.place (-1) (dA .i64 (aB n.av) 1)) fun r7=>aG (bk r7 11 c) fun r8=>cJ types t r8) (aG (bk false 11 c) fun r8=>cJ types t r8))=b7 (aB n.av) types t c:=fun c=>by
   unfold b7;exact Yb fun b=>XA (J:=fun c=>cJ types t c) fun c=>rfl
  have t3:∀c:List Int,(aG (bk ((bK t.pick.place (-1))||(bK t.drop.place (-1))) 19 c) fun r9=>di types t r9)=cJ types t c:=fun c=>by
   unfold cJ;have hb:(bK t.pick.place (-1)||bK t.drop.place (-1))=!(aW t.pick.place (-1)&&aW t.drop.place (-1)):=by
    unfold bK;rw[Bool.not_and];rfl
   rw[hb,NL,zH]
  have t6:∀c:List Int,(aG (eQ t.aL 0 1073741823) fun SE=>aG (bk SE 18 c) fun CD=>aG (jv t types) fun Vb=>aG (bk Vb 2 CD) fun UD=>some UD)=cu types t c:=fun c=>by
   unfold cu;exact Yb fun b=>H7 (J:=fun c=>fB types t c) fun c=>Qe
  have t4:∀c:List Int,(aG (jA t.pick) fun M3=>br (aW M3 0) (aG (jA t.drop) fun zj=>aG (bk (aW zj 0) 14 c) fun Ny=>cu types t Ny) (aG (bk false 14 c) fun Ny=>cu types t Ny))=di types t c:=fun c=>by
   unfold di;rw[L9,L9];refine tE fun a=>?_
   have hn:∀a:Int,bK a 0=!aW a 0:=fun a=>rfl
   rw[hn,zH];cases aW a 0 with
   |false=>rw[cP,cP];exact Nf (J:=fun c=>cu types t c) fun c=>rfl
   |true =>
    rw[de,de];refine tE fun d=>?_
    rw[hn,zH];exact H7 (J:=fun c=>cu types t c) fun c=>rfl
  rw[←main [] (by simp),←main [5] (by simp)]
  simp only[←tail,←t3,←t4,←t6];rfl
theorem MV{n:ah}{bt types:Int}{l:List ab}(hl:l.length≤100)(hI:∀t∈l,t.load.length≤1048576):q9 n bt types l=dP n bt types l:=by
 have hB:∀s:List aa×Int,mV n bt types l s.1 s.2=cZ n bt types l s.1 s.2:=fun s=>by
  unfold mV cZ;rw[SB (by omega) hI]
  cases hb:aS s.2 (aB l)with
  |false=>rw[cP,cP]
  |true =>
   rw[de,de];cases hr:ep (aB n.av) bt types l s.2 with
   |none=>rw[uq,uq]
   |some r =>
    rw[ax,ax];have h0:0≤s.2:=by
     unfold ep at hr;obtain⟨a,ha,_⟩:=pZ hr;unfold a4 at ha;split at ha
     ·assumption
     ·cases ha
    rw[ik,aB]at hb;have hf:∀q:List aa×Int,mW n bt types l s.2 r q.1 q.2=iS n bt types l s.2 r q.1 q.2:=fun q=>by
     unfold mW iS;rw[O9 h0 (by omega)]
    rw[show(fun q:List aa×Int=>mW n bt types l s.2 r q.1 q.2)=fun q=>iS n bt types l s.2 r q.1 q.2 from funext hf]
 have hJ:∀l1,mT n bt types l l1=ee n bt types l l1:=fun l1=>by
  unfold mT ee;rw[show(fun s:List aa×Int=>mV n bt types l s.1 s.2)=fun s=>cZ n bt types l s.1 s.2 from funext hB]
 unfold q9 dP;rw[hJ,hJ]
def NA(B:Nat):Prop:=∀i:Nat,i<B→∃s,jL (i:Int)=some s∧bV (i:Int)=some s∧s.size≤21
theorem FZ:NA 100:=fun i hi=>by
 obtain⟨s,hs,hl⟩:=pd (i:Int) (Dr (by omega))
 exact⟨s,by rw[QM i hi,hs],hs,hl⟩
theorem Py(s:ByteArray):∀(k i:Nat) (r:List UInt8),s.size-i=k→ByteArray.toList.loop s i r=r.reverse++s.data.toList.drop i:=by
 intro k;induction k with
 |zero =>
  intro i r h;unfold ByteArray.toList.loop;rw[if_neg (by omega),List.drop_eq_nil_of_le (by rw[Array.length_toList];exact(by omega:s.size≤i)),List.append_nil]
 |succ k ih =>
  intro i r h;have hi:i<s.data.toList.length:=by rw[Array.length_toList];exact(by omega:i<s.size)
  unfold ByteArray.toList.loop;rw[if_pos (by omega),ih (i+1) _ (by omega),List.drop_eq_getElem_cons hi,List.reverse_cons,List.append_assoc]
  congr 1;have hs:i<s.data.size:=by rw[Array.length_toList]at hi;exact hi
  have:s.get! i=s.data.toList[i]:=by
   show(s.data[i]!)=_;rw[getElem!_pos s.data i hs,Array.getElem_toList]
  rw[this];rfl
theorem Vp(a b:ByteArray):qn a b=KD a b:=by
 have h:∀s:ByteArray,s.toList=s.data.toList:=fun s=>by
  unfold ByteArray.toList;rw[Py s s.size 0 [] (by omega)]
  simp
 rw[Bool.eq_iff_iff,QP];unfold qn;rw[beq_iff_eq,h,h];constructor
 ·intro he;cases a;cases b;rw[ByteArray.mk.injEq];exact Array.toList_inj.1 he
 ·rintro rfl;rfl
theorem Vq(a b:ByteArray):KD a b=KD b a:=by rw[Bool.eq_iff_iff,QP,QP];exact eq_comm
section
variable {n : ah} {B : Nat} {l : List au} {a : al} {known : List (aE × Bool)} {tr : List aa}
theorem SU(hB:NA B)(hl:l.length≤B):gB l=dO l:=by
 have hf:∀s:List aa×Int,fl l s.1 s.2=eN l s.1 s.2:=fun s=>by
  unfold fl eN;cases hb:aS s.2 (aB l)with
  |false=>rw[cP,cP]
  |true =>
   rw[de,de];cases hg:a4 l s.2 with
   |none=>rw[uq,uq]
   |some p =>
    obtain⟨k,hk⟩:∃k:Nat,s.2=k:=by
     unfold a4 at hg;split at hg
     ·exact⟨s.2.toNat,by omega⟩
     ·cases hg
    rw[ik,aB]at hb;obtain⟨r,r1,r2,_⟩:=hB k (by omega)
    rw[ax,ax,hk,r1,ax,r2,ax];unfold jz;rw[ax];have hc:((!(bP p.t 0&&kP p.t 4096))||aS p.a p.t||bU p.a (aT .i64 p.t 4096))=((((aS p.t 0)||(bU p.t 4096))||(aS p.a p.t))||(bU p.a (aT .i64 p.t 4096))):=by
     congr 2;rw[Bool.eq_iff_iff,ntT,Mc,Tb,JQ,Is,ik,qS]
    have hJ:∀c,j0 l (k:Int) p r c=fq l (k:Int) p c:=fun c=>by
     unfold j0 fq;rw[r2,ax]
    rw[hc,hJ,hJ]
 have hJ:∀c,jZ l c=gF l c:=fun c=>by
  unfold jZ gF;rw[show(fun s:List aa×Int=>fl l s.1 s.2)=fun s=>eN l s.1 s.2 from funext hf]
 unfold gB dO;rw[hJ,hJ];congr 1;rw[Bool.eq_iff_iff];simp only[Tb,tk,ik,qS,aB];omega
def L0(l:List au)(i:Nat):Bool:=match l[i]? with
 |none=>false
 |some p=>!((bP p.t 0&&kP p.t 4096)&&(bP p.a 0&&kP p.a 4096))||(decide (0<i)&&(match l[i-1]? with
  |some q=>kP p.t q.t
  |none=>false))
def pI(l:List au):Nat→List Int
 |0=>[]
 |k+1=>pI l k++if L0 l k=true then [2]else []
def G3(l:List au):List Int:=(if l.length>16 then [4]else [])++pI l l.length
theorem Dz:∀k,(pI l k).length≤k
 |0=>Nat.le_refl _
 |k+1=>by have:=Dz k;unfold pI;rw[List.length_append];split <;> simp <;> omega
theorem L1:(G3 l).length≤l.length+1:=by
 have:=Dz (l:=l) l.length;unfold G3;rw[List.length_append];split <;> simp <;> omega
theorem RI{p:au}(e:l[0]?=some p):L0 l 0=!((bP p.t 0&&kP p.t 4096)&&(bP p.a 0&&kP p.a 4096)):=by
 unfold L0;rw[e];simp
theorem RJ{p q:au}{i:Nat}(h0:0<i)(e:l[i]?=some p)(e0:l[i-1]?=some q):L0 l i=(!((bP p.t 0&&kP p.t 4096)&&(bP p.a 0&&kP p.a 4096))||kP p.t q.t):=by
 unfold L0;rw[e];simp only;rw[e0];simp [h0]
theorem Kq(k:Nat):pI l (k+1)=pI l k++if L0 l k=true then [2]else []:=rfl
theorem Wl(hl:l.length≤1048576):po l=some (G3 l):=by
 have main:∀c:List Int,c.length≤1→lS l c=some (c++pI l l.length):=fun c hc=>by
  unfold lS;have:=eJ l.length (fun i=>(c++pI l i,(i:Int))) (B:=fun s:List Int×Int=>gZ l s.1 s.2) (e:=c++pI l l.length) (by omega) (fun i hi=>by
   have e1:l[i]?=some l[i]:=List.getElem?_eq_getElem hi;have hE:=Dz (l:=l) i;have qo:d_ ((c++pI l i)++[2]).length 8:=ca (by simp only[List.length_append,List.length_singleton];omega)
   have nP:aT .i64 (i:Int) 1=((i+1:Nat):Int):=by rw[kR (by omega) (by omega)];omega
   show gZ l (c++pI l i) (i:Int)=some (.inl (c++pI l (i+1),((i+1:Nat):Int)));unfold gZ pq;rw[bu (by simp only[ik,aB];omega),ba e1,ax,ax,ax,nP,cr qo,Kq]
   generalize l[i]=p at e1;rcases Nat.eq_zero_or_pos i with h0|h0
   ·rw[bm (b:=bU (i:Int) 0) (by simp only[kO];omega)]
    subst h0;rw[RI e1];cases(bP p.t 0&&kP p.t 4096) <;> cases(bP p.a 0&&kP p.a 4096) <;> simp
   ·have e0:l[i-1]?=some (l[i-1]'(by omega)):=List.getElem?_eq_getElem _
    have hs:dA .i64 (i:Int) 1=((i-1:Nat):Int):=by rw[xC (by omega) (by omega)];omega
    rw[bu (b:=bU (i:Int) 0) (by simp only[qS];omega),hs,ba e0,ax,RJ h0 e1 e0]
    cases(bP p.t 0&&kP p.t 4096) <;> cases(bP p.a 0&&kP p.a 4096) <;> cases kP p.t (l[i-1]'(by omega)).t <;> simp) (by
   show gZ l (c++pI l l.length) (l.length:Int)=_;unfold gZ;rw[bm (by simp [aB])])
  rw[eg (show aF (fun s:List Int×Int=>gZ l s.1 s.2) (c,0)=_ by simpa [pI]using this)]
 unfold po G3;by_cases h:l.length>16
 ·rw[bu (by simp [aB];omega),cr (ca (by simp)),main [4] (by simp),if_pos h]
 ·rw[bm (by simp [aB];omega),main [] (by simp),if_neg h]
def Jn(a:al):Bool:=((((aS a.ai 0)||(bU a.ai 7))||(aS a.dc 0))||(bU a.dc 10000))||(aW a.az a.cw)
def Yc(n:ah)(a:al):Bool:=iJ n a.az&&iJ n a.cw
def Mg(a:al)(kn:Bool)(tr:List aa):List Int:=(if kn=true then [6]else [])++(tr.map (·.EL)++G3 a.dp)
def IB(n:ah)(a:al)(kn:Bool)(tr:List aa):List Int:=(if Yc n a=true then []else [11])++((if Jn a=true then [2]else [])++Mg a kn tr)
theorem Tp{kn:Bool}:(IB n a kn tr).length≤4+tr.length+a.dp.length:=by
 have:=L1 (l:=a.dp);unfold IB Mg;simp only[List.length_append,List.length_map];split <;> split <;> split <;> simp <;> omega
theorem Tq(ht:gB a.cz=some tr)(Nv:tr.length≤2097153)(hs:a.dp.length≤1048576){l c:List Int}(hc:c.length≤100):mS a known l c=some (c++(tr.map (·.EL)++G3 a.dp)):=by
 unfold mS;rw[ht,ax];have:=eJ tr.length (fun i=>(c++(tr.take i).map (·.EL),(i:Int))) (B:=fun s:List Int×Int=>iL a known l tr s.1 s.2) (e:=c++tr.map (·.EL)) (by omega) (fun i hi=>by
  have e1:tr[i]?=some tr[i]:=List.getElem?_eq_getElem hi;have nP:aT .i64 (i:Int) 1=((i+1:Nat):Int):=by rw[kR (by omega) (by omega)];omega
  show iL a known l tr (c++(tr.take i).map (·.EL)) (i:Int)=_;unfold iL;rw[bu (by simp only[ik,aB];omega),ba e1,ax,cr (ca (by simp only[List.length_append,List.length_map,List.length_take,List.length_singleton];omega)),nP,List.take_add_one,e1,Option.toList_some,List.map_append,←List.append_assoc]
  rfl) (by
  show iL a known l tr (c++(tr.take tr.length).map (·.EL)) (tr.length:Int)=_;unfold iL;rw[bm (by simp [aB]),List.take_length])
 have T8:=L1 (l:=a.dp);rw[eg (show aF (fun s:List Int×Int=>iL a known l tr s.1 s.2) (c,0)=_ by simpa using this),Wl hs,ax,cr (ca (by simp only[List.length_append,List.length_map];omega)),List.append_assoc]
theorem Mh(ht:gB a.cz=some tr)(Nv:tr.length≤2097153)(hs:a.dp.length≤1048576){l c:List Int}(hc:c.length≤99):lA a known l c=some (c++Mg a (oH aE.Nx known (aE.mk a.az a.cw a.ai) false) tr):=by
 unfold lA ju Mg;rw[ax];cases oH aE.Nx known (aE.mk a.az a.cw a.ai) false with
 |true=>rw[de,cr (ca (by simp;omega)),Tq ht Nv hs (by simp;omega),if_pos rfl,List.append_assoc]
 |false=>rw[cP,Tq ht Nv hs (by omega),if_neg (by decide),List.nil_append]
theorem Tr{c:List Int}:o8 a known c=lA a known c c:=rfl
theorem Xz(ht:gB a.cz=some tr)(Nv:tr.length≤2097153)(hs:a.dp.length≤1048576):uE n a known=some (IB n a (oH aE.Nx known (aE.mk a.az a.cw a.ai) false) tr):=by
 have Zg:∀l:List Int,l.length≤90→mR a known l=some (l++((if Jn a=true then [2]else [])++Mg a (oH aE.Nx known (aE.mk a.az a.cw a.ai) false) tr)):=fun l hl=>by
  unfold mR;show br (Jn a) _ _=_;cases Jn a with
  |true=>rw[de,cr (ca (by simp;omega)),Mh ht Nv hs (by simp;omega),if_pos rfl,List.append_assoc]
  |false=>rw[cP,Mh ht Nv hs (by omega),if_neg (by decide),List.nil_append]
 unfold uE IB Yc;rw[wW,ax,wW,ax];cases iJ n a.az with
 |true =>
  cases iJ n a.cw with
  |true=>rw[de,de,Zg [] (by simp)];rfl
  |false=>rw[de,cP,cr (ca (by simp)),Zg [11] (by simp)];rfl
 |false =>
  rw[cP,cr (ca (by simp))]
  show br (Jn a) _ _=_;cases Jn a with
  |true =>
   rw[de,cr (ca (by simp)),Tr,Mh ht Nv hs (by simp)]
   simp
  |false =>
   rw[cP,Tr,Mh ht Nv hs (by simp)]
   simp
def tH(r:ByteArray)(e:Int):aa:=aa.mk e (bH bq r)
theorem RC{r:ByteArray}{l0 c:List aa}(hs:a.dp.length≤1048576)(hc:c.length≤3000000):dK r a l0 c=some (c++(pI a.dp a.dp.length).map (tH r)):=by
 unfold dK;have:=eJ a.dp.length (fun i=>(c++(pI a.dp i).map (tH r),(i:Int))) (B:=fun s:List aa×Int=>ck r a l0 s.1 s.2) (e:=c++(pI a.dp a.dp.length).map (tH r)) (by omega) (fun i hi=>by
  have e1:a.dp[i]?=some a.dp[i]:=List.getElem?_eq_getElem hi;have hE:=Dz (l:=a.dp) i;have qo:d_ ((c++(pI a.dp i).map (tH r))++[aa.mk 2 (bH bq r)]).length 24:=ca (by simp only[List.length_append,List.length_map,List.length_singleton];omega)
  have nP:aT .i64 (i:Int) 1=((i+1:Nat):Int):=by rw[kR (by omega) (by omega)];omega
  show ck r a l0 (c++(pI a.dp i).map (tH r)) (i:Int)=some (.inl (c++(pI a.dp (i+1)).map (tH r),((i+1:Nat):Int)));unfold ck jU;rw[bu (by simp only[ik,aB];omega),ba e1,ax,ax,ax,nP,cr qo,Kq]
  generalize a.dp[i]=p at e1;have hf:tH r 2=aa.mk 2 (bH bq r):=rfl;rcases Nat.eq_zero_or_pos i with h0|h0
  ·rw[bm (b:=bU (i:Int) 0) (by simp only[kO];omega)]
   subst h0;rw[RI e1];cases(bP p.t 0&&kP p.t 4096) <;> cases(bP p.a 0&&kP p.a 4096) <;> simp [hf]
  ·have e0:a.dp[i-1]?=some (a.dp[i-1]'(by omega)):=List.getElem?_eq_getElem _
   have hs:dA .i64 (i:Int) 1=((i-1:Nat):Int):=by rw[xC (by omega) (by omega)];omega
   rw[bu (b:=bU (i:Int) 0) (by simp only[qS];omega),hs,ba e0,ax,RJ h0 e1 e0]
   cases(bP p.t 0&&kP p.t 4096) <;> cases(bP p.a 0&&kP p.a 4096) <;> cases kP p.t (a.dp[i-1]'(by omega)).t <;> simp [hf]) (by
  show ck r a l0 (c++(pI a.dp a.dp.length).map (tH r)) (a.dp.length:Int)=_;unfold ck;rw[bm (by simp [aB])])
 rw[eg (show aF (fun s:List aa×Int=>ck r a l0 s.1 s.2) (c,0)=_ by simpa [pI]using this)]
theorem RB{r:ByteArray}{l0 c:List aa}(ht:dO a.cz=some tr)(Nv:tr.length≤2097153)(hs:a.dp.length≤1048576)(hc:c.length≤100):eA r a l0 c=some (c++(tr.map (·.EL)++G3 a.dp).map (tH r)):=by
 unfold eA;rw[ht,ax];have:=eJ tr.length (fun i=>(c++((tr.take i).map (·.EL)).map (tH r),(i:Int))) (B:=fun s:List aa×Int=>cj r a l0 tr s.1 s.2) (e:=c++(tr.map (·.EL)).map (tH r)) (by omega) (fun i hi=>by
  have e1:tr[i]?=some tr[i]:=List.getElem?_eq_getElem hi;have nP:aT .i64 (i:Int) 1=((i+1:Nat):Int):=by rw[kR (by omega) (by omega)];omega
  show cj r a l0 tr (c++((tr.take i).map (·.EL)).map (tH r)) (i:Int)=_;unfold cj;rw[bu (by simp only[ik,aB];omega),ba e1,ax,cr (ca (by simp only[List.length_append,List.length_map,List.length_take,List.length_singleton];omega)),nP,List.take_add_one,e1,Option.toList_some,List.map_append,List.map_append,←List.append_assoc]
  rfl) (by
  show cj r a l0 tr (c++((tr.take tr.length).map (·.EL)).map (tH r)) (tr.length:Int)=_;unfold cj;rw[bm (by simp [aB]),List.take_length])
 rw[eg (show aF (fun s:List aa×Int=>cj r a l0 tr s.1 s.2) (c,0)=_ by simpa using this)]
 unfold G3;by_cases h:a.dp.length>16
 ·rw[bu (by simp [aB];omega),cr (ca (by simp only[List.length_append,List.length_map,List.length_singleton];omega)),RC hs (by simp only[List.length_append,List.length_map,List.length_singleton];omega),if_pos h]
  simp [tH]
 ·rw[bm (by simp [aB];omega),RC hs (by simp only[List.length_append,List.length_map];omega),if_neg h]
  simp
def Sn(n:ah)(i:Nat)(a:al):Bool:=(n.aI.take i).any fun b=>aE.Nx (aE.mk a.az a.cw a.ai) (aE.mk b.az b.cw b.ai)
theorem Wx{r:ByteArray}{l0 l1:List aa}{i:Nat}(hi:i<n.aI.length)(S2:n.aI.length≤1048576):aF (fun s:Bool×Int=>ch n (i:Int) r a l0 l1 s.1 s.2) (false,0)=some (Sn n i a):=by
 have:=eJ i (fun k=>((n.aI.take k).any fun b=>aE.Nx (aE.mk a.az a.cw a.ai) (aE.mk b.az b.cw b.ai),(k:Int))) (B:=fun s:Bool×Int=>ch n (i:Int) r a l0 l1 s.1 s.2) (e:=Sn n i a) (by omega) (fun k hk=>by
  have e1:n.aI[k]?=some (n.aI[k]'(by omega)):=List.getElem?_eq_getElem _
  have nP:aT .i64 (k:Int) 1=((k+1:Nat):Int):=by rw[kR (by omega) (by omega)];omega
  show ch n (i:Int) r a l0 l1 ((n.aI.take k).any _) (k:Int)=_;unfold ch;rw[bu (by simp;omega),ba e1,ax,nP,List.take_add_one,e1,Option.toList_some,List.any_append]
  congr 3;simp only[List.any_cons,List.any_nil,Bool.or_false,aE.Nx];congr 1;rw[Bool.eq_iff_iff];simp [and_assoc]) (by
  show ch n (i:Int) r a l0 l1 _ (i:Int)=_;unfold ch;rw[bm (by simp)];rfl)
 simpa using this
theorem Wh{r:ByteArray}{i:Nat}(hi:n.aI[i]?=some a)(S2:n.aI.length≤1048576)(hr:bV (i:Int)=some r)(ME:r.size≤21)(ht:dO a.cz=some tr)(Nv:tr.length≤2097153)(hs:a.dp.length≤1048576):gI n (i:Int)=some ((IB n a (Sn n i a) tr).map (tH r)):=by
 have m9:=(List.getElem?_eq_some_iff.1 hi).1;have hJ2:∀l c:List aa,c.length≤90→ez n (i:Int) r a l c=some (c++(Mg a (Sn n i a) tr).map (tH r)):=fun l c hc=>by
  unfold ez Mg;rw[eg (Wx m9 S2)];cases Sn n i a with
  |true=>rw[de,cr (ca (by simp;omega)),RB ht Nv hs (by simp;omega),if_pos rfl];simp [tH]
  |false=>rw[cP,RB ht Nv hs (by omega),if_neg (by decide),List.nil_append]
 have Zg:∀l:List aa,l.length≤80→ew n (i:Int) r a l=some (l++((if Jn a=true then [2]else [])++Mg a (Sn n i a) tr).map (tH r)):=fun l hl=>by
  unfold ew;show br (Jn a) _ _=_;cases Jn a with
  |true=>rw[de,cr (ca (by simp;omega)),hJ2 _ _ (by simp;omega),if_pos rfl];simp [tH]
  |false=>rw[cP,hJ2 _ _ (by omega),if_neg (by decide),List.nil_append]
 unfold gI;rw[hr,ax,cr (by show 4+r.size≤_;omega),ba hi,ax]
 have y3:((((aS a.az 0)||(bP a.az (aB n.av)))||(aS a.cw 0))||(bP a.cw (aB n.av)))=!Yc n a:=by
  unfold Yc iJ;rw[Bool.eq_iff_iff];simp only[Tb,ik,tl,aB,ntT,Mc,decide_eq_false_iff_not];omega
 rw[y3,zH];unfold IB;cases Yc n a with
 |true=>rw[de,Zg [] (by simp)];simp
 |false=>rw[cP,cr (ca (by simp)),Zg _ (by simp)];simp [tH]
end
def BW(k:Nat):ByteArray:=(bV (k:Int)).getD ByteArray.empty
def OB(s:ByteArray):Bool:=(fe s).getD false
def Vd(a:al):List aa:=(dO a.cz).getD []
def YV(n:ah)(k:Nat):List aa:=match n.av[k]? with
 |none=>[]
 |some s=>if OB s=true then(if(n.av.take k).any (fun b=>KD s b)=true then [aa.mk 6 (bH dm (BW k))]else [])else [aa.mk 5 (bH dm (BW k))]
def GG(n:ah):Nat→List aa
 |0=>[]
 |k+1=>GG n k++YV n k
def SX(n:ah)(k:Nat):List aa:=match n.aI[k]? with
 |none=>[]
 |some a=>(IB n a (Sn n k a) (Vd a)).map (tH (BW k))
def FF(n:ah):Nat→List aa
 |0=>[]
 |k+1=>FF n k++SX n k
def HH(n:ah):List aa:=((if n.av.length>24 then [aa.mk 4 fp]else [])++GG n n.av.length)++((if n.aI.length>1024 then [aa.mk 4 ml]else [])++FF n n.aI.length)
section
variable {n : ah} {B : Nat}
theorem V_(k:Nat):(YV n k).length≤1:=by
 unfold YV;split
 ·simp
 ·split
  ·split <;> simp
  ·simp
theorem Jb:∀k,(GG n k).length≤k
 |0=>Nat.le_refl _
 |k+1=>by
  have h1:=Jb k;have h2:=V_ (n:=n) k;unfold GG;rw[List.length_append];omega
theorem Mq(hB:NA B){k:Nat}(hk:k<B):jy (k:Int)=some (BW k)∧bV (k:Int)=some (BW k)∧(BW k).size≤21:=by
 obtain⟨s,s1,s2,s3⟩:=hB k hk;have:BW k=s:=by unfold BW;rw[s2];rfl
 rw[this];refine⟨?_,s2,s3⟩;unfold jy;rw[s1];rfl
theorem Rr(hn:DB n){s:ByteArray}(hs:s∈n.av):fe s=some (OB s):=by
 obtain⟨b,hb,_⟩:=Dq s (hn.names s hs);unfold OB;rw[hb];rfl
theorem OK(k:Nat):GG n (k+1)=GG n k++YV n k:=rfl
theorem NH(k:Nat):FF n (k+1)=FF n k++SX n k:=rfl
theorem ON(hn:DB n)(hB:NA B)(hp:n.av.length≤B){l0 l:List aa}(hl:l0.length≤1):aF (fun s:List aa×List (ByteArray×Bool)×Int=>gw n l s.1 s.2.1 s.2.2) (l0,[],0)=some (l0++GG n n.av.length):=by
 have A6:=hn.av;have:=eJ n.av.length (fun i=>(l0++GG n i,(n.av.take i).foldl (fun m s=>sw KD m s true) [],(i:Int))) (B:=fun s:List aa×List (ByteArray×Bool)×Int=>gw n l s.1 s.2.1 s.2.2) (e:=l0++GG n n.av.length) (by omega) (fun i hi=>by
  have e:n.av[i]?=some n.av[i]:=List.getElem?_eq_getElem hi;have nP:aT .i64 (i:Int) 1=((i+1:Nat):Int):=by rw[kR (by omega) (by omega)];omega
  obtain⟨d1,d2,d3⟩:=Mq hB (show i<B by omega)
  have hlen:=Jb (n:=n) i;have qo:∀f:aa,d_ ((l0++GG n i)++[f]).length 24:=fun f=>ca (by simp only[List.length_append,List.length_singleton];omega)
  have ZQ:=OY (eq:=KD) QP (fun s:ByteArray=>s) (n.av.take i) n.av[i]
  show gw n l (l0++GG n i) ((n.av.take i).foldl (fun m s=>sw KD m s true) []) (i:Int)=some (.inl (l0++GG n (i+1),(n.av.take (i+1)).foldl (fun m s=>sw KD m s true) [],((i+1:Nat):Int)))
  unfold gw;rw[bu (by simp [aB];omega),ba e,ax,d1,ax,cr (by show 6+(BW i).size≤_;omega),MO,Rr hn (List.getElem_mem hi),ax,ZQ,cr (qo _),cr (qo _),OK]
  unfold kX YV;rw[e,nP,List.take_add_one,e,Option.toList_some,List.foldl_append];simp only;cases OB n.av[i]with
  |true =>
   cases(n.av.take i).any (fun b=>KD n.av[i] b) <;> simp
  |false=>simp) (by
  show gw n l (l0++GG n n.av.length) ((n.av.take n.av.length).foldl (fun m s=>sw KD m s true) []) (n.av.length:Int)=_
  unfold gw;rw[bm (by simp [aB])])
 simpa [GG]using this
theorem SH(hn:DB n){l l1:List aa}{r:ByteArray}{i:Nat}{s:ByteArray}(hs:n.av[i]?=some s):aF (fun q:Bool×Int=>bB n l l1 (i:Int) r q.1 q.2) (false,0)=some ((n.av.take i).any fun b=>KD s b):=by
 have A6:=hn.av;have hi:=(List.getElem?_eq_some_iff.1 hs).1;have:=eJ i (fun k=>((n.av.take k).any (fun b=>KD s b),(k:Int))) (B:=fun q:Bool×Int=>bB n l l1 (i:Int) r q.1 q.2) (e:=(n.av.take i).any fun b=>KD s b) (by omega) (fun k hk=>by
  have e1:n.av[k]?=some (n.av[k]'(by omega)):=List.getElem?_eq_getElem _
  have nP:aT .i64 (k:Int) 1=((k+1:Nat):Int):=by rw[kR (by omega) (by omega)];omega
  show bB n l l1 (i:Int) r ((n.av.take k).any fun b=>KD s b) (k:Int)=_
  unfold bB;rw[bu (by simp;omega),ba e1,ax,ba hs,ax,nP,List.take_add_one,e1,Option.toList_some,List.any_append,Vp,Vq]
  cases(n.av.take k).any fun b=>KD s b <;> simp) (by
  show bB n l l1 (i:Int) r ((n.av.take i).any fun b=>KD s b) (i:Int)=_
  unfold bB;rw[bm (by simp)])
 simpa using this
theorem Kf(hn:DB n)(hB:NA B)(hp:n.av.length≤B){l0 l:List aa}(hl:l0.length≤1):dt n l0=some (l0++GG n n.av.length):=by
 have A6:=hn.av;unfold dt;have:=eJ n.av.length (fun i=>(l0++GG n i,(i:Int))) (B:=fun s:List aa×Int=>bA n l0 s.1 s.2) (e:=l0++GG n n.av.length) (by omega) (fun i hi=>by
  have e:n.av[i]?=some n.av[i]:=List.getElem?_eq_getElem hi;have nP:aT .i64 (i:Int) 1=((i+1:Nat):Int):=by rw[kR (by omega) (by omega)];omega
  obtain⟨d1,d2,d3⟩:=Mq hB (show i<B by omega)
  have hlen:=Jb (n:=n) i;have qo:∀f:aa,d_ ((l0++GG n i)++[f]).length 24:=fun f=>ca (by simp only[List.length_append,List.length_singleton];omega)
  show bA n l0 (l0++GG n i) (i:Int)=some (.inl (l0++GG n (i+1),((i+1:Nat):Int)));unfold bA;rw[bu (by simp [aB];omega),d2,ax,cr (by show 6+(BW i).size≤_;omega),ba e,ax,Rr hn (List.getElem_mem hi),ax,eg (SH hn e),cr (qo _),cr (qo _),nP,OK]
  unfold YV;rw[e];simp only;cases OB n.av[i]with
  |true =>
   cases(n.av.take i).any (fun b=>KD n.av[i] b) <;> simp
  |false=>simp) (by
  show bA n l0 (l0++GG n n.av.length) (n.av.length:Int)=_;unfold bA;rw[bm (by simp [aB])])
 rw[eg (show aF (fun s:List aa×Int=>bA n l0 s.1 s.2) (l0,0)=_ by simpa [GG]using this)]
theorem Qx{a:al}(hI:Xu a):dO a.cz=some (Vd a)∧(Vd a).length≤2097153:=by
 obtain⟨r,hr,h1,_⟩:=tR hI.cz hI.pts;have:Vd a=r:=by unfold Vd;rw[hr];rfl
 rw[this];have:=hI.cz;exact⟨hr,by omega⟩
theorem Me(hn:DB n)(k:Nat):(SX n k).length≤3145733:=by
 unfold SX;split
 ·simp
 ·rename_i a ha;have hI:=hn.Ps a (List.mem_of_getElem? ha);have h1:=(Qx hI).2;have h2:=hI.dp;have h3:=Tp (n:=n) (a:=a) (kn:=Sn n k a) (tr:=Vd a);rw[List.length_map];omega
theorem Mf(hn:DB n):∀k,(FF n k).length≤3145733*k
 |0=>Nat.le_refl _
 |k+1=>by
  have h1:=Mf hn k;have h2:=Me hn k;unfold FF;rw[List.length_append];omega
theorem P1{i:Nat}{a:al}:oH aE.Nx ((n.aI.take i).foldl (fun m a=>sw aE.Nx m (aE.mk a.az a.cw a.ai) true) []) (aE.mk a.az a.cw a.ai) false=Sn n i a:=
 OY (eq:=aE.Nx) Yg (fun a:al=>aE.mk a.az a.cw a.ai) (n.aI.take i) (aE.mk a.az a.cw a.ai)
theorem LQ(hn:DB n)(hB:NA B)(hp:n.aI.length≤B)(ht:∀a∈n.aI,a.cz.length≤B){l0 l:List aa}(hl:l0.length≤1048578):kY n l l0=some (l0++FF n n.aI.length):=by
 have S2:=hn.aI;unfold kY;have:=eJ n.aI.length (fun i=>(l0++FF n i,(n.aI.take i).foldl (fun m a=>sw aE.Nx m (aE.mk a.az a.cw a.ai) true) [],(i:Int))) (B:=fun s:List aa×List (aE×Bool)×Int=>gx n l s.1 s.2.1 s.2.2) (e:=l0++FF n n.aI.length) (by omega) (fun i hi=>by
  have e:n.aI[i]?=some n.aI[i]:=List.getElem?_eq_getElem hi;have MD:=List.getElem_mem hi;have hI:=hn.Ps _ MD;have nP:aT .i64 (i:Int) 1=((i+1:Nat):Int):=by rw[kR (by omega) (by omega)];omega
  obtain⟨d1,d2,d3⟩:=Mq hB (show i<B by omega)
  obtain⟨t1,t2⟩:=Qx hI;have htr:gB n.aI[i].cz=some (Vd n.aI[i]):=by rw[SU hB (ht _ MD)];exact t1
  have hlen:=Mf hn i;have hE:=Me hn i;have hEe:SX n i=(IB n n.aI[i] (Sn n i n.aI[i]) (Vd n.aI[i])).map (tH (BW i)):=by unfold SX;rw[e]
  rw[hEe,List.length_map]at hE;show gx n l (l0++FF n i) ((n.aI.take i).foldl _ []) (i:Int)=some (.inl (l0++FF n (i+1),(n.aI.take (i+1)).foldl _ [],((i+1:Nat):Int)));unfold gx;rw[bu (by simp [aB];omega),ba e,ax,Xz htr t2 hI.dp,ax,P1]
  rw[List.take_add_one,e,Option.toList_some,List.foldl_append,NH,hEe];generalize n.aI[i]=a at *;generalize IB n a (Sn n i a) (Vd a)=E at hE ⊢;generalize(n.aI.take i).foldl (fun m a=>sw aE.Nx m (aE.mk a.az a.cw a.ai) true) []=M
  have y3:=eJ E.length (fun j=>((l0++FF n i)++(E.take j).map (tH (BW i)),(j:Int))) (B:=fun s:List aa×Int=>gy n l M (i:Int) a E s.1 s.2) (e:=(l0++FF n i)++E.map (tH (BW i))) (by omega) (fun j hj=>by
   have e1:E[j]?=some E[j]:=List.getElem?_eq_getElem hj;have Zi:aT .i64 (j:Int) 1=((j+1:Nat):Int):=by rw[kR (by omega) (by omega)];omega
   show gy n l M (i:Int) a E ((l0++FF n i)++(E.take j).map (tH (BW i))) (j:Int)=_;unfold gy;rw[bu (by simp only[ik,aB];omega),ba e1,ax,d1,ax,cr (by show 4+(BW i).size≤_;omega),cr (ca (by simp only[List.length_append,List.length_map,List.length_take,List.length_singleton];omega)),Zi,List.take_add_one,e1,Option.toList_some,List.map_append,←List.append_assoc]
   rfl) (by
   show gy n l M (i:Int) a E ((l0++FF n i)++(E.take E.length).map (tH (BW i))) (E.length:Int)=_;unfold gy;rw[bm (by simp [aB]),List.take_length])
  rw[eg (show aF (fun s:List aa×Int=>gy n l M (i:Int) a E s.1 s.2) (l0++FF n i,0)=_ by simpa using y3)]
  unfold ju;rw[ax,nP];rfl) (by
  show gx n l (l0++FF n n.aI.length) ((n.aI.take n.aI.length).foldl _ []) (n.aI.length:Int)=_;unfold gx;rw[bm (by simp [aB])])
 rw[eg (show aF (fun s:List aa×List (aE×Bool)×Int=>gx n l s.1 s.2.1 s.2.2) (l0,[],0)=_ by simpa [FF]using this)]
theorem OS(hn:DB n)(hB:NA B)(hp:n.aI.length≤B){l0:List aa}(hl:l0.length≤1048578):gH n l0=some (l0++FF n n.aI.length):=by
 have S2:=hn.aI;unfold gH;have:=eJ n.aI.length (fun i=>(l0++FF n i,(i:Int))) (B:=fun s:List aa×Int=>cW n l0 s.1 s.2) (e:=l0++FF n n.aI.length) (by omega) (fun i hi=>by
  have e:n.aI[i]?=some n.aI[i]:=List.getElem?_eq_getElem hi;have MD:=List.getElem_mem hi;have hI:=hn.Ps _ MD;have nP:aT .i64 (i:Int) 1=((i+1:Nat):Int):=by rw[kR (by omega) (by omega)];omega
  obtain⟨d1,d2,d3⟩:=Mq hB (show i<B by omega)
  obtain⟨t1,t2⟩:=Qx hI;have hlen:=Mf hn i;have hE:=Me hn i;have hEe:SX n i=(IB n n.aI[i] (Sn n i n.aI[i]) (Vd n.aI[i])).map (tH (BW i)):=by unfold SX;rw[e]
  show cW n l0 (l0++FF n i) (i:Int)=some (.inl (l0++FF n (i+1),((i+1:Nat):Int)));unfold cW;rw[bu (by simp [aB];omega),Wh e S2 d2 d3 t1 t2 hI.dp,ax,←hEe,cr (ca (by simp only[List.length_append];omega)),nP,NH,List.append_assoc]) (by
  show cW n l0 (l0++FF n n.aI.length) (n.aI.length:Int)=_;unfold cW;rw[bm (by simp [aB])])
 rw[eg (show aF (fun s:List aa×Int=>cW n l0 s.1 s.2) (l0,0)=_ by simpa [FF]using this)]
theorem Ds(hn:DB n)(hB:NA B)(hp:n.av.length≤B)(ha:n.aI.length≤B)(ht:∀a∈n.aI,a.cz.length≤B):qa n=some (HH n)∧gq n=some (HH n):=by
 have A6:=hn.av;have S2:=hn.aI;have hlen:=Jb (n:=n) n.av.length;constructor
 ·have main:∀l0:List aa,l0.length≤1→kW n l0=some ((l0++GG n n.av.length)++((if n.aI.length>1024 then [aa.mk 4 ml]else [])++FF n n.aI.length)):=fun l0 h0=>by
   unfold kW;rw[eg (ON hn hB hp h0)];by_cases h:n.aI.length>1024
   ·rw[bu (by simp [aB];omega),cr (ca (by simp only[List.length_append,List.length_singleton];omega)),LQ hn hB ha ht (by simp only[List.length_append,List.length_singleton];omega),if_pos h]
    simp
   ·rw[bm (by simp [aB];omega),LQ hn hB ha ht (by simp only[List.length_append];omega),if_neg h]
    simp
  unfold qa HH;by_cases h:n.av.length>24
  ·rw[bu (by simp [aB];omega),cr (ca (by simp)),main _ (by simp),if_pos h]
  ·rw[bm (by simp [aB];omega),main _ (by simp),if_neg h]
 ·have main:dU n=some ((if n.av.length>24 then [aa.mk 4 fp]else [])++GG n n.av.length):=by
   unfold dU;by_cases h:n.av.length>24
   ·rw[bu (by simp [aB];omega),cr (ca (by simp)),Kf hn hB hp (l:=[]) (by simp),if_pos h]
   ·rw[bm (by simp [aB];omega),Kf hn hB hp (l:=[]) (by simp),if_neg h]
  unfold gq HH;rw[main,ax];have hle:((if n.av.length>24 then [aa.mk 4 fp]else [])++GG n n.av.length).length≤1048577:=by
   rw[List.length_append];split <;> simp <;> omega
  generalize(if n.av.length>24 then [aa.mk 4 fp]else [])++GG n n.av.length=l0 at hle
  by_cases h:n.aI.length>1024
  ·rw[bu (by simp [aB];omega),cr (ca (by simp only[List.length_append,List.length_singleton];omega)),OS hn hB ha (by simp only[List.length_append,List.length_singleton];omega),if_pos h]
   simp
  ·rw[bm (by simp [aB];omega),OS hn hB ha (by omega),if_neg h]
   simp
end
def tz(t:Bool)(p q:aA):Bool:=(aW p.x0 q.x0&&aW p.x1 q.x1)||(t&&(aW p.x0 q.x1&&aW p.x1 q.x0))
def KK(aj:Int)(p:aA):Bool:=((((aS p.x0 0)||(bP p.x0 aj))||(aS p.x1 0))||(bP p.x1 aj))||(aW p.x0 p.x1)
def pE(t:Bool)(aj:Int)(l:List aA)(i:Nat):Nat:=match l[i]? with
 |none=>0
 |some p=>if(KK aj p||(l.take i).any (tz t p))=true then 1 else 0
def pN(t:Bool)(aj:Int)(l:List aA):Nat→Nat
 |0=>0
 |k+1=>pN t aj l k+pE t aj l k
def AT(t:Bool)(aj:Int)(l:List aA):Nat:=(if l.length>16 then 1 else 0)+pN t aj l l.length
def I1(r:List aa)(k:Nat):Prop:=r.length=k∧∀f∈r,f.ct.size≤64
theorem I1.snoc{r:List aa}{k:Nat}{f:aa}(h:I1 r k)(hf:f.ct.size≤64):I1 (r++[f]) (k+1):=by
 refine⟨by simp [h.1],fun g hg=>?_⟩
 rcases List.mem_append.1 hg with hg|hg
 ·exact h.2 g hg
 ·rw[List.mem_singleton.1 hg];exact hf
section
variable {t : Bool} {aj : Int} {l : List aA} {word : ByteArray} {p : aA}
theorem Qak(i:Nat):pE t aj l i≤1:=by
 unfold pE;split
 ·omega
 ·split <;> omega
theorem UB:∀k,pN t aj l k≤k
 |0=>Nat.le_refl _
 |k+1=>by
  have h1:=UB k;have h2:=Qak (t:=t) (aj:=aj) (l:=l) k;unfold pN;omega
theorem Qaj{i:Nat}(h:l[i]?=some p):pE t aj l i=if(KK aj p||(l.take i).any (tz t p))=true then 1 else 0:=by
 unfold pE;rw[h]
theorem RW:∀d:Nat,d<10→(Kk (wz .i32 (aT .i64 48 (d:Int)))).size=1:=by decide +kernel
theorem Lm:∀(k fuel n:Nat),n<10 ^ k→1≤k→k≤20→k≤fuel→n<9223372036854775808→∃s,nY fuel (n:Int)=some s∧s.size≤k
 |0,_,_,_,h,_,_,_=>by omega
 |k+1,0,_,_,_,_,h,_=>by omega
 |k+1,fuel+1,n,hn,_,rl,hf,hb=>by
  have hr:yG (n:Int) 10=((n % 10:Nat):Int):=by unfold yG;rw[Int.tmod_eq_emod_of_nonneg (by omega)];rfl
  have h1:=RW (n % 10) (Nat.mod_lt _ (by omega))
  show ∃s,nX (nY fuel) (n:Int)=some s∧s.size≤k+1;unfold nX;rw[hr];by_cases dq:n<10
  ·rw[bu (by rw[ik];omega)]
   exact⟨_,rfl,by omega⟩
  ·rw[bm (by rw[jn];omega)]
   have hq:vX .i64 (n:Int) 10=((n / 10:Nat):Int):=by
    have h2:((n:Int)).tdiv 10=((n / 10:Nat):Int):=by rw[Int.tdiv_eq_ediv_of_nonneg (by omega)];rfl
    rw[Wa (by rw[h2];omega) (by rw[h2];omega),h2]
   have hk1:1≤k:=by
    rcases Nat.eq_zero_or_pos k with rfl|h
    ·simp at hn;omega
    ·exact h
   obtain⟨s,hs,jM⟩:=Lm k fuel (n / 10) (by rw[Nat.pow_succ]at hn;omega) hk1 (by omega) (by omega) (by omega)
   rw[hq,hs,ax,cr (by omega)]
   exact⟨_,rfl,by rw[hY];omega⟩
theorem Ln{i:Nat}(hi:i<1048576):∃s,uj (i:Int)=some s∧s.size≤7:=Lm 7 xM i (by omega) (by omega) (by omega) (by unfold xM;omega) (by omega)
theorem Uv(a b:aA):uK a b=some (tz true a b):=by
 unfold uK tz;cases aW a.x0 b.x0 <;> cases aW a.x1 b.x1 <;> cases aW a.x0 b.x1 <;> rfl
theorem TH(a b:aA):uJ a b=some (tz false a b):=by
 unfold uJ tz;cases aW a.x0 b.x0 <;> cases aW a.x1 b.x1 <;> rfl
theorem Ud:((bP p.x0 0&&aS p.x0 aj)&&((bP p.x1 0&&aS p.x1 aj)&&!aW p.x0 p.x1))=!KK aj p:=by
 unfold KK;rw[Bool.eq_iff_iff];simp only[EG,ntT,Ja,tl,ik,jn,JQ,yZ];omega
theorem E6{B:List aa×Int→Option ((List aa×Int)⊕List aa)}{l0:List aa}{k0:Nat}(h0:I1 l0 k0)(Oj:k0≤1)(hl:l.length≤1048576)
  (step:∀(i:Nat) (p:aA) (out:List aa),l[i]?=some p→out.length≤1048577→∃s:ByteArray,s.size≤64∧∃e:Int,B (out,(i:Int))=some (.inl (if(KK aj p||(l.take i).any (tz t p))=true then out++[aa.mk e s]else out,(i:Int)+1)))
  (fin:∀out,B (out,(l.length:Int))=some (.inr out)):post (aF B (l0,0)) fun r=>I1 r (k0+pN t aj l l.length):=by
 refine gT (fun s=>∃i:Nat,s.2=(i:Int)∧i≤l.length∧I1 s.1 (k0+pN t aj l i)) (fun s=>l.length-s.2.toNat) ⟨0,rfl,Nat.zero_le _,h0⟩ (by simp;omega) ?_
 rintro⟨out,_⟩ ⟨i,rfl,hi,hS⟩;have hN:=UB (t:=t) (aj:=aj) (l:=l) i;have hS1:=hS.1;simp only at hS1;rcases Nat.lt_or_ge i l.length with h|h
 ·have e:l[i]?=some l[i]:=List.getElem?_eq_getElem h;obtain⟨s,hs,er,hB⟩:=step i _ out e (by omega)
  rw[hB];refine ki ⟨⟨i+1,by simp,h,?_⟩,by show l.length-((i:Int)+1).toNat<l.length-(i:Int).toNat;omega⟩
  show I1 (if(KK aj l[i]||(l.take i).any (tz t l[i]))=true then out++[aa.mk er s]else out) (k0+(pN t aj l i+pE t aj l i))
  rw[Qaj e];split
  ·exact hS.snoc hs
  ·exact hS
 ·obtain rfl:i=l.length:=by omega
  rw[fin];exact fG hS
theorem Ke(hl:l.length≤1048576)(hw:word.size≤20){l0:List aa}{k0:Nat}(h0:I1 l0 k0)(Oj:k0≤1):post (fm aj word l l0) fun r=>I1 r (k0+pN true aj l l.length):=by
 unfold fm;refine bG (E6 (t:=true) (aj:=aj) (l:=l) h0 Oj hl (B:=fun s=>dN aj word l s.1 s.2) (fun i p out e ho=>?_) (fun out=>?_)) fun r hr=>bj.2 hr
 ·have hi:=(List.getElem?_eq_some_iff.1 e).1;obtain⟨s,hs,jM⟩:=Ln (show i<1048576 by omega)
  have KG:bn.size=1:=rfl;refine⟨bH (bH word bn) s,by rw[hY,hY];omega,?_⟩
  have qo:∀f:aa,d_ (out++[f]).length 24:=fun f=>ca (by simp;omega)
  have wC:=Ud (p:=p) (aj:=aj);have T8:(l.take i).length=i:=by rw[List.length_take];omega
  show ∃e,dN aj word l out (i:Int)=_;unfold dN kQ;rw[bu (by simp [aB];omega),inc hi hl,ba e,ax,cr (by omega),hs,ax,cr (by rw[hY];omega),ax,ax,cr (qo _),Nc (by omega),ax]
  have JT:aF (fun q=>dk aj word l out (i:Int) p s (l.take i) q) 0=some (if((l.take i).any (tz true p))=true then out++[aa.mk 6 (bH (bH word bn) s)]else out):=qg (B:=fun q=>dk aj word l out (i:Int) p s (l.take i) q) (l:=l.take i) (by omega) (tz true p) (fun j a h=>by
   show dk aj word l out (i:Int) p s (l.take i) (j:Int)=_;unfold dk;rw[jq h,Uv,ax,cr (qo _),vQ h (by omega),QJ]) (by
   show dk aj word l out (i:Int) p s (l.take i) ((l.take i).length:Int)=_;unfold dk;rw[hZ])
  rw[eg JT];cases hb:KK aj p with
  |true =>
   refine⟨2,?_⟩;rw[hb]at wC;rw[Bool.true_or,if_pos rfl];cases h1:(bP p.x0 0&&aS p.x0 aj)with
   |false=>rfl
   |true =>
    cases h2:(bP p.x1 0&&aS p.x1 aj)with
    |false=>rfl
    |true =>
     rw[h1,h2]at wC;have:aW p.x0 p.x1=true:=by
      cases h3:aW p.x0 p.x1 with
      |true=>rfl
      |false=>rw[h3]at wC;cases wC
     rw[de,de,this];rfl
  |false =>
   refine⟨6,?_⟩;rw[hb]at wC;simp only[Bool.not_false,Bool.and_eq_true,Bool.not_eq_true']at wC;rw[show(bP p.x0 0&&aS p.x0 aj)=true from by rw[wC.1.1,wC.1.2];rfl,show(bP p.x1 0&&aS p.x1 aj)=true from by rw[wC.2.1.1,wC.2.1.2];rfl,de,de,wC.2.2,cP,Bool.false_or]
 ·show dN aj word l out (l.length:Int)=_;unfold dN;rw[bm (by simp [aB])]
theorem Kd(hl:l.length≤1048576)(hw:word.size≤20){l0:List aa}{k0:Nat}(h0:I1 l0 k0)(Oj:k0≤1):post (ir aj word l l0) fun r=>I1 r (k0+pN false aj l l.length):=by
 unfold ir;refine bG (E6 (t:=false) (aj:=aj) (l:=l) h0 Oj hl (B:=fun s=>eZ aj word l s.1 s.2) (fun i p out e ho=>?_) (fun out=>?_)) fun r hr=>bj.2 hr
 ·have hi:=(List.getElem?_eq_some_iff.1 e).1;obtain⟨s,hs,jM⟩:=Ln (show i<1048576 by omega)
  have KG:bn.size=1:=rfl;refine⟨bH (bH word bn) s,by rw[hY,hY];omega,?_⟩
  have qo:∀f:aa,d_ (out++[f]).length 24:=fun f=>ca (by simp;omega)
  have wC:=Ud (p:=p) (aj:=aj);have T8:(l.take i).length=i:=by rw[List.length_take];omega
  show ∃e,eZ aj word l out (i:Int)=_;unfold eZ kQ;rw[bu (by simp [aB];omega),inc hi hl,ba e,ax,cr (by omega),hs,ax,cr (by rw[hY];omega),ax,ax,cr (qo _),Nc (by omega),ax]
  have JT:aF (fun q=>eC aj word l out (i:Int) p s (l.take i) q) 0=some (if((l.take i).any (tz false p))=true then out++[aa.mk 6 (bH (bH word bn) s)]else out):=qg (B:=fun q=>eC aj word l out (i:Int) p s (l.take i) q) (l:=l.take i) (by omega) (tz false p) (fun j a h=>by
   show eC aj word l out (i:Int) p s (l.take i) (j:Int)=_;unfold eC;rw[jq h,TH,ax,cr (qo _),vQ h (by omega),QJ]) (by
   show eC aj word l out (i:Int) p s (l.take i) ((l.take i).length:Int)=_;unfold eC;rw[hZ])
  rw[eg JT];cases hb:KK aj p with
  |true =>
   refine⟨2,?_⟩;rw[hb]at wC;rw[Bool.true_or,if_pos rfl];cases h1:(bP p.x0 0&&aS p.x0 aj)with
   |false=>rfl
   |true =>
    cases h2:(bP p.x1 0&&aS p.x1 aj)with
    |false=>rfl
    |true =>
     rw[h1,h2]at wC;have:aW p.x0 p.x1=true:=by
      cases h3:aW p.x0 p.x1 with
      |true=>rfl
      |false=>rw[h3]at wC;cases wC
     rw[de,de,this];rfl
  |false =>
   refine⟨6,?_⟩;rw[hb]at wC;simp only[Bool.not_false,Bool.and_eq_true,Bool.not_eq_true']at wC;rw[show(bP p.x0 0&&aS p.x0 aj)=true from by rw[wC.1.1,wC.1.2];rfl,show(bP p.x1 0&&aS p.x1 aj)=true from by rw[wC.2.1.1,wC.2.1.2];rfl,de,de,wC.2.2,cP,Bool.false_or]
 ·show eZ aj word l out (l.length:Int)=_;unfold eZ;rw[bm (by simp [aB])]
theorem LX(hl:l.length≤1048576)(hw:word.size≤20){l0:List aa}{k0:Nat}(h0:I1 l0 k0)(Oj:k0≤1):post (fU aj l word t l0) fun r=>I1 r (k0+pN t aj l l.length):=by
 unfold fU;refine bG (E6 (t:=t) (aj:=aj) (l:=l) h0 Oj hl (B:=fun s=>c8 aj l word t s.1 s.2) (fun i p out e ho=>?_) (fun out=>?_)) fun r hr=>bj.2 hr
 ·have hi:=(List.getElem?_eq_some_iff.1 e).1;obtain⟨s,hs,jM⟩:=BX (show i<1048576 by omega)
  have KG:bn.size=1:=rfl;refine⟨bH (bH word bn) s,by rw[hY,hY];omega,?_⟩
  have qo:∀f:aa,d_ (out++[f]).length 24:=fun f=>ca (by simp;omega)
  show ∃e,c8 aj l word t out (i:Int)=_;unfold c8;have Nw:aF (fun q:Bool×Int=>du aj l word t out (i:Int) p s q.1 q.2) (false,0)=some ((l.take i).any (tz t p)):=by
   have:=eJ i (fun k=>((l.take k).any (tz t p),(k:Int))) (B:=fun q:Bool×Int=>du aj l word t out (i:Int) p s q.1 q.2) (e:=(l.take i).any (tz t p)) (by omega) (fun k hk=>by
    have e1:l[k]?=some (l[k]'(by omega)):=List.getElem?_eq_getElem _
    have nP:aT .i64 (k:Int) 1=((k+1:Nat):Int):=by rw[kR (by omega) (by omega)];omega
    show du aj l word t out (i:Int) p s ((l.take k).any (tz t p)) (k:Int)=_;unfold du;rw[bu (by simp;omega),ba e1,ax,nP,List.take_add_one,e1,Option.toList_some,List.any_append]
    generalize l[k]'(by omega)=q
    simp only[List.any_cons,List.any_nil,Bool.or_false];have sy:∀a b:Int,aW a b=aW b a:=fun a b=>by rw[Bool.eq_iff_iff,tk,tk];exact eq_comm
    unfold tz;rw[sy q.x0 p.x0,sy q.x1 p.x1,sy q.x0 p.x1,sy q.x1 p.x0];cases(l.take k).any _ <;> cases aW p.x0 q.x0 <;> cases aW p.x1 q.x1 <;> cases t <;> cases aW p.x1 q.x0 <;> cases aW p.x0 q.x1 <;> rfl) (by
    show du aj l word t out (i:Int) p s ((l.take i).any (tz t p)) (i:Int)=_;unfold du;rw[bm (by simp)])
   simpa using this
  rw[bu (by simp [aB];omega),inc hi hl,ba e,ax,cr (by omega),hs,ax,cr (by rw[hY];omega),eg Nw,cr (qo _),cr (qo _)]
  show ∃e,br (KK aj p) _ _=_;cases KK aj p with
  |true=>exact⟨2,rfl⟩
  |false =>
   refine⟨6,?_⟩;rw[cP,QJ,Bool.false_or];split <;> rfl
 ·show c8 aj l word t out (l.length:Int)=_;unfold c8;rw[bm (by simp [aB])]
theorem Qh(hw:word.size≤20){e:Int}:I1 [aa.mk e word] 1:=⟨rfl,fun f hf=>by rw[List.mem_singleton.1 hf];show word.size≤64;omega⟩
theorem Qd:I1 [] 0:=⟨rfl,fun f hf=>by cases hf⟩
theorem zh:AT t aj l≤1+l.length:=by
 have:=UB (t:=t) (aj:=aj) (l:=l) l.length;unfold AT;split <;> omega
theorem Qao(hl:l.length≤1048576)(hw:word.size≤20):post (jc aj word l) fun r=>I1 r (AT true aj l):=by
 unfold jc AT;refine bh (fun h=>b5 (ca (by simp)) ?_) (fun h=>?_)
 ·rw[if_pos (by rw[qS,aB]at h;omega)];exact Ke hl hw (Qh hw) (Nat.le_refl _)
 ·rw[if_neg (by rw[kO,aB]at h;omega)];exact Ke hl hw Qd (by omega)
theorem Qan(hl:l.length≤1048576)(hw:word.size≤20):post (mj aj word l) fun r=>I1 r (AT false aj l):=by
 unfold mj AT;refine bh (fun h=>b5 (ca (by simp)) ?_) (fun h=>?_)
 ·rw[if_pos (by rw[qS,aB]at h;omega)];exact Kd hl hw (Qh hw) (Nat.le_refl _)
 ·rw[if_neg (by rw[kO,aB]at h;omega)];exact Kd hl hw Qd (by omega)
theorem Qas(hl:l.length≤1048576)(hw:word.size≤20):post (gN aj l word t) fun r=>I1 r (AT t aj l):=by
 unfold gN AT;refine bh (fun h=>b5 (ca (by simp)) ?_) (fun h=>?_)
 ·rw[if_pos (by rw[qS,aB]at h;omega)];exact LX hl hw (Qh hw) (Nat.le_refl _)
 ·rw[if_neg (by rw[kO,aB]at h;omega)];exact LX hl hw Qd (by omega)
theorem Qai:lM aj l word t=gN aj l word t:=rfl
end
theorem I1.app{a b:List aa}{j k:Nat}(ha:I1 a j)(hb:I1 b k):I1 (a++b) (j+k):=by
 refine⟨by simp [ha.1,hb.1],fun f hf=>?_⟩
 rcases List.mem_append.1 hf with hf|hf
 ·exact ha.2 f hf
 ·exact hb.2 f hf
theorem Ql{aj:Int}{a b:List aA}(ha:a.length≤1048576)(hb:b.length≤1048576):post (uI aj a b) fun r=>I1 r (AT true aj a+AT false aj b):=by
 have h1:=zh (t:=true) (aj:=aj) (l:=a);have h2:=zh (t:=false) (aj:=aj) (l:=b);unfold uI;refine bG (Qao ha (by show 5≤20;omega)) fun r hr=>bG (Qan hb (by show 6≤20;omega)) fun q hq=>?_
 have:=hr.1;have:=hq.1;exact b5 (ca (by simp;omega)) (bj.2 (hr.app hq))
theorem SG{aj:Int}{a b:List aA}(ha:a.length≤1048576)(hb:b.length≤1048576):post (ic aj a b) fun r=>I1 r (AT true aj a+AT false aj b):=by
 have h1:=zh (t:=true) (aj:=aj) (l:=a);have h2:=zh (t:=false) (aj:=aj) (l:=b);unfold ic;rw[Qai];refine bG (Qas ha (by show 5≤20;omega)) fun r hr=>bG (Qas hb (by show 6≤20;omega)) fun q hq=>?_
 have:=hr.1;have:=hq.1;exact b5 (ca (by simp;omega)) (bj.2 (hr.app hq))
section
variable {x : ae}
theorem x9{word:ByteArray}{r:List aa}(hw:word.size≤20)(hr:r.length≤5000000000000)(hs:∀f∈r,f.ct.size≤64):post (jE word r) fun x=>x.length=r.length:=by
 unfold jE;have hm:K1 0 (aB r) 24 (aa.mk 0 ByteArray.empty)=some []:=by unfold K1 aB;rw[if_pos (by omega)];rfl
 rw[hm,ax];refine tQ ?_
 refine gT (fun s=>∃k:Nat,s.2=(k:Int)∧k≤r.length∧s.1.length=k) (fun s=>r.length-s.2.toNat) ⟨0,rfl,Nat.zero_le _,rfl⟩ (by simp;omega) ?_
 rintro⟨out,_⟩ ⟨k,rfl,hk,hl⟩;show post (mb word r out (k:Int)) _;unfold mb ma;refine bh (fun hb=>?_) (fun hb=>fG (bj.2 ?_))
 ·simp only[ik,aB]at hb;simp only at hl;have zz:k<r.length:=by omega
  have e1:r[k]?=some r[k]:=List.getElem?_eq_getElem zz;have hsk:(r[k]).ct.size≤64:=hs _ (List.getElem_mem zz);have nP:aT .i64 (k:Int) 1=(k:Int)+1:=kR (by omega) (by omega)
  have KG:bn.size=1:=rfl;rw[ba e1,ax,nP];have leaf:∀f:aa,post (dr (d_ (out++[f]).length 24) (some (Sum.inl (out++[f],(k:Int)+1):(List aa×Int)⊕(List aa)))) fun x=>(∀s',x=.inl s'→(∃k:Nat,s'.2=(k:Int)∧k≤r.length∧s'.1.length=k)∧r.length-s'.2.toNat<r.length-((out,(k:Int)):List aa×Int).2.toNat)∧∀e,x=.inr e→post (some e) fun x=>x.length=r.length:=
   fun f=>b5 (ca (by simp;omega)) (ki ⟨⟨k+1,by simp,by omega,by simp;omega⟩,by simp;omega⟩)
  exact bh (fun _=>leaf _) (fun _=>b5 (by omega) (b5 (by rw[hY];omega) (leaf _)))
 ·simp only[jn,aB]at hb;simp only at hl;omega
theorem PA{a b c d:List aa}(h:a.length+b.length+c.length+d.length≤5000000000000):dF [a,b,c,d]=some (a++b++c++d):=by
 have l1:aF (fun s:Int×Int=>bC [a,b,c,d] s.1 s.2) (0,0)=some ((a.length+b.length+c.length+d.length:Nat):Int):=by
  have:=eJ 4 (fun k=>(((([a,b,c,d].take k).map List.length).sum:Nat),(k:Int))) (B:=fun s:Int×Int=>bC [a,b,c,d] s.1 s.2) (e:=((a.length+b.length+c.length+d.length:Nat):Int)) (by omega) (fun k hk=>by
   have e1:[a,b,c,d][k]?=some ([a,b,c,d][k]'(by simpa using hk)):=List.getElem?_eq_getElem _
   have nP:aT .i64 (k:Int) 1=((k+1:Nat):Int):=by rw[kR (by omega) (by omega)];omega
   have hs:(([a,b,c,d].take (k+1)).map List.length).sum=(([a,b,c,d].take k).map List.length).sum+([a,b,c,d][k]'(by simpa using hk)).length:=by
    rw[List.take_add_one,e1,Option.toList_some,List.map_append,List.sum_append];simp
   have hle:(([a,b,c,d].take (k+1)).map List.length).sum≤5000000000000:=by
    have:k=0∨k=1∨k=2∨k=3:=by omega
    rcases this with rfl|rfl|rfl|rfl <;> simp <;> omega
   show bC [a,b,c,d] (((([a,b,c,d].take k).map List.length).sum:Nat):Int) (k:Int)=some (.inl (((([a,b,c,d].take (k+1)).map List.length).sum:Nat),((k+1:Nat):Int)));unfold bC;rw[bu (by simp [aB];omega),ba e1,ax,nP]
   rw[hs]at hle ⊢;unfold aB;rw[kR (by omega) (by omega),bm (by rw[jn];omega)]
   simp) (by
   show bC [a,b,c,d] (((([a,b,c,d].take 4).map List.length).sum:Nat):Int) ((4:Nat):Int)=_;unfold bC;rw[bm (by simp [aB])]
   simp;omega)
  simpa using this
 have l2:cU ((a.length+b.length+c.length+d.length:Nat):Int)=some []:=by
  unfold cU;have hz:dA .i64 (((a.length+b.length+c.length+d.length:Nat)):Int) (dA .i64 0 0)=((a.length+b.length+c.length+d.length:Nat):Int):=by
   rw[xC (a:=(0:Int)) (b:=0) (by omega) (by omega),xC (by omega) (by omega)];omega
  rw[hz,bm (by rw[jn];omega)]
  by_cases h0:0<a.length+b.length+c.length+d.length
  ·rw[bu (by rw[qS];omega)]
   unfold K1;rw[if_pos (by omega),ax]
   unfold wa;rw[if_pos (by simp;omega)]
   rfl
  ·rw[bm (by rw[kO];omega)]
 have l3:aF (fun s:List aa×Int=>bD [a,b,c,d] s.1 s.2) ([],0)=some (a++b++c++d):=by
  have:=eJ 4 (fun k=>(([a,b,c,d].take k).flatten,(k:Int))) (B:=fun s:List aa×Int=>bD [a,b,c,d] s.1 s.2) (e:=a++b++c++d) (by omega) (fun k hk=>by
   have e1:[a,b,c,d][k]?=some ([a,b,c,d][k]'(by simpa using hk)):=List.getElem?_eq_getElem _
   have nP:aT .i64 (k:Int) 1=((k+1:Nat):Int):=by rw[kR (by omega) (by omega)];omega
   have hs:([a,b,c,d].take (k+1)).flatten=([a,b,c,d].take k).flatten++([a,b,c,d][k]'(by simpa using hk)):=by
    rw[List.take_add_one,e1,Option.toList_some,List.flatten_append];simp
   have hle:(([a,b,c,d].take (k+1)).flatten).length≤5000000000000:=by
    have:k=0∨k=1∨k=2∨k=3:=by omega
    rcases this with rfl|rfl|rfl|rfl <;> simp <;> omega
   show bD [a,b,c,d] (([a,b,c,d].take k).flatten) (k:Int)=some (.inl (([a,b,c,d].take (k+1)).flatten,((k+1:Nat):Int)));unfold bD;rw[hs]at hle ⊢;rw[bu (by simp [aB];omega),ba e1,ax,nP,cr (ca (by omega))]) (by
   show bD [a,b,c,d] (([a,b,c,d].take 4).flatten) ((4:Nat):Int)=_;unfold bD;rw[bm (by simp [aB])]
   simp)
  simpa using this
 unfold dF;rw[eg l1,l2,ax,eg l3]
structure Ji (x:ae):Prop where
 av:x.b8.av.length≤100
 aI:x.b8.aI.length≤100
 cz:∀a∈x.b8.aI,a.cz.length≤100
 types:x.types.length≤100
 aj:x.aj.length≤100
theorem Uf(hI:wk x)(hF:Ji x):∃rp rr,mM x=some rp∧cO x=some rr∧rp.length=rr.length:=by
 have h1:=hI.types;have h2:=hI.aj;have h3:=hI.cb;have h4:=hI.before;have h5:=hI.b8.aI;obtain⟨n1,n2⟩:=Ds hI.b8 FZ hF.av hF.aI hF.cz;obtain⟨r,hr,hE⟩:=tS (n:=x.b8) hI.b8;rw[n2]at hr;cases hr;have l1:=hE.JZ;have s1:∀f∈HH x.b8,f.ct.size≤64:=hE.Wm;obtain⟨t,ht,htE⟩:=FT (n:=x.b8) hI.b8.av h1 hI.SV;have l2:=htE.JZ;have s2:∀f∈t,f.ct.size≤64:=htE.Wm;have S8:qR x.b8 x.types=some t:=by rw[Pa hF.types fun y hy=>(hI.SV y hy).cap];exact ht
 have hd:wB x.types=some (rA x.types:Int):=F1 (l0:=x.types);obtain⟨o,ho,hoE⟩:=FU (n:=x.b8) (types:=x.types.length) (bt:=rA x.types) hI.b8.av h2 hI.SA;have l3:=hoE.JZ;have s3:∀f∈o,f.ct.size≤64:=hoE.Wm;have ho':q9 x.b8 (rA x.types:Int) (aB x.types) x.aj=some o:=by rw[MV hF.aj fun y hy=>(hI.SA y hy).load];exact ho
 obtain⟨p,hp,hpS⟩:=Ql (aj:=aB x.aj) h3 h4;obtain⟨q,hq,hqS⟩:=SG (aj:=aB x.aj) h3 h4;have b1:=zh (t:=true) (aj:=aB x.aj) (l:=x.cb);have b2:=zh (t:=false) (aj:=aB x.aj) (l:=x.before);have lp:=hpS.1;have lq:=hqS.1;obtain⟨u1,hu1,k1⟩:=x9 (word:=lC) (show 3≤20 by omega) (by omega) s1
 obtain⟨u2,hu2,k2⟩:=x9 (word:=sO) (show 5≤20 by omega) (by omega) s2
 obtain⟨u3,hu3,k3⟩:=x9 (word:=qf) (show 6≤20 by omega) (by omega) s3
 obtain⟨u4,hu4,k4⟩:=x9 (word:=sN) (show 5≤20 by omega) (by omega) hpS.2
 obtain⟨v1,VV,j1⟩:=(nK (word:=lC) (show 3≤20 by omega) (by omega) s1:post (eB lC _) _)
 obtain⟨v2,KX,j2⟩:=nK (word:=sO) (show 5≤20 by omega) (by omega) s2
 obtain⟨v3,hv3,j3⟩:=nK (word:=qf) (show 6≤20 by omega) (by omega) s3
 obtain⟨v4,hv4,j4⟩:=nK (word:=sN) (show 5≤20 by omega) (by omega) hqS.2
 have X_:eB lC (HH x.b8)=some v1:=VV;refine⟨u1++u2++u3++u4,((v1++v2)++v3)++v4,?_,?_,by simp;omega⟩
 ·unfold mM;rw[n1,ax,hu1,ax,S8,ax,hu2,ax,hd,ax,ho',ax,hu3,ax,hp,ax,hu4,ax,PA (by omega),ax]
 ·unfold cO;rw[n2,ax,X_,ax,ht,ax,KX,ax,cr (ca (by simp;omega)),F1,ax,show aB x.types=((x.types.length:Nat):Int)from rfl,ho,ax,hv3,ax,cr (ca (by simp;omega)),hq,ax,hv4,ax,cr (ca (by simp;omega))]
theorem Sj(hI:wk x)(hF:Ji x):∃rp rr,mM x=some rp∧cO x=some rr∧rp.length=rr.length∧(rr=[]→gU x):=by
 obtain⟨rp,rr,h1,h2,h3⟩:=Uf hI hF;obtain⟨q,hq,hP⟩:=FV hI;rw[h2]at hq;cases hq;exact⟨rp,rr,h1,h2,h3,hP⟩
end
section
variable {n : ah} {ai az cw t : Int}
theorem Dl{C:List Int→Prop}{aI:List al}{s:List Int}(h0:C s)(hs:∀(u:List Int) (a:al),a∈aI→C u→C (ya ai u a)):∀j,C (iter ai aI s j)
 |0=>h0
 |j+1=>by
  have ih:=Dl h0 hs j;show C (pass ai aI (iter ai aI s j));unfold pass ja;rw[List.take_length];generalize iter ai aI s j=u at ih;have key:∀(l:List al),(∀a∈l,a∈aI)→∀u,C u→C (l.foldl (ya ai) u):=by
   intro l;induction l with
   |nil=>intro _ u hu;exact hu
   |cons a r ihl =>
    intro hl u hu;exact ihl (fun b hb=>hl b (List.mem_cons_of_mem _ hb)) _ (hs u a (hl a (List.mem_cons_self ..)) hu)
  exact key aI (fun a ha=>ha) u ih
theorem JB(h0:0≤az)(h1:az<n.av.length):uS n ai az t=iter ai n.aI (cS n.av.length az t) n.av.length:=by
 unfold uS;rw[if_pos (by unfold iJ;simp;omega)]
theorem F5:(uS n ai az t).length=n.av.length:=by
 unfold uS;split
 ·rw[Cd];simp [cS]
 ·simp
theorem JC(qo:td n)(h0:0≤az)(h1:az<n.av.length)(ht:0≤t)(S8:t≤1048576){a:al}(ha:a∈n.aI):K8 ai (uS n ai az t) a:=by
 obtain⟨i,hi⟩:=List.getElem?_of_mem ha;have hil:=(List.getElem?_eq_some_iff.1 hi).1;have hp:=Du (ai:=ai) (t:=t) qo h0 h1 ht S8 n.av.length;have e1:=(hp i (by omega)).2 (by omega)
 have e2:=(hp (i+1) (by omega)).2 (by omega)
 rw[tP hi,e1]at e2;have hl:(iter ai n.aI (cS n.av.length az t) n.av.length).length=n.av.length:=by rw[Cd];simp [cS]
 rw[JB h0 h1];have VP:¬use ai (iter ai n.aI (cS n.av.length az t) n.av.length) a:=fun hu=>US hl (qo.all a ha) hu e2
 intro X2 pM;unfold use at VP;have:¬(ct (iter ai n.aI (cS n.av.length az t) n.av.length) a.cw.toNat<0∨s_ a (ct (iter ai n.aI (cS n.av.length az t) n.av.length) a.az.toNat)<ct (iter ai n.aI (cS n.av.length az t) n.av.length) a.cw.toNat):=fun h=>VP ⟨X2,pM,h⟩
 omega
theorem Kg{s:List Int}{a:al}(hl:s.length=n.av.length)(ha:AI n.av.length a)(v:Nat):ct (ya ai s a) v=ct s v∨(use ai s a∧v=a.cw.toNat∧ct (ya ai s a) v=s_ a (ct s a.az.toNat)):=by
 by_cases hu:use ai s a
 ·rw[wj hu,Mi (by have:=ha.Wu;have:=ha.Wv;omega)]
  by_cases hv:v=a.cw.toNat
  ·rw[if_pos hv];exact .inr ⟨hu,hv,rfl⟩
  ·rw[if_neg hv];exact .inl rfl
 ·rw[pw hu];exact .inl rfl
theorem JD(qo:td n)(h0:0≤az)(h1:az<n.av.length)(ht:0≤t):0≤ct (uS n ai az t) az.toNat∧ct (uS n ai az t) az.toNat≤t:=by
 rw[JB h0 h1];have:=Dl (ai:=ai) (C:=fun s=>s.length=n.av.length∧0≤ct s az.toNat∧ct s az.toNat≤t) (aI:=n.aI) (s:=cS n.av.length az t) ⟨by simp [cS],by rw[G4 h0 h1,if_pos rfl];omega⟩ (fun u a ha hu=>by
  obtain⟨u1,u2,u3⟩:=hu;have hA:=qo.all a ha;refine⟨by rw[Dx];exact u1,?_⟩
  rcases Kg (ai:=ai) u1 hA az.toNat with h|⟨h2,h3,h4⟩
  ·rw[h];exact⟨u2,u3⟩
  ·rw[h4];have U3:=FJ hA (ct u a.az.toNat);obtain⟨_,k1,k2⟩:=h2;rw[←h3]at k2;omega) n.av.length
 exact this.2
theorem RY(qo:td n)(h0:0≤az)(h1:az<n.av.length)(ht:0≤t){S:List Int}(hS:∀a∈n.aI,K8 ai S a)(hf:0≤ct S az.toNat∧ct S az.toNat≤t)(v:Nat)(hv:0≤ct (uS n ai az t) v):
  0≤ct S v∧ct S v≤ct (uS n ai az t) v:=by
 rw[JB h0 h1]at hv ⊢;have:=Dl (ai:=ai) (C:=fun s=>s.length=n.av.length∧∀v,0≤ct s v→0≤ct S v∧ct S v≤ct s v) (aI:=n.aI) (s:=cS n.av.length az t) ⟨by simp [cS],fun v hv=>by
  rw[G4 h0 h1]at hv ⊢;split at hv
  ·rename_i h;subst h;rw[if_pos rfl];exact hf
  ·omega⟩ (fun u a ha hu=>by
  obtain⟨u1,u2⟩:=hu;have hA:=qo.all a ha;refine⟨by rw[Dx];exact u1,fun v hv=>?_⟩
  rcases Kg (ai:=ai) u1 hA v with h|⟨h2,h3,h4⟩
  ·rw[h]at hv ⊢;exact u2 v hv
  ·rw[h4];obtain⟨k0,k1,k2⟩:=h2;obtain⟨s1,s2⟩:=u2 _ k1;obtain⟨d1,d2⟩:=hS a ha k0 s1;have hm:=Dg hA s2;rw[h3];omega) n.av.length
 exact this.2 v hv
theorem TF(qo:td n)(h0:0≤az)(h1:az<n.av.length){d e:Int}(hd:0≤d)(hde:d≤e)(he:e≤1048576)(v:Nat)(hv:0≤ct (uS n ai az e) v):0≤ct (uS n ai az d) v∧ct (uS n ai az d) v≤ct (uS n ai az e) v:=by
 have hf:=JD (ai:=ai) qo h0 h1 hd;exact RY qo h0 h1 (by omega) (fun a ha=>JC qo h0 h1 hd (by omega) ha) ⟨hf.1,by omega⟩ v hv
end
structure Th (x:ae):Prop where
 aj:x.aj.length≤3
 types:x.types.length≤3
 av:x.b8.av.length≤6
 aI:x.b8.aI.length≤30
 cz:∀a∈x.b8.aI,a.cz.length≤20
section
variable {x : ae} {o : ab} {t : ag} {place d : Int}
theorem PE(hI:wk x):post (oY x) fun ok=>ok=true→Th x:=by
 have S2:=hI.b8.aI;unfold oY;refine bh (fun _=>bj.2 fun h=>by cases h) (fun h=>?_)
 simp only[Ja,kO,aB]at h;obtain⟨⟨⟨h1,h2⟩,h3⟩,h4⟩:=h;rw[eg (qg (B:=fun s=>gM x s) (l:=x.b8.aI) (by omega) (fun a=>bU (aB a.cz) 20||bU (aB a.dp) 20) (y:=(.inr false:Unit⊕Bool)) (N:=.inl ()) (fun i a h=>by
  show gM x i=_;unfold gM;rw[jq h,vQ h (by omega)]
  cases bU (aB a.cz) 20 <;> cases bU (aB a.dp) 20 <;> rfl) (by
  show gM x x.b8.aI.length=_;unfold gM;rw[hZ]))]
 by_cases ha:(x.b8.aI.any fun a=>bU (aB a.cz) 20||bU (aB a.dp) 20)=true
 ·rw[if_pos ha,Je];exact bj.2 fun h=>by cases h
 ·rw[if_neg ha,iB];refine bj.2 fun _=>⟨by omega,by omega,by omega,by omega,fun a hm=>?_⟩
  have:=List.any_eq_false.1 (by simpa using ha:(x.b8.aI.any fun a=>bU (aB a.cz) 20||bU (aB a.dp) 20)=false) a hm
  simp only[Bool.or_eq_true,qS,aB,not_or]at this;omega
theorem Th.Qba(h:Th x):Ji x:=⟨by have:=h.av;omega,by have:=h.aI;omega,fun a ha=>by have:=h.cz a ha;omega,by have:=h.types;omega,by have:=h.aj;omega⟩
theorem UK(hI:wk x)(hF:Ji x):∃b,jx x=some b∧(∃rr,cO x=some rr∧b=decide (rr.length=0))∧(b=true→gU x):=by
 obtain⟨rp,rr,h1,h2,h3,h4⟩:=Sj hI hF;refine⟨decide (rr.length=0),?_,⟨rr,h2,rfl⟩,fun h=>h4 (List.eq_nil_of_length_eq_zero (of_decide_eq_true h))⟩
 unfold jx;rw[h1,ax];congr 1;rw[Bool.eq_iff_iff,tk,decide_eq_true_eq,aB];omega
def ka(x:ae)(t:ag):List Int:=uS x.b8 t.ai t.az t.aH
def db(x:ae):aV:=aV.mk x (x.types.map (ka x))
theorem JF(hx:gU x):lB x=some (db x):=by
 have h6:=hx.types;unfold lB db;have:=eJ x.types.length (fun i=>((x.types.take i).map (ka x),(i:Int))) (B:=fun s:List (List Int)×Int=>fH x s.1 s.2) (e:=x.types.map (ka x)) (by omega) (fun i hi=>by
  have e:x.types[i]?=some x.types[i]:=List.getElem?_eq_getElem hi;have hT:=hx.Xt _ (List.getElem_mem hi);have ho:=hT.Z8;have hc:=hT.aQ;show fH x ((x.types.take i).map (ka x)) (i:Int)=_;unfold fH;rw[jq e,Ii hx.b8 ho.1 (by omega),ax,cr (ca (by simp only[List.length_append,List.length_map,List.length_take,List.length_singleton];omega)),vQ e (by omega),List.take_add_one,e,Option.toList_some,List.map_append]
  rfl) (by
  show fH x ((x.types.take x.types.length).map (ka x)) (x.types.length:Int)=_;unfold fH;rw[bm (by simp [aB]),List.take_length])
 rw[eg (show aF (fun s:List (List Int)×Int=>fH x s.1 s.2) ([],0)=_ by simpa using this)]
def fP(x:ae)(o:ab):List ag:=x.types.filter fun t=>wm t o.aL
theorem NC(ht:0≤t.aL∧t.aL≤1073741823){s:Int}(hs:0≤s∧s≤1073741823):nq t s=some (wm t s)∧uU t s=some (wm t s):=by
 obtain⟨b,b1,b2⟩:=Xw ht hs;have:wm t s=b:=by unfold wm;rw[b1];rfl
 rw[this];exact⟨b1,b2⟩
def AX(x:ae)(place out:Int)(t:ag):Int:=if 0≤ct (ka x t) place.toNat∧(out<0∨ct (ka x t) place.toNat<out)then ct (ka x t) place.toNat else out
def iD(x:ae)(o:ab)(place:Int):Int:=(fP x o).foldl (AX x place) (-1)
theorem JJ{α β:Type}{f:β→α→β}{l:List α}{b:β}{i:Nat}{a:α}(h:l[i]?=some a):(l.take (i+1)).foldl f b=f ((l.take i).foldl f b) a:=by
 rw[List.take_add_one,h,Option.toList_some,List.foldl_append];rfl
theorem PC(hx:gU x)(ho:o∈x.aj)(h0:0≤place)(h1:place<x.b8.av.length):jb (db x) o place=some (iD x o place):=by
 have h6:=hx.types;have hs:=(hx.ord o ho).aL;have hff:iD x o place=x.types.foldl (fun out t=>if wm t o.aL=true then AX x place out t else out) (-1):=by
  unfold iD fP;rw[List.foldl_filter]
 rw[hff];unfold jb;have:=eJ x.types.length (fun i=>((x.types.take i).foldl (fun out t=>if wm t o.aL=true then AX x place out t else out) (-1),(i:Int))) (B:=fun s:Int×Int=>dj (db x) o place s.1 s.2) (e:=x.types.foldl (fun out t=>if wm t o.aL=true then AX x place out t else out) (-1)) (by omega) (fun i hi=>by
  have e:x.types[i]?=some x.types[i]:=List.getElem?_eq_getElem hi;have e2:(db x).rG[i]?=some (ka x x.types[i]):=by show(x.types.map (ka x))[i]?=_;rw[List.getElem?_map,e];rfl
  have hl:(ka x x.types[i]).length=x.b8.av.length:=F5;have ek:aT .i64 (i:Int) 1=((i+1:Nat):Int):=(kR (by omega) (by omega)).trans (by omega)
  show dj (db x) o place _ (i:Int)=_;unfold dj;rw[bu (show aS (i:Int) (aB (db x).x.types)=true by rw[ik];show(i:Int)<(x.types.length:Int);omega),show a4 (db x).x.types (i:Int)=some x.types[i]from ba e,ax,ba e2,ax,p7 h0 (by omega),ax,(NC (hx.Xt _ (List.getElem_mem hi)).aL hs).1,ax,ek,JJ e]
  generalize(x.types.take i).foldl (fun out t=>if wm t o.aL=true then AX x place out t else out) (-1)=w
  unfold AX;rw[QJ];cases wm x.types[i] o.aL with
  |false=>simp
  |true =>
   simp only[Bool.true_and,Bool.and_eq_true,Bool.or_eq_true,tl,ik,if_true];split <;> rfl) (by
  show dj (db x) o place _ (x.types.length:Int)=_;unfold dj;rw[bm (show aS (x.types.length:Int) (aB (db x).x.types)=false by rw[jn];show(x.types.length:Int)≤(x.types.length:Int);omega),List.take_length])
 rw[eg (show aF (fun s:Int×Int=>dj (db x) o place s.1 s.2) (-1,0)=_ by simpa using this)]
theorem Wt(hx:gU x)(ht:t∈x.types)(h0:0≤place)(h1:place<x.b8.av.length):mQ x t place=some (ct (ka x t) place.toNat):=by
 have hT:=hx.Xt t ht;have ho:=hT.Z8;have hc:=hT.aQ;have hl:(ka x t).length=x.b8.av.length:=F5;unfold mQ;rw[uZ hx.b8 ho.1 (by omega),ax]
 show br (aS place 0||bP place (aB (ka x t))) _ (aG (a4 (ka x t) place) _)=_;rw[bm (by simp [aB,hl];omega),p7 h0 (by omega),ax]
theorem Vs(hx:gU x)(h0:0≤place)(h1:place<x.b8.av.length):mP x (fP x o) place=some (iD x o place):=by
 have h6:=hx.types;have hlen:(fP x o).length≤x.types.length:=List.length_filter_le ..;unfold mP iD;have:=eJ (fP x o).length (fun i=>(((fP x o).take i).foldl (AX x place) (-1),(i:Int))) (B:=fun s:Int×Int=>c5 x (fP x o) place s.1 s.2) (e:=(fP x o).foldl (AX x place) (-1)) (by omega) (fun i hi=>by
  have e:(fP x o)[i]?=some (fP x o)[i]:=List.getElem?_eq_getElem hi;have hm:(fP x o)[i]∈x.types:=(List.mem_filter.1 (List.getElem_mem hi)).1;have ek:aT .i64 (i:Int) 1=((i+1:Nat):Int):=(kR (by omega) (by omega)).trans (by omega)
  show c5 x (fP x o) place (((fP x o).take i).foldl (AX x place) (-1)) (i:Int)=_;unfold c5;rw[bu (by simp [aB];omega),ba e,ax,Wt hx hm h0 h1,ax,ek,JJ e,QJ]
  generalize((fP x o).take i).foldl (AX x place) (-1)=w;unfold AX;simp only[Bool.and_eq_true,Bool.or_eq_true,tl,ik];split <;> rfl) (by
  show c5 x (fP x o) place (((fP x o).take (fP x o).length).foldl (AX x place) (-1)) ((fP x o).length:Int)=_;unfold c5;rw[bm (by simp [aB]),List.take_length])
 rw[eg (show aF (fun s:Int×Int=>c5 x (fP x o) place s.1 s.2) (-1,0)=_ by simpa using this)]
def K3(x:ae)(t:ag)(place d:Int):Bool:=bP (ct (uS x.b8 t.ai place d) t.cw.toNat) 0&&kP (ct (uS x.b8 t.ai place d) t.cw.toNat) t.aQ
def g_(x:ae)(o:ab)(place d:Int):Bool:=(fP x o).any fun t=>K3 x t place d
theorem M6(hx:gU x)(ho:o∈x.aj)(hd:0≤d)(VL:d≤1048576):jH (db x) o place d=some (g_ x o place d):=by
 have h6:=hx.types;have hs:=(hx.ord o ho).aL;have X1:∀t∈x.types,iM t o (db x) place d=some (wm t o.aL&&K3 x t place d):=fun t ht=>by
  have hT:=hx.Xt t ht;have YT:=hT.cw;have hl:(uS x.b8 t.ai place d).length=x.b8.av.length:=F5;unfold iM;rw[(NC hT.aL hs).1,ax,show(db x).x.b8=x.b8 from rfl,Ii hx.b8 hd VL,ax,p7 YT.1 (by omega),ax]
  cases wm t o.aL <;> rfl
 have Qbl:g_ x o place d=x.types.any fun t=>wm t o.aL&&K3 x t place d:=by
  unfold g_ fP;rw[List.any_filter]
 rw[Qbl];unfold jH cT df;have:=Jd (l:=x.types) (by omega) (fun t=>wm t o.aL&&K3 x t place d) (fun k=>(.inr (k:Int):Unit⊕Int)) (N:=.inl ()) (B:=fun s=>bo (db x).x.types o (db x) place d s) (fun i a h=>by
  show bo x.types o (db x) place d i=_;unfold bo;rw[jq h,X1 a (List.mem_of_getElem? h),ax,vQ h (by omega),QJ]) (by
  show bo x.types o (db x) place d x.types.length=_;unfold bo;rw[hZ])
 rw[eg this,←I7];unfold Ye;cases Rh (fun t=>wm t o.aL&&K3 x t place d) x.types <;> rfl
theorem OV(hx:gU x)(ht:t∈x.types)(hd:0≤d)(VL:d≤1048576):qC x t place d=some (K3 x t place d):=by
 have hT:=hx.Xt t ht;have YT:=hT.cw;have hl:(uS x.b8 t.ai place d).length=x.b8.av.length:=F5;unfold qC K3;rw[uZ hx.b8 hd VL,ax,bu (by simp [aB,hl];omega),p7 YT.1 (by omega),ax,QJ]
 cases h:bP (ct (uS x.b8 t.ai place d) t.cw.toNat) 0 <;> simp
theorem UJ(hx:gU x)(h0:0≤place)(h1:place<x.b8.av.length){e:Int}(hd:0≤d)(hde:d≤e)(he:e≤1048576)(h:g_ x o place e=true):g_ x o place d=true:=by
 unfold g_ at h ⊢;obtain⟨t,ht,hr⟩:=List.any_eq_true.1 h;refine List.any_eq_true.2 ⟨t,ht,?_⟩;unfold K3 at hr ⊢;rw[Bool.and_eq_true,tl,xK]at hr ⊢;have:=TF (ai:=t.ai) hx.b8 h0 h1 hd hde he t.cw.toNat hr.1;omega
end
section
variable {x : ae} {o : ab} {s r : aK} {a : al} {place : Int}
theorem Zj{i j:Nat}(h:i<1048576)(h':j<1048576):wz .i64 (vb .u64 (wz .u64 (aT .i64 (i:Int) (j:Int))) 1)=(((i+j) / 2:Nat):Int):=by
 rw[kR (by omega) (by omega)]
 unfold wz vb;rw[IntKind.wrap_u64,IntKind.wrap_i64];have e:(2:Int) ^ min (Int.toNat 1) (IntKind.u64.bits)=2:=by decide
 rw[e,Int.fdiv_eq_ediv_of_nonneg _ (by omega)]
 omega
theorem UO{c:aV}{c1:ab}{c2:aK}{c3:Int}(p:Nat→Bool)(M:Nat)(hM:M≤5000)(hp:∀k,k<M→im (k:Int) c c1 c2 c3=some (!p k)):post (kD (M:Int) c c1 c2 c3) fun r=>∃n:Nat,r=(n:Int)∧n≤M∧(n=0∨p (n-1)=true)∧(n=M∨p n=false):=by
 unfold kD;refine bG (R:=fun r=>∃n:Nat,r=(n:Int)∧n≤M∧(n=0∨p (n-1)=true)∧(n=M∨p n=false)) ?_ fun r hr=>bj.2 hr
 refine gT (fun s:Int×Int=>∃i j:Nat,s=((i:Int),(j:Int))∧i≤j∧j≤M∧(i=0∨p (i-1)=true)∧(j=M∨p j=false)) (fun s=>(s.2-s.1).toNat) ⟨0,M,rfl,Nat.zero_le _,Nat.le_refl _,.inl rfl,.inl rfl⟩ (by simp;omega) ?_
 rintro _ ⟨i,j,rfl,Zy,hjM,h1,h2⟩;show post (iP c c1 c2 c3 (i:Int) (j:Int)) _;unfold iP;refine bh (fun hb=>?_) (fun hb=>fG ?_)
 ·rw[ik]at hb;have m9:i<j:=by omega
  have hh:(i+j) / 2<j:=by omega
  have hi:i≤(i+j) / 2:=by omega
  rw[Zj (by omega) (by omega),hp _ (by omega),ax]
  generalize(i+j) / 2=h at hh hi;have ek:aT .i64 (h:Int) 1=((h+1:Nat):Int):=(kR (by omega) (by omega)).trans (by omega)
  rw[ek];refine bh (fun hr=>ki ⟨⟨i,h,rfl,hi,by omega,h1,.inr (by simpa using hr)⟩,?_⟩) (fun hr=>ki ⟨⟨h+1,j,rfl,hh,hjM,.inr (by simpa using hr),h2⟩,?_⟩)
  ·show((h:Int)-(i:Int)).toNat<((j:Int)-(i:Int)).toNat;omega
  ·show((j:Int)-((h+1:Nat):Int)).toNat<((j:Int)-(i:Int)).toNat;omega
 ·rw[jn]at hb;have:i=j:=by omega
  subst this;exact⟨i,rfl,hjM,h1,h2⟩
structure Jk (x:ae) (o:ab) (s r:aK):Prop where
 place:r.place=s.place
 aR:r.aR=s.aR
 cases:(r=s∧(s.place<0∨iD x o s.place<0∨s.aQ<iD x o s.place∨∀b,max s.aH (iD x o s.place)≤b→b≤s.aQ→g_ x o s.place (b+s.aR)=false))∨
  (0≤s.place∧0≤iD x o s.place∧r.aH=max s.aH (iD x o s.place)∧r.aH≤r.aQ∧r.aQ≤s.aQ∧g_ x o s.place (r.aQ+s.aR)=true∧∀b,r.aQ<b→b≤s.aQ→g_ x o s.place (b+s.aR)=false)
theorem Qc(hx:gU x)(T5:0≤s.aR)(KG:s.aR≤4096){f:Int}(hc:s.aQ≤4096)(S7:0≤max s.aH f)(hle:max s.aH f≤s.aQ):post (aF (fun b=>mh x (fP x o) s f b) s.aQ) fun e =>
  (e=.inl ()∧∀b,max s.aH f≤b→b≤s.aQ→g_ x o s.place (b+s.aR)=false)∨(∃b,e=.inr (aK.mk s.place (max s.aH f) b s.aR)∧max s.aH f≤b∧b≤s.aQ∧g_ x o s.place (b+s.aR)=true∧∀b',b<b'→b'≤s.aQ→g_ x o s.place (b'+s.aR)=false):=by
 have h6:=hx.types;have hlen:(fP x o).length≤x.types.length:=List.length_filter_le ..;refine gT (fun b=>b≤s.aQ∧max s.aH f-1≤b∧∀b',b<b'→b'≤s.aQ→g_ x o s.place (b'+s.aR)=false) (fun b=>(b-(max s.aH f-1)).toNat) ⟨by omega,by omega,fun b' h h'=>by omega⟩ (by omega) ?_
 rintro b ⟨S3,YK,VH⟩;show post (mh x (fP x o) s f b) _;unfold mh;have em:Bv s.aH f=max s.aH f:=Rm ..;rw[em];refine bh (fun hb=>?_) (fun hb=>fG ?_)
 ·rw[tl]at hb;have ea:aT .i64 b s.aR=b+s.aR:=kR (by omega) (by omega)
  have:=qg (l:=fP x o) (by omega) (fun t=>K3 x t s.place (b+s.aR)) (y:=(.inr (aK.mk s.place (max s.aH f) b s.aR):Unit⊕aK)) (N:=.inl ()) (B:=fun i=>ij x (fP x o) s f b i) (fun i a h=>by
   show ij x (fP x o) s f b i=_;unfold ij;rw[jq h,ea,OV hx (List.mem_filter.1 (List.mem_of_getElem? h)).1 (by omega) (by omega),ax,vQ h (by omega),em,QJ]) (by
   show ij x (fP x o) s f b (fP x o).length=_;unfold ij;rw[hZ])
  rw[eg this];have hr:g_ x o s.place (b+s.aR)=(fP x o).any fun t=>K3 x t s.place (b+s.aR):=rfl
  rw[←hr];cases hq:g_ x o s.place (b+s.aR)with
  |true=>exact fG (.inr ⟨b,rfl,hb,S3,hq,VH⟩)
  |false =>
   have es:dA .i64 b 1=b-1:=xC (by omega) (by omega)
   rw[es];refine ki ⟨⟨by omega,by omega,fun b' h h'=>?_⟩,?_⟩
   ·rcases Decidable.em (b'=b)with e|e
    ·rw[e];exact hq
    ·exact VH b' (by omega) h'
   ·show(b-1-(max s.aH f-1)).toNat<(b-(max s.aH f-1)).toNat;omega
 ·rw[JQ]at hb;exact .inl ⟨rfl,fun b' h h'=>VH b' (by omega) h'⟩
theorem R2(hx:gU x)(h0:place<0):mP x (fP x o) place=some (-1):=by
 have h6:=hx.types;have hlen:(fP x o).length≤x.types.length:=List.length_filter_le ..;unfold mP;have:=eJ (fP x o).length (fun i=>((-1:Int),(i:Int))) (B:=fun s:Int×Int=>c5 x (fP x o) place s.1 s.2) (e:=-1) (by omega) (fun i hi=>by
  have e:(fP x o)[i]?=some (fP x o)[i]:=List.getElem?_eq_getElem hi;have hm:(fP x o)[i]∈x.types:=(List.mem_filter.1 (List.getElem_mem hi)).1;have hT:=hx.Xt _ hm;have ho:=hT.Z8;have hc:=hT.aQ;have ek:aT .i64 (i:Int) 1=((i+1:Nat):Int):=(kR (by omega) (by omega)).trans (by omega)
  show c5 x (fP x o) place (-1) (i:Int)=_;unfold c5;have e2:mQ x (fP x o)[i] place=some (-1):=by
   unfold mQ;rw[uZ hx.b8 ho.1 (by omega),ax,bu]
   rw[Tb];left;rw[ik];exact h0
  rw[bu (by simp [aB];omega),ba e,ax,e2,ax,bm (show(bP (-1) 0&&(aS (-1) 0||aS (-1) (-1)))=false by decide),ek]) (by
  show c5 x (fP x o) place (-1) ((fP x o).length:Int)=_;unfold c5;rw[bm (by simp [aB])])
 rw[eg (show aF (fun s:Int×Int=>c5 x (fP x o) place s.1 s.2) (-1,0)=_ by simpa using this)]
theorem Rz{α:Type}{o:Option α}{Q:α→Prop}(h:post o Q):∃a,o=some a∧Q a:=h
theorem Qw(hx:gU x)(ho:o∈x.aj)(hs:Jj x.b8.av.length s):∃r,eI (db x) o s=some r∧sv x (fP x o) s=some r∧Jk x o s r:=by
 unfold eI sv;rcases hs with⟨hp,_,_,_⟩|⟨h0,h1,h2,h3,h4,h5,h7⟩
 ·refine⟨s,bu (by rw[ik];omega),?_,⟨rfl,rfl,.inl ⟨rfl,.inl (by omega)⟩⟩⟩
  rw[R2 hx (by omega),ax,bu (by simp only[Tb,ik];omega)]
 ·rw[bm (by rw[jn];omega),PC hx ho h0 h1,ax,Vs hx h0 h1,ax]
  have hbr:((aS s.place 0||aS (iD x o s.place) 0)||bU (iD x o s.place) s.aQ)=(aS (iD x o s.place) 0||bU (iD x o s.place) s.aQ):=by
   rw[show aS s.place 0=false by rw[jn];omega];rfl
  rw[hbr];by_cases hf:iD x o s.place<0∨s.aQ<iD x o s.place
  ·have hb:(aS (iD x o s.place) 0||bU (iD x o s.place) s.aQ)=true:=by rw[Tb,ik,qS];omega
   refine⟨s,bu hb,bu hb,⟨rfl,rfl,.inl ⟨rfl,.inr ?_⟩⟩⟩;rcases hf with hf|hf
   ·exact .inl hf
   ·exact .inr (.inl hf)
  ·have hb:(aS (iD x o s.place) 0||bU (iD x o s.place) s.aQ)=false:=by rw[Ja,jn,kO];omega
   rw[bm hb,bm hb];have em:Bv s.aH (iD x o s.place)=max s.aH (iD x o s.place):=Rm ..;rw[em];have h0f:0≤iD x o s.place:=by omega
   have S7:0≤max s.aH (iD x o s.place):=by omega
   have hle:max s.aH (iD x o s.place)≤s.aQ:=by omega
   obtain⟨e,e1,e2⟩:=Rz (Qc (o:=o) (f:=iD x o s.place) hx h5 h7 h4 S7 hle);rw[eg e1];generalize ZL:max s.aH (iD x o s.place)=op at S7 hle e2;have hM:aT .i64 (dA .i64 s.aQ op) 1=(((s.aQ-op+1).toNat:Nat):Int):=by
    rw[xC (by omega) (by omega),kR (by omega) (by omega)];omega
   rw[hM];have U7:∀k,k<(s.aQ-op+1).toNat→im (k:Int) (db x) o s op=some (!(g_ x o s.place (op+(k:Int)+s.aR))):=fun k hk=>by
    unfold im;rw[kR (a:=op) (by omega) (by omega),kR (by omega) (by omega),M6 hx ho (by omega) (by omega),ax]
   obtain⟨nI,n1,n,rfl,n2,n3,n4⟩:=Rz (UO (fun k=>g_ x o s.place (op+(k:Int)+s.aR)) _ (by omega) U7)
   rw[n1,ax];have mono:∀b b',op≤b→b≤b'→b'≤s.aQ→g_ x o s.place (b'+s.aR)=true→g_ x o s.place (b+s.aR)=true:=fun b b' g1 g2 g3 g4=>UJ hx h0 h1 (by omega) (by omega) (by omega) g4
   rcases Nat.eq_zero_or_pos n with hn|hn
   ·subst hn;have VP:∀b,op≤b→b≤s.aQ→g_ x o s.place (b+s.aR)=false:=fun b g1 g2=>by
     cases hq:g_ x o s.place (b+s.aR)with
     |false=>rfl
     |true =>
      have:=mono op b (by omega) g1 g2 hq
      rcases n4 with n4|n4
      ·omega
      ·have Z4:g_ x o s.place (op+((0:Nat):Int)+s.aR)=false:=n4;rw[show op+((0:Nat):Int)=op by omega,this]at Z4
       cases Z4
    refine⟨s,bu rfl,?_,⟨rfl,rfl,.inl ⟨rfl,.inr (.inr (.inr (by rw[ZL];exact VP)))⟩⟩⟩
    rcases e2 with⟨e2,_⟩|⟨b,_,g1,g2,g3,_⟩
    ·rw[e2];rfl
    ·rw[VP b g1 g2]at g3;cases g3
   ·have wD:g_ x o s.place (op+(n:Int)-1+s.aR)=true:=by
     rcases n3 with n3|n3
     ·omega
     ·have n3':g_ x o s.place (op+((n-1:Nat):Int)+s.aR)=true:=n3;rw[show op+((n-1:Nat):Int)=op+(n:Int)-1 by omega]at n3'
      exact n3'
    have VP:∀b,op+(n:Int)-1<b→b≤s.aQ→g_ x o s.place (b+s.aR)=false:=fun b g1 g2=>by
     cases hq:g_ x o s.place (b+s.aR)with
     |false=>rfl
     |true =>
      have:=mono (op+(n:Int)) b (by omega) (by omega) g2 hq
      rcases n4 with n4|n4
      ·omega
      ·have Z4:g_ x o s.place (op+(n:Int)+s.aR)=false:=n4;rw[this]at Z4;cases Z4
    refine⟨aK.mk s.place op (op+(n:Int)-1) s.aR,?_,?_,⟨rfl,rfl,.inr ⟨h0,h0f,ZL.symm,?_,?_,wD,VP⟩⟩⟩
    ·rw[bm (by rw[yZ];omega),kR (by omega) (by omega),xC (by omega) (by omega)]
    ·rcases e2 with⟨_,e2⟩|⟨b,e2,g1,g2,g3,g4⟩
     ·rw[e2 _ (by omega) (by omega)]at wD;cases wD
     ·have:b=op+(n:Int)-1:=by
       rcases Int.lt_trichotomy b (op+(n:Int)-1)with g|g|g
       ·rw[g4 _ g (by omega)]at wD;cases wD
       ·exact g
       ·rw[VP b g g2]at g3;cases g3
      rw[e2,this];rfl
    ·show op≤op+(n:Int)-1;omega
    ·show op+(n:Int)-1≤s.aQ;omega
end
section
variable {x : ae} {o : ab} {s r : aK} {a : al} {place : Int}
def qK(x:ae)(o:ab)(s:aK):aK:=(eI (db x) o s).getD s
theorem lh(hx:gU x)(ho:o∈x.aj)(hs:Jj x.b8.av.length s):eI (db x) o s=some (qK x o s)∧sv x (fP x o) s=some (qK x o s)∧Jk x o s (qK x o s):=by
 obtain⟨r,h1,h2,h3⟩:=Qw hx ho hs;have:qK x o s=r:=by unfold qK;rw[h1];rfl
 rw[this];exact⟨h1,h2,h3⟩
def dB(x:ae)(o:ab):ab:=if o.off=true then o else ab.mk o.name o.load (qK x o o.pick) (qK x o o.drop) o.aL o.bg o.split o.a3 o.now o.off
def eU(x:ae):ae:=ae.mk x.b8 x.types (x.aj.map (dB x)) x.cb x.before
theorem SN{α:Type}{l:List α}{i:Nat}{y z:α}:fi (fi l (i:Int) y) (i:Int) z=l.set i z:=by
 unfold fi;rw[Int.toNat_natCast,List.set_set]
theorem Uu{α E:Type}{l:List α}(hl:l.length≤1048576)(f:α→α){B:List α×Int→Option ((List α×Int)⊕E)}{e:E}(hs:∀(i:Nat) (a:α) (m:List α),l[i]?=some a→m.length=l.length→m[i]?=some a→B (m,(i:Int))=some (.inl (m.set i (f a),(i:Int)+1)))(he:∀m:List α,m.length=l.length→m=l.map f→B (m,(l.length:Int))=some (.inr e)):aF B (l,0)=some e:=by
 have:=eJ (B:=B) (e:=e) l.length (fun i=>((l.take i).map f++l.drop i,(i:Int))) (by omega) (fun i hi=>by
  have e1:l[i]?=some l[i]:=List.getElem?_eq_getElem hi;have hlen:((l.take i).map f).length=i:=by simp;omega
  rw[hs i l[i] ((l.take i).map f++l.drop i) e1 (by simp;omega) (by rw[List.getElem?_append_right (by omega),hlen,Nat.sub_self,List.getElem?_drop];simp)]
  congr 1;congr 1;rw[Prod.mk.injEq];refine⟨?_,by omega⟩
  rw[List.drop_eq_getElem_cons hi,List.set_append_right _ _ (by omega),hlen,Nat.sub_self,List.set_cons_zero,List.take_add_one,e1,Option.toList_some,List.map_append,List.append_assoc]
  rfl) (by
  rw[List.take_length,List.drop_length,List.append_nil];exact he _ (by simp) rfl)
 simpa using this
theorem Kz(hx:gU x)(hF:Ji x)(hr:jx x=some true):nz x=some (eU x,0):=by
 have dq:=hx.aj;unfold nz;rw[hr,ax,bu rfl,JF hx,ax];have hc:cD x.aj=some x.aj:=by
  unfold cD;rw[cr (ca (by omega))]
  cases hq:x.aj with
  |nil=>rfl
  |cons b l=>rfl
 rw[hc,ax,eg (Uu (B:=fun s=>iV x (db x) x.aj s.1 s.2) (l:=x.aj) (e:=x.aj.map (dB x)) (by omega) (dB x) (fun i a m h hm YS=>by
  have ha:=List.mem_of_getElem? h;have hO:=hx.ord a ha;have ek:aT .i64 (i:Int) 1=(i:Int)+1:=kR (by omega) (by have:=(List.getElem?_eq_some_iff.1 h).1;omega)
  show iV x (db x) x.aj m (i:Int)=_;unfold iV;rw[bu (show aS (i:Int) (aB x.aj)=true by rw[ik];show(i:Int)<(x.aj.length:Int);have:=(List.getElem?_eq_some_iff.1 h).1;omega),ba YS,ax,ek]
  unfold dB;cases KV:a.off with
  |true =>
   rw[bu rfl,if_pos rfl];rw[show m.set i a=m from List.ext_getElem? fun j=>by
    rw[List.getElem?_set];split
    ·rename_i hj;subst hj;rw[YS];split
     ·rfl
     ·rename_i hj;exact absurd (List.getElem?_eq_some_iff.1 YS).1 hj
    ·rfl]
  |false =>
   rw[bm rfl,(lh hx ha hO.pick).1,ax,(lh hx ha hO.drop).1,ax,if_neg (by simp),SN]) (fun m hm he=>by
  show iV x (db x) x.aj m (x.aj.length:Int)=_;unfold iV;rw[bm (by simp [aB]),he]))]
 rfl
end
section
variable {x : ae} {o : ab} {s r : aK} {a : al} {place : Int} {t : ag}
theorem Vn{n:ah}{ai az t:Int}(qo:td n)(h0:0≤az)(h1:az<n.av.length)(ht:0≤t)(S8:t≤1048576){v:Nat}(hv:0≤ct (uS n ai az t) v):MF (ct (uS n ai az t) v):=by
 have:=(Du (ai:=ai) (t:=t) qo h0 h1 ht S8 n.av.length 0 (Nat.zero_le _)).1 v;rw[JB h0 h1]at hv ⊢;exact this hv
def Iz(x:ae)(a:al)(t:ag):Bool:=decide (t.ai=a.ai∧0≤ct (ka x t) a.az.toNat∧(goN x.b8 a.ai a.az a.cw (ct (ka x t) a.az.toNat)).2.2=0∧(goN x.b8 a.ai a.az a.cw (ct (ka x t) a.az.toNat)).1≤t.aQ)
def Ew(x:ae)(a:al):Bool:=x.types.any (Iz x a)
def iZ(x:ae):ae:=ae.mk (ah.mk x.b8.av (x.b8.aI.filter (Ew x))) x.types x.aj x.cb x.before
theorem Jg(h:Iz x a t=true):t.ai=a.ai∧0≤ct (ka x t) a.az.toNat∧(goN x.b8 a.ai a.az a.cw (ct (ka x t) a.az.toNat)).2.2=0∧(goN x.b8 a.ai a.az a.cw (ct (ka x t) a.az.toNat)).1≤t.aQ:=of_decide_eq_true h
theorem TD(hx:gU x)(ht:t∈x.types){v:Nat}(hv:0≤ct (ka x t) v):MF (ct (ka x t) v):=by
 have hT:=hx.Xt t ht;have ho:=hT.Z8;have hc:=hT.aQ;have hf:=hT.az;exact Vn hx.b8 hf.1 hf.2 ho.1 (by omega) hv
theorem SW(hx:gU x)(ha:a∈x.b8.aI):mi (db x) a=some (Ew x a):=by
 have h6:=hx.types;have hA:=hx.b8.all a ha;have f0:=hA.JN;have f1:=hA.JO;unfold mi;rw[eg (qg (B:=fun s=>eY (db x) a s) (l:=x.types) (by omega) (Iz x a) (y:=(.inr true:Unit⊕Bool)) (N:=.inl ()) (fun i t h=>by
  have hm:=List.mem_of_getElem? h;have e2:(db x).rG[i]?=some (ka x t):=by show(x.types.map (ka x))[i]?=_;rw[List.getElem?_map,h];rfl
  have hl:(ka x t).length=x.b8.av.length:=F5;show eY (db x) a (i:Int)=_;unfold eY;rw[bu (show aS (i:Int) (aB (db x).x.types)=true by rw[ik];show(i:Int)<(x.types.length:Int);have:=(List.getElem?_eq_some_iff.1 h).1;omega),show a4 (db x).x.types (i:Int)=some t from ba h,ax,ba e2,ax,p7 f0 (by omega),ax,vQ h (by omega)]
  by_cases hq:t.ai=a.ai∧0≤ct (ka x t) a.az.toNat
  ·rw[bm (by rw[Ja,LJ,jn];exact hq),show(db x).x.b8=x.b8 from rfl,go_eq hx.b8 _ _ _ (TD hx hm hq.2),ax]
   by_cases hg:(goN x.b8 a.ai a.az a.cw (ct (ka x t) a.az.toNat)).2.2=0∧(goN x.b8 a.ai a.az a.cw (ct (ka x t) a.az.toNat)).1≤t.aQ
   ·rw[bu (by rw[EG,tk,xK];exact hg),if_pos (show Iz x a t=true from decide_eq_true ⟨hq.1,hq.2,hg.1,hg.2⟩)]
   ·rw[bm (by rw[Mc,yZ,Is];omega),if_neg (show ¬Iz x a t=true from fun h=>hg (Jg h).2.2)]
  ·rw[bu (by rw[Tb,Rt,ik];omega),if_neg (show ¬Iz x a t=true from fun h=>hq ⟨(Jg h).1,(Jg h).2.1⟩)]) (by
  show eY (db x) a (x.types.length:Int)=_;unfold eY;rw[bm (show aS (x.types.length:Int) (aB (db x).x.types)=false by rw[jn];show(x.types.length:Int)≤(x.types.length:Int);omega)]))]
 show _=some (x.types.any (Iz x a));cases x.types.any (Iz x a) <;> rfl
theorem Lb(hx:gU x)(hr:jx x=some true):o_ x=some (iZ x,0):=by
 have hn:=hx.b8.aI;unfold o_;rw[hr,ax,bu rfl,JF hx,ax,eg (Ox (B:=fun s:List al×Int=>jG x (db x) s.1 s.2) (l:=x.b8.aI) (by omega) (Ew x) id [] (fun s i a h T8=>by
  have hi:=(List.getElem?_eq_some_iff.1 h).1;simp only[List.length_nil]at T8;show jG x (db x) s i=_;unfold jG;rw[jq h,SW hx (List.mem_of_getElem? h),ax,vQ h (by omega),cr (ca (by simp;omega))]
  cases Ew x a <;> rfl) (fun s=>by
  show jG x (db x) s x.b8.aI.length=_;unfold jG;rw[hZ];rfl))]
 rfl
end
section
variable {x : ae}
theorem rb{α:Type}{l:List α}{B:Int→Option (Int⊕(Unit⊕Bool))}(hl:l.length≤1048576)(hB:∀(i:Nat) (a:α),l[i]?=some a→B i=some (.inl ((i:Int)+1)))(wD:B l.length=some (.inr (.inl ()))):aF B 0=some (.inl ()):=
 eJ (B:=B) l.length (fun i=>(i:Int)) (by omega) (fun i hi=>(hB i l[i] (List.getElem?_eq_getElem hi)).trans (by congr 2)) wD
theorem PD(s:ByteArray):qn s s=true:=by simp [qn]
theorem LP{l:List au}(hl:l.length≤1048576):jO l l=some true:=by
 unfold jO;rw[bm (by simp),eg (rb (B:=fun s=>eX l l s) (l:=l) hl (fun i a h=>by
  show eX l l i=_;unfold eX;rw[jq h,ba h,ax,bu (by simp),vQ h hl]) (by
  show eX l l l.length=_;unfold eX;rw[hZ])),iB]
theorem V6{n:ah}(hn:DB n):nV n n=some true:=by
 unfold nV;rw[bm (by simp),eg (rb (B:=fun s=>fX n n s) (l:=n.av) hn.av (fun i a h=>by
  show fX n n i=_;unfold fX;rw[jq h,ba h,ax,bu (PD _),vQ h hn.av]) (by
  show fX n n n.av.length=_;unfold fX;rw[hZ])),iB,eg (rb (B:=fun s=>fY n n s) (l:=n.aI) hn.aI (fun i a h=>by
  have hA:=hn.Ps a (List.mem_of_getElem? h);show fY n n i=_;unfold fY;rw[jq h,ba h,ax,bm (by simp),LP hA.cz,ax,bu rfl,LP hA.dp,ax,bu rfl,vQ h hn.aI]) (by
  show fY n n n.aI.length=_;unfold fY;rw[hZ])),iB]
theorem Wy{t:ag}(ht:Vi t):nR t t=some true:=by
 unfold nR;rw[bm (by simp),eg (rb (B:=fun s=>fQ t t s) (l:=t.cap) ht.cap (fun i a h=>by
  show fQ t t i=_;unfold fQ;rw[jq h,ba h,ax,bm (by simp),vQ h ht.cap]) (by
  show fQ t t t.cap.length=_;unfold fQ;rw[hZ])),iB,PD]
 simp
theorem V2{l:List Int}(hl:l.length≤1048576):nU l l=some true:=by
 unfold nU;rw[bm (by simp),eg (rb (B:=fun s=>fT l l s) (l:=l) hl (fun i a h=>by
  show fT l l i=_;unfold fT;rw[jq h,ba h,ax,bm (by simp),vQ h hl]) (by
  show fT l l l.length=_;unfold fT;rw[hZ])),iB]
theorem Uz{o:ab}(ho:Vg o):nS o o=some true:=by
 unfold nS;rw[bu (PD _),V2 ho.load,ax];simp [N1]
theorem OI{l:List aA}(hl:l.length≤1048576):kV l l=some true:=by
 unfold kV;rw[bm (by simp),eg (rb (B:=fun s=>fC l l s) (l:=l) hl (fun i a h=>by
  show fC l l i=_;unfold fC;rw[jq h,ba h,ax,bu (by simp),vQ h hl]) (by
  show fC l l l.length=_;unfold fC;rw[hZ])),iB]
theorem MG(hI:wk x):gh x x=some true:=by
 unfold gh;rw[V6 hI.b8,ax,bm (by simp),eg (rb (B:=fun s=>fV x x s) (l:=x.types) hI.types (fun i a h=>by
  show fV x x i=_;unfold fV;rw[jq h,ba h,ax,Wy (hI.SV a (List.mem_of_getElem? h)),ax,bu rfl,vQ h hI.types]) (by
  show fV x x x.types.length=_;unfold fV;rw[hZ])),iB,eg (rb (B:=fun s=>fW x x s) (l:=x.aj) hI.aj (fun i a h=>by
  show fW x x i=_;unfold fW;rw[jq h,ba h,ax,Uz (hI.SA a (List.mem_of_getElem? h)),ax,bu rfl,vQ h hI.aj]) (by
  show fW x x x.aj.length=_;unfold fW;rw[hZ])),iB,OI hI.cb,ax,bu rfl,OI hI.before,ax]
theorem RN(hI:wk x):wk (eU x):=⟨hI.b8,hI.types,by show(x.aj.map (dB x)).length≤_;rw[List.length_map];exact hI.aj,hI.cb,hI.before,hI.SV,fun o ho=>by
 obtain⟨a,ha,rfl⟩:=List.mem_map.1 ho;have:=hI.SA a ha;unfold dB;split
 ·exact this
 ·exact⟨this.name,this.load⟩⟩
theorem RM(hF:Ji x):Ji (eU x):=⟨hF.av,hF.aI,hF.cz,hF.types,by show(x.aj.map (dB x)).length≤_;rw[List.length_map];exact hF.aj⟩
theorem Ts(hI:wk x):wk (iZ x):=⟨⟨hI.b8.av,Nat.le_trans (List.length_filter_le ..) hI.b8.aI,hI.b8.names,fun a ha=>hI.b8.Ps a (List.mem_filter.1 ha).1⟩,hI.types,hI.aj,hI.cb,hI.before,hI.SV,hI.SA⟩
end
section
variable {x : ae}
theorem Vl:kU=some true:=by kernel_rfl
end
def RZ(n:ah)(p:al→Bool):ah:=ah.mk n.av (n.aI.filter p)
section
variable {n : ah} {pr a b t d e : Int}
theorem WC(h:td n){u v:al}(hu:u∈n.aI)(hv:v∈n.aI)(h1:Gm pr a b u=true)(h2:Gm pr a b v=true):u=v:=by
 obtain⟨i,hi⟩:=List.getElem?_of_mem hu;obtain⟨j,hj⟩:=List.getElem?_of_mem hv;have e1:=of_decide_eq_true h1;have e2:=of_decide_eq_true h2;rcases Nat.lt_trichotomy i j with m9|heq|m9
 ·exact absurd ⟨by rw[e1.1,e2.1],by rw[e1.2.1,e2.2.1],by rw[e1.2.2,e2.2.2]⟩ (h.once j i v u m9 hj hi)
 ·subst heq;rw[hi]at hj;exact Option.some.inj hj
 ·exact absurd ⟨by rw[e1.1,e2.1],by rw[e1.2.1,e2.2.1],by rw[e1.2.2,e2.2.2]⟩ (h.once i j u v m9 hi hj)
end
structure Y1 (o q:ab):Prop where
 load:q.load=o.load
 aL:q.aL=o.aL
 off:q.off=o.off
 last:q.a3=o.a3
 now:q.now=o.now
 pick:q.pick.place=o.pick.place
 drop:q.drop.place=o.drop.place
section
variable {x : ae} {t : ag} {o : ab} {l : List af} {r : aX} {v : af} {s : aK} {b : List Bool} {m : Nat} {k : Ky}
theorem Ix(hx:gU x)(ho:o∈x.aj):Y1 o (dB x o):=by
 have hO:=hx.ord o ho;unfold dB;split
 ·exact⟨rfl,rfl,rfl,rfl,rfl,rfl,rfl⟩
 ·exact⟨rfl,rfl,rfl,rfl,rfl,(lh hx ho hO.pick).2.2.place,(lh hx ho hO.drop).2.2.place⟩
end
structure ot (o q:ab):Prop where
 name:q.name=o.name
 load:q.load=o.load
 aL:q.aL=o.aL
 bg:q.bg=o.bg
 split:q.split=o.split
 last:q.a3=o.a3
 now:q.now=o.now
 pick:q.pick.place=o.pick.place
 drop:q.drop.place=o.drop.place
 Xm:cN q.pick=cN o.pick
 WG:cN q.drop=cN o.drop
section
variable {types np bt : Int} {o q : ab} {l : List ab} {f : ab → ab} {n : ah} {x : ae}
theorem ot.j5(h:ot o q):dE types q=dE types o:=by
 funext l;unfold dE;rw[h.bg,h.split,h.pick,h.drop,h.last,h.now]
theorem ot.j7(h:ot o q):fB types q=fB types o:=by
 funext l;unfold fB;rw[h.bg,h.split,h.pick,h.drop,h.last,h.now]
theorem ot.j9(h:ot o q):gL types q=gL types o:=by
 funext l;unfold gL;rw[h.bg,h.split,h.pick,h.drop,h.last,h.now]
theorem ot.j11(h:ot o q):fS types q=fS types o:=by
 funext l;unfold fS;rw[h.bg,h.split,h.pick,h.drop,h.last,h.now]
theorem ot.j6(h:ot o q):cu types q=cu types o:=by
 funext l;unfold cu;rw[h.aL,h.j7]
theorem ot.j10(h:ot o q):fR types q=fR types o:=by
 funext l;unfold fR;rw[h.aL,h.j11]
theorem ot.j4(h:ot o q):di types q=di types o:=by
 funext l;unfold di;rw[h.Xm,h.WG,h.aL,h.j5,h.j6]
theorem ot.j8(h:ot o q):gK types q=gK types o:=by
 funext l;unfold gK;rw[h.Xm,h.WG,h.aL,h.j9,h.j10]
theorem ot.j3(h:ot o q):cJ types q=cJ types o:=by
 funext l;unfold cJ;rw[h.pick,h.drop,h.j4]
theorem ot.j2(h:ot o q):b7 np types q=b7 np types o:=by
 funext l;unfold b7;rw[h.pick,h.drop,h.j3,h.j8]
theorem N7{α β:Type}{l:List α}{f:α→β}{i:Int}:a4 (l.map f) i=(a4 l i).map f:=by
 unfold a4;split
 ·rw[List.getElem?_map]
 ·rfl
theorem QS{α:Type}{l:List α}{i:Int}{a:α}(h:a4 l i=some a):a∈l:=by
 unfold a4 at h;split at h
 ·exact List.mem_of_getElem? h
 ·cases h
theorem SM(hf:∀o∈l,ot o (f o))(i:Int):ep np bt types (l.map f) i=ep np bt types l i:=by
 have h1:∀(o:ab),ot o (f o)→∀l1,dD np bt types (l.map f) i (f o) l1=dD np bt types l i o l1:=fun o h l1=>by
  unfold dD;have e:(fun s=>bY np bt types (l.map f) i (f o) l1 s)=fun s=>bY np bt types l i o l1 s:=by
   funext s
   unfold bY;rw[N7,h.name];cases hg:a4 l s with
   |none=>simp only[Option.map_none,uq]
   |some a =>
    rw[Option.map_some,ax,ax,(hf a (QS hg)).name]
  rw[e,h.load,h.j2]
 unfold ep;rw[N7];cases hg:a4 l i with
 |none=>simp only[Option.map_none,uq]
 |some o =>
  have h:=hf o (QS hg);rw[Option.map_some,ax,ax,h.name,h1 o h,h1 o h]
theorem NS(hf:∀o∈l,ot o (f o)):dP n bt types (l.map f)=dP n bt types l:=by
 have hl:aB (l.map f)=aB l:=by unfold aB;rw[List.length_map]
 have e:∀l1,ee n bt types (l.map f) l1=ee n bt types l l1:=fun l1=>by
  unfold ee;have e:(fun s:List aa×Int=>cZ n bt types (l.map f) s.1 s.2)=fun s=>cZ n bt types l s.1 s.2:=by
   funext s
   unfold cZ;rw[hl,SM hf];rfl
  rw[e]
 unfold dP;rw[hl,e,e]
theorem O_(hx:gU x)(ho:o∈x.aj):ot o (dB x o):=by
 have hO:=hx.ord o ho;have hk:=Ix hx ho;have w:∀s:aK,Jj x.b8.av.length s→cN (qK x o s)=cN s:=fun s hs=>by
  have hT:=(lh hx ho hs).2.2;rcases hT.cases with⟨e,_⟩|⟨h0,h1,h2,h3,h4,_,_⟩
  ·rw[e]
  ·have hp:=hT.place;have hv:=hT.aR;generalize qK x o s=r at *;rcases hs with⟨hq,_⟩|⟨q0,q1,q2,q3,q4,q5,q6⟩
   ·omega
   ·unfold cN;rw[bm (by simp only[Mc,yZ];omega),bm (by simp only[Ja,jn,kO];omega),bm (by simp only[Mc,yZ];omega),bm (by simp only[Ja,jn,kO];omega)]
 unfold dB;split
 ·exact⟨rfl,rfl,rfl,rfl,rfl,rfl,rfl,rfl,rfl,rfl,rfl⟩
 ·exact⟨rfl,rfl,rfl,rfl,rfl,rfl,rfl,(lh hx ho hO.pick).2.2.place,(lh hx ho hO.drop).2.2.place,w _ hO.pick,w _ hO.drop⟩
theorem NT(hx:gU x):cO (eU x)=cO x:=by
 have e1:∀d t,dP x.b8 d t (x.aj.map (dB x))=dP x.b8 d t x.aj:=fun d t=>NS fun o ho=>O_ hx ho
 have e2:aB (x.aj.map (dB x))=aB x.aj:=by unfold aB;rw[List.length_map]
 show aG (gq x.b8) (fun r=>aG (eB lC r) fun r1=>aG (ib x.b8 x.types) fun r2=>aG (gv sO r2) fun r3=>dr (d_ (r1++r3).length 24) (aG (gX x.types) fun r4=>aG (dP x.b8 r4 (aB x.types) (x.aj.map (dB x))) fun r5=>aG (gv qf r5) fun r6=>dr (d_ ((r1++r3)++r6).length 24) (aG (ic (aB (x.aj.map (dB x))) x.cb x.before) fun r7=>aG (gv sN r7) fun r8=>dr (d_ (((r1++r3)++r6)++r8).length 24) (some (((r1++r3)++r6)++r8)))))=_
 rw[e2];simp only[e1];rfl
theorem Ry{p:al→Bool}:∀k,GG (RZ n p) k=GG n k
 |0=>rfl
 |k+1=>by unfold GG;rw[Ry k];rfl
theorem QH:∀k,FF n k=[]→∀i,i<k→SX n i=[]
 |0,_,i,h=>by omega
 |k+1,h,i,hi=>by
  unfold FF at h;obtain⟨h1,h2⟩:=List.append_eq_nil_iff.1 h;rcases Nat.lt_or_ge i k with h3|h3
  ·exact QH k h1 i h3
  ·rw[show i=k by omega];exact h2
theorem To:∀k,(∀i,i<k→SX n i=[])→FF n k=[]
 |0,_=>rfl
 |k+1,h=>by
  unfold FF;rw[To k fun i hi=>h i (by omega),h k (by omega)];rfl
theorem NI{a:al}{kn:Bool}{tr:List aa}:IB n a kn tr=[]↔Yc n a=true∧Jn a=false∧kn=false∧tr=[]∧G3 a.dp=[]:=by
 unfold IB Mg;simp only[List.append_eq_nil_iff];cases Yc n a <;> cases Jn a <;> cases kn <;> simp
theorem Da{α:Type}{p:α→Bool}:∀(l:List α) (i:Nat) (a:α),(l.filter p)[i]?=some a→∃j,l[j]?=some a∧∀b∈(l.filter p).take i,b∈l.take j
 | [],i,a,h=>by simp at h
 |c ::l,i,a,h=>by
  by_cases hc:p c=true
  ·rw[List.filter_cons_of_pos hc]at h ⊢;cases i with
   |zero=>exact⟨0,by simpa using h,fun b hb=>by simp at hb⟩
   |succ i =>
    simp only[List.getElem?_cons_succ]at h;obtain⟨j,h1,h2⟩:=Da l i a h;refine⟨j+1,by simpa using h1,fun b hb=>?_⟩
    rw[List.take_succ_cons]at hb ⊢;rcases List.mem_cons.1 hb with e|e
    ·rw[e];exact List.mem_cons_self ..
    ·exact List.mem_cons_of_mem _ (h2 b e)
  ·rw[List.filter_cons_of_neg hc]at h ⊢;obtain⟨j,h1,h2⟩:=Da l i a h;refine⟨j+1,by simpa using h1,fun b hb=>?_⟩
   rw[List.take_succ_cons];exact List.mem_cons_of_mem _ (h2 b hb)
theorem Uw{p:al→Bool}(h:HH n=[]):HH (RZ n p)=[]:=by
 have hle:(n.aI.filter p).length≤n.aI.length:=List.length_filter_le ..;unfold HH at h ⊢;simp only[List.append_eq_nil_iff]at h ⊢;obtain⟨⟨h1,h2⟩,h3,h4⟩:=h;refine⟨⟨h1,?_⟩,?_,?_⟩
 ·rw[Ry];exact h2
 ·rw[if_neg];intro hgt;rw[if_pos (show n.aI.length>1024 by have:(n.aI.filter p).length>1024:=hgt;omega)]at h3
  cases h3
 ·refine To _ fun i hi=>?_
  unfold SX;cases he:(RZ n p).aI[i]? with
  |none=>rfl
  |some a =>
   obtain⟨j,j1,j2⟩:=Da n.aI i a he;have hj:=(List.getElem?_eq_some_iff.1 j1).1;have hA:=QH _ h4 j hj;unfold SX at hA;rw[j1]at hA;simp only[List.map_eq_nil_iff]at hA ⊢;obtain⟨g1,g2,g3,g4,g5⟩:=NI.1 hA;refine NI.2 ⟨g1,g2,?_,g4,g5⟩;unfold Sn at g3 ⊢;rw[List.any_eq_false]at g3 ⊢;exact fun b hb=>g3 b (j2 b hb)
theorem V4(hI:wk x)(hF:Ji x)(h:cO x=some []):HH x.b8=[]:=by
 have n2:=(Ds hI.b8 FZ hF.av hF.aI hF.cz).2;obtain⟨r,hr,hE⟩:=tS (n:=x.b8) hI.b8;rw[n2]at hr;cases hr;have l1:=hE.JZ;have h5:=hI.b8.aI;have s1:∀f∈HH x.b8,f.ct.size≤64:=hE.Wm;obtain⟨v1,VV,j1⟩:=(nK (word:=lC) (show 3≤20 by omega) (by omega) s1:post (eB lC _) _)
 have X_:eB lC (HH x.b8)=some v1:=VV;unfold cO at h;rw[n2,ax,X_,ax]at h;obtain⟨r2,_,h⟩:=pZ h;obtain⟨r3,_,h⟩:=pZ h;obtain⟨r4,_,h⟩:=pZ (FW h).2;obtain⟨r5,_,h⟩:=pZ h;obtain⟨r6,_,h⟩:=pZ h;obtain⟨r7,_,h⟩:=pZ (FW h).2;obtain⟨r8,_,h⟩:=pZ h;have h9:=Option.some.inj (FW h).2;simp only[List.append_eq_nil_iff]at h9;have hv:v1=[]:=h9.1.1.1;rw[hv]at j1;exact List.eq_nil_of_length_eq_zero j1.symm
theorem RV{p:al→Bool}(hI:wk x)(hF:Ji x)(hx:gU x)(h:cO x=some []):cO (ae.mk (RZ x.b8 p) x.types x.aj x.cb x.before)=some []:=by
 have ZE:HH x.b8=[]:=V4 hI hF h;have n2:=(Ds hI.b8 FZ hF.av hF.aI hF.cz).2;have hI':DB (RZ x.b8 p):=⟨hI.b8.av,Nat.le_trans (List.length_filter_le ..) hI.b8.aI,hI.b8.names,fun a ha=>hI.b8.Ps a (List.mem_filter.1 ha).1⟩
 have m2:=(Ds hI' FZ hF.av (Nat.le_trans (List.length_filter_le ..) hF.aI) (fun a ha=>hF.cz a (List.mem_filter.1 ha).1)).2
 rw[Uw ZE]at m2;rw[ZE]at n2;unfold cO at h ⊢;rw[n2]at h;show aG (gq (RZ x.b8 p)) _=_;rw[m2];exact h
end
section
variable {x : ae} {o o' : ab} {s r q : aK} {place : Int} {t : ag} {a c : al}
theorem Jl(h:o'.aL=o.aL):fP (eU x) o'=fP x o:=by unfold fP;rw[h];rfl
theorem N4(h:o'.aL=o.aL):iD (eU x) o' place=iD x o place:=by
 unfold iD;rw[Jl h];rfl
theorem LZ(h:o'.aL=o.aL){d:Int}:g_ (eU x) o' place d=g_ x o place d:=by
 unfold g_;rw[Jl h];rfl
theorem G7(h:o'.aL=o.aL)(h1:Jk x o s r)(h2:Jk (eU x) o' r q):q=r:=by
 rcases h2.cases with⟨e,_⟩|⟨p0,f0,e1,e2,e3,e4,e5⟩
 ·exact e
 ·rw[N4 h]at f0 e1;rw[LZ h]at e4;have e5':∀b,q.aQ<b→b≤r.aQ→g_ x o r.place (b+r.aR)=false:=fun b g1 g2=>by rw[←LZ h];exact e5 b g1 g2
  have hp:=h2.place;have hs:=h2.aR;have X2:=h1.place;have hsr:=h1.aR;rcases h1.cases with⟨e,k⟩|⟨k0,k1,k2,k3,k4,k5,k6⟩
  ·exfalso;rw[e]at p0 f0 e1 e3 e4;rcases k with k|k|k|k
   ·omega
   ·omega
   ·omega
   ·have:=k q.aQ (by omega) e3
    rw[this]at e4;cases e4
  ·have ho:q.aH=r.aH:=by rw[e1,k2,X2];omega
   have hc:q.aQ=r.aQ:=by
    rcases Int.lt_trichotomy q.aQ r.aQ with g|g|g
    ·have:=e5' r.aQ g (Int.le_refl _);rw[X2,hsr,k5]at this;cases this
    ·exact g
    ·omega
   cases q;cases r;simp only at *;rw[hp,hs,ho,hc]
theorem Ni(hx:gU x)(hy:gU (eU x))(ho:o∈x.aj):dB (eU x) (dB x o)=dB x o:=by
 have hO:=hx.ord o ho;have hm:dB x o∈(eU x).aj:=List.mem_map.2 ⟨o,ho,rfl⟩;have hk:=Ix hx ho;have Of:=hy.ord _ hm;cases KV:o.off with
 |true =>
  have e:dB x o=o:=by unfold dB;rw[if_pos KV]
  rw[e];unfold dB;rw[if_pos KV]
 |false =>
  have e:dB x o=ab.mk o.name o.load (qK x o o.pick) (qK x o o.drop) o.aL o.bg o.split o.a3 o.now o.off:=by unfold dB;rw[if_neg (by simp [KV])]
  have e1:qK (eU x) (dB x o) (dB x o).pick=(dB x o).pick:=by
   have h1:=(lh hx ho hO.pick).2.2;have h2:=(lh hy hm Of.pick).2.2;rw[show(dB x o).pick=qK x o o.pick by rw[e]]at h2 ⊢
   exact G7 hk.aL h1 h2
  have e2:qK (eU x) (dB x o) (dB x o).drop=(dB x o).drop:=by
   have h1:=(lh hx ho hO.drop).2.2;have h2:=(lh hy hm Of.drop).2.2;rw[show(dB x o).drop=qK x o o.drop by rw[e]]at h2 ⊢
   exact G7 hk.aL h1 h2
  have W3:(dB x o).off=false:=by rw[hk.off];exact KV
  generalize dB x o=p at e1 e2 W3 ⊢;unfold dB;rw[if_neg (by simp [W3]),e1,e2]
theorem Nj(hx:gU x)(hy:gU (eU x)):eU (eU x)=eU x:=by
 have:((eU x).aj.map (dB (eU x)))=(eU x).aj:=by
  show(x.aj.map (dB x)).map (dB (eU x))=x.aj.map (dB x);rw[List.map_map];exact List.map_congr_left fun o ho=>Ni hx hy ho
 show ae.mk (eU x).b8 (eU x).types ((eU x).aj.map (dB (eU x))) (eU x).cb (eU x).before=eU x;rw[this]
theorem Pu{n:ah}(h:td n)(hc:c∈n.aI)(d:Int):(goN n c.ai c.az c.cw d).2.2=0∧(goN n c.ai c.az c.cw d).1=s_ c d:=by
 have hA:=h.all c hc;have Zt:AK n c.ai c.az c.cw=(c,true):=by
  unfold AK;cases hf:n.aI.find? (Gm c.ai c.az c.cw)with
  |none=>exact absurd (decide_eq_true ⟨rfl,rfl,rfl⟩) (List.find?_eq_none.1 hf c hc)
  |some u=>rw[WC h (List.mem_of_find?_eq_some hf) hc (List.find?_some hf) (decide_eq_true ⟨rfl,rfl,rfl⟩)]
 have h1:=hA.JN;have h2:=hA.JO;have h3:=hA.Wu;have h4:=hA.Wv;unfold goN;rw[if_pos ⟨decide_eq_true ⟨h1,h2⟩,decide_eq_true ⟨h3,h4⟩⟩,if_neg hA.ne,Zt,if_pos rfl];exact⟨rfl,rfl⟩
theorem TE(hx:gU x)(ht:t∈x.types)(hn:td (iZ x).b8){v:Nat}(h0:0≤ct (ka x t) v)(hc:ct (ka x t) v≤t.aQ):0≤ct (ka (iZ x) t) v∧ct (ka (iZ x) t) v≤ct (ka x t) v:=by
 have hT:=hx.Xt t ht;have qo:=hx.b8;have hf:=hT.az;have ho:=hT.Z8;have DE:=hT.aQ;have YT:t.aH≤1048576:=by omega
 have hff:0≤ct (ka (iZ x) t) t.az.toNat∧ct (ka (iZ x) t) t.az.toNat≤t.aH:=JD (ai:=t.ai) hn hf.1 hf.2 ho.1;have hm:=Dl (ai:=t.ai) (C:=fun u=>u.length=x.b8.av.length∧∀v,0≤ct u v→(0≤ct (ka x t) v∧ct (ka x t) v≤ct u v)∧(ct u v≤t.aQ→0≤ct (ka (iZ x) t) v∧ct (ka (iZ x) t) v≤ct u v)) (aI:=x.b8.aI) (s:=cS x.b8.av.length t.az t.aH) ⟨by simp [cS],fun v hv=>by
  rw[G4 hf.1 hf.2]at hv ⊢;split at hv
  ·rename_i h;rw[if_pos h,h];exact⟨JD qo hf.1 hf.2 ho.1,fun _=>hff⟩
  ·omega⟩ (fun u c hcm hu=>by
  obtain⟨u1,u2⟩:=hu;have hA:=qo.all c hcm;refine⟨by rw[Dx];exact u1,fun v hv=>?_⟩
  rcases Kg (ai:=t.ai) u1 hA v with h|⟨h2,h3,h4⟩
  ·rw[h]at hv ⊢;exact u2 v hv
  ·rw[h4];obtain⟨k0,k1,k2⟩:=h2;obtain⟨g1,g2⟩:=u2 _ k1;have U3:=FJ hA (ct u c.az.toNat);have hD:0≤ct (ka x t) c.cw.toNat∧ct (ka x t) c.cw.toNat≤s_ c (ct (ka x t) c.az.toNat):=JC (ai:=t.ai) qo hf.1 hf.2 ho.1 YT hcm k0 g1.1;have hmn:=Dg hA g1.2;rw[h3];refine⟨⟨hD.1,by omega⟩,fun hle=>?_⟩
   have g3:=g2 (by omega)
   have hgo:=Pu qo hcm (ct (ka x t) c.az.toNat);have Ok:Ew x c=true:=List.any_eq_true.2 ⟨t,ht,decide_eq_true ⟨k0.symm,g1.1,hgo.1,by rw[hgo.2];omega⟩⟩
   have YR:c∈(iZ x).b8.aI:=List.mem_filter.2 ⟨hcm,Ok⟩;have hD':0≤ct (ka (iZ x) t) c.cw.toNat∧ct (ka (iZ x) t) c.cw.toNat≤s_ c (ct (ka (iZ x) t) c.az.toNat):=JC (ai:=t.ai) hn hf.1 hf.2 ho.1 YT YR k0 g3.1;have QeI:=Dg hA g3.2;exact⟨hD'.1,by omega⟩) x.b8.av.length
 have e:=JB (n:=x.b8) (ai:=t.ai) (t:=t.aH) hf.1 hf.2;have h0':0≤ct (iter t.ai x.b8.aI (cS x.b8.av.length t.az t.aH) x.b8.av.length) v:=by rw[←e];exact h0
 have hc':ct (iter t.ai x.b8.aI (cS x.b8.av.length t.az t.aH) x.b8.av.length) v≤t.aQ:=by rw[←e];exact hc
 have:=(hm.2 v h0').2 hc';rw[←e]at this;exact this
theorem PY(hx:gU x)(hn:td (iZ x).b8)(hm:c∈x.b8.aI)(h:Ew x c=true):Ew (iZ x) c=true:=by
 obtain⟨t,ht,hu⟩:=List.any_eq_true.1 h;obtain⟨h1,h2,h3,h4⟩:=Jg hu;have hA:=hx.b8.all c hm;have hgo:=Pu hx.b8 hm (ct (ka x t) c.az.toNat);have U3:=FJ hA (ct (ka x t) c.az.toNat);rw[hgo.2]at h4;obtain⟨k1,k2⟩:=TE hx ht hn h2 (by omega)
 have YR:c∈(iZ x).b8.aI:=List.mem_filter.2 ⟨hm,h⟩;have Zx:=Pu hn YR (ct (ka (iZ x) t) c.az.toNat);have hmn:=Dg hA k2;exact List.any_eq_true.2 ⟨t,ht,decide_eq_true ⟨h1,k1,Zx.1,by rw[Zx.2];omega⟩⟩
theorem NJ(hx:gU x)(hn:td (iZ x).b8):iZ (iZ x)=iZ x:=by
 have:(iZ x).b8.aI.filter (Ew (iZ x))=(iZ x).b8.aI:=List.filter_eq_self.2 fun c hc=>by
  obtain⟨h1,h2⟩:=List.mem_filter.1 hc;exact PY hx hn h1 h2
 show ae.mk (ah.mk (iZ x).b8.av ((iZ x).b8.aI.filter (Ew (iZ x)))) (iZ x).types (iZ x).aj (iZ x).cb (iZ x).before=iZ x;rw[this]
end
section
variable {x : ae} {o p q : ab} {s r : aK}
def Tv(p q:ab):ab:=ab.mk q.name q.load p.pick p.drop q.aL q.bg q.split q.a3 q.now q.off
def UT(p q:ab):Bool:=((aS q.pick.aH p.pick.aH||bU q.pick.aQ p.pick.aQ)||aS q.drop.aH p.drop.aH)||bU q.drop.aQ p.drop.aQ
def tN(x:ae)(l:List ab)(i:Int):Option ((List ab×Int)⊕(List ab⊕Bool)):=
 br (aS i (aB l)) (aG (a4 x.aj i) fun p=>aG (a4 l i) fun q=>br (UT p q) (some (.inr (.inr false))) (some (.inl (fi l i (Tv p q),aT .i64 i 1)))) (some (.inr (.inl l)))
theorem L5(h:Jk x o s r):s.aH≤r.aH∧r.aQ≤s.aQ:=by
 rcases h.cases with⟨e,_⟩|⟨_,_,e,_,e2,_⟩
 ·rw[e];exact⟨Int.le_refl _,Int.le_refl _⟩
 ·exact⟨by omega,e2⟩
theorem QB(hx:gU x)(ho:o∈x.aj):UT o (dB x o)=false∧Tv o (dB x o)=o:=by
 have hO:=hx.ord o ho;have h1:=L5 (lh hx ho hO.pick).2.2;have h2:=L5 (lh hx ho hO.drop).2.2;unfold UT Tv dB;split
 ·simp
 ·simp only[Ja,jn,kO];exact⟨⟨⟨⟨h1.1,h1.2⟩,h2.1⟩,h2.2⟩,trivial⟩
theorem OD(hx:gU x):aF (fun s=>tN x s.1 s.2) ((eU x).aj,0)=some (.inl x.aj):=by
 have dq:=hx.aj;have e0:((eU x).aj,(0:Int))=(fun i:Nat=>(x.aj.take i++(x.aj.map (dB x)).drop i,(i:Int))) 0:=by simp [eU]
 rw[e0];refine eJ x.aj.length (fun i:Nat=>(x.aj.take i++(x.aj.map (dB x)).drop i,(i:Int))) (by omega) (fun i hi=>?_) ?_
 ·have e1:x.aj[i]?=some x.aj[i]:=List.getElem?_eq_getElem hi;have hlen:(x.aj.take i).length=i:=by simp;omega
  have e2:(x.aj.take i++(x.aj.map (dB x)).drop i)[i]?=some (dB x x.aj[i]):=by
   rw[List.getElem?_append_right (by omega),hlen,Nat.sub_self,List.getElem?_drop,Nat.add_zero,List.getElem?_map,e1];rfl
  obtain⟨w1,w2⟩:=QB hx (List.getElem_mem hi);have ek:aT .i64 (i:Int) 1=((i+1:Nat):Int):=(kR (by omega) (by omega)).trans (by omega)
  show tN x _ (i:Int)=_;unfold tN;rw[bu (by simp [aB];omega),ba e1,ax,ba e2,ax,bm w1,w2,ek]
  congr 2;rw[Prod.mk.injEq];refine⟨?_,rfl⟩;have hd:(x.aj.map (dB x)).drop i=dB x x.aj[i] ::(x.aj.map (dB x)).drop (i+1):=by
   rw[List.drop_eq_getElem_cons (by simpa using hi)];simp
  unfold fi;rw[Int.toNat_natCast,hd,List.set_append_right _ _ (by omega),hlen,Nat.sub_self,List.set_cons_zero,List.take_add_one,e1,Option.toList_some,List.append_assoc]
  rfl
 ·show tN x _ (x.aj.length:Int)=_;unfold tN;rw[bm (by simp [aB])]
  simp
end
end
end Go.Proofs.YtbilkblifgaflaaGreatDoor
