/- Part MR. -/
import Derived.Test.YtbilkblifgaflaaGreatDoorMP
import Derived.Test.YtbilkblifgaflaaGreatDoorMQ
import Derived.Test.YtbilkblifgaflaaGreatDoorMT
set_option linter.unusedSimpArgs false
set_option linter.unusedVariables false
set_option linter.unusedSectionVars false
namespace Go.Proofs.YtbilkblifgaflaaGreatDoor
noncomputable section
def Rh{α:Type}(p:α→Bool):List α→Option Nat
 | []=>none
 |a ::r=>if p a=true then some 0 else(Rh p r).map (·+1)
section
variable {α : Type} {p : α → Bool}
theorem JX{l:List α}{k:Nat}(h:Rh p l=some k):∃hk:k<l.length,p l[k]=true∧∀j (hj:j<k),p (l[j]'(by omega))=false:=by
 induction l generalizing k with
 |nil=>cases h
 |cons a r ih =>
  unfold Rh at h;split at h
  ·cases h;exact⟨by simp,by simpa,fun j hj=>by omega⟩
  ·rename_i ha;rw[Option.map_eq_some_iff]at h;obtain⟨m,hm,rfl⟩:=h;obtain⟨h1,h2,h3⟩:=ih hm;refine⟨by simp;omega,by simpa using h2,fun j hj=>?_⟩
   cases j with
   |zero=>simpa using ha
   |succ j=>simpa using h3 j (by omega)
theorem Oo{l:List α}(h:Rh p l=none):∀a∈l,p a=false:=by
 induction l with
 |nil=>simp
 |cons a r ih =>
  unfold Rh at h;split at h
  ·cases h
  ·rename_i ha;rw[Option.map_eq_none_iff]at h;intro b hb;rcases List.mem_cons.1 hb with rfl|hb
   ·simpa using ha
   ·exact ih h b hb
def Ye(p:α→Bool)(l:List α):Int:=match Rh p l with
 |some k=>k
 |none=>-1
theorem Yf{l:List α}:0≤Ye p l↔∃a∈l,p a=true:=by
 unfold Ye;cases h:Rh p l with
 |some k =>
  obtain⟨h1,h2,_⟩:=JX h;exact⟨fun _=>⟨_,List.getElem_mem h1,h2⟩,fun _=>Int.natCast_nonneg k⟩
 |none=>exact⟨fun h'=>by simp at h',fun⟨a,ha,hp⟩=>by rw[Oo h a ha]at hp;cases hp⟩
theorem I7{l:List α}:bP (Ye p l) 0=l.any p:=by
 rw[Bool.eq_iff_iff,tl,Yf,List.any_eq_true]
end
section
variable {E : Type} {B : Int → Option (Int ⊕ E)}
theorem UN{n:Nat}(hn:n≤1048576)(p:Nat→Bool)(Y:Nat→E){N:E}
  (y3:∀i:Nat,i<n→B (i:Int)=some (if p i=true then .inr (Y i)else .inl ((i:Int)+1))) (wD:B (n:Int)=some (.inr N)):
  (∃k,k<n∧p k=true∧(∀j,j<k→p j=false)∧aF B 0=some (Y k))∨((∀j,j<n→p j=false)∧aF B 0=some N):=by
 have main:post (aF B 0) fun e=>(∃k,k<n∧p k=true∧(∀j,j<k→p j=false)∧e=Y k)∨((∀j,j<n→p j=false)∧e=N):=by
  refine gT (fun i=>∃k:Nat,i=(k:Int)∧k≤n∧∀j,j<k→p j=false) (fun i=>n-i.toNat) ⟨0,rfl,Nat.zero_le _,fun j hj=>by omega⟩ (by simp;omega) ?_
  rintro _ ⟨k,rfl,hk,hf⟩;rcases Nat.lt_or_ge k n with h|h
  ·rw[y3 k h];split
   ·rename_i hp;exact fG (.inl ⟨k,h,hp,hf,rfl⟩)
   ·rename_i hp;refine ki ⟨⟨k+1,by simp,by omega,fun j hj=>?_⟩,by simp;omega⟩
    rcases Nat.lt_or_eq_of_le (Nat.le_of_lt_succ hj)with hj|rfl
    ·exact hf j hj
    ·simpa using hp
  ·obtain rfl:k=n:=by omega
   rw[wD];exact fG (.inr ⟨hf,rfl⟩)
 obtain⟨e,he,h⟩:=main;rcases h with⟨k,h1,h2,h3,rfl⟩|⟨h1,rfl⟩
 ·exact .inl ⟨k,h1,h2,h3,he⟩
 ·exact .inr ⟨h1,he⟩
theorem Yv{n:Nat}(hn:n≤1048576)(p:Nat→Bool){y N:E}{b:Bool}(hb:b=true↔∃k,k<n∧p k=true)
  (y3:∀i:Nat,i<n→B (i:Int)=some (if p i=true then .inr y else .inl ((i:Int)+1))) (wD:B (n:Int)=some (.inr N)):
  aF B 0=some (if b=true then y else N):=by
 rcases UN hn p (fun _=>y) y3 wD with⟨k,h1,h2,_,h4⟩|⟨h1,h4⟩
 ·rw[h4,if_pos (hb.2 ⟨k,h1,h2⟩)]
 ·rw[h4,if_neg fun h=>by obtain⟨k,h5,h6⟩:=hb.1 h;rw[h1 k h5]at h6;cases h6]
theorem qg{α:Type}{l:List α}(hl:l.length≤1048576)(p:α→Bool){y N:E}
  (y3:∀(i:Nat) a,l[i]?=some a→B (i:Int)=some (if p a=true then .inr y else .inl ((i:Int)+1))) (wD:B (l.length:Int)=some (.inr N)):
  aF B 0=some (if l.any p=true then y else N):=by
 refine Yv hl (fun i=>match l[i]? with|some a=>p a|none=>false) ?_ (fun i hi=>?_) wD
 ·rw[List.any_eq_true];constructor
  ·rintro⟨a,ha,hp⟩;obtain⟨k,hk,rfl⟩:=List.getElem_of_mem ha;exact⟨k,hk,by rw[List.getElem?_eq_getElem hk];exact hp⟩
  ·rintro⟨k,hk,hp⟩;rw[List.getElem?_eq_getElem hk]at hp;exact⟨_,List.getElem_mem hk,hp⟩
 ·rw[List.getElem?_eq_getElem hi];exact y3 i _ (List.getElem?_eq_getElem hi)
theorem Jd{α:Type}{l:List α}(hl:l.length≤1048576)(p:α→Bool)(Y:Nat→E){N:E}
  (y3:∀(i:Nat) a,l[i]?=some a→B (i:Int)=some (if p a=true then .inr (Y i)else .inl ((i:Int)+1))) (wD:B (l.length:Int)=some (.inr N)):
  aF B 0=some (match Rh p l with|some k=>Y k|none=>N):=by
 have h:=UN (B:=B) hl (fun i=>match l[i]? with|some a=>p a|none=>false) Y (N:=N) (fun i hi=>by
  rw[List.getElem?_eq_getElem hi];exact y3 i _ (List.getElem?_eq_getElem hi)) wD
 have ct:∀j (hj:j<l.length),(match l[j]? with|some a=>p a|none=>false)=p l[j]:=fun j hj=>by rw[List.getElem?_eq_getElem hj]
 rcases h with⟨k,h1,h2,h3,h4⟩|⟨h1,h4⟩
 ·cases hx:Rh p l with
  |none=>rw[ct k h1,Oo hx _ (List.getElem_mem h1)]at h2;cases h2
  |some m =>
   obtain⟨g1,g2,g3⟩:=JX hx;rcases Nat.lt_trichotomy k m with h|h|h
   ·rw[ct k h1,g3 k h]at h2;cases h2
   ·rw[h4,h]
   ·have:=h3 m h;simp only[ct m g1]at this;rw[g2]at this;cases this
 ·cases hx:Rh p l with
  |none=>rw[h4]
  |some m =>
   obtain⟨g1,g2,g3⟩:=JX hx;have:=h1 m g1;simp only[ct m g1]at this;rw[g2]at this;cases this
end
theorem Qax{m:Nat}(h:m<9223372036854775808):IntKind.i64.wrap (m:Int)=m:=IntWalk.i64_in _ ⟨by omega,by omega⟩
theorem QG{a b:Nat}(ha:a<9223372036854775808)(hb:b<9223372036854775808):vJ .i64 (a:Int) (b:Int)=0↔∀i,a.testBit i=true→b.testBit i=true:=by
 show IntKind.i64.wrap (((BitVec.ofInt 64 (a:Int) &&& ~~~BitVec.ofInt 64 (b:Int)).toNat:Nat):Int)=0↔_;rw[BitVec.ofInt_natCast,BitVec.ofInt_natCast];have hle:(BitVec.ofNat 64 a &&& ~~~BitVec.ofNat 64 b).toNat<9223372036854775808:=by
  rw[BitVec.toNat_and,BitVec.toNat_ofNat,Nat.mod_eq_of_lt (by omega)]
  exact Nat.lt_of_le_of_lt Nat.and_le_left ha
 rw[Qax hle];have bit:∀i,(BitVec.ofNat 64 a &&& ~~~BitVec.ofNat 64 b).toNat.testBit i=(a.testBit i&&!b.testBit i):=fun i=>by
  rw[BitVec.testBit_toNat,BitVec.getLsbD_and,BitVec.getLsbD_not,BitVec.getLsbD_ofNat,BitVec.getLsbD_ofNat];rcases Nat.lt_or_ge i 64 with h|h
  ·simp [h]
  ·have:a.testBit i=false:=Nat.testBit_lt_two_pow (Nat.lt_of_lt_of_le ha (Nat.le_trans (by decide) (Nat.pow_le_pow_right (n:=2) (by omega) h)))
   simp [this]
 constructor
 ·intro h i hi;have:=bit i;rw[show(BitVec.ofNat 64 a &&& ~~~BitVec.ofNat 64 b).toNat=0 by omega,Nat.zero_testBit,hi]at this
  simpa using this.symm
 ·intro h;have:(BitVec.ofNat 64 a &&& ~~~BitVec.ofNat 64 b).toNat=0:=Nat.eq_of_testBit_eq fun i=>by
   rw[bit,Nat.zero_testBit];cases hi:a.testBit i with
   |false=>rfl
   |true=>rw[h i hi];rfl
  omega
theorem Mj{m i:Nat}:aW (yG (((m / 2 ^ i:Nat):Int)) 2) 1=m.testBit i:=by
 rw[Bool.eq_iff_iff,tk,Nat.testBit_eq_decide_div_mod_eq,decide_eq_true_iff];unfold yG;generalize m / 2 ^ i=q;rw[Int.tmod_eq_emod_of_nonneg (by omega)]
 omega
theorem Xw{t:ag}{aL:Int}(ht:0≤t.aL∧t.aL≤1073741823)(hs:0≤aL∧aL≤1073741823):∃b,nq t aL=some b∧uU t aL=some b:=by
 obtain⟨a,ha⟩:∃a:Nat,aL=a:=⟨aL.toNat,by omega⟩
 obtain⟨c,hc⟩:∃c:Nat,t.aL=c:=⟨t.aL.toNat,by omega⟩
 subst ha;refine⟨aW (vJ .i64 (a:Int) (c:Int)) 0,?_,?_⟩
 ·unfold nq;rw[hc];rw[show bP (c:Int) 0=true by simp,show bP (a:Int) 0=true by simp]
  rfl
 ·unfold uU;rw[bm (by simp;omega)]
  have key:aF (fun s=>lv t (a:Int) s) 1=some (if(aW (vJ .i64 (a:Int) (c:Int)) 0)=true then .inl ()else .inr false):=by
   have Pv:∀k:Nat,k≤62→(0:Int)<((2 ^ k:Nat):Int)∧((2 ^ k:Nat):Int)≤4611686018427387904:=fun k hk=>by
    have h1:=Nat.two_pow_pos k;have h2:2 ^ k≤2 ^ 62:=Nat.pow_le_pow_right (by omega) hk
    omega
   have main:post (aF (fun s=>lv t (a:Int) s) 1) fun e=>e=if(aW (vJ .i64 (a:Int) (c:Int)) 0)=true then .inl ()else .inr false:=by
    refine gT (fun s=>∃k:Nat,k≤63∧s=(if k=63 then -9223372036854775808 else((2 ^ k:Nat):Int))∧∀i,i<k→a.testBit i=true→c.testBit i=true) (fun s=>if s<0 then 0 else 9223372036854775808-s.toNat) ⟨0,by omega,rfl,fun i hi=>by omega⟩ (by decide) ?_
    rintro _ ⟨k,hk,rfl,hb⟩;show post (lv t (a:Int) _) _;unfold lv;rcases Nat.lt_or_ge k 63 with zz|zz
    ·rw[if_neg (by omega)]
     obtain⟨p1,p2⟩:=Pv k (by omega)
     rw[bu (by simp only[qS];exact p1),cr (by omega),hc]
     have hq:∀z:Nat,z<9223372036854775808→vX .i64 (z:Int) ((2 ^ k:Nat):Int)=((z / 2 ^ k:Nat):Int):=fun z hz=>by
      have e:(z:Int).tdiv ((2 ^ k:Nat):Int)=((z / 2 ^ k:Nat):Int):=by rw[Int.tdiv_eq_ediv_of_nonneg (by omega)];rfl
      have h1:=Nat.div_le_self z (2 ^ k);rw[Wa,e] <;>(rw[e];generalize z / 2 ^ k=q at h1;omega)
     rw[hq a (by omega),hq c (by omega),Mj]
     have go:∀h:(a.testBit k=true→c.testBit k=true),post (some (Sum.inl (sx .i64 ((2 ^ k:Nat):Int) 2):Int⊕(Unit⊕Bool))) fun x=>(∀s',x=.inl s'→(∃k':Nat,k'≤63∧s'=(if k'=63 then -9223372036854775808 else((2 ^ k':Nat):Int))∧∀i,i<k'→a.testBit i=true→c.testBit i=true)∧(if s'<0 then 0 else 9223372036854775808-s'.toNat)<(if((2 ^ k:Nat):Int)<0 then 0 else 9223372036854775808-((2 ^ k:Nat):Int).toNat))∧∀e,x=.inr e→e=if(aW (vJ .i64 (a:Int) (c:Int)) 0)=true then .inl ()else .inr false:=by
      intro h;have hm:sx .i64 ((2 ^ k:Nat):Int) 2=if k+1=63 then -9223372036854775808 else((2 ^ (k+1):Nat):Int):=by
       split
       ·rename_i VC;obtain rfl:k=62:=by omega
        decide
       ·obtain⟨q1,q2⟩:=Pv (k+1) (by omega)
        have e:((2 ^ k:Nat):Int)*2=((2 ^ (k+1):Nat):Int):=by rw[Nat.pow_succ];simp
        rw[Yl (by omega) (by omega),e]
      refine ki ⟨⟨k+1,by omega,hm,fun i hi=>?_⟩,?_⟩
      ·rcases Nat.lt_or_eq_of_le (Nat.le_of_lt_succ hi)with hi|rfl
       ·exact hb i hi
       ·exact h
      ·rw[hm,if_neg (show ¬((2 ^ k:Nat):Int)<0 by omega)]
       split
       ·rw[if_pos (by omega)];omega
       ·obtain⟨q1,q2⟩:=Pv (k+1) (by omega)
        have e:2 ^ (k+1)=2 ^ k*2:=Nat.pow_succ ..;rw[if_neg (by omega)]
        omega
     refine bh (fun h1=>b5 (by omega) (bh (fun h2=>fG ?_) (fun h2=>go fun _=>?_))) (fun h1=>go fun h=>by rw[h1]at h;cases h)
     ·rw[if_neg];intro h;have h3:=(QG (by omega) (by omega)).1 (tk.1 h) k h1
      rw[←Mj,tk]at h3;rw[tk]at h2;omega
     ·rw[yZ]at h2;rw[←Mj,tk];unfold yG at h2 ⊢;generalize c / 2 ^ k=q at h2 ⊢;rw[Int.tmod_eq_emod_of_nonneg (by omega)]at h2 ⊢
      omega
    ·obtain rfl:k=63:=by omega
     rw[if_pos rfl,bm (by decide)]
     refine fG ?_
     rw[if_pos];rw[tk];refine(QG (by omega) (by omega)).2 fun i hi=>?_
     rcases Nat.lt_or_ge i 63 with h|h
     ·exact hb i h hi
     ·rw[Nat.testBit_lt_two_pow (Nat.lt_of_lt_of_le (show a<2 ^ 63 by omega) (Nat.pow_le_pow_right (n:=2) (by omega) h))]at hi;cases hi
   exact main.eq
  rw[key,ax];split <;> simp_all
theorem QJ{α:Type}{b:Bool}{x y:α}:br b (some x) (some y)=some (if b=true then x else y):=by cases b <;> rfl
theorem jq{α β:Type}{l:List α}{i:Nat}{a:α}(h:l[i]?=some a)(f:α→Option β)(z:Option β):br (aS (i:Int) (aB l)) (aG (a4 l i) f) z=f a:=by
 have:=(List.getElem?_eq_some_iff.1 h).1;rw[bu (by simp [aB];omega),ba h,ax]
theorem hZ{α β:Type}{l:List α}{y z:Option β}:br (aS (l.length:Int) (aB l)) y z=z:=bm (by simp [aB])
theorem vQ{α:Type}{l:List α}{i:Nat}{a:α}(h:l[i]?=some a)(hl:l.length≤1048576):aT .i64 (i:Int) 1=(i:Int)+1:=inc (List.getElem?_eq_some_iff.1 h).1 hl
section
variable {x : ae} {l : List af} {r : aX}
def wm(t:ag)(aL:Int):Bool:=(nq t aL).getD false
end
def Gd{α S E:Type}(f:S→α→S⊕E)(N:S→E):S→List α→E
 |s,[]=>N s
 |s,a ::r=>match f s a with
  | .inl s'=>Gd f N s' r
  | .inr e=>e
theorem R3{α S E:Type}{f:S→α→S⊕E}{N:S→E}{s s':S}{a:α}{r:List α}(h:f s a=.inl s'):Gd f N s (a ::r)=Gd f N s' r:=by rw[Gd,h]
theorem Qa{α S E:Type}{l:List α}(hl:l.length≤1048576)(f:S→α→S⊕E)(N:S→E)(Inv:Nat→S→Prop){B:S×Int→Option ((S×Int)⊕E)}
  (y3:∀(s:S) (i:Nat) (a:α),l[i]?=some a→Inv i s→B (s,(i:Int))=some (match f s a with|.inl s'=>.inl (s',(i:Int)+1)|.inr e=>.inr e)∧∀s',f s a=.inl s'→Inv (i+1) s')
  (wD:∀s,Inv l.length s→B (s,(l.length:Int))=some (.inr (N s))) {s0:S} (h0:Inv 0 s0):aF B (s0,0)=some (Gd f N s0 l):=by
 have main:∀(m:List α) (k:Nat) (s:S),l.drop k=m→k≤l.length→Inv k s→tp B (m.length+1) (s,(k:Int))=some (Gd f N s m):=by
  intro m;induction m with
  |nil =>
   intro k s hd hk hi;have:k=l.length:=by
    have:=congrArg List.length hd;rw[List.length_drop,List.length_nil]at this;omega
   subst this;simp only[List.length_nil,tp];rw[wD s hi];rfl
  |cons a m ih =>
   intro k s hd hk hi;have zz:k<l.length:=Nat.lt_of_not_le fun h=>by rw[List.drop_eq_nil_of_le h]at hd;cases hd
   have WR:=List.drop_eq_getElem_cons zz;rw[hd]at WR;injection WR with h1 h2;have e:l[k]?=some a:=by rw[List.getElem?_eq_getElem zz,←h1]
   obtain⟨g1,g2⟩:=y3 s k a e hi;rw[List.length_cons,tp,g1];show _=some (match f s a with|.inl s'=>Gd f N s' m|.inr e=>e)
   cases hf:f s a with
   |inl s'=>exact ih (k+1) s' h2.symm zz (g2 s' hf)
   |inr e=>rfl
 have:=main l 0 s0 rfl (Nat.zero_le _) h0;exact Ow (l.length+1) (by unfold xM;omega) this
theorem V5{n:ah}(h:ah.ok 1048576 n):DB n:=by
 obtain⟨⟨h1,h2⟩,⟨h3,h4⟩,_⟩:=h;refine⟨h1,h3,h2,fun a ha=>?_⟩
 obtain⟨_,_,_,_,⟨h5,h6⟩,⟨h7,h8⟩,_⟩:=h4 a ha;exact⟨h5,h7,fun p hp=>⟨(h6 p hp).1,(h6 p hp).2.1⟩,fun p hp=>⟨(h8 p hp).1,(h8 p hp).2.1⟩⟩
theorem Ue{x:ae}(h:ae.ok 1048576 x):wk x:=by
 obtain⟨h0,⟨h1,h2⟩,⟨h3,h4⟩,⟨h5,_⟩,⟨h6,_⟩,_⟩:=h;refine⟨V5 h0,h1,h3,h5,h6,fun t ht=>?_,fun o ho=>?_⟩
 ·obtain⟨a,_,_,_,⟨b,_⟩,_⟩:=h2 t ht;exact⟨a,b⟩
 ·obtain⟨a,⟨b,_⟩,_⟩:=h4 o ho;exact⟨a,b⟩
end
end Go.Proofs.YtbilkblifgaflaaGreatDoor
