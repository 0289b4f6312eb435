/- Part MY. -/
import Derived.Test.YtkcilfpbgjjjbaaGreatDoorMX
import Derived.Test.YtkcilfpbgjjjbaaGreatDoorMQ
import Derived.Test.YtkcilfpbgjjjbaaGreatDoorMS
set_option linter.unusedSimpArgs false
set_option linter.unusedVariables false
set_option linter.unusedSectionVars false
namespace Go.Proofs.YtkcilfpbgjjjbaaGreatDoor
theorem gh{S E:Type}{B:S→Option (S⊕E)}(n:Nat)(hn:n≤1048576)(C:Nat→S→Prop){Q:E→Prop}{s0:S}(h0:C 0 s0)
  (step:∀i s,i<n→C i s→post (B s) fun x=>(∀s',x=.inl s'→C (i+1) s')∧∀e,x=.inr e→Q e)
  (fin:∀s,C n s→post (B s) fun x=>(∀s',x=.inl s'→False)∧∀e,x=.inr e→Q e):post (aL B s0) Q:=by
 refine V5 (fun m s=>m≤n∧C (n-m) s) n ⟨Nat.le_refl _,by rw[Nat.sub_self];exact h0⟩ (by omega) ?_
 rintro m s ⟨hm,hc⟩;rcases Nat.eq_zero_or_pos m with rfl|hp
 ·refine(fin s (by simpa using hc)).mono ?_
  rintro x ⟨h1,h2⟩;exact⟨fun s' e=>(h1 s' e).elim,h2⟩
 ·refine(step (n-m) s (by omega) hc).mono ?_
  rintro x ⟨h1,h2⟩;refine⟨fun s' e=>⟨m-1,by omega,by omega,?_⟩,h2⟩
  have:=h1 s' e;rwa [show n-m+1=n-(m-1) by omega]at this
def Mx(q:Int)(parts k:Nat):Int:=q / (parts:Int)+if(k:Int)<q % (parts:Int)then 1 else 0
theorem Qfh{q:Int}{parts k:Nat}(h0:0≤q):0≤Mx q parts k∧Mx q parts k≤q+1:=by
 have h1:=Int.ediv_nonneg h0 (Int.natCast_nonneg parts);have h2:=Int.ediv_le_self (parts:Int) h0;unfold Mx;split <;> omega
theorem Qdc{parts k:Nat}:Mx 0 parts k=0:=by unfold Mx;simp;omega
theorem P1{q:Int}{parts k:Nat}(h0:0≤q)(h1:q≤1000000)(hp:1≤parts):rm q parts k=some (Mx q parts k):=by
 have g1:=Int.ediv_nonneg h0 (Int.natCast_nonneg parts);have g2:=Int.ediv_le_self (parts:Int) h0;have e1:uJ q (parts:Int)=q % (parts:Int):=Int.tmod_eq_emod_of_nonneg h0;have e0:q.tdiv (parts:Int)=q / (parts:Int):=Int.tdiv_eq_ediv_of_nonneg h0;have e2:so .i64 q (parts:Int)=q / (parts:Int):=by rw[Qfk (by omega) (by omega),e0]
 unfold rm Mx;rw[fg (by omega),fg (by omega),e1,e2,fp (by omega) (by omega),zz]
 by_cases h:(k:Int)<q % (parts:Int)
 ·rw[if_pos (by simpa using h),if_pos h]
 ·rw[if_neg (by simpa using h),if_neg h];simp
theorem Qfi{q:Int}{parts:Nat}(h0:0≤q)(h1:1≤parts)(h4:parts≤4):iu parts (fun k=>Mx q parts k)=q:=by
 have:parts=1∨parts=2∨parts=3∨parts=4:=by omega
 rcases this with rfl|rfl|rfl|rfl <;> simp only[iu,Mx,Int.cast_ofNat_Int] <;>(repeat' split) <;> omega
theorem C6{D:Nat}{f:Nat→Int}{d:Nat}:(dA D f).getD d 0=if d<D then f d else 0:=by
 rw[List.getD_eq_getElem?_getD];split
 ·rename_i h;rw[kk h];rfl
 ·rename_i h;rw[List.getElem?_eq_none (by rw[eY];omega)];rfl
theorem Kf{l:List Int}{d:Nat}(h:l.length≤d):l.getD d 0=0:=by rw[List.getD_eq_getElem?_getD,List.getElem?_eq_none h];rfl
theorem PI{a:List Int}{cO:Int}(ha:a.length≤1048576):qt a cO=some (if(a.any fun n=>bh n 0||dp n 1000)=true then false else cM (az a) cO):=by
 have h1:aL (fun s=>jo a cO s) 0=some (if(a.any fun n=>bh n 0||dp n 1000)=true then(.inr false:Unit⊕Bool)else .inl ()):=eX (B:=fun s=>jo a cO s) ha (fun n=>bh n 0||dp n 1000) (fun i x h=>by
  show jo a cO i=_;unfold jo;rw[bL h,jc h ha,zz]) (by
  show jo a cO a.length=_;unfold jo;rw[bA])
 unfold qt;rw[ct h1];split <;> rfl
theorem Qa{a:List Int}(h3:a.length≤1048576)(hl:∀n∈a,0≤n∧n≤1000):qt a (az a)=some true:=by
 rw[PI h3,if_neg,(kJ.2 rfl:cM (az a) (az a)=true)];rw[List.any_eq_true];rintro⟨n,hn,hc⟩;have:=hl n hn;simp only[Bool.or_eq_true,js,w4]at hc;omega
theorem VQ{l:List Int}{n:Int}(h:n∈l):∃d,d<l.length∧l.getD d 0=n:=by
 obtain⟨d,hd,e⟩:=List.mem_iff_getElem.1 h;exact⟨d,hd,by rw[List.getD_eq_getElem?_getD,List.getElem?_eq_getElem hd,e];rfl⟩
theorem mk_zero{D:Nat}(h:D≤3):za (D:Int) (D:Int) 8 (0:Int)=some (List.replicate D 0):=by
 unfold za;rw[if_pos (by omega)];rfl
def tu(load:List Int)(parts k:Nat):List Int:=dA load.length fun d=>Mx (load.getD d 0) parts k
theorem Rt{load:List Int}{parts:Nat}(h1:1≤parts)(h4:parts≤4)(h3:load.length≤3)(hl:∀d,0≤load.getD d 0∧load.getD d 0≤1000):
  yp load parts=some ((List.range parts).map (tu load parts),0):=by
 unfold yp;rw[bq (by simp [az];omega),Qa (by omega) (fun n hn=>by obtain⟨d,_,e⟩:=VQ hn;rw[←e];exact hl d),ak,fW]
 have hlp:aL (fun s=>ju load parts s.1 s.2) ([],0)=some ((List.range parts).map (tu load parts)):=by
  refine il (B:=fun s:List (List Int)×Int=>ju load parts s.1 s.2) parts (fun k=>((List.range k).map (tu load parts),(k:Int))) (by omega) (fun k hk=>?_) ?_
  ·show ju load parts _ (k:Int)=_;unfold ju;rw[bD (by simp;omega)]
   have hm:za (az load) (az load) 8 (0:Int)=some (List.replicate load.length 0):=mk_zero h3;rw[hm,ak];rw[ct (LI (D:=load.length) (f:=fun d=>load.getD d 0) (g:=fun d=>0) (h:=fun d=>Mx (load.getD d 0) parts k) h3 (B:=fun s=>lj load parts ((List.range k).map (tu load parts)) k s.1 s.2) (fun d l2 hd hlen=>by
    have e:load[d]?=some (load.getD d 0):=by rw[List.getD_eq_getElem?_getD,List.getElem?_eq_getElem hd];rfl
    show lj load parts ((List.range k).map (tu load parts)) k l2 (d:Int)=_;unfold lj;rw[bL e,P1 (hl d).1 (by have:=(hl d).2;omega) h1,ak,Ir (by omega),ak,fp (by omega) (by omega)]) (fun l2=>by
    show lj load parts ((List.range k).map (tu load parts)) k l2 (load.length:Int)=_;unfold lj;rw[bA]))]
   rw[fg (dt (by simp;omega)),fp (by omega) (by omega)]
   simp only[List.range_succ,List.map_append,List.map_cons,List.map_nil,Int.natCast_add,Int.cast_ofNat_Int];rfl
  ·show ju load parts _ (parts:Int)=_;unfold ju;rw[bq (by simp)]
 rw[ct hlp]
def ldD(d:Nat)(p:ag):Int:=p.load.getD d 0
structure SX (o:ag) (ps:List ag):Prop where
 len:ps.length≤4
 all:∀p∈ps,p.off=o.off∧p.load.length=o.load.length∧∀d,0≤p.load.getD d 0
 one:¬1<o.split→ps=[o]
 sum:∀d,dq (ldD d) ps=o.load.getD d 0
theorem Qa7{n:Int}:(Ej n).size≤4:=by
 unfold Ej Utf8.encode;generalize(if Utf8.valid n=true then n.toNat else Utf8.runeError)=c
 dsimp only
 split
 ·exact(by decide:(1:Nat)≤4)
 split
 ·exact(by decide:(2:Nat)≤4)
 split
 ·exact(by decide:(3:Nat)≤4)
 ·exact(by decide:(4:Nat)≤4)
theorem N3{np cO types:Nat}{o:ag}(hd:cO≤3)(hO:OW np cO types o)(hI:Z5 o):post (yt o) fun r=>r.2=0→SX o r.1:=by
 have hsp:=hO.split;have QpC:=hO.eH;have hl:∀d,0≤o.load.getD d 0∧o.load.getD d 0≤1000:=fun d=>by
  rcases Nat.lt_or_ge d o.load.length with h|h
  ·exact hO.Qgr d h _ (by rw[List.getD_eq_getElem?_getD,List.getElem?_eq_getElem h];rfl)
  ·rw[Kf h];omega
 unfold yt;refine a_ (fun h=>aP.2 fun _=>?_) (fun h=>?_)
 ·exact⟨by simp,fun p hp=>by rw[List.mem_singleton.1 hp];exact⟨rfl,rfl,fun d=>(hl d).1⟩,fun _=>rfl,fun d=>by rw[re];rfl⟩
 ·rw[VH]at h;obtain⟨n,hn⟩:∃n:Nat,o.split=n:=⟨o.split.toNat,by omega⟩
  have h3:o.load.length≤3:=by rw[hO.load];exact hd
  rw[hn,Rt (by omega) (by omega) h3 hl,ak,bq (by simp)]
  refine ba (R:=fun ps=>SX o ps) ?_ fun ps hp=>aP.2 fun _=>hp
  refine gh n (by omega) (fun(k:Nat) (s:List ag×Int×Int)=>s.2.1=o.eH∧s.2.2=(k:Int)∧s.1.length=k∧(∀p∈s.1,p.off=o.off∧p.load.length=o.load.length∧∀d,0≤p.load.getD d 0)∧∀d,dq (ldD d) s.1=iu k fun j=>Mx (o.load.getD d 0) n j)
   ⟨rfl,rfl,rfl,by simp,fun d=>rfl⟩ ?_ ?_
  ·rintro k ⟨l,pen,v⟩ hk ⟨h1,h2,h4,h5,h6⟩;simp only at h1 h2 h4 h5 h6;subst h1 h2;show post (nJ o ((List.range n).map (tu o.load n),0) l o.eH (k:Int)) _;unfold nJ;have e:((List.range n).map (tu o.load n))[k]?=some (tu o.load n k):=by simp [hk]
   rw[bL e];have hs:=Qa7 (n:=Ax .i32 (aU .i64 49 (k:Int)));have hnm:=hI.name;have hz:yj.size≤4:=by decide
   have hc:(dC yj (Ej (Ax .i32 (aU .i64 49 (k:Int))))).size≤8:=by unfold dC;rw[ByteArray.size_append];omega
   refine bW (by omega) (bW (by omega) ?_)
   have main:∀pn:Int,post (qb o ((List.range n).map (tu o.load n),0) l o.eH (k:Int) (tu o.load n k) pn) fun x=>(∀s',x=.inl s'→s'.2.1=o.eH∧s'.2.2=((k+1:Nat):Int)∧s'.1.length=k+1∧(∀p∈s'.1,p.off=o.off∧p.load.length=o.load.length∧∀d,0≤p.load.getD d 0)∧∀d,dq (ldD d) s'.1=iu (k+1) fun j=>Mx (o.load.getD d 0) n j)∧∀e,x=.inr e→SX o e:=fun pn=>by
    unfold qb;refine bW (dt (by simp;omega)) (bZ (C:=fun s'=>_) ⟨rfl,?_,by simp [h4],?_,fun d=>?_⟩)
    ·show aU .i64 (k:Int) 1=_;rw[fp (by omega) (by omega)];rfl
    ·intro p hp;rcases List.mem_append.1 hp with hp|hp
     ·exact h5 p hp
     ·rw[List.mem_singleton.1 hp];refine⟨rfl,eY,fun d=>?_⟩
      show 0≤(tu o.load n k).getD d 0;unfold tu;rw[C6];split
      ·exact(Qfh (hl d).1).1
      ·omega
    ·show dq (ldD d) (l++[_])=_;rw[qd,re,h6 d];show _=iu k _+_;congr 1;show(tu o.load n k).getD d 0=_;unfold tu;rw[C6];split
     ·rfl
     ·rename_i QW;rw[Kf (by omega)];exact Qdc.symm
   refine a_ (fun h0=>?_) (fun _=>main _)
   rw[nk]at h0;rw[hn,P1 h0 (by omega) (by omega),ak]
   exact main _
  ·rintro⟨l,pen,v⟩ ⟨h1,h2,h4,h5,h6⟩;simp only at h1 h2 h4 h5 h6;subst h1 h2;show post (nJ o ((List.range n).map (tu o.load n),0) l o.eH (n:Int)) _;unfold nJ;rw[bq (by simp [az])]
   exact b5 ⟨by omega,h5,fun h'=>by omega,fun d=>by rw[h6 d,Qfi (hl d).1 (by omega) (by omega)]⟩
theorem Si{l:List ag}{c:ByteArray}(hl:l.length≤1048576):∃b,cq l c=some b:=by
 have h1:∃n,cX l c=some n:=by
  unfold cX;rw[ct (wF (B:=fun s=>bQ l c s) hl (fun a=>E3 a.name c) (fun k=>(.inr (k:Int):Unit⊕Int)) (N:=.inl ()) (fun i a h=>by
   show bQ l c i=_;unfold bQ xO;rw[bL h,jc h hl,ak,zz]) (by
   show bQ l c l.length=_;unfold bQ;rw[bA]))]
  split <;> exact⟨_,rfl⟩
 obtain⟨n,h1⟩:=h1;exact⟨_,by unfold cq;rw[ct h1]⟩
theorem X_{x:ab}{l:List ag}{c:ByteArray}(hl:l.length≤1048576)(hx:x.ah.length≤1048576):post (yr x l c) fun r=>r=0→c.size≤16:=by
 obtain⟨a,ha⟩:=Si (c:=c) hl;obtain⟨b,hb⟩:=Si (c:=c) hx;unfold yr;rw[ha,ak,hb,ak];refine a_ (fun _=>aP.2 fun h=>by cases h) (fun h=>?_)
 have sH:c.size≤16:=by
  have h':dp (c.size:Int) 16=false:=h;rw[pL]at h';omega
 exact a_ (fun _=>aP.2 fun _=>sH) fun _=>a_ (fun _=>aP.2 fun _=>sH) fun _=>aP.2 fun _=>sH
theorem Ny{l:List aA}{og:List Int}(hl:l.length≤16)(ho:og.length≤40):post (sV l og) fun r=>r.2=0→r.1.length≤16:=by
 unfold sV;refine ba (R:=fun _=>True) ?_ fun r _=>?_
 ·refine gh l.length (by omega) (fun(k:Nat) (s:List aA×Int)=>s.2=(k:Int)∧s.1.length≤1600*k) ⟨rfl,by simp⟩ ?_ ?_
  ·rintro k ⟨l1,v⟩ hk ⟨h1,h2⟩;simp only at h1 h2;subst h1;show post (lP l og l1 (k:Int)) _;unfold lP;rw[bL (List.getElem?_eq_getElem hk)];refine ba (R:=fun l5=>l5.length≤l1.length+1600) ?_ fun l5 h5=>?_
   ·refine(gh og.length (by omega) (fun(j:Nat) (s:List aA×Int)=>s.2=(j:Int)∧s.1.length≤l1.length+40*j) (s0:=(l1,0)) ⟨rfl,by simp⟩ ?_ ?_:post _ fun l5:List aA=>l5.length≤l1.length+1600)
    ·rintro j ⟨l2,v1⟩ hj ⟨h3,h4⟩;simp only at h3 h4;subst h3;show post (lQ l og (k:Int) l[k] l2 (j:Int)) _;unfold lQ;rw[bL (List.getElem?_eq_getElem hj)];refine ba (R:=fun l4=>l4.length≤l2.length+40) ?_ fun l4 h6=>?_
     ·refine(gh og.length (by omega) (fun(i:Nat) (s:List aA×Int)=>s.2=(i:Int)∧s.1.length≤l2.length+i) (s0:=(l2,0)) ⟨rfl,by simp⟩ ?_ ?_:post _ fun l4:List aA=>l4.length≤l2.length+40)
      ·rintro i ⟨l3,v2⟩ hi ⟨h7,h8⟩;simp only at h7 h8;subst h7;show post (lR l og (k:Int) l[k] (j:Int) og[j] l3 (i:Int)) _;unfold lR;rw[bL (List.getElem?_eq_getElem hi),fp (by omega) (by omega)]
       refine a_ (fun _=>a_ (fun _=>bW (dt (by simp;omega)) (bZ (C:=fun s'=>_) ⟨rfl,by simp;omega⟩)) (fun _=>bZ (C:=fun s'=>_) ⟨rfl,?_⟩)) (fun _=>bZ (C:=fun s'=>_) ⟨rfl,?_⟩)
       ·show l3.length≤_;omega
       ·show l3.length≤_;omega
      ·rintro⟨l3,v2⟩ ⟨h7,h8⟩;simp only at h7 h8;subst h7;show post (lR l og (k:Int) l[k] (j:Int) og[j] l3 (og.length:Int)) _;unfold lR;rw[bA];exact b5 (by omega)
     ·rw[fp (by omega) (by omega)]
      refine bZ (C:=fun s'=>_) ⟨rfl,?_⟩
      show l4.length≤_;omega
    ·rintro⟨l2,v1⟩ ⟨h3,h4⟩;simp only at h3 h4;subst h3;show post (lQ l og (k:Int) l[k] l2 (og.length:Int)) _;unfold lQ;rw[bA];exact b5 (by omega)
   ·rw[fp (by omega) (by omega)]
    refine bZ (C:=fun s'=>_) ⟨rfl,?_⟩
    show l5.length≤_;omega
  ·rintro⟨l1,v⟩ ⟨h1,h2⟩;simp only at h1 h2;subst h1;show post (lP l og l1 (l.length:Int)) _;unfold lP;rw[bA];exact b5 trivial
 ·refine a_ (fun _=>aP.2 fun h=>by cases h) (fun h=>aP.2 fun _=>?_)
  rw[pL]at h;unfold az at h;show r.length≤16;omega
def QG(v d:Nat)(p:Int×ag):Int:=if p.1=(v:Int)then ldD d p.2 else 0
def Pt2(x:ab)(u:Int)(o:ag):Prop:=∃(v:Nat) (o':ag),u=(v:Int)∧x.ah[v]?=some o'∧o.off=o'.off∧o.load.length=o'.load.length∧(∀d,0≤o.load.getD d 0)∧Z5 o
structure QI (x:ab) (c:Nat) (og:List Int) (os:List ag):Prop where
 len:og.length=os.length
 zY:os.length≤c
 prs:∀p∈og.zip os,Pt2 x p.1 p.2
theorem QI.snoc{x:ab}{c:Nat}{og:List Int}{os:List ag}{u:Int}{o:ag}(h:QI x c og os)(hp:Pt2 x u o):QI x (c+1) (og++[u]) (os++[o]):=by
 have h1:=h.len;have h2:=h.zY;refine⟨by simp [h1],by simp;omega,fun p hq=>?_⟩
 rw[List.zip_append h1]at hq;rcases List.mem_append.1 hq with hq|hq
 ·exact h.prs p hq
 ·rw[List.mem_singleton.1 hq];exact hp
structure OU (x y:ab) (og:List Int):Prop where
 exp:QI x 40 og y.ah
 types:y.types=x.types
 ins:Rz y
 sum:∀v d,dq (QG v d) (og.zip y.ah)=if v<x.ah.length then kL x v d else 0
theorem UD{x:ab}(hx:da x)(hI:Rz x):post (qJ x) fun r=>r.2.2=0→OU x r.1 r.2.1:=by
 have dm:=hx.ah;have hd3:=(AY hx).2;unfold qJ;refine ba (R:=fun _=>True) ?_ fun tot _=>?_
 ·refine gh x.ah.length (by omega) (fun(k:Nat) (s:Int×Int)=>s.2=(k:Int)) rfl ?_ ?_
  ·rintro k ⟨t,v⟩ hk h1;simp only at h1;subst h1;show post (lG x t (k:Int)) _;unfold lG;rw[bL (List.getElem?_eq_getElem hk)];refine bZ (C:=fun s'=>_) ?_
   show aU .i64 (k:Int) 1=_;rw[fp (by omega) (by omega)];rfl
  ·rintro⟨t,v⟩ h1;simp only at h1;subst h1;show post (lG x t (x.ah.length:Int)) _;unfold lG;rw[bA];exact b5 trivial
 refine a_ (fun _=>aP.2 fun h=>by cases h) (fun _=>?_)
 refine ba (R:=fun e=>(∀r,e=.inl r→QI x 40 r.1 r.2∧∀v d,dq (QG v d) (r.1.zip r.2)=if v<x.ah.length then kL x v d else 0)∧∀r,e=.inr r→r.2.2≠0) ?_ fun e he=>?_
 ·refine gh x.ah.length (by omega) (fun(k:Nat) (s:List Int×List ag×Int)=>s.2.2=(k:Int)∧QI x (4*k) s.1 s.2.1∧∀v d,dq (QG v d) (s.1.zip s.2.1)=if v<k then kL x v d else 0)
   ⟨rfl,⟨rfl,by simp,by simp⟩,fun v d=>by simp [dq]⟩ ?_ ?_
  ·rintro k ⟨l,l1,v1⟩ hk ⟨h1,h2,h3⟩;simp only at h1 h2 h3;subst h1;show post (lH x l l1 (k:Int)) _;unfold lH;have e:x.ah[k]?=some x.ah[k]:=List.getElem?_eq_getElem hk;have hm:=List.getElem_mem hk;rw[bL e];generalize x.ah[k]=o at e hm;have hO:=hx.ord o hm;have hIo:=hI.Qkt o hm;have WR:∀d,kL x k d=o.load.getD d 0:=fun d=>by unfold kL;rw[e]
   refine ba (N3 hd3 hO hIo) fun r hr=>?_
   refine a_ (fun h=>?_) (fun h=>?_)
   ·refine b5 ⟨fun r' h'=>(by cases h'),fun r' h'=>?_⟩
    cases h';exact xb.1 h
   rw[yX]at h;have hP:=hr h;have hp4:=hP.len;refine ba (R:=fun e=>(∀r',e=.inl r'→QI x (4*k+4) r'.1 r'.2∧∀v d,dq (QG v d) (r'.1.zip r'.2)=dq (QG v d) (l.zip l1)+if v=k then dq (ldD d) r.1 else 0)∧∀r',e=.inr r'→r'.2.2≠0) ?_ fun e2 L7=>?_
   ·refine gh r.1.length (by omega) (fun(j:Nat) (s:List Int×List ag×Int)=>s.2.2=(j:Int)∧QI x (4*k+j) s.1 s.2.1∧∀v d,dq (QG v d) (s.1.zip s.2.1)=dq (QG v d) (l.zip l1)+if v=k then dq (ldD d) (r.1.take j)else 0)
     ⟨rfl,h2,fun v d=>by simp [dq]⟩ ?_ ?_
    ·rintro j ⟨l2,l3,v2⟩ hj ⟨g1,g2,g3⟩;simp only at g1 g2 g3;subst g1;show post (lJ x l (k:Int) o r l2 l3 (j:Int)) _;unfold lJ;have ej:r.1[j]?=some r.1[j]:=List.getElem?_eq_getElem hj;have hmj:=List.getElem_mem hj;rw[bL ej];generalize r.1[j]=p at ej hmj;have hl3:=g2.zY;have Zf:=g2.len;obtain⟨q1,q2,q3⟩:=hP.all p hmj;have main:Z5 p→post (oh x l (k:Int) o r l2 l3 (j:Int) p) fun y=>(∀s',y=.inl s'→s'.2.2=((j+1:Nat):Int)∧QI x (4*k+(j+1)) s'.1 s'.2.1∧∀v d,dq (QG v d) (s'.1.zip s'.2.1)=dq (QG v d) (l.zip l1)+if v=k then dq (ldD d) (r.1.take (j+1))else 0)∧∀e,y=.inr e→((∀r',e=.inl r'→QI x (4*k+4) r'.1 r'.2∧∀v d,dq (QG v d) (r'.1.zip r'.2)=dq (QG v d) (l.zip l1)+if v=k then dq (ldD d) r.1 else 0)∧∀r',e=.inr r'→r'.2.2≠0):=fun hIp=>by
      unfold oh;rw[fp (by omega) (by omega)]
      refine bW (dt (by simp;omega)) (bW (dt (by simp;omega)) (bZ (C:=fun s'=>_) ⟨rfl,g2.snoc ⟨k,o,rfl,e,q1,q2,q3,hIp⟩,fun v d=>?_⟩))
      show dq (QG v d) ((l2++[(k:Int)]).zip (l3++[p]))=_;rw[List.zip_append Zf,qd,g3 v d,zq ej];show _+dq (QG v d) [((k:Int),p)]=_;rw[re];unfold QG;by_cases hv:v=k
      ·rw[if_pos hv,if_pos hv,if_pos (by show(k:Int)=_;omega)]
       show _+ldD d p=_;omega
      ·rw[if_neg hv,if_neg hv,if_neg (by show ¬(k:Int)=_;omega)]
       omega
     refine a_ (fun hs=>ba (X_ (by omega) (by omega)) fun r1 HZ=>a_ (fun hn=>?_) (fun hn=>main ⟨?_,?_⟩)) (fun hs=>main ?_)
     ·refine b5 ⟨fun r' h'=>(by cases h'),fun r' h'=>?_⟩
      cases h';exact xb.1 hn
     ·have:=HZ (yX.1 hn);omega
     ·rw[q2];exact hIo.load
     ·rw[pL]at hs;have:p=o:=by
       have h1:=hP.one (by omega)
       rw[h1]at hmj;exact List.mem_singleton.1 hmj
      rw[this];exact hIo
    ·rintro⟨l2,l3,v2⟩ ⟨g1,g2,g3⟩;simp only at g1 g2 g3;subst g1;show post (lJ x l (k:Int) o r l2 l3 (r.1.length:Int)) _;unfold lJ;rw[bA];refine b5 ⟨fun r' h'=>?_,fun r' h'=>(by cases h')⟩
     cases h';refine⟨⟨g2.len,by have:=g2.zY;show l3.length≤_;omega,g2.prs⟩,fun v d=>?_⟩
     have:=g3 v d;rwa [List.take_length]at this
   ·cases e2 with
    |inl r' =>
     obtain⟨w1,w2⟩:=L7.1 r' rfl;rw[dw];refine bZ (C:=fun s'=>_) ⟨?_,?_,fun v d=>?_⟩
     ·show aU .i64 (k:Int) 1=_;rw[fp (by omega) (by omega)];rfl
     ·rw[show 4*(k+1)=4*k+4 by omega];exact w1
     ·show dq (QG v d) (r'.1.zip r'.2)=_;rw[w2 v d,h3 v d,hP.sum d,←WR d];by_cases hv:v=k
      ·subst hv;rw[if_pos rfl,if_neg (by omega),if_pos (by omega)];omega
      ·rw[if_neg hv];by_cases L_:v<k
       ·rw[if_pos L_,if_pos (by omega)];omega
       ·rw[if_neg L_,if_neg (by omega)];omega
    |inr r' =>
     rw[nQ];refine b5 ⟨fun r'' h'=>(by cases h'),fun r'' h'=>?_⟩
     cases h';exact L7.2 _ rfl
  ·rintro⟨l,l1,v1⟩ ⟨h1,h2,h3⟩;simp only at h1 h2 h3;subst h1;show post (lH x l l1 (x.ah.length:Int)) _;unfold lH;rw[bA];refine b5 ⟨fun r' h'=>?_,fun r' h'=>(by cases h')⟩
   cases h';exact⟨⟨h2.len,by have:=h2.zY;show l1.length≤_;omega,h2.prs⟩,h3⟩
 ·cases e with
  |inr r =>
   rw[nQ];exact aP.2 fun h=>absurd h (he.2 r rfl)
  |inl r =>
   rw[dw];obtain⟨w1,w2⟩:=he.1 r rfl;have hlen:=w1.len;have Zg:=w1.zY;refine ba (Ny hx.bV (by omega)) fun r3 h3=>ba (Ny hx.before (by omega)) fun r4 h4=>a_ (fun _=>aP.2 fun h=>by cases h) (fun h=>aP.2 fun _=>?_)
   simp only[PW,yX]at h;have g3:=h3 h.1;have g4:=h4 h.2;refine⟨w1,rfl,⟨hI.bG,hI.types,by show r.2.length≤_;omega,by show r3.1.length≤_;omega,by show r4.1.length≤_;omega,hI.QkE,fun o ho=>?_⟩,w2⟩
   obtain⟨i,hi,ei⟩:=List.mem_iff_getElem.1 (show o∈r.2 from ho);have:(r.1[i]'(by omega),o)∈r.1.zip r.2:=by
    rw[←ei,←List.getElem_zip (h:=by simp;omega)]
    exact List.getElem_mem _
   obtain⟨_,_,_,_,_,_,_,h⟩:=w1.prs _ this;exact h
theorem WA{f g:Nat→Int}:∀n,iu n (fun i=>f i+g i)=iu n f+iu n g
 |0=>rfl
 |n+1=>by
  have h:=WA (f:=f) (g:=g) n;show iu n _+(f n+g n)=(iu n f+f n)+(iu n g+g n);rw[h];omega
theorem ZQ{f g:Nat→Int}:∀n,(∀i,i<n→f i≤g i)→iu n f≤iu n g
 |0,_=>Int.le_refl _
 |n+1,h=>by
  unfold iu;have h1:=ZQ n fun i hi=>h i (by omega)
  have h2:=h n (by omega)
  omega
theorem WB{f:Nat→Int}:∀n,(∀i,i<n→f i=0)→iu n f=0
 |0,_=>rfl
 |n+1,h=>by unfold iu;rw[WB n fun i hi=>h i (by omega),h n (by omega)];rfl
theorem OM{α:Type}{f:α→Int}:∀{l:List α},(∀a∈l,0≤f a)→0≤dq f l
 | [],_=>by simp [dq]
 |a ::l,h=>by
  have h1:=OM (f:=f) (l:=l) fun b hb=>h b (List.mem_cons_of_mem _ hb)
  have h2:=h a (List.mem_cons_self ..);have e:dq f (a ::l)=f a+dq f l:=by simp [dq]
  omega
theorem Qbe{α:Type}{f:α→Int}{l:List α}(h:∀a∈l,0≤f a)(k:Nat):0≤dq f (l.take k)∧dq f (l.take k)≤dq f l:=by
 have e:dq f l=dq f (l.take k)+dq f (l.drop k):=by rw[←qd,List.take_append_drop]
 have h1:=OM (f:=f) (l:=l.take k) fun a ha=>h a (List.mem_of_mem_take ha)
 have h2:=OM (f:=f) (l:=l.drop k) fun a ha=>h a (List.mem_of_mem_drop ha)
 omega
theorem Wz{α:Type}{f:α→Int}:∀{l:List α} {a:α},(∀a∈l,0≤f a)→a∈l→f a≤dq f l
 |b ::l,a,h,hm=>by
  have h1:=OM (f:=f) (l:=l) fun b hb=>h b (List.mem_cons_of_mem _ hb)
  have h2:=h b (List.mem_cons_self ..);have e:dq f (b ::l)=f b+dq f l:=by simp [dq]
  rcases List.mem_cons.1 hm with rfl|hm
  ·omega
  ·have:=Wz (fun b hb=>h b (List.mem_cons_of_mem _ hb)) hm
   omega
def atF{α:Type}(f:α→Int)(l:List α)(i:Nat):Int:=match l[i]? with
 |some a=>f a
 |none=>0
theorem S1{α:Type}{f:α→Int}{l:List α}{i:Nat}{a:α}(h:l[i]?=some a):atF f l i=f a:=by unfold atF;rw[h]
theorem ZP{α:Type}{f:α→Int}{l:List α}:∀n,n≤l.length→iu n (atF f l)=dq f (l.take n)
 |0,_=>by simp [iu,dq]
 |n+1,h=>by
  have e:l[n]?=some l[n]:=List.getElem?_eq_getElem (by omega)
  unfold iu;rw[ZP n (by omega),zq e,S1 e]
theorem Xs{l:List Int}(h:l.length≤1048576):fi l=some l:=by
 unfold fi;rw[fg (dt (by omega))]
 cases l with
 |nil=>exact UN
 |cons a r=>rfl
section
variable {x y : ab} {og : List Int} {r : ay}
def K1(v d:Nat)(s:ax):Int:=if s.aJ=(v:Int)then s.load.getD d 0 else 0
structure Ie (n D:Nat) (c:Int) (s:ax):Prop where
 ord:∃u:Nat,s.aJ=(u:Int)∧u<n
 len:s.load.length=D
 nn:∀d,0≤s.load.getD d 0
 zY:∀d,s.load.getD d 0≤c
theorem Ie.mono{n D:Nat}{c c':Int}{s:ax}(h:Ie n D c s)(hc:c≤c'):Ie n D c' s:=⟨h.ord,h.len,h.nn,fun d=>by have:=h.zY d;omega⟩
theorem Ie.Qij{n D:Nat}{c:Int}{s:ax}(h:Ie n D c s)(v d:Nat):0≤K1 v d s:=by
 unfold K1;split
 ·exact h.nn d
 ·omega
def U0(og:List Int)(y:ab)(l:List ae)(v d i:Nat):Int:=if dz l (i:Int)=true then atF (QG v d) (og.zip y.ah) i else 0
theorem T1(hy:da y)(hE:OU x y og)(ht:cg y.types=cg x.types){i:Nat}(hi:i<y.ah.length):∃(o:ag) (u:Nat),y.ah[i]?=some o∧og[i]?=some (u:Int)∧u<x.ah.length∧(og.zip y.ah)[i]?=some ((u:Int),o)∧o.load.length=cg x.types∧(∀d,0≤o.load.getD d 0∧o.load.getD d 0≤1000)∧∃o',x.ah[u]?=some o'∧o.off=o'.off:=by
 obtain⟨o,e,hm,_,hl,_⟩:=F2 hy hi;have hlen:=hE.exp.len;have eo:og[i]?=some (og[i]'(by omega)):=List.getElem?_eq_getElem (by omega)
 have ez:(og.zip y.ah)[i]?=some (og[i]'(by omega),o):=by
  rw[List.getElem?_zip_eq_some];exact⟨eo,e⟩
 obtain⟨v,o',h1,h2,h3,h4,h5,h6⟩:=hE.exp.prs _ (List.mem_of_getElem? ez);simp only at h1 h3 h4 h5;refine⟨o,v,e,by rw[eo,h1],(List.getElem?_eq_some_iff.1 h2).1,by rw[ez,h1],?_,fun d=>?_,o',h2,h3⟩
 ·rw[(hy.ord o hm).load,ht]
 ·have:=hl d;unfold kL at this;rw[e]at this;exact this
theorem Qe3{α:Type}(l:List α):l=[]∨∃i a,l=i++[a]:=by
 rcases List.eq_nil_or_concat l with h|⟨i,a,h⟩
 ·exact .inl h
 ·exact .inr ⟨i,a,by rw[h,List.concat_eq_append]⟩
theorem Wl(hx:da x)(hy:da y)(hE:OU x y og)(ht:cg y.types=cg x.types)(hl:r.aq.length≤1048576)(hv:∀v∈r.aq,0≤v.aJ∧v.aJ<y.ah.length):
  post (wI y og r) fun q=>q.2=true∧q.1.length≤y.ah.length∧(∀s∈q.1,Ie x.ah.length (cg x.types) 10000 s)∧∀v d,dq (K1 v d) q.1=iu y.ah.length (U0 og y r.aq v d):=by
 have dm:=hy.ah;have hD:=(AY hx).2;unfold wI;have hm:za (az y.ah) (az y.ah) 1 false=some (List.replicate y.ah.length false):=by
  unfold za az;rw[if_pos (by omega)];rfl
 rw[hm,ak];refine ba (R:=fun e=>∃l2:List Bool,e=.inl l2∧l2.length=y.ah.length∧∀i,i<y.ah.length→l2[i]?=some (dz r.aq (i:Int))) ?_ ?_
 ·refine gh r.aq.length hl (fun(k:Nat) (s:List Bool×Int)=>s.2=(k:Int)∧s.1.length=y.ah.length∧∀i,i<y.ah.length→s.1[i]?=some (dz (r.aq.take k) (i:Int)))
   ⟨rfl,by simp,fun i hi=>by simp [hi,dz]⟩ ?_ ?_
  ·rintro k ⟨l1,v⟩ hk ⟨h1,h2,h3⟩;simp only at h1 h2 h3;subst h1;show post (lK y og r (List.replicate y.ah.length false) l1 (k:Int)) _;unfold lK;have e:r.aq[k]?=some r.aq[k]:=List.getElem?_eq_getElem hk;have pq:=hv _ (List.getElem_mem hk);rw[bL e];generalize r.aq[k]=w at e pq;obtain⟨n,hn⟩:∃n:Nat,w.aJ=n:=⟨w.aJ.toNat,by omega⟩
   rw[bq (by rw[PW,jY,Cn];unfold az;omega),hn,Ir (by omega),ak,jc e hl]
   refine bZ (C:=fun s'=>_) ⟨rfl,by simp [e_,h2],fun i hi=>?_⟩
   show(e_ l1 (n:Int) true)[i]?=_;unfold e_;rw[Int.toNat_natCast,List.getElem?_set,take_one e];have QlP:dz (r.aq.take k++[w]) (i:Int)=(dz (r.aq.take k) (i:Int)||decide (n=i)):=by
    unfold dz;rw[List.any_append,List.any_cons,List.any_nil,Bool.or_false];congr 1;rw[Bool.eq_iff_iff,Cp,decide_eq_true_iff];omega
   rw[QlP];by_cases hni:n=i
   ·subst hni;rw[if_pos rfl,if_pos (by omega)];simp
   ·rw[if_neg hni,h3 i hi];simp [hni]
  ·rintro⟨l1,v⟩ ⟨h1,h2,h3⟩;simp only at h1 h2 h3;subst h1;show post (lK y og r (List.replicate y.ah.length false) l1 (r.aq.length:Int)) _;unfold lK;rw[bA];rw[List.take_length]at h3;exact b5 ⟨l1,rfl,h2,h3⟩
 ·rintro _ ⟨l2,rfl,g1,g2⟩;rw[dw];refine ba (R:=fun l4:List ax=>l4.length≤y.ah.length∧(∀s∈l4,Ie x.ah.length (cg x.types) 10000 s)∧∀v d,dq (K1 v d) l4=iu y.ah.length (U0 og y r.aq v d)) ?_ fun l4 h=>aP.2 ⟨rfl,h⟩
  refine gh y.ah.length (by omega) (fun(k:Nat) (s:List ax×Int)=>s.2=(k:Int)∧s.1.length≤k∧(∀q∈s.1,Ie x.ah.length (cg x.types) (1000*k) q)∧∀v d,dq (K1 v d) s.1=iu k (U0 og y r.aq v d))
   ⟨rfl,by simp,by simp,fun v d=>rfl⟩ ?_ ?_
  ·rintro k ⟨l3,v⟩ hk ⟨h1,h2,h3,h4⟩;simp only at h1 h2 h3 h4;subst h1;show post (lM y og (List.replicate y.ah.length false) l2 l3 (k:Int)) _;unfold lM;obtain⟨o,u,e,eo,hu,ez,Tx,hod,_⟩:=T1 hy hE ht hk;rw[bL e,bC (g2 k hk),ak,fp (by omega) (by omega),bC eo]
   have XL:∀v d,U0 og y r.aq v d k=if dz r.aq (k:Int)=true then(if(u:Int)=(v:Int)then o.load.getD d 0 else 0)else 0:=fun v d=>by
    unfold U0;rw[S1 ez];rfl
   have QjO:Ie x.ah.length (cg x.types) (1000*((k+1:Nat):Int)) (ax.mk (u:Int) o.load):=⟨⟨u,rfl,hu⟩,Tx,fun d=>(hod d).1,fun d=>by have:=(hod d).2;show o.load.getD d 0≤_;omega⟩
   have hold:∀q∈l3,Ie x.ah.length (cg x.types) (1000*((k+1:Nat):Int)) q:=fun q hq=>(h3 q hq).mono (by omega)
   have Qkf:∀(hb:dz r.aq (k:Int)=true),post (aR (fi o.load) fun r2=>ef (eO (l3++[(ax.mk (u:Int) r2)]).length 32) (some (.inl ((l3++[(ax.mk (u:Int) r2)]),(k:Int)+1)):Option ((List ax×Int)⊕(List ax)))) fun z=>(∀s',z=.inl s'→s'.2=((k+1:Nat):Int)∧s'.1.length≤k+1∧(∀q∈s'.1,Ie x.ah.length (cg x.types) (1000*((k+1:Nat):Int)) q)∧∀v d,dq (K1 v d) s'.1=iu (k+1) (U0 og y r.aq v d))∧∀e,z=.inr e→e.length≤y.ah.length∧(∀s∈e,Ie x.ah.length (cg x.types) 10000 s)∧∀v d,dq (K1 v d) e=iu y.ah.length (U0 og y r.aq v d):=fun hb=>by
    rw[Xs (by omega),ak]
    refine bW (dt (by simp;omega)) (bZ (C:=fun s'=>_) ⟨rfl,by simp only[List.length_append,List.length_cons,List.length_nil];omega,fun q hq=>?_,fun v d=>?_⟩)
    ·rcases List.mem_append.1 hq with hq|hq
     ·exact hold q hq
     ·rw[List.mem_singleton.1 hq];exact QjO
    ·show dq (K1 v d) (l3++[_])=iu k _+_;rw[qd,re,h4,XL,if_pos hb];rfl
   refine a_ (fun hb=>?_) (fun hb=>?_)
   ·rcases Qe3 l3 with rfl|⟨ini,s,rfl⟩
    ·rw[bq (by decide),ak]
     exact Qkf hb
    ·have FE:dd .i64 (az (ini++[s])) 1=((ini.length:Nat):Int):=by
      simp only[List.length_append,List.length_cons,List.length_nil]at h2;have EB:az (ini++[s])=(ini.length:Int)+1:=by simp [az]
      rw[EB,wT (by omega) (by omega)];omega
     rw[FE,bD (by simp),bC (a:=s) (by simp),ak,ak]
     have hsO:=h3 s (by simp)
     refine a_ (fun hq=>?_) (fun _=>Qkf hb)
     rw[kJ]at hq;have ea:=ON (l:=s.load);have eb:=ON (l:=o.load);rw[hsO.len]at ea;rw[Tx]at eb;have AE:rj s.load o.load=some (dA (cg x.types) (fun d=>s.load.getD d 0+o.load.getD d 0),0):=by
      have:=SR (D:=cg x.types) (f:=fun d=>s.load.getD d 0) (g:=fun d=>o.load.getD d 0) hD (fun d _=>by have h5:=hsO.nn d;have h6:=hsO.zY d;omega) (fun d _=>by have:=hod d;omega)
      rwa [←ea,←eb]at this
     rw[AE,ak];have Iz:e_ (ini++[s]) ((ini.length:Nat):Int) (ax.mk s.aJ (dA (cg x.types) (fun d=>s.load.getD d 0+o.load.getD d 0)))=ini++[ax.mk s.aJ (dA (cg x.types) (fun d=>s.load.getD d 0+o.load.getD d 0))]:=by
      unfold e_;rw[Int.toNat_natCast];simp
     rw[Iz];have hgd:∀d,(dA (cg x.types) (fun d=>s.load.getD d 0+o.load.getD d 0)).getD d 0=s.load.getD d 0+o.load.getD d 0:=fun d=>by
      rw[C6];split
      ·rfl
      ·rw[Kf (by rw[hsO.len];omega),Kf (by rw[Tx];omega)];rfl
     refine bZ (C:=fun s'=>_) ⟨rfl,by simp only[List.length_append,List.length_cons,List.length_nil]at h2 ⊢;omega,fun q hq'=>?_,fun v d=>?_⟩
     ·rcases List.mem_append.1 hq' with hq'|hq'
      ·exact hold q (List.mem_append_left _ hq')
      ·rw[List.mem_singleton.1 hq'];refine⟨hsO.ord,eY,fun d=>?_,fun d=>?_⟩
       ·show 0≤(dA _ _).getD d 0;rw[hgd];have h5:=hsO.nn d;have h6:=hod d;omega
       ·show(dA _ _).getD d 0≤_;rw[hgd];have h5:=hsO.zY d;have h6:=hod d;omega
     ·show dq (K1 v d) (ini++[_])=iu k _+_;rw[←h4,qd,re,qd,re,XL,if_pos hb];unfold K1;simp only;rw[hgd,hq];split <;> omega
   ·refine bZ (C:=fun s'=>_) ⟨rfl,by show l3.length≤_;omega,hold,fun v d=>?_⟩
    show dq (K1 v d) l3=iu k _+_;rw[h4,XL,if_neg (by simp [hb])];omega
  ·rintro⟨l3,v⟩ ⟨h1,h2,h3,h4⟩;simp only at h1 h2 h3 h4;subst h1;show post (lM y og (List.replicate y.ah.length false) l2 l3 (y.ah.length:Int)) _;unfold lM;rw[bA];exact b5 ⟨h2,fun q hq=>(h3 q hq).mono (by omega),h4⟩
def S_(R:List ay)(i:Nat):Nat:=R.countP fun r=>dz r.aq (i:Int)
theorem QeW{l:List Int}(h:l.length≤1048576):iX l l=some true:=by
 unfold iX;rw[bq (by simp)]
 rw[ct (eX (B:=fun s=>dM l l s) h (fun _=>false) (y:=(.inr false:Unit⊕Bool)) (N:=.inl ()) (fun i a e=>by
  show dM l l i=_;unfold dM;rw[bL e,bC e,ak,bq (by simp),jc e h]
  rfl) (by
  show dM l l l.length=_;unfold dM;rw[bA]))]
 simp only[List.any_eq_true,Bool.false_eq_true,and_false,exists_false,if_false];rfl
structure GO (x y:ab) (og:List Int) (R:List ay) (L:List (List ax)):Prop where
 len:L.length=R.length
 short:∀l∈L,l.length≤10
 all:∀s∈L.flatten,Ie x.ah.length (cg x.types) 10000 s
 sum:∀v d,dq (K1 v d) L.flatten=iu y.ah.length fun i=>(S_ R i:Int)*atF (QG v d) (og.zip y.ah) i
theorem Xa{e:Int}{p:cT}(hX:qJ x=some (y,og,0))(hx:da x)(hy:da y)(hE:OU x y og)(hR:p.mB.length≤10)
  (hv:∀r∈p.mB,r.aq.length≤1048576∧∀v∈r.aq,0≤v.aJ∧v.aJ<y.ah.length):
  post (yq x og p) fun q=>q.2=0∧GO x y og p.mB q.1:=by
 have dm:=hy.ah;have ht:cg y.types=cg x.types:=by rw[hE.types]
 have hlen:=hE.exp.len;unfold yq;rw[hX,ak,bq (by simp),QeW (by omega),ak,fW]
 refine ba (R:=fun e=>∃L,e=.inl L∧GO x y og p.mB L) ?_ ?_
 ·refine gh p.mB.length (by omega) (fun(k:Nat) (s:List (List ax)×Int)=>s.2=(k:Int)∧s.1.length=k∧GO x y og (p.mB.take k) s.1)
   ⟨rfl,rfl,by simp,by simp,by simp,fun v d=>by rw[WB _ fun i _=>by simp [S_]];rfl⟩ ?_ ?_
  ·rintro k ⟨l,v⟩ hk ⟨h1,h2,h3⟩;simp only at h1 h2 h3;subst h1;show post (nH og p (y,og,0) l (k:Int)) _;unfold nH;have e:p.mB[k]?=some p.mB[k]:=List.getElem?_eq_getElem hk;have hr:=hv _ (List.getElem_mem hk);rw[bL e];generalize p.mB[k]=r at e hr;refine ba (Wl hx hy hE ht hr.1 hr.2) ?_
   rintro⟨sh,b⟩ ⟨g1,g2,g3,g4⟩;simp only at g1 g2 g3 g4;subst g1;rw[fW];refine bW (dt (by simp;omega)) (bZ (C:=fun s'=>_) ⟨?_,by simp [h2],?_,fun l' EB=>?_,fun s hs=>?_,fun v d=>?_⟩)
   ·show aU .i64 (k:Int) 1=_;rw[fp (by omega) (by omega)];rfl
   ·show(l++[sh]).length=_;simp [h2];omega
   ·rcases List.mem_append.1 EB with EB|EB
    ·exact h3.short l' EB
    ·rw[List.mem_singleton.1 EB];show sh.length≤_;omega
   ·have fc:s∈(l++[sh]).flatten:=hs;rw[List.flatten_append,List.mem_append]at fc;rcases fc with fc|fc
    ·exact h3.all s fc
    ·exact g3 s (by simpa using fc)
   ·show dq (K1 v d) (l++[sh]).flatten=_;rw[List.flatten_append,qd,h3.sum v d,show [sh].flatten=sh by simp,g4 v d,←WA]
    refine xE _ fun i _=>?_
    unfold S_ U0;rw[take_one e,List.countP_append,List.countP_cons,List.countP_nil];by_cases hb:dz r.aq (i:Int)=true
    ·rw[if_pos hb,if_pos hb,Nat.zero_add,Int.natCast_add,Int.add_mul];simp
    ·rw[if_neg hb,if_neg hb];simp
  ·rintro⟨l,v⟩ ⟨h1,h2,h3⟩;simp only at h1 h2 h3;subst h1;show post (nH og p (y,og,0) l (p.mB.length:Int)) _;unfold nH;rw[bA];rw[List.take_length]at h3;exact b5 ⟨l,rfl,h3⟩
 ·rintro _ ⟨L,rfl,h⟩;rw[dw];exact aP.2 ⟨rfl,h⟩
end
section
variable {x y : ab} {og : List Int} {L : List (List ax)}
theorem XG{n:Int}(h0:0≤n)(h1:n≤1000):c5 n=some []:=by
 unfold c5;have e:dd .i64 n (dd .i64 0 0)=n:=by rw[show dd .i64 0 0=0 by decide,wT (by omega) (by omega)];omega
 rw[bq (by simpa using h0),e]
 by_cases hn:0<n
 ·rw[bD (by simpa using hn)]
  have hm:za n n 32 (ax.mk 0 [])=some (List.replicate n.toNat (ax.mk 0 [])):=by
   unfold za;rw[if_pos (by omega)]
  rw[hm,ak];unfold wS;rw[if_pos ⟨Int.le_refl _,Int.le_refl _,by omega⟩,ak]
  simp
 ·rw[bq (by simpa using hn)]
theorem Tb{L:List (List ax)}(hl:L.length≤10)(hs:∀l∈L,l.length≤10):dE L=some L.flatten:=by
 unfold dE;apply post.eq;refine ba (R:=fun n=>0≤n∧n≤1000) ?_ fun n hn=>?_
 ·refine gh L.length (by omega) (fun(k:Nat) (s:Int×Int)=>s.2=(k:Int)∧0≤s.1∧s.1≤10*k) ⟨rfl,by simp,by simp⟩ ?_ ?_
  ·rintro k ⟨n,v⟩ hk ⟨h1,h2,h3⟩;simp only at h1 h2 h3;subst h1;show post (cu L n (k:Int)) _;unfold cu;have hsk:=hs _ (List.getElem_mem hk);rw[bL (List.getElem?_eq_getElem hk),fp (by unfold az;omega) (by unfold az;omega),fp (by omega) (by omega),bq (by rw[jY];unfold az;omega)]
   refine bZ (C:=fun s'=>_) ⟨rfl,?_,?_⟩
   ·show 0≤n+az _;unfold az;omega
   ·show n+az _≤_;unfold az;omega
  ·rintro⟨n,v⟩ ⟨h1,h2,h3⟩;simp only at h1 h2 h3;subst h1;show post (cu L n (L.length:Int)) _;unfold cu;rw[bA];exact b5 ⟨h2,by omega⟩
 ·rw[XG hn.1 hn.2,ak];refine ba (R:=fun l=>l=L.flatten) ?_ fun l h=>aP.2 h
  refine gh L.length (by omega) (fun(k:Nat) (s:List ax×Int)=>s.2=(k:Int)∧s.1=(L.take k).flatten∧s.1.length≤10*k) ⟨rfl,by simp,by simp⟩ ?_ ?_
  ·rintro k ⟨l,v⟩ hk ⟨h1,h2,h3⟩;simp only at h1 h2 h3;subst h1;show post (cw L l (k:Int)) _;unfold cw;have e:L[k]?=some L[k]:=List.getElem?_eq_getElem hk;have hsk:=hs _ (List.getElem_mem hk);rw[bL e,fp (by omega) (by omega)]
   refine bW (dt (by rw[List.length_append];omega)) (bZ (C:=fun s'=>_) ⟨rfl,?_,?_⟩)
   ·show l++_=_;rw[take_one e,List.flatten_append,h2];simp
   ·show(l++_).length≤_;rw[List.length_append];omega
  ·rintro⟨l,v⟩ ⟨h1,h2,h3⟩;simp only at h1 h2 h3;subst h1;show post (cw L l (L.length:Int)) _;unfold cw;rw[bA];rw[List.take_length]at h2;exact b5 h2
def UZ(L:List (List ax))(v d:Nat):Int:=dq (K1 v d) L.flatten
theorem Qdr(hx:da x)(hl:L.length≤10)(hs:∀l∈L,l.length≤10)(hA:∀s∈L.flatten,Ie x.ah.length (cg x.types) 10000 s)(hm:∀v d,v<x.ah.length→UZ L v d≤1000):
  post (C1 x L) fun q=>q.2=0∧∀v,v<x.ah.length→q.1[v]?=some (dA (cg x.types) (UZ L v)):=by
 have dm:=hx.ah;have hD:=(AY hx).2;unfold C1;have hmk:za (az x.ah) (az x.ah) 24 ([]:List Int)=some (List.replicate x.ah.length []):=by
  unfold za az;rw[if_pos (by omega)];rfl
 rw[hmk,ak];refine ba (R:=fun l:List (List Int)=>l.length=x.ah.length∧∀v,v<x.ah.length→l[v]?=some (dA (cg x.types) fun _=>0)) ?_ fun l2 h2=>?_
 ·refine gh x.ah.length (by omega) (fun(k:Nat) (s:List (List Int)×Int)=>s.2=(k:Int)∧s.1.length=x.ah.length∧∀v,v<k→s.1[v]?=some (dA (cg x.types) fun _=>0)) ⟨rfl,by simp,by simp⟩ ?_ ?_
  ·rintro k ⟨l,v⟩ hk ⟨h1,h2,h3⟩;simp only at h1 h2 h3;subst h1;show post (qK x L l (k:Int)) _;unfold qK;obtain⟨o,e,hmo,_⟩:=F2 hx hk;have WR:=(hx.ord o hmo).load;have hz:za (az o.load) (az o.load) 8 (0:Int)=some (dA (cg x.types) fun _=>0):=by
    show za (o.load.length:Int) (o.load.length:Int) 8 0=_;rw[WR,mk_zero hD];congr 1;refine List.ext_getElem? fun i=>?_
    rcases Nat.lt_or_ge i (cg x.types)with h|h
    ·rw[kk h];simp [h]
    ·rw[List.getElem?_eq_none (by simp;omega),List.getElem?_eq_none (by rw[eY];omega)]
   rw[bL e,hz,ak,Ir (by omega),ak,fp (by omega) (by omega)]
   refine bZ (C:=fun s'=>_) ⟨rfl,by simp [e_,h2],fun v hv=>?_⟩
   show(e_ l (k:Int) _)[v]?=_;unfold e_;rw[Int.toNat_natCast,List.getElem?_set];by_cases hvk:k=v
   ·subst hvk;rw[if_pos rfl,if_pos (by omega)]
   ·rw[if_neg hvk];exact h3 v (by omega)
  ·rintro⟨l,v⟩ ⟨h1,h2,h3⟩;simp only at h1 h2 h3;subst h1;show post (qK x L l (x.ah.length:Int)) _;unfold qK;rw[bA];exact b5 ⟨h2,h3⟩
 ·rw[Tb hl hs,ak];have hnn:∀v d,∀s∈L.flatten,0≤K1 v d s:=fun v d s hs=>(hA s hs).Qij v d
  have hFl:L.flatten.length≤100:=by
   have:∀(M:List (List ax)),(∀l∈M,l.length≤10)→M.flatten.length≤10*M.length:=fun M=>by
    induction M with
    |nil=>simp
    |cons a M ih =>
     intro h;have h1:=ih fun l hl=>h l (List.mem_cons_of_mem _ hl)
     have h2:=h a (List.mem_cons_self ..);rw[List.flatten_cons,List.length_append,List.length_cons];omega
   have:=this L hs;omega
  have XL:∀v d,UZ L v d=dq (K1 v d) L.flatten:=fun _ _=>rfl
  generalize L.flatten=F at *;refine ba (R:=fun e=>∃l:List (List Int),e=.inl l∧∀v,v<x.ah.length→l[v]?=some (dA (cg x.types) (UZ L v))) ?_ ?_
  ·refine gh F.length (by omega) (fun(k:Nat) (s:List (List Int)×Int)=>s.2=(k:Int)∧s.1.length=x.ah.length∧∀v,v<x.ah.length→s.1[v]?=some (dA (cg x.types) fun d=>dq (K1 v d) (F.take k))) ⟨rfl,h2.1,h2.2⟩ ?_ ?_
   ·rintro k ⟨l,v⟩ hk ⟨h1,h2,h3⟩;simp only at h1 h2 h3;subst h1;show post (qL L F l (k:Int)) _;unfold qL;have e:F[k]?=some F[k]:=List.getElem?_eq_getElem hk;have hmF:=List.getElem_mem hk;rw[bL e];generalize F[k]=s at e hmF;have hS:=hA s hmF;obtain⟨u,hu,hu2⟩:=hS.ord;rw[hu,bq (by rw[PW,jY,Cn];unfold az;omega),bC (h3 u hu2),ak]
    have hle:∀d,s.load.getD d 0≤1000:=fun d=>by
     have h5:=Wz (hnn u d) hmF;have h6:=hm u d hu2;rw[XL]at h6;unfold K1 at h5;rw[if_pos hu]at h5;unfold K1 at h6;omega
    have hrt:qt s.load (az (dA (cg x.types) fun d=>dq (K1 u d) (F.take k)))=some true:=by
     have:=Qa (a:=s.load) (by rw[hS.len];omega) (fun n hn=>by obtain⟨d,_,e⟩:=VQ hn;rw[←e];exact⟨hS.nn d,hle d⟩)
     unfold az at this ⊢;rwa [hS.len,←eY (D:=cg x.types) (f:=fun d=>dq (K1 u d) (F.take k))]at this
    have es:=ON (l:=s.load);rw[hS.len]at es;have AE:rj (dA (cg x.types) fun d=>dq (K1 u d) (F.take k)) s.load=some (dA (cg x.types) (fun d=>dq (K1 u d) (F.take k)+s.load.getD d 0),0):=by
     have:=SR (D:=cg x.types) (f:=fun d=>dq (K1 u d) (F.take k)) (g:=fun d=>s.load.getD d 0) hD (fun d _=>by
      have h5:=Qbe (hnn u d) k;have h6:=hm u d hu2;rw[XL]at h6;omega) (fun d _=>by have h5:=hS.nn d;have h6:=hS.zY d;omega)
     rwa [←es]at this
    rw[hrt,ak,fW,AE,ak,fp (by omega) (by omega)]
    refine bZ (C:=fun s'=>_) ⟨rfl,by simp [e_,h2],fun v hv=>?_⟩
    show(e_ l (u:Int) _)[v]?=_;unfold e_;rw[Int.toNat_natCast,List.getElem?_set];by_cases hvk:u=v
    ·subst hvk;rw[if_pos rfl,if_pos (by omega)]
     congr 1;refine kG fun d _=>?_
     rw[zq e];unfold K1;rw[if_pos hu]
    ·rw[if_neg hvk,h3 v hv];congr 1;refine kG fun d _=>?_
     rw[zq e];have:K1 v d s=0:=by unfold K1;rw[if_neg (by rw[hu];omega)]
     omega
   ·rintro⟨l,v⟩ ⟨h1,h2,h3⟩;simp only at h1 h2 h3;subst h1;show post (qL L F l (F.length:Int)) _;unfold qL;rw[bA];rw[List.take_length]at h3;refine b5 ⟨l,rfl,fun v hv=>?_⟩
    rw[h3 v hv];congr 1;exact kG fun d _=>(XL v d).symm
  ·rintro _ ⟨l,rfl,h⟩;rw[dw];exact aP.2 ⟨rfl,h⟩
theorem UB{y:ab}(hy:y.ah.length≤10):∃m:Nat,sJ y=some (m:Int)∧m<1024∧∀i,m.testBit i=(match y.ah[i]? with|some o=>!o.off|none=>false):=by
 have main:post (lX y) fun v=>∃m:Nat,v=(m:Int)∧m<1024∧∀i,m.testBit i=(match y.ah[i]? with|some o=>!o.off|none=>false):=by
  unfold lX;refine ba (R:=fun v=>∃m:Nat,v=(m:Int)∧m<1024∧∀i,m.testBit i=(match y.ah[i]? with|some o=>!o.off|none=>false)) ?_ fun v h=>aP.2 h
  refine gh y.ah.length (by omega) (fun(k:Nat) (s:Int×Int)=>s.2=(k:Int)∧∃m:Nat,s.1=(m:Int)∧m<1024∧∀i,m.testBit i=(decide (i<k)&&match y.ah[i]? with|some o=>!o.off|none=>false)) ⟨rfl,0,rfl,by omega,by simp⟩ ?_ ?_
  ·rintro k ⟨w,v⟩ hk ⟨h1,m,h2,h3,h4⟩;simp only at h1 h2;subst h1 h2;show post (fx y (m:Int) (k:Int)) _;unfold fx u2;have e:y.ah[k]?=some y.ah[k]:=List.getElem?_eq_getElem hk;rw[bL e,fp (by omega) (by omega),ak,fW]
   generalize y.ah[k]=o at e;refine a_ (fun ho=>bZ (C:=fun s'=>_) ⟨rfl,m,rfl,h3,fun i=>?_⟩) (fun ho=>bW (by omega) ?_)
   ·rw[h4];by_cases Ot:i=k
    ·subst Ot;rw[e];simp [ho]
    ·have:decide (i<k)=decide (i<k+1):=by rw[decide_eq_decide];omega
     rw[this]
   ·have hp:2 ^ k<1024:=Nat.lt_of_lt_of_le (Nat.pow_lt_pow_right (by omega) hk) (Nat.pow_le_pow_right (n:=2) (by omega) hy)
    rw[Qfv (by omega),orN (by omega) (by omega)]
    refine bZ (C:=fun s'=>_) ⟨rfl,m |||2 ^ k,rfl,Nat.or_lt_two_pow (n:=10) h3 hp,fun i=>?_⟩
    rw[Nat.testBit_or,h4,Nat.testBit_two_pow];by_cases Ot:k=i
    ·subst Ot;rw[e];simp [ho]
    ·have:decide (i<k)=decide (i<k+1):=by rw[decide_eq_decide];omega
     rw[this];simp [Ot]
  ·rintro⟨w,v⟩ ⟨h1,m,h2,h3,h4⟩;simp only at h1 h2;subst h1 h2;show post (fx y (m:Int) (y.ah.length:Int)) _;unfold fx;rw[bA];refine b5 ⟨m,rfl,h3,fun i=>?_⟩
   rw[h4];by_cases hi:i<y.ah.length
   ·simp [hi]
   ·rw[List.getElem?_eq_none (by omega)];simp
 obtain⟨v,hv,m,rfl,h3,h4⟩:=main;exact⟨m,by unfold sJ;rw[ct hv],h3,h4⟩
theorem US{m i:Nat}(hm:m<9223372036854775808)(hi:i≤62):cM (JD .i64 (zd .i64 (m:Int) (i:Int)) 1) 1=m.testBit i:=by
 rw[Qa8 (by omega)]
 have hd:=Nat.div_le_self m (2 ^ i);rw[show(1:Int)=((1:Nat):Int)from rfl,QbO (by omega) (by omega),Nat.and_one_is_mod,Nat.testBit_eq_decide_div_mod_eq]
 generalize m / 2 ^ i=q;rw[Bool.eq_iff_iff,kJ,decide_eq_true_iff];omega
theorem Td{l:List Int}{c:Int}(hl:l.length≤1048576):gw l c=some (decide (c∈l)):=by
 unfold gw lu;have:=wF (B:=fun s=>dO l c s) hl (fun a=>cM c a) (fun k=>(.inr (k:Int):Unit⊕Int)) (N:=.inl ()) (fun i a h=>by
   show dO l c i=_;unfold dO;rw[bL h,jc h hl,zz]) (by
   show dO l c l.length=_;unfold dO;rw[bA])
 rw[ct this];have hi:decide (c∈l)=cD (qz (fun a=>cM c a) l) 0:=by
  rw[po,Bool.eq_iff_iff,decide_eq_true_iff,List.any_eq_true];exact⟨fun h=>⟨c,h,kJ.2 rfl⟩,fun⟨a,h,h'⟩=>by rw[kJ]at h';rw[h'];exact h⟩
 rw[hi];unfold qz;cases JA (fun a=>cM c a) l <;> rfl
theorem Vd{a b:List Int}(h:a.length=b.length)(h3:a.length≤3)(hd:∀d,d<a.length→a.getD d 0≤b.getD d 0):qA a b=some true:=by
 have g:∀i,i<a.length→a[i]?=some (a.getD i 0)∧b[i]?=some (b.getD i 0):=fun i hi=>by
  rw[List.getD_eq_getElem?_getD,List.getD_eq_getElem?_getD,List.getElem?_eq_getElem hi,List.getElem?_eq_getElem (show i<b.length by omega)]
  exact⟨rfl,rfl⟩
 unfold qA;rw[bq (by simp [az,h])]
 rw[ct (D3 (B:=fun s=>fM a b s) (n:=a.length) (by omega) (fun k=>false) (y:=(.inr false:Unit⊕Bool)) (N:=.inl ()) (b:=false) (by simp) (fun i hi=>by
  show fM a b i=_;unfold fM;have:=hd i hi;rw[bL (g i hi).1,bC (g i hi).2,ak,inc hi (by omega),bq (by simpa using this)]
  rfl) (by
  show fM a b a.length=_;unfold fM;rw[bA]))]
 rfl
theorem QbH{W:List Int}(hx:da x)(hl:L.length≤10)(hs:∀l∈L,l.length≤10)(hA:∀s∈L.flatten,Ie x.ah.length (cg x.types) 10000 s)
  (hle:∀v d,v<x.ah.length→UZ L v d≤kL x v d) (hW:W.length≤10) (hWi:∀w∈W,0≤w∧w<x.ah.length)
  (FD:∀(v:Nat) o,x.ah[v]?=some o→o.off=false→(v:Int) ∉ W→∀d,UZ L v d=kL x v d):uH x L W=some 0:=by
 have dm:=hx.ah;have hD:=(AY hx).2;apply post.eq;unfold uH;rw[ct (eX (B:=fun s=>lk x L W s) (l:=W) (by omega) (fun _=>false) (y:=(.inr 2:Unit⊕Int)) (N:=.inl ()) (fun i a e=>by
  show lk x L W i=_;unfold lk;have:=hWi a (List.mem_of_getElem? e);rw[bL e,bq (by rw[PW,jY,Cn];unfold az;omega),jc e (by omega)]
  rfl) (by
  show lk x L W W.length=_;unfold lk;rw[bA]))]
 simp only[List.any_eq_true,Bool.false_eq_true,and_false,exists_false,if_false];rw[dw];refine ba (Qdr hx hl hs hA fun v d hv=>by have h1:=hle v d hv;have h2:=Kr hx v d;omega) ?_
 rintro⟨q,e⟩ ⟨he,hq⟩;simp only at he hq;subst he;rw[bq (by simp)]
 obtain⟨m,hm1,Uw,hm3⟩:=UB dm;rw[hm1,ak];refine ba (R:=fun e=>e=.inl ()) ?_ fun e he=>by rw[he];exact aP.2 rfl
 refine gh x.ah.length (by omega) (fun(k:Nat) (s:Int)=>s=(k:Int)) rfl ?_ ?_
 ·rintro k _ hk rfl;show post (nI x L W (q,0) (m:Int) (k:Int)) _;unfold nI;obtain⟨o,e,hmo,Tx,hod,_⟩:=F2 hx hk;have WR:=(hx.ord o hmo).load;have hlk:∀d,kL x k d=o.load.getD d 0:=fun d=>by unfold kL;rw[e]
  rw[bL e,bC (hq k hk),ak,Vd (by rw[eY,WR]) (by rw[eY];omega) (fun d hd=>by
   rw[eY]at hd;rw[C6,if_pos hd,←hlk];exact hle k d hk),ak,fW,fp (by omega) (by omega)]
  refine bW (by omega) ?_
  rw[US (by omega) (by omega),hm3,e]
  refine a_ (fun hb=>?_) (fun _=>bZ (C:=fun s'=>_) rfl)
  rw[Td (by omega),ak]
  refine a_ (fun _=>bZ (C:=fun s'=>_) rfl) (fun hc=>?_)
  have QV:(k:Int) ∉ W:=of_decide_eq_false hc;have u1:o.off=false:=by simpa using hb
  rw[Vd (by rw[eY,WR]) (by omega) (fun d hd=>by
   rw[C6,if_pos (by omega),FD k o e u1 QV d,hlk];exact Int.le_refl _),ak,fW]
  exact bZ (C:=fun s'=>_) rfl
 ·rintro _ rfl;show post (nI x L W (q,0) (m:Int) (x.ah.length:Int)) _;unfold nI;rw[bA];exact b5 rfl
end
structure W8 (n:Nat) (c:af):Prop where
 vis:c.db.aq.length≤1048576
 Q0:∀v∈c.db.aq,0≤v.aJ∧v.aJ<n
 set:∃m:Nat,c.bz=(m:Int)∧m<1024∧QaX c.db.aq m
structure QH (y:ab) (A:Nat) (c:af):Prop where
 yw:W8 y.ah.length c
 typ:0≤c.aY∧c.aY<y.types.length
 pos:0<c.bz
 sub:∀m:Nat,c.bz=(m:Int)→∀i,m.testBit i=true→A.testBit i=true
structure Ry (y:ab) (F:List (List af)) (S:List Int) (A:Nat) (c:aw):Prop where
 x:c.x=y
 first:c.dj=F
 ee:c.ee=S
 ah:c.ah=(A:Int)
structure StX (n k cv:Nat) (s:aj):Prop where
 eK:s.eK=(k:Int)
 eV:s.eV=(cv:Int)
 lt:cv<1024
 le:k≤n
structure FsX (y:ab) (A:Nat) (F:List (List af)) (S:List Int):Prop where
 Qe5:F.length=y.ah.length
 Qke:S.length=y.ah.length
 short:∀l∈F,l.length≤8192
 yw:∀(i:Nat) l,F[i]?=some l→∀c∈l,QH y A c∧dz c.db.aq (i:Int)=true
section
variable {y : ab} {F : List (List af)} {S : List Int} {A n k cv : Nat} {c : aw} {s : aj} {yw : af}
theorem YR{m i:Nat}(hm:m<9223372036854775808)(hi:i≤62):k9 (m:Int) (i:Int)=some (m.testBit i):=by
 unfold k9;rw[bD (by simp;omega),fg (by omega),US hm hi]
theorem Gu(hn:y.ah.length≤10)(hA:A<1024)(hc:Ry y F S A c)(hs:StX y.ah.length k cv s):
  post (cW c s) fun r=>r.2=c∧∃k',k≤k'∧StX y.ah.length k' cv r.1∧(∀i,k≤i→i<k'→A.testBit i=true→cv.testBit i=true)∧(k'<y.ah.length→cv.testBit k'=false):=by
 have jU:=hs.lt;unfold cW;refine ba (R:=fun e=>∃k':Nat,e=(k':Int)∧k≤k'∧k'≤y.ah.length∧(∀i,k≤i→i<k'→A.testBit i=true→cv.testBit i=true)∧(k'<y.ah.length→cv.testBit k'=false)) ?_ ?_
 ·rw[hs.eK];refine eJ (fun e=>∃k':Nat,e=(k':Int)∧k≤k'∧k'≤y.ah.length∧(∀i,k≤i→i<k'→A.testBit i=true→cv.testBit i=true)) (fun e=>y.ah.length-e.toNat) ⟨k,rfl,Nat.le_refl _,hs.le,fun i h1 h2=>by omega⟩ (by simp;omega) ?_
  rintro _ ⟨j,rfl,h1,h2,h3⟩;show post (iK c s (j:Int)) _;unfold iK;rw[hc.x,hc.ah,hs.eV];refine a_ (fun hj=>?_) (fun hj=>?_)
  ·have QC:j<y.ah.length:=by rw[js]at hj;unfold az at hj;omega
   rw[YR (by omega) (by omega),ak,YR (by omega) (by omega),ak,fp (by omega) (by omega)]
   have next:(A.testBit j=true→cv.testBit j=true)→post (some (Sum.inl ((j:Int)+1)):Option (Int⊕Int)) fun x=>(∀s',x=.inl s'→(∃k':Nat,s'=(k':Int)∧k≤k'∧k'≤y.ah.length∧∀i,k≤i→i<k'→A.testBit i=true→cv.testBit i=true)∧y.ah.length-s'.toNat<y.ah.length-(j:Int).toNat)∧∀e,x=.inr e→∃k':Nat,e=(k':Int)∧k≤k'∧k'≤y.ah.length∧(∀i,k≤i→i<k'→A.testBit i=true→cv.testBit i=true)∧(k'<y.ah.length→cv.testBit k'=false):=fun hb=>by
    refine⟨_,rfl,fun s' e=>?_,fun e h=>by cases h⟩
    cases e;refine⟨⟨j+1,by omega,by omega,by omega,fun i h4 h5 h6=>?_⟩,by omega⟩
    rcases Nat.lt_or_ge i j with h|h
    ·exact h3 i h4 h h6
    ·obtain rfl:i=j:=by omega
     exact hb h6
   refine a_ (fun ha=>a_ (fun hb=>next fun _=>hb) (fun hb=>⟨_,rfl,fun s' e=>(by cases e),fun e h=>?_⟩)) (fun ha=>next fun h=>by rw[ha]at h;cases h)
   cases h;exact⟨j,rfl,h1,h2,h3,fun _=>hb⟩
  ·rw[jY]at hj;unfold az at hj;refine⟨_,rfl,fun s' e=>(by cases e),fun e h=>?_⟩
   cases h;exact⟨j,rfl,h1,h2,h3,fun h=>by omega⟩
 ·rintro _ ⟨k',rfl,h1,h2,h3,h4⟩;exact aP.2 ⟨rfl,k',h1,⟨rfl,hs.eV,jU,h2⟩,h3,h4⟩
def QbJ(y:ab)(A k cv:Nat)(c:aw)(yw:af)(r:aj×Bool×aw):Prop:=
 r.2.2=c∧(r.2.1=true→∃m k':Nat,yw.bz=(m:Int)∧m<1024∧cv &&& m=0∧k<k'∧StX y.ah.length k' (cv |||m) r.1∧∀i,k≤i→i<k'→A.testBit i=true→(cv |||m).testBit i=true)
theorem SP(hn:y.ah.length≤10)(ht:y.types.length≤6)(hA:A<1024)(hc:Ry y F S A c)(hs:StX y.ah.length k cv s)(hk:k<y.ah.length)(hC:QH y A yw)(hb:dz yw.db.aq (k:Int)=true):
  post (ku c s yw) (QbJ y A k cv c yw):=by
 have jU:=hs.lt;obtain⟨m,hm,Uw,hm3⟩:=hC.yw.set;obtain⟨ht0,ht1⟩:=hC.typ;unfold ku;rw[hs.eV,hm,QbO (by omega) (by omega),orN (by omega) (by omega),hc.x]
 refine a_ (fun _=>aP.2 ⟨rfl,fun h=>by cases h⟩) (fun h0=>?_)
 have h0':cv &&& m=0:=by rw[yX]at h0;omega
 have hor:cv |||m<1024:=Nat.or_lt_two_pow (n:=10) jU Uw;have main:∀(u:uL),post (aR (cW c (aj.mk s.eK ((cv |||m:Nat):Int) u)) fun r=>some (r.1,true,r.2)) (QbJ y A k cv c yw):=fun u=>by
  refine ba (Gu (k:=k) (cv:=cv |||m) hn hA hc ⟨hs.eK,rfl,hor,hs.le⟩) ?_
  rintro⟨s',c'⟩ ⟨g1,k',g2,g3,g4,g5⟩;refine aP.2 ⟨g1,fun _=>⟨m,k',hm,Uw,h0',?_,g3,g4⟩⟩
  rcases Nat.lt_or_ge k k' with h|h
  ·exact h
  ·obtain rfl:k'=k:=by omega
   have h1:=g5 hk;rw[Nat.testBit_or,hm3,hb]at h1;simp at h1
 have tl:∀(u:uL) (q:Int→Bool),post (aR (bj y.types yw.aY) fun x0=>br (q x0.rH) (some (s,false,c)) (aR (cW c (aj.mk s.eK ((cv |||m:Nat):Int) u)) fun r=>some (r.1,true,r.2))) (QbJ y A k cv c yw):=fun u q =>
  ba (Qa1 (Q:=fun _=>True) ht0 ht1 fun _ _=>trivial) fun x0 _=>a_ (fun _=>aP.2 ⟨rfl,fun h=>by cases h⟩) fun _=>main u
 refine a_ (fun _=>tl _ _) fun h=>a_ (fun _=>tl _ _) fun h1=>a_ (fun _=>tl _ _) fun h2=>a_ (fun _=>tl _ _) fun h3=>a_ (fun _=>tl _ _) fun h4=>a_ (fun _=>tl _ _) fun h5=>?_
 rw[zC]at h h1 h2 h3 h4 h5;omega
theorem Lt(hn:y.ah.length≤10)(hA:A<1024)(hc:Ry y F S A c)(hs:StX y.ah.length k cv s)(hk:k<y.ah.length):
  post (ig c s) fun r=>r.2=c∧∃k',k<k'∧StX y.ah.length k' cv r.1∧∀i,k<i→i<k'→A.testBit i=true→cv.testBit i=true:=by
 unfold ig;rw[hs.eK,fp (by omega) (by omega)]
 refine ba (Gu (k:=k+1) (cv:=cv) hn hA hc ⟨rfl,hs.eV,hs.lt,hk⟩) ?_
 rintro⟨s',c'⟩ ⟨g1,k',g2,g3,g4,g5⟩;exact aP.2 ⟨g1,k',g2,g3,fun i h1 h2=>g4 i h1 h2⟩
theorem Ry.eW(h:Ry y F S A c)(l:List (aj×Int)):Ry y F S A (aw.mk y F S l (A:Int)):=⟨rfl,rfl,rfl,rfl⟩
theorem No{a b d:Int}:∃v,ib a b d=some v:=by unfold ib;rw[zz];exact⟨_,rfl⟩
theorem PH(hn:y.ah.length≤10)(ht:y.types.length≤6)(hA:A<1024)(hF:FsX y A F S):∀(fuel k cv:Nat) (c:aw) (s:aj),Ry y F S A c→StX y.ah.length k cv s→y.ah.length<fuel+k→post (ic fuel c s) fun r=>Ry y F S A r.2
 |0,k,cv,c,s,hc,hs,hf=>by have:=hs.le;omega
 |fuel+1,k,cv,c,s,hc,hs,hf=>by
  have ih:=PH hn ht hA hF fuel;show post (kb (ic fuel) c s) _;generalize ic fuel=self at ih;unfold kb;rw[hc.x,hc.first,hc.ee,hc.ah,hs.eK,hs.eV];refine a_ (fun _=>aP.2 hc) (fun hk=>a_ (fun _=>aP.2 hc) (fun _=>?_))
  have rS:k<y.ah.length:=by rw[Cn]at hk;unfold az at hk;omega
  have hFk:F[k]?=some (F[k]'(by rw[hF.Qe5];exact rS)):=List.getElem?_eq_getElem _
  have hSk:S[k]?=some (S[k]'(by rw[hF.Qke];exact rS)):=List.getElem?_eq_getElem _
  have XV:=hF.short _ (List.mem_of_getElem? hFk);have Qcn:=hF.yw k _ hFk;generalize F[k]'(by rw[hF.Qe5];exact rS)=fk at hFk XV Qcn
  generalize S[k]'(by rw[hF.Qke];exact rS)=sk at hSk
  rw[bC hFk,ak];refine ba (R:=fun e=>e.2.1=y∧e.2.2.1=F∧e.2.2.2.1=S∧e.2.2.2.2.1=(A:Int)) ?_ ?_
  ·refine gh fk.length (by omega) (fun(j:Nat) (q:List (aj×Int)×ab×List (List af)×List Int×Int×Int×Int×Int)=>q.2.1=y∧q.2.2.1=F∧q.2.2.2.1=S∧q.2.2.2.2.1=(A:Int)∧q.2.2.2.2.2.2.2=(j:Int)) ⟨rfl,rfl,rfl,rfl,rfl⟩ ?_ ?_
   ·rintro j ⟨l,x1,f1,s1,o1,q1,b1,v⟩ hj ⟨h1,h2,h3,h4,h5⟩;simp only at h1 h2 h3 h4 h5;subst h1 h2 h3 h4 h5;show post (fw self c s fk l x1 f1 s1 (A:Int) q1 b1 (j:Int)) _;unfold fw;have e:fk[j]?=some fk[j]:=List.getElem?_eq_getElem hj;obtain⟨w1,w2⟩:=Qcn _ (List.getElem_mem hj);rw[bL e,fp (by omega) (by omega)]
    generalize fk[j]=cl at e w1 w2;refine ba (SP (k:=k) (cv:=cv) hn ht hA (Ry.eW hc l) ⟨hs.eK,hs.eV,hs.lt,hs.le⟩ rS w1 w2) ?_
    rintro⟨s',b,c'⟩ ⟨g1,g2⟩;simp only at g1 g2;subst g1;refine a_ (fun hb=>?_) (fun _=>bZ (C:=fun s'=>_) ⟨rfl,rfl,rfl,rfl,rfl⟩)
    obtain⟨m,k',_,_,_,g3,g4,_⟩:=g2 hb;refine ba (ih k' _ _ s' (Ry.eW hc l) g4 (by omega)) fun r1 HZ=>?_
    obtain⟨w,hw⟩:=No (a:=cl.kM) (b:=r1.1) (d:=b1);rw[hw,ak];exact bZ (C:=fun s'=>_) ⟨HZ.x,HZ.first,HZ.ee,HZ.ah,rfl⟩
   ·rintro⟨l,x1,f1,s1,o1,q1,b1,v⟩ ⟨h1,h2,h3,h4,h5⟩;simp only at h1 h2 h3 h4 h5;subst h1 h2 h3 h4 h5;show post (fw self c s fk l x1 f1 s1 (A:Int) q1 b1 (fk.length:Int)) _;unfold fw;rw[bA];exact b5 ⟨rfl,rfl,rfl,rfl⟩
  ·rintro⟨l,x1,f1,s1,o1,q1,q2,q3,b1⟩ ⟨h1,h2,h3,h4⟩;simp only at h1 h2 h3 h4;subst h1 h2 h3 h4;show post (aR (bj s1 (k:Int)) _) _;rw[bC hSk,ak];refine a_ (fun _=>?_) (fun _=>?_)
   ·refine ba (Lt (k:=k) (cv:=cv) hn hA (Ry.eW hc l) ⟨rfl,rfl,hs.lt,hs.le⟩ rS) ?_
    rintro⟨s',c'⟩ ⟨g1,k',g2,g3,_⟩;simp only at g1 g3;subst g1;refine ba (ih k' _ _ s' (Ry.eW hc l) g3 (by omega)) fun r4 hr4=>?_
    obtain⟨w,hw⟩:=No (a:=sk) (b:=r4.1) (d:=b1);rw[hw,ak];unfold gE;exact aP.2 ⟨hr4.x,hr4.first,hr4.ee,hr4.ah⟩
   ·unfold gE;exact aP.2 ⟨rfl,rfl,rfl,rfl⟩
end
section
variable {K V : Type}
theorem VM{eq:K→K→Bool}:∀{m:List (K×V)} {k:K} {z:V},Kw eq m k=true→∃p∈m,nY eq m k z=p.2
 |p ::r,k,z,h=>by
  unfold Kw at h;unfold nY;cases he:eq k p.1 with
  |true=>exact⟨p,List.mem_cons_self ..,rfl⟩
  |false =>
   rw[he]at h;obtain⟨q,h1,h2⟩:=VM (z:=z) (show Kw eq r k=true from h);exact⟨q,List.mem_cons_of_mem _ h1,h2⟩
theorem VN{eq:K→K→Bool}:∀{m:List (K×V)} {k:K} {v:V} {p:K×V},p∈yD eq m k v→p=(k,v)∨p∈m
 | [],k,v,p,h=>.inl (List.mem_singleton.1 h)
 |q ::r,k,v,p,h=>by
  unfold yD at h;cases he:eq k q.1 with
  |true =>
   rw[he]at h;rcases List.mem_cons.1 (show p∈(k,v) ::r from h)with h|h
   ·exact .inl h
   ·exact .inr (List.mem_cons_of_mem _ h)
  |false =>
   rw[he]at h;rcases List.mem_cons.1 (show p∈q ::yD eq r k v from h)with h|h
   ·exact .inr (h▸List.mem_cons_self ..)
   ·rcases VN h with h|h
    ·exact .inl h
    ·exact .inr (List.mem_cons_of_mem _ h)
end
theorem Qj{α:Type}{f:α→α→Option Int}{cf:α→α→Int}(hf:∀a b,f a b=some (cf a b))(hO:Go.Sort.SWO fun a b=>decide (cf a b<0)){l:List α}(hl:l.length≤1048576):post (y1 f l) fun v=>v.Perm l:=by
 have:∃v,y1 f l=some v:=by
  unfold y1;rw[if_pos (by omega)]
  split <;> exact⟨_,rfl⟩
 obtain⟨v,hv⟩:=this;exact⟨v,hv,YD hf hO hv⟩
section
variable {y : ab} {l : List af} {A : Nat}
theorem QN{P:af→Prop}(hl:l.length≤8192)(hP:∀c∈l,P c):post (kU l) fun r=>r.length≤8192∧∀c∈r,P c:=by
 unfold kU;refine ba (R:=fun r:List af=>r.length≤8192∧∀c∈r,P c) ?_ fun l3 h3=>ba (Qj Xq Qip (by omega)) fun l4 h4=>aP.2 ⟨by rw[h4.length_eq];exact h3.1,fun c hc=>h3.2 c (h4.mem_iff.1 hc)⟩
 refine gh l.length (by omega) (fun(k:Nat) (s:List (bt×Int)×List af×Int)=>s.2.2=(k:Int)∧s.2.1.length≤k∧(∀c∈s.2.1,P c)∧∀p∈s.1,∃i:Nat,p.2=(i:Int)∧i<s.2.1.length) ⟨rfl,by simp,by simp,by simp⟩ ?_ ?_
 ·rintro k ⟨m,l2,v⟩ hk ⟨h1,h2,h3,h4⟩;simp only at h1 h2 h3 h4;subst h1;show post (jk l m l2 (k:Int)) _;unfold jk;have e:l[k]?=some l[k]:=List.getElem?_eq_getElem hk;have hPk:=hP _ (List.getElem_mem hk);rw[bL e,fp (by omega) (by omega)]
  generalize l[k]=c at e hPk;refine a_ (fun hh=>?_) (fun hh=>?_)
  ·obtain⟨p,hp,hg⟩:=VM (z:=(0:Int)) hh;obtain⟨i,hi,hi2⟩:=h4 p hp;rw[hg,hi,Ir hi2,ak];refine a_ (fun _=>bZ (C:=fun s'=>_) ⟨rfl,?_,fun c' QV=>?_,fun p' XR=>?_⟩) (fun _=>bZ (C:=fun s'=>_) ⟨rfl,by show l2.length≤_;omega,h3,h4⟩)
   ·show(e_ l2 (i:Int) c).length≤_;unfold e_;rw[List.length_set];omega
   ·have Ay:c'∈l2.set i c:=by
     have:c'∈e_ l2 (i:Int) c:=QV;unfold e_ at this;rwa [Int.toNat_natCast]at this
    rcases List.mem_or_eq_of_mem_set Ay with h|h
    ·exact h3 c' h
    ·rw[h];exact hPk
   ·obtain⟨j,hj,hj2⟩:=h4 p' XR;refine⟨j,hj,?_⟩;show j<(e_ l2 (i:Int) c).length;unfold e_;rw[List.length_set];exact hj2
  ·refine bW (dt (by simp only[List.length_append,List.length_cons,List.length_nil];omega)) (bZ (C:=fun s'=>_) ⟨rfl,by simp only[List.length_append,List.length_cons,List.length_nil];omega,fun c' QV=>?_,fun p' XR=>?_⟩)
   ·rcases List.mem_append.1 QV with QV|QV
    ·exact h3 c' QV
    ·rw[List.mem_singleton.1 QV];exact hPk
   ·show ∃i:Nat,p'.2=(i:Int)∧i<(l2++[c]).length;rcases VN XR with h|h
    ·rw[h];exact⟨l2.length,rfl,by simp⟩
    ·obtain⟨i,hi,hi2⟩:=h4 p' h;exact⟨i,hi,by simp;omega⟩
 ·rintro⟨m,l2,v⟩ ⟨h1,h2,h3,h4⟩;simp only at h1 h2 h3 h4;subst h1;show post (jk l m l2 (l.length:Int)) _;unfold jk;rw[bA];exact b5 ⟨by omega,h3⟩
theorem Qa4(hA:A<1024){c:af}(hC:W8 y.ah.length c):∃b,xZ y c (A:Int)=some b∧(b=true→QH y A c):=by
 obtain⟨m,hm,Uw,hm3⟩:=hC.set;unfold xZ Bk;by_cases h:((cD c.aY 0&&bh c.aY (az y.types))&&dp c.bz 0)=true
 ·rw[h,fW,ak];refine⟨_,rfl,fun hb=>?_⟩
  simp only[Bool.and_eq_true,nk,js,w4,kJ]at h hb;unfold az at h;refine⟨hC,h.1,h.2,fun m' WS i hi=>?_⟩
  obtain rfl:m'=m:=by omega
  have:=hb.1.1;rw[hm,S0 (by omega) (by omega)]at this
  exact this i hi
 ·rw[show((cD c.aY 0&&bh c.aY (az y.types))&&dp c.bz 0)=false by simpa using h,jg]
  exact⟨false,rfl,fun h=>by cases h⟩
theorem G2(hy:y.ah.length≤3)(hA:∀i,A.testBit i=true→i<y.ah.length){c:af}(hC:QH y A c):∃i:Nat,nA c.bz=some (i:Int)∧i<y.ah.length∧dz c.db.aq (i:Int)=true:=by
 obtain⟨m,hm,Uw,hm3⟩:=hC.yw.set;have XT:=hC.pos;have h8:m<8:=by
  apply Nat.lt_pow_two_of_testBit (n:=3);intro i hi;cases hb:m.testBit i with
  |false=>rfl
  |true =>
   have:=hA i (hC.sub m hm i hb);omega
 have:∃i:Nat,u5 (m:Int)=(i:Int)∧m.testBit i=true:=by
  have hc:m=1∨m=2∨m=3∨m=4∨m=5∨m=6∨m=7:=by omega
  rcases hc with rfl|rfl|rfl|rfl|rfl|rfl|rfl
  ·exact⟨0,by kernel_rfl,by decide⟩
  ·exact⟨1,by kernel_rfl,by decide⟩
  ·exact⟨0,by kernel_rfl,by decide⟩
  ·exact⟨2,by kernel_rfl,by decide⟩
  ·exact⟨0,by kernel_rfl,by decide⟩
  ·exact⟨1,by kernel_rfl,by decide⟩
  ·exact⟨0,by kernel_rfl,by decide⟩
 obtain⟨i,h1,h2⟩:=this;exact⟨i,by rw[PG,hm,h1],hA i (hC.sub m hm i h2),by rw[←hm3];exact h2⟩
theorem Qdy{v:Nat}(hv:v<y.ah.length):∃r,gq y (v:Int)=some r:=by
 unfold gq;have e:y.ah[v]?=some y.ah[v]:=List.getElem?_eq_getElem hv;rw[bq (by rw[PW,jY,Cn];unfold az;omega),bC e,ak]
 simp only[zz];exact⟨_,rfl⟩
theorem YO(s:bH):∃r,fZ s=some r:=by
 have:∃r,uF s=some r:=by unfold uF;exact⟨_,rfl⟩
 obtain⟨r,hr⟩:=this;unfold fZ;rw[hr,ak];simp only[zz];exact⟨_,rfl⟩
theorem Qdm{E:Type}{v:Nat}(hv:v<y.ah.length)(J:Int→Option E):∃z,(aR (gq y (v:Int)) fun r4=>br (cM r4.2 0) (aR (fZ r4.1) fun r5=>br (cM r5.2 0) (J r5.1) (J (-1))) (J (-1)))=J z:=by
 obtain⟨r,hr⟩:=Qdy hv;rw[hr,ak];cases cM r.2 0 with
 |false=>exact⟨_,rfl⟩
 |true =>
  obtain⟨q,hq⟩:=YO r.1;rw[fW,hq,ak];cases cM q.2 0 with
  |false=>exact⟨_,rfl⟩
  |true=>exact⟨_,rfl⟩
theorem D4(hn:y.ah.length≤10){J:List Int→Int→Int→Option ((List Int×Int)⊕(List Int))}(hJ:∀l v z,J l v z=ef (eO (l++[z]).length 8) (some (.inl ((l++[z]),aU .i64 v 1)))){B:List Int×Int→Option ((List Int×Int)⊕(List Int))}
  (hB:∀s,B s=br (bh s.2 (az y.ah)) (aR (gq y s.2) fun r4=>br (cM r4.2 0) (aR (fZ r4.1) fun r5=>br (cM r5.2 0) (J s.1 s.2 r5.1) (J s.1 s.2 (-1))) (J s.1 s.2 (-1))) (some (.inr s.1))):
  post (aL B ([],0)) fun S=>S.length=y.ah.length:=by
 refine gh y.ah.length (by omega) (fun(k:Nat) (s:List Int×Int)=>s.2=(k:Int)∧s.1.length=k) ⟨rfl,rfl⟩ ?_ ?_
 ·rintro k ⟨l,v⟩ hk ⟨h1,h2⟩;simp only at h1 h2;subst h1;rw[hB];obtain⟨z,hz⟩:=Qdm hk (J l (k:Int));show post (br (bh (k:Int) (az y.ah)) _ _) _;rw[bD (by rw[js];unfold az;omega)]
  show post (aR (gq y (k:Int)) fun r4=>br (cM r4.2 0) (aR (fZ r4.1) fun r5=>br (cM r5.2 0) (J l (k:Int) r5.1) (J l (k:Int) (-1))) (J l (k:Int) (-1))) _
  rw[hz,hJ,fp (by omega) (by omega)]
  exact bW (dt (by simp only[List.length_append,List.length_cons,List.length_nil];omega)) (bZ (C:=fun s'=>_) ⟨rfl,by simp [h2]⟩)
 ·rintro⟨l,v⟩ ⟨h1,h2⟩;simp only at h1 h2;subst h1;rw[hB];show post (br (bh (y.ah.length:Int) (az y.ah)) _ _) _;rw[bA];exact b5 h2
def xe(y:ab)(A i k:Nat)(l:List af):Prop:=l.length≤k∧∀c∈l,QH y A c∧dz c.db.aq (i:Int)=true
theorem xe.snoc{i k:Nat}{l:List af}{c:af}(h:xe y A i k l)(hc:QH y A c)(hh:dz c.db.aq (i:Int)=true):xe y A i (k+1) (l++[c]):=by
 refine⟨?_,fun d hd=>?_⟩
 ·have:=h.1;simp only[List.length_append,List.length_cons,List.length_nil];omega
 ·rcases List.mem_append.1 hd with hd|hd
  ·exact h.2 d hd
  ·rw[List.mem_singleton.1 hd];exact⟨hc,hh⟩
theorem xe.more{i k:Nat}{l:List af}(h:xe y A i k l):xe y A i (k+1) l:=⟨by have:=h.1;omega,h.2⟩
theorem xe.nil{i:Nat}:xe y A i 0 []:=⟨Nat.le_refl _,by simp⟩
def QiZ(y:ab)(A:Nat)(r:Option aw×Int):Prop:=(r.1=none∧r.2≠0)∨∃c F S,r=(some c,0)∧FsX y A F S∧Ry y F S A c
theorem Od{F:List (List af)}{S:List Int}{r:Int}(hr:r=(A:Int))(h1:F.length=y.ah.length)(h2:S.length=y.ah.length)(h3:∀(i:Nat) l,F[i]?=some l→xe y A i 8192 l):QiZ y A (some (aw.mk y F S [] r),0):=by
 refine .inr ⟨_,F,S,rfl,⟨h1,h2,fun l hl=>?_,fun i l hl=>(h3 i l hl).2⟩,rfl,rfl,rfl,hr⟩
 obtain⟨i,hi,e⟩:=List.mem_iff_getElem.1 hl;exact(h3 i l (by rw[List.getElem?_eq_getElem hi,e])).1
theorem Xn(hy:y.ah.length≤3)(hC:∀c∈l,W8 y.ah.length c):∃A,(A<1024∧∀i,A.testBit i=(match y.ah[i]? with|some o=>!o.off|none=>false))∧post (rY y l) (QiZ y A):=by
 obtain⟨A,hA1,hA2,hA3⟩:=UB (y:=y) (by omega)
 refine⟨A,⟨hA2,hA3⟩,?_⟩;have hAi:∀i,A.testBit i=true→i<y.ah.length:=fun i hi=>by
  rw[hA3]at hi;rcases Nat.lt_or_ge i y.ah.length with h|h
  ·exact h
  ·rw[List.getElem?_eq_none h]at hi;cases hi
 unfold rY;refine a_ (fun _=>aP.2 (.inl ⟨rfl,by show(4:Int)≠0;omega⟩)) (fun hlen=>?_)
 have hl:l.length≤8192:=by rw[pL]at hlen;unfold az at hlen;omega
 rw[hA1,ak];refine ba (R:=fun e=>(e=.inr (none,2))∨(e=.inl ()∧∀c∈l,QH y A c)) ?_ ?_
 ·refine gh l.length (by omega) (fun(k:Nat) (s:Int)=>s=(k:Int)∧∀c∈l.take k,QH y A c) ⟨rfl,by simp⟩ ?_ ?_
  ·rintro k _ hk ⟨rfl,h1⟩;show post (ng y l (A:Int) (k:Int)) _;unfold ng;have e:l[k]?=some l[k]:=List.getElem?_eq_getElem hk;obtain⟨b,Oo,Oq⟩:=Qa4 (y:=y) hA2 (hC _ (List.getElem_mem hk));rw[bL e,Oo,ak,fp (by omega) (by omega)]
   refine a_ (fun hb=>bZ (C:=fun s'=>_) ⟨rfl,fun c hc=>?_⟩) (fun _=>b5 (.inl rfl))
   rw[take_one e]at hc;rcases List.mem_append.1 hc with hc|hc
   ·exact h1 c hc
   ·rw[List.mem_singleton.1 hc];exact Oq hb
  ·rintro _ ⟨rfl,h1⟩;show post (ng y l (A:Int) (l.length:Int)) _;unfold ng;rw[bA];rw[List.take_length]at h1;exact b5 (.inr ⟨rfl,h1⟩)
 ·rintro e (rfl|⟨rfl,hR⟩)
  ·rw[nQ];exact aP.2 (.inl ⟨rfl,by show(2:Int)≠0;omega⟩)
  rw[dw];have hch:=QN hl hR;refine a_ (fun h0=>?_) (fun h0=>a_ (fun h1=>?_) (fun h1=>a_ (fun h2=>?_) (fun h2=>a_ (fun h3=>?_) (fun h3=>?_))))
  ·have hn:y.ah.length=0:=by rw[kJ]at h0;unfold az at h0;omega
   have hm:za (az y.ah) (az y.ah) 24 ([]:List af)=some []:=by
    unfold az;rw[hn];rfl
   rw[hm,ak];refine ba hch fun r hr=>?_
   have zP:r=[]:=by
    cases r with
    |nil=>rfl
    |cons c r =>
     obtain⟨i,_,hi,_⟩:=G2 hy hAi (hr.2 c (List.mem_cons_self ..));omega
   subst zP;refine ba (R:=fun _=>True) ?_ fun _ _=>?_
   ·refine gh 0 (by omega) (fun _ _=>True) trivial (fun i s hi=>by omega) fun s _=>?_
    exact b5 trivial
   ·exact ba (D4 (by omega) (J:=pG y l (A:Int) []) (fun l v z=>rfl) fun s=>rfl) fun S hS=>aP.2 (Od rfl (by rw[hn];rfl) hS (fun i l hl=>by simp at hl))
  ·have hn:y.ah.length=1:=by rw[kJ]at h1;unfold az at h1;omega
   refine ba hch fun r hr=>?_
   refine ba (R:=fun F:List af=>xe y A 0 8192 F) ?_ fun F hF=>?_
   ·refine gh r.length (by omega) (fun(k:Nat) (s:List af×Int)=>s.2=(k:Int)∧xe y A 0 k s.1) ⟨rfl,xe.nil⟩ ?_ ?_
    ·rintro k ⟨l4,v⟩ hk ⟨g1,g2⟩;simp only at g1 g2;subst g1;show post (nh y l (A:Int) r l4 (k:Int)) _;unfold nh;have e:r[k]?=some r[k]:=List.getElem?_eq_getElem hk;have hc:=hr.2 _ (List.getElem_mem hk);obtain⟨i,q1,q2,q3⟩:=G2 hy hAi hc;have hlen:=g2.1;rw[bL e,q1,ak,fp (by omega) (by omega)]
     obtain rfl:i=0:=by omega
     rw[bD (by decide)]
     exact bW (dt (by simp only[List.length_append,List.length_cons,List.length_nil];omega)) (bZ (C:=fun s'=>_) ⟨rfl,g2.snoc hc q3⟩)
    ·rintro⟨l4,v⟩ ⟨g1,g2⟩;simp only at g1 g2;subst g1;show post (nh y l (A:Int) r l4 (r.length:Int)) _;unfold nh;rw[bA];exact b5 ⟨by have:=g2.1;omega,g2.2⟩
   ·refine ba (D4 (by omega) (J:=pH y l (A:Int) F) (fun l v z=>rfl) fun s=>rfl) fun S hS=>aP.2 (Od rfl (by rw[hn];rfl) hS (fun i l hl=>?_))
    match i,hl with
    |0,hl=>cases hl;exact hF
    |i+1,hl=>simp at hl
  ·have hn:y.ah.length=2:=by rw[kJ]at h2;unfold az at h2;omega
   refine ba hch fun r hr=>?_
   refine ba (R:=fun e:List af×List af=>xe y A 0 8192 e.1∧xe y A 1 8192 e.2) ?_ fun e0 hF=>?_
   ·refine gh r.length (by omega) (fun(k:Nat) (s:List af×List af×Int)=>s.2.2=(k:Int)∧xe y A 0 k s.1∧xe y A 1 k s.2.1) ⟨rfl,xe.nil,xe.nil⟩ ?_ ?_
    ·rintro k ⟨l4,l5,v⟩ hk ⟨g1,g2,g3⟩;simp only at g1 g2 g3;subst g1;show post (ni y l (A:Int) r l4 l5 (k:Int)) _;unfold ni;have e:r[k]?=some r[k]:=List.getElem?_eq_getElem hk;have hc:=hr.2 _ (List.getElem_mem hk);obtain⟨i,q1,q2,q3⟩:=G2 hy hAi hc;have hlen:=g2.1;have QjG:=g3.1;rw[bL e,q1,ak,fp (by omega) (by omega)]
     have hi:i=0∨i=1:=by omega
     rcases hi with rfl|rfl
     ·rw[bD (by decide)]
      exact bW (dt (by simp only[List.length_append,List.length_cons,List.length_nil];omega)) (bZ (C:=fun s'=>_) ⟨rfl,g2.snoc hc q3,g3.more⟩)
     ·rw[bq (by decide),bD (by decide)]
      exact bW (dt (by simp only[List.length_append,List.length_cons,List.length_nil];omega)) (bZ (C:=fun s'=>_) ⟨rfl,g2.more,g3.snoc hc q3⟩)
    ·rintro⟨l4,l5,v⟩ ⟨g1,g2,g3⟩;simp only at g1 g2 g3;subst g1;show post (ni y l (A:Int) r l4 l5 (r.length:Int)) _;unfold ni;rw[bA];exact b5 ⟨⟨by have:=g2.1;show l4.length≤_;omega,g2.2⟩,⟨by have:=g3.1;show l5.length≤_;omega,g3.2⟩⟩
   ·obtain⟨F,G⟩:=e0;refine ba (D4 (by omega) (J:=pI y l (A:Int) F G) (fun l v z=>rfl) fun s=>rfl) fun S hS=>aP.2 (Od rfl (by rw[hn];rfl) hS (fun i l hl=>?_))
    match i,hl with
    |0,hl=>cases hl;exact hF.1
    |1,hl=>cases hl;exact hF.2
    |i+2,hl=>simp at hl
  ·have hn:y.ah.length=3:=by rw[kJ]at h3;unfold az at h3;omega
   refine ba hch fun r hr=>?_
   refine ba (R:=fun e:List af×List af×List af=>xe y A 0 8192 e.1∧xe y A 1 8192 e.2.1∧xe y A 2 8192 e.2.2) ?_ fun e0 hF=>?_
   ·refine gh r.length (by omega) (fun(k:Nat) (s:List af×List af×List af×Int)=>s.2.2.2=(k:Int)∧xe y A 0 k s.1∧xe y A 1 k s.2.1∧xe y A 2 k s.2.2.1) ⟨rfl,xe.nil,xe.nil,xe.nil⟩ ?_ ?_
    ·rintro k ⟨l4,l5,l6,v⟩ hk ⟨g1,g2,g3,g4⟩;simp only at g1 g2 g3 g4;subst g1;show post (nj y l (A:Int) r l4 l5 l6 (k:Int)) _;unfold nj;have e:r[k]?=some r[k]:=List.getElem?_eq_getElem hk;have hc:=hr.2 _ (List.getElem_mem hk);obtain⟨i,q1,q2,q3⟩:=G2 hy hAi hc;have hlen:=g2.1;have QjG:=g3.1;have QnN:=g4.1;rw[bL e,q1,ak,fp (by omega) (by omega)]
     have hi:i=0∨i=1∨i=2:=by omega
     rcases hi with rfl|rfl|rfl
     ·rw[bD (by decide)]
      exact bW (dt (by simp only[List.length_append,List.length_cons,List.length_nil];omega)) (bZ (C:=fun s'=>_) ⟨rfl,g2.snoc hc q3,g3.more,g4.more⟩)
     ·rw[bq (by decide),bD (by decide)]
      exact bW (dt (by simp only[List.length_append,List.length_cons,List.length_nil];omega)) (bZ (C:=fun s'=>_) ⟨rfl,g2.more,g3.snoc hc q3,g4.more⟩)
     ·rw[bq (by decide),bq (by decide),bD (by decide)]
      exact bW (dt (by simp only[List.length_append,List.length_cons,List.length_nil];omega)) (bZ (C:=fun s'=>_) ⟨rfl,g2.more,g3.more,g4.snoc hc q3⟩)
    ·rintro⟨l4,l5,l6,v⟩ ⟨g1,g2,g3,g4⟩;simp only at g1 g2 g3 g4;subst g1;show post (nj y l (A:Int) r l4 l5 l6 (r.length:Int)) _;unfold nj;rw[bA];exact b5 ⟨⟨by have:=g2.1;show l4.length≤_;omega,g2.2⟩,⟨by have:=g3.1;show l5.length≤_;omega,g3.2⟩,⟨by have:=g4.1;show l6.length≤_;omega,g4.2⟩⟩
   ·obtain⟨F,G,H⟩:=e0;refine ba (D4 (by omega) (J:=pJ y l (A:Int) F G H) (fun l v z=>rfl) fun s=>rfl) fun S hS=>aP.2 (Od rfl (by rw[hn];rfl) hS (fun i l hl=>?_))
    match i,hl with
    |0,hl=>cases hl;exact hF.1
    |1,hl=>cases hl;exact hF.2.1
    |2,hl=>cases hl;exact hF.2.2
    |i+3,hl=>simp at hl
  ·rw[zC]at h0 h1 h2 h3;unfold az at h0 h1 h2 h3;omega
end
section
variable {x y : ab} {b : ay} {F : List (List af)} {S : List Int} {A n k cv : Nat} {c : aw} {s : aj} {yw : af}
theorem Qab(hf:Br x)(hR:rr b){j:Nat}(hj:j<1024)(h:(JG x b (j:Int)).2=0):W8 x.ah.length (JG x b (j:Int)).1:=by
 unfold JG at h ⊢;split
 ·rename_i hc;rw[if_pos hc]at h;rw[Int.toNat_natCast]at h ⊢;cases ho:Yg x b j with
  |none=>rw[ho]at h;exact absurd h (by show(24:Int)≠0;omega)
  |some k =>
   obtain⟨t,_,_,h3,_⟩:=Qbb (QaW ho);exact⟨h3.1,(Lr hf hR h3).Ez.Q0,j,rfl,hj,h3.2.2⟩
 ·rename_i hc;rw[if_neg hc]at h;exact absurd h (by show(2:Int)≠0;omega)
theorem RL(hf:Br x)(hR:rr b){fit:Nat→Bool}:∀j,j<1024→∀c∈Fh x b fit j,W8 x.ah.length c
 |0,_,c,h=>by cases h
 |j+1,hj,c,h=>by
  unfold Fh at h;rcases List.mem_append.1 h with h|h
  ·exact RL hf hR j (by omega) c h
  ·split at h
   ·rename_i hc;rw[List.mem_singleton.1 h];exact Qab hf hR hj (kJ.1 (Ih.1 hc).2)
   ·cases h
theorem UI(hf:Br x):∀k,k≤6→∀c∈JB x k,W8 x.ah.length c
 |0,_,c,h=>by cases h
 |k+1,hk,c,h=>by
  have h8:=Qdd hf;unfold JB at h;rcases List.mem_append.1 h with h|h
  ·exact UI hf k (by omega) c h
  ·exact RL hf (Qeg (kI6 (by omega))) _ (by omega) c h
def Qap(i:Nat)(c:af):Bool:=dz c.db.aq (i:Int)
structure UF (y:ab) (A k cv:Nat) (cs:List af) (U:List Int):Prop where
 QcT:cs.length≤k
 QcV:U.length≤k
 yw:∀c∈cs,QH y A c
 cov:∀i,cv.testBit i=true↔∃c∈cs,Qap i c=true
 once:∀i,cs.countP (Qap i)≤1
 all:∀i,i<k→A.testBit i=true→cv.testBit i=true∨(i:Int)∈U
 un:∀u∈U,0≤u∧u<y.ah.length
theorem UF.take{k' m:Nat}{cs:List af}{U:List Int}(h:UF y A k cv cs U)(hC:QH y A yw)(hm:yw.bz=(m:Int))(hz:cv &&& m=0)(hk:k<k')(ha:∀i,k≤i→i<k'→A.testBit i=true→(cv |||m).testBit i=true):UF y A k' (cv |||m) (cs++[yw]) U:=by
 obtain⟨m',WS,_,hm3⟩:=hC.yw.set;obtain rfl:m'=m:=by omega
 have h1:=h.QcT;have h2:=h.QcV;refine⟨by simp only[List.length_append,List.length_cons,List.length_nil];omega,by omega,fun c hc=>?_,fun i=>?_,fun i=>?_,fun i hi hA=>?_,h.un⟩
 ·rcases List.mem_append.1 hc with hc|hc
  ·exact h.yw c hc
  ·rw[List.mem_singleton.1 hc];exact hC
 ·rw[Nat.testBit_or,Bool.or_eq_true,h.cov i,hm3];constructor
  ·rintro(⟨c,hc,hb⟩|hb)
   ·exact⟨c,List.mem_append_left _ hc,hb⟩
   ·exact⟨yw,by simp,hb⟩
  ·rintro⟨c,hc,hb⟩;rcases List.mem_append.1 hc with hc|hc
   ·exact .inl ⟨c,hc,hb⟩
   ·rw[List.mem_singleton.1 hc]at hb;exact .inr hb
 ·rw[List.countP_append,List.countP_cons,List.countP_nil];have ho:=h.once i;by_cases hb:Qap i yw=true
  ·rw[if_pos hb];have hmb:m'.testBit i=true:=by rw[hm3];exact hb
   have h0:cs.countP (Qap i)=0:=by
    rw[List.countP_eq_zero];intro c hc hcb;have hcv:=(h.cov i).2 ⟨c,hc,hcb⟩;have:=congrArg (fun z=>z.testBit i) hz
    simp only[Nat.testBit_and,hcv,hmb,Nat.zero_testBit]at this;cases this
   omega
  ·rw[if_neg hb];omega
 ·rcases Nat.lt_or_ge i k with Ot|Ot
  ·rcases h.all i Ot hA with h|h
   ·exact .inl (by rw[Nat.testBit_or,h];rfl)
   ·exact .inr h
  ·exact .inl (ha i Ot hi hA)
theorem UF.skip{k':Nat}{cs:List af}{U:List Int}(h:UF y A k cv cs U)(hk:k<k')(rS:k<y.ah.length)(ha:∀i,k<i→i<k'→A.testBit i=true→cv.testBit i=true):UF y A k' cv cs (U++[(k:Int)]):=by
 have h1:=h.QcT;have h2:=h.QcV;refine⟨by omega,by simp only[List.length_append,List.length_cons,List.length_nil];omega,h.yw,h.cov,h.once,fun i hi hA=>?_,fun u hu=>?_⟩
 ·rcases Nat.lt_trichotomy i k with Ot|Ot|Ot
  ·rcases h.all i Ot hA with h|h
   ·exact .inl h
   ·exact .inr (List.mem_append_left _ h)
  ·subst Ot;exact .inr (by simp)
  ·exact .inl (ha i Ot hi hA)
 ·rcases List.mem_append.1 hu with hu|hu
  ·exact h.un u hu
  ·rw[List.mem_singleton.1 hu];omega
theorem UF.settle{k':Nat}{cs:List af}{U:List Int}(h:UF y A k cv cs U)(hk:k≤k')(ha:∀i,k≤i→i<k'→A.testBit i=true→cv.testBit i=true):UF y A k' cv cs U:=by
 have h1:=h.QcT;have h2:=h.QcV;refine⟨by omega,by omega,h.yw,h.cov,h.once,fun i hi hA=>?_,h.un⟩
 rcases Nat.lt_or_ge i k with Ot|Ot
 ·exact h.all i Ot hA
 ·exact .inl (ha i Ot hi hA)
theorem Mc(hn:y.ah.length≤10)(ht:y.types.length≤6)(hA:A<1024)(hF:FsX y A F S)(hc:Ry y F S A c)(hs:StX y.ah.length k cv s):post (lW c s) fun r=>Ry y F S A r.2:=
 PH hn ht hA hF u9 k cv c s hc hs (by unfold u9;omega)
theorem Qa0(hn:y.ah.length≤10)(ht:y.types.length≤6)(hA:A<1024)(hF:FsX y A F S)(hc:Ry y F S A c)(hs:StX y.ah.length k cv s)(hP:UF y A k cv [] []):
  post (ik c s) fun r=>∃cv',UF y A y.ah.length cv' r.1 r.2.1:=by
 unfold ik;rw[hc.x,hc.first,hc.ee,hc.ah];refine ba (R:=fun e:List (aj×Int)×List af×List Int×ab×List (List af)×List Int×Int=>∃cv',UF y A y.ah.length cv' e.2.1 e.2.2.1) ?_ ?_
 ·refine eJ (fun q:List (aj×Int)×List af×List Int×ab×List (List af)×List Int×Int×aj=>∃k cv,q.2.2.2.1=y∧q.2.2.2.2.1=F∧q.2.2.2.2.2.1=S∧q.2.2.2.2.2.2.1=(A:Int)∧StX y.ah.length k cv q.2.2.2.2.2.2.2∧UF y A k cv q.2.1 q.2.2.1) (fun q=>y.ah.length-q.2.2.2.2.2.2.2.eK.toNat) ⟨k,cv,rfl,rfl,rfl,rfl,hs,hP⟩ (by simp only;omega) ?_
  rintro⟨l,cs,U,x0,f1,s1,o1,st⟩ ⟨k,cv,h1,h2,h3,h4,h5,h6⟩;simp only at h1 h2 h3 h4 h5 h6;subst h1 h2 h3 h4;show post (fX c l cs U x0 f1 s1 (A:Int) st) _;unfold fX;have hat:=h5.eK;have hle:=h5.le;refine a_ (fun hk=>?_) (fun hk=>?_)
  ·have rS:k<x0.ah.length:=by rw[js,hat]at hk;unfold az at hk;omega
   have hFk:f1[k]?=some (f1[k]'(by rw[hF.Qe5];exact rS)):=List.getElem?_eq_getElem _
   have XV:=hF.short _ (List.mem_of_getElem? hFk);have Qcn:=hF.yw k _ hFk;generalize f1[k]'(by rw[hF.Qe5];exact rS)=fk at hFk XV Qcn
   refine ba (Mc hn ht hA hF (Ry.eW hc l) h5) ?_
   rintro⟨rv,c1⟩ Uu;simp only at Uu;show post (aR (bj c1.dj st.eK) _) _;rw[Uu.first,hat,bC hFk,ak]
   -- Qu scan over Qu QkJ
   refine ba (R:=fun e:List (aj×Int)×List af×ab×List (List af)×List Int×Int×aj×Bool=>e.2.2.1=x0∧e.2.2.2.1=f1∧e.2.2.2.2.1=s1∧e.2.2.2.2.2.1=(A:Int)∧
    ((e.2.2.2.2.2.2.2=true∧∃k' cv',k<k'∧StX x0.ah.length k' cv' e.2.2.2.2.2.2.1∧UF x0 A k' cv' e.2.1 U)∨(e.2.2.2.2.2.2.2=false∧e.2.1=cs∧e.2.2.2.2.2.2.1=st))) ?_ ?_
   ·refine gh fk.length (by omega) (fun(j:Nat) (q:List (aj×Int)×ab×List (List af)×List Int×Int×aj×Int)=>q.2.1=x0∧q.2.2.1=f1∧q.2.2.2.1=s1∧q.2.2.2.2.1=(A:Int)∧q.2.2.2.2.2.1=st∧q.2.2.2.2.2.2=(j:Int)) ⟨Uu.x,rfl,Uu.ee,Uu.ah,rfl,rfl⟩ ?_ ?_
    ·rintro j ⟨l3,x3,f3,s3,o3,st3,v⟩ hj ⟨g1,g2,g3,g4,g5,g6⟩;simp only at g1 g2 g3 g4 g5 g6;subst g1 g2 g3 g4 g5 g6;show post (eh c l cs U f3 s3 (A:Int) (rv,c1) fk l3 x3 f3 s3 (A:Int) st3 (j:Int)) _;unfold eh;have e:fk[j]?=some fk[j]:=List.getElem?_eq_getElem hj;obtain⟨w1,w2⟩:=Qcn _ (List.getElem_mem hj);rw[bL e,fp (by omega) (by omega)]
     generalize fk[j]=cl at e w1 w2;refine ba (SP (k:=k) (cv:=cv) hn ht hA (Ry.eW hc l3) h5 rS w1 w2) ?_
     rintro⟨s',bb,c'⟩ ⟨q1,q2⟩;simp only at q1 q2;subst q1;refine a_ (fun hb=>?_) (fun _=>bZ (C:=fun s'=>_) ⟨rfl,rfl,rfl,rfl,rfl,rfl⟩)
     obtain⟨m,k',r1,r2,r3,r4,r5,r6⟩:=q2 hb;refine ba (Mc hn ht hA hF (Ry.eW hc l3) r5) fun r7 hr7=>?_
     refine a_ (fun _=>?_) (fun _=>bZ (C:=fun s'=>_) ⟨hr7.x,hr7.first,hr7.ee,hr7.ah,rfl,rfl⟩)
     have hlc:=h6.QcT;exact bW (dt (by simp only[List.length_append,List.length_cons,List.length_nil];omega)) (b5 ⟨hr7.x,hr7.first,hr7.ee,hr7.ah,.inl ⟨rfl,k',_,r4,r5,h6.take w1 r1 r3 r4 r6⟩⟩)
    ·rintro⟨l3,x3,f3,s3,o3,st3,v⟩ ⟨g1,g2,g3,g4,g5,g6⟩;simp only at g1 g2 g3 g4 g5 g6;subst g1 g2 g3 g4 g5 g6;show post (eh c l cs U f3 s3 (A:Int) (rv,c1) fk l3 x3 f3 s3 (A:Int) st3 (fk.length:Int)) _;unfold eh;rw[bA];exact b5 ⟨rfl,rfl,rfl,rfl,.inr ⟨rfl,rfl,rfl⟩⟩
   ·rintro⟨l4,cs4,x6,f6,s6,o6,st6,mJ⟩ ⟨g1,g2,g3,g4,g5⟩;simp only at g1 g2 g3 g4 g5;subst g1 g2 g3 g4;rcases g5 with⟨rfl,k',cv',w1,w2,w3⟩|⟨rfl,rfl,rfl⟩
    ·show post (br true _ _) _;rw[fW];have ha:=w2.eK;have hl:=w2.le;refine⟨_,rfl,fun s' e=>?_,fun e h=>by cases h⟩
     cases e;refine⟨⟨k',cv',rfl,rfl,rfl,rfl,w2,w3⟩,?_⟩;show x6.ah.length-st6.eK.toNat<x6.ah.length-(k:Int).toNat;rw[ha];omega
    ·show post (br false _ _) _;rw[jg];have hlu:=h6.QcV;refine bW (dt (by simp only[List.length_append,List.length_cons,List.length_nil];omega)) ?_
     refine ba (Lt (k:=k) (cv:=cv) hn hA (Ry.eW hc l4) h5 rS) ?_
     rintro⟨s',c'⟩ ⟨q1,k',q2,q3,q4⟩;simp only at q1 q3;subst q1;have ha:=q3.eK;have hl:=q3.le;refine⟨_,rfl,fun s'' e=>?_,fun e h=>by cases h⟩
     cases e;refine⟨⟨k',cv,rfl,rfl,rfl,rfl,q3,?_⟩,?_⟩
     ·show UF x6 A k' cv cs4 (U++[st6.eK]);rw[hat];exact h6.skip q2 rS q4
     ·show x6.ah.length-s'.eK.toNat<x6.ah.length-(k:Int).toNat;rw[ha];omega
  ·have:k=x0.ah.length:=by rw[jY,hat]at hk;unfold az at hk;omega
   subst this;refine⟨_,rfl,fun s' e=>(by cases e),fun e h=>?_⟩
   cases h;exact⟨cv,h6⟩
 ·rintro e0 ⟨cv',h⟩;exact aP.2 ⟨cv',h⟩
theorem QaV{α β:Type}{a:α}{f:α→Option β}{g:Option β}:opt (some a) f g=f a:=rfl
structure RA (y:ab) (R:List ay) (U:List Int):Prop where
 few:R.length≤10
 vis:∀r∈R,r.aq.length≤1048576∧∀v∈r.aq,0≤v.aJ∧v.aJ<y.ah.length
 once:∀i,S_ R i≤1
 all:∀(i:Nat) o,y.ah[i]?=some o→o.off=false→S_ R i=1∨(i:Int)∈U
 un:∀u∈U,0≤u∧u<y.ah.length
 Qln:U.length≤10
theorem UC{l:List af}(hf:Br y)(hC:∀c∈l,W8 y.ah.length c):post (uT y l) fun q=>q.2.2=0→RA y q.1.mB q.1.de:=by
 have hn:=hf.few;have ht:=hf.ok.types;obtain⟨A,⟨hA,hAb⟩,hb⟩:=Xn hn hC;unfold uT;refine ba hb ?_
 rintro⟨oc,er⟩ (⟨h1,h2⟩|⟨c,F,S,h1,hF,hc⟩)
 ·simp only at h1 h2;subst h1;show post (br (cr er 0) (some ((cT.mk [] []),0,er)) none) _;rw[bD (by simpa using h2)]
  exact aP.2 fun h=>absurd h h2
 ·cases h1;rw[show((some c,(0:Int)):Option aw×Int).1=some c from rfl,QaV,bq (by rfl)]
  have hP0:UF y A 0 0 [] []:=⟨Nat.le_refl _,Nat.le_refl _,by simp,by simp,by simp,fun i hi=>by omega,by simp⟩
  refine ba (Gu (k:=0) (cv:=0) (by omega) hA hc ⟨rfl,rfl,by omega,Nat.zero_le _⟩) ?_
  rintro⟨s1,c1⟩ ⟨g1,k',g2,g3,g4,_⟩;simp only at g1 g3;subst g1;refine ba (Mc (by omega) ht hA hF hc g3) fun r2 Vy=>a_ (fun _=>aP.2 fun h=>by cases h) (fun _=>?_)
  refine ba (Qa0 (by omega) ht hA hF Vy g3 (by
   have:=hP0.settle g2 g4;exact this)) ?_
  rintro⟨cs,U,c3⟩ ⟨cv',hP⟩;have hP:UF y A y.ah.length cv' cs U:=hP;have hlc:=hP.QcT;refine ba (Qj Xr Qiq (by show cs.length≤_;omega)) fun l1 hl1=>?_
  have QhB:l1.Perm cs:=hl1;have hlen:=QhB.length_eq;refine ba (R:=fun R:List ay=>R=l1.map (·.db)) ?_ fun R hR=>(aP (a:=(cT.mk R U,r2.1,(0:Int)))).2 fun _=>?_
  ·refine gh l1.length (by omega) (fun(k:Nat) (s:List ay×Int)=>s.2=(k:Int)∧s.1=(l1.take k).map (·.db)) ⟨rfl,rfl⟩ ?_ ?_
   ·rintro k ⟨l2,v⟩ hk ⟨h1,h2⟩;simp only at h1 h2;subst h1;show post (lx l c1 r2 (cs,U,c3) l1 l2 (k:Int)) _;unfold lx;have e:l1[k]?=some l1[k]:=List.getElem?_eq_getElem hk;rw[bL e,fp (by omega) (by omega)]
    refine bW (dt (by rw[h2];simp;omega)) (bZ (C:=fun s'=>_) ⟨rfl,?_⟩)
    show l2++_=_;rw[take_one e,List.map_append,h2];rfl
   ·rintro⟨l2,v⟩ ⟨h1,h2⟩;simp only at h1 h2;subst h1;show post (lx l c1 r2 (cs,U,c3) l1 l2 (l1.length:Int)) _;unfold lx;rw[bA];rw[List.take_length]at h2;exact b5 h2
  ·show RA y R U;have Qjp:∀i,S_ R i=cs.countP (Qap i):=fun i=>by
    unfold S_;rw[hR,List.countP_map,←QhB.countP_eq];rfl
   have tZ:∀r∈R,∃c∈cs,r=c.db:=fun r hr=>by
    rw[hR]at hr;obtain⟨c,hc,e⟩:=List.mem_map.1 hr;exact⟨c,QhB.mem_iff.1 hc,e.symm⟩
   refine⟨by rw[hR,List.length_map,hlen];omega,fun r hr=>?_,fun i=>by rw[Qjp];exact hP.once i,fun i o ho u1=>?_,hP.un,by have:=hP.QcV;show U.length≤_;omega⟩
   ·obtain⟨c,hc,rfl⟩:=tZ r hr;have:=(hP.yw c hc).yw;exact⟨this.vis,this.Q0⟩
   ·have hi:=(List.getElem?_eq_some_iff.1 ho).1;have Vt:A.testBit i=true:=by rw[hAb,ho];simp [u1]
    rcases hP.all i hi Vt with h|h
    ·left;rw[Qjp];have h1:=hP.once i;have h2:0<cs.countP (Qap i):=List.countP_pos_iff.2 ((hP.cov i).1 h);omega
    ·exact .inr h
theorem Xf(hf:Br y):post (xW y) fun q=>q.2.2=0→RA y q.1.mB q.1.de:=by
 unfold xW;rw[UR hf,ak,bq (by simp)]
 refine ba (UC hf (UI hf _ hf.ok.types)) fun r hr=>aP.2 hr
end
section
variable {x y : ab} {og : List Int} {R : List ay} {U : List Int} {L : List (List ax)}
theorem Qca(hI:Rz x){n:Int}:post (n9 x n) fun ok=>ok=true→da x∧(x.ah.length:Int)≤n:=by
 unfold n9;refine a_ (fun h3=>ba (S8 hI) fun l hl=>aP.2 fun h=>?_) (fun _=>aP.2 fun h=>by cases h)
 simp only[Bool.and_eq_true,kJ,yS,az]at h h3;exact⟨hl (List.length_eq_zero_iff.1 (by omega)),by omega⟩
theorem Z8:kY=some true:=by kernel_rfl
theorem QfI(hE:OU x y og):(og.zip y.ah).length=y.ah.length:=by
 have:=hE.exp.len;simp;omega
theorem UK(hE:OU x y og){v d:Nat}(hv:v<x.ah.length):iu y.ah.length (atF (QG v d) (og.zip y.ah))=kL x v d:=by
 have hz:=QfI hE;rw[ZP (f:=QG v d) (l:=og.zip y.ah) y.ah.length (by omega),List.take_of_length_le (by omega),hE.sum v d,if_pos hv]
theorem QgS(hy:da y)(hE:OU x y og){v d i:Nat}(hi:i<y.ah.length):0≤atF (QG v d) (og.zip y.ah) i:=by
 obtain⟨o,u,_,_,_,ez,_,hod,_⟩:=T1 hy hE (by rw[hE.types]) hi
 rw[S1 ez];unfold QG;split
 ·exact(hod d).1
 ·omega
theorem QgT(hy:da y)(hE:OU x y og)(hM:GO x y og R L)(hP:RA y R U){v d:Nat}(hv:v<x.ah.length):UZ L v d≤kL x v d:=by
 show dq (K1 v d) L.flatten≤_;rw[hM.sum v d,←UK hE hv];refine ZQ _ fun i hi=>?_
 have h1:=hP.once i;have h2:=QgS (v:=v) (d:=d) hy hE hi;have hc:S_ R i=0∨S_ R i=1:=by omega
 rcases hc with hc|hc
 ·rw[hc];simpa using h2
 ·rw[hc];simp
theorem QbW(hy:da y)(hE:OU x y og)(hM:GO x y og R L)(hP:RA y R U){v:Nat}{o:ag}(ho:x.ah[v]?=some o)(u1:o.off=false)
  (hU:∀i:Nat,og[i]?=some (v:Int)→(i:Int) ∉ U) (d:Nat):UZ L v d=kL x v d:=by
 have hv:=(List.getElem?_eq_some_iff.1 ho).1;show dq (K1 v d) L.flatten=_;rw[hM.sum v d,←UK hE hv];refine xE _ fun i hi=>?_
 obtain⟨p,u,e,eo,hu,ez,_,_,o',ho',hoo⟩:=T1 hy hE (by rw[hE.types]) hi
 rw[S1 ez];unfold QG;split
 ·rename_i hq;have hq':(u:Int)=(v:Int):=hq;have hqn:u=v:=by omega
  subst hqn;rw[ho]at ho';cases ho';rcases hP.all i p e (by rw[hoo];exact u1)with h|h
  ·rw[h];simp
  ·exact absurd h (hU i eo)
 ·simp
theorem QaS(hx:da x)(hE:OU x y og)(r1:ab×List Int×Int)(HZ:r1.2.1=og)(r4:cT×Int×Int)(hr4:r4.1.de=U)(r6:List (List ax)×Int)(hU:U.length≤10)(hUi:∀u∈U,0≤u∧u<og.length):
  post (aL (fun s:List Int×Int=>fr x r1 r4 r6 s.1 s.2) ([],0)) fun W=>W.length≤10∧(∀w∈W,0≤w∧w<x.ah.length)∧∀(v i:Nat),v<x.ah.length→og[i]?=some (v:Int)→(i:Int)∈U→(v:Int)∈W:=by
 have dm:=hx.ah;refine gh x.ah.length (by omega) (fun(k:Nat) (s:List Int×Int)=>s.2=(k:Int)∧s.1.length≤k∧(∀w∈s.1,0≤w∧w<k)∧∀(v i:Nat),v<k→og[i]?=some (v:Int)→(i:Int)∈U→(v:Int)∈s.1) ⟨rfl,by simp,by simp,fun v i h=>by omega⟩ ?_ ?_
 ·rintro k ⟨W,v⟩ hk ⟨h1,h2,h3,h4⟩;simp only at h1 h2 h3 h4;subst h1;show post (fr x r1 r4 r6 W (k:Int)) _;unfold fr;have e:x.ah[k]?=some x.ah[k]:=List.getElem?_eq_getElem hk;rw[bL e,fp (by omega) (by omega)]
  generalize x.ah[k]=o at e;refine ba (R:=fun b:Bool=>∀i:Nat,og[i]?=some (k:Int)→(i:Int)∈U→b=true) ?_ fun b hb=>?_
  ·refine gh U.length (by omega) (fun(j:Nat) (s:Bool×Int)=>s.2=(j:Int)∧∀i:Nat,og[i]?=some (k:Int)→(i:Int)∈U.take j→s.1=true) ⟨rfl,by simp⟩ ?_ ?_
   ·rintro j ⟨b,v1⟩ hj ⟨g1,g2⟩;simp only at g1 g2;subst g1;show post (gm x r1 r4 r6 W (k:Int) b (j:Int)) _;unfold gm;rw[hr4,HZ];have ej:U[j]?=some U[j]:=List.getElem?_eq_getElem hj;have hu:=hUi _ (List.getElem_mem hj);rw[bD (by rw[js];unfold az;omega),fp (by omega) (by omega),bC ej,ak]
    generalize U[j]=u at ej hu;obtain⟨n,rfl⟩:∃n:Nat,u=n:=⟨u.toNat,by omega⟩
    have en:og[n]?=some (og[n]'(by omega)):=List.getElem?_eq_getElem (by omega)
    rw[bC en,ak];generalize og[n]'(by omega)=w at en
    refine a_ (fun _=>bZ (C:=fun s'=>_) ⟨rfl,fun i _ _=>rfl⟩) (fun hb0=>a_ (fun _=>bZ (C:=fun s'=>_) ⟨rfl,fun i hi hm=>?_⟩) (fun hc=>?_))
    ·show cM w (k:Int)=true;rw[take_one ej]at hm;rcases List.mem_append.1 hm with hm|hm
     ·have:=g2 i hi hm;rw[hb0]at this;cases this
     ·have h5:=List.mem_singleton.1 hm;have h6:i=n:=by omega
      subst h6;rw[en]at hi;cases hi;rw[kJ]
    ·rw[jY]at hc;unfold az at hc;omega
   ·rintro⟨b,v1⟩ ⟨g1,g2⟩;simp only at g1 g2;subst g1;show post (gm x r1 r4 r6 W (k:Int) b (U.length:Int)) _;unfold gm;rw[hr4,bA];rw[List.take_length]at g2;exact b5 g2
  ·refine a_ (fun Oo=>bW (dt (by simp only[List.length_append,List.length_cons,List.length_nil];omega)) (bZ (C:=fun s'=>_) ⟨rfl,by simp only[List.length_append,List.length_cons,List.length_nil];omega,fun w hw=>?_,fun v i hv hi hm=>?_⟩)) (fun Oo=>bZ (C:=fun s'=>_) ⟨rfl,by show W.length≤_;omega,fun w hw=>?_,fun v i hv hi hm=>?_⟩)
   ·rcases List.mem_append.1 hw with hw|hw
    ·have:=h3 w hw;omega
    ·rw[List.mem_singleton.1 hw];omega
   ·show(v:Int)∈W++[(k:Int)];rcases Nat.lt_or_ge v k with h|h
    ·exact List.mem_append_left _ (h4 v i h hi hm)
    ·obtain rfl:v=k:=by omega
     simp
   ·have:=h3 w hw;omega
   ·rcases Nat.lt_or_ge v k with h|h
    ·exact h4 v i h hi hm
    ·obtain rfl:v=k:=by omega
     have:=hb i hi hm;rw[Oo]at this;cases this
 ·rintro⟨W,v⟩ ⟨h1,h2,h3,h4⟩;simp only at h1 h2 h3 h4;subst h1;show post (fr x r1 r4 r6 W (x.ah.length:Int)) _;unfold fr;rw[bA];exact b5 ⟨by omega,h3,h4⟩
theorem OY(x:ab)(hI:Rz x):rM x=some true:=by
 apply post.eq;unfold rM;rw[Z8,ak];refine ba (Qca hI) fun ok B3=>a_ (fun h=>?_) (fun _=>aP.2 rfl)
 obtain⟨hx,hx2⟩:=B3 h;obtain⟨⟨y,og,e⟩,hX,hE⟩:=UD hx hI;rw[hX,ak];refine a_ (fun _=>aP.2 rfl) (fun he=>?_)
 have he':e=0:=yX.1 he;subst he';have hE:OU x y og:=hE rfl;refine ba (Qca hE.ins) fun ok3 Qmw=>a_ (fun h3=>?_) (fun _=>aP.2 rfl)
 obtain⟨hy,hy3⟩:=Qmw h3;have hf:Br y:=⟨hy,by omega⟩
 refine ba (Xf hf) ?_
 rintro⟨⟨R,U⟩,w,e4⟩ hP;refine a_ (fun _=>aP.2 rfl) (fun he4=>?_)
 have hP:RA y R U:=hP (yX.1 he4);refine ba (Xa (p:=cT.mk R U) (e:=0) hX hx hy hE hP.few hP.vis) ?_
 rintro⟨L,e6⟩ ⟨h6,hM⟩;have hM:GO x y og R L:=hM;have h6':e6=0:=h6;subst h6';have hlL:L.length=R.length:=hM.len;have hfR:R.length≤10:=hP.few;rw[bq (by rw[PW,yX,yX];exact⟨rfl,by show(L.length:Int)=R.length;omega⟩)]
 have hlen:=hE.exp.len;refine ba (QaS hx hE _ rfl _ rfl _ hP.Qln (fun u hu=>by have:=hP.un u hu;omega)) fun W hW=>?_
 obtain⟨w1,w2,w3⟩:=hW;have hwh:uH x L W=some 0:=QbH hx (by omega) hM.short hM.all (fun v d hv=>QgT hy hE hM hP hv) w1 w2 (fun v o ho u1 hnW d=>QbW hy hE hM hP ho u1 (fun i hi hm=>hnW (w3 v i (List.getElem?_eq_some_iff.1 ho).1 hi hm)) d)
 rw[hwh,ak,bD (by rfl)]
 exact aP.2 rfl
end
end Go.Proofs.YtkcilfpbgjjjbaaGreatDoor
