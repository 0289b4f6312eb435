/- Part MY of the proof: texts Lwi Lwj Lwk Lwl Lwm Lwn Lwo Lwp Lwq. -/
import Derived.Test.YtfjiafgldchinaaGreatDoorMX
import Derived.Test.YtfjiafgldchinaaGreatDoorMR
namespace Go.Proofs.YtfjiafgldchinaaGreatDoor
set_option linter.unusedSimpArgs false
set_option linter.unusedVariables false
set_option linter.unusedSectionVars false
theorem QtH:∀ {a b:List Qaa},a.Nodup→(∀ v∈a,v∈b)→a.length≤b.length
 | [],_,_,_=>Nat.zero_le _
 | v :: r,b,hn,hs=>by
  have hv:=hs v (List.mem_cons_self ..)
  have hn':=List.nodup_cons.1 hn
  have:=QtH (a:=r) (b:=b.erase v) hn'.2 fun w hw=>(List.mem_erase_of_ne fun e:w=v=>hn'.1 (e ▸ hw)).2 (hs w (List.mem_cons_of_mem _ hw))
  rw [List.length_erase_of_mem hv] at this
  have:=List.length_pos_of_mem hv
  rw [List.length_cons]
  omega
theorem QC4 {a b:List Qaa} (hn:a.Nodup) (hs:∀ v∈a,v∈b) (hl:b.length≤a.length):∀ v∈b,v∈a:=fun v hv=>by
 refine Classical.byContradiction fun h=>?_
 have:=QtH (a:=v :: a) (b:=b) (List.nodup_cons.2 ⟨h,hn⟩) fun w hw=>by
  rcases List.mem_cons.1 hw with rfl|hw
  ·exact hv
  ·exact hs w hw
 rw [List.length_cons] at this
 omega
def lmV (m:Nat):List Qaa:=((List.range 10).filter fun i=>m.testBit i).map fun i:Nat=>Qaa.mk (i:Int) false
theorem Qr5 {m:Nat} (hm:m<1024) (i:Nat):m.testBit i=hasO (lmV m) (i:Int):=by
 rw [Bool.eq_iff_iff,Qhy]
 constructor
 ·intro h
  have hi:i<10:=Nat.lt_of_not_le fun hge=>by
   have:m.testBit i=false:=Nat.testBit_lt_two_pow (Nat.lt_of_lt_of_le hm (Nat.le_trans (by decide) (Nat.pow_le_pow_right (n:=2) (by omega) hge)))
   rw [this] at h; cases h
  exact ⟨Qaa.mk (i:Int) false,List.mem_map.2 ⟨i,List.mem_filter.2 ⟨List.mem_range.2 hi,h⟩,rfl⟩,rfl⟩
 ·rintro ⟨v,hv,he⟩
  obtain ⟨j,hj,rfl⟩:=List.mem_map.1 hv
  have:j=i:=Int.ofNat.inj he
  rw [← this]
  exact (List.mem_filter.1 hj).2
theorem Qvx {m:Nat} (hm:m<1024):QA3 (lmV m) (m:Int):=⟨m,rfl,hm,Qr5 hm⟩
section
variable {x : Qab} {b r : Qam} {l t : List Qaa} {m n : Nat} {v : Qaa} {kind : Int}
def ordS (l:List Qaa) (m:Nat):Prop:=∀ i:Nat,m.testBit i=hasO l (i:Int)
def allV (x:Qab) (m:Nat):List Qaa:=QyF x m [] x.orders.length
theorem Qmk:v∈allV x m↔∃ i,i<x.orders.length∧m.testBit i=true∧v∈visO x (i:Int):=by
 unfold allV
 rw [QxC]
 simp
theorem QsQ:(allV x m).Nodup:=(Qts _).imp fun {a b} h e=>by subst e; rw [QCS] at h; cases h
theorem QC3 (h:Qnf x l) (ho:ordS l m):∀ v,v∈l↔v∈allV x m:=fun v=>by
 rw [Qmk]
 constructor
 ·intro hv
  have hin:=Qni h.inn hv
  refine ⟨v.order.toNat,by omega,?_,?_⟩
  ·rw [ho,Int.toNat_of_nonneg hin.1]; exact Qhy.2 ⟨v,hv,rfl⟩
  ·rw [Int.toNat_of_nonneg hin.1]; exact h.own hv
 ·rintro ⟨i,h1,h2,h3⟩
  rw [ho] at h2
  exact h.all h2 h3
theorem QFv (h:Qnf x l) (ho:ordS l m):l.length=(allV x m).length:=Nat.le_antisymm (QtH h.nodup fun v hv=>(QC3 h ho v).1 hv) (QtH QsQ fun v hv=>(QC3 h ho v).2 hv)
theorem QvX (hx:QaV x) {i:Nat} (hi:i<x.orders.length):∃ v,v∈visO x (i:Int):=by
 have e:x.orders[i]?=some x.orders[i]:=List.getElem?_eq_getElem hi
 have hO:=hx.ord _ (List.getElem_mem hi)
 unfold visO
 rw [Int.toNat_natCast,e]
 simp only
 have h1:=hO.pick
 have h2:=hO.drop
 have h3:=hO.one
 unfold Qyi at h1 h2
 by_cases hp:0≤x.orders[i].pick.place
 ·rw [if_pos hp]; exact ⟨_,List.mem_append_left _ (List.mem_cons_self ..)⟩
 ·rw [if_pos (show 0≤x.orders[i].drop.place by omega)]
  exact ⟨_,List.mem_append_right _ (List.mem_cons_self ..)⟩
theorem QDz (hx:QaV x) (hm:m<2 ^ x.orders.length) (hg:QA1 x l) (hs:∀ v∈l,v∈allV x m) (hl:l.length=(allV x m).length):ordS l m:=fun i=>by
 rw [Bool.eq_iff_iff,Qhy]
 constructor
 ·intro hb
  have hi:i<x.orders.length:=Nat.lt_of_not_le fun hge=>by
   have:m.testBit i=false:=Nat.testBit_lt_two_pow (Nat.lt_of_lt_of_le hm (Nat.pow_le_pow_right (by omega) hge))
   rw [this] at hb; cases hb
  obtain ⟨v,hv⟩:=QvX hx hi
  exact ⟨v,QC4 hg.nodup hs (by omega) v (Qmk.2 ⟨i,hi,hb,hv⟩),QcG hv⟩
 ·rintro ⟨v,hv,he⟩
  obtain ⟨j,_,h2,h3⟩:=Qmk.1 (hs v hv)
  have:=QcG h3
  have:j=i:=by omega
  rw [← this]; exact h2
theorem Qv0 (hx:QaV x) (hm:m<2 ^ x.orders.length):post (Qdz x (m:Int)) fun e=>∀ l,Qnf x l→ordS l m→e=0:=by
 have h10:=hx.orders
 have hm2:m<1024:=Nat.lt_of_lt_of_le hm (Nat.le_trans (Nat.pow_le_pow_right (n:=2) (by omega) h10) (by decide))
 have tot:post (Qdz x (m:Int)) fun _=>True:=by
  have ha16:=hx.apart
  have hb16:=hx.before
  have hS:=Qvx hm2
  have hlen:=Qth (l:=lmV m) 63
  have hmem:∀ i∈memN (lmV m) 63,0≤i∧i<x.orders.length:=fun i hi=>by
   obtain ⟨k,rfl,_,hk⟩:=QuD hi
   rw [← Qr5 hm2] at hk
   refine ⟨by omega,?_⟩
   have:k<x.orders.length:=Nat.lt_of_not_le fun hge=>by
    have:m.testBit k=false:=Nat.testBit_lt_two_pow (Nat.lt_of_lt_of_le hm (Nat.pow_le_pow_right (by omega) hge))
    rw [this] at hk; cases hk
   omega
  unfold Qdz
  rw [QaW (by simp),QsK hS,Qaj]
  generalize memN (lmV m) 63=M at *
  rw [QbW (Qcv (B:=fun q=>QaZ x (m:Int) M q) (l:=M) (by omega) (fun i=>geI i (lenI x.orders)) (y:=(.inr 2:Unit⊕Int)) (N:=.inl ()) (fun i a hh=>by
   show QaZ x (m:Int) M i=_
   unfold QaZ
   rw [Qbz hh,incL hh (by omega),brs]) (by
   show QaZ x (m:Int) M M.length=_
   unfold QaZ
   rw [Qa4]))]
  split
  ·exact Qaw.2 trivial
  rw [Qdm,QbW (Qcv (B:=fun q=>QaY x (m:Int) M q) (l:=M) (by omega) (fun i=>offN x i.toNat) (y:=(.inr 9:Unit⊕Int)) (N:=.inl ()) (fun i a hh=>by
   obtain ⟨q0,q1⟩:=hmem a (List.mem_of_getElem? hh)
   show QaY x (m:Int) M i=_
   unfold QaY offN
   rw [Qbz hh,Qr0 q0 q1,Qaj,incL hh (by omega),brs,List.getElem?_eq_getElem (by omega)]) (by
   show QaY x (m:Int) M M.length=_
   unfold QaY
   rw [Qa4]))]
  split
  ·exact Qaw.2 trivial
  rw [Qdm,QbW (Qcv (B:=fun q=>QaT x (m:Int) M q) (l:=x.apart) (by omega) (Qmp (lmV m)) (y:=(.inr 20:Unit⊕Int)) (N:=.inl ()) (fun i a hh=>by
   obtain ⟨p0,p1,p2,p3,p4⟩:=hx.aparts a (List.mem_of_getElem? hh)
   show QaT x (m:Int) M i=_
   unfold QaT Qmp
   rw [Qbz hh,hS.Has p0 (by omega),Qaj,hS.Has p2 (by omega),Qaj,incL hh (by omega)]
   cases hasO (lmV m) a.x0 <;> cases hasO (lmV m) a.x1 <;> rfl) (by
   show QaT x (m:Int) M x.apart.length=_
   unfold QaT
   rw [Qa4]))]
  split
  ·exact Qaw.2 trivial
  rw [Qdm,QbW (Qcv (B:=fun q=>QaQ x (m:Int) M q) (l:=x.before) (by omega) (fun a=>hasO (lmV m) a.x1&&!hasO (lmV m) a.x0) (y:=(.inr 21:Unit⊕Int)) (N:=.inl ()) (fun i a hh=>by
   obtain ⟨p0,p1,p2,p3,p4⟩:=hx.befores a (List.mem_of_getElem? hh)
   show QaQ x (m:Int) M i=_
   unfold QaQ
   rw [Qbz hh,hS.Has p2 (by omega),Qaj,hS.Has p0 (by omega),Qaj,incL hh (by omega)]
   cases hasO (lmV m) a.x0 <;> cases hasO (lmV m) a.x1 <;> rfl) (by
   show QaQ x (m:Int) M x.before.length=_
   unfold QaQ
   rw [Qa4]))]
  split
  ·exact Qaw.2 trivial
  obtain ⟨c,hc,f,rfl,hf⟩:=Qrk hx
  rw [Qdm,hc,Qaj,QbW (Qcv (B:=fun q=>QaN M (vecN x.orders.length fun i=>((f i:Nat):Int)) q) (l:=M) (by omega) (fun i=>(f i.toNat).testBit i.toNat) (y:=(.inr 21:Unit⊕Int)) (N:=.inl ()) (fun i a hh=>by
   obtain ⟨q0,q1⟩:=hmem a (List.mem_of_getElem? hh)
   obtain ⟨k,rfl⟩:∃ k:Nat,a=k:=⟨a.toNat,by omega⟩
   show QaN M (vecN x.orders.length fun i=>((f i:Nat):Int)) i=_
   unfold QaN
   have hlt:=hf.lt k
   have hhas:QbV ((f k:Nat):Int) (k:Int)=some ((f k).testBit k):=by
    have:=(Qvx hlt).Has (i:=(k:Int)) (by omega) (by omega)
    rw [this,← Qr5 hlt]
   rw [Qbz hh,Qny q0 q1,Qaj,Int.toNat_natCast,hhas,Qaj,incL hh (by omega),brs]) (by
   show QaN M (vecN x.orders.length fun i=>((f i:Nat):Int)) M.length=_
   unfold QaN
   rw [Qa4]))]
  split <;> exact Qaw.2 trivial
 obtain ⟨e,he,-⟩:=tot
 refine ⟨e,he,fun l hq ho=>?_⟩
 have:=Qy5 hx hq (s:=(m:Int)) ⟨m,rfl,hm2,ho⟩
 rw [he] at this
 exact Option.some.inj this

theorem QCT:∀ {n:Nat} {k:Nat},k<n→hasO l (k:Int)=true→(k:Int)∈memN l n
 | 0,_,h,_=>by omega
 | n+1,k,h,h2=>by
  unfold memN
  rcases Nat.lt_or_ge k n with h3|h3
  ·exact List.mem_append_left _ (QCT h3 h2)
  ·obtain rfl:k=n:=by omega
   rw [if_pos h2]
   exact List.mem_append_right _ (List.mem_singleton.2 rfl)
theorem Qxx {S E:Type} {B:S→Option (S⊕E)} (Inv:S→Prop) (R:E→Prop) {s:S} {e:E} (hs:Inv s) (h:QaK B s=some e) (h1:∀ s s',Inv s→B s=some (.inl s')→Inv s') (h2:∀ s e,Inv s→B s=some (.inr e)→R e):R e :=
 QaC (fun s:S=>Inv s→R e) (fun e':E=>e'=e) (fun s x hx hl hr hI=>by
  cases x with
  | inl s'=>exact hl s' rfl (h1 s s' hI hx)
  | inr e'=>exact (hr e' rfl) ▸ h2 s e' hI hx) h rfl hs
def FixP (c:List Int) (p:Qau):Prop:=∀ ca cb,0≤p.x0→0≤p.x1→getI c p.x0=some ca→getI c p.x1=some cb→orK .i64 (orK .i64 cb ca) (shlK .i64 1 p.x0)=cb
theorem Qvf {n:Int} {bf:List Qau} {c:List Int} (hb:bf.length≤1048576) (h:Qel n bf=some c):∀ p∈bf,FixP c p:=by
 unfold Qel at h
 obtain ⟨c0,_,h⟩:=Qae h
 obtain ⟨c1,hl,h⟩:=Qae h
 cases h
 refine Qxx (fun s:List Int×Bool=>s.2=false→∀ p∈bf,FixP s.1 p) (fun e=>∀ p∈bf,FixP e p) (fun h=>by cases h) hl ?_ ?_
 ·rintro ⟨l1,more⟩ ⟨l2,more2⟩ _ h
  have h:QcX bf c0 l1 more=some (.inl (l2,more2)):=h
  unfold QcX at h
  rcases Qah h with ⟨_,h⟩|⟨_,h⟩
  ·obtain ⟨e,he,h⟩:=Qae h
   cases h
   refine Qxx (fun s:List Int×Bool×Int=>∃ k:Nat,s.2.2=(k:Int)∧(s.2.1=false→∀ j,j<k→∀ p,bf[j]?=some p→FixP s.1 p)) (fun e:List Int×Bool=>e.2=false→∀ p∈bf,FixP e.1 p) ⟨0,rfl,fun _ j hj=>by omega⟩ he ?_ ?_
   ·rintro ⟨l3,m3,i3⟩ s' ⟨k,rfl,hI⟩ h
    have h:QcY bf c0 l3 m3 (k:Int)=some (.inl s'):=h
    unfold QcY at h
    rcases Qah h with ⟨hk,h⟩|⟨_,h⟩
    ·simp only [Qoi,lenI] at hk
     have hk':k<bf.length:=by omega
     have ek:addK .i64 (k:Int) 1=((k+1:Nat):Int):=(addI (by omega) (by omega)).trans (by omega)
     rw [Qyt hk',Qaj,ek] at h
     have more:∀ {l':List Int} {m':Bool},(m'=false→l'=l3∧m3=false∧FixP l3 bf[k])→∃ k':Nat,(((k+1:Nat):Int))=(k':Int)∧(m'=false→∀ j,j<k'→∀ p,bf[j]?=some p→FixP l' p):=fun {l' m'} hf=>⟨k+1,rfl,fun hm j hj p hp=>by
      obtain ⟨rfl,f2,f3⟩:=hf hm
      rcases Nat.lt_or_ge j k with hjk|hjk
      ·exact hI f2 j hjk p hp
      ·obtain rfl:j=k:=by omega
       rw [List.getElem?_eq_getElem hk'] at hp
       cases hp
       exact f3⟩
     rcases Qah h with ⟨hb,h⟩|⟨hb,h⟩
     ·cases h
      refine more fun hm=>⟨rfl,hm,fun ca cb h0 h1 ha hb'=>?_⟩
      exfalso
      simp only [Bool.or_eq_true,Qoi,Qqs,lenI] at hb
      have g1:∀ {i a:Int},getI l3 i=some a→i<l3.length:=fun {i a} hg=>by
       unfold getI at hg
       split at hg
       ·have:=(List.getElem?_eq_some_iff.1 hg).1; omega
       ·cases hg
      have:=g1 ha; have:=g1 hb'
      omega
     ·obtain ⟨x1,hx1,h⟩:=Qae h
      obtain ⟨x2,hx2,h⟩:=Qae h
      obtain ⟨_,h⟩:=Qat h
      rcases Qah h with ⟨hn,h⟩|⟨hn,h⟩
      ·cases h
       exact more fun hm=>by cases hm
      ·cases h
       refine more fun hm=>⟨rfl,hm,fun ca cb _ _ ha hb'=>?_⟩
       rw [hx1] at hb'; cases hb'
       rw [hx2] at ha; cases ha
       simpa using hn
    ·cases h
   ·rintro ⟨l3,m3,i3⟩ e ⟨k,rfl,hI⟩ h hm
    have h:QcY bf c0 l3 m3 (k:Int)=some (.inr e):=h
    unfold QcY at h
    rcases Qah h with ⟨_,h⟩|⟨hk,h⟩
    ·obtain ⟨_,_,h⟩:=Qae h
     rcases Qah h with ⟨_,h⟩|⟨_,h⟩
     ·cases h
     ·obtain ⟨_,_,h⟩:=Qae h
      obtain ⟨_,_,h⟩:=Qae h
      obtain ⟨_,h⟩:=Qat h
      rcases Qah h with ⟨_,h⟩|⟨_,h⟩ <;> cases h
    ·cases h
     simp only [QoX,lenI] at hk
     intro p hp
     obtain ⟨j,hj⟩:=List.getElem?_of_mem hp
     exact hI hm j (by have:=(List.getElem?_eq_some_iff.1 hj).1; omega) p hj
  ·cases h
 ·rintro ⟨l1,more⟩ e hI h
  have h:QcX bf c0 l1 more=some (.inr e):=h
  unfold QcX at h
  rcases Qah h with ⟨_,h⟩|⟨hm,h⟩
  ·obtain ⟨_,_,h⟩:=Qae h
   cases h
  ·cases h
   exact hI hm
structure AlwS (x:Qab) (m:Nat):Prop where
 off:∀ i:Nat,m.testBit i=true→offN x i=false
 apart:∀ p∈x.apart,¬ (m.testBit p.x0.toNat=true∧m.testBit p.x1.toNat=true)
 before:∀ p∈x.before,m.testBit p.x1.toNat=true→m.testBit p.x0.toNat=true
 chain:∃ f:Nat→Nat,(∀ i,f i<1024)∧(∀ p∈x.before,(f p.x1.toNat).testBit p.x0.toNat=true∧∀ j,(f p.x0.toNat).testBit j=true→(f p.x1.toNat).testBit j=true)∧∀ i,m.testBit i=true→(f i).testBit i=false
theorem Qye (hx:QaV x) (hm:m<2 ^ x.orders.length):post (Qdz x (m:Int)) fun e=>e=0→AlwS x m:=by
 have h10:=hx.orders
 have hm2:m<1024:=Nat.lt_of_lt_of_le hm (Nat.le_trans (Nat.pow_le_pow_right (n:=2) (by omega) h10) (by decide))
 have ha16:=hx.apart
 have hb16:=hx.before
 have hS:=Qvx hm2
 have hlen:=Qth (l:=lmV m) 63
 have hbit:∀ {k:Nat},m.testBit k=true→k<x.orders.length:=fun {k} hk=>Nat.lt_of_not_le fun hge=>by
  have:m.testBit k=false:=Nat.testBit_lt_two_pow (Nat.lt_of_lt_of_le hm (Nat.pow_le_pow_right (by omega) hge))
  rw [this] at hk; cases hk
 have hmem:∀ i∈memN (lmV m) 63,0≤i∧i<x.orders.length:=fun i hi=>by
  obtain ⟨k,rfl,_,hk⟩:=QuD hi
  rw [← Qr5 hm2] at hk
  have:=hbit hk
  omega
 have hin:∀ {k:Nat},m.testBit k=true→(k:Int)∈memN (lmV m) 63:=fun {k} hk=>QCT (by have:=hbit hk; omega) (by rw [← Qr5 hm2]; exact hk)
 have hHas:∀ {i:Int},0≤i→i<x.orders.length→hasO (lmV m) i=m.testBit i.toNat:=fun {i} h0 h1=>by rw [Qr5 hm2,Int.toNat_of_nonneg h0]
 have bad:∀ {e:Int} {A:Prop},e≠0→post (some e) fun e=>e=0→A:=fun he=>Qaw.2 fun h=>absurd h he
 unfold Qdz
 rw [QaW (by simp),QsK hS,Qaj]
 generalize memN (lmV m) 63=M at *
 rw [QbW (Qcv (B:=fun q=>QaZ x (m:Int) M q) (l:=M) (by omega) (fun i=>geI i (lenI x.orders)) (y:=(.inr 2:Unit⊕Int)) (N:=.inl ()) (fun i a hh=>by
  show QaZ x (m:Int) M i=_
  unfold QaZ
  rw [Qbz hh,incL hh (by omega),brs]) (by
  show QaZ x (m:Int) M M.length=_
  unfold QaZ
  rw [Qa4]))]
 split
 ·exact bad (by decide)
 rw [Qdm,QbW (Qcv (B:=fun q=>QaY x (m:Int) M q) (l:=M) (by omega) (fun i=>offN x i.toNat) (y:=(.inr 9:Unit⊕Int)) (N:=.inl ()) (fun i a hh=>by
  obtain ⟨q0,q1⟩:=hmem a (List.mem_of_getElem? hh)
  show QaY x (m:Int) M i=_
  unfold QaY offN
  rw [Qbz hh,Qr0 q0 q1,Qaj,incL hh (by omega),brs,List.getElem?_eq_getElem (by omega)]) (by
  show QaY x (m:Int) M M.length=_
  unfold QaY
  rw [Qa4]))]
 split
 ·exact bad (by decide)
 rename_i hoff
 rw [Qdm,QbW (Qcv (B:=fun q=>QaT x (m:Int) M q) (l:=x.apart) (by omega) (Qmp (lmV m)) (y:=(.inr 20:Unit⊕Int)) (N:=.inl ()) (fun i a hh=>by
  obtain ⟨p0,p1,p2,p3,p4⟩:=hx.aparts a (List.mem_of_getElem? hh)
  show QaT x (m:Int) M i=_
  unfold QaT Qmp
  rw [Qbz hh,hS.Has p0 (by omega),Qaj,hS.Has p2 (by omega),Qaj,incL hh (by omega)]
  cases hasO (lmV m) a.x0 <;> cases hasO (lmV m) a.x1 <;> rfl) (by
  show QaT x (m:Int) M x.apart.length=_
  unfold QaT
  rw [Qa4]))]
 split
 ·exact bad (by decide)
 rename_i hap
 rw [Qdm,QbW (Qcv (B:=fun q=>QaQ x (m:Int) M q) (l:=x.before) (by omega) (fun a=>hasO (lmV m) a.x1&&!hasO (lmV m) a.x0) (y:=(.inr 21:Unit⊕Int)) (N:=.inl ()) (fun i a hh=>by
  obtain ⟨p0,p1,p2,p3,p4⟩:=hx.befores a (List.mem_of_getElem? hh)
  show QaQ x (m:Int) M i=_
  unfold QaQ
  rw [Qbz hh,hS.Has p2 (by omega),Qaj,hS.Has p0 (by omega),Qaj,incL hh (by omega)]
  cases hasO (lmV m) a.x0 <;> cases hasO (lmV m) a.x1 <;> rfl) (by
  show QaQ x (m:Int) M x.before.length=_
  unfold QaQ
  rw [Qa4]))]
 split
 ·exact bad (by decide)
 rename_i hbe
 obtain ⟨c,hc,f,rfl,hf⟩:=Qrk hx
 have hcl:=Qvf (by omega) hc
 rw [Qdm,hc,Qaj,QbW (Qcv (B:=fun q=>QaN M (vecN x.orders.length fun i=>((f i:Nat):Int)) q) (l:=M) (by omega) (fun i=>(f i.toNat).testBit i.toNat) (y:=(.inr 21:Unit⊕Int)) (N:=.inl ()) (fun i a hh=>by
  obtain ⟨q0,q1⟩:=hmem a (List.mem_of_getElem? hh)
  obtain ⟨k,rfl⟩:∃ k:Nat,a=k:=⟨a.toNat,by omega⟩
  show QaN M (vecN x.orders.length fun i=>((f i:Nat):Int)) i=_
  unfold QaN
  have hlt:=hf.lt k
  have hhas:QbV ((f k:Nat):Int) (k:Int)=some ((f k).testBit k):=by
   have:=(Qvx hlt).Has (i:=(k:Int)) (by omega) (by omega)
   rw [this,← Qr5 hlt]
  rw [Qbz hh,Qny q0 q1,Qaj,Int.toNat_natCast,hhas,Qaj,incL hh (by omega),brs]) (by
  show QaN M (vecN x.orders.length fun i=>((f i:Nat):Int)) M.length=_
  unfold QaN
  rw [Qa4]))]
 split
 ·exact bad (by decide)
 rename_i hcy
 refine Qaw.2 fun _=>⟨fun i hi=>?_,fun p hp hh=>hap ?_,fun p hp h1=>?_,f,hf.lt,fun p hp=>?_,fun i hi=>?_⟩
 ·have:=List.any_eq_false.1 (by simpa using hoff:(M.any fun i=>offN x i.toNat)=false) _ (hin hi)
  simpa using this
 ·obtain ⟨p0,p1,p2,p3,p4⟩:=hx.aparts p hp
  refine List.any_eq_true.2 ⟨p,hp,?_⟩
  unfold Qmp
  rw [hHas p0 p1,hHas p2 p3,hh.1,hh.2]; rfl
 ·obtain ⟨p0,p1,p2,p3,p4⟩:=hx.befores p hp
  have:=List.any_eq_false.1 (by simpa using hbe:(x.before.any fun a=>hasO (lmV m) a.x1&&!hasO (lmV m) a.x0)=false) p hp
  rw [hHas p2 p3,hHas p0 p1,h1] at this
  simpa using this
 ·obtain ⟨p0,p1,p2,p3,p4⟩:=hx.befores p hp
  have hfx:=hcl p hp _ _ p0 p2 (Qny p0 p1) (Qny p2 p3)
  obtain ⟨a,ha⟩:∃ a:Nat,p.x0=a:=⟨p.x0.toNat,by omega⟩
  obtain ⟨b,hb⟩:∃ b:Nat,p.x1=b:=⟨p.x1.toNat,by omega⟩
  rw [ha,hb] at hfx ⊢
  simp only [Int.toNat_natCast] at hfx ⊢
  have hma:=hf.lt a
  have hmb:=hf.lt b
  have h2:2 ^ a≤2 ^ 9:=Nat.pow_le_pow_right (by omega) (by omega)
  have hor1:f b ||| f a<1024:=Nat.or_lt_two_pow (n:=10) hmb hma
  rw [shlN (by omega),orN (by omega) (by omega),orN (by omega) (by omega)] at hfx
  have e:f b ||| f a ||| 2 ^ a=f b:=by exact_mod_cast hfx
  constructor
  ·rw [← e,Nat.testBit_or,Nat.testBit_two_pow_self,Bool.or_true]
  ·intro j hj
   rw [← e,Nat.testBit_or,Nat.testBit_or,hj,Bool.or_true,Bool.true_or]
 ·have:=List.any_eq_false.1 (by simpa using hcy:(M.any fun i=>(f i.toNat).testBit i.toNat)=false) _ (hin hi)
  simpa using this
theorem AlwS.least (h:AlwS x m) (hx:QaV x) (done:Nat→Bool) (hd:∃ i,m.testBit i=true∧done i=false):∃ i,m.testBit i=true∧done i=false∧∀ p∈x.before,p.x1=(i:Int)→done p.x0.toNat=true:=by
 obtain ⟨f,hf,hf2,hf3⟩:=h.chain
 have key:∀ (n i:Nat),f i=n→m.testBit i=true→done i=false→∃ i,m.testBit i=true∧done i=false∧∀ p∈x.before,p.x1=(i:Int)→done p.x0.toNat=true:=by
  intro n
  induction n using Nat.strongRecOn with
  | ind n ih =>
   intro i hn hi hdi
   by_cases hall:∀ p∈x.before,p.x1=(i:Int)→done p.x0.toNat=true
   ·exact ⟨i,hi,hdi,hall⟩
   ·simp only [Classical.not_forall] at hall
    obtain ⟨p,hp,hpi,hnd⟩:=hall
    obtain ⟨g1,g2⟩:=hf2 p hp
    rw [hpi,Int.toNat_natCast] at g1 g2
    have hm0:m.testBit p.x0.toNat=true:=h.before p hp (by rw [hpi,Int.toNat_natCast]; exact hi)
    have hlt:f p.x0.toNat<f i:=by
     have hle:f p.x0.toNat≤f i:=by
      have e:f p.x0.toNat ||| f i=f i:=Nat.eq_of_testBit_eq fun j=>by
       rw [Nat.testBit_or]
       cases hj:(f p.x0.toNat).testBit j with
       | false=>rfl
       | true=>rw [g2 j hj]; rfl
      rw [← e]
      exact Nat.left_le_or
     refine Nat.lt_of_le_of_ne hle fun e=>?_
     have:=hf3 _ hm0
     rw [e] at this
     rw [g1] at this
     cases this
    exact ih _ (by omega) p.x0.toNat rfl hm0 (by simpa using hnd)
 obtain ⟨i,hi,hdi⟩:=hd
 exact key _ i rfl hi hdi
end
end Go.Proofs.YtfjiafgldchinaaGreatDoor
namespace Go.Proofs.YtfjiafgldchinaaGreatDoor
set_option linter.unusedSimpArgs false
set_option linter.unusedVariables false
set_option linter.unusedSectionVars false
inductive QlE (x:Qab) (m:Nat):List Qaa→Prop
 | nil:QlE x m []
 | snoc {l:List Qaa} {v:Qaa} (h:QlE x m l) (hv:v∈QkV x m l x.orders.length):QlE x m (l++[v])
section
variable {x : Qab} {l t : List Qaa} {m n : Nat} {v w : Qaa}
theorem QrF (hv:v∈QkV x m l x.orders.length):v∈visO x v.order∧v∈allV x m∧QjP x l v=true∧offN x v.order.toNat=false∧m.testBit v.order.toNat=true∧0≤v.order∧v.order<x.orders.length:=by
 obtain ⟨i,h1,h2,h3,h4,h5⟩:=Qnq.1 hv
 have ho:=QcG h4
 rw [ho,Int.toNat_natCast]
 exact ⟨h4,Qmk.2 ⟨i,h1,h2,h4⟩,h5,h3,h2,by omega,by omega⟩
theorem QlE.good (h:QlE x m l):QA1 x l:=by
 induction h with
 | nil=>exact ⟨by simp,fun v h=>by cases h⟩
 | snoc _ hv ih=>exact QB4 ih hv
theorem QlE.all (h:QlE x m l):∀ v∈l,v∈allV x m:=by
 induction h with
 | nil=>intro v h; cases h
 | snoc _ hv ih =>
  intro v h
  rcases List.mem_append.1 h with h|h
  ·exact ih v h
  ·rw [List.mem_singleton.1 h]; exact (QrF hv).2.1
theorem QlE.own (h:QlE x m l):∀ v∈l,v∈visO x v.order∧offN x v.order.toNat=false:=by
 induction h with
 | nil=>intro v h; cases h
 | snoc _ hv ih =>
  intro v h
  rcases List.mem_append.1 h with h|h
  ·exact ih v h
  ·rw [List.mem_singleton.1 h]; exact ⟨(QrF hv).1,(QrF hv).2.2.2.1⟩
theorem Qgv (h:QjP x l v=true):v ∉ l∧(∀ w∈QpJ v (visO x v.order),w∈l)∧Qnt x l v.order=true:=by
 refine ⟨QqQ h,?_⟩
 unfold QjP at h
 simp only [Bool.and_eq_true] at h
 exact ⟨fun w hw=>Qrg.1 (List.all_eq_true.1 h.2.1 w hw),h.2.2⟩
theorem QuQ (h1:v ∉ l) (h2:∀ w∈QpJ v (visO x v.order),w∈l) (h3:Qnt x l v.order=true):QjP x l v=true:=by
 unfold QjP
 simp only [Bool.and_eq_true]
 refine ⟨QD5.2 h1,List.all_eq_true.2 fun w hw=>Qrg.2 (h2 w hw),h3⟩
theorem Qtp {o:Int}:Qnt x l o=true↔∀ p∈x.before,p.x1=o→∀ w∈visO x p.x0,w∈l:=by
 unfold Qnt
 rw [List.all_eq_true]
 constructor
 ·intro h p hp ho w hw
  have:=h p hp
  rw [Bool.or_eq_true] at this
  rcases this with h'|h'
  ·simp [ho] at h'
  ·exact Qrg.1 (List.all_eq_true.1 h' w hw)
 ·intro h p hp
  rw [Bool.or_eq_true]
  by_cases ho:p.x1=o
  ·exact .inr (List.all_eq_true.2 fun w hw=>Qrg.2 (h p hp ho w hw))
  ·exact .inl (by simpa using ho)
theorem QlE.split (h:QlE x m l) {p:Qau} (hp:p∈x.before) (hb:hasO l p.x1=true):∃ s t,l=s++t∧hasO s p.x1=false∧t≠[]∧(∀ v,t[0]?=some v→v.order=p.x1)∧∀ w∈visO x p.x0,w∈s:=by
 induction h with
 | nil=>cases hb
 | @snoc l v h hv ih =>
  cases hl:hasO l p.x1 with
  | true =>
   obtain ⟨s,t,rfl,h1,h2,h3,h4⟩:=ih hl
   refine ⟨s,t++[v],by rw [List.append_assoc],h1,by simp,fun w hw=>h3 w ?_,h4⟩
   cases t with
   | nil=>exact absurd rfl h2
   | cons a r=>simpa using hw
  | false =>
   have hvo:v.order=p.x1:=by
    obtain ⟨w,hw,ho⟩:=Qhy.1 hb
    rcases List.mem_append.1 hw with hw|hw
    ·have:hasO l p.x1=true:=Qhy.2 ⟨w,hw,ho⟩
     rw [hl] at this; cases this
    ·rw [List.mem_singleton.1 hw] at ho; exact ho
   refine ⟨l,[v],rfl,hl,by simp,fun w hw=>by simp at hw; rw [← hw]; exact hvo,?_⟩
   exact Qtp.1 (Qgv (QrF hv).2.2.1).2.2 p hp hvo.symm
theorem QCM {α:Type} {p:α→Bool}:∀ {s t:List α},(∀ a∈s,p a=false)→ixP p (s++t)=(ixP p t).map (·+s.length)
 | [],t,_=>by cases h:ixP p t <;> simp [h]
 | a :: s,t,h=>by
  rw [List.cons_append,ixP,if_neg (by rw [h a (List.mem_cons_self ..)]; decide),QCM fun b hb=>h b (List.mem_cons_of_mem _ hb)]
  cases ixP p t <;> simp; omega
theorem Qwi {α:Type} {p:α→Bool}:∀ {s t:List α},(∃ a∈s,p a=true)→ixI p (s++t)=ixI p s:=by
 intro s t h
 unfold ixI
 have key:∀ s:List α,(∃ a∈s,p a=true)→ixP p (s++t)=ixP p s:=by
  intro s
  induction s with
  | nil=>rintro ⟨a,ha,_⟩; cases ha
  | cons b r ih =>
   rintro ⟨a,ha,hpa⟩
   rw [List.cons_append,ixP,ixP]
   by_cases hb:p b=true
   ·rw [if_pos hb,if_pos hb]
   ·rw [if_neg hb,if_neg hb]
    rcases List.mem_cons.1 ha with rfl|ha
    ·exact absurd hpa hb
    ·rw [ih ⟨a,ha,hpa⟩]
 rw [key s h]
theorem QlE.row (h:QlE x m l) {o:Int} {a b:Qaa} {r:List Qaa} (hv:visO x o=a :: b :: r) (hb:b∈l):a∈l∧ixI (isV a) l<ixI (isV b) l:=by
 obtain ⟨rfl,hne⟩:=Qpc hv
 induction h with
 | nil=>cases hb
 | @snoc l v h hn ih =>
  have hnd:=(QlE.snoc h hn).good.nodup
  by_cases hbl:b∈l
  ·obtain ⟨h1,h2⟩:=ih hbl
   refine ⟨List.mem_append_left _ h1,?_⟩
   rw [Qwi ⟨a,h1,Qxl.2 rfl⟩,Qwi ⟨b,hbl,Qxl.2 rfl⟩]
   exact h2
  ·have hbv:b=v:=by
    rcases List.mem_append.1 hb with hb|hb
    ·exact absurd hb hbl
    ·exact List.mem_singleton.1 hb
   subst hbv
   have hbo:b.order=o:=QcG (show b∈visO x o by rw [hv]; simp)
   have hal:a∈l:=(Qgv (QrF hn).2.2.1).2.1 a (by rw [hbo,hv,QpJ,if_neg hne,QpJ,if_pos rfl]; simp)
   refine ⟨List.mem_append_left _ hal,?_⟩
   rw [Qwi ⟨a,hal,Qxl.2 rfl⟩,QFf hnd]
   exact QDI.2
theorem QlE.seq (h : QlE x m l) (hx : QaV x) (hm : m < 2 ^ x.orders.length) (h0 : m ≠ 0) (hall : ∀ v ∈ allV x m, v ∈ l) (hap : ∀ p ∈ x.apart, ¬ (m.testBit p.x0.toNat = true ∧ m.testBit p.x1.toNat = true)) : Qnf x l ∧ ordS l m := by
  have hg := h.good
  have hlen : l.length = (allV x m).length := Nat.le_antisymm (QtH hg.nodup h.all) (QtH QsQ hall)
  have hord : ordS l m := QDz hx hm hg h.all hlen
  have hall2 : ∀ {o : Int} {w : Qaa}, hasO l o = true → w ∈ visO x o → w ∈ l := fun {o w} ho hw => by
    obtain ⟨v, hv, rfl⟩ := Qhy.1 ho
    obtain ⟨i, h1, h2, h3⟩ := Qmk.1 (h.all v hv)
    have := QcG h3
    rw [this] at hw
    exact hall w (Qmk.2 ⟨i, h1, h2, hw⟩)
  refine ⟨⟨?_, ?_, ?_, hg.nodup, fun v hv => ?_, ?_, ?_⟩, hord⟩
  · intro he
    refine h0 (Nat.eq_of_testBit_eq fun i => ?_)
    rw [hord, Nat.zero_testBit, List.eq_nil_of_length_eq_zero he]
    rfl
  · rw [List.any_eq_false]
    intro v hv
    have := hg.inn v hv
    simp [inO]
    omega
  · rw [List.any_eq_false]
    intro v hv
    have := (h.own v hv).2
    unfold offN at this
    unfold offV
    cases hq : x.orders[v.order.toNat]? with
    | none => simp
    | some q => rw [hq] at this; simp only at this ⊢; rw [this]; simp
  · unfold Qwy
    rw [Bool.and_eq_true]
    refine ⟨Qrg.2 (h.own v hv).1, ?_⟩
    have ho : hasO l v.order = true := Qhy.2 ⟨v, hv, rfl⟩
    cases hvis : visO x v.order with
    | nil => rfl
    | cons a r =>
      have ha : a ∈ l := hall2 ho (by rw [hvis]; simp)
      cases r with
      | nil => simp only [rowB, Qqs]; exact Qwj.2 ha
      | cons b r =>
        have hb : b ∈ l := hall2 ho (by rw [hvis]; simp)
        simp only [rowB, Qqs, Bool.and_eq_true, Qoi]
        exact ⟨Qwj.2 ha, (h.row hvis hb).2⟩
  · rw [List.any_eq_false]
    intro p hp hh
    unfold Qmp at hh
    rw [Bool.and_eq_true] at hh
    obtain ⟨p0, p1, p2, p3, p4⟩ := hx.aparts p hp
    refine hap p hp ⟨?_, ?_⟩
    · rw [hord, Int.toNat_of_nonneg p0]; exact hh.1
    · rw [hord, Int.toNat_of_nonneg p2]; exact hh.2
  · rw [List.any_eq_false]
    intro p hp hh
    unfold badB at hh
    rw [Bool.and_eq_true] at hh
    obtain ⟨hb, hh⟩ := hh
    obtain ⟨p0, p1, p2, p3, p4⟩ := hx.befores p hp
    obtain ⟨s, t, rfl, s1, s2, s3, s4⟩ := h.split hp hb
    obtain ⟨a, ha⟩ : ∃ a : Nat, p.x0 = a := ⟨p.x0.toNat, by omega⟩
    obtain ⟨w, hw⟩ := QvX hx (i := a) (by omega)
    rw [← ha] at hw
    have hws := s4 w hw
    have h1 : hasO (s ++ t) p.x0 = true := Qhy.2 ⟨w, List.mem_append_left _ hws, QcG hw⟩
    rw [h1, Bool.not_true, Bool.false_or] at hh
    unfold QA8 at hh
    have e : ixP (isO p.x1) (s ++ t) = some s.length := by
      rw [QCM fun b hbs => by
        cases hc : isO p.x1 b with
        | false => rfl
        | true => have : hasO s p.x1 = true := Qhy.2 ⟨b, hbs, Qwh.1 hc⟩
                  rw [s1] at this; cases this]
      cases t with
      | nil => exact absurd rfl s2
      | cons c r => rw [ixP, if_pos (Qwh.2 (s3 c rfl))]; simp
    rw [e] at hh
    simp only [List.drop_left] at hh
    obtain ⟨u, hu, huo⟩ := Qhy.1 hh
    have hown := (h.own u (List.mem_append_right _ hu)).1
    rw [huo] at hown
    exact (List.nodup_append.1 hg.nodup).2.2 u (s4 u hown) u hu rfl
theorem QBB {o:Int} (hn:∃ w∈visO x o,w ∉ l):∃ v∈visO x o,v ∉ l∧∀ w∈QpJ v (visO x o),w∈l:=by
 cases hv:visO x o with
 | nil=>rw [hv] at hn; obtain ⟨w,hw,_⟩:=hn; cases hw
 | cons a r =>
  rw [hv] at hn
  by_cases ha:a∈l
  ·cases r with
   | nil =>
    obtain ⟨w,hw,hnw⟩:=hn
    rw [List.mem_singleton.1 hw] at hnw
    exact absurd ha hnw
   | cons b r =>
    obtain ⟨rfl,hne⟩:=Qpc hv
    refine ⟨b,by simp,fun hb=>?_,fun w hw=>?_⟩
    ·obtain ⟨w,hw,hnw⟩:=hn
     rcases List.mem_cons.1 hw with rfl|hw
     ·exact hnw ha
     ·rw [List.mem_singleton.1 hw] at hnw; exact hnw hb
    ·rw [QpJ,if_neg hne,QpJ,if_pos rfl] at hw
     rw [List.mem_singleton.1 hw]; exact ha
  ·exact ⟨a,by simp,ha,fun w hw=>by rw [QpJ,if_pos rfl] at hw; cases hw⟩
theorem AlwS.ready (h:AlwS x m) (hx:QaV x) (hm:m<2 ^ x.orders.length) (hn:∃ v∈allV x m,v ∉ l):∃ i,i<x.orders.length∧m.testBit i=true∧(∃ w∈visO x (i:Int),w ∉ l)∧Qnt x l (i:Int)=true:=by
 obtain ⟨v,hv,hvl⟩:=hn
 obtain ⟨i,i1,i2,i3⟩:=Qmk.1 hv
 obtain ⟨j,j1,j2,j3⟩:=h.least hx (fun i=>(visO x (i:Int)).all fun w=>l.any (isV w)) ⟨i,i2,by
  rw [List.all_eq_false]
  exact ⟨v,i3,by rw [Qrg]; exact hvl⟩⟩
 have hj:j<x.orders.length:=Nat.lt_of_not_le fun hge=>by
  have:m.testBit j=false:=Nat.testBit_lt_two_pow (Nat.lt_of_lt_of_le hm (Nat.pow_le_pow_right (by omega) hge))
  rw [this] at j1; cases j1
 refine ⟨j,hj,j1,?_,Qtp.2 fun p hp ho w hw=>?_⟩
 ·obtain ⟨w,hw,hwn⟩:=List.all_eq_false.1 j2
  exact ⟨w,hw,fun hh=>hwn (Qrg.2 hh)⟩
 ·obtain ⟨p0,p1,p2,p3,p4⟩:=hx.befores p hp
  have:=j3 p hp ho
  rw [Int.toNat_of_nonneg p0] at this
  exact Qrg.1 (List.all_eq_true.1 this w hw)
theorem AlwS.next_ne (h:AlwS x m) (hx:QaV x) (hm:m<2 ^ x.orders.length) (hn:∃ v∈allV x m,v ∉ l):QkV x m l x.orders.length≠[]:=by
 obtain ⟨i,hi,hb,hw,hr⟩:=h.ready hx hm hn
 obtain ⟨v,v1,v2,v3⟩:=QBB hw
 have ho:=QcG v1
 intro he
 have:v∈QkV x m l x.orders.length:=Qnq.2 ⟨i,hi,hb,h.off i hb,v1,QuQ v2 (by rw [ho]; exact v3) (by rw [ho]; exact hr)⟩
 rw [he] at this; cases this
theorem QxH (hf:∀ v∈allV x m,v∈l):QkV x m l x.orders.length=[]:=by
 refine List.eq_nil_iff_forall_not_mem.2 fun v hv=>?_
 have h:=QrF hv
 exact QqQ h.2.2.1 (hf v h.2.1)
end
end Go.Proofs.YtfjiafgldchinaaGreatDoor
namespace Go.Proofs.YtfjiafgldchinaaGreatDoor
set_option linter.unusedSimpArgs false
set_option linter.unusedVariables false
set_option linter.unusedSectionVars false
section
variable {x : Qab} {l t : List Qaa} {m n : Nat} {v w : Qaa}
theorem QtA (hx:QaV x) (hm:m<2 ^ x.orders.length):m<1024:=Nat.lt_of_lt_of_le hm (Nat.le_trans (Nat.pow_le_pow_right (n:=2) (by omega) hx.orders) (by decide))
theorem QvO (hm:m<2 ^ x.orders.length) {k:Nat} (hk:m.testBit k=true):k<x.orders.length:=Nat.lt_of_not_le fun hge=>by
 have:m.testBit k=false:=Nat.testBit_lt_two_pow (Nat.lt_of_lt_of_le hm (Nat.pow_le_pow_right (by omega) hge))
 rw [this] at hk; cases hk
theorem Qqq (hx:QaV x) (hm:m<2 ^ x.orders.length):post (Qff x (m:Int)) fun b=>(b=false→AlwS x m)∧∀ l,Qnf x l→ordS l m→b=false:=by
 have h10:=hx.orders
 have hm2:=QtA hx hm
 unfold Qff
 rw [QbW (Qty (n:=x.orders.length) (B:=fun s=>QbD x (m:Int) s) (by omega) (fun i=>m.testBit i&&offN x i) (y:=(.inr true:Unit⊕Bool)) (N:=.inl ()) (b:=(List.range x.orders.length).any fun i=>m.testBit i&&offN x i) (by
   rw [List.any_eq_true]
   exact ⟨fun ⟨k,h1,h2⟩=>⟨k,List.mem_range.1 h1,h2⟩,fun ⟨k,h1,h2⟩=>⟨k,List.mem_range.2 h1,h2⟩⟩) (fun i hi=>by
   obtain ⟨o,ho⟩:∃ o,x.orders[i]?=some o:=⟨_,List.getElem?_eq_getElem hi⟩
   show QbD x (m:Int) (i:Int)=_
   unfold QbD
   rw [Qbj (by simp [lenI]; omega),QaR ho,Qaj,QcL (by omega),bitA (by omega) (by omega),addI (by omega) (by omega),brs]
   unfold offN
   rw [ho]) (by
   show QbD x (m:Int) (x.orders.length:Int)=_
   unfold QbD
   rw [QaW (by simp [lenI])]))]
 by_cases hoff:((List.range x.orders.length).any fun i=>m.testBit i&&offN x i)=true
 ·rw [if_pos hoff,Qm6]
  refine Qaw.2 ⟨fun h=>(by cases h),fun l hq ho=>?_⟩
  exfalso
  obtain ⟨i,hi,hb⟩:=List.any_eq_true.1 hoff
  rw [Bool.and_eq_true] at hb
  rw [ho] at hb
  obtain ⟨v,hv,hvo⟩:=Qhy.1 hb.1
  have:=List.any_eq_false.1 hq.off v hv
  have hi:=List.mem_range.1 hi
  unfold offV at this
  have hb2:=hb.2
  unfold offN at hb2
  rw [hvo,Int.toNat_natCast] at this
  rw [List.getElem?_eq_getElem hi] at this hb2
  exact this hb2
 ·rw [if_neg hoff,Qdm]
  obtain ⟨e,he,h1⟩:=Qye hx hm
  obtain ⟨e',he',h2⟩:=Qv0 hx hm
  rw [he] at he'
  cases he'
  rw [he,Qaj]
  exact Qaw.2 ⟨fun h=>h1 (by simpa using h),fun l hq ho=>by simpa using h2 l hq ho⟩
def QEw (x:Qab) (l:List Qaa):Prop:=∀ i:Nat,i<x.orders.length→(∀ v∈visO x (i:Int),v∈l)∨∀ v∈visO x (i:Int),v ∉ l
theorem Qy8 {r:List Qaa}:(!r.any (fun a=>ltI (ixI (isV a) l) 0))=r.all (fun w=>l.any (isV w)):=Qy7
theorem QAY (h:QlE x m l) (hx:QaV x) {i:Nat} (hi:i<x.orders.length) (hb:m.testBit i=true) (ho:offN x i=false) (hno:∀ v∈visO x (i:Int),v ∉ l) (hr:Qnt x l (i:Int)=true):QlE x m (l++visO x (i:Int)):=by
 cases hv:visO x (i:Int) with
 | nil=>rw [List.append_nil]; exact h
 | cons a r =>
  have ha:a∈visO x (i:Int):=by rw [hv]; simp
  have hao:=QcG ha
  have h1:QlE x m (l++[a]):=h.snoc (Qnq.2 ⟨i,hi,hb,ho,ha,QuQ (hno a ha) (by rw [hao,hv,QpJ,if_pos rfl]; intro w hw; cases hw) (by rw [hao]; exact hr)⟩)
  cases r with
  | nil=>exact h1
  | cons b r =>
   obtain ⟨rfl,hne⟩:=Qpc hv
   have hbm:b∈visO x (i:Int):=by rw [hv]; simp
   have hbo:=QcG hbm
   have:=h1.snoc (v:=b) (Qnq.2 ⟨i,hi,hb,ho,hbm,QuQ (by
    intro hh
    rcases List.mem_append.1 hh with hh|hh
    ·exact hno b hbm hh
    ·exact hne (List.mem_singleton.1 hh).symm) (by
    rw [hbo,hv,QpJ,if_neg hne,QpJ,if_pos rfl]
    intro w hw
    rw [List.mem_singleton.1 hw]; simp) (by
    rw [hbo,Qtp]
    intro p hp hpo w hw
    exact List.mem_append_left _ (Qtp.1 hr p hp hpo w hw))⟩)
   rwa [List.append_assoc] at this
theorem QBf (h:QEw x l) {i:Nat}:QEw x (l++visO x (i:Int)):=fun j hj=>by
 by_cases hji:j=i
 ·subst hji
  exact .inl fun v hv=>List.mem_append_right _ hv
 ·rcases h j hj with h|h
  ·exact .inl fun v hv=>List.mem_append_left _ (h v hv)
  ·refine .inr fun v hv hh=>?_
   rcases List.mem_append.1 hh with hh|hh
   ·exact h v hv hh
   ·have h1:=QcG hv
    have h2:=QcG hh
    omega
theorem QlE.len (h:QlE x m l) (hx:QaV x):l.length≤20:=by
 have:=h.good.len
 have:=hx.orders
 omega
theorem Qv2 {o:Int}:((visO x o).all fun w=>l.any (isV w))=true↔∀ w∈visO x o,w∈l:=by
 rw [List.all_eq_true]
 exact ⟨fun h w hw=>Qrg.1 (h w hw),fun h w hw=>Qrg.2 (h w hw)⟩
theorem QBg (hx:QaV x) (hm:m<1024):QcD x (m:Int)=some (!x.apart.any (Qmp (lmV m))):=Qvc hx (Qvx hm)
theorem QvH (hx:QaV x) (hm:m<2 ^ x.orders.length) (h0:m≠0):post (QhT x (m:Int)) fun b=>(b=true→∃ l,Qnf x l∧ordS l m)∧(AlwS x m→b=true):=by
 have h10:=hx.orders
 have hm2:=QtA hx hm
 have hHas:∀ {i:Int},0≤i→i<x.orders.length→hasO (lmV m) i=m.testBit i.toNat:=fun {i} h0 h1=>by rw [Qr5 hm2,Int.toNat_of_nonneg h0]
 unfold QhT
 rw [QaW (by simp; omega),QBg hx hm2,Qaj]
 cases hap:x.apart.any (Qmp (lmV m)) with
 | true =>
  refine Qaw.2 ⟨fun h=>(by cases h),fun hA=>?_⟩
  exfalso
  obtain ⟨p,hp,hh⟩:=List.any_eq_true.1 hap
  obtain ⟨p0,p1,p2,p3,p4⟩:=hx.aparts p hp
  unfold Qmp at hh
  rw [hHas p0 p1,hHas p2 p3,Bool.and_eq_true] at hh
  exact hA.apart p hp hh
 | false =>
  have hap':∀ p∈x.apart,¬ (m.testBit p.x0.toNat=true∧m.testBit p.x1.toNat=true):=fun p hp hh=>by
   obtain ⟨p0,p1,p2,p3,p4⟩:=hx.aparts p hp
   have:=List.any_eq_false.1 hap p hp
   unfold Qmp at this
   rw [hHas p0 p1,hHas p2 p3,hh.1,hh.2] at this
   exact this rfl
  show post (bnd (QaK (fun s=>QeF x (m:Int) s.1 s.2) ([],true)) _) _
  refine QaP (R:=fun l=>QlE x m l∧∀ j,j<x.orders.length→m.testBit j=true→offN x j=false→(∀ w∈visO x (j:Int),w∈l)∨Qnt x l (j:Int)=false) ?_ ?_
  ·refine Qct (fun s:List Qaa×Bool=>QlE x m s.1∧QEw x s.1∧(s.2=false→∀ j,j<x.orders.length→m.testBit j=true→offN x j=false→(∀ w∈visO x (j:Int),w∈s.1)∨Qnt x s.1 (j:Int)=false)) (fun s=>2*(20-s.1.length)+if s.2=true then 1 else 0) ⟨.nil,fun i _=>.inr fun v _ h=>by (cases h),fun h=>by cases h⟩ (by simp) ?_
   rintro ⟨l,again⟩ ⟨hW,hA,hex⟩
   have hl:l.length≤20:=hW.len hx
   show post (QeF x (m:Int) l again) _
   unfold QeF
   refine QaE (fun hag=>?_) (fun hag=>Qcg ⟨hW,hex hag⟩)
   refine QaP (R:=fun e:List Qaa×Bool=>QlE x m e.1∧QEw x e.1∧(e.2=false→e.1=l∧∀ j,j<x.orders.length→m.testBit j=true→offN x j=false→(∀ w∈visO x (j:Int),w∈l)∨Qnt x l (j:Int)=false)∧(e.2=true→l.length<e.1.length)) ?_ ?_
   ·refine Qct (fun s:List Qaa×Bool×Int=>∃ k:Nat,s.2.2=(k:Int)∧k≤x.orders.length∧QlE x m s.1∧QEw x s.1∧(s.2.1=false→s.1=l∧∀ j,j<k→m.testBit j=true→offN x j=false→(∀ w∈visO x (j:Int),w∈l)∨Qnt x l (j:Int)=false)∧(s.2.1=true→l.length<s.1.length)) (fun s=>x.orders.length-s.2.2.toNat) ⟨0,rfl,Nat.zero_le _,hW,hA,fun _=>⟨rfl,fun j hj=>by omega⟩,fun h=>by cases h⟩ (by simp; omega) ?_
    rintro ⟨l1,ag,_⟩ ⟨k,rfl,hk,hW1,hA1,hf,ht⟩
    have hl1:l1.length≤20:=hW1.len hx
    show post (Qgp x (m:Int) l l1 ag (k:Int)) _
    unfold Qgp
    refine QaE (fun hlt=>?_) (fun hge=>?_)
    ·simp only [Qoi,lenI] at hlt
     have hk':k<x.orders.length:=by omega
     obtain ⟨o,ho⟩:∃ o,x.orders[k]?=some o:=⟨_,List.getElem?_eq_getElem hk'⟩
     have hoff:offN x k=o.off:=by unfold offN; rw [ho]
     have ek:addK .i64 (k:Int) 1=((k+1:Nat):Int):=(addI (by omega) (by omega)).trans (by omega)
     have stay:∀ {Q:List Qaa×Bool→Prop},(m.testBit k=true→offN x k=false→(∀ w∈visO x (k:Int),w∈l1)∨Qnt x l1 (k:Int)=false)→post (some (Sum.inl (l1,ag,((k+1:Nat):Int))):Option ((List Qaa×Bool×Int)⊕(List Qaa×Bool))) fun y=>(∀ s',y=.inl s'→(∃ k:Nat,s'.2.2=(k:Int)∧k≤x.orders.length∧QlE x m s'.1∧QEw x s'.1∧(s'.2.1=false→s'.1=l∧∀ j,j<k→m.testBit j=true→offN x j=false→(∀ w∈visO x (j:Int),w∈l)∨Qnt x l (j:Int)=false)∧(s'.2.1=true→l.length<s'.1.length))∧x.orders.length-s'.2.2.toNat<x.orders.length-(k:Int).toNat)∧∀ e,y=.inr e→Q e:=fun {Q} hst=>Qc4 ⟨⟨k+1,rfl,hk',hW1,hA1,fun h=>by
      obtain ⟨rfl,h2⟩:=hf h
      refine ⟨rfl,fun j hj hb hoj=>?_⟩
      rcases Nat.lt_or_ge j k with hjk|hjk
      ·exact h2 j hjk hb hoj
      ·obtain rfl:j=k:=by omega
       exact hst hb hoj,ht⟩,by show x.orders.length-((k+1:Nat):Int).toNat<x.orders.length-(k:Int).toNat; omega⟩
     rw [ek,Qrn (by omega) (by omega) (by omega),Qaj,Int.toNat_natCast]
     cases hb:m.testBit k with
     | false=>rw [Qca]; exact stay fun h=>by rw [hb] at h; cases h
     | true =>
      rw [QcK,QaR ho,Qaj,← hoff]
      cases hof:offN x k with
      | true=>rw [QcK]; exact stay fun _ h=>by rw [hof] at h; cases h
      | false =>
       rw [Qca,Qmo hx (by omega) (by omega),Qaj,QlI (by omega) QiO,Qaj,Qy8]
       cases hc:(visO x (k:Int)).all (fun w=>l1.any (isV w)) with
       | true=>rw [QcK]; exact stay fun _ _=>.inl (Qv2.1 hc)
       | false =>
        rw [Qca,QvJ hx (by omega),Qaj]
        cases hr:Qnt x l1 (k:Int) with
        | false=>rw [Qca]; exact stay fun _ _=>.inr hr
        | true =>
         have hno:∀ v∈visO x (k:Int),v ∉ l1:=by
          rcases hA1 k hk' with h|h
          ·rw [Qv2.2 h] at hc; cases hc
          ·exact h
         have hW2:=QAY hW1 hx hk' hb hof hno hr
         obtain ⟨w,hw⟩:=QvX hx hk'
         have hpos:=List.length_pos_of_mem hw
         have h2:=QiO (x:=x) (o:=(k:Int))
         rw [QcK,Qaj,QcL (Qek (by rw [List.length_append]; omega))]
         refine Qc4 ⟨⟨k+1,rfl,hk',hW2,QBf hA1,fun h=>(by cases h),fun _=>?_⟩,by show x.orders.length-((k+1:Nat):Int).toNat<x.orders.length-(k:Int).toNat; omega⟩
         show l.length<(l1++visO x (k:Int)).length
         rw [List.length_append]
         cases ag with
         | false=>have h1:l1=l:=(hf rfl).1; rw [h1]; omega
         | true=>have h1:l.length<l1.length:=ht rfl; omega
    ·simp only [QoX,lenI] at hge
     have hkn:k=x.orders.length:=by omega
     subst hkn
     exact Qcg ⟨hW1,hA1,hf,ht⟩
   ·rintro ⟨l1,ag⟩ ⟨hW1,hA1,hf,ht⟩
    have hl1:l1.length≤20:=hW1.len hx
    refine Qc4 ⟨⟨hW1,hA1,fun h=>by
     obtain ⟨h1,h2⟩:=hf h
     have h1:l1=l:=h1
     subst h1
     exact h2⟩,?_⟩
    show 2*(20-l1.length)+(if ag=true then 1 else 0)<2*(20-l.length)+if again=true then 1 else 0
    rw [if_pos hag]
    cases ag with
    | false =>
     have h1:l1=l:=(hf rfl).1
     rw [h1]; simp
    | true =>
     have h1:l.length<l1.length:=ht rfl
     rw [if_pos rfl]
     omega
  ·rintro l ⟨hW,hex⟩
   have hl:=hW.len hx
   rw [QbW (Qty (n:=x.orders.length) (B:=fun s=>QcR x (m:Int) l s) (by omega) (fun i=>m.testBit i&&(offN x i||!((visO x (i:Int)).all fun w=>l.any (isV w)))) (y:=(.inr false:Unit⊕Bool)) (N:=.inl ()) (b:=(List.range x.orders.length).any fun i=>m.testBit i&&(offN x i||!((visO x (i:Int)).all fun w=>l.any (isV w)))) (by
    rw [List.any_eq_true]
    exact ⟨fun ⟨k,h1,h2⟩=>⟨k,List.mem_range.1 h1,h2⟩,fun ⟨k,h1,h2⟩=>⟨k,List.mem_range.2 h1,h2⟩⟩) (fun i hi=>by
    obtain ⟨o,ho⟩:∃ o,x.orders[i]?=some o:=⟨_,List.getElem?_eq_getElem hi⟩
    have hoff:offN x i=o.off:=by unfold offN; rw [ho]
    show QcR x (m:Int) l (i:Int)=_
    unfold QcR
    rw [Qbj (by simp [lenI]; omega),Qrn (by omega) (by omega) (by omega),Qaj,Int.toNat_natCast,addI (by omega) (by omega),QaR ho,Qaj,← hoff,Qmo hx (by omega) (by omega),Qaj,QlI (by omega) QiO,Qaj,Qy8]
    cases m.testBit i <;> cases offN x i <;> cases ((visO x (i:Int)).all fun w=>l.any (isV w)) <;> rfl) (by
    show QcR x (m:Int) l (x.orders.length:Int)=_
    unfold QcR
    rw [QaW (by simp [lenI])]))]
   by_cases hany:((List.range x.orders.length).any fun i=>m.testBit i&&(offN x i||!((visO x (i:Int)).all fun w=>l.any (isV w))))=true
   ·rw [if_pos hany,Qm6]
    refine Qaw.2 ⟨fun h=>(by cases h),fun hA=>?_⟩
    exfalso
    obtain ⟨i,hi,hh⟩:=List.any_eq_true.1 hany
    have hi:=List.mem_range.1 hi
    rw [Bool.and_eq_true] at hh
    obtain ⟨hb,hh⟩:=hh
    rw [hA.off i hb,Bool.false_or,Bool.not_eq_true'] at hh
    obtain ⟨w,hw,hwn⟩:=List.all_eq_false.1 hh
    obtain ⟨j,hj,hjb,⟨u,hu,hun⟩,hr⟩:=hA.ready hx hm ⟨w,Qmk.2 ⟨i,hi,hb,hw⟩,fun hm=>hwn (Qrg.2 hm)⟩
    rcases hex j hj hjb (hA.off j hjb) with h|h
    ·exact hun (h u hu)
    ·rw [hr] at h; cases h
   ·rw [if_neg hany,Qdm]
    refine Qaw.2 ⟨fun _=>⟨l,hW.seq hx hm h0 (fun v hv=>?_) hap'⟩,fun _=>rfl⟩
    obtain ⟨i,hi,hb,hvo⟩:=Qmk.1 hv
    have:=List.any_eq_false.1 (by simpa using hany:((List.range x.orders.length).any fun i=>m.testBit i&&(offN x i||!((visO x (i:Int)).all fun w=>l.any (isV w))))=false) i (List.mem_range.2 hi)
    rw [hb,Bool.true_and] at this
    simp only [Bool.or_eq_true,Bool.not_eq_true',not_or,Bool.not_eq_false] at this
    exact Qv2.1 this.2 v hvo
end
end Go.Proofs.YtfjiafgldchinaaGreatDoor
namespace Go.Proofs.YtfjiafgldchinaaGreatDoor
set_option linter.unusedSimpArgs false
set_option linter.unusedVariables false
set_option linter.unusedSectionVars false
def Qdd (x:Qab) (m:Nat):Nat→List Qaa→List (List Qaa)
 | 0,l=>[l]
 | k+1,l=>(QkV x m l x.orders.length).flatMap fun v=>Qdd x m k (l++[v])
def cntB (m:Nat):Nat→Nat
 | 0=>0
 | n+1=>cntB m n+if m.testBit n=true then 1 else 0
section
variable {x : Qab} {l t : List Qaa} {m n k : Nat} {v w : Qaa}
theorem QCc {o:Int}:((visO x o).filter (QjP x l)).length≤1:=by
 cases hv:visO x o with
 | nil=>simp
 | cons a r =>
  have hao:a.order=o:=QcG (by rw [hv]; simp)
  cases r with
  | nil=>exact Nat.le_trans (List.length_filter_le ..) (by simp)
  | cons b r =>
   obtain ⟨rfl,hne⟩:=Qpc hv
   have hbo:b.order=o:=QcG (show b∈visO x o by rw [hv]; simp)
   by_cases ha:QjP x l a=true
   ·have hb:QjP x l b=false:=by
     cases hb:QjP x l b with
     | false=>rfl
     | true =>
      have h1:=(Qgv ha).1
      have h2:=(Qgv hb).2.1 a (by rw [hbo,hv,QpJ,if_neg hne,QpJ,if_pos rfl]; simp)
      exact absurd h2 h1
    simp [List.filter_cons,ha,hb]
   ·have ha:QjP x l a=false:=by simpa using ha
    rw [List.filter_cons,if_neg (by rw [ha]; decide)]
    exact Nat.le_trans (List.length_filter_le ..) (by simp)
theorem QxG:∀ n,(QkV x m l n).length≤cntB m n
 | 0=>Nat.le_refl _
 | n+1=>by
  have ih:=QxG n
  have h1:=QCc (x:=x) (l:=l) (o:=(n:Int))
  unfold QkV cntB
  rw [List.length_append]
  cases m.testBit n with
  | false=>simp; exact ih
  | true =>
   cases offN x n with
   | true=>simp; omega
   | false=>simp only [Bool.not_false,Bool.and_self,if_true]; omega
theorem QsH:∀ n,(QyF x m l n).length≤2*cntB m n
 | 0=>Nat.le_refl _
 | n+1=>by
  have ih:=QsH n
  have h2:=QiO (x:=x) (o:=(n:Int))
  have h3:((visO x (n:Int)).filter fun v=>!l.any (isV v)).length≤(visO x (n:Int)).length:=List.length_filter_le ..
  unfold QyF cntB
  rw [List.length_append]
  cases m.testBit n with
  | false=>simp; exact ih
  | true=>simp only [if_true]; omega
theorem Qvp {α β:Type} {f:α→List β} {c:Nat}:∀ (l:List α),(∀ a∈l,(f a).length≤c)→(l.flatMap f).length≤l.length*c
 | [],_=>by simp
 | a :: r,h=>by
  have h1:=h a (List.mem_cons_self ..)
  have h2:=Qvp (f:=f) (c:=c) r fun b hb=>h b (List.mem_cons_of_mem _ hb)
  rw [List.flatMap_cons,List.length_append,List.length_cons,Nat.succ_mul]
  omega
theorem Qta (hc:cntB m x.orders.length≤3):∀ (k:Nat) (l:List Qaa),(Qdd x m k l).length≤3 ^ k
 | 0,_=>Nat.le_refl _
 | k+1,l=>by
  unfold Qdd
  have h1:=Qvp (f:=fun v=>Qdd x m k (l++[v])) (c:=3 ^ k) (QkV x m l x.orders.length) fun v _=>Qta hc k _
  have h2:=QxG (x:=x) (m:=m) (l:=l) x.orders.length
  have h3:(QkV x m l x.orders.length).length*3 ^ k≤3*3 ^ k:=Nat.mul_le_mul_right _ (by omega)
  rw [Nat.pow_succ]
  omega
theorem QFo (hk:k≤6):3 ^ k≤729:=Nat.le_trans (Nat.pow_le_pow_right (by decide) hk) (by decide)
theorem Qre (hc:cntB m x.orders.length≤3):(allV x m).length≤6:=by
 have:=QsH (x:=x) (m:=m) (l:=[]) x.orders.length
 unfold allV
 omega
theorem Qud:∀ (k:Nat) (l:List Qaa),QlE x m l→∀ s∈Qdd x m k l,QlE x m s∧s.length=l.length+k
 | 0,l,h,s,hs=>by rw [List.mem_singleton.1 hs]; exact ⟨h,rfl⟩
 | k+1,l,h,s,hs=>by
  unfold Qdd at hs
  obtain ⟨v,hv,hs⟩:=List.mem_flatMap.1 hs
  obtain ⟨h1,h2⟩:=Qud k _ (h.snoc hv) s hs
  exact ⟨h1,by rw [h2]; simp; omega⟩
theorem QlE.out (h:QlE x m l) (hk:l.length+(k+1)=(allV x m).length):∃ v∈allV x m,v ∉ l:=Classical.byContradiction fun hn=>by
 have:(allV x m).length≤l.length:=QtH QsQ fun v hv=>Classical.byContradiction fun hh=>hn ⟨v,hv,hh⟩
 omega
theorem QlE.full (h:QlE x m l) (hk:l.length=(allV x m).length):∀ v∈allV x m,v∈l:=QC4 h.good.nodup h.all (by omega)
theorem QkP {α β:Type} {f:α→List β} {l:List α} {i:Nat} {a:α} (h:l[i]?=some a):(l.take (i+1)).flatMap f=(l.take i).flatMap f++f a:=by
 rw [List.take_add_one,h]; simp
theorem Qnw {α β:Type} {f:α→List β} {l:List α} (i:Nat):((l.take i).flatMap f).length≤(l.flatMap f).length:=by
 have:(l.flatMap f).length=((l.take i).flatMap f).length+((l.drop i).flatMap f).length:=by
  rw [← List.length_append,← List.flatMap_append,List.take_append_drop]
 omega
theorem QBr {l:List Qaa}:Qbv l=some l:=by
 unfold Qbv slcI lenI
 rw [if_pos (by omega)]
 simp
theorem QAX (hA:AlwS x m) (hx:QaV x) (hm:m<2 ^ x.orders.length):∀ (k fuel:Nat) (l:List Qaa) (out:List (List Qaa)),QlE x m l→l.length+k=(allV x m).length→k<fuel→out.length+(Qdd x m k l).length≤8192 →
  QcE fuel l ((allV x m).length:Int) out x (m:Int)=some (true,((allV x m).length:Int),out++Qdd x m k l,x,(m:Int))
 | k,0,_,_,_,_,h,_=>by omega
 | 0,fuel+1,l,out,hW,hk,_,hb=>by
  have hl:=hW.len hx
  show Qem (QcE fuel) l ((allV x m).length:Int) out x (m:Int)=_
  unfold Qem
  unfold Qdd at hb ⊢
  simp only [List.length_singleton] at hb
  rw [Qbj (by simp [lenI]; omega),QcL (Qek (by rw [List.length_append]; simp; omega)),show leI (lenI (out++[l])) 8192=true by simp [lenI]; omega]
 | k+1,fuel+1,l,out,hW,hk,hf,hb=>by
  have hl:=hW.len hx
  have h10:=hx.orders
  have hm2:=QtA hx hm
  show Qem (QcE fuel) l ((allV x m).length:Int) out x (m:Int)=_
  unfold Qem
  rw [QaW (by simp [lenI]; omega),QEK hx (by omega) hm2,Qaj]
  unfold Qdd at hb ⊢
  have hcnt:=Qnr (x:=x) (m:=m) (l:=l) x.orders.length
  have hmem:∀ v∈QkV x m l x.orders.length,QlE x m (l++[v]):=fun v hv=>hW.snoc hv
  generalize QkV x m l x.orders.length=N at *
  have:=Qep N.length (fun i=>(out++(N.take i).flatMap (fun v=>Qdd x m k (l++[v])),((allV x m).length:Int),x,(m:Int),(i:Int)))
   (B:=fun s:List (List Qaa)×Int×Qab×Int×Int=>Qck (QcE fuel) l ((allV x m).length:Int) N s.1 s.2.1 s.2.2.1 s.2.2.2.1 s.2.2.2.2)
   (e:=.inl (out++N.flatMap (fun v=>Qdd x m k (l++[v])),((allV x m).length:Int),x,(m:Int))) (by omega) (fun i hi=>by
    have e:N[i]?=some N[i]:=List.getElem?_eq_getElem hi
    have hW':=hmem _ (List.getElem_mem hi)
    have hle:=Qnw (f:=fun v=>Qdd x m k (l++[v])) (l:=N) (i+1)
    rw [QkP e,List.length_append] at hle
    show Qck (QcE fuel) l ((allV x m).length:Int) N (out++(N.take i).flatMap fun v=>Qdd x m k (l++[v])) ((allV x m).length:Int) x (m:Int) (i:Int)=_
    unfold Qck
    rw [Qbz e,QBr,Qaj,QcL (Qek (by rw [List.length_append]; simp; omega)),QAX hA hx hm k fuel (l++[N[i]]) _ hW' (by rw [List.length_append]; simp; omega) (by omega) (by rw [List.length_append]; omega),Qaj,QcK,incL e (by omega),QkP e,List.append_assoc]
    rfl) (by
    show Qck (QcE fuel) l ((allV x m).length:Int) N (out++(N.take N.length).flatMap fun v=>Qdd x m k (l++[v])) ((allV x m).length:Int) x (m:Int) (N.length:Int)=_
    unfold Qck
    rw [Qa4,List.take_length])
  rw [QbW (show QaK (fun s:List (List Qaa)×Int×Qab×Int×Int=>Qck (QcE fuel) l ((allV x m).length:Int) N s.1 s.2.1 s.2.2.1 s.2.2.2.1 s.2.2.2.2) (out,((allV x m).length:Int),x,(m:Int),0)=_ by
   simpa using this),Qdm]
theorem QCD (hA:AlwS x m) (hx:QaV x) (hm:m<2 ^ x.orders.length):∀ (k fuel:Nat) (l:List Qaa) (out:List (List Qaa)),QlE x m l→l.length+k=(allV x m).length→k<fuel→out.length+(Qdd x m k l).length≤8192 →
  Qa8 fuel x (m:Int) l out=some (out++Qdd x m k l)
 | k,0,_,_,_,_,h,_=>by omega
 | 0,fuel+1,l,out,hW,hk,_,hb=>by
  have hl:=hW.len hx
  have hm2:=QtA hx hm
  show QcQ (Qa8 fuel) x (m:Int) l out=_
  unfold QcQ
  unfold Qdd at hb ⊢
  simp only [List.length_singleton] at hb
  rw [QaW (by simp [lenI]; omega),Qsx hx (by omega) hm2,Qaj,QxH (hW.full (by omega)),Qbj (show eqI (lenI ([]:List Qaa)) 0=true by decide),QcL (Qek (by rw [List.length_append]; simp; omega))]
 | k+1,fuel+1,l,out,hW,hk,hf,hb=>by
  have hl:=hW.len hx
  have h10:=hx.orders
  have hm2:=QtA hx hm
  have hne:=hA.next_ne hx hm (hW.out hk)
  show QcQ (Qa8 fuel) x (m:Int) l out=_
  unfold QcQ
  rw [QaW (by simp [lenI]; omega),Qsx hx (by omega) hm2,Qaj]
  unfold Qdd at hb ⊢
  have hcnt:=Qnr (x:=x) (m:=m) (l:=l) x.orders.length
  have hmem:∀ v∈QkV x m l x.orders.length,QlE x m (l++[v]):=fun v hv=>hW.snoc hv
  generalize QkV x m l x.orders.length=N at *
  have hpos:0<N.length:=List.length_pos_iff.2 hne
  have:=Qep N.length (fun i=>(out++(N.take i).flatMap (fun v=>Qdd x m k (l++[v])),(i:Int)))
   (B:=fun s:List (List Qaa)×Int=>Qbx (Qa8 fuel) x (m:Int) l N s.1 s.2)
   (e:=out++N.flatMap (fun v=>Qdd x m k (l++[v]))) (by omega) (fun i hi=>by
    have e:N[i]?=some N[i]:=List.getElem?_eq_getElem hi
    have hW':=hmem _ (List.getElem_mem hi)
    have hle:=Qnw (f:=fun v=>Qdd x m k (l++[v])) (l:=N) (i+1)
    rw [QkP e,List.length_append] at hle
    show Qbx (Qa8 fuel) x (m:Int) l N (out++(N.take i).flatMap fun v=>Qdd x m k (l++[v])) (i:Int)=_
    unfold Qbx
    rw [Qbj (by simp [lenI]; omega),QcL (Qek (by omega)),QaR e,Qaj,QcL (Qek (by rw [List.length_append]; simp; omega)),QCD hA hx hm k fuel (l++[N[i]]) _ hW' (by rw [List.length_append]; simp; omega) (by omega) (by rw [List.length_append]; omega),Qaj,incL e (by omega),QkP e,List.append_assoc]
    rfl) (by
    show Qbx (Qa8 fuel) x (m:Int) l N (out++(N.take N.length).flatMap fun v=>Qdd x m k (l++[v])) (N.length:Int)=_
    unfold Qbx
    rw [QaW (by simp [lenI]),List.take_length])
  rw [QaW (by simp [lenI]; omega),QbW (show QaK (fun s:List (List Qaa)×Int=>Qbx (Qa8 fuel) x (m:Int) l N s.1 s.2) (out,0)=_ by
   simpa using this)]
theorem QE4 (hA:AlwS x m) (hx:QaV x) (hm:m<2 ^ x.orders.length) (h0:(allV x m).length≠0) (hb:(Qdd x m (allV x m).length []).length≤8192):QfA x (m:Int) []=some (Qdd x m (allV x m).length []):=by
 have h10:=hx.orders
 have hm2:=QtA hx hm
 obtain ⟨k,hk⟩:∃ k,(allV x m).length=k+1:=⟨(allV x m).length-1,by omega⟩
 have hW:QlE x m []:=.nil
 have hne:=hA.next_ne hx hm (hW.out (k:=k) (by rw [hk]; simp))
 have hk20:k≤20:=by
  have:=QsH (x:=x) (m:=m) (l:=[]) x.orders.length
  have h2:∀ n,cntB m n≤n:=fun n=>by
   induction n with
   | zero=>exact Nat.le_refl _
   | succ n ih=>unfold cntB; split <;> omega
  have:=h2 x.orders.length
  unfold allV at hk
  omega
 unfold QfA
 rw [QaW (by decide),Qsx hx (by simp) hm2,Qaj]
 rw [hk] at hb ⊢
 unfold Qdd at hb ⊢
 have hcnt:=Qnr (x:=x) (m:=m) (l:=[]) x.orders.length
 have hmem:∀ v∈QkV x m [] x.orders.length,QlE x m ([]++[v]):=fun v hv=>hW.snoc hv
 generalize QkV x m [] x.orders.length=N at *
 have hpos:0<N.length:=List.length_pos_iff.2 hne
 have:=Qep N.length (fun i=>((N.take i).flatMap (fun v=>Qdd x m k ([]++[v])),(i:Int)))
  (B:=fun s:List (List Qaa)×Int=>Qbg x (m:Int) [] N s.1 s.2)
  (e:=N.flatMap (fun v=>Qdd x m k ([]++[v]))) (by omega) (fun i hi=>by
   have e:N[i]?=some N[i]:=List.getElem?_eq_getElem hi
   have hW':=hmem _ (List.getElem_mem hi)
   have hle:=Qnw (f:=fun v=>Qdd x m k ([]++[v])) (l:=N) (i+1)
   rw [QkP e,List.length_append] at hle
   show Qbg x (m:Int) [] N ((N.take i).flatMap fun v=>Qdd x m k ([]++[v])) (i:Int)=_
   unfold Qbg Qiq
   rw [Qbj (by simp [lenI]; omega),QcL (Qek (by simp)),QaR e,Qaj,QcL (Qek (by simp)),QCD hA hx hm k Qmy ([]++[N[i]]) _ hW' (by simp; omega) (by unfold Qmy; omega) (by omega),Qaj,incL e (by omega),QkP e]
   rfl) (by
   show Qbg x (m:Int) [] N ((N.take N.length).flatMap fun v=>Qdd x m k ([]++[v])) (N.length:Int)=_
   unfold Qbg
   rw [QaW (by simp [lenI]),List.take_length])
 rw [QaW (by simp [lenI]; omega),QbW (show QaK (fun s:List (List Qaa)×Int=>Qbg x (m:Int) [] N s.1 s.2) ([],0)=_ from this)]
open Classical in
noncomputable def allS (x:Qab) (m:Nat):List (List Qaa):=if m≠0∧AlwS x m then Qdd x m (allV x m).length [] else []
theorem QEp (hx:QaV x) (hm:m<2 ^ x.orders.length):QaK (fun s=>QcZ x (m:Int) s.1 s.2) (0,0)=some ((allV x m).length:Int):=by
 have h10:=hx.orders
 have hm2:=QtA hx hm
 exact Qep x.orders.length (fun k=>(((QyF x m [] k).length:Int),(k:Int))) (B:=fun s:Int×Int=>QcZ x (m:Int) s.1 s.2) (e:=((allV x m).length:Int)) (by omega) (fun k hk=>by
  have h1:=QsH (x:=x) (m:=m) (l:=[]) k
  have h2:∀ n,cntB m n≤n:=fun n=>by
   induction n with
   | zero=>exact Nat.le_refl _
   | succ n ih=>unfold cntB; split <;> omega
  have h3:=h2 k
  have hv:=QiO (x:=x) (o:=(k:Int))
  show QcZ x (m:Int) ((QyF x m [] k).length:Int) (k:Int)=some (.inl (((QyF x m [] k++_).length:Int),((k+1:Nat):Int)))
  unfold QcZ
  have hfl:(visO x (k:Int)).filter (fun v=>!([]:List Qaa).any (isV v))=visO x (k:Int):=List.filter_eq_self.2 fun _ _=>rfl
  have ek:addK .i64 (k:Int) 1=((k+1:Nat):Int):=(addI (by omega) (by omega)).trans (by omega)
  rw [Qbj (by simp [lenI]; omega),QcL (by omega),bitA (by omega) (by omega),Qsy hx (by omega) (by omega),Qaj,hfl,ek]
  cases m.testBit k with
  | false=>simp
  | true=>rw [QcK,if_pos rfl,List.length_append]; unfold lenI; rw [addI (by omega) (by omega)]; simp) (by
  show QcZ x (m:Int) ((QyF x m [] x.orders.length).length:Int) (x.orders.length:Int)=_
  unfold QcZ
  rw [QaW (by simp [lenI])]; rfl)
theorem QwK (hx:QaV x) {m:Nat}:neI (shrK .i64 (m:Int) (lenI x.orders)) 0=!decide (m<2 ^ x.orders.length):=by
 have h10:=hx.orders
 unfold lenI
 rw [shrN (by omega),Bool.eq_iff_iff,Qyy,Bool.not_eq_true',decide_eq_false_iff_not]
 have h2:=Nat.two_pow_pos x.orders.length
 constructor
 ·intro h hlt
  rw [Nat.div_eq_of_lt hlt] at h
  exact h rfl
 ·intro h he
  have:m / 2 ^ x.orders.length=0:=by omega
  rcases (Nat.div_eq_zero_iff).1 this with h'|h' <;> omega
theorem QsN (hx:QaV x) (hm:m<9223372036854775808):QaK (fun s=>QdU x (m:Int) s) 0=some (if m<2 ^ x.orders.length then .inl () else .inr ([],2)):=by
 have h10:=hx.orders
 have key:=Qty (n:=63) (B:=fun s=>QdU x (m:Int) s) (by decide) (fun i=>m.testBit i&&decide (x.orders.length≤i)) (y:=(.inr ([],2):Unit⊕(List (List Qaa)×Int))) (N:=.inl ()) (b:=!decide (m<2 ^ x.orders.length)) (by
   rw [Bool.not_eq_true',decide_eq_false_iff_not]
   constructor
   ·intro h
    refine Classical.byContradiction fun hn=>h (Nat.lt_pow_two_of_testBit _ fun i hi=>?_)
    cases hb:m.testBit i with
    | false=>rfl
    | true =>
     rcases Nat.lt_or_ge i 63 with h63|h63
     ·exact absurd ⟨i,h63,by rw [hb,Bool.true_and,decide_eq_true_eq]; exact hi⟩ hn
     ·rw [tb63 hm h63] at hb; cases hb
   ·rintro ⟨i,hi,hh⟩ hlt
    rw [Bool.and_eq_true,decide_eq_true_eq] at hh
    have:=QvO hlt hh.1
    omega) (fun i hi=>by
   show QdU x (m:Int) (i:Int)=_
   unfold QdU
   rw [Qbj (by simp; omega),Qrn (by omega) (by omega) (by omega),Qaj,Int.toNat_natCast,addI (by omega) (by omega),show geI (i:Int) (lenI x.orders)=decide (x.orders.length≤i) by rw [Bool.eq_iff_iff,Qqs,decide_eq_true_eq]; unfold lenI; omega,brs]) (by
   show QdU x (m:Int) ((63:Nat):Int)=_
   unfold QdU
   rw [QaW (by decide)])
 rw [key]
 by_cases h:m<2 ^ x.orders.length
 ·rw [if_neg (by simp [h]),if_pos h]
 ·rw [if_pos (by simp; omega),if_neg h]
theorem QFU (hx:QaV x) (hm:m<2 ^ x.orders.length) (hc:cntB m x.orders.length≤3):Qgw x (m:Int)=some (allS x m,0)∧QgF x (m:Int)=some (allS x m,0):=by
 have hm2:=QtA hx hm
 by_cases h0:m=0
 ·subst h0
  have e:allS x 0=[]:=by unfold allS; rw [if_neg (by simp)]
  rw [e]
  constructor
  ·unfold Qgw
   rw [QaW (by decide),QcL (by unfold lenI; omega),QwK hx,QaW (by simp [hm]),Qbj (by decide)]
  ·unfold QgF
   rw [QaW (by decide),QbW (QsN hx (by omega)),if_pos hm,Qdm]
   rfl
 obtain ⟨b,hb,hb1,hb2⟩:=Qqq hx hm
 obtain ⟨c,hc0,hc1,hc2⟩:=QvH hx hm h0
 have hbc:b=!c:=by
  cases b with
  | false=>rw [hc2 (hb1 rfl)]; rfl
  | true =>
   cases c with
   | false=>rfl
   | true =>
    obtain ⟨l,h1,h2⟩:=hc1 rfl
    exact absurd (hb2 l h1 h2) (by decide)
 have hcb:c=true↔AlwS x m:=⟨fun h=>hb1 (by rw [hbc,h]; rfl),hc2⟩
 have hlen:(Qdd x m (allV x m).length []).length≤729:=Nat.le_trans (Qta hc _ _) (QFo (Qre hc))
 have hVne:(allV x m).length≠0:=by
  intro he
  refine h0 (Nat.eq_of_testBit_eq fun i=>?_)
  rw [Nat.zero_testBit]
  cases hbit:m.testBit i with
  | false=>rfl
  | true =>
   have hi:=QvO hm hbit
   obtain ⟨v,hv⟩:=QvX hx hi
   have:=Qmk.2 ⟨i,hi,hbit,hv⟩
   rw [List.eq_nil_of_length_eq_zero he] at this
   cases this
 constructor
 ·unfold Qgw
  rw [QaW (by simp),QcL (by unfold lenI; omega),QwK hx,QaW (by simp [hm]),QaW (by simp; omega),hb,Qaj]
  by_cases hA:AlwS x m
  ·have e:allS x m=Qdd x m (allV x m).length []:=by unfold allS; rw [if_pos ⟨h0,hA⟩]
   rw [hbc,hcb.2 hA,Bool.not_true,Qca,QbW (QEp hx hm),e]
   have:=QAX hA hx hm (allV x m).length Qmy [] [] .nil (by simp) (by have:=Qre hc; unfold Qmy; omega) (by simp; omega)
   unfold QkN
   rw [this,Qaj,QcK,List.nil_append]
  ·have e:allS x m=[]:=by unfold allS; rw [if_neg (by simp [hA])]
   have hcf:c=false:=by
    cases c with
    | false=>rfl
    | true=>exact absurd (hcb.1 rfl) hA
   rw [hbc,hcf,Bool.not_false,QcK,e]
 ·unfold QgF
  rw [QaW (by simp),QbW (QsN hx (by omega)),if_pos hm,Qdm,hc0,Qaj]
  by_cases hA:AlwS x m
  ·have e:allS x m=Qdd x m (allV x m).length []:=by unfold allS; rw [if_pos ⟨h0,hA⟩]
   rw [hcb.2 hA,QcK,QE4 hA hx hm hVne (by omega),Qaj,QaW (by simp [lenI]; omega),e]
  ·have e:allS x m=[]:=by unfold allS; rw [if_neg (by simp [hA])]
   have hcf:c=false:=by
    cases c with
    | false=>rfl
    | true=>exact absurd (hcb.1 rfl) hA
   rw [hcf,Qca,e]
theorem QCl (hx:QaV x) (hm:m<9223372036854775808) (hb:¬ m<2 ^ x.orders.length):Qgw x (m:Int)=some ([],2)∧QgF x (m:Int)=some ([],2):=by
 constructor
 ·unfold Qgw
  rw [QaW (by simp),QcL (by unfold lenI; omega),QwK hx,Qbj (by simp; omega)]
 ·unfold QgF
  rw [QaW (by simp),QbW (QsN hx hm),if_neg hb,Qm6]
theorem Qy3 (hc:cntB m x.orders.length≤3):(allS x m).length≤729:=by
 unfold allS
 split
 ·exact Nat.le_trans (Qta hc _ _) (QFo (Qre hc))
 ·simp
theorem Qy4 {s:List Qaa} (hs:s∈allS x m):m≠0∧AlwS x m∧QlE x m s∧s.length=(allV x m).length:=by
 unfold allS at hs
 split at hs
 ·rename_i h
  obtain ⟨h1,h2⟩:=Qud _ _ .nil s hs
  exact ⟨h.1,h.2,h1,by rw [h2]; simp⟩
 ·cases hs
theorem Qw7 (m:Nat):∀ n,cntB m (n+1)=m % 2+cntB (m / 2) n
 | 0=>by
  unfold cntB cntB
  rw [Nat.testBit_zero]
  have:m % 2=0∨m % 2=1:=by omega
  rcases this with h|h <;> simp [h,cntB]
 | n+1=>by
  rw [cntB,Qw7 m n,cntB,Nat.testBit_succ]
  omega
theorem Qw8:∀ n,cntB 0 n=0
 | 0=>rfl
 | n+1=>by rw [cntB,Qw8 n]; simp
theorem QCz (m:Nat):∀ n,cntB m n≤n
 | 0=>Nat.le_refl _
 | n+1=>by have:=QCz m n; unfold cntB; split <;> omega
theorem QBs {a b:Nat} (h:a≤b):cntB m a≤cntB m b:=by
 induction h with
 | refl=>exact Nat.le_refl _
 | step _ ih=>exact Nat.le_trans ih (Nat.le_add_right _ _)
theorem QEM (hm:m<9223372036854775808):QgZ (m:Int)=some (cntB m 63:Nat):=by
 apply post.eq
 unfold QgZ
 refine QaP (R:=fun r=>r=(cntB m 63:Nat)) ?_ fun r hr=>Qaw.2 hr
 refine Qct (fun s:Int×Int=>∃ a c j:Nat,s=((a:Int),(c:Int))∧j≤63∧a<2 ^ j∧c+cntB a j=cntB m 63∧c≤63) (fun s=>s.1.toNat) ⟨m,0,63,rfl,Nat.le_refl _,hm,by omega,by omega⟩ (by show (m:Int).toNat<_; omega) ?_
 rintro _ ⟨a,c,j,rfl,hj,ha,hs,hc⟩
 have hp:2 ^ j≤2 ^ 63:=Nat.pow_le_pow_right (by omega) hj
 have ha63:a<9223372036854775808:=Nat.lt_of_lt_of_le ha hp
 show post (Qd9 (a:Int) (c:Int)) _
 unfold Qd9
 refine QaE (fun h=>?_) (fun h=>?_)
 ·rw [Qwg] at h
  have hj0:j≠0:=by
   intro h0; subst h0
   simp at ha; omega
  obtain ⟨i,rfl⟩:∃ i,j=i+1:=⟨j-1,by omega⟩
  have hr:remK (a:Int) 2=((a % 2:Nat):Int):=by unfold remK; rw [Int.tmod_eq_emod_of_nonneg (by omega)]; rfl
  have hq:quoK .i64 (a:Int) 2=((a / 2:Nat):Int):=quoN (b:=2) ha63
  have hst:=Qw7 a i
  have h2:a % 2<2:=Nat.mod_lt _ (by omega)
  have hle:=QCz m 63
  rw [hr,hq,addI (by omega) (by omega)]
  refine Qc4 ⟨⟨a / 2,c+a % 2,i,by simp,by omega,?_,by omega,by omega⟩,?_⟩
  ·rw [Nat.pow_succ] at ha
   omega
  ·show ((a / 2:Nat):Int).toNat<(a:Int).toNat
   omega
 ·rw [Qqt] at h
  obtain rfl:a=0:=by omega
  rw [Qw8] at hs
  exact Qcg (by show (c:Int)=_; omega)
end
end Go.Proofs.YtfjiafgldchinaaGreatDoor
namespace Go.Proofs.YtfjiafgldchinaaGreatDoor
set_option linter.unusedSimpArgs false
set_option linter.unusedVariables false
set_option linter.unusedSectionVars false
section
variable {α : Type} (D : α → α → Bool)
def Qr1 (out:List α) (n:α):List α:=if out.any (fun k=>D k n)=true then out else out.filter (fun k=>!D n k)++[n]
def QFc (l:List α) (i:Nat) (a:α) (k:Nat):Bool:=k == i||(match l[k]? with
 | some b=>!D b a||(decide (i<k)&&D a b)
 | none=>true)
def QDC (l:List α) (i:Nat) (a:α):Bool:=(List.range l.length).all (QFc D l i a)
def outI (l:List α):Nat→List α
 | 0=>[]
 | i+1=>outI l i++(match l[i]? with
  | some a=>if QDC D l i a=true then [a] else []
  | none=>[])
end
section
variable {α : Type} {D : α → α → Bool}
theorem Qzz {l:List α} {i:Nat} {a:α}:QDC D l i a=true↔∀ k b,l[k]?=some b→k≠i→D b a=true→i<k∧D a b=true:=by
 unfold QDC
 rw [List.all_eq_true]
 constructor
 ·intro h k b hk hne hd
  have:=h k (List.mem_range.2 (List.getElem?_eq_some_iff.1 hk).1)
  unfold QFc at this
  rw [hk] at this
  simp only [Bool.or_eq_true,beq_iff_eq,Bool.not_eq_true',Bool.and_eq_true,decide_eq_true_eq] at this
  rcases this with h1|h1|h1
  ·exact absurd h1 hne
  ·rw [hd] at h1; cases h1
  ·exact h1
 ·intro h k hk
  have hk:=List.mem_range.1 hk
  unfold QFc
  rw [List.getElem?_eq_getElem hk]
  simp only [Bool.or_eq_true,beq_iff_eq,Bool.not_eq_true',Bool.and_eq_true,decide_eq_true_eq]
  by_cases hki:k=i
  ·exact .inl hki
  ·cases hd:D l[k] a with
   | false=>exact .inr (.inl rfl)
   | true=>exact .inr (.inr (h k _ (List.getElem?_eq_getElem hk) hki hd))
theorem QBI {l:List α} {n a:α} {i:Nat} (hi:i<l.length):QDC D (l++[n]) i a=(QDC D l i a&&(!D n a||D a n)):=by
 rw [Bool.eq_iff_iff,Bool.and_eq_true,Qzz,Qzz]
 constructor
 ·intro h
  refine ⟨fun k b hk hne hd=>h k b (by rw [List.getElem?_append_left (List.getElem?_eq_some_iff.1 hk).1]; exact hk) hne hd,?_⟩
  cases hd:D n a with
  | false=>rfl
  | true =>
   have:=(h l.length n (by rw [List.getElem?_append_right (Nat.le_refl _)]; simp) (by omega) hd).2
   rw [this]; rfl
 ·rintro ⟨h1,h2⟩ k b hk hne hd
  rcases Nat.lt_or_ge k l.length with hkl|hkl
  ·rw [List.getElem?_append_left hkl] at hk
   exact h1 k b hk hne hd
  ·rw [List.getElem?_append_right hkl] at hk
   have hb:b=n:=by
    have:=List.mem_of_getElem? hk
    exact List.mem_singleton.1 this
   subst hb
   rw [hd] at h2
   simp at h2
   exact ⟨by omega,h2⟩
theorem QBH {l:List α} {n:α}:QDC D (l++[n]) l.length n=!l.any (fun k=>D k n):=by
 rw [Bool.eq_iff_iff,Qzz,Bool.not_eq_true',List.any_eq_false]
 constructor
 ·intro h b hb hd
  obtain ⟨k,hk⟩:=List.getElem?_of_mem hb
  have hkl:=(List.getElem?_eq_some_iff.1 hk).1
  have:=(h k b (by rw [List.getElem?_append_left hkl]; exact hk) (by omega) hd).1
  omega
 ·intro h k b hk hne hd
  have hkl:k<l.length:=by
   have:=(List.getElem?_eq_some_iff.1 hk).1
   rw [List.length_append,List.length_singleton] at this
   omega
  rw [List.getElem?_append_left hkl] at hk
  exact absurd hd (h b (List.mem_of_getElem? hk))
theorem QAc {l:List α} {n:α}:∀ i,i≤l.length→outI D (l++[n]) i=(outI D l i).filter fun a=>!D n a||D a n
 | 0,_=>rfl
 | i+1,hi=>by
  have e:(l++[n])[i]?=l[i]?:=List.getElem?_append_left (by omega)
  unfold outI
  rw [QAc i (by omega),e,List.filter_append]
  congr 1
  rw [List.getElem?_eq_getElem (show i<l.length by omega)]
  simp only
  rw [QBI (by omega)]
  cases QDC D l i l[i] <;> cases h:(!D n l[i]||D l[i] n) <;> simp [List.filter_cons,h]
theorem QB8 {l:List α} {n:α}:outI D (l++[n]) (l++[n]).length=(outI D l l.length).filter (fun a=>!D n a||D a n)++if l.any (fun k=>D k n)=true then [] else [n]:=by
 rw [List.length_append,List.length_singleton]
 show outI D (l++[n]) l.length++_=_
 rw [QAc l.length (Nat.le_refl _)]
 congr 1
 rw [List.getElem?_append_right (Nat.le_refl _)]
 simp only [Nat.sub_self,List.getElem?_cons_zero]
 rw [QBH]
 cases l.any fun k=>D k n <;> rfl
theorem QEi {P:List α→Prop} (h0:P []) (h1:∀ l a,P l→P (l++[a])) (l:List α):P l:=by
 have:∀ r:List α,P r.reverse:=fun r=>by
  induction r with
  | nil=>exact h0
  | cons a r ih=>rw [List.reverse_cons]; exact h1 _ _ ih
 rw [← List.reverse_reverse l]
 exact this _
theorem QDJ {P:α→Prop} (hr:∀ a,P a→D a a=true) (ht:∀ a b c,P a→P b→P c→D a b=true→D b c=true→D a c=true) (l:List α):(∀ a∈l,P a)→l.foldl (Qr1 D) []=outI D l l.length∧(∀ g∈outI D l l.length,g∈l) ∧
  (∀ k∈l,∃ g∈outI D l l.length,D g k=true)∧(outI D l l.length).Pairwise (fun a b=>D a b=false∧D b a=false):=by
 refine QEi (P:=fun l=>(∀ a∈l,P a)→l.foldl (Qr1 D) []=outI D l l.length∧(∀ g∈outI D l l.length,g∈l)∧(∀ k∈l,∃ g∈outI D l l.length,D g k=true)∧(outI D l l.length).Pairwise (fun a b=>D a b=false∧D b a=false)) (fun _=>⟨rfl,fun g h=>by (cases h),fun k h=>(by cases h),List.Pairwise.nil⟩) ?_ l
 intro l n ih hP
 have hPl:∀ a∈l,P a:=fun a ha=>hP a (List.mem_append_left _ ha)
 have hPn:P n:=hP n (by simp)
 obtain ⟨e,hsub,hdom,hpw⟩:=ih hPl
 rw [List.foldl_append]
 simp only [List.foldl_cons,List.foldl_nil]
 rw [e,QB8]
 generalize outI D l l.length=O at hsub hdom hpw
 unfold Qr1
 by_cases hany:O.any (fun k=>D k n)=true
 ·obtain ⟨k,hk,hkn⟩:=List.any_eq_true.1 hany
  have hla:l.any (fun k=>D k n)=true:=List.any_eq_true.2 ⟨k,hsub k hk,hkn⟩
  have hfil:O.filter (fun a=>!D n a||D a n)=O:=List.filter_eq_self.2 fun a ha=>by
   cases hna:D n a with
   | false=>rfl
   | true =>
    have hka:=ht _ _ _ (hPl k (hsub k hk)) hPn (hPl a (hsub a ha)) hkn hna
    by_cases hak:a=k
    ·rw [hak,hkn]; rfl
    ·exfalso
     rcases List.pairwise_iff_getElem.1 hpw with hpp
     obtain ⟨i,hi⟩:=List.getElem?_of_mem ha
     obtain ⟨j,hj⟩:=List.getElem?_of_mem hk
     obtain ⟨i1,i2⟩:=List.getElem?_eq_some_iff.1 hi
     obtain ⟨j1,j2⟩:=List.getElem?_eq_some_iff.1 hj
     rcases Nat.lt_trichotomy i j with h|h|h
     ·have:=(hpp i j i1 j1 h).2
      rw [i2,j2,hka] at this; cases this
     ·subst h
      rw [i2] at j2; exact hak j2
     ·have:=(hpp j i j1 i1 h).1
      rw [i2,j2,hka] at this; cases this
  rw [if_pos hany,if_pos hla,hfil,List.append_nil]
  refine ⟨rfl,fun g hg=>List.mem_append_left _ (hsub g hg),fun b hb=>?_,hpw⟩
  rcases List.mem_append.1 hb with hb|hb
  ·exact hdom b hb
  ·rw [List.mem_singleton.1 hb]; exact ⟨k,hk,hkn⟩
 ·have hno:∀ k∈O,D k n=false:=fun k hk=>by
   have:=List.any_eq_false.1 (by simpa using hany:O.any (fun k=>D k n)=false) k hk
   simpa using this
  have hla:l.any (fun k=>D k n)=false:=by
   rw [List.any_eq_false]
   intro b hb hd
   obtain ⟨g,hg,hgb⟩:=hdom b hb
   have:=ht _ _ _ (hPl g (hsub g hg)) (hPl b hb) hPn hgb hd
   rw [hno g hg] at this; cases this
  have hfil:O.filter (fun a=>!D n a||D a n)=O.filter fun a=>!D n a:=by
   refine List.filter_congr fun a ha=>?_
   rw [hno a ha,Bool.or_false]
  rw [if_neg hany,if_neg (by rw [hla]; decide),hfil]
  refine ⟨rfl,fun g hg=>?_,fun b hb=>?_,?_⟩
  ·rcases List.mem_append.1 hg with hg|hg
   ·exact List.mem_append_left _ (hsub g (List.mem_filter.1 hg).1)
   ·exact List.mem_append_right _ hg
  ·rcases List.mem_append.1 hb with hb|hb
   ·obtain ⟨g,hg,hgb⟩:=hdom b hb
    cases hng:D n g with
    | false=>exact ⟨g,List.mem_append_left _ (List.mem_filter.2 ⟨hg,by rw [hng]; rfl⟩),hgb⟩
    | true=>exact ⟨n,by simp,ht _ _ _ hPn (hPl g (hsub g hg)) (hPl b hb) hng hgb⟩
   ·rw [List.mem_singleton.1 hb]; exact ⟨n,by simp,hr n hPn⟩
  ·rw [List.pairwise_append]
   refine ⟨hpw.sublist List.filter_sublist,by simp,fun a ha b hb=>?_⟩
   rw [List.mem_singleton.1 hb]
   obtain ⟨h1,h2⟩:=List.mem_filter.1 ha
   exact ⟨hno a h1,by simpa using h2⟩
end
section
variable {x : Qab} {a b c l n : Qad} {v : Qaa} {m : Nat} {kind : Int} {s : List Qaa}
theorem QFn {cap a:List Int}:Qsq cap a=false↔∀ i,i<a.length→a.getD i 0≤cap.getD i 0:=by
 unfold Qsq
 rw [List.any_eq_false]
 constructor
 ·intro h i hi
  have:=h i (List.mem_range.2 hi)
  simpa using this
 ·intro h i hi
  have:=h i (List.mem_range.1 hi)
  simpa using this
theorem Qzm:domB a b=true↔(a.type_=b.type_∧a.place=b.place∧a.done=b.done∧a.open_=b.open_)∧(a.time≤b.time∧a.driven≤b.driven∧a.miles≤b.miles)∧∀ i,i<a.load.length→a.load.getD i 0≤b.load.getD i 0:=by
 unfold domB
 simp only [Bool.and_eq_true,Bool.not_eq_true',Bool.or_eq_false_iff,QvF,QBT]
 rw [QFn]
 constructor
 ·rintro ⟨⟨⟨⟨h1,h2⟩,h3⟩,h4⟩,⟨⟨h5,h6⟩,h7⟩,h8⟩; exact ⟨⟨h1,h2,h3,h4⟩,⟨h5,h6,h7⟩,h8⟩
 ·rintro ⟨⟨h1,h2,h3,h4⟩,⟨h5,h6,h7⟩,h8⟩; exact ⟨⟨⟨⟨h1,h2⟩,h3⟩,h4⟩,⟨⟨h5,h6⟩,h7⟩,h8⟩
theorem QDo (h:LbI x a):domB a a=true:=Qzm.2 ⟨⟨rfl,rfl,rfl,rfl⟩,⟨Int.le_refl _,Int.le_refl _,Int.le_refl _⟩,fun _ _=>Int.le_refl _⟩
theorem QBv (ha:LbI x a) (hb:LbI x b) (hc:LbI x c) (h1:domB a b=true) (h2:domB b c=true):domB a c=true:=by
 obtain ⟨⟨p1,p2,p3,p4⟩,⟨p5,p6,p7⟩,p8⟩:=Qzm.1 h1
 obtain ⟨⟨q1,q2,q3,q4⟩,⟨q5,q6,q7⟩,q8⟩:=Qzm.1 h2
 have la:=Qux ha
 have lb:=Qux hb
 exact Qzm.2 ⟨⟨p1.trans q1,p2.trans q2,p3.trans q3,p4.trans q4⟩,⟨by omega,by omega,by omega⟩,fun i hi=>Int.le_trans (p8 i hi) (q8 i (by omega))⟩
theorem QEZ (hx:QaV x) (ha:LbI x a) (hb:LbI x b):QeL a b=some (domB a b)∧Qej (qL a) (qL b)=some (domB a b):=QFV (by rw [Qux ha,Qux hb]) (ha.short hx).2
noncomputable def Qu8 (x:Qab) (L:List Qad) (v:Qaa):List Qad:=L.flatMap fun l=>extL x l v
noncomputable def Qrf (x:Qab) (kind:Int) (m:Nat) (s:List Qaa):List Qad:=s.foldl (Qu8 x) (Qh2 x kind m)
structure QEx (x:Qab) (k:Nat) (L:List Qad):Prop where
 all:∀ l∈L,LbI x l∧l.visits.length≤k
 len:L.length≤2*2 ^ k
theorem Qnc (hx:QaV x):QEx x 0 (Qh2 x kind m):=by
 rcases QyR (x:=x) (kind:=kind) (m:=m) hx with h|⟨h,_,h1,h2⟩
 ·rw [h]; exact ⟨fun l hl=>by (cases hl),by simp⟩
 ·rw [h]
  refine ⟨fun l hl=>?_,by unfold QwU; simp⟩
  unfold QwU at hl
  rcases List.mem_cons.1 hl with rfl|hl
  ·exact ⟨h1,Nat.le_refl _⟩
  ·rw [List.mem_singleton.1 hl]; exact ⟨h2,Nat.le_refl _⟩
theorem Qzr (hx:QaV x) (h:LbI x l) (h99:l.visits.length≤99):(extL x l v).length≤2∧∀ c∈extL x l v,LbI x c∧c.visits=l.visits++[v]:=by
 rcases QBA (v:=v) hx h h99 with h'|⟨n,h',h1,h2,h3,_⟩
 ·rw [h']; exact ⟨by simp,fun c hc=>by (cases hc)⟩
 ·rw [h']
  refine ⟨by simp [QwU],fun c hc=>?_⟩
  unfold QwU at hc
  rcases List.mem_cons.1 hc with rfl|hc
  ·exact ⟨h1,h3⟩
  ·rw [List.mem_singleton.1 hc]; exact ⟨h2,h3⟩
theorem Qx2 (hx:QaV x) {L:List Qad} {k:Nat} (h:QEx x k L) (hk:k≤98):QEx x (k+1) (Qu8 x L v):=by
 refine ⟨fun c hc=>?_,?_⟩
 ·obtain ⟨l,hl,hc⟩:=List.mem_flatMap.1 hc
  obtain ⟨h1,h2⟩:=h.all l hl
  obtain ⟨h3,h4⟩:=(Qzr hx h1 (by omega)).2 c hc
  exact ⟨h3,by rw [h4]; simp; omega⟩
 ·have h1:=Qvp (f:=fun l=>extL x l v) (c:=2) L fun l hl=>(Qzr hx (h.all l hl).1 (by have:=(h.all l hl).2; omega)).1
  have:=h.len
  unfold Qu8
  rw [Nat.pow_succ]
  omega
theorem Qoj (hx:QaV x):∀ (k:Nat) (L:List Qad) (s:List Qaa),QEx x k L→k+s.length≤98→QEx x (k+s.length) (s.foldl (Qu8 x) L)
 | k,L,[],h,_=>h
 | k,L,v :: s,h,hk=>by
  have:=Qoj hx (k+1) _ s (Qx2 (v:=v) hx h (by simp at hk; omega)) (by simp at hk; omega)
  rw [List.foldl_cons,List.length_cons,show k+(s.length+1)=k+1+s.length by omega]
  exact this
theorem QGf {k:Nat} (h:k≤6):2*2 ^ k≤128:=by
 have:=Nat.pow_le_pow_right (n:=2) (by decide) h
 omega
noncomputable def QvZ (x:Qab) (kind:Int) (m:Nat):List Qad:=(allS x m).flatMap fun s=>(Qrf x kind m s).filter (okL x)
noncomputable def Qyn (x:Qab) (kind:Int) (m:Nat):List Qad:=(QvZ x kind m).foldl (Qr1 domB) []
theorem Qqj (hx:QaV x) (hs:s.length≤6):QEx x 6 (Qrf x kind m s):=by
 have:=Qoj hx 0 _ s (Qnc (kind:=kind) (m:=m) hx) (by omega)
 rw [Nat.zero_add] at this
 exact ⟨fun l hl=>⟨(this.all l hl).1,by have:=(this.all l hl).2; omega⟩,Nat.le_trans this.len (Nat.le_trans (QGf hs) (by decide))⟩
theorem QsP (hc:cntB m x.orders.length≤3) (hs:s∈allS x m):s.length≤6:=by
 rw [(Qy4 hs).2.2.2]; exact Qre hc
theorem QBp (hx:QaV x) (hc:cntB m x.orders.length≤3):(∀ l∈QvZ x kind m,LbI x l∧l.visits.length≤6)∧(QvZ x kind m).length≤93312:=by
 constructor
 ·intro l hl
  obtain ⟨s,hs,hl⟩:=List.mem_flatMap.1 hl
  exact (Qqj hx (QsP hc hs)).all l (List.mem_filter.1 hl).1
 ·have h1:=Qvp (f:=fun s=>(Qrf x kind m s).filter (okL x)) (c:=128) (allS x m) fun s hs=>Nat.le_trans (List.length_filter_le ..) (Nat.le_trans (Qqj hx (QsP hc hs)).len (by decide))
  have:=Qy3 (x:=x) hc
  unfold QvZ
  omega
theorem QDK {out:List Qad}:(Qr1 domB out n).length≤out.length+1:=by
 unfold Qr1
 split
 ·omega
 ·rw [List.length_append]
  have:=List.length_filter_le (fun k=>!domB n k) out
  simp; omega
theorem QDL {out:List Qad} (h:a∈Qr1 domB out n):a∈out∨a=n:=by
 unfold Qr1 at h
 split at h
 ·exact .inl h
 ·rcases List.mem_append.1 h with h|h
  ·exact .inl (List.mem_filter.1 h).1
  ·exact .inr (List.mem_singleton.1 h)
theorem QDV (hx:QaV x) {out:List Qad} (ho:∀ l∈out,LbI x l) (hn:LbI x n) (hl:out.length≤1000000):Qop out n=some (Qr1 domB out n):=by
 unfold Qop Qr1
 rw [QbW (Qcv (B:=fun s=>Qeu out n s) (l:=out) (by omega) (fun k=>domB k n) (y:=(.inr out:Unit⊕List Qad)) (N:=.inl ()) (fun i a h=>by
  show Qeu out n i=_
  unfold Qeu
  rw [Qbz h,(QEZ hx (ho a (List.mem_of_getElem? h)) hn).1,Qaj,incL h (by omega),brs]) (by
  show Qeu out n out.length=_
  unfold Qeu
  rw [Qa4]))]
 by_cases hany:(out.any fun k=>domB k n)=true
 ·rw [if_pos hany,if_pos hany,Qm6]
 ·rw [if_neg hany,if_neg hany,Qdm,QbW (Qrq (B:=fun s:List Qad×Int=>Qd4 out n s.1 s.2) (l:=out) (by omega) (fun k=>!domB n k) id [] (fun s i a h hs=>by
   have hi:=(List.getElem?_eq_some_iff.1 h).1
   simp only [List.length_nil] at hs
   show Qd4 out n s i=_
   unfold Qd4
   have hok:okN (s++[a]).length 104:=Qek (by simp; omega)
   rw [Qbz h,(QEZ hx hn (ho a (List.mem_of_getElem? h))).1,Qaj,incL h (by omega),QcL hok]
   cases domB n a <;> rfl) (fun s=>by
   show Qd4 out n s out.length=_
   unfold Qd4
   rw [Qa4]; rfl))]
  have:=List.length_filter_le (fun k=>!domB n k) out
  rw [List.nil_append]
  exact QcL (Qek (by rw [List.length_append]; simp only [id]; simp; omega))
end
end Go.Proofs.YtfjiafgldchinaaGreatDoor
namespace Go.Proofs.YtfjiafgldchinaaGreatDoor
set_option linter.unusedSimpArgs false
set_option linter.unusedVariables false
set_option linter.unusedSectionVars false
section
variable {x : Qab} {a b c l n : Qad} {v : Qaa} {m : Nat} {kind : Int} {s : List Qaa}
theorem Qy0 (hx:QaV x) {items cur:List Qad} {f:Nat} (hf:f≤items.length) (hcur:items.drop f=cur) (hall:∀ l∈cur,LbI x l∧l.visits.length≤98) (hb:items.length+2*cur.length≤1000000) :
  QeY (Qbw.mk (Qan.mk items (f:Int)) x) v=some (Qbw.mk (Qan.mk (items++Qu8 x cur v) (items.length:Int)) x):=by
 have hlen:cur.length=items.length-f:=by rw [← hcur,List.length_drop]
 have hsz:subK .i64 (lenI items) (f:Int)=(cur.length:Int):=by unfold lenI; rw [subI (by omega) (by omega)]; omega
 have hflat:∀ i,((cur.take i).flatMap fun l=>extL x l v).length≤2*cur.length:=fun i=>by
  have h1:=Qvp (f:=fun l=>extL x l v) (c:=2) (cur.take i) fun l hl=>(Qzr hx (hall l (List.mem_of_mem_take hl)).1 (by have:=(hall l (List.mem_of_mem_take hl)).2; omega)).1
  rw [List.length_take] at h1
  omega
 unfold QeY QaX
 show bnd (some (subK .i64 (lenI items) (f:Int),Qan.mk items (f:Int))) _=_
 rw [Qaj,hsz]
 have:=Qep cur.length (fun i=>(items++(cur.take i).flatMap (fun l=>extL x l v),((f+i:Nat):Int),(i:Int)))
  (B:=fun s:List Qad×Int×Int=>Qbd (Qbw.mk (Qan.mk items (f:Int)) x) v ((cur.length:Int),Qan.mk items (f:Int)) s.1 s.2.1 s.2.2)
  (e:=(items++cur.flatMap (fun l=>extL x l v),(items.length:Int))) (by omega) (fun i hi=>by
   have e:cur[i]?=some cur[i]:=List.getElem?_eq_getElem hi
   have hc:=hall _ (List.getElem_mem hi)
   have hle:=hflat (i+1)
   rw [QkP e,List.length_append] at hle
   have hg:getI (items++(cur.take i).flatMap fun l=>extL x l v) ((f+i:Nat):Int)=some cur[i]:=QaR (by
    rw [List.getElem?_append_left (by omega),← List.getElem?_drop,hcur,e])
   show Qbd _ v ((cur.length:Int),Qan.mk items (f:Int)) (items++(cur.take i).flatMap fun l=>extL x l v) ((f+i:Nat):Int) (i:Int)=_
   unfold Qbd Qa5 Qa0
   simp only
   rw [Qbj (by simp; omega),hg,Qaj,Qaj,QBc hx hc.1 (by omega),Qaj,QcL (Qek (by rw [List.length_append,List.length_append]; omega)),Qaj,incL e (by omega),addI (by omega) (by omega),QkP e,List.append_assoc]
   rfl) (by
   show Qbd _ v ((cur.length:Int),Qan.mk items (f:Int)) (items++(cur.take cur.length).flatMap fun l=>extL x l v) ((f+cur.length:Nat):Int) (cur.length:Int)=_
   unfold Qbd
   rw [QaW (by simp),List.take_length,show f+cur.length=items.length by omega])
 rw [QbW (show QaK (fun s:List Qad×Int×Int=>Qbd (Qbw.mk (Qan.mk items (f:Int)) x) v ((cur.length:Int),Qan.mk items (f:Int)) s.1 s.2.1 s.2.2) (items,(f:Int),0)=_ by
  simpa using this)]
 rfl
theorem QDq (hx:QaV x) (hs:s.length≤6) {r:List (List Qaa)×Int} {r1 out:List Qad} {i:Int} :
  post (QaK (fun q:List Qad×Qab×Int×Qab×Int=>Qfi r r1 out i s q.1 q.2.1 q.2.2.1 q.2.2.2.1 q.2.2.2.2) (Qh2 x kind m,x,0,x,0)) fun e=>∃ (items:List Qad) (f:Nat),e=(items,x,(f:Int),x)∧f≤items.length∧items.drop f=Qrf x kind m s∧items.length≤1000:=by
 refine Qct (fun q=>∃ (k:Nat) (items:List Qad) (f:Nat),q=(items,x,(f:Int),x,(k:Int))∧k≤s.length∧f≤items.length∧items.drop f=(s.take k).foldl (Qu8 x) (Qh2 x kind m)∧items.length≤4*2 ^ k) (fun q=>s.length-q.2.2.2.2.toNat) ⟨0,Qh2 x kind m,0,rfl,Nat.zero_le _,Nat.zero_le _,rfl,by have:=(Qnc (kind:=kind) (m:=m) hx).len; omega⟩ (by simp; omega) ?_
 rintro _ ⟨k,items,f,rfl,hk,hf,hd,hb⟩
 have h2k:2 ^ k≤2 ^ 6:=Nat.pow_le_pow_right (by decide) (by omega)
 show post (Qfi r r1 out i s items x (f:Int) x (k:Int)) _
 unfold Qfi
 refine QaE (fun hlt=>?_) (fun hge=>?_)
 ·simp only [Qoi,lenI] at hlt
  have hk':k<s.length:=by omega
  have e:s[k]?=some s[k]:=List.getElem?_eq_getElem hk'
  have hL:=Qoj hx 0 _ (s.take k) (Qnc (kind:=kind) (m:=m) hx) (by rw [List.length_take]; omega)
  rw [Nat.zero_add,List.length_take,Nat.min_eq_left (by omega)] at hL
  have hS:=Qx2 (v:=s[k]) hx hL (by omega)
  have hll:=hL.len
  have hsl:=hS.len
  rw [Nat.pow_succ] at hsl
  have hfold:(s.take (k+1)).foldl (Qu8 x) (Qh2 x kind m)=Qu8 x ((s.take k).foldl (Qu8 x) (Qh2 x kind m)) s[k]:=by
   rw [List.take_add_one,e,Option.toList_some,List.foldl_append]; rfl
  rw [QaR e,Qaj,Qy0 hx hf hd (fun l hl=>⟨(hL.all l hl).1,by have:=(hL.all l hl).2; omega⟩) (by omega),Qaj]
  have ek:addK .i64 (k:Int) 1=((k+1:Nat):Int):=(addI (by omega) (by omega)).trans (by omega)
  rw [ek]
  refine Qc4 ⟨⟨k+1,_,items.length,rfl,hk',by rw [List.length_append]; omega,by rw [hfold]; simp,by rw [List.length_append,Nat.pow_succ]; omega⟩,?_⟩
  show s.length-((k+1:Nat):Int).toNat<s.length-(k:Int).toNat
  omega
 ·simp only [QoX,lenI] at hge
  have hkl:k=s.length:=by omega
  subst hkl
  rw [List.take_length] at hd
  exact Qcg ⟨items,f,rfl,hf,hd,by omega⟩
theorem QsZ (l:List Qad):∀ {out:List Qad},(l.foldl (Qr1 domB) out).length≤out.length+l.length:=by
 induction l with
 | nil=>intro out; simp
 | cons a r ih =>
  intro out
  have h1:=ih (out:=Qr1 domB out a)
  have h2:=QDK (out:=out) (n:=a)
  rw [List.foldl_cons,List.length_cons]
  omega
theorem Qxe (l:List Qad):∀ {out:List Qad},∀ b∈l.foldl (Qr1 domB) out,b∈out∨b∈l:=by
 induction l with
 | nil=>intro out b hb; exact .inl hb
 | cons a r ih =>
  intro out b hb
  rcases ih b hb with h|h
  ·rcases QDL h with h|rfl
   ·exact .inl h
   ·exact .inr (List.mem_cons_self ..)
  ·exact .inr (List.mem_cons_of_mem _ h)
theorem QDm (hx:QaV x) (h:LbI x l):(Qn3 x l).2.2=okL x l:=by unfold Qn3; cases okL x l <;> rfl
theorem QDr (hx:QaV x) {r:List (List Qaa)×Int} {r1 items cur out:List Qad} {f:Nat} {i:Int} (hf:f≤items.length) (hd:items.drop f=cur) (hi:items.length≤1000) (hc:∀ l∈cur,LbI x l) (ho:∀ l∈out,LbI x l) (hol:out.length≤900000) :
  QaK (fun q:List Qad×Qab×Int×Qab×List Qad=>Qdu r r1 i q.1 q.2.1 q.2.2.1 q.2.2.2.1 q.2.2.2.2) (items,x,(f:Int),x,out)=some (x,(cur.filter (okL x)).foldl (Qr1 domB) out):=by
 have hlen:cur.length=items.length-f:=by rw [← hd,List.length_drop]
 have:=Qep cur.length (fun k=>(items,x,((f+k:Nat):Int),x,((cur.take k).filter (okL x)).foldl (Qr1 domB) out))
  (B:=fun q:List Qad×Qab×Int×Qab×List Qad=>Qdu r r1 i q.1 q.2.1 q.2.2.1 q.2.2.2.1 q.2.2.2.2) (e:=(x,(cur.filter (okL x)).foldl (Qr1 domB) out)) (by omega) (fun k hk=>by
   have e:cur[k]?=some cur[k]:=List.getElem?_eq_getElem hk
   have hcI:=hc _ (List.getElem_mem hk)
   have hg:getI items ((f+k:Nat):Int)=some cur[k]:=QaR (by rw [← List.getElem?_drop,hd,e])
   have hol2:=QsZ (out:=out) ((cur.take k).filter (okL x))
   have hfl:=List.length_filter_le (okL x) (cur.take k)
   rw [List.length_take] at hfl
   have hoI:∀ b∈((cur.take k).filter (okL x)).foldl (Qr1 domB) out,LbI x b:=fun b hb=>by
    rcases Qxe _ b hb with h|h
    ·exact ho b h
    ·exact hc b (List.mem_of_mem_take (List.mem_filter.1 h).1)
   have htk:((cur.take (k+1)).filter (okL x))=(cur.take k).filter (okL x)++if okL x cur[k]=true then [cur[k]] else []:=by
    rw [List.take_add_one,e,List.filter_append]
    cases h:okL x cur[k] <;> simp [List.filter_cons,h]
   show Qdu r r1 i items x ((f+k:Nat):Int) x (((cur.take k).filter (okL x)).foldl (Qr1 domB) out)=_
   unfold Qdu QaX Qa5
   have hsz:gtI (subK .i64 (lenI items) ((f+k:Nat):Int)) 0=true:=by unfold lenI; rw [subI (by omega) (by omega)]; simp; omega
   have ek:addK .i64 ((f+k:Nat):Int) 1=((f+(k+1):Nat):Int):=(addI (by omega) (by omega)).trans (by omega)
   simp only
   rw [Qaj,Qbj hsz,hg,Qaj,Qaj,(QwW hx hcI).1,Qaj,QDm hx hcI,ek,htk]
   cases okL x cur[k] with
   | true =>
    rw [QcK,QDV hx hoI hcI (by omega),Qaj,if_pos rfl,List.foldl_append]
    rfl
   | false =>
    rw [Qca,if_neg (by decide),List.append_nil]) (by
   show Qdu r r1 i items x ((f+cur.length:Nat):Int) x (((cur.take cur.length).filter (okL x)).foldl (Qr1 domB) out)=_
   unfold Qdu QaX
   simp only
   rw [Qaj,QaW (by unfold lenI; rw [subI (by omega) (by omega)]; simp; omega),List.take_length])
 simpa using this
theorem QDb (hx:QaV x) (h0:0≤kind) (h1:kind<x.types.length) (hm:m<2 ^ x.orders.length) (hc:cntB m x.orders.length≤3):Qhz x kind (m:Int)=some (Qyn x kind m,0):=by
 have hm2:=QtA hx hm
 have hall:=Qy3 (x:=x) hc
 have hst:=(Qnc (kind:=kind) (m:=m) hx).len
 unfold Qhz
 rw [QaW (by simp [lenI]; omega),(QFU hx hm hc).1,Qaj,QaW (by simp),QBR hx (by constructor <;> omega),Qaj,Int.toNat_natCast]
 have hsix:∀ s∈allS x m,s.length≤6:=fun s hs=>QsP hc hs
 have hcl:=QBp (kind:=kind) hx hc
 unfold Qyn QvZ at *
 generalize allS x m=A at hall hsix hcl
 have:=Qep A.length (fun i=>(x,((A.take i).flatMap fun s=>(Qrf x kind m s).filter (okL x)).foldl (Qr1 domB) [],(i:Int)))
  (B:=fun q:Qab×List Qad×Int=>Qd3 (A,0) (Qh2 x kind m) q.1 q.2.1 q.2.2) (e:=(A.flatMap fun s=>(Qrf x kind m s).filter (okL x)).foldl (Qr1 domB) []) (by omega) (fun i hi=>by
   have e:A[i]?=some A[i]:=List.getElem?_eq_getElem hi
   have h6:=hsix _ (List.getElem_mem hi)
   show Qd3 (A,0) (Qh2 x kind m) x (((A.take i).flatMap fun s=>(Qrf x kind m s).filter (okL x)).foldl (Qr1 domB) []) (i:Int)=_
   unfold Qd3 Qa0
   simp only
   rw [Qbz e,QcL (Qek (by rw [List.length_append]; simp at hst ⊢; omega)),Qaj,List.nil_append]
   obtain ⟨q,hq,items,f,rfl,hf,hd,hb⟩:=QDq (kind:=kind) (m:=m) hx h6 (r:=(A,0)) (r1:=Qh2 x kind m) (out:=((A.take i).flatMap fun s=>(Qrf x kind m s).filter (okL x)).foldl (Qr1 domB) []) (i:=(i:Int))
   have hq:QaK (fun q:List Qad×Qab×Int×Qab×Int=>Qfi (A,0) (Qh2 x kind m) (((A.take i).flatMap fun s=>(Qrf x kind m s).filter (okL x)).foldl (Qr1 domB) []) (i:Int) A[i] q.1 q.2.1 q.2.2.1 q.2.2.2.1 q.2.2.2.2) (Qh2 x kind m,x,0,x,0)=some (items,x,(f:Int),x):=hq
   have hfk:=QsZ (out:=[]) ((A.take i).flatMap fun s=>(Qrf x kind m s).filter (okL x))
   have htl:=Qnw (f:=fun s=>(Qrf x kind m s).filter (okL x)) (l:=A) i
   have hlabs:=Qqj (kind:=kind) (m:=m) hx h6
   have h3:=QDr hx (r:=(A,0)) (r1:=Qh2 x kind m) (i:=(i:Int)) (out:=((A.take i).flatMap fun s=>(Qrf x kind m s).filter (okL x)).foldl (Qr1 domB) []) hf hd hb (fun l hl=>(hlabs.all l hl).1) (fun l hl=>by
    rcases Qxe _ l hl with h|h
    ·cases h
    ·obtain ⟨s,hs,hl⟩:=List.mem_flatMap.1 h
     exact (hcl.1 l (List.mem_flatMap.2 ⟨s,List.mem_of_mem_take hs,hl⟩)).1) (by simp only [List.length_nil] at hfk; omega)
   have ek:addK .i64 (i:Int) 1=((i+1:Nat):Int):=(addI (by omega) (by omega)).trans (by omega)
   rw [QbW hq]
   simp only
   rw [QbW h3]
   simp only
   rw [ek,QkP e,List.foldl_append]) (by
   show Qd3 (A,0) (Qh2 x kind m) x (((A.take A.length).flatMap fun s=>(Qrf x kind m s).filter (okL x)).foldl (Qr1 domB) []) (A.length:Int)=_
   unfold Qd3
   simp only
   rw [Qa4,List.take_length])
 rw [QbW (show QaK (fun q:Qab×List Qad×Int=>Qd3 (A,0) (Qh2 x kind m) q.1 q.2.1 q.2.2) (x,[],0)=_ from this)]
theorem QBx (hx:QaV x) (hc:cntB m x.orders.length≤3):Qyn x kind m=outI domB (QvZ x kind m) (QvZ x kind m).length∧(∀ g∈Qyn x kind m,g∈QvZ x kind m)∧(∀ k∈QvZ x kind m,∃ g∈Qyn x kind m,domB g k=true)∧(Qyn x kind m).Pairwise (fun a b=>domB a b=false∧domB b a=false):=by
 have:=QDJ (D:=domB) (P:=LbI x) (fun a h=>QDo h) (fun a b c ha hb hc h1 h2=>QBv ha hb hc h1 h2) (QvZ x kind m) fun a ha=>((QBp hx hc).1 a ha).1
 obtain ⟨h1,h2,h3,h4⟩:=this
 unfold Qyn
 rw [h1]
 exact ⟨rfl,h2,h3,h4⟩
theorem QDa (hx:QaV x) (hm:m<9223372036854775808) (hb:¬ (0≤kind∧kind<x.types.length)∨¬ m<2 ^ x.orders.length):Qhz x kind (m:Int)=some ([],2)∧Qmj x kind (m:Int)=some ([],2):=by
 by_cases hk:0≤kind∧kind<x.types.length
 ·have hb':¬ m<2 ^ x.orders.length:=by rcases hb with h|h; exact absurd hk h; exact h
  constructor
  ·unfold Qhz
   rw [QaW (by simp [lenI]; omega),(QCl hx hm hb').1,Qaj,Qbj (by decide)]
  ·unfold Qmj
   rw [QaW (by simp [lenI]; omega),(QCl hx hm hb').2,Qaj,Qbj (by decide)]
 ·constructor
  ·unfold Qhz
   rw [Qbj (by simp [lenI]; omega)]
  ·unfold Qmj
   rw [Qbj (by simp [lenI]; omega)]
theorem QE5 (hx:QaV x) (h:cntB m 63≤3):cntB m x.orders.length≤3:=Nat.le_trans (QBs (by have:=hx.orders; omega)) h
end
end Go.Proofs.YtfjiafgldchinaaGreatDoor
namespace Go.Proofs.YtfjiafgldchinaaGreatDoor
set_option linter.unusedSimpArgs false
set_option linter.unusedVariables false
set_option linter.unusedSectionVars false
section
variable {x : Qab} {l s : List Qaa} {r : Qam} {kind : Int} {m : Nat}
theorem QBu (hx:QaV x):QfT x=some (Qdc x.types:Int):=by
 have h1:=hx.types1
 unfold QfT
 cases ht:x.types with
 | nil=>rw [ht] at h1; simp at h1
 | cons t ts=>rw [QaW (by simp [lenI]; omega)]; rfl
theorem Qy1 (hx:QaV x) (hl:l.length≤1048576) {n:Nat} (hn:n≤l.length):Qgr x l (n:Int)=some (vecN (Qdc x.types) (Qwl x l n),0):=by
 obtain ⟨hd1,hd3⟩:=QsU hx
 have hx10:=hx.orders
 unfold Qgr
 have this:QaK (fun q:List (List Int)×Int=>QbI x l (n:Int) q.1 q.2) ([],0)=some (ldN x l n x.orders.length):=by
  have:=Qep x.orders.length (fun k=>(ldN x l n k,(k:Int))) (B:=fun q:List (List Int)×Int=>QbI x l (n:Int) q.1 q.2) (e:=ldN x l n x.orders.length) (by omega) (fun i hi=>by
   obtain ⟨o,eo,hmo,ho,hb,hp⟩:=QuJ hx hi
   show QbI x l (n:Int) (ldN x l n i) (i:Int)=some (Sum.inl (ldN x l n (i+1),((i+1:Nat):Int)))
   unfold QbI
   rw [Qbz eo]
   have inner:QaK (fun q:Bool×Bool×Int=>QbJ x l (n:Int) (ldN x l n i) (i:Int) q.1 q.2.1 q.2.2) (ltI o.pick.place 0,false,0)=some (onK x (l.take n) i,hasO l (i:Int)):=by
    have:=Qep l.length (fun k=>(onK x (l.take (min k n)) i,hasO (l.take k) (i:Int),(k:Int))) (B:=fun q:Bool×Bool×Int=>QbJ x l (n:Int) (ldN x l n i) (i:Int) q.1 q.2.1 q.2.2) (e:=(onK x (l.take n) i,hasO l (i:Int))) (by omega) (fun k hk=>by
     have e:l[k]?=some l[k]:=List.getElem?_eq_getElem hk
     generalize l[k]=v at e
     show QbJ x l (n:Int) (ldN x l n i) (i:Int) (onK x (l.take (min k n)) i) (hasO (l.take k) (i:Int)) (k:Int)=some (Sum.inl (onK x (l.take (min (k+1) n)) i,hasO (l.take (k+1)) (i:Int),((k+1:Nat):Int)))
     unfold QbJ
     have hh:hasO (l.take (k+1)) (i:Int)=(hasO (l.take k) (i:Int)||isO (i:Int) v):=by rw [take_one e]; simp [hasO]
     rw [Qbz e,incL e hl,hh]
     by_cases hv:v.order=(i:Int)
     ·rw [QaW (by simpa using hv),Qwh.2 hv,Bool.or_true]
      by_cases hkn:k<n
      ·rw [Qbj (by simpa using hkn),show min (k+1) n=k+1 by omega,QuI e,if_pos hv]
       rfl
      ·rw [QaW (by simp; omega),show min (k+1) n=min k n by omega]
       rfl
     ·have hvf:isO (i:Int) v=false:=by
       rw [Bool.eq_false_iff]
       exact fun h=>hv (Qwh.1 h)
      rw [Qbj (by simpa using hv),hvf,Bool.or_false]
      by_cases hkn:k<n
      ·rw [show min (k+1) n=k+1 by omega,QuI e,if_neg hv,show min k n=k by omega]
       rfl
      ·rw [show min (k+1) n=min k n by omega]
       rfl) (by
     show QbJ x l (n:Int) (ldN x l n i) (i:Int) (onK x (l.take (min l.length n)) i) (hasO (l.take l.length) (i:Int)) (l.length:Int)=_
     unfold QbJ
     rw [Qa4,List.take_length,show min l.length n=n by omega])
    have h0:(onK x (l.take (min 0 n)) i,hasO (l.take 0) (i:Int),((0:Nat):Int))=(ltI o.pick.place 0,false,0):=by
     rw [Nat.zero_min,List.take_zero]
     unfold onK hasO
     rw [List.foldl_nil,hp]
     congr 1
    rw [← h0]
    exact this
   rw [QbW inner]
   simp only
   rw [QaR eo,Qaj,ho,incL eo (by omega)]
   have hlen:=QzM (x:=x) (l:=l) (n:=n) i
   rw [QcL (by unfold okN; simp; omega),brs]
   show _=some (Sum.inl (ldN x l n i++(if (onK x (l.take n) i&&hasO l (i:Int))=true then [vecN (Qdc x.types) (QsF x i)] else []),((i+1:Nat):Int)))
   split <;> simp) (by
   show QbI x l (n:Int) (ldN x l n x.orders.length) (x.orders.length:Int)=_
   unfold QbI
   rw [Qa4])
  exact this
 rw [QbW this,(QBu hx),Qaj]
 have hlen:=QzM (x:=x) (l:=l) (n:=n) x.orders.length
 rw [QEn hd3 (by omega) (fun a ha=>by obtain ⟨j,rfl⟩:=QzN ha; exact QdV) (fun a ha d=>by
  obtain ⟨j,rfl⟩:=QzN ha
  rw [List.getD_eq_getElem?_getD]
  rcases Nat.lt_or_ge d (Qdc x.types) with h|h
  ·rw [QfG h]; exact Qwn hx j d
  ·rw [List.getElem?_eq_none (by rw [QdV]; omega)]; simp),Qaj]
 congr 2
 exact Qgy fun d hd=>QCN hd _
theorem Qyg (hx:QaV x) (hl:r.visits.length≤1048576) (h0:seqS x r.visits=0):Qgq x r=some (Qmg x r.visits (r.visits.length+1),0):=by
 unfold Qgq
 rw [Qu9 hx hl,Qaj,h0,QaW (by decide)]
 have this:QaK (fun q:List (List Int)×Int=>QbH x r q.1 q.2) ([],0)=some (.inl (Qmg x r.visits (r.visits.length+1))):=by
  have:=Qep (r.visits.length+1) (fun k=>(Qmg x r.visits k,(k:Int))) (B:=fun q:List (List Int)×Int=>QbH x r q.1 q.2) (e:=.inl (Qmg x r.visits (r.visits.length+1))) (by omega) (fun k hk=>by
   show QbH x r (Qmg x r.visits k) (k:Int)=some (Sum.inl (Qmg x r.visits (k+1),((k+1:Nat):Int)))
   unfold QbH
   rw [Qbj (by simp [lenI]; omega),Qy1 hx hl (by omega),Qaj,QEV,QcL (by unfold okN; simp [Qvy]; omega),addI (by omega) (by omega),Qyw]
   rfl) (by
   show QbH x r (Qmg x r.visits (r.visits.length+1)) ((r.visits.length+1:Nat):Int)=_
   unfold QbH
   rw [QaW (by simp [lenI]; omega)])
  exact this
 rw [QbW this]
 rfl
theorem QyZ (hx:QaV x) (hl:r.visits.length≤1000000) (h0:seqS x r.visits=0) (ht:0≤r.type_∧r.type_<x.types.length):QfS x r=some (fitS x r):=by
 obtain ⟨t1,t2⟩:=QyS ht.1 ht.2
 have hcap:=(hx.typ _ t2).cap
 have hd:=QsU hx
 have lens:∀ a∈Qmg x r.visits (r.visits.length+1),a.length=(typS x r).cap.length:=fun a ha=>by
  obtain ⟨k,_,rfl⟩:=List.mem_map.1 ha
  rw [QdV,hcap]
 have hlen:=Qvy (x:=x) (l:=r.visits) (n:=r.visits.length+1)
 unfold QfS
 rw [QaW (by simp [lenI]; omega),Qyg hx (by omega) h0,Qaj,QEV]
 rw [QbW (Qcv (B:=fun s=>Qcs x r (Qmg x r.visits (r.visits.length+1),0) s) (l:=Qmg x r.visits (r.visits.length+1)) (by omega) (Qsq (typS x r).cap) (y:=(.inr 17:Unit⊕Int)) (N:=.inl ()) (fun i a h=>by
  have hm:=lens a (List.mem_of_getElem? h)
  show Qcs x r (Qmg x r.visits (r.visits.length+1),0) i=_
  unfold Qcs
  rw [Qbz h,t1,Qaj,(Qvn hm (by omega)).2,Qaj,incL h (by omega)]
  cases Qsq (typS x r).cap a <;> rfl) (by
  show Qcs x r (Qmg x r.visits (r.visits.length+1),0) (Qmg x r.visits (r.visits.length+1)).length=_
  unfold Qcs
  rw [Qa4]))]
 unfold fitS
 split <;> rfl
theorem QBy (hx:QaV x) (hR:QDd r) (h9:¬ (9<r.visits.length∧r.visits.length≤20)) :
  post (QdS x r) fun E=>(E.2.2=0→E.2.1=scoS x r E.1∧∃ b,EvOK x r E.1 b)∧(E.2.2≠0→∀ s b,¬ EvOK x r s b):=by
 have hv:=hR.visits
 have no:∀ {A:Qap} {B:Qay} {e:Int},e≠0→(∀ s b,¬ EvOK x r s b)→post (some (A,B,e)) fun E=>(E.2.2=0→E.2.1=scoS x r E.1∧∃ b,EvOK x r E.1 b)∧(E.2.2≠0→∀ s b,¬ EvOK x r s b):=fun he hn=>Qaw.2 ⟨fun h=>absurd h he,fun _=>hn⟩
 unfold QdS
 by_cases ht:0≤r.type_∧r.type_<x.types.length
 ·rw [QaW (by simp [lenI]; omega),Qu9 hx hv,Qaj]
  by_cases hs:seqS x r.visits=0
  ·have hq:=QAD hs
   have h20:=hq.short hx
   rw [QaW (by simpa using hs)]
   have a2:QaK (fun s=>Qa9 x r s) 0=some (if r.visits.any (fun v=>!QrR x r v)=true then .inr (QtP,QFH,18) else .inl ()) :=
    Qcv (B:=fun s=>Qa9 x r s) hv (fun v=>!QrR x r v) (y:=(.inr (QtP,QFH,18):Unit⊕(Qap×Qay×Int))) (N:=.inl ()) (fun i a h=>by
     obtain ⟨o,g1,g2,g3,_⟩:=QEO (r:=r) hx ht (Qni hq.inn (List.mem_of_getElem? h))
     show Qa9 x r i=_
     unfold Qa9
     have hlt:=(List.getElem?_eq_some_iff.1 h).1
     rw [Qbj (by simp [lenI]; omega),(QyS ht.1 ht.2).1,Qaj,QaR h,Qaj,g1,Qaj,g3,Qaj,incL h hv]
     cases QrR x r a <;> rfl) (by
     show Qa9 x r r.visits.length=_
     unfold Qa9
     rw [QaW (by simp [lenI])])
   rw [a2,Qaj]
   by_cases hab:r.visits.any (fun v=>!QrR x r v)=true
   ·rw [if_pos hab,Qm6]
    refine no (by decide) fun s b h=>?_
    obtain ⟨v,hv',hh⟩:=List.any_eq_true.1 hab
    rw [h.able v hv'] at hh; cases hh
   ·rw [if_neg hab,Qdm,QyZ hx (by omega) hs ht,Qaj]
    by_cases hf:fitS x r=0
    ·rw [QaW (by simpa using hf)]
     obtain ⟨A,hA,hP⟩:=Qr7 hx hR h9
     rw [hA,Qaj]
     rcases hP with ⟨p1,rfl⟩|⟨p1,p2⟩
     ·rw [Qbj (by decide)]
      exact no (by decide) fun s b h=>p1 ⟨h.poss,h.rests⟩
     ·rcases p2 with ⟨b,fb,mb,rfl⟩|⟨nb,rfl⟩
      ·rw [QaW (by simp),Qvb hx hv ht,Qaj]
       refine Qaw.2 ⟨fun _=>⟨rfl,b,ht,hs,fun v hv'=>?_,hf,p1.1,p1.2,fb,mb,rfl⟩,fun h=>absurd rfl h⟩
       have:=List.any_eq_false.1 (by simpa using hab:r.visits.any (fun v=>!QrR x r v)=false) v hv'
       simpa using this
      ·have hno:¬ okB x.net (typS x r) (QaI x r) r.start (r.rests++List.replicate (r.visits.length+1-r.rests.length) false):=fun hok=>by
        refine nb _ ⟨?_,?_,hok⟩
        ·rw [QiR,List.length_append,List.length_replicate]; have:=p1.2; omega
        ·rw [← Qqk]; exact Qzu
       obtain ⟨n1,n2⟩:=QvL hno
       rw [Qbj (by simpa using n1)]
       exact no n1 fun s b h=>nb b h.full
    ·rw [Qbj (by simpa using hf)]
     exact no hf fun s b h=>hf h.fits
  ·rw [Qbj (by simpa using hs)]
   exact no hs fun s b h=>hs h.seq
 ·rw [Qbj (by simp [lenI]; omega)]
  exact no (by decide) fun s b h=>ht h.type_
def PrS (x:Qab) (kind:Int) (s:List Qaa) (p:Int):Prop:=∃ sh b,EvOK x (rutL kind s) sh b∧p=Qme (scoS x (rutL kind s) sh)
theorem QGB (h0:0≤kind) (h1:kind<x.types.length) (hx:QaV x) (hs:s.length≤8):QDd (rutL kind s)∧¬ (9<(rutL kind s).visits.length∧(rutL kind s).visits.length≤20):=by
 have:=hx.types
 refine ⟨⟨⟨by show -9223372036854775808≤kind; omega,by show kind≤9223372036854775807; omega⟩,⟨by show (-9223372036854775808:Int)≤0; omega,by show (0:Int)≤9223372036854775807; omega⟩,by show ([]:List Bool).length≤1048576; simp,by show s.length≤1048576; omega⟩,by show ¬ (9<s.length∧s.length≤20); omega⟩
theorem QBz (hx:QaV x) {sh:Qap} {b:List Bool} (h:EvOK x r sh b):QcI (scoS x r sh)=some (Qme (scoS x r sh),0):=by
 obtain ⟨c,mv,o,w,e,_,h1,h2,h3,h4,h5,h6,h7,h8,_⟩:=h.score hx
 rw [e]
 exact (Qyb (s:=Qay.mk c mv o w) ⟨h1,h2⟩ ⟨h3,by show mv≤15; omega⟩ ⟨h5,by show o≤15; omega⟩ ⟨h7,h8⟩).2
theorem QGa (hx:QaV x) (h0:0≤kind) (h1:kind<x.types.length) (hs:s.length≤8):∃ e,Qfd x (rutL kind s)=some e∧(e≠0→∀ p,¬ PrS x kind s p)∧(e=0→∃ p,Qfc x (rutL kind s)=some (p,0)∧PrS x kind s p):=by
 obtain ⟨hR,h9⟩:=QGB (s:=s) h0 h1 hx hs
 obtain ⟨E,hE,e1,e2⟩:=QBy hx hR h9
 refine ⟨E.2.2,by unfold Qfd; rw [hE]; rfl,fun he p hp=>?_,fun he=>?_⟩
 ·obtain ⟨sh,b,h,_⟩:=hp
  exact e2 he sh b h
 ·obtain ⟨f1,b,f2⟩:=e1 he
  refine ⟨Qme (scoS x (rutL kind s) E.1),?_,E.1,b,f2,rfl⟩
  unfold Qfc
  rw [hE,Qaj,QaW (by simpa using he),f1,QBz hx f2,Qaj]
theorem PrS.seq {p:Int} (h:PrS x kind s p):Qnf x s:=by
 obtain ⟨sh,b,h,_⟩:=h
 exact QAD h.seq
theorem PrS.one {p q:Int} (h:PrS x kind s p) (h':PrS x kind s q):p=q:=by
 obtain ⟨sh,b,h,rfl⟩:=h
 obtain ⟨sh',b',h',rfl⟩:=h'
 have:b=b':=QD3 h.full h'.full h.min h'.min
 rw [h.sheet,h'.sheet,this]
structure QA2 (x:Qab) (kind:Int) (m:Nat) (P:List Qaa→Prop) (c:Qas) (f:Bool):Prop where
 ty:c.type_=kind
 set_:c.set_=(m:Int)
 short:c.route.visits.length≤1048576
 no:f=false→∀ s p,P s→ordS s m→¬ PrS x kind s p
 yes:f=true→∃ s p,P s∧ordS s m∧PrS x kind s p∧c.price=p
 least:f=true→∀ s p,P s→ordS s m→PrS x kind s p→c.price≤p
theorem QA2.skip {P:List Qaa→Prop} {c:Qas} {f:Bool} (h:QA2 x kind m P c f) (hn:∀ p,ordS l m→¬ PrS x kind l p):QA2 x kind m (fun s=>P s∨s=l) c f :=
 ⟨h.ty,h.set_,h.short,fun hf s p hs ho=>by
  rcases hs with hs|rfl
  ·exact h.no hf s p hs ho
  ·exact hn p ho,fun hf=>by
  obtain ⟨s,p,h1,h2⟩:=h.yes hf
  exact ⟨s,p,.inl h1,h2⟩,fun hf s p hs ho hp=>by
  rcases hs with hs|rfl
  ·exact h.least hf s p hs ho hp
  ·exact absurd hp (hn p ho)⟩
theorem Qyk {a c:Qas} (ha:a.route.visits.length≤1048576) (hc:c.route.visits.length≤1048576):post (QfP a c) fun b=>(b=true→a.price≤c.price)∧(b=false→c.price≤a.price):=by
 unfold QfP
 refine QaE (fun h=>Qaw.2 ⟨fun hb=>?_,fun hb=>?_⟩) (fun h=>?_)
 ·rw [Qoi] at hb; omega
 ·rw [QoX] at hb; omega
 ·rw [QvF] at h
  have htot:post (Qg5 a.route.visits c.route.visits) fun _=>True:=by
   unfold Qg5
   refine QaP (R:=fun _=>True) ?_ fun e _=>?_
   ·refine Qct (fun i=>∃ k:Nat,i=(k:Int)∧k≤a.route.visits.length) (fun i=>a.route.visits.length-i.toNat) ⟨0,rfl,Nat.zero_le _⟩ (by simp; omega) ?_
    rintro _ ⟨k,rfl,hk⟩
    show post (Qed a.route.visits c.route.visits (k:Int)) _
    unfold Qed
    refine QaE (fun hb=>?_) (fun _=>Qcg trivial)
    rw [Bool.and_eq_true,Qoi,Qoi,lenI,lenI] at hb
    rw [Qyt (show k<a.route.visits.length by omega),Qaj,Qyt (show k<c.route.visits.length by omega),Qaj,addI (by omega) (by omega)]
    refine QaE (fun _=>Qc4 ⟨⟨k+1,by simp,by omega⟩,by simp; omega⟩) (fun _=>?_)
    unfold QhS
    rw [Qaj]
    exact Qcg trivial
   ·cases e with
    | inl u=>exact Qaw.2 trivial
    | inr b=>exact Qaw.2 trivial
  refine QaP htot fun b _=>Qaw.2 ⟨fun _=>by omega,fun _=>by omega⟩
theorem QGT (hx:QaV x) (hW:QlE x m l) (hl:l.length≤20):∃ k:Nat,QcH (rutL kind l)=some ((k:Int),0)∧ordS l k:=by
 have hinn:(rutL kind l).visits.any (fun v=>!inO x v)=false:=by
  rw [List.any_eq_false]
  intro v hv
  have:=hW.good.inn v hv
  simp [inO]
  omega
 obtain ⟨q,hq,q0,⟨j,hj,hj2,hj3⟩⟩:=QAb (r:=rutL kind l) hx (by show l.length≤_; omega) hinn
 exact ⟨j,by rw [hq]; congr 1; exact Prod.ext hj q0,hj3⟩
theorem QD8 {a b:Nat} (h1:ordS l a) (h2:ordS l b):a=b:=Nat.eq_of_testBit_eq fun i=>by rw [h1,h2]
theorem QAC (hx:QaV x) (h0:0≤kind) (h1:kind<x.types.length) (hm:m<2 ^ x.orders.length) (hc:cntB m x.orders.length≤3):∀ (k fuel:Nat) (l:List Qaa) (P:List Qaa→Prop) (c:Qas) (f:Bool),QlE x m l→l.length+k=(allV x m).length→k<fuel→QA2 x kind m P c f →
  post (QdT fuel x c f l) fun r=>∃ Q,QA2 x kind m Q r.1 r.2∧(∀ s,P s→Q s)∧(∀ s,Q s→P s∨QlE x m s)∧∀ t,Qnf x (l++t)→ordS (l++t) m→Q (l++t)
 | k,0,_,_,_,_,_,_,h,_=>by omega
 | k,fuel+1,l,P,c,f,hW,hk,hf,hI=>by
  have hm2:=QtA hx hm
  have h6:=Qre hc
  have hl:l.length≤6:=by omega
  show post (QeJ (QdT fuel) x c f l) _
  unfold QeJ
  rw [hI.set_,hI.ty,Qsx hx (by omega) hm2,Qaj]
  have hempty:∀ t,Qnf x (l++t)→ordS (l++t) m→QkV x m l x.orders.length=[]→t=[]:=fun t hq ho he=>by
   cases t with
   | nil=>rfl
   | cons v r=>have:=Qz5 hq ho; rw [he] at this; cases this
  refine QaE (fun he=>?_) (fun hne=>?_)
  ·have he:QkV x m l x.orders.length=[]:=List.eq_nil_of_length_eq_zero (by rw [QrZ,lenI] at he; omega)
   have fin:∀ (c':Qas) (f':Bool),QA2 x kind m (fun s=>P s∨s=l) c' f'→post (some (c',f')) fun r=>∃ Q,QA2 x kind m Q r.1 r.2∧(∀ s,P s→Q s)∧(∀ s,Q s→P s∨QlE x m s)∧∀ t,Qnf x (l++t)→ordS (l++t) m→Q (l++t):=fun c' f' hI'=>Qaw.2 ⟨_,hI',fun s hs=>.inl hs,fun s hs=>by
    rcases hs with hs|rfl
    ·exact .inl hs
    ·exact .inr hW,fun t hq ho=>.inr (by rw [hempty t hq ho he,List.append_nil])⟩
   obtain ⟨j,hj,hjo⟩:=QGT (kind:=kind) hx hW (by omega)
   show post (bnd (QcH (rutL kind l)) _) _
   rw [hj,Qaj]
   refine QaE (fun hjm=>fin c f (hI.skip fun p ho=>?_)) (fun hjm=>?_)
   ·rw [Qyy] at hjm
    exact absurd (QD8 hjo ho) (by omega)
   ·rw [QvF] at hjm
    have hjm:j=m:=by omega
    subst hjm
    obtain ⟨e,v1,v2,v3⟩:=QGa (s:=l) hx h0 h1 (by omega)
    show post (bnd (Qfd x (rutL kind l)) _) _
    rw [v1,Qaj]
    refine QaE (fun he0=>fin c f (hI.skip fun p ho=>?_)) (fun he0=>?_)
    ·rw [Qyy] at he0; exact v2 he0 p
    ·rw [QvF] at he0
     obtain ⟨p,p1,p2⟩:=v3 he0
     show post (bnd (Qfc x (rutL kind l)) _) _
     rw [p1,Qaj,QaW (by simp)]
     have new:(f=true→p≤c.price)→QA2 x kind j (fun s=>P s∨s=l) (Qas.mk kind (j:Int) p (rutL kind l)) true:=fun hle=>⟨rfl,rfl,by show l.length≤_; omega,fun h=>by (cases h),fun _=>⟨l,p,.inr rfl,hjo,p2,rfl⟩,fun _ s q hs ho hq=>by
      show p≤q
      rcases hs with hs|rfl
      ·cases hff:f with
       | false=>exact absurd hq (hI.no hff s q hs ho)
       | true=>exact Int.le_trans (hle hff) (hI.least hff s q hs ho hq)
      ·rw [p2.one hq]; exact Int.le_refl _⟩
     refine QaE (fun hft=>?_) (fun hff=>fin _ _ (new fun h=>by rw [hff] at h; cases h))
     refine QaP (Qyk (a:=Qas.mk kind (j:Int) p (rutL kind l)) (by show l.length≤_; omega) hI.short) fun b hb=>QaE (fun hbt=>fin _ _ (new fun _=>hb.1 hbt)) (fun hbf=>fin c f ?_)
     have hle:=hb.2 hbf
     exact ⟨hI.ty,hI.set_,hI.short,fun h=>(by rw [hft] at h; cases h),fun h=>by
      obtain ⟨s,q,q1,q2⟩:=hI.yes h
      exact ⟨s,q,.inl q1,q2⟩,fun h s q hs ho hq=>by
      rcases hs with hs|rfl
      ·exact hI.least h s q hs ho hq
      ·rw [hq.one p2]; exact hle⟩
  ·have hne':QkV x m l x.orders.length≠[]:=fun h=>by rw [h] at hne; simp [lenI] at hne
   obtain ⟨v0,hv0⟩:=List.exists_mem_of_ne_nil _ hne'
   have hk0:k≠0:=by
    intro h0; subst h0
    have:=QxH (hW.full (by omega))
    exact hne' this
   obtain ⟨k',rfl⟩:∃ k',k=k'+1:=⟨k-1,by omega⟩
   have hcnt:=Qnr (x:=x) (m:=m) (l:=l) x.orders.length
   have h10:=hx.orders
   have hmem:∀ v∈QkV x m l x.orders.length,QlE x m (l++[v]):=fun v hv=>hW.snoc hv
   have hin:∀ t,Qnf x (l++t)→ordS (l++t) m→∃ v r,t=v :: r∧v∈QkV x m l x.orders.length:=fun t hq ho=>by
    cases t with
    | nil =>
     rw [List.append_nil] at hq ho
     exact absurd (QD4 hq ho _) hne'
    | cons v r=>exact ⟨v,r,rfl,Qz5 hq ho⟩
   generalize QkV x m l x.orders.length=N at *
   refine QaP (R:=fun e:Qas×Bool=>∃ Q,QA2 x kind m Q e.1 e.2∧(∀ s,P s→Q s)∧(∀ s,Q s→P s∨QlE x m s)∧∀ t,Qnf x (l++t)→ordS (l++t) m→Q (l++t)) ?_ fun e he=>Qaw.2 he
   refine Qct (fun s:Qas×Bool×Int=>∃ i:Nat,s.2.2=(i:Int)∧i≤N.length∧∃ Q,QA2 x kind m Q s.1 s.2.1∧(∀ s,P s→Q s)∧(∀ s,Q s→P s∨QlE x m s)∧∀ v r,v∈N.take i→Qnf x (l++v :: r)→ordS (l++v :: r) m→Q (l++v :: r)) (fun s=>N.length-s.2.2.toNat) ⟨0,rfl,Nat.zero_le _,P,hI,fun s hs=>hs,fun s hs=>.inl hs,fun v r hv=>by simp at hv⟩ (by simp; omega) ?_
   rintro ⟨c1,f1,_⟩ ⟨i,rfl,hi,Q,hQ,q1,q2,q3⟩
   show post (Qdl (QdT fuel) x l N c1 f1 (i:Int)) _
   unfold Qdl
   refine QaE (fun hb=>?_) (fun hb=>Qcg ?_)
   ·simp only [Qoi,lenI] at hb
    have hi':i<N.length:=by omega
    have e:N[i]?=some N[i]:=List.getElem?_eq_getElem hi'
    have hW':=hmem _ (List.getElem_mem hi')
    refine Qbc (Qek (by omega)) ?_
    rw [QaR e,Qaj]
    refine Qbc (Qek (by rw [List.length_append]; simp; omega)) (QaP (QAC hx h0 h1 hm hc k' fuel (l++[N[i]]) Q c1 f1 hW' (by rw [List.length_append]; simp; omega) (by omega) hQ) fun r hr=>?_)
    obtain ⟨Q',hQ',w1,w2,w3⟩:=hr
    have ek:addK .i64 (i:Int) 1=((i+1:Nat):Int):=(addI (by omega) (by omega)).trans (by omega)
    rw [ek]
    refine Qc4 ⟨⟨i+1,rfl,hi',Q',hQ',fun s hs=>w1 s (q1 s hs),fun s hs=>?_,fun v t hv hq ho=>?_⟩,by show N.length-((i+1:Nat):Int).toNat<N.length-(i:Int).toNat; omega⟩
    ·rcases w2 s hs with h|h
     ·exact q2 s h
     ·exact .inr h
    ·rw [List.take_add_one,e] at hv
     rcases List.mem_append.1 hv with hv|hv
     ·exact w1 _ (q3 v t hv hq ho)
     ·have hv:v=N[i]:=by simpa using hv
      subst hv
      have:=w3 t (by rw [List.append_assoc]; exact hq) (by rw [List.append_assoc]; exact ho)
      rwa [List.append_assoc] at this
   ·simp only [QoX,lenI] at hb
    refine ⟨Q,hQ,q1,q2,fun t hq ho=>?_⟩
    obtain ⟨v,r,rfl,hv⟩:=hin t hq ho
    exact q3 v r (by rw [List.take_of_length_le (by omega)]; exact hv) hq ho
theorem Qzq (hx:QaV x) (hm:m<9223372036854775808):QfQ x (m:Int)=some (decide (0<m∧m<2 ^ x.orders.length)):=by
 have h10:=hx.orders
 unfold QfQ
 have:QaK (fun s:Int×Int=>Qby x (m:Int) s.1 s.2) ((m:Int),0)=some (((m / 2 ^ x.orders.length:Nat):Int)):=by
  have:=Qep x.orders.length (fun i=>(((m / 2 ^ i:Nat):Int),(i:Int))) (B:=fun s:Int×Int=>Qby x (m:Int) s.1 s.2) (e:=((m / 2 ^ x.orders.length:Nat):Int)) (by omega) (fun i hi=>by
   have hd:m / 2 ^ i≤m:=Nat.div_le_self ..
   have ek:addK .i64 (i:Int) 1=((i+1:Nat):Int):=(addI (by omega) (by omega)).trans (by omega)
   show Qby x (m:Int) ((m / 2 ^ i:Nat):Int) (i:Int)=_
   unfold Qby
   rw [Qbj (by simp [lenI]; omega),show (2:Int)=((2:Nat):Int) from rfl,quoN (by omega),Nat.div_div_eq_div_mul,← Nat.pow_succ,ek]) (by
   show Qby x (m:Int) ((m / 2 ^ x.orders.length:Nat):Int) (x.orders.length:Int)=_
   unfold Qby
   rw [QaW (by simp [lenI])])
  simpa using this
 rw [QbW this]
 congr 1
 rw [Bool.eq_iff_iff,Bool.and_eq_true,Qwg,QrZ,decide_eq_true_eq]
 have h2:=Nat.two_pow_pos x.orders.length
 constructor
 ·rintro ⟨h,h'⟩
  have:m / 2 ^ x.orders.length=0:=by omega
  rcases (Nat.div_eq_zero_iff).1 this with h'|h'
  ·omega
  ·exact ⟨by omega,h'⟩
 ·rintro ⟨h,h'⟩
  rw [Nat.div_eq_of_lt h']
  exact ⟨by omega,rfl⟩
theorem Qyf (hx:QaV x) (h0:0≤kind) (h1:kind<x.types.length) (hm:m<2 ^ x.orders.length) (hm0:0<m) (hc:cntB m x.orders.length≤3):post (QeU x kind (m:Int)) fun r =>
  (r.2=0∨r.2=24)∧(r.2=0→(∃ s p,ordS s m∧PrS x kind s p∧r.1.price=p)∧∀ s p,ordS s m→PrS x kind s p→r.1.price≤p)∧(r.2=24→∀ s p,ordS s m→¬ PrS x kind s p):=by
 have hm2:=QtA hx hm
 unfold QeU
 rw [QaW (by simp [lenI]; omega),Qzq hx (by omega),Qaj,Qbj (by simp; omega)]
 unfold Qj0
 refine QaP (QAC hx h0 h1 hm hc (allV x m).length Qmy [] (fun _=>False) (Qas.mk kind (m:Int) 0 (Qam.mk 0 0 [] [])) false .nil (by simp) (by have:=Qre hc; unfold Qmy; omega) ⟨rfl,rfl,by show ([]:List Qaa).length≤_; simp,fun _ s p h=>h.elim,fun h=>by (cases h),fun h=>by (cases h)⟩) fun r hr=>?_
 obtain ⟨Q,hQ,_,q2,q3⟩:=hr
 have hall:∀ s p,ordS s m→PrS x kind s p→Q s:=fun s p ho hp=>by
  have:=q3 s (by rw [List.nil_append]; exact hp.seq) (by rw [List.nil_append]; exact ho)
  rwa [List.nil_append] at this
 refine QaE (fun hf=>Qaw.2 ⟨.inl rfl,fun _=>⟨?_,fun s p ho hp=>hQ.least hf s p (hall s p ho hp) ho hp⟩,fun h=>by (cases h)⟩) (fun hf=>Qaw.2 ⟨.inr rfl,fun h=>by (cases h),fun _ s p ho hp=>hQ.no hf s p (hall s p ho hp) ho hp⟩)
 obtain ⟨s,p,_,h2,h3,h4⟩:=hQ.yes hf
 exact ⟨s,p,h2,h3,h4⟩
end
end Go.Proofs.YtfjiafgldchinaaGreatDoor
namespace Go.Proofs.YtfjiafgldchinaaGreatDoor
set_option linter.unusedSimpArgs false
set_option linter.unusedVariables false
set_option linter.unusedSectionVars false
def opB (x:Qab) (m:Nat) (l:List Qaa) (i:Nat):Bool:=m.testBit i&&(Qvl x i&&((pk0 x i||l.any (isV (Qaa.mk (i:Int) false)))&&!l.any (isV (Qaa.mk (i:Int) true))))
structure QA4 (x:Qab) (m:Nat) (s:List Qaa) (k:Nat) (n:Qad):Prop where
 vis:n.visits=s.take k
 done:∀ i:Nat,n.done.toNat.testBit i=hasO (s.take k) (i:Int)
 open_:∀ i:Nat,n.open_.toNat.testBit i=opB x m (s.take k) i
 load:n.load=vecN (Qdc x.types) (Qwl x s k)
def SkOK (x:Qab) (kind:Int) (m:Nat):Prop:=∀ i:Nat,m.testBit i=true→ablB (Qa7 x kind) (skO x i)=true
def LdOK (x:Qab) (kind:Int) (s:List Qaa) (k:Nat):Prop:=∀ j,j≤k→Qsq (Qa7 x kind).cap (vecN (Qdc x.types) (Qwl x s j))=false
section
variable {x : Qab} {l s t : List Qaa} {kind : Int} {m k : Nat} {n : Qad} {c : Bool} {v : Qaa} {st : Qar} {b : List Bool}
theorem QAQ (d:Nat):∀ n,sumF (stO x d) (memS m n)=sumN n fun i=>if (m.testBit i&&pk0 x i)=true then QsF x i d else 0
 | 0=>rfl
 | n+1=>by
  show sumF (stO x d) (memS m n++(if m.testBit n=true then [(n:Int)] else []))=sumN n _+(if (m.testBit n&&pk0 x n)=true then QsF x n d else 0)
  rw [QtI,QAQ d n]
  by_cases hh:m.testBit n=true
  ·rw [if_pos hh,QtJ,hh,Bool.true_and]; rfl
  ·rw [if_neg hh,QAP,if_neg (by simp [hh])]
theorem QBW (ho:ordS s m) (d:Nat):sumF (stO x d) (memS m x.orders.length)=Qwl x s 0 d:=by
 rw [QAQ]
 unfold Qwl
 refine Qh3 _ fun i hi=>?_
 unfold incl
 rw [List.take_zero,ho]
 rfl
theorem Qzn (hx:QaV x) {i:Nat} (hi:i<x.orders.length) (hp:pk0 x i=true):Qvl x i=true:=by
 have e:x.orders[i]?=some x.orders[i]:=List.getElem?_eq_getElem hi
 have hO:=hx.ord _ (List.getElem_mem hi)
 have h1:=hO.pick
 have h2:=hO.drop
 have h3:=hO.one
 unfold pk0 at hp
 rw [e] at hp
 simp only [decide_eq_true_eq] at hp
 unfold Qvl
 rw [e]
 simp only [Qqs]
 unfold Qyi at h1 h2
 omega
theorem Qx9 (hx:QaV x) {i:Nat} (hi:i<x.orders.length):visO x (i:Int)=(if pk0 x i=true then [] else [Qaa.mk (i:Int) false])++(if Qvl x i=true then [Qaa.mk (i:Int) true] else []):=by
 have e:x.orders[i]?=some x.orders[i]:=List.getElem?_eq_getElem hi
 unfold visO pk0 Qvl
 rw [Int.toNat_natCast,e]
 simp only [decide_eq_true_eq,Qqs]
 by_cases hp:0≤x.orders[i].pick.place
 ·rw [if_pos hp,if_neg (show ¬ x.orders[i].pick.place<0 by omega)]
 ·rw [if_neg hp,if_pos (show x.orders[i].pick.place<0 by omega)]
theorem Qu2 (hx:QaV x) (hm:m<2 ^ x.orders.length) (ho:ordS s m):QA4 x m s 0 (Qu5 x kind m):=by
 refine ⟨rfl,fun i=>by show (0:Int).toNat.testBit i=false; simp,fun i=>?_,?_⟩
 ·show (((Qyz x m x.orders.length:Nat):Int)).toNat.testBit i=_
  rw [Int.toNat_natCast,QxO]
  unfold opB
  rw [List.take_zero]
  cases hb:m.testBit i with
  | false=>simp
  | true =>
   have hi:=QvO hm hb
   cases hp:pk0 x i with
   | false=>simp
   | true=>rw [Qzn hx hi hp]; simp [hi]
 ·exact Qgy fun d _=>QBW ho d
structure SqI (x:Qab) (m:Nat) (s:List Qaa):Prop where
 set_:m<2 ^ x.orders.length
 seq:Qnf x s
 ord:ordS s m
 alw:AlwS x m
theorem SqI.cut (h:SqI x m s) {k:Nat} (hk:s[k]?=some v):s=s.take k++v :: s.drop (k+1):=by
 have hlt:=(List.getElem?_eq_some_iff.1 hk).1
 have:=(List.getElem?_eq_some_iff.1 hk).2
 rw [← this,← List.drop_eq_getElem_cons hlt,List.take_append_drop]
theorem SqI.ready (h:SqI x m s) {k:Nat} (hk:s[k]?=some v):QjP x (s.take k) v=true:=by
 have:=h.seq
 rw [h.cut hk] at this
 exact this.ready
theorem SqI.vis (h:SqI x m s) (hv:v∈s):∃ j:Nat,v.order=j∧j<x.orders.length∧m.testBit j=true∧v∈visO x (j:Int):=by
 have hin:=Qni h.seq.inn hv
 refine ⟨v.order.toNat,by omega,by omega,?_,?_⟩
 ·rw [h.ord,Int.toNat_of_nonneg hin.1]; exact Qhy.2 ⟨v,hv,rfl⟩
 ·rw [Int.toNat_of_nonneg hin.1]; exact h.seq.own hv
theorem Qxi {l:List Qaa} {o:Int}:hasO (l++[v]) o=(hasO l o||isO o v):=by simp [hasO]
theorem Qrh {l:List Qaa} {w:Qaa}:(l++[v]).any (isV w)=(l.any (isV w)||isV w v):=by simp
theorem QDG {w:Qaa} (h:w≠v):isV w v=false:=by
 rw [Bool.eq_false_iff]
 intro hh
 exact h (Qxl.1 hh).symm
theorem QD7 (hx:QaV x) (h:SqI x m s) (hk:s[k]?=some v) (hS:∀ i:Nat,n.open_.toNat.testBit i=opB x m (s.take k) i) (i:Nat):(Qz8 x n v).testBit i=opB x m (s.take (k+1)) i:=by
 have hv:=List.mem_of_getElem? hk
 obtain ⟨j,hj,hjl,hjm,hjv⟩:=h.vis hv
 have hrd:=Qgv (h.ready hk)
 have htk:s.take (k+1)=s.take k++[v]:=take_one hk
 rw [htk]
 unfold Qz8
 rw [hj,Int.toNat_natCast]
 by_cases hij:i=j
 ·subst hij
  have hvis:=Qx9 hx hjl
  cases hd:v.drop with
  | true =>
   have hve:v=Qaa.mk (i:Int) true:=by cases v; simp only at hj hd; rw [hj,hd]
   rw [if_pos rfl,Nat.testBit_xor,Nat.testBit_two_pow_self,hS]
   have h1:Qvl x i=true:=by
    cases hdp:Qvl x i with
    | true=>rfl
    | false =>
     rw [hvis,hdp] at hjv
     rw [hve] at hjv
     cases hp:pk0 x i <;> rw [hp] at hjv <;> simp at hjv
   have h2:(pk0 x i||(s.take k).any (isV (Qaa.mk (i:Int) false)))=true:=by
    cases hp:pk0 x i with
    | true=>rfl
    | false =>
     rw [Bool.false_or,Qrg]
     refine hrd.2.1 _ ?_
     rw [hj,hvis,hp,h1,hve]
     simp [QpJ]
   have h3:(s.take k).any (isV (Qaa.mk (i:Int) true))=false:=by rw [Bool.eq_false_iff,Ne,Qrg,← hve]; exact hrd.1
   unfold opB
   rw [Qrh,Qrh,hjm,h1,h2,h3,← hve,Qxl.2 rfl]
   simp
  | false =>
   have hve:v=Qaa.mk (i:Int) false:=by cases v; simp only at hj hd; rw [hj,hd]
   rw [if_neg (by decide)]
   cases hdp:Qvl x i with
   | false =>
    rw [if_neg (by decide),hS]
    unfold opB
    rw [hdp]; simp
   | true =>
    rw [if_pos rfl,Nat.testBit_or,Nat.testBit_two_pow_self,Bool.or_true]
    have hpk:pk0 x i=false:=by
     cases hp:pk0 x i with
     | false=>rfl
     | true=>rw [hvis,hp,hdp,hve] at hjv; simp at hjv
    have h3:(s.take k).any (isV (Qaa.mk (i:Int) true))=false:=by
     rw [Bool.eq_false_iff,Ne,Qrg]
     intro hin
     -- the delivery lies behind the pickup
     obtain ⟨q,hq⟩:=List.getElem?_of_mem hin
     have hqk:q<k:=by have:=(List.getElem?_eq_some_iff.1 hq).1; rw [List.length_take] at this; omega
     rw [List.getElem?_take,if_pos hqk] at hq
     have hh:=(Qgv (h.ready hq)).2.1 v (by rw [show (Qaa.mk (i:Int) true).order=(i:Int) from rfl,hvis,hpk,hdp,hve]; simp [QpJ])
     exact hrd.1 (by
      obtain ⟨q2,hq2⟩:=List.getElem?_of_mem hh
      have:=(List.getElem?_eq_some_iff.1 hq2).1
      rw [List.length_take] at this
      rw [List.getElem?_take,if_pos (by omega)] at hq2
      exact List.mem_of_getElem? (i:=q2) (by rw [List.getElem?_take,if_pos (by omega)]; exact hq2))
    unfold opB
    rw [Qrh,Qrh,hjm,hdp,h3,← hve,Qxl.2 rfl,QDG (w:=Qaa.mk (i:Int) true) (by rw [hve]; simp)]
    simp
 ·have e1:opB x m (s.take k++[v]) i=opB x m (s.take k) i:=by
   unfold opB
   rw [Qrh,Qrh,QDG (w:=Qaa.mk (i:Int) false) (fun e=>by rw [← e] at hj; simp only at hj; omega),QDG (w:=Qaa.mk (i:Int) true) (fun e=>by rw [← e] at hj; simp only at hj; omega),Bool.or_false,Bool.or_false]
  rw [e1,← hS]
  have h2:(2 ^ j).testBit i=false:=by rw [Nat.testBit_two_pow]; simp; omega
  split
  ·rw [Nat.testBit_xor,h2,Bool.xor_false]
  ·split
   ·rw [Nat.testBit_or,h2,Bool.or_false]
   ·rfl
theorem QA4.pick {ty:Qag} (h:QA4 x m s k n):QA4 x m s k (QiK ty n c):=by
 cases c with
 | false=>exact h
 | true=>exact ⟨h.vis,h.done,h.open_,h.load⟩
theorem Qx1 (hx:QaV x) (h:SqI x m s) (hk:s[k]?=some v) (hS:QA4 x m s k n):QA4 x m s (k+1) (QB3 x n v st):=by
 have hv:=List.mem_of_getElem? hk
 obtain ⟨j,hj,hjl,hjm,hjv⟩:=h.vis hv
 have htk:s.take (k+1)=s.take k++[v]:=take_one hk
 refine ⟨?_,fun i=>?_,fun i=>?_,?_⟩
 ·show n.visits++[v]=_
  rw [hS.vis,htk]
 ·show (((n.done.toNat ||| 2 ^ v.order.toNat:Nat):Int)).toNat.testBit i=_
  rw [Int.toNat_natCast,Nat.testBit_or,hS.done,htk,Qxi,hj,Int.toNat_natCast,Nat.testBit_two_pow]
  congr 1
  unfold isO
  rw [hj,Bool.eq_iff_iff,decide_eq_true_eq,QrZ]
  omega
 ·show (((Qz8 x n v:Nat):Int)).toNat.testBit i=_
  rw [Int.toNat_natCast]
  exact QD7 hx h hk hS.open_ i
 ·show Qwm x n v=_
  unfold Qwm
  refine Qgy fun d hd=>?_
  have hg:n.load.getD d 0=Qwl x s k d:=by rw [hS.load,List.getD_eq_getElem?_getD,QfG hd]; rfl
  rw [QzR hx h.seq hk hj d,hg,hj,Int.toNat_natCast]
theorem Qvt {a:Nat} {i:Int} (h:0≤i):inS a i=a.testBit i.toNat:=by unfold inS; simp [h]
theorem QEk (hx:QaV x) (h:SqI x m s) (hk:s[k]?=some v) (hS:QA4 x m s k n) (hty:n.type_=kind) (hsk:SkOK x kind m):fitB x n v=true:=by
 have hv:=List.mem_of_getElem? hk
 obtain ⟨j,hj,hjl,hjm,hjv⟩:=h.vis hv
 have hrd:=Qgv (h.ready hk)
 have hvis:=Qx9 hx hjl
 have hdone:∀ i:Nat,n.done.toNat.testBit i=true→m.testBit i=true:=fun i hi=>by
  rw [hS.done] at hi
  obtain ⟨w,hw,ho⟩:=Qhy.1 hi
  rw [h.ord]
  exact Qhy.2 ⟨w,List.mem_of_mem_take hw,ho⟩
 have hopen:∀ i:Nat,n.open_.toNat.testBit i=true→m.testBit i=true:=fun i hi=>by
  rw [hS.open_] at hi
  unfold opB at hi
  rw [Bool.and_eq_true] at hi
  exact hi.1
 have hhere:∀ i:Nat,(Qxj n).testBit i=true→m.testBit i=true:=fun i hi=>by
  unfold Qxj at hi
  rw [Nat.testBit_or,Bool.or_eq_true] at hi
  rcases hi with hi|hi
  ·exact hdone i hi
  ·exact hopen i hi
 unfold fitB
 rw [hty,hj,Int.toNat_natCast,h.alw.off j hjm,hsk j hjm]
 simp only [Bool.not_false,Bool.true_and,Bool.and_eq_true]
 refine ⟨?_,?_,?_⟩
 ·rw [Qvs,Qvs]
  cases hd:v.drop with
  | true =>
   have hve:v=Qaa.mk (j:Int) true:=by cases v; simp only at hj hd; rw [hj,hd]
   rw [if_pos rfl,hS.open_]
   have h1:Qvl x j=true:=by
    cases hdp:Qvl x j with
    | true=>rfl
    | false =>
     rw [hvis,hdp] at hjv
     rw [hve] at hjv
     cases hp:pk0 x j <;> rw [hp] at hjv <;> simp at hjv
   have h2:(pk0 x j||(s.take k).any (isV (Qaa.mk (j:Int) false)))=true:=by
    cases hp:pk0 x j with
    | true=>rfl
    | false =>
     rw [Bool.false_or,Qrg]
     refine hrd.2.1 _ ?_
     rw [hj,hvis,hp,h1,hve]
     simp [QpJ]
   have h3:(s.take k).any (isV (Qaa.mk (j:Int) true))=false:=by rw [Bool.eq_false_iff,Ne,Qrg,← hve]; exact hrd.1
   unfold opB
   rw [hjm,h1,h2,h3]; rfl
  | false =>
   have hve:v=Qaa.mk (j:Int) false:=by cases v; simp only at hj hd; rw [hj,hd]
   rw [if_neg (by decide),hS.done,Bool.not_eq_true']
   rw [Bool.eq_false_iff]
   intro hh
   obtain ⟨w,hw,ho⟩:=Qhy.1 hh
   have hws:=List.mem_of_mem_take hw
   have hwo:=h.seq.own hws
   rw [ho,hvis] at hwo
   have hwe:w=Qaa.mk (j:Int) true:=by
    rcases List.mem_append.1 hwo with hwo|hwo
    ·split at hwo
     ·cases hwo
     ·rw [List.mem_singleton.1 hwo] at hw
      exact absurd (hve ▸ hw) hrd.1
    ·split at hwo
     ·exact List.mem_singleton.1 hwo
     ·cases hwo
   subst hwe
   obtain ⟨q,hq⟩:=List.getElem?_of_mem hw
   have hqk:q<k:=by have:=(List.getElem?_eq_some_iff.1 hq).1; rw [List.length_take] at this; omega
   rw [List.getElem?_take,if_pos hqk] at hq
   have hdp:Qvl x j=true:=by
    cases hdp:Qvl x j with
    | true=>rfl
    | false=>rw [hdp] at hwo; cases hp:pk0 x j <;> rw [hp] at hwo <;> simp at hwo
   have hpk:pk0 x j=false:=by
    cases hp:pk0 x j with
    | false=>rfl
    | true=>rw [hvis,hp,hdp,hve] at hjv; simp at hjv
   have hh:=(Qgv (h.ready hq)).2.1 v (by rw [show (Qaa.mk (j:Int) true).order=(j:Int) from rfl,hvis,hpk,hdp,hve]; simp [QpJ])
   refine hrd.1 ?_
   obtain ⟨q2,hq2⟩:=List.getElem?_of_mem hh
   have:=(List.getElem?_eq_some_iff.1 hq2).1
   rw [List.length_take] at this
   rw [List.getElem?_take,if_pos (by omega)] at hq2
   exact List.mem_of_getElem? (i:=q2) (by rw [List.getElem?_take,if_pos (by omega)]; exact hq2)
 ·rw [Bool.not_eq_true',List.any_eq_false]
  intro p hp hh
  obtain ⟨p0,p1,p2,p3,p4⟩:=hx.aparts p hp
  unfold QBt at hh
  simp only [Bool.or_eq_true,Bool.and_eq_true,QrZ] at hh
  rw [Qvt p2,Qvt p0] at hh
  rcases hh with ⟨h1,h2⟩|⟨h1,h2⟩
  ·exact h.alw.apart p hp ⟨by rw [h1,hj,Int.toNat_natCast]; exact hjm,hhere _ h2⟩
  ·exact h.alw.apart p hp ⟨hhere _ h2,by rw [h1,hj,Int.toNat_natCast]; exact hjm⟩
 ·rw [Bool.or_eq_true]
  refine .inr ?_
  rw [Bool.not_eq_true',List.any_eq_false]
  intro p hp hh
  obtain ⟨p0,p1,p2,p3,p4⟩:=hx.befores p hp
  unfold QBS at hh
  rw [Bool.and_eq_true,QrZ,Bool.not_eq_true',Qvt p0,Qvt p0] at hh
  obtain ⟨h1,h2⟩:=hh
  obtain ⟨a,ha⟩:∃ a:Nat,p.x0=a:=⟨p.x0.toNat,by omega⟩
  have hal:a<x.orders.length:=by omega
  have hall:=Qtp.1 hrd.2.2 p hp h1
  rw [ha,Int.toNat_natCast] at h2
  rw [ha] at hall
  obtain ⟨w,hw⟩:=QvX hx hal
  have hd:n.done.toNat.testBit a=true:=by rw [hS.done]; exact Qhy.2 ⟨w,hall w hw,QcG hw⟩
  have ho:n.open_.toNat.testBit a=false:=by
   rw [hS.open_]
   unfold opB
   cases hdp:Qvl x a with
   | false=>simp
   | true =>
    have:(s.take k).any (isV (Qaa.mk (a:Int) true))=true:=Qrg.2 (hall _ (by rw [Qx9 hx hal,hdp]; simp))
    rw [this]; simp
  rw [hd,ho] at h2
  cases h2
theorem QEj (hx:QaV x) (h:SqI x m s) (hS:QA4 x m s s.length n) (hn:LbI x n):n.open_=0:=by
 obtain ⟨q,hq,_⟩:=hn.open_
 have:n.open_.toNat=0:=Nat.eq_of_testBit_eq fun i=>by
  rw [hS.open_,Nat.zero_testBit,List.take_length]
  unfold opB
  cases hb:m.testBit i with
  | false=>rfl
  | true =>
   cases hdp:Qvl x i with
   | false=>rfl
   | true =>
    have hi:=QvO h.set_ hb
    have ho:=hb
    rw [h.ord] at ho
    have:s.any (isV (Qaa.mk (i:Int) true))=true:=Qrg.2 (h.seq.all ho (by rw [Qx9 hx hi,hdp]; simp))
    rw [this]; simp
 omega
theorem QF0 {ty:Qag} {a:Int}:QFJ ty a=ablB ty a:=by
 unfold QFJ ablB
 cases QfJ ty a <;> rfl
theorem QAE (h:SqI x m s) (hv:v∈s):QrR x (rutL kind s) v=ablB (Qa7 x kind) (skO x v.order.toNat):=by
 have hin:=Qni h.seq.inn hv
 have e:x.orders[v.order.toNat]?=some (x.orders[v.order.toNat]'(by omega)):=List.getElem?_eq_getElem _
 unfold QrR skO
 rw [e]
 exact QF0
theorem QxW (h:SqI x m s):SkOK x kind m↔∀ v∈s,QrR x (rutL kind s) v=true:=by
 constructor
 ·intro hs v hv
  obtain ⟨j,hj,_,hjm,_⟩:=h.vis hv
  rw [QAE h hv,hj,Int.toNat_natCast]
  exact hs j hjm
 ·intro hs i hi
  rw [h.ord] at hi
  obtain ⟨v,hv,ho⟩:=Qhy.1 hi
  have:=hs v hv
  rw [QAE h hv,ho,Int.toNat_natCast] at this
  exact this
theorem QxA (hx:QaV x) (h:SqI x m s) (h0:0≤kind) (h1:kind<x.types.length):mayB x kind m=true↔SkOK x kind m:=by
 have hm0:0<m:=by
  rcases Nat.eq_zero_or_pos m with h'|h'
  ·exfalso
   cases hs:s with
   | nil=>exact h.seq.ne (by rw [hs]; rfl)
   | cons v r =>
    obtain ⟨j,_,_,hjm,_⟩:=h.vis (v:=v) (by rw [hs]; simp)
    rw [h'] at hjm; simp at hjm
  ·exact h'
 have hoff:QED x m=false:=by
  unfold QED
  rw [List.any_eq_false]
  intro i hi
  obtain ⟨k,rfl,_,hk⟩:=QuE.1 hi
  rw [Int.toNat_natCast,h.alw.off k hk]
  decide
 have hpr:QyC x m=true:=by
  unfold QyC
  rw [Bool.and_eq_true,Bool.not_eq_true',Bool.not_eq_true',List.any_eq_false,List.any_eq_false]
  refine ⟨fun p hp hh=>?_,fun p hp hh=>?_⟩
  ·obtain ⟨p0,p1,p2,p3,p4⟩:=hx.aparts p hp
   rw [Bool.and_eq_true,Qvt p0,Qvt p2] at hh
   exact h.alw.apart p hp hh
  ·obtain ⟨p0,p1,p2,p3,p4⟩:=hx.befores p hp
   rw [Bool.and_eq_true,Qvt p0,Qvt p2,Bool.not_eq_true'] at hh
   have:=h.alw.before p hp hh.1
   rw [this] at hh
   cases hh.2
 unfold mayB
 rw [show decide (0≤kind∧kind<x.types.length∧0<m∧m<2 ^ x.orders.length)=true from decide_eq_true ⟨h0,h1,hm0,h.set_⟩,hoff,hpr]
 simp only [Bool.not_false,Bool.true_and,Bool.not_eq_true']
 unfold QEr
 rw [List.any_eq_false]
 constructor
 ·intro hh i hi
  have:=hh (i:Int) (QuE.2 ⟨i,rfl,QvO h.set_ hi,hi⟩)
  rw [Int.toNat_natCast] at this
  simpa using this
 ·intro hh i hi
  obtain ⟨k,rfl,_,hk⟩:=QuE.1 hi
  rw [Int.toNat_natCast,hh k hk]
  decide
theorem QCF (hs:s.length≤1000):fitS x (rutL kind s)=0↔LdOK x kind s s.length:=by
 unfold fitS
 have e:(Qmg x (rutL kind s).visits ((rutL kind s).visits.length+1)).any (Qsq (typS x (rutL kind s)).cap)=false↔LdOK x kind s s.length:=by
  rw [List.any_eq_false]
  unfold Qmg LdOK
  constructor
  ·intro h j hj
   have:=h _ (List.mem_map.2 ⟨j,List.mem_range.2 (show j<s.length+1 by omega),rfl⟩)
   exact Bool.eq_false_iff.2 this
  ·intro h a ha
   obtain ⟨j,hj,rfl⟩:=List.mem_map.1 ha
   have hj:j<s.length+1:=List.mem_range.1 hj
   rw [show Qsq (typS x (rutL kind s)).cap (vecN (Qdc x.types) (Qwl x (rutL kind s).visits j))=false from h j (by omega)]
   decide
 constructor
 ·intro h
  refine e.1 ?_
  split at h
  ·cases h
  ·rename_i hn; simpa using hn
 ·intro h
  rw [if_neg (by rw [e.2 h]; decide)]
theorem QCK {ty:Qag} {l':Qad} (h:l'∈QwU ty n):∃ c,l'=QiK ty n c:=by
 unfold QwU at h
 rcases List.mem_cons.1 h with rfl|h
 ·exact ⟨false,rfl⟩
 ·exact ⟨true,List.mem_singleton.1 h⟩
theorem QC9 {ty:Qag}:QiK ty n c∈QwU ty n:=by
 unfold QwU
 cases c with
 | false=>exact List.mem_cons_self ..
 | true=>exact List.mem_cons_of_mem _ (List.mem_singleton.2 rfl)
theorem Qx4 (hk:s[k]?=some v) (hst:Qq7 x v=some st):(QaI x (rutL kind s))[k]?=some st:=by
 unfold QaI
 rw [List.getElem?_map]
 show Option.map _ s[k]?=_
 rw [hk]
 simp [hst]
theorem Qx0 (hx:QaV x) (h:SqI x m s) (h0:0≤kind) (h1:kind<x.types.length) {l':Qad}:l'∈Qh2 x kind m↔SkOK x kind m∧LdOK x kind s 0∧∃ c,l'=QiK (Qa7 x kind) (Qu5 x kind m) c:=by
 have hload:(Qu5 x kind m).load=vecN (Qdc x.types) (Qwl x s 0):=(Qu2 (kind:=kind) hx h.set_ h.ord).load
 have hov:LdOK x kind s 0↔Qsq (Qa7 x kind).cap (Qu5 x kind m).load=false:=by
  rw [hload]
  refine ⟨fun hh=>hh 0 (Nat.le_refl _),fun hh j hj=>?_⟩
  have:j=0:=by omega
  subst this
  exact hh
 unfold Qh2
 constructor
 ·intro hl
  split at hl
  ·rename_i hmay
   split at hl
   ·cases hl
   ·rename_i ho
    obtain ⟨c,hc⟩:=QCK hl
    exact ⟨(QxA hx h h0 h1).1 hmay,hov.2 (by simpa using ho),c,hc⟩
  ·cases hl
 ·rintro ⟨h2,h3,c,rfl⟩
  rw [if_pos ((QxA hx h h0 h1).2 h2),if_neg (by rw [hov.1 h3]; decide)]
  exact QC9
theorem QCq (hx:QaV x) (h:SqI x m s) (h0:0≤kind) (h1:kind<x.types.length) (h6:s.length≤6):∀ k,k≤s.length→∀ l'∈(s.take k).foldl (Qu8 x) (Qh2 x kind m),
  SkOK x kind m∧LdOK x kind s k∧∃ b n c,b.length=k∧QwX x kind (QaI x (rutL kind s)) b n∧QA4 x m s k n∧LbI x n∧l'=QiK (Qa7 x kind) n c
 | 0,_,l',hl=>by
  obtain ⟨h2,h3,c,hc⟩:=(Qx0 hx h h0 h1).1 hl
  exact ⟨h2,h3,[],_,c,rfl,QzK hx h0 h1,Qu2 hx h.set_ h.ord,(Qv3 hx ((QxA hx h h0 h1).2 h2)).1,hc⟩
 | k+1,hk,l',hl=>by
  have e:s[k]?=some s[k]:=List.getElem?_eq_getElem (by omega)
  have hfold:(s.take (k+1)).foldl (Qu8 x) (Qh2 x kind m)=Qu8 x ((s.take k).foldl (Qu8 x) (Qh2 x kind m)) s[k]:=by
   rw [List.take_add_one,e,Option.toList_some,List.foldl_append]; rfl
  rw [hfold] at hl
  obtain ⟨l0,hl0,hl⟩:=List.mem_flatMap.1 hl
  obtain ⟨g1,g2,b,n,c,g3,g4,g5,g6,rfl⟩:=QCq hx h h0 h1 h6 k (by omega) l0 hl0
  have hLabs:=Qoj hx 0 _ (s.take k) (Qnc (kind:=kind) (m:=m) hx) (by rw [List.length_take]; omega)
  have hpI:=hLabs.all _ hl0
  have hty:(QiK (Qa7 x kind) n c).type_=kind:=by rw [QqM]; exact g4.ty
  unfold extL at hl
  cases hst:Qq7 x s[k] with
  | none=>rw [hst] at hl; cases hl
  | some st =>
   rw [hst] at hl
   simp only at hl
   split at hl
   ·rename_i hf
    split at hl
    ·cases hl
    ·rename_i hsl
     split at hl
     ·cases hl
     ·rename_i hov
      have hsl:QyJ x (QiK (Qa7 x kind) n c) st=false:=by simpa using hsl
      obtain ⟨c',hc'⟩:=QCK hl
      rw [hty] at hc' hov
      have hS:=Qx1 (st:=st) hx h e (g5.pick (c:=c) (ty:=Qa7 x kind))
      refine ⟨g1,fun j hj=>?_,b++[c],_,c',by simp [g3],QzL (v:=s[k]) g4 (by rw [g3]; exact Qx4 e hst) hsl,hS,(Qwq hx hpI.1 (by have h2:=hpI.2; simp only [Nat.zero_add,List.length_take] at h2; omega) hst hf hsl).1,hc'⟩
      rcases Nat.lt_or_ge j (k+1) with hjk|hjk
      ·exact g2 j (by omega)
      ·obtain rfl:j=k+1:=by omega
       have:=hS.load
       have hov:Qsq (Qa7 x kind).cap (Qwm x (QiK (Qa7 x kind) n c) s[k])=false:=by simpa using hov
       rw [← this]; exact hov
   ·cases hl
theorem QCr (hx:QaV x) (h:SqI x m s) (h0:0≤kind) (h1:kind<x.types.length) (h6:s.length≤6) (hsk:SkOK x kind m) (hld:LdOK x kind s s.length) (hst:∀ v∈s,(Qq7 x v).isSome):∀ k,k≤s.length→∀ b:List Bool,b.length=k→okB x.net (Qa7 x kind) (QaI x (rutL kind s)) 0 b →
  ∃ n,QwX x kind (QaI x (rutL kind s)) b n∧QA4 x m s k n∧LbI x n∧∀ c,QiK (Qa7 x kind) n c∈(s.take k).foldl (Qu8 x) (Qh2 x kind m)
 | 0,_,b,hb,hok=>by
  have:b=[]:=List.eq_nil_of_length_eq_zero hb
  subst this
  exact ⟨_,QzK hx h0 h1,Qu2 hx h.set_ h.ord,(Qv3 hx ((QxA hx h h0 h1).2 hsk)).1,fun c=>(Qx0 hx h h0 h1).2 ⟨hsk,fun j hj=>hld j (by omega),c,rfl⟩⟩
 | k+1,hk,b,hb,hok=>by
  have e:s[k]?=some s[k]:=List.getElem?_eq_getElem (by omega)
  have hfold:(s.take (k+1)).foldl (Qu8 x) (Qh2 x kind m)=Qu8 x ((s.take k).foldl (Qu8 x) (Qh2 x kind m)) s[k]:=by
   rw [List.take_add_one,e,Option.toList_some,List.foldl_append]; rfl
  obtain ⟨b0,c,rfl⟩:∃ b0 c,b=b0++[c]:=by
   rcases List.eq_nil_or_concat b with rfl|⟨b0,c,rfl⟩
   ·simp at hb
   ·exact ⟨b0,c,by simp⟩
  have hb0:b0.length=k:=by simpa using hb
  obtain ⟨n,g1,g2,g3,g4⟩:=QCr hx h h0 h1 h6 hsk hld hst k (by omega) b0 hb0 (Qp8.1 hok).1
  have hLabs:=Qoj hx 0 _ (s.take k) (Qnc (kind:=kind) (m:=m) hx) (by rw [List.length_take]; omega)
  have hpI:=hLabs.all _ (g4 c)
  have hty:(QiK (Qa7 x kind) n c).type_=kind:=by rw [QqM]; exact g1.ty
  obtain ⟨st,hsv⟩:=Option.isSome_iff_exists.1 (hst _ (List.getElem_mem (show k<s.length by omega)))
  have hsk2:=Qx4 (kind:=kind) e hsv
  have hkst:stopK (Qa7 x kind) (QaI x (rutL kind s)) b0.length=st:=by unfold stopK; rw [hb0,List.getD_eq_getElem?_getD,hsk2]; rfl
  have hsl:QyJ x (QiK (Qa7 x kind) n c) st=false:=(QAG g1 hkst).2 hok
  have hf:=QEk hx h e (g2.pick (c:=c) (ty:=Qa7 x kind)) hty hsk
  have hS:=Qx1 (st:=st) hx h e (g2.pick (c:=c) (ty:=Qa7 x kind))
  have hov:Qsq (Qa7 x kind).cap (Qwm x (QiK (Qa7 x kind) n c) s[k])=false:=by
   have:=hS.load
   have h2:Qwm x (QiK (Qa7 x kind) n c) s[k]=vecN (Qdc x.types) (Qwl x s (k+1)):=this
   rw [h2]; exact hld (k+1) hk
  refine ⟨QB3 x (QiK (Qa7 x kind) n c) s[k] st,QzL (v:=s[k]) g1 (by rw [hb0]; exact hsk2) hsl,hS,(Qwq hx hpI.1 (by have h2:=hpI.2; simp only [Nat.zero_add,List.length_take] at h2; omega) hsv hf hsl).1,fun c'=>?_⟩
  rw [hfold]
  refine List.mem_flatMap.2 ⟨_,g4 c,?_⟩
  unfold extL
  rw [hsv]
  simp only
  rw [if_pos hf,if_neg (by rw [hsl]; decide),hty,if_neg (by rw [hov]; decide)]
  exact QC9
end
end Go.Proofs.YtfjiafgldchinaaGreatDoor
namespace Go.Proofs.YtfjiafgldchinaaGreatDoor
set_option linter.unusedSimpArgs false
set_option linter.unusedVariables false
set_option linter.unusedSectionVars false
section
variable {x : Qab} {s : List Qaa} {kind p : Int} {m k : Nat} {l g n : Qad} {c : Bool} {v : Qaa} {b : List Bool}
theorem Qxo:∀ (t l:List Qaa),Qnf x (l++t)→ordS (l++t) m→(l++t)∈Qdd x m t.length l
 | [],l,_,_=>by rw [List.append_nil]; exact List.mem_singleton.2 rfl
 | v :: t,l,hq,ho=>by
  show _∈(QkV x m l x.orders.length).flatMap _
  refine List.mem_flatMap.2 ⟨v,Qz5 hq ho,?_⟩
  have:=Qxo t (l++[v]) (by rw [List.append_assoc]; exact hq) (by rw [List.append_assoc]; exact ho)
  rwa [List.append_assoc] at this
theorem QGk (hx:QaV x) (hm:m<2 ^ x.orders.length) (hq:Qnf x s) (ho:ordS s m):SqI x m s:=by
 obtain ⟨b,hb,h1,h2⟩:=Qqq hx hm
 exact ⟨hm,hq,ho,h1 (h2 s hq ho)⟩
theorem SqI.ne (h:SqI x m s):m≠0:=by
 intro h0
 cases hs:s with
 | nil=>exact h.seq.ne (by rw [hs]; rfl)
 | cons v r =>
  obtain ⟨j,_,_,hjm,_⟩:=h.vis (v:=v) (by rw [hs]; simp)
  rw [h0] at hjm; simp at hjm
theorem Qy2 (hx:QaV x) (hm:m<2 ^ x.orders.length):s∈allS x m↔SqI x m s:=by
 constructor
 ·intro hs
  obtain ⟨h0,hA,hW,hl⟩:=Qy4 hs
  obtain ⟨h1,h2⟩:=hW.seq hx hm h0 (hW.full hl) hA.apart
  exact ⟨hm,h1,h2,hA⟩
 ·intro h
  have hl:s.length=(allV x m).length:=QFv h.seq h.ord
  unfold allS
  rw [if_pos ⟨h.ne,h.alw⟩,← hl]
  have:=Qxo s [] (by rw [List.nil_append]; exact h.seq) (by rw [List.nil_append]; exact h.ord)
  rwa [List.nil_append] at this
theorem Qx3 (h:SqI x m s) (hv:v∈s):(Qq7 x v).isSome=true:=by
 obtain ⟨j,hj,hjl,_,hjv⟩:=h.vis hv
 have e:x.orders[j]?=some x.orders[j]:=List.getElem?_eq_getElem hjl
 unfold visO at hjv
 unfold Qq7
 rw [hj,if_pos (by omega)]
 rw [Int.toNat_natCast,e] at hjv ⊢
 simp only at hjv ⊢
 rw [if_pos ?_]
 ·rfl
 ·rcases List.mem_append.1 hjv with hh|hh
  ·split at hh
   ·rename_i h0
    rw [List.mem_singleton.1 hh]
    exact h0
   ·cases hh
  ·split at hh
   ·rename_i h0
    rw [List.mem_singleton.1 hh]
    exact h0
   ·cases hh
theorem QBG {n:Qak} {profile a b t t':Int}:(goN n profile a b t).2.1=(goN n profile a b t').2.1:=by
 unfold goN
 split
 ·split
  ·rfl
  ·split <;> rfl
 ·rfl
theorem QxM {n:Qak} {t:Qag} {stops:List Qar} {l:QaJ} (h:(nxt n t stops l k c).2=0):(nxt n t stops l k c).1.sheet.miles=l.sheet.miles+(goN n t.profile (Qrd t stops k) (stopK t stops k).place 0).2.1:=by
 unfold nxt nxtD at h ⊢
 split at h
 ·simp at h
 ·rename_i h1
  rw [if_neg h1]
  split at h
  ·split at h <;> simp at h
  ·rename_i h2
   rw [if_neg h2]
   split at h
   ·simp at h
   ·rename_i h3
    rw [if_neg h3]
    show l.sheet.miles+_=_
    rw [QBG]
theorem Qz7 {n:Qak} {t:Qag} {stops:List Qar} {start:Int}:∀ (k:Nat) (a b:List Bool),a.length=k→b.length=k→okB n t stops start a→okB n t stops start b→(lbB n t stops start a).sheet.miles=(lbB n t stops start b).sheet.miles
 | 0,a,b,ha,hb,_,_=>by rw [List.eq_nil_of_length_eq_zero ha,List.eq_nil_of_length_eq_zero hb]
 | k+1,a,b,ha,hb,oa,ob=>by
  have split:∀ q:List Bool,q.length=k+1→∃ q0 d,q=q0++[d]∧q0.length=k:=fun q hq=>by
   rcases List.eq_nil_or_concat q with rfl|⟨q0,d,rfl⟩
   ·simp at hq
   ·exact ⟨q0,d,by simp,by simpa using hq⟩
  obtain ⟨a0,d,rfl,ha0⟩:=split a ha
  obtain ⟨b0,e,rfl,hb0⟩:=split b hb
  obtain ⟨a1,a2⟩:=Qp8.1 oa
  obtain ⟨b1,b2⟩:=Qp8.1 ob
  rw [Quw oa,Quw ob,QxM a2,QxM b2,Qz7 k a0 b0 ha0 hb0 a1 b1,ha0,hb0]
def nowO (x:Qab) (i:Nat):Int:=match x.orders[i]? with
 | some o=>o.now
 | none=>0
def QF9 (x:Qab) (i:Nat):Int:=match x.orders[i]? with
 | some o=>o.last_
 | none=>0
theorem QuM {r:Qam} (hin:∀ v∈r.visits,0≤v.order∧v.order<x.orders.length):∀ k,k≤r.visits.length →
  (QfH x r k).1=sumN x.orders.length (fun i=>if hasO (r.visits.take k) (i:Int)=true then bit1 (forB (nowO x i) r.type_) else 0) ∧
  (QfH x r k).2=sumN x.orders.length (fun i=>if hasO (r.visits.take k) (i:Int)=true then bit1 (forB (QF9 x i) r.type_) else 0)
 | 0,_=>by
  have hz:∀ n,sumN n (fun _=>(0:Int))=0:=fun n=>by
   induction n with
   | zero=>rfl
   | succ n ih=>show sumN n (fun _=>(0:Int))+0=0; rw [ih]; rfl
  constructor
  ·show (0:Int)=_
   rw [Qh3 (g:=fun _=>0) _ fun i _=>by rw [List.take_zero]; rfl,hz]
  ·show (0:Int)=_
   rw [Qh3 (g:=fun _=>0) _ fun i _=>by rw [List.take_zero]; rfl,hz]
 | k+1,hk=>by
  obtain ⟨ih1,ih2⟩:=QuM hin k (by omega)
  have e:r.visits[k]?=some r.visits[k]:=List.getElem?_eq_getElem (by omega)
  have hv:=hin _ (List.getElem_mem (show k<r.visits.length by omega))
  generalize r.visits[k]=v at e hv
  obtain ⟨j,hj⟩:∃ j:Nat,v.order=j:=⟨v.order.toNat,by omega⟩
  have hjl:j<x.orders.length:=by omega
  have eo:x.orders[j]?=some x.orders[j]:=List.getElem?_eq_getElem hjl
  have hh:∀ i:Nat,hasO (r.visits.take (k+1)) (i:Int)=(hasO (r.visits.take k) (i:Int)||decide (i=j)):=fun i=>by
   rw [take_one e,Qxi]
   congr 1
   unfold isO
   rw [hj,Bool.eq_iff_iff,decide_eq_true_eq,QrZ]
   omega
  have step:∀ f:Nat→Int,sumN x.orders.length (fun i=>if hasO (r.visits.take (k+1)) (i:Int)=true then f i else 0)=sumN x.orders.length (fun i=>if hasO (r.visits.take k) (i:Int)=true then f i else 0)+if hasO (r.visits.take k) (j:Int)=true then 0 else f j:=fun f=>by
   rw [QtK (f:=fun i=>if hasO (r.visits.take k) (i:Int)=true then f i else 0) (g:=fun i=>if hasO (r.visits.take (k+1)) (i:Int)=true then f i else 0) (o:=j) x.orders.length hjl (fun i hi=>by
    show (if hasO (r.visits.take (k+1)) (i:Int)=true then f i else 0)=if hasO (r.visits.take k) (i:Int)=true then f i else 0
    rw [hh,decide_eq_false hi,Bool.or_false])]
   rw [hh,decide_eq_true rfl,Bool.or_true,if_pos rfl]
   split <;> omega
  have hp:QfH x r (k+1)=if hasO (r.visits.take k) v.order=true then QfH x r k else ((QfH x r k).1+bit1 (forB (nowO x j) r.type_),(QfH x r k).2+bit1 (forB (QF9 x j) r.type_)):=by
   show (match r.visits[k]? with
    | none=>QfH x r k
    | some v=>match (if 0≤v.order then x.orders[v.order.toNat]? else none) with
     | none=>QfH x r k
     | some o=>if hasO (r.visits.take k) v.order=true then QfH x r k else ((QfH x r k).1+bit1 (forB o.now r.type_),(QfH x r k).2+bit1 (forB o.last_ r.type_)))=_
   rw [e]
   simp only
   rw [if_pos hv.1,hj,Int.toNat_natCast,eo]
   unfold nowO QF9
   rw [eo]
  rw [hp,hj,step,step]
  split
  ·exact ⟨by rw [ih1]; simp,by rw [ih2]; simp⟩
  ·exact ⟨by simp only; rw [ih1],by simp only; rw [ih2]⟩
theorem QB9 {s t:List Qaa} (h1:SqI x m s) (h2:SqI x m t):QfH x (rutL kind s) s.length=QfH x (rutL kind t) t.length:=by
 have a:=QuM (x:=x) (r:=rutL kind s) (fun v hv=>Qni h1.seq.inn hv) s.length (Nat.le_refl _)
 have b:=QuM (x:=x) (r:=rutL kind t) (fun v hv=>Qni h2.seq.inn hv) t.length (Nat.le_refl _)
 have e:∀ i:Nat,hasO ((rutL kind s).visits.take s.length) (i:Int)=hasO ((rutL kind t).visits.take t.length) (i:Int):=fun i=>by
  show hasO (s.take s.length) (i:Int)=hasO (t.take t.length) (i:Int)
  rw [List.take_length,List.take_length,← h1.ord,← h2.ord]
 refine Prod.ext ?_ ?_
 ·rw [a.1,b.1]
  exact Qh3 _ fun i _=>by rw [e]; rfl
 ·rw [a.2,b.2]
  exact Qh3 _ fun i _=>by rw [e]; rfl
theorem QFx {a b:Int} (h0:0≤a) (h:a≤b):a*a≤b*b:=Int.mul_le_mul h h h0 (by omega)
theorem QAA (hx:QaV x) {r q:Qam} {sr sq:Qap} {t:Qag} (hr:typS x r=t) (hq:typS x q=t) (hT:QDf x.net.places.length (Qdc x.types) t) (hp:QfH x r r.visits.length=QfH x q q.visits.length)
  (b1:t.open_≤sr.end_) (b2:sq.end_≤4096) (b3:0≤sr.miles) (b4:sq.miles≤1010000) (he:sr.end_≤sq.end_) (hm:sr.miles≤sq.miles):Qme (scoS x r sr)≤Qme (scoS x q sq):=by
 have ho:=hT.opn
 have h1:=hT.fixed; have h2:=hT.perMile; have h3:=hT.perTick
 have key:∀ (u:Qam) (su:Qap),typS x u=t→t.open_≤su.end_→su.end_≤4096→0≤su.miles→su.miles≤1010000→(scoS x u su).cost=t.fixed+t.perMile*su.miles+t.perTick*(su.end_-t.open_)∧(scoS x u su).work=((su.end_-t.open_) / 64)*((su.end_-t.open_) / 64):=fun u su hu c1 c2 c3 c4=>by
  have hmm:0≤t.perMile*su.miles∧t.perMile*su.miles≤100*1010000:=⟨Int.mul_nonneg h2.1 (by omega),Int.mul_le_mul h2.2 (by omega) (by omega) (by omega)⟩
  have htt:0≤t.perTick*(su.end_-t.open_)∧t.perTick*(su.end_-t.open_)≤100*4096:=⟨Int.mul_nonneg h3.1 (by omega),Int.mul_le_mul h3.2 (by omega) (by omega) (by omega)⟩
  constructor
  ·show addK .i64 (addK .i64 (typS x u).fixed (mulK .i64 (typS x u).perMile su.miles)) (mulK .i64 (typS x u).perTick (subK .i64 su.end_ (typS x u).open_))=_
   rw [hu,subI (by omega) (by omega),mulI (by omega) (by omega),mulI (by omega) (by omega),addI (a:=t.fixed) (by omega) (by omega),addI (by omega) (by omega)]
  ·show mulK .i64 (quoK .i64 (subK .i64 su.end_ (typS x u).open_) 64) (quoK .i64 (subK .i64 su.end_ (typS x u).open_) 64)=_
   rw [hu,subI (by omega) (by omega)]
   obtain ⟨d,hd⟩:∃ d:Nat,su.end_-t.open_=d:=⟨(su.end_-t.open_).toNat,by omega⟩
   rw [hd,show (64:Int)=((64:Nat):Int) from rfl,quoN (by omega)]
   have hq:d / 64≤64:=by omega
   have hq2:(d / 64)*(d / 64)≤64*64:=Nat.mul_le_mul hq hq
   have e0:((d:Int) / ((64:Nat):Int))=((d / 64:Nat):Int):=rfl
   rw [e0]
   generalize d / 64=q at hq hq2
   have e:(q:Int)*(q:Int)=((q*q:Nat):Int):=by simp
   rw [mulI (by rw [e]; omega) (by rw [e]; omega)]
 obtain ⟨r1,r2⟩:=key r sr hr b1 (by omega) b3 (by omega)
 obtain ⟨q1,q2⟩:=key q sq hq (by omega) b2 (by omega) b4
 have m1:(scoS x r sr).moved=(scoS x q sq).moved:=congrArg Prod.fst hp
 have m2:(scoS x r sr).other=(scoS x q sq).other:=congrArg Prod.snd hp
 have c1:t.perMile*sr.miles≤t.perMile*sq.miles:=Int.mul_le_mul_of_nonneg_left hm h2.1
 have c2:t.perTick*(sr.end_-t.open_)≤t.perTick*(sq.end_-t.open_):=Int.mul_le_mul_of_nonneg_left (by omega) h3.1
 have c3:((sr.end_-t.open_) / 64)*((sr.end_-t.open_) / 64)≤((sq.end_-t.open_) / 64)*((sq.end_-t.open_) / 64):=QFx (by omega) (by omega)
 unfold Qme
 rw [r1,r2,q1,q2,m1,m2]
 generalize ((sr.end_-t.open_) / 64)*((sr.end_-t.open_) / 64)=w1 at c3 ⊢
 generalize ((sq.end_-t.open_) / 64)*((sq.end_-t.open_) / 64)=w2 at c3 ⊢
 generalize t.perMile*sr.miles=u1 at c1 ⊢
 generalize t.perMile*sq.miles=u2 at c1 ⊢
 generalize t.perTick*(sr.end_-t.open_)=z1 at c2 ⊢
 generalize t.perTick*(sq.end_-t.open_)=z2 at c2 ⊢
 omega
theorem QFu (h:Qnf x s):seqS x s=0:=by
 unfold seqS
 rw [if_neg h.ne,if_neg (by rw [h.inn]; decide),if_neg (by rw [h.off]; decide),if_neg (Classical.not_not.2 h.nodup),if_neg ?_,if_neg (by rw [h.apart]; decide),if_neg (by rw [h.before]; decide)]
 intro hh
 obtain ⟨v,hv,hp⟩:=List.any_eq_true.1 hh
 rw [h.pair v hv] at hp
 cases hp
theorem QDs {b:List Bool}:folB [] b:=fun i y hy=>by
 show y∈[false,true]
 cases y <;> simp
theorem Qwf:QA7 x.net (typS x (rutL kind s)) (QaI x (rutL kind s)) (rutL kind s).start (rutL kind s).rests b↔b.length=s.length+1∧okB x.net (Qa7 x kind) (QaI x (rutL kind s)) 0 b:=by
 unfold QA7
 rw [QiR]
 exact ⟨fun h=>⟨h.1,h.2.2⟩,fun h=>⟨h.1,QDs,h.2⟩⟩
theorem QE2 (hx:QaV x) (h:SqI x m s) (h0:0≤kind) (h1:kind<x.types.length) (h6:s.length≤6) (hsk:SkOK x kind m) (hld:LdOK x kind s s.length) (hb:b.length=s.length+1) (hok:okB x.net (Qa7 x kind) (QaI x (rutL kind s)) 0 b) :
  ∃ d,EvOK x (rutL kind s) (lbB x.net (Qa7 x kind) (QaI x (rutL kind s)) 0 d).sheet d∧(lbB x.net (Qa7 x kind) (QaI x (rutL kind s)) 0 d).sheet.end_≤(lbB x.net (Qa7 x kind) (QaI x (rutL kind s)) 0 b).sheet.end_:=by
 obtain ⟨hR,h9⟩:=QGB (s:=s) h0 h1 hx (by omega)
 have hposs:QtX x (rutL kind s)=true:=QEg h0 h1 (by omega) fun v hv=>Qx3 h hv
 have hfull:=Qwf.2 ⟨hb,hok⟩
 obtain ⟨A,hA,hP⟩:=Qr7 hx hR h9
 rcases hP with ⟨p1,_⟩|⟨_,p2⟩
 ·exact absurd ⟨hposs,Nat.zero_le _⟩ p1
 ·rcases p2 with ⟨d,fd,md,_⟩|⟨nb,_⟩
  ·exact ⟨d,⟨⟨h0,h1⟩,QFu h.seq,(QxW h).1 hsk,(QCF (by omega)).2 hld,hposs,Nat.zero_le _,fd,md,rfl⟩,(md b hfull).1⟩
  ·exact absurd hfull (nb b)
theorem QEh {r:Qam} {a b:Qap} (h1:a.end_=b.end_) (h2:a.miles=b.miles):scoS x r a=scoS x r b:=by
 unfold scoS
 rw [h1,h2]
theorem Qw3 (hx:QaV x) (hm:m<2 ^ x.orders.length) (hc:cntB m x.orders.length≤3) (h0:0≤kind) (h1:kind<x.types.length) (hl:l∈QvZ x kind m) :
  ∃ s b,SqI x m s∧s.length≤6∧SkOK x kind m∧LdOK x kind s s.length∧l.visits=s∧l.type_=kind∧okL x l=true∧LbI x l∧l.visits.length≤6∧b.length=s.length+1∧okB x.net (Qa7 x kind) (QaI x (rutL kind s)) 0 b ∧
   (lbB x.net (Qa7 x kind) (QaI x (rutL kind s)) 0 b).sheet.end_=(Qq3 x l).end_∧(lbB x.net (Qa7 x kind) (QaI x (rutL kind s)) 0 b).sheet.miles=(Qq3 x l).miles:=by
 have hI:=(QBp (kind:=kind) hx hc).1 l hl
 obtain ⟨s,hs,hl2⟩:=List.mem_flatMap.1 hl
 obtain ⟨hal,hok⟩:=List.mem_filter.1 hl2
 have h:=(Qy2 hx hm).1 hs
 have h6:=QsP hc hs
 have hal':l∈(s.take s.length).foldl (Qu8 x) (Qh2 x kind m):=by rw [List.take_length]; exact hal
 obtain ⟨g1,g2,b,n,c,g3,g4,g5,g6,rfl⟩:=QCq hx h h0 h1 h6 s.length (Nat.le_refl _) l hal'
 have hty:(QiK (Qa7 x kind) n c).type_=kind:=by rw [QqM]; exact g4.ty
 obtain ⟨-,-,e1,e2,e3⟩:=Qz6 hok
 rw [hty] at e2 e3
 have hbl:b.length=(QaI x (rutL kind s)).length:=by rw [QiR]; exact g3
 have hokB:=(QCB g4 hbl (c:=c)).2 ⟨e1,e3,e2⟩
 obtain ⟨f1,f2⟩:=QE1 g4 hbl hokB
 refine ⟨s,b++[c],h,h6,g1,g2,?_,hty,hok,hI.1,hI.2,by simp [g3],hokB,f1,?_⟩
 ·rw [QAh,g5.vis,List.take_length]
 ·rw [f2]
  show _=(QiK (Qa7 x kind) n c).miles+_
  rw [Qtm]
theorem Qqn (hx:QaV x) (hI:LbI x l) (hok:okL x l=true):(Qn3 x l).2.1=Qme (scoS x (Qj2 l) (Qq3 x l))∧(Qn3 x l).2.2=true:=by
 unfold Qn3
 rw [if_pos hok]
 exact ⟨rfl,rfl⟩
theorem QwJ (hx:QaV x) (hI:LbI x l) (hok:okL x l=true) (h6:l.visits.length≤6):(Qa7 x l.type_).open_≤(Qq3 x l).end_∧(Qq3 x l).end_≤4096∧0≤(Qq3 x l).miles∧(Qq3 x l).miles≤1010000:=by
 obtain ⟨-,-,e1,e2,e3⟩:=Qz6 hok
 obtain ⟨f1,f2,f3,f4,f5⟩:=QBw hx hI e1 e3
 have hm:=hI.miles
 refine ⟨f1,f3,?_,?_⟩
 ·show 0≤l.miles+_; omega
 ·show l.miles+_≤1010000; omega
theorem QCw (hx:QaV x) (hm:m<2 ^ x.orders.length) (hc:cntB m x.orders.length≤3) (h0:0≤kind) (h1:kind<x.types.length) (hl:l∈QvZ x kind m):∃ s p,ordS s m∧PrS x kind s p∧p≤(Qn3 x l).2.1:=by
 obtain ⟨s,b,h,h6,hsk,hld,hvis,hty,hok,hI,hv6,hb,hokB,e1,e2⟩:=Qw3 hx hm hc h0 h1 hl
 obtain ⟨d,hE,hle⟩:=QE2 hx h h0 h1 h6 hsk hld hb hokB
 refine ⟨s,_,h.ord,⟨_,d,hE,rfl⟩,?_⟩
 have hr:Qj2 l=rutL kind s:=by unfold Qj2 rutL; rw [hty,hvis]
 obtain ⟨c1,c2,c3,c4⟩:=QwJ hx hI hok hv6
 rw [hty] at c1
 have hf:=Qwf.1 hE.full
 have hmi:=Qz7 _ d b hf.1 hb hf.2 hokB
 obtain ⟨f1,_,f3,_⟩:=hE.facts hx
 rw [(Qqn hx hI hok).1,hr]
 refine QAA hx (t:=Qa7 x kind) rfl rfl (QwS hx h0 h1) rfl f1 c2 f3 c4 (by rw [← e1]; exact hle) (by rw [← e2,hmi]; exact Int.le_refl _)
theorem QCx (hx:QaV x) (hm:m<2 ^ x.orders.length) (hc:cntB m x.orders.length≤3) (h0:0≤kind) (h1:kind<x.types.length) (ho:ordS s m) (hp:PrS x kind s p):∃ l∈QvZ x kind m,(Qn3 x l).2.1=p:=by
 have h:=QGk hx hm hp.seq ho
 have hs:=(Qy2 hx hm).2 h
 have h6:=QsP hc hs
 obtain ⟨sh,b,hE,rfl⟩:=hp
 have hf:=Qwf.1 hE.full
 have hsk:=(QxW h).2 hE.able
 have hld:=(QCF (by omega)).1 hE.fits
 obtain ⟨b0,c,rfl⟩:∃ b0 c,b=b0++[c]:=by
  rcases List.eq_nil_or_concat b with rfl|⟨b0,c,rfl⟩
  ·have:=hf.1; simp at this
  ·exact ⟨b0,c,by simp⟩
 have hb0:b0.length=s.length:=by have:=hf.1; simpa using this
 obtain ⟨n,g1,g2,g3,g4⟩:=QCr hx h h0 h1 h6 hsk hld (fun v hv=>Qx3 h hv) s.length (Nat.le_refl _) b0 hb0 (Qp8.1 hf.2).1
 have hal:=g4 c
 rw [List.take_length] at hal
 have hty:(QiK (Qa7 x kind) n c).type_=kind:=by rw [QqM]; exact g1.ty
 have hbl:b0.length=(QaI x (rutL kind s)).length:=by rw [QiR]; exact hb0
 obtain ⟨e1,e2,e3⟩:=(QCB g1 hbl (c:=c)).1 hf.2
 obtain ⟨f1,f2⟩:=QE1 g1 hbl hf.2
 have hvis:(QiK (Qa7 x kind) n c).visits=s:=by rw [QAh,g2.vis,List.take_length]
 have hI:=((Qqj (kind:=kind) (m:=m) hx h6).all _ hal).1
 have hopen:(QiK (Qa7 x kind) n c).open_=0:=QEj hx h (g2.pick (c:=c) (ty:=Qa7 x kind)) hI
 have hok:okL x (QiK (Qa7 x kind) n c)=true:=by
  have hne:=h.seq.ne
  unfold okL
  rw [hty,hvis,hopen]
  simp only [Bool.and_eq_true,Bool.not_eq_true',Bool.or_eq_false_iff,QvF,Qv9,Qqt,lenI]
  exact ⟨⟨by omega,trivial⟩,⟨e1,by omega⟩,by omega⟩
 refine ⟨_,List.mem_flatMap.2 ⟨s,hs,List.mem_filter.2 ⟨hal,hok⟩⟩,?_⟩
 rw [(Qqn hx hI hok).1]
 have hr:Qj2 (QiK (Qa7 x kind) n c)=rutL kind s:=by unfold Qj2 rutL; rw [hty,hvis]
 rw [hr]
 congr 1
 refine QEh ?_ ?_
 ·rw [hE.sheet]; exact f1.symm
 ·rw [hE.sheet]
  show (QiK (Qa7 x kind) n c).miles+_=_
  rw [Qtm]; exact f2.symm
theorem QDn (hx:QaV x) (hm:m<2 ^ x.orders.length) (hc:cntB m x.orders.length≤3) (h0:0≤kind) (h1:kind<x.types.length) (hg:g∈QvZ x kind m) (hl:l∈QvZ x kind m) (hd:domB g l=true):(Qn3 x g).2.1≤(Qn3 x l).2.1:=by
 obtain ⟨s,b,h,h6,_,_,hvis,hty,hok,hI,hv6,_,_,_,_⟩:=Qw3 hx hm hc h0 h1 hg
 obtain ⟨s',b',h',h6',_,_,hvis',hty',hok',hI',hv6',_,_,_,_⟩:=Qw3 hx hm hc h0 h1 hl
 obtain ⟨⟨d1,d2,d3,d4⟩,⟨d5,d6,d7⟩,_⟩:=Qzm.1 hd
 have hr:Qj2 g=rutL kind s:=by unfold Qj2 rutL; rw [hty,hvis]
 have hr':Qj2 l=rutL kind s':=by unfold Qj2 rutL; rw [hty',hvis']
 rw [(Qqn hx hI hok).1,(Qqn hx hI' hok').1,hr,hr']
 obtain ⟨c1,c2,c3,c4⟩:=QwJ hx hI hok hv6
 obtain ⟨c1',c2',c3',c4'⟩:=QwJ hx hI' hok' hv6'
 rw [hty] at c1
 obtain ⟨-,-,e1,-,-⟩:=Qz6 hok
 have hmono:=QDB hx.net d5 e1
 have hend:endL x l=goN x.net (Qa7 x g.type_).profile g.place (Qa7 x g.type_).to_ l.time:=by unfold endL; rw [d1,d2]
 refine QAA hx (t:=Qa7 x kind) rfl rfl (QwS hx h0 h1) (QB9 h h') c1 c2' c3 c4' ?_ ?_
 ·show (endL x g).1≤(endL x l).1
  rw [hend]; exact hmono.2.1
 ·show g.miles+(endL x g).2.1≤l.miles+(endL x l).2.1
  rw [hend,hmono.2.2]
  show g.miles+(endL x g).2.1≤l.miles+(endL x g).2.1
  omega
theorem QBl (hx:QaV x) {L:List Qad} (hL:∀ l∈L,LbI x l∧okL x l=true) (hl:L.length≤1000000) {r4:Qas×Int} {e:Int}:post (QaK (fun s=>QbZ x r4 (L,e) s.1 s.2) (0,0)) fun y=>∃ w,y=.inl w∧(∀ l∈L,w≤(Qn3 x l).2.1)∧(L≠[]→∃ l∈L,w=(Qn3 x l).2.1):=by
 refine Qct (fun s:Int×Int=>∃ k:Nat,s.2=(k:Int)∧k≤L.length∧(∀ l∈L.take k,s.1≤(Qn3 x l).2.1)∧(k≠0→∃ l∈L,s.1=(Qn3 x l).2.1)) (fun s=>L.length-s.2.toNat) ⟨0,rfl,Nat.zero_le _,fun l hl=>by simp at hl,fun h=>absurd rfl h⟩ (by simp; omega) ?_
 rintro ⟨w,_⟩ ⟨k,rfl,hk,h1,h2⟩
 show post (QbZ x r4 (L,e) w (k:Int)) _
 unfold QbZ
 refine QaE (fun hb=>?_) (fun hb=>Qcg ?_)
 ·simp only [Qoi,lenI] at hb
  have hk':k<L.length:=by omega
  have e1:L[k]?=some L[k]:=List.getElem?_eq_getElem hk'
  have hI:=hL _ (List.getElem_mem hk')
  have ek:addK .i64 (k:Int) 1=((k+1:Nat):Int):=(addI (by omega) (by omega)).trans (by omega)
  have dec:L.length-((k+1:Nat):Int).toNat<L.length-(k:Int).toNat:=by omega
  have tk:∀ l∈L.take (k+1),l∈L.take k∨l=L[k]:=fun l hl=>by
   rw [List.take_add_one,e1] at hl
   rcases List.mem_append.1 hl with h|h
   ·exact .inl h
   ·exact .inr (by simpa using h)
  rw [show getI (L,e).1 (k:Int)=some L[k] from QaR e1,Qaj,(QwW hx hI.1).1,Qaj,(Qqn hx hI.1 hI.2).2,QcK,ek]
  refine QaE (fun hc=>Qc4 ⟨⟨k+1,rfl,hk',fun l hl=>?_,fun _=>⟨_,List.getElem_mem hk',rfl⟩⟩,dec⟩) (fun hc=>Qc4 ⟨⟨k+1,rfl,hk',fun l hl=>?_,fun _=>?_⟩,dec⟩)
  ·show (Qn3 x L[k]).2.1≤_
   rw [Bool.or_eq_true,QrZ,Qoi] at hc
   rcases tk l hl with h|rfl
   ·rcases hc with hc|hc
    ·have:k=0:=by omega
     subst this; simp at h
    ·have:=h1 l h
     simp only at this
     omega
   ·exact Int.le_refl _
  ·rw [Bool.or_eq_false_iff,Qv9,QoX] at hc
   rcases tk l hl with h|rfl
   ·exact h1 l h
   ·exact hc.2
  ·rw [Bool.or_eq_false_iff,Qv9,QoX] at hc
   exact h2 (by omega)
 ·simp only [QoX,lenI] at hb
  refine ⟨w,rfl,fun l hl=>h1 l (by rw [List.take_of_length_le (by omega)]; exact hl),fun hne=>h2 ?_⟩
  intro h0
  subst h0
  exact hne (List.eq_nil_of_length_eq_zero (by omega))
theorem QyX (hx:QaV x) (hm:m<9223372036854775808) (hb:¬ (0≤kind∧kind<x.types.length)∨¬ m<2 ^ x.orders.length):∃ c,QeU x kind (m:Int)=some (c,2):=by
 unfold QeU
 by_cases hk:0≤kind∧kind<x.types.length
 ·have hb':¬ m<2 ^ x.orders.length:=by rcases hb with h|h; exact absurd hk h; exact h
  rw [QaW (by simp [lenI]; omega),Qzq hx hm,Qaj,QaW (by simp; omega)]
  exact ⟨_,rfl⟩
 ·rw [Qbj (by simp [lenI]; omega)]
  exact ⟨_,rfl⟩
theorem QtR (x:Qab) (hI:QFI x) (kind:Int) (set_:Int) (hs:Qyu set_):Qfq x kind set_=some true:=by
 apply post.eq
 unfold Qfq
 rw [QET]
 refine QaP (QGE hI) fun ok hok=>QaE (fun _=>Qaw.2 rfl) (fun h1=>?_)
 simp only [Bool.or_eq_false_iff,Bool.not_eq_false',QEB] at h1
 obtain ⟨hx,h6⟩:=hok h1.1
 obtain ⟨m,rfl⟩:∃ m:Nat,set_=m:=⟨set_.toNat,by omega⟩
 have hm63:m<9223372036854775808:=by have:=hs.2; omega
 have hm0:0<m:=by omega
 rw [QEM hm63,Qaj]
 refine QaE (fun _=>Qaw.2 rfl) (fun h3=>?_)
 simp only [Qqt] at h3
 have hc:=QE5 hx (m:=m) (by omega)
 by_cases hgood:(0≤kind∧kind<x.types.length)∧m<2 ^ x.orders.length
 ·obtain ⟨⟨h0,hk1⟩,hm⟩:=hgood
  obtain ⟨e1,e2,e3,e4⟩:=QBx (kind:=kind) hx hc
  have hcI:=QBp (kind:=kind) hx hc
  have hlen:=QsZ (out:=[]) (QvZ x kind m)
  have hlen:(Qyn x kind m).length≤93312:=by
   unfold Qyn
   simp only [List.length_nil] at hlen
   omega
  have hLI:∀ l∈Qyn x kind m,LbI x l∧okL x l=true:=fun l hl=>by
   obtain ⟨s,b,_,_,_,_,_,_,hok,hI,_⟩:=Qw3 hx hm hc h0 hk1 (e2 l hl)
   exact ⟨hI,hok⟩
  refine QaP (Qyf hx h0 hk1 hm hm0 hc) fun r4 hr4=>?_
  obtain ⟨c1,c2,c3⟩:=hr4
  rw [QDb hx h0 hk1 hm hc,Qaj,QaW (show eqI r4.2 2=false by rw [Qv9]; rcases c1 with h|h <;> rw [h] <;> decide)]
  have hiff:r4.2=0↔Qyn x kind m≠[]:=by
   constructor
   ·intro he hn
    obtain ⟨⟨s,p,ho,hp,_⟩,_⟩:=c2 he
    obtain ⟨l,hl,_⟩:=QCx hx hm hc h0 hk1 ho hp
    obtain ⟨g,hg,_⟩:=e3 l hl
    rw [hn] at hg; cases hg
   ·intro hn
    rcases c1 with h|h
    ·exact h
    ·exfalso
     obtain ⟨g,hg⟩:=List.exists_mem_of_ne_nil _ hn
     obtain ⟨s,p,ho,hp,_⟩:=QCw hx hm hc h0 hk1 (e2 g hg)
     exact c3 h s p ho hp
  have hgt:gtI (lenI (Qyn x kind m)) 0=eqI r4.2 0:=by
   rw [Bool.eq_iff_iff,Qwg,QrZ,hiff,lenI]
   rw [← List.length_pos_iff]
   omega
  refine QaE (fun hbad=>?_) (fun _=>?_)
  ·exfalso
   rw [Bool.or_eq_true,Qyy] at hbad
   rcases hbad with h|h
   ·exact h rfl
   ·have hgt':gtI (lenI (Qyn x kind m,(0:Int)).1) 0=eqI r4.2 0:=hgt
    rw [hgt'] at h
    unfold eqB at h
    cases eqI r4.2 0 <;> simp at h
  ·refine QaP (QBl hx hLI (by omega)) fun y hy=>?_
   obtain ⟨w,rfl,w1,w2⟩:=hy
   rw [Qdm]
   refine QaE (fun _=>Qaw.2 rfl) (fun hbad=>?_)
   exfalso
   rw [Bool.or_eq_false_iff,QvF,Qv9] at hbad
   obtain ⟨he,hne⟩:=hbad
   have hn:=hiff.1 he
   obtain ⟨⟨s,p,ho,hp,hpr⟩,hmin⟩:=c2 he
   obtain ⟨l,hl,hlp⟩:=QCx hx hm hc h0 hk1 ho hp
   obtain ⟨g,hg,hd⟩:=e3 l hl
   have d1:=QDn hx hm hc h0 hk1 (e2 g hg) hl hd
   have d2:=w1 g hg
   obtain ⟨u,hu,hwu⟩:=w2 hn
   obtain ⟨s',p',ho',hp',hle⟩:=QCw hx hm hc h0 hk1 (e2 u hu)
   have d3:=hmin s' p' ho' hp'
   omega
 ·have hb:¬ (0≤kind∧kind<x.types.length)∨¬ m<2 ^ x.orders.length:=by
   by_cases hk:0≤kind∧kind<x.types.length
   ·exact .inr fun hm=>hgood ⟨hk,hm⟩
   ·exact .inl hk
  obtain ⟨c,hc2⟩:=QyX hx hm63 hb
  rw [hc2,Qaj,(QDa hx hm63 hb).1,Qaj,Qbj (by simp),Qbj (by simp)]
  exact Qaw.2 rfl
end
end Go.Proofs.YtfjiafgldchinaaGreatDoor
