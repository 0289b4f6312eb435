/- Part MY of the proof: texts Lwi Lwj Lwk Lwl Lwm Lwn. -/
import Derived.Test.YtfjiafgldchinaaGreatDoorMX
import Derived.Test.YtfjiafgldchinaaGreatDoorMR
namespace Go.Proofs.YtfjiafgldchinaaGreatDoor
set_option linter.unusedSimpArgs false
set_option linter.unusedVariables false
set_option linter.unusedSectionVars false
theorem Quy:∀ {a b:List Qaa},a.Nodup→(∀ v∈a,v∈b)→a.length≤b.length
 | [],_,_,_=>Nat.zero_le _
 | v :: r,b,hn,hs=>by
  have hv:=hs v (List.mem_cons_self ..)
  have hn':=List.nodup_cons.1 hn
  have:=Quy (a:=r) (b:=b.erase v) hn'.2 fun w hw=>(List.mem_erase_of_ne fun e:w=v=>hn'.1 (e ▸ hw)).2 (hs w (List.mem_cons_of_mem _ hw))
  rw [List.length_erase_of_mem hv] at this
  have:=List.length_pos_of_mem hv
  rw [List.length_cons]
  omega
theorem QzG {a b:List Qaa} (hn:a.Nodup) (hs:∀ v∈a,v∈b) (hl:b.length≤a.length):∀ v∈b,v∈a:=fun v hv=>by
 refine Classical.byContradiction fun h=>?_
 have:=Quy (a:=v :: a) (b:=b) (List.nodup_cons.2 ⟨h,hn⟩) fun w hw=>by
  rcases List.mem_cons.1 hw with rfl|hw
  ·exact hv
  ·exact hs w hw
 rw [List.length_cons] at this
 omega
def lmV (m:Nat):List Qaa:=((List.range 10).filter fun i=>m.testBit i).map fun i:Nat=>Qaa.mk (i:Int) false
theorem Qrr {m:Nat} (hm:m<1024) (i:Nat):m.testBit i=hasO (lmV m) (i:Int):=by
 rw [Bool.eq_iff_iff,QnZ]
 constructor
 ·intro h
  have hi:i<10:=Nat.lt_of_not_le fun hge=>by
   have:m.testBit i=false:=Nat.testBit_lt_two_pow (Nat.lt_of_lt_of_le hm (Nat.le_trans (by decide) (Nat.pow_le_pow_right (n:=2) (by omega) hge)))
   rw [this] at h; cases h
  exact ⟨Qaa.mk (i:Int) false,List.mem_map.2 ⟨i,List.mem_filter.2 ⟨List.mem_range.2 hi,h⟩,rfl⟩,rfl⟩
 ·rintro ⟨v,hv,he⟩
  obtain ⟨j,hj,rfl⟩:=List.mem_map.1 hv
  have:j=i:=Int.ofNat.inj he
  rw [← this]
  exact (List.mem_filter.1 hj).2
theorem Quc {m:Nat} (hm:m<1024):SetOf (lmV m) (m:Int):=⟨m,rfl,hm,Qrr hm⟩
section
variable {x : Qac} {b r : QaF} {l t : List Qaa} {m n : Nat} {v : Qaa} {kind : Int}
def ordS (l:List Qaa) (m:Nat):Prop:=∀ i:Nat,m.testBit i=hasO l (i:Int)
def allV (x:Qac) (m:Nat):List Qaa:=restS x m [] x.orders.length
theorem Qnd:v∈allV x m↔∃ i,i<x.orders.length∧m.testBit i=true∧v∈visO x (i:Int):=by
 unfold allV
 rw [QvO]
 simp
theorem QtY:(allV x m).Nodup:=(Qsw _).imp fun {a b} h e=>by subst e; rw [Qzw] at h; cases h
theorem Qwc (hx:Qa5 x) {i:Nat} (hi:i<x.orders.length):∃ v,v∈visO x (i:Int):=by
 have e:x.orders[i]?=some x.orders[i]:=List.getElem?_eq_getElem hi
 have hO:=hx.ord _ (List.getElem_mem hi)
 unfold visO
 rw [Int.toNat_natCast,e]
 simp only
 have h1:=hO.pick
 have h2:=hO.drop
 have h3:=hO.one
 unfold QwI at h1 h2
 by_cases hp:0≤x.orders[i].pick.place
 ·rw [if_pos hp]; exact ⟨_,List.mem_append_left _ (List.mem_cons_self ..)⟩
 ·rw [if_pos (show 0≤x.orders[i].drop.place by omega)]
  exact ⟨_,List.mem_append_right _ (List.mem_cons_self ..)⟩
theorem Qz7 (hx:Qa5 x) (hm:m<2 ^ x.orders.length) (hg:GoodL x l) (hs:∀ v∈l,v∈allV x m) (hl:l.length=(allV x m).length):ordS l m:=fun i=>by
 rw [Bool.eq_iff_iff,QnZ]
 constructor
 ·intro hb
  have hi:i<x.orders.length:=Nat.lt_of_not_le fun hge=>by
   have:m.testBit i=false:=Nat.testBit_lt_two_pow (Nat.lt_of_lt_of_le hm (Nat.pow_le_pow_right (by omega) hge))
   rw [this] at hb; cases hb
  obtain ⟨v,hv⟩:=Qwc hx hi
  exact ⟨v,QzG hg.nodup hs (by omega) v (Qnd.2 ⟨i,hi,hb,hv⟩),QcP hv⟩
 ·rintro ⟨v,hv,he⟩
  obtain ⟨j,_,h2,h3⟩:=Qnd.1 (hs v hv)
  have:=QcP h3
  have:j=i:=by omega
  rw [← this]; exact h2
theorem QuC (hx:Qa5 x) (hm:m<2 ^ x.orders.length):post (Qdz x (m:Int)) fun e=>∀ l,SeqOK x l→ordS l m→e=0:=by
 have h10:=hx.orders
 have hm2:m<1024:=Nat.lt_of_lt_of_le hm (Nat.le_trans (Nat.pow_le_pow_right (n:=2) (by omega) h10) (by decide))
 have tot:post (Qdz x (m:Int)) fun _=>True:=by
  have ha16:=hx.apart
  have hb16:=hx.before
  have hS:=Quc hm2
  have hlen:=Qsl (l:=lmV m) 63
  have hmem:∀ i∈memN (lmV m) 63,0≤i∧i<x.orders.length:=fun i hi=>by
   obtain ⟨k,rfl,_,hk⟩:=Qtz hi
   rw [← Qrr hm2] at hk
   refine ⟨by omega,?_⟩
   have:k<x.orders.length:=Nat.lt_of_not_le fun hge=>by
    have:m.testBit k=false:=Nat.testBit_lt_two_pow (Nat.lt_of_lt_of_le hm (Nat.pow_le_pow_right (by omega) hge))
    rw [this] at hk; cases hk
   omega
  unfold Qdz
  rw [QaO (by simp),QrU hS,Qaj]
  generalize memN (lmV m) 63=M at *
  rw [Qbg (QcR (B:=fun q=>QaS x (m:Int) M q) (l:=M) (by omega) (fun i=>geI i (lenI x.orders)) (y:=(.inr 2:Unit⊕Int)) (N:=.inl ()) (fun i a hh=>by
   show QaS x (m:Int) M i=_
   unfold QaS
   rw [Qbh hh,incL hh (by omega),brs]) (by
   show QaS x (m:Int) M M.length=_
   unfold QaS
   rw [QaV]))]
  split
  ·exact Qay.2 trivial
  rw [Qdd,Qbg (QcR (B:=fun q=>QaQ x (m:Int) M q) (l:=M) (by omega) (fun i=>offN x i.toNat) (y:=(.inr 9:Unit⊕Int)) (N:=.inl ()) (fun i a hh=>by
   obtain ⟨q0,q1⟩:=hmem a (List.mem_of_getElem? hh)
   show QaQ x (m:Int) M i=_
   unfold QaQ offN
   rw [Qbh hh,Qrn q0 q1,Qaj,incL hh (by omega),brs,List.getElem?_eq_getElem (by omega)]) (by
   show QaQ x (m:Int) M M.length=_
   unfold QaQ
   rw [QaV]))]
  split
  ·exact Qay.2 trivial
  rw [Qdd,Qbg (QcR (B:=fun q=>QaI x (m:Int) M q) (l:=x.apart) (by omega) (QnX (lmV m)) (y:=(.inr 20:Unit⊕Int)) (N:=.inl ()) (fun i a hh=>by
   obtain ⟨p0,p1,p2,p3,p4⟩:=hx.aparts a (List.mem_of_getElem? hh)
   show QaI x (m:Int) M i=_
   unfold QaI QnX
   rw [Qbh hh,hS.Has p0 (by omega),Qaj,hS.Has p2 (by omega),Qaj,incL hh (by omega)]
   cases hasO (lmV m) a.x0 <;> cases hasO (lmV m) a.x1 <;> rfl) (by
   show QaI x (m:Int) M x.apart.length=_
   unfold QaI
   rw [QaV]))]
  split
  ·exact Qay.2 trivial
  rw [Qdd,Qbg (QcR (B:=fun q=>QaH x (m:Int) M q) (l:=x.before) (by omega) (fun a=>hasO (lmV m) a.x1&&!hasO (lmV m) a.x0) (y:=(.inr 21:Unit⊕Int)) (N:=.inl ()) (fun i a hh=>by
   obtain ⟨p0,p1,p2,p3,p4⟩:=hx.befores a (List.mem_of_getElem? hh)
   show QaH x (m:Int) M i=_
   unfold QaH
   rw [Qbh hh,hS.Has p2 (by omega),Qaj,hS.Has p0 (by omega),Qaj,incL hh (by omega)]
   cases hasO (lmV m) a.x0 <;> cases hasO (lmV m) a.x1 <;> rfl) (by
   show QaH x (m:Int) M x.before.length=_
   unfold QaH
   rw [QaV]))]
  split
  ·exact Qay.2 trivial
  obtain ⟨c,hc,f,rfl,hf⟩:=QqV hx
  rw [Qdd,hc,Qaj,Qbg (QcR (B:=fun q=>QaE M (vecN x.orders.length fun i=>((f i:Nat):Int)) q) (l:=M) (by omega) (fun i=>(f i.toNat).testBit i.toNat) (y:=(.inr 21:Unit⊕Int)) (N:=.inl ()) (fun i a hh=>by
   obtain ⟨q0,q1⟩:=hmem a (List.mem_of_getElem? hh)
   obtain ⟨k,rfl⟩:∃ k:Nat,a=k:=⟨a.toNat,by omega⟩
   show QaE M (vecN x.orders.length fun i=>((f i:Nat):Int)) i=_
   unfold QaE
   have hlt:=hf.lt k
   have hhas:QbN ((f k:Nat):Int) (k:Int)=some ((f k).testBit k):=by
    have:=(Quc hlt).Has (i:=(k:Int)) (by omega) (by omega)
    rw [this,← Qrr hlt]
   rw [Qbh hh,Qnj q0 q1,Qaj,Int.toNat_natCast,hhas,Qaj,incL hh (by omega),brs]) (by
   show QaE M (vecN x.orders.length fun i=>((f i:Nat):Int)) M.length=_
   unfold QaE
   rw [QaV]))]
  split <;> exact Qay.2 trivial
 obtain ⟨e,he,-⟩:=tot
 refine ⟨e,he,fun l hq ho=>?_⟩
 have:=QwK hx hq (s:=(m:Int)) ⟨m,rfl,hm2,ho⟩
 rw [he] at this
 exact Option.some.inj this

theorem Qzy:∀ {n:Nat} {k:Nat},k<n→hasO l (k:Int)=true→(k:Int)∈memN l n
 | 0,_,h,_=>by omega
 | n+1,k,h,h2=>by
  unfold memN
  rcases Nat.lt_or_ge k n with h3|h3
  ·exact List.mem_append_left _ (Qzy h3 h2)
  ·obtain rfl:k=n:=by omega
   rw [if_pos h2]
   exact List.mem_append_right _ (List.mem_singleton.2 rfl)
theorem QvL {S E:Type} {B:S→Option (S⊕E)} (Inv:S→Prop) (R:E→Prop) {s:S} {e:E} (hs:Inv s) (h:loopF B s=some e) (h1:∀ s s',Inv s→B s=some (.inl s')→Inv s') (h2:∀ s e,Inv s→B s=some (.inr e)→R e):R e :=
 Qau (fun s:S=>Inv s→R e) (fun e':E=>e'=e) (fun s x hx hl hr hI=>by
  cases x with
  | inl s'=>exact hl s' rfl (h1 s s' hI hx)
  | inr e'=>exact (hr e' rfl) ▸ h2 s e' hI hx) h rfl hs
def FixP (c:List Int) (p:Qap):Prop:=∀ ca cb,0≤p.x0→0≤p.x1→getI c p.x0=some ca→getI c p.x1=some cb→orK .i64 (orK .i64 cb ca) (shlK .i64 1 p.x0)=cb
theorem Qt1 {n:Int} {bf:List Qap} {c:List Int} (hb:bf.length≤1048576) (h:Qep n bf=some c):∀ p∈bf,FixP c p:=by
 unfold Qep at h
 obtain ⟨c0,_,h⟩:=Qaf h
 obtain ⟨c1,hl,h⟩:=Qaf h
 cases h
 refine QvL (fun s:List Int×Bool=>s.2=false→∀ p∈bf,FixP s.1 p) (fun e=>∀ p∈bf,FixP e p) (fun h=>by cases h) hl ?_ ?_
 ·rintro ⟨l1,more⟩ ⟨l2,more2⟩ _ h
  have h:QcV bf c0 l1 more=some (.inl (l2,more2)):=h
  unfold QcV at h
  rcases Qah h with ⟨_,h⟩|⟨_,h⟩
  ·obtain ⟨e,he,h⟩:=Qaf h
   cases h
   refine QvL (fun s:List Int×Bool×Int=>∃ k:Nat,s.2.2=(k:Int)∧(s.2.1=false→∀ j,j<k→∀ p,bf[j]?=some p→FixP s.1 p)) (fun e:List Int×Bool=>e.2=false→∀ p∈bf,FixP e.1 p) ⟨0,rfl,fun _ j hj=>by omega⟩ he ?_ ?_
   ·rintro ⟨l3,m3,i3⟩ s' ⟨k,rfl,hI⟩ h
    have h:QcW bf c0 l3 m3 (k:Int)=some (.inl s'):=h
    unfold QcW at h
    rcases Qah h with ⟨hk,h⟩|⟨_,h⟩
    ·simp only [ltI_t,lenI] at hk
     have hk':k<bf.length:=by omega
     have ek:addK .i64 (k:Int) 1=((k+1:Nat):Int):=(addI (by omega) (by omega)).trans (by omega)
     rw [QyC hk',Qaj,ek] at h
     have more:∀ {l':List Int} {m':Bool},(m'=false→l'=l3∧m3=false∧FixP l3 bf[k])→∃ k':Nat,(((k+1:Nat):Int))=(k':Int)∧(m'=false→∀ j,j<k'→∀ p,bf[j]?=some p→FixP l' p):=fun {l' m'} hf=>⟨k+1,rfl,fun hm j hj p hp=>by
      obtain ⟨rfl,f2,f3⟩:=hf hm
      rcases Nat.lt_or_ge j k with hjk|hjk
      ·exact hI f2 j hjk p hp
      ·obtain rfl:j=k:=by omega
       rw [List.getElem?_eq_getElem hk'] at hp
       cases hp
       exact f3⟩
     rcases Qah h with ⟨hb,h⟩|⟨hb,h⟩
     ·cases h
      refine more fun hm=>⟨rfl,hm,fun ca cb h0 h1 ha hb'=>?_⟩
      exfalso
      simp only [Bool.or_eq_true,ltI_t,geI_t,lenI] at hb
      have g1:∀ {i a:Int},getI l3 i=some a→i<l3.length:=fun {i a} hg=>by
       unfold getI at hg
       split at hg
       ·have:=(List.getElem?_eq_some_iff.1 hg).1; omega
       ·cases hg
      have:=g1 ha; have:=g1 hb'
      omega
     ·obtain ⟨x1,hx1,h⟩:=Qaf h
      obtain ⟨x2,hx2,h⟩:=Qaf h
      obtain ⟨_,h⟩:=Qar h
      rcases Qah h with ⟨hn,h⟩|⟨hn,h⟩
      ·cases h
       exact more fun hm=>by cases hm
      ·cases h
       refine more fun hm=>⟨rfl,hm,fun ca cb _ _ ha hb'=>?_⟩
       rw [hx1] at hb'; cases hb'
       rw [hx2] at ha; cases ha
       simpa using hn
    ·cases h
   ·rintro ⟨l3,m3,i3⟩ e ⟨k,rfl,hI⟩ h hm
    have h:QcW bf c0 l3 m3 (k:Int)=some (.inr e):=h
    unfold QcW at h
    rcases Qah h with ⟨_,h⟩|⟨hk,h⟩
    ·obtain ⟨_,_,h⟩:=Qaf h
     rcases Qah h with ⟨_,h⟩|⟨_,h⟩
     ·cases h
     ·obtain ⟨_,_,h⟩:=Qaf h
      obtain ⟨_,_,h⟩:=Qaf h
      obtain ⟨_,h⟩:=Qar h
      rcases Qah h with ⟨_,h⟩|⟨_,h⟩ <;> cases h
    ·cases h
     simp only [ltI_f,lenI] at hk
     intro p hp
     obtain ⟨j,hj⟩:=List.getElem?_of_mem hp
     exact hI hm j (by have:=(List.getElem?_eq_some_iff.1 hj).1; omega) p hj
  ·cases h
 ·rintro ⟨l1,more⟩ e hI h
  have h:QcV bf c0 l1 more=some (.inr e):=h
  unfold QcV at h
  rcases Qah h with ⟨_,h⟩|⟨hm,h⟩
  ·obtain ⟨_,_,h⟩:=Qaf h
   cases h
  ·cases h
   exact hI hm
structure AlwS (x:Qac) (m:Nat):Prop where
 off:∀ i:Nat,m.testBit i=true→offN x i=false
 apart:∀ p∈x.apart,¬ (m.testBit p.x0.toNat=true∧m.testBit p.x1.toNat=true)
 before:∀ p∈x.before,m.testBit p.x1.toNat=true→m.testBit p.x0.toNat=true
 chain:∃ f:Nat→Nat,(∀ i,f i<1024)∧(∀ p∈x.before,(f p.x1.toNat).testBit p.x0.toNat=true∧∀ j,(f p.x0.toNat).testBit j=true→(f p.x1.toNat).testBit j=true)∧∀ i,m.testBit i=true→(f i).testBit i=false
theorem Qwg (hx:Qa5 x) (hm:m<2 ^ x.orders.length):post (Qdz x (m:Int)) fun e=>e=0→AlwS x m:=by
 have h10:=hx.orders
 have hm2:m<1024:=Nat.lt_of_lt_of_le hm (Nat.le_trans (Nat.pow_le_pow_right (n:=2) (by omega) h10) (by decide))
 have ha16:=hx.apart
 have hb16:=hx.before
 have hS:=Quc hm2
 have hlen:=Qsl (l:=lmV m) 63
 have hbit:∀ {k:Nat},m.testBit k=true→k<x.orders.length:=fun {k} hk=>Nat.lt_of_not_le fun hge=>by
  have:m.testBit k=false:=Nat.testBit_lt_two_pow (Nat.lt_of_lt_of_le hm (Nat.pow_le_pow_right (by omega) hge))
  rw [this] at hk; cases hk
 have hmem:∀ i∈memN (lmV m) 63,0≤i∧i<x.orders.length:=fun i hi=>by
  obtain ⟨k,rfl,_,hk⟩:=Qtz hi
  rw [← Qrr hm2] at hk
  have:=hbit hk
  omega
 have hin:∀ {k:Nat},m.testBit k=true→(k:Int)∈memN (lmV m) 63:=fun {k} hk=>Qzy (by have:=hbit hk; omega) (by rw [← Qrr hm2]; exact hk)
 have hHas:∀ {i:Int},0≤i→i<x.orders.length→hasO (lmV m) i=m.testBit i.toNat:=fun {i} h0 h1=>by rw [Qrr hm2,Int.toNat_of_nonneg h0]
 have bad:∀ {e:Int} {A:Prop},e≠0→post (some e) fun e=>e=0→A:=fun he=>Qay.2 fun h=>absurd h he
 unfold Qdz
 rw [QaO (by simp),QrU hS,Qaj]
 generalize memN (lmV m) 63=M at *
 rw [Qbg (QcR (B:=fun q=>QaS x (m:Int) M q) (l:=M) (by omega) (fun i=>geI i (lenI x.orders)) (y:=(.inr 2:Unit⊕Int)) (N:=.inl ()) (fun i a hh=>by
  show QaS x (m:Int) M i=_
  unfold QaS
  rw [Qbh hh,incL hh (by omega),brs]) (by
  show QaS x (m:Int) M M.length=_
  unfold QaS
  rw [QaV]))]
 split
 ·exact bad (by decide)
 rw [Qdd,Qbg (QcR (B:=fun q=>QaQ x (m:Int) M q) (l:=M) (by omega) (fun i=>offN x i.toNat) (y:=(.inr 9:Unit⊕Int)) (N:=.inl ()) (fun i a hh=>by
  obtain ⟨q0,q1⟩:=hmem a (List.mem_of_getElem? hh)
  show QaQ x (m:Int) M i=_
  unfold QaQ offN
  rw [Qbh hh,Qrn q0 q1,Qaj,incL hh (by omega),brs,List.getElem?_eq_getElem (by omega)]) (by
  show QaQ x (m:Int) M M.length=_
  unfold QaQ
  rw [QaV]))]
 split
 ·exact bad (by decide)
 rename_i hoff
 rw [Qdd,Qbg (QcR (B:=fun q=>QaI x (m:Int) M q) (l:=x.apart) (by omega) (QnX (lmV m)) (y:=(.inr 20:Unit⊕Int)) (N:=.inl ()) (fun i a hh=>by
  obtain ⟨p0,p1,p2,p3,p4⟩:=hx.aparts a (List.mem_of_getElem? hh)
  show QaI x (m:Int) M i=_
  unfold QaI QnX
  rw [Qbh hh,hS.Has p0 (by omega),Qaj,hS.Has p2 (by omega),Qaj,incL hh (by omega)]
  cases hasO (lmV m) a.x0 <;> cases hasO (lmV m) a.x1 <;> rfl) (by
  show QaI x (m:Int) M x.apart.length=_
  unfold QaI
  rw [QaV]))]
 split
 ·exact bad (by decide)
 rename_i hap
 rw [Qdd,Qbg (QcR (B:=fun q=>QaH x (m:Int) M q) (l:=x.before) (by omega) (fun a=>hasO (lmV m) a.x1&&!hasO (lmV m) a.x0) (y:=(.inr 21:Unit⊕Int)) (N:=.inl ()) (fun i a hh=>by
  obtain ⟨p0,p1,p2,p3,p4⟩:=hx.befores a (List.mem_of_getElem? hh)
  show QaH x (m:Int) M i=_
  unfold QaH
  rw [Qbh hh,hS.Has p2 (by omega),Qaj,hS.Has p0 (by omega),Qaj,incL hh (by omega)]
  cases hasO (lmV m) a.x0 <;> cases hasO (lmV m) a.x1 <;> rfl) (by
  show QaH x (m:Int) M x.before.length=_
  unfold QaH
  rw [QaV]))]
 split
 ·exact bad (by decide)
 rename_i hbe
 obtain ⟨c,hc,f,rfl,hf⟩:=QqV hx
 have hcl:=Qt1 (by omega) hc
 rw [Qdd,hc,Qaj,Qbg (QcR (B:=fun q=>QaE M (vecN x.orders.length fun i=>((f i:Nat):Int)) q) (l:=M) (by omega) (fun i=>(f i.toNat).testBit i.toNat) (y:=(.inr 21:Unit⊕Int)) (N:=.inl ()) (fun i a hh=>by
  obtain ⟨q0,q1⟩:=hmem a (List.mem_of_getElem? hh)
  obtain ⟨k,rfl⟩:∃ k:Nat,a=k:=⟨a.toNat,by omega⟩
  show QaE M (vecN x.orders.length fun i=>((f i:Nat):Int)) i=_
  unfold QaE
  have hlt:=hf.lt k
  have hhas:QbN ((f k:Nat):Int) (k:Int)=some ((f k).testBit k):=by
   have:=(Quc hlt).Has (i:=(k:Int)) (by omega) (by omega)
   rw [this,← Qrr hlt]
  rw [Qbh hh,Qnj q0 q1,Qaj,Int.toNat_natCast,hhas,Qaj,incL hh (by omega),brs]) (by
  show QaE M (vecN x.orders.length fun i=>((f i:Nat):Int)) M.length=_
  unfold QaE
  rw [QaV]))]
 split
 ·exact bad (by decide)
 rename_i hcy
 refine Qay.2 fun _=>⟨fun i hi=>?_,fun p hp hh=>hap ?_,fun p hp h1=>?_,f,hf.lt,fun p hp=>?_,fun i hi=>?_⟩
 ·have:=List.any_eq_false.1 (by simpa using hoff:(M.any fun i=>offN x i.toNat)=false) _ (hin hi)
  simpa using this
 ·obtain ⟨p0,p1,p2,p3,p4⟩:=hx.aparts p hp
  refine List.any_eq_true.2 ⟨p,hp,?_⟩
  unfold QnX
  rw [hHas p0 p1,hHas p2 p3,hh.1,hh.2]; rfl
 ·obtain ⟨p0,p1,p2,p3,p4⟩:=hx.befores p hp
  have:=List.any_eq_false.1 (by simpa using hbe:(x.before.any fun a=>hasO (lmV m) a.x1&&!hasO (lmV m) a.x0)=false) p hp
  rw [hHas p2 p3,hHas p0 p1,h1] at this
  simpa using this
 ·obtain ⟨p0,p1,p2,p3,p4⟩:=hx.befores p hp
  have hfx:=hcl p hp _ _ p0 p2 (Qnj p0 p1) (Qnj p2 p3)
  obtain ⟨a,ha⟩:∃ a:Nat,p.x0=a:=⟨p.x0.toNat,by omega⟩
  obtain ⟨b,hb⟩:∃ b:Nat,p.x1=b:=⟨p.x1.toNat,by omega⟩
  rw [ha,hb] at hfx ⊢
  simp only [Int.toNat_natCast] at hfx ⊢
  have hma:=hf.lt a
  have hmb:=hf.lt b
  have h2:2 ^ a≤2 ^ 9:=Nat.pow_le_pow_right (by omega) (by omega)
  have hor1:f b ||| f a<1024:=Nat.or_lt_two_pow (n:=10) hmb hma
  rw [shlN (by omega),orN (by omega) (by omega),orN (by omega) (by omega)] at hfx
  have e:f b ||| f a ||| 2 ^ a=f b:=by exact_mod_cast hfx
  constructor
  ·rw [← e,Nat.testBit_or,Nat.testBit_two_pow_self,Bool.or_true]
  ·intro j hj
   rw [← e,Nat.testBit_or,Nat.testBit_or,hj,Bool.or_true,Bool.true_or]
 ·have:=List.any_eq_false.1 (by simpa using hcy:(M.any fun i=>(f i.toNat).testBit i.toNat)=false) _ (hin hi)
  simpa using this
theorem AlwS.least (h:AlwS x m) (hx:Qa5 x) (done:Nat→Bool) (hd:∃ i,m.testBit i=true∧done i=false):∃ i,m.testBit i=true∧done i=false∧∀ p∈x.before,p.x1=(i:Int)→done p.x0.toNat=true:=by
 obtain ⟨f,hf,hf2,hf3⟩:=h.chain
 have key:∀ (n i:Nat),f i=n→m.testBit i=true→done i=false→∃ i,m.testBit i=true∧done i=false∧∀ p∈x.before,p.x1=(i:Int)→done p.x0.toNat=true:=by
  intro n
  induction n using Nat.strongRecOn with
  | ind n ih =>
   intro i hn hi hdi
   by_cases hall:∀ p∈x.before,p.x1=(i:Int)→done p.x0.toNat=true
   ·exact ⟨i,hi,hdi,hall⟩
   ·simp only [Classical.not_forall] at hall
    obtain ⟨p,hp,hpi,hnd⟩:=hall
    obtain ⟨g1,g2⟩:=hf2 p hp
    rw [hpi,Int.toNat_natCast] at g1 g2
    have hm0:m.testBit p.x0.toNat=true:=h.before p hp (by rw [hpi,Int.toNat_natCast]; exact hi)
    have hlt:f p.x0.toNat<f i:=by
     have hle:f p.x0.toNat≤f i:=by
      have e:f p.x0.toNat ||| f i=f i:=Nat.eq_of_testBit_eq fun j=>by
       rw [Nat.testBit_or]
       cases hj:(f p.x0.toNat).testBit j with
       | false=>rfl
       | true=>rw [g2 j hj]; rfl
      rw [← e]
      exact Nat.left_le_or
     refine Nat.lt_of_le_of_ne hle fun e=>?_
     have:=hf3 _ hm0
     rw [e] at this
     rw [g1] at this
     cases this
    exact ih _ (by omega) p.x0.toNat rfl hm0 (by simpa using hnd)
 obtain ⟨i,hi,hdi⟩:=hd
 exact key _ i rfl hi hdi
end
end Go.Proofs.YtfjiafgldchinaaGreatDoor
namespace Go.Proofs.YtfjiafgldchinaaGreatDoor
set_option linter.unusedSimpArgs false
set_option linter.unusedVariables false
set_option linter.unusedSectionVars false
inductive WalkL (x:Qac) (m:Nat):List Qaa→Prop
 | nil:WalkL x m []
 | snoc {l:List Qaa} {v:Qaa} (h:WalkL x m l) (hv:v∈nextS x m l x.orders.length):WalkL x m (l++[v])
section
variable {x : Qac} {l t : List Qaa} {m n : Nat} {v w : Qaa}
theorem Qq3 (hv:v∈nextS x m l x.orders.length):v∈visO x v.order∧v∈allV x m∧QjF x l v=true∧offN x v.order.toNat=false∧m.testBit v.order.toNat=true∧0≤v.order∧v.order<x.orders.length:=by
 obtain ⟨i,h1,h2,h3,h4,h5⟩:=Qqs.1 hv
 have ho:=QcP h4
 rw [ho,Int.toNat_natCast]
 exact ⟨h4,Qnd.2 ⟨i,h1,h2,h4⟩,h5,h3,h2,by omega,by omega⟩
theorem WalkL.good (h:WalkL x m l):GoodL x l:=by
 induction h with
 | nil=>exact ⟨by simp,fun v h=>by cases h⟩
 | snoc _ hv ih=>exact QyW ih hv
theorem WalkL.all (h:WalkL x m l):∀ v∈l,v∈allV x m:=by
 induction h with
 | nil=>intro v h; cases h
 | snoc _ hv ih =>
  intro v h
  rcases List.mem_append.1 h with h|h
  ·exact ih v h
  ·rw [List.mem_singleton.1 h]; exact (Qq3 hv).2.1
theorem WalkL.own (h:WalkL x m l):∀ v∈l,v∈visO x v.order∧offN x v.order.toNat=false:=by
 induction h with
 | nil=>intro v h; cases h
 | snoc _ hv ih =>
  intro v h
  rcases List.mem_append.1 h with h|h
  ·exact ih v h
  ·rw [List.mem_singleton.1 h]; exact ⟨(Qq3 hv).1,(Qq3 hv).2.2.2.1⟩
theorem Qng (h:QjF x l v=true):v ∉ l∧(∀ w∈headV v (visO x v.order),w∈l)∧Qnf x l v.order=true:=by
 refine ⟨Qst h,?_⟩
 unfold QjF at h
 simp only [Bool.and_eq_true] at h
 exact ⟨fun w hw=>any_V.1 (List.all_eq_true.1 h.2.1 w hw),h.2.2⟩
theorem QtK (h1:v ∉ l) (h2:∀ w∈headV v (visO x v.order),w∈l) (h3:Qnf x l v.order=true):QjF x l v=true:=by
 unfold QjF
 simp only [Bool.and_eq_true]
 refine ⟨QAw.2 h1,List.all_eq_true.2 fun w hw=>any_V.2 (h2 w hw),h3⟩
theorem QtJ {o:Int}:Qnf x l o=true↔∀ p∈x.before,p.x1=o→∀ w∈visO x p.x0,w∈l:=by
 unfold Qnf
 rw [List.all_eq_true]
 constructor
 ·intro h p hp ho w hw
  have:=h p hp
  rw [Bool.or_eq_true] at this
  rcases this with h'|h'
  ·simp [ho] at h'
  ·exact any_V.1 (List.all_eq_true.1 h' w hw)
 ·intro h p hp
  rw [Bool.or_eq_true]
  by_cases ho:p.x1=o
  ·exact .inr (List.all_eq_true.2 fun w hw=>any_V.2 (h p hp ho w hw))
  ·exact .inl (by simpa using ho)
theorem WalkL.split (h:WalkL x m l) {p:Qap} (hp:p∈x.before) (hb:hasO l p.x1=true):∃ s t,l=s++t∧hasO s p.x1=false∧t≠[]∧(∀ v,t[0]?=some v→v.order=p.x1)∧∀ w∈visO x p.x0,w∈s:=by
 induction h with
 | nil=>cases hb
 | @snoc l v h hv ih =>
  cases hl:hasO l p.x1 with
  | true =>
   obtain ⟨s,t,rfl,h1,h2,h3,h4⟩:=ih hl
   refine ⟨s,t++[v],by rw [List.append_assoc],h1,by simp,fun w hw=>h3 w ?_,h4⟩
   cases t with
   | nil=>exact absurd rfl h2
   | cons a r=>simpa using hw
  | false =>
   have hvo:v.order=p.x1:=by
    obtain ⟨w,hw,ho⟩:=QnZ.1 hb
    rcases List.mem_append.1 hw with hw|hw
    ·have:hasO l p.x1=true:=QnZ.2 ⟨w,hw,ho⟩
     rw [hl] at this; cases this
    ·rw [List.mem_singleton.1 hw] at ho; exact ho
   refine ⟨l,[v],rfl,hl,by simp,fun w hw=>by simp at hw; rw [← hw]; exact hvo,?_⟩
   exact QtJ.1 (Qng (Qq3 hv).2.2.1).2.2 p hp hvo.symm
theorem Qzt {α:Type} {p:α→Bool}:∀ {s t:List α},(∀ a∈s,p a=false)→ixP p (s++t)=(ixP p t).map (·+s.length)
 | [],t,_=>by cases h:ixP p t <;> simp [h]
 | a :: s,t,h=>by
  rw [List.cons_append,ixP,if_neg (by rw [h a (List.mem_cons_self ..)]; decide),Qzt fun b hb=>h b (List.mem_cons_of_mem _ hb)]
  cases ixP p t <;> simp; omega
theorem QuR {α:Type} {p:α→Bool}:∀ {s t:List α},(∃ a∈s,p a=true)→ixI p (s++t)=ixI p s:=by
 intro s t h
 unfold ixI
 have key:∀ s:List α,(∃ a∈s,p a=true)→ixP p (s++t)=ixP p s:=by
  intro s
  induction s with
  | nil=>rintro ⟨a,ha,_⟩; cases ha
  | cons b r ih =>
   rintro ⟨a,ha,hpa⟩
   rw [List.cons_append,ixP,ixP]
   by_cases hb:p b=true
   ·rw [if_pos hb,if_pos hb]
   ·rw [if_neg hb,if_neg hb]
    rcases List.mem_cons.1 ha with rfl|ha
    ·exact absurd hpa hb
    ·rw [ih ⟨a,ha,hpa⟩]
 rw [key s h]
theorem WalkL.row (h:WalkL x m l) {o:Int} {a b:Qaa} {r:List Qaa} (hv:visO x o=a :: b :: r) (hb:b∈l):a∈l∧ixI (isV a) l<ixI (isV b) l:=by
 obtain ⟨rfl,hne⟩:=Qp8 hv
 induction h with
 | nil=>cases hb
 | @snoc l v h hn ih =>
  have hnd:=(WalkL.snoc h hn).good.nodup
  by_cases hbl:b∈l
  ·obtain ⟨h1,h2⟩:=ih hbl
   refine ⟨List.mem_append_left _ h1,?_⟩
   rw [QuR ⟨a,h1,isV_t.2 rfl⟩,QuR ⟨b,hbl,isV_t.2 rfl⟩]
   exact h2
  ·have hbv:b=v:=by
    rcases List.mem_append.1 hb with hb|hb
    ·exact absurd hb hbl
    ·exact List.mem_singleton.1 hb
   subst hbv
   have hbo:b.order=o:=QcP (show b∈visO x o by rw [hv]; simp)
   have hal:a∈l:=(Qng (Qq3 hn).2.2.1).2.1 a (by rw [hbo,hv,headV,if_neg hne,headV,if_pos rfl]; simp)
   refine ⟨List.mem_append_left _ hal,?_⟩
   rw [QuR ⟨a,hal,isV_t.2 rfl⟩,QBh hnd]
   exact QBM.2
theorem WalkL.seq (h : WalkL x m l) (hx : Qa5 x) (hm : m < 2 ^ x.orders.length) (h0 : m ≠ 0) (hall : ∀ v ∈ allV x m, v ∈ l) (hap : ∀ p ∈ x.apart, ¬ (m.testBit p.x0.toNat = true ∧ m.testBit p.x1.toNat = true)) : SeqOK x l ∧ ordS l m := by
  have hg := h.good
  have hlen : l.length = (allV x m).length := Nat.le_antisymm (Quy hg.nodup h.all) (Quy QtY hall)
  have hord : ordS l m := Qz7 hx hm hg h.all hlen
  have hall2 : ∀ {o : Int} {w : Qaa}, hasO l o = true → w ∈ visO x o → w ∈ l := fun {o w} ho hw => by
    obtain ⟨v, hv, rfl⟩ := QnZ.1 ho
    obtain ⟨i, h1, h2, h3⟩ := Qnd.1 (h.all v hv)
    have := QcP h3
    rw [this] at hw
    exact hall w (Qnd.2 ⟨i, h1, h2, hw⟩)
  refine ⟨⟨?_, ?_, ?_, hg.nodup, fun v hv => ?_, ?_, ?_⟩, hord⟩
  · intro he
    refine h0 (Nat.eq_of_testBit_eq fun i => ?_)
    rw [hord, Nat.zero_testBit, List.eq_nil_of_length_eq_zero he]
    rfl
  · rw [List.any_eq_false]
    intro v hv
    have := hg.inn v hv
    simp [inO]
    omega
  · rw [List.any_eq_false]
    intro v hv
    have := (h.own v hv).2
    unfold offN at this
    unfold offV
    cases hq : x.orders[v.order.toNat]? with
    | none => simp
    | some q => rw [hq] at this; simp only at this ⊢; rw [this]; simp
  · unfold pairV
    rw [Bool.and_eq_true]
    refine ⟨any_V.2 (h.own v hv).1, ?_⟩
    have ho : hasO l v.order = true := QnZ.2 ⟨v, hv, rfl⟩
    cases hvis : visO x v.order with
    | nil => rfl
    | cons a r =>
      have ha : a ∈ l := hall2 ho (by rw [hvis]; simp)
      cases r with
      | nil => simp only [rowB, geI_t]; exact Qwn.2 ha
      | cons b r =>
        have hb : b ∈ l := hall2 ho (by rw [hvis]; simp)
        simp only [rowB, geI_t, Bool.and_eq_true, ltI_t]
        exact ⟨Qwn.2 ha, (h.row hvis hb).2⟩
  · rw [List.any_eq_false]
    intro p hp hh
    unfold QnX at hh
    rw [Bool.and_eq_true] at hh
    obtain ⟨p0, p1, p2, p3, p4⟩ := hx.aparts p hp
    refine hap p hp ⟨?_, ?_⟩
    · rw [hord, Int.toNat_of_nonneg p0]; exact hh.1
    · rw [hord, Int.toNat_of_nonneg p2]; exact hh.2
  · rw [List.any_eq_false]
    intro p hp hh
    unfold badB at hh
    rw [Bool.and_eq_true] at hh
    obtain ⟨hb, hh⟩ := hh
    obtain ⟨p0, p1, p2, p3, p4⟩ := hx.befores p hp
    obtain ⟨s, t, rfl, s1, s2, s3, s4⟩ := h.split hp hb
    obtain ⟨a, ha⟩ : ∃ a : Nat, p.x0 = a := ⟨p.x0.toNat, by omega⟩
    obtain ⟨w, hw⟩ := Qwc hx (i := a) (by omega)
    rw [← ha] at hw
    have hws := s4 w hw
    have h1 : hasO (s ++ t) p.x0 = true := QnZ.2 ⟨w, List.mem_append_left _ hws, QcP hw⟩
    rw [h1, Bool.not_true, Bool.false_or] at hh
    unfold lateB at hh
    have e : ixP (isO p.x1) (s ++ t) = some s.length := by
      rw [Qzt fun b hbs => by
        cases hc : isO p.x1 b with
        | false => rfl
        | true => have : hasO s p.x1 = true := QnZ.2 ⟨b, hbs, isO_t.1 hc⟩
                  rw [s1] at this; cases this]
      cases t with
      | nil => exact absurd rfl s2
      | cons c r => rw [ixP, if_pos (isO_t.2 (s3 c rfl))]; simp
    rw [e] at hh
    simp only [List.drop_left] at hh
    obtain ⟨u, hu, huo⟩ := QnZ.1 hh
    have hown := (h.own u (List.mem_append_right _ hu)).1
    rw [huo] at hown
    exact (List.nodup_append.1 hg.nodup).2.2 u (s4 u hown) u hu rfl
theorem Qyz {o:Int} (hn:∃ w∈visO x o,w ∉ l):∃ v∈visO x o,v ∉ l∧∀ w∈headV v (visO x o),w∈l:=by
 cases hv:visO x o with
 | nil=>rw [hv] at hn; obtain ⟨w,hw,_⟩:=hn; cases hw
 | cons a r =>
  rw [hv] at hn
  by_cases ha:a∈l
  ·cases r with
   | nil =>
    obtain ⟨w,hw,hnw⟩:=hn
    rw [List.mem_singleton.1 hw] at hnw
    exact absurd ha hnw
   | cons b r =>
    obtain ⟨rfl,hne⟩:=Qp8 hv
    refine ⟨b,by simp,fun hb=>?_,fun w hw=>?_⟩
    ·obtain ⟨w,hw,hnw⟩:=hn
     rcases List.mem_cons.1 hw with rfl|hw
     ·exact hnw ha
     ·rw [List.mem_singleton.1 hw] at hnw; exact hnw hb
    ·rw [headV,if_neg hne,headV,if_pos rfl] at hw
     rw [List.mem_singleton.1 hw]; exact ha
  ·exact ⟨a,by simp,ha,fun w hw=>by rw [headV,if_pos rfl] at hw; cases hw⟩
theorem AlwS.ready (h:AlwS x m) (hx:Qa5 x) (hm:m<2 ^ x.orders.length) (hn:∃ v∈allV x m,v ∉ l):∃ i,i<x.orders.length∧m.testBit i=true∧(∃ w∈visO x (i:Int),w ∉ l)∧Qnf x l (i:Int)=true:=by
 obtain ⟨v,hv,hvl⟩:=hn
 obtain ⟨i,i1,i2,i3⟩:=Qnd.1 hv
 obtain ⟨j,j1,j2,j3⟩:=h.least hx (fun i=>(visO x (i:Int)).all fun w=>l.any (isV w)) ⟨i,i2,by
  rw [List.all_eq_false]
  exact ⟨v,i3,by rw [any_V]; exact hvl⟩⟩
 have hj:j<x.orders.length:=Nat.lt_of_not_le fun hge=>by
  have:m.testBit j=false:=Nat.testBit_lt_two_pow (Nat.lt_of_lt_of_le hm (Nat.pow_le_pow_right (by omega) hge))
  rw [this] at j1; cases j1
 refine ⟨j,hj,j1,?_,QtJ.2 fun p hp ho w hw=>?_⟩
 ·obtain ⟨w,hw,hwn⟩:=List.all_eq_false.1 j2
  exact ⟨w,hw,fun hh=>hwn (any_V.2 hh)⟩
 ·obtain ⟨p0,p1,p2,p3,p4⟩:=hx.befores p hp
  have:=j3 p hp ho
  rw [Int.toNat_of_nonneg p0] at this
  exact any_V.1 (List.all_eq_true.1 this w hw)
theorem AlwS.next_ne (h:AlwS x m) (hx:Qa5 x) (hm:m<2 ^ x.orders.length) (hn:∃ v∈allV x m,v ∉ l):nextS x m l x.orders.length≠[]:=by
 obtain ⟨i,hi,hb,hw,hr⟩:=h.ready hx hm hn
 obtain ⟨v,v1,v2,v3⟩:=Qyz hw
 have ho:=QcP v1
 intro he
 have:v∈nextS x m l x.orders.length:=Qqs.2 ⟨i,hi,hb,h.off i hb,v1,QtK v2 (by rw [ho]; exact v3) (by rw [ho]; exact hr)⟩
 rw [he] at this; cases this
theorem QyV (hf:∀ v∈allV x m,v∈l):nextS x m l x.orders.length=[]:=by
 refine List.eq_nil_iff_forall_not_mem.2 fun v hv=>?_
 have h:=Qq3 hv
 exact Qst h.2.2.1 (hf v h.2.1)
end
end Go.Proofs.YtfjiafgldchinaaGreatDoor
namespace Go.Proofs.YtfjiafgldchinaaGreatDoor
set_option linter.unusedSimpArgs false
set_option linter.unusedVariables false
set_option linter.unusedSectionVars false
section
variable {x : Qac} {l t : List Qaa} {m n : Nat} {v w : Qaa}
theorem QsU (hx:Qa5 x) (hm:m<2 ^ x.orders.length):m<1024:=Nat.lt_of_lt_of_le hm (Nat.le_trans (Nat.pow_le_pow_right (n:=2) (by omega) hx.orders) (by decide))
theorem QzF (hm:m<2 ^ x.orders.length) {k:Nat} (hk:m.testBit k=true):k<x.orders.length:=Nat.lt_of_not_le fun hge=>by
 have:m.testBit k=false:=Nat.testBit_lt_two_pow (Nat.lt_of_lt_of_le hm (Nat.pow_le_pow_right (by omega) hge))
 rw [this] at hk; cases hk
theorem Qts (hx:Qa5 x) (hm:m<2 ^ x.orders.length):post (Qfe x (m:Int)) fun b=>(b=false→AlwS x m)∧∀ l,SeqOK x l→ordS l m→b=false:=by
 have h10:=hx.orders
 have hm2:=QsU hx hm
 unfold Qfe
 rw [Qbg (Qur (n:=x.orders.length) (B:=fun s=>Qbw x (m:Int) s) (by omega) (fun i=>m.testBit i&&offN x i) (y:=(.inr true:Unit⊕Bool)) (N:=.inl ()) (b:=(List.range x.orders.length).any fun i=>m.testBit i&&offN x i) (by
   rw [List.any_eq_true]
   exact ⟨fun ⟨k,h1,h2⟩=>⟨k,List.mem_range.1 h1,h2⟩,fun ⟨k,h1,h2⟩=>⟨k,List.mem_range.2 h1,h2⟩⟩) (fun i hi=>by
   obtain ⟨o,ho⟩:∃ o,x.orders[i]?=some o:=⟨_,List.getElem?_eq_getElem hi⟩
   show Qbw x (m:Int) (i:Int)=_
   unfold Qbw
   rw [QbO (by simp [lenI]; omega),QaB ho,Qaj,Qb5 (by omega),bitA (by omega) (by omega),addI (by omega) (by omega),brs]
   unfold offN
   rw [ho]) (by
   show Qbw x (m:Int) (x.orders.length:Int)=_
   unfold Qbw
   rw [QaO (by simp [lenI])]))]
 by_cases hoff:((List.range x.orders.length).any fun i=>m.testBit i&&offN x i)=true
 ·rw [if_pos hoff,QqF]
  refine Qay.2 ⟨fun h=>(by cases h),fun l hq ho=>?_⟩
  exfalso
  obtain ⟨i,hi,hb⟩:=List.any_eq_true.1 hoff
  rw [Bool.and_eq_true] at hb
  rw [ho] at hb
  obtain ⟨v,hv,hvo⟩:=QnZ.1 hb.1
  have:=List.any_eq_false.1 hq.off v hv
  have hi:=List.mem_range.1 hi
  unfold offV at this
  have hb2:=hb.2
  unfold offN at hb2
  rw [hvo,Int.toNat_natCast] at this
  rw [List.getElem?_eq_getElem hi] at this hb2
  exact this hb2
 ·rw [if_neg hoff,Qdd]
  obtain ⟨e,he,h1⟩:=Qwg hx hm
  obtain ⟨e',he',h2⟩:=QuC hx hm
  rw [he] at he'
  cases he'
  rw [he,Qaj]
  exact Qay.2 ⟨fun h=>h1 (by simpa using h),fun l hq ho=>by simpa using h2 l hq ho⟩
def AllNo (x:Qac) (l:List Qaa):Prop:=∀ i:Nat,i<x.orders.length→(∀ v∈visO x (i:Int),v∈l)∨∀ v∈visO x (i:Int),v ∉ l
theorem QwN {r:List Qaa}:(!r.any (fun a=>ltI (ixI (isV a) l) 0))=r.all (fun w=>l.any (isV w)):=QwM
theorem Qyc (h:WalkL x m l) (hx:Qa5 x) {i:Nat} (hi:i<x.orders.length) (hb:m.testBit i=true) (ho:offN x i=false) (hno:∀ v∈visO x (i:Int),v ∉ l) (hr:Qnf x l (i:Int)=true):WalkL x m (l++visO x (i:Int)):=by
 cases hv:visO x (i:Int) with
 | nil=>rw [List.append_nil]; exact h
 | cons a r =>
  have ha:a∈visO x (i:Int):=by rw [hv]; simp
  have hao:=QcP ha
  have h1:WalkL x m (l++[a]):=h.snoc (Qqs.2 ⟨i,hi,hb,ho,ha,QtK (hno a ha) (by rw [hao,hv,headV,if_pos rfl]; intro w hw; cases hw) (by rw [hao]; exact hr)⟩)
  cases r with
  | nil=>exact h1
  | cons b r =>
   obtain ⟨rfl,hne⟩:=Qp8 hv
   have hbm:b∈visO x (i:Int):=by rw [hv]; simp
   have hbo:=QcP hbm
   have:=h1.snoc (v:=b) (Qqs.2 ⟨i,hi,hb,ho,hbm,QtK (by
    intro hh
    rcases List.mem_append.1 hh with hh|hh
    ·exact hno b hbm hh
    ·exact hne (List.mem_singleton.1 hh).symm) (by
    rw [hbo,hv,headV,if_neg hne,headV,if_pos rfl]
    intro w hw
    rw [List.mem_singleton.1 hw]; simp) (by
    rw [hbo,QtJ]
    intro p hp hpo w hw
    exact List.mem_append_left _ (QtJ.1 hr p hp hpo w hw))⟩)
   rwa [List.append_assoc] at this
theorem Qyj (h:AllNo x l) {i:Nat}:AllNo x (l++visO x (i:Int)):=fun j hj=>by
 by_cases hji:j=i
 ·subst hji
  exact .inl fun v hv=>List.mem_append_right _ hv
 ·rcases h j hj with h|h
  ·exact .inl fun v hv=>List.mem_append_left _ (h v hv)
  ·refine .inr fun v hv hh=>?_
   rcases List.mem_append.1 hh with hh|hh
   ·exact h v hv hh
   ·have h1:=QcP hv
    have h2:=QcP hh
    omega
theorem WalkL.len (h:WalkL x m l) (hx:Qa5 x):l.length≤20:=by
 have:=h.good.len
 have:=hx.orders
 omega
theorem QuG {o:Int}:((visO x o).all fun w=>l.any (isV w))=true↔∀ w∈visO x o,w∈l:=by
 rw [List.all_eq_true]
 exact ⟨fun h w hw=>any_V.1 (h w hw),fun h w hw=>any_V.2 (h w hw)⟩
theorem Qyk (hx:Qa5 x) (hm:m<1024):Qe8 x (m:Int)=some (!x.apart.any (QnX (lmV m))):=QwO hx (Quc hm)
theorem Quk (hx:Qa5 x) (hm:m<2 ^ x.orders.length) (h0:m≠0):post (QdR x (m:Int)) fun b=>(b=true→∃ l,SeqOK x l∧ordS l m)∧(AlwS x m→b=true):=by
 have h10:=hx.orders
 have hm2:=QsU hx hm
 have hHas:∀ {i:Int},0≤i→i<x.orders.length→hasO (lmV m) i=m.testBit i.toNat:=fun {i} h0 h1=>by rw [Qrr hm2,Int.toNat_of_nonneg h0]
 unfold QdR
 rw [QaO (by simp; omega),Qyk hx hm2,Qaj]
 cases hap:x.apart.any (QnX (lmV m)) with
 | true =>
  refine Qay.2 ⟨fun h=>(by cases h),fun hA=>?_⟩
  exfalso
  obtain ⟨p,hp,hh⟩:=List.any_eq_true.1 hap
  obtain ⟨p0,p1,p2,p3,p4⟩:=hx.aparts p hp
  unfold QnX at hh
  rw [hHas p0 p1,hHas p2 p3,Bool.and_eq_true] at hh
  exact hA.apart p hp hh
 | false =>
  have hap':∀ p∈x.apart,¬ (m.testBit p.x0.toNat=true∧m.testBit p.x1.toNat=true):=fun p hp hh=>by
   obtain ⟨p0,p1,p2,p3,p4⟩:=hx.aparts p hp
   have:=List.any_eq_false.1 hap p hp
   unfold QnX at this
   rw [hHas p0 p1,hHas p2 p3,hh.1,hh.2] at this
   exact this rfl
  show post (bnd (loopF (fun s=>Qca x (m:Int) s.1 s.2) ([],true)) _) _
  refine QaU (R:=fun l=>WalkL x m l∧∀ j,j<x.orders.length→m.testBit j=true→offN x j=false→(∀ w∈visO x (j:Int),w∈l)∨Qnf x l (j:Int)=false) ?_ ?_
  ·refine Qde (fun s:List Qaa×Bool=>WalkL x m s.1∧AllNo x s.1∧(s.2=false→∀ j,j<x.orders.length→m.testBit j=true→offN x j=false→(∀ w∈visO x (j:Int),w∈s.1)∨Qnf x s.1 (j:Int)=false)) (fun s=>2*(20-s.1.length)+if s.2=true then 1 else 0) ⟨.nil,fun i _=>.inr fun v _ h=>by (cases h),fun h=>by cases h⟩ (by simp) ?_
   rintro ⟨l,again⟩ ⟨hW,hA,hex⟩
   have hl:l.length≤20:=hW.len hx
   show post (Qca x (m:Int) l again) _
   unfold Qca
   refine QaC (fun hag=>?_) (fun hag=>Qdn ⟨hW,hex hag⟩)
   refine QaU (R:=fun e:List Qaa×Bool=>WalkL x m e.1∧AllNo x e.1∧(e.2=false→e.1=l∧∀ j,j<x.orders.length→m.testBit j=true→offN x j=false→(∀ w∈visO x (j:Int),w∈l)∨Qnf x l (j:Int)=false)∧(e.2=true→l.length<e.1.length)) ?_ ?_
   ·refine Qde (fun s:List Qaa×Bool×Int=>∃ k:Nat,s.2.2=(k:Int)∧k≤x.orders.length∧WalkL x m s.1∧AllNo x s.1∧(s.2.1=false→s.1=l∧∀ j,j<k→m.testBit j=true→offN x j=false→(∀ w∈visO x (j:Int),w∈l)∨Qnf x l (j:Int)=false)∧(s.2.1=true→l.length<s.1.length)) (fun s=>x.orders.length-s.2.2.toNat) ⟨0,rfl,Nat.zero_le _,hW,hA,fun _=>⟨rfl,fun j hj=>by omega⟩,fun h=>by cases h⟩ (by simp; omega) ?_
    rintro ⟨l1,ag,_⟩ ⟨k,rfl,hk,hW1,hA1,hf,ht⟩
    have hl1:l1.length≤20:=hW1.len hx
    show post (QcN x (m:Int) l l1 ag (k:Int)) _
    unfold QcN
    refine QaC (fun hlt=>?_) (fun hge=>?_)
    ·simp only [ltI_t,lenI] at hlt
     have hk':k<x.orders.length:=by omega
     obtain ⟨o,ho⟩:∃ o,x.orders[k]?=some o:=⟨_,List.getElem?_eq_getElem hk'⟩
     have hoff:offN x k=o.off:=by unfold offN; rw [ho]
     have ek:addK .i64 (k:Int) 1=((k+1:Nat):Int):=(addI (by omega) (by omega)).trans (by omega)
     have stay:∀ {Q:List Qaa×Bool→Prop},(m.testBit k=true→offN x k=false→(∀ w∈visO x (k:Int),w∈l1)∨Qnf x l1 (k:Int)=false)→post (some (Sum.inl (l1,ag,((k+1:Nat):Int))):Option ((List Qaa×Bool×Int)⊕(List Qaa×Bool))) fun y=>(∀ s',y=.inl s'→(∃ k:Nat,s'.2.2=(k:Int)∧k≤x.orders.length∧WalkL x m s'.1∧AllNo x s'.1∧(s'.2.1=false→s'.1=l∧∀ j,j<k→m.testBit j=true→offN x j=false→(∀ w∈visO x (j:Int),w∈l)∨Qnf x l (j:Int)=false)∧(s'.2.1=true→l.length<s'.1.length))∧x.orders.length-s'.2.2.toNat<x.orders.length-(k:Int).toNat)∧∀ e,y=.inr e→Q e:=fun {Q} hst=>Qeu ⟨⟨k+1,rfl,hk',hW1,hA1,fun h=>by
      obtain ⟨rfl,h2⟩:=hf h
      refine ⟨rfl,fun j hj hb hoj=>?_⟩
      rcases Nat.lt_or_ge j k with hjk|hjk
      ·exact h2 j hjk hb hoj
      ·obtain rfl:j=k:=by omega
       exact hst hb hoj,ht⟩,by show x.orders.length-((k+1:Nat):Int).toNat<x.orders.length-(k:Int).toNat; omega⟩
     rw [ek,Qr7 (by omega) (by omega) (by omega),Qaj,Int.toNat_natCast]
     cases hb:m.testBit k with
     | false=>rw [Qbb]; exact stay fun h=>by rw [hb] at h; cases h
     | true =>
      rw [Qbx,QaB ho,Qaj,← hoff]
      cases hof:offN x k with
      | true=>rw [Qbx]; exact stay fun _ h=>by rw [hof] at h; cases h
      | false =>
       rw [Qbb,QoP hx (by omega) (by omega),Qaj,QnY (by omega) QjM,Qaj,QwN]
       cases hc:(visO x (k:Int)).all (fun w=>l1.any (isV w)) with
       | true=>rw [Qbx]; exact stay fun _ _=>.inl (QuG.1 hc)
       | false =>
        rw [Qbb,Qum hx (by omega),Qaj]
        cases hr:Qnf x l1 (k:Int) with
        | false=>rw [Qbb]; exact stay fun _ _=>.inr hr
        | true =>
         have hno:∀ v∈visO x (k:Int),v ∉ l1:=by
          rcases hA1 k hk' with h|h
          ·rw [QuG.2 h] at hc; cases hc
          ·exact h
         have hW2:=Qyc hW1 hx hk' hb hof hno hr
         obtain ⟨w,hw⟩:=Qwc hx hk'
         have hpos:=List.length_pos_of_mem hw
         have h2:=QjM (x:=x) (o:=(k:Int))
         rw [Qbx,Qaj,Qb5 (QeM (by rw [List.length_append]; omega))]
         refine Qeu ⟨⟨k+1,rfl,hk',hW2,Qyj hA1,fun h=>(by cases h),fun _=>?_⟩,by show x.orders.length-((k+1:Nat):Int).toNat<x.orders.length-(k:Int).toNat; omega⟩
         show l.length<(l1++visO x (k:Int)).length
         rw [List.length_append]
         cases ag with
         | false=>have h1:l1=l:=(hf rfl).1; rw [h1]; omega
         | true=>have h1:l.length<l1.length:=ht rfl; omega
    ·simp only [ltI_f,lenI] at hge
     have hkn:k=x.orders.length:=by omega
     subst hkn
     exact Qdn ⟨hW1,hA1,hf,ht⟩
   ·rintro ⟨l1,ag⟩ ⟨hW1,hA1,hf,ht⟩
    have hl1:l1.length≤20:=hW1.len hx
    refine Qeu ⟨⟨hW1,hA1,fun h=>by
     obtain ⟨h1,h2⟩:=hf h
     have h1:l1=l:=h1
     subst h1
     exact h2⟩,?_⟩
    show 2*(20-l1.length)+(if ag=true then 1 else 0)<2*(20-l.length)+if again=true then 1 else 0
    rw [if_pos hag]
    cases ag with
    | false =>
     have h1:l1=l:=(hf rfl).1
     rw [h1]; simp
    | true =>
     have h1:l.length<l1.length:=ht rfl
     rw [if_pos rfl]
     omega
  ·rintro l ⟨hW,hex⟩
   have hl:=hW.len hx
   rw [Qbg (Qur (n:=x.orders.length) (B:=fun s=>Qa7 x (m:Int) l s) (by omega) (fun i=>m.testBit i&&(offN x i||!((visO x (i:Int)).all fun w=>l.any (isV w)))) (y:=(.inr false:Unit⊕Bool)) (N:=.inl ()) (b:=(List.range x.orders.length).any fun i=>m.testBit i&&(offN x i||!((visO x (i:Int)).all fun w=>l.any (isV w)))) (by
    rw [List.any_eq_true]
    exact ⟨fun ⟨k,h1,h2⟩=>⟨k,List.mem_range.1 h1,h2⟩,fun ⟨k,h1,h2⟩=>⟨k,List.mem_range.2 h1,h2⟩⟩) (fun i hi=>by
    obtain ⟨o,ho⟩:∃ o,x.orders[i]?=some o:=⟨_,List.getElem?_eq_getElem hi⟩
    have hoff:offN x i=o.off:=by unfold offN; rw [ho]
    show Qa7 x (m:Int) l (i:Int)=_
    unfold Qa7
    rw [QbO (by simp [lenI]; omega),Qr7 (by omega) (by omega) (by omega),Qaj,Int.toNat_natCast,addI (by omega) (by omega),QaB ho,Qaj,← hoff,QoP hx (by omega) (by omega),Qaj,QnY (by omega) QjM,Qaj,QwN]
    cases m.testBit i <;> cases offN x i <;> cases ((visO x (i:Int)).all fun w=>l.any (isV w)) <;> rfl) (by
    show Qa7 x (m:Int) l (x.orders.length:Int)=_
    unfold Qa7
    rw [QaO (by simp [lenI])]))]
   by_cases hany:((List.range x.orders.length).any fun i=>m.testBit i&&(offN x i||!((visO x (i:Int)).all fun w=>l.any (isV w))))=true
   ·rw [if_pos hany,QqF]
    refine Qay.2 ⟨fun h=>(by cases h),fun hA=>?_⟩
    exfalso
    obtain ⟨i,hi,hh⟩:=List.any_eq_true.1 hany
    have hi:=List.mem_range.1 hi
    rw [Bool.and_eq_true] at hh
    obtain ⟨hb,hh⟩:=hh
    rw [hA.off i hb,Bool.false_or,Bool.not_eq_true'] at hh
    obtain ⟨w,hw,hwn⟩:=List.all_eq_false.1 hh
    obtain ⟨j,hj,hjb,⟨u,hu,hun⟩,hr⟩:=hA.ready hx hm ⟨w,Qnd.2 ⟨i,hi,hb,hw⟩,fun hm=>hwn (any_V.2 hm)⟩
    rcases hex j hj hjb (hA.off j hjb) with h|h
    ·exact hun (h u hu)
    ·rw [hr] at h; cases h
   ·rw [if_neg hany,Qdd]
    refine Qay.2 ⟨fun _=>⟨l,hW.seq hx hm h0 (fun v hv=>?_) hap'⟩,fun _=>rfl⟩
    obtain ⟨i,hi,hb,hvo⟩:=Qnd.1 hv
    have:=List.any_eq_false.1 (by simpa using hany:((List.range x.orders.length).any fun i=>m.testBit i&&(offN x i||!((visO x (i:Int)).all fun w=>l.any (isV w))))=false) i (List.mem_range.2 hi)
    rw [hb,Bool.true_and] at this
    simp only [Bool.or_eq_true,Bool.not_eq_true',not_or,Bool.not_eq_false] at this
    exact QuG.1 this.2 v hvo
end
end Go.Proofs.YtfjiafgldchinaaGreatDoor
namespace Go.Proofs.YtfjiafgldchinaaGreatDoor
set_option linter.unusedSimpArgs false
set_option linter.unusedVariables false
set_option linter.unusedSectionVars false
def Qdo (x:Qac) (m:Nat):Nat→List Qaa→List (List Qaa)
 | 0,l=>[l]
 | k+1,l=>(nextS x m l x.orders.length).flatMap fun v=>Qdo x m k (l++[v])
def cntB (m:Nat):Nat→Nat
 | 0=>0
 | n+1=>cntB m n+if m.testBit n=true then 1 else 0
section
variable {x : Qac} {l t : List Qaa} {m n k : Nat} {v w : Qaa}
theorem Qy6 {o:Int}:((visO x o).filter (QjF x l)).length≤1:=by
 cases hv:visO x o with
 | nil=>simp
 | cons a r =>
  have hao:a.order=o:=QcP (by rw [hv]; simp)
  cases r with
  | nil=>exact Nat.le_trans (List.length_filter_le ..) (by simp)
  | cons b r =>
   obtain ⟨rfl,hne⟩:=Qp8 hv
   have hbo:b.order=o:=QcP (show b∈visO x o by rw [hv]; simp)
   by_cases ha:QjF x l a=true
   ·have hb:QjF x l b=false:=by
     cases hb:QjF x l b with
     | false=>rfl
     | true =>
      have h1:=(Qng ha).1
      have h2:=(Qng hb).2.1 a (by rw [hbo,hv,headV,if_neg hne,headV,if_pos rfl]; simp)
      exact absurd h2 h1
    simp [List.filter_cons,ha,hb]
   ·have ha:QjF x l a=false:=by simpa using ha
    rw [List.filter_cons,if_neg (by rw [ha]; decide)]
    exact Nat.le_trans (List.length_filter_le ..) (by simp)
theorem QvS:∀ n,(nextS x m l n).length≤cntB m n
 | 0=>Nat.le_refl _
 | n+1=>by
  have ih:=QvS n
  have h1:=Qy6 (x:=x) (l:=l) (o:=(n:Int))
  unfold nextS cntB
  rw [List.length_append]
  cases m.testBit n with
  | false=>simp; exact ih
  | true =>
   cases offN x n with
   | true=>simp; omega
   | false=>simp only [Bool.not_false,Bool.and_self,if_true]; omega
theorem QrS:∀ n,(restS x m l n).length≤2*cntB m n
 | 0=>Nat.le_refl _
 | n+1=>by
  have ih:=QrS n
  have h2:=QjM (x:=x) (o:=(n:Int))
  have h3:((visO x (n:Int)).filter fun v=>!l.any (isV v)).length≤(visO x (n:Int)).length:=List.length_filter_le ..
  unfold restS cntB
  rw [List.length_append]
  cases m.testBit n with
  | false=>simp; exact ih
  | true=>simp only [if_true]; omega
theorem Qs8 {α β:Type} {f:α→List β} {c:Nat}:∀ (l:List α),(∀ a∈l,(f a).length≤c)→(l.flatMap f).length≤l.length*c
 | [],_=>by simp
 | a :: r,h=>by
  have h1:=h a (List.mem_cons_self ..)
  have h2:=Qs8 (f:=f) (c:=c) r fun b hb=>h b (List.mem_cons_of_mem _ hb)
  rw [List.flatMap_cons,List.length_append,List.length_cons,Nat.succ_mul]
  omega
theorem Qsh (hc:cntB m x.orders.length≤3):∀ (k:Nat) (l:List Qaa),(Qdo x m k l).length≤3 ^ k
 | 0,_=>Nat.le_refl _
 | k+1,l=>by
  unfold Qdo
  have h1:=Qs8 (f:=fun v=>Qdo x m k (l++[v])) (c:=3 ^ k) (nextS x m l x.orders.length) fun v _=>Qsh hc k _
  have h2:=QvS (x:=x) (m:=m) (l:=l) x.orders.length
  have h3:(nextS x m l x.orders.length).length*3 ^ k≤3*3 ^ k:=Nat.mul_le_mul_right _ (by omega)
  rw [Nat.pow_succ]
  omega
theorem QBr (hk:k≤6):3 ^ k≤729:=Nat.le_trans (Nat.pow_le_pow_right (by decide) hk) (by decide)
theorem Qtl (hc:cntB m x.orders.length≤3):(allV x m).length≤6:=by
 have:=QrS (x:=x) (m:=m) (l:=[]) x.orders.length
 unfold allV
 omega
theorem Qtc:∀ (k:Nat) (l:List Qaa),WalkL x m l→∀ s∈Qdo x m k l,WalkL x m s∧s.length=l.length+k
 | 0,l,h,s,hs=>by rw [List.mem_singleton.1 hs]; exact ⟨h,rfl⟩
 | k+1,l,h,s,hs=>by
  unfold Qdo at hs
  obtain ⟨v,hv,hs⟩:=List.mem_flatMap.1 hs
  obtain ⟨h1,h2⟩:=Qtc k _ (h.snoc hv) s hs
  exact ⟨h1,by rw [h2]; simp; omega⟩
theorem WalkL.out (h:WalkL x m l) (hk:l.length+(k+1)=(allV x m).length):∃ v∈allV x m,v ∉ l:=Classical.byContradiction fun hn=>by
 have:(allV x m).length≤l.length:=Quy QtY fun v hv=>Classical.byContradiction fun hh=>hn ⟨v,hv,hh⟩
 omega
theorem WalkL.full (h:WalkL x m l) (hk:l.length=(allV x m).length):∀ v∈allV x m,v∈l:=QzG h.good.nodup h.all (by omega)
theorem Qhb {α β:Type} {f:α→List β} {l:List α} {i:Nat} {a:α} (h:l[i]?=some a):(l.take (i+1)).flatMap f=(l.take i).flatMap f++f a:=by
 rw [List.take_add_one,h]; simp
theorem Qlt {α β:Type} {f:α→List β} {l:List α} (i:Nat):((l.take i).flatMap f).length≤(l.flatMap f).length:=by
 have:(l.flatMap f).length=((l.take i).flatMap f).length+((l.drop i).flatMap f).length:=by
  rw [← List.length_append,← List.flatMap_append,List.take_append_drop]
 omega
theorem Qys {l:List Qaa}:Qbr l=some l:=by
 unfold Qbr slcI lenI
 rw [if_pos (by omega)]
 simp
theorem Qyb (hA:AlwS x m) (hx:Qa5 x) (hm:m<2 ^ x.orders.length):∀ (k fuel:Nat) (l:List Qaa) (out:List (List Qaa)),WalkL x m l→l.length+k=(allV x m).length→k<fuel→out.length+(Qdo x m k l).length≤8192 →
  QcE fuel l ((allV x m).length:Int) out x (m:Int)=some (true,((allV x m).length:Int),out++Qdo x m k l,x,(m:Int))
 | k,0,_,_,_,_,h,_=>by omega
 | 0,fuel+1,l,out,hW,hk,_,hb=>by
  have hl:=hW.len hx
  show Qeq (QcE fuel) l ((allV x m).length:Int) out x (m:Int)=_
  unfold Qeq
  unfold Qdo at hb ⊢
  simp only [List.length_singleton] at hb
  rw [QbO (by simp [lenI]; omega),Qb5 (QeM (by rw [List.length_append]; simp; omega)),show leI (lenI (out++[l])) 8192=true by simp [lenI]; omega]
 | k+1,fuel+1,l,out,hW,hk,hf,hb=>by
  have hl:=hW.len hx
  have h10:=hx.orders
  have hm2:=QsU hx hm
  show Qeq (QcE fuel) l ((allV x m).length:Int) out x (m:Int)=_
  unfold Qeq
  rw [QaO (by simp [lenI]; omega),QAT hx (by omega) hm2,Qaj]
  unfold Qdo at hb ⊢
  have hcnt:=QoZ (x:=x) (m:=m) (l:=l) x.orders.length
  have hmem:∀ v∈nextS x m l x.orders.length,WalkL x m (l++[v]):=fun v hv=>hW.snoc hv
  generalize nextS x m l x.orders.length=N at *
  have:=QcQ N.length (fun i=>(out++(N.take i).flatMap (fun v=>Qdo x m k (l++[v])),((allV x m).length:Int),x,(m:Int),(i:Int)))
   (B:=fun s:List (List Qaa)×Int×Qac×Int×Int=>Qck (QcE fuel) l ((allV x m).length:Int) N s.1 s.2.1 s.2.2.1 s.2.2.2.1 s.2.2.2.2)
   (e:=.inl (out++N.flatMap (fun v=>Qdo x m k (l++[v])),((allV x m).length:Int),x,(m:Int))) (by omega) (fun i hi=>by
    have e:N[i]?=some N[i]:=List.getElem?_eq_getElem hi
    have hW':=hmem _ (List.getElem_mem hi)
    have hle:=Qlt (f:=fun v=>Qdo x m k (l++[v])) (l:=N) (i+1)
    rw [Qhb e,List.length_append] at hle
    show Qck (QcE fuel) l ((allV x m).length:Int) N (out++(N.take i).flatMap fun v=>Qdo x m k (l++[v])) ((allV x m).length:Int) x (m:Int) (i:Int)=_
    unfold Qck
    rw [Qbh e,Qys,Qaj,Qb5 (QeM (by rw [List.length_append]; simp; omega)),Qyb hA hx hm k fuel (l++[N[i]]) _ hW' (by rw [List.length_append]; simp; omega) (by omega) (by rw [List.length_append]; omega),Qaj,Qbx,incL e (by omega),Qhb e,List.append_assoc]
    rfl) (by
    show Qck (QcE fuel) l ((allV x m).length:Int) N (out++(N.take N.length).flatMap fun v=>Qdo x m k (l++[v])) ((allV x m).length:Int) x (m:Int) (N.length:Int)=_
    unfold Qck
    rw [QaV,List.take_length])
  rw [Qbg (show loopF (fun s:List (List Qaa)×Int×Qac×Int×Int=>Qck (QcE fuel) l ((allV x m).length:Int) N s.1 s.2.1 s.2.2.1 s.2.2.2.1 s.2.2.2.2) (out,((allV x m).length:Int),x,(m:Int),0)=_ by
   simpa using this),Qdd]
theorem Qzn (hA:AlwS x m) (hx:Qa5 x) (hm:m<2 ^ x.orders.length):∀ (k fuel:Nat) (l:List Qaa) (out:List (List Qaa)),WalkL x m l→l.length+k=(allV x m).length→k<fuel→out.length+(Qdo x m k l).length≤8192 →
  QaX fuel x (m:Int) l out=some (out++Qdo x m k l)
 | k,0,_,_,_,_,h,_=>by omega
 | 0,fuel+1,l,out,hW,hk,_,hb=>by
  have hl:=hW.len hx
  have hm2:=QsU hx hm
  show Qbz (QaX fuel) x (m:Int) l out=_
  unfold Qbz
  unfold Qdo at hb ⊢
  simp only [List.length_singleton] at hb
  rw [QaO (by simp [lenI]; omega),Qtj hx (by omega) hm2,Qaj,QyV (hW.full (by omega)),QbO (show eqI (lenI ([]:List Qaa)) 0=true by decide),Qb5 (QeM (by rw [List.length_append]; simp; omega))]
 | k+1,fuel+1,l,out,hW,hk,hf,hb=>by
  have hl:=hW.len hx
  have h10:=hx.orders
  have hm2:=QsU hx hm
  have hne:=hA.next_ne hx hm (hW.out hk)
  show Qbz (QaX fuel) x (m:Int) l out=_
  unfold Qbz
  rw [QaO (by simp [lenI]; omega),Qtj hx (by omega) hm2,Qaj]
  unfold Qdo at hb ⊢
  have hcnt:=QoZ (x:=x) (m:=m) (l:=l) x.orders.length
  have hmem:∀ v∈nextS x m l x.orders.length,WalkL x m (l++[v]):=fun v hv=>hW.snoc hv
  generalize nextS x m l x.orders.length=N at *
  have hpos:0<N.length:=List.length_pos_iff.2 hne
  have:=QcQ N.length (fun i=>(out++(N.take i).flatMap (fun v=>Qdo x m k (l++[v])),(i:Int)))
   (B:=fun s:List (List Qaa)×Int=>QaT (QaX fuel) x (m:Int) l N s.1 s.2)
   (e:=out++N.flatMap (fun v=>Qdo x m k (l++[v]))) (by omega) (fun i hi=>by
    have e:N[i]?=some N[i]:=List.getElem?_eq_getElem hi
    have hW':=hmem _ (List.getElem_mem hi)
    have hle:=Qlt (f:=fun v=>Qdo x m k (l++[v])) (l:=N) (i+1)
    rw [Qhb e,List.length_append] at hle
    show QaT (QaX fuel) x (m:Int) l N (out++(N.take i).flatMap fun v=>Qdo x m k (l++[v])) (i:Int)=_
    unfold QaT
    rw [QbO (by simp [lenI]; omega),Qb5 (QeM (by omega)),QaB e,Qaj,Qb5 (QeM (by rw [List.length_append]; simp; omega)),Qzn hA hx hm k fuel (l++[N[i]]) _ hW' (by rw [List.length_append]; simp; omega) (by omega) (by rw [List.length_append]; omega),Qaj,incL e (by omega),Qhb e,List.append_assoc]
    rfl) (by
    show QaT (QaX fuel) x (m:Int) l N (out++(N.take N.length).flatMap fun v=>Qdo x m k (l++[v])) (N.length:Int)=_
    unfold QaT
    rw [QaO (by simp [lenI]),List.take_length])
  rw [QaO (by simp [lenI]; omega),Qbg (show loopF (fun s:List (List Qaa)×Int=>QaT (QaX fuel) x (m:Int) l N s.1 s.2) (out,0)=_ by
   simpa using this)]
theorem QA7 (hA:AlwS x m) (hx:Qa5 x) (hm:m<2 ^ x.orders.length) (h0:(allV x m).length≠0) (hb:(Qdo x m (allV x m).length []).length≤8192):Qct x (m:Int) []=some (Qdo x m (allV x m).length []):=by
 have h10:=hx.orders
 have hm2:=QsU hx hm
 obtain ⟨k,hk⟩:∃ k,(allV x m).length=k+1:=⟨(allV x m).length-1,by omega⟩
 have hW:WalkL x m []:=.nil
 have hne:=hA.next_ne hx hm (hW.out (k:=k) (by rw [hk]; simp))
 have hk20:k≤20:=by
  have:=QrS (x:=x) (m:=m) (l:=[]) x.orders.length
  have h2:∀ n,cntB m n≤n:=fun n=>by
   induction n with
   | zero=>exact Nat.le_refl _
   | succ n ih=>unfold cntB; split <;> omega
  have:=h2 x.orders.length
  unfold allV at hk
  omega
 unfold Qct
 rw [QaO (by decide),Qtj hx (by simp) hm2,Qaj]
 rw [hk] at hb ⊢
 unfold Qdo at hb ⊢
 have hcnt:=QoZ (x:=x) (m:=m) (l:=[]) x.orders.length
 have hmem:∀ v∈nextS x m [] x.orders.length,WalkL x m ([]++[v]):=fun v hv=>hW.snoc hv
 generalize nextS x m [] x.orders.length=N at *
 have hpos:0<N.length:=List.length_pos_iff.2 hne
 have:=QcQ N.length (fun i=>((N.take i).flatMap (fun v=>Qdo x m k ([]++[v])),(i:Int)))
  (B:=fun s:List (List Qaa)×Int=>QaR x (m:Int) [] N s.1 s.2)
  (e:=N.flatMap (fun v=>Qdo x m k ([]++[v]))) (by omega) (fun i hi=>by
   have e:N[i]?=some N[i]:=List.getElem?_eq_getElem hi
   have hW':=hmem _ (List.getElem_mem hi)
   have hle:=Qlt (f:=fun v=>Qdo x m k ([]++[v])) (l:=N) (i+1)
   rw [Qhb e,List.length_append] at hle
   show QaR x (m:Int) [] N ((N.take i).flatMap fun v=>Qdo x m k ([]++[v])) (i:Int)=_
   unfold QaR QfX
   rw [QbO (by simp [lenI]; omega),Qb5 (QeM (by simp)),QaB e,Qaj,Qb5 (QeM (by simp)),Qzn hA hx hm k Qpz ([]++[N[i]]) _ hW' (by simp; omega) (by unfold Qpz; omega) (by omega),Qaj,incL e (by omega),Qhb e]
   rfl) (by
   show QaR x (m:Int) [] N ((N.take N.length).flatMap fun v=>Qdo x m k ([]++[v])) (N.length:Int)=_
   unfold QaR
   rw [QaO (by simp [lenI]),List.take_length])
 rw [QaO (by simp [lenI]; omega),Qbg (show loopF (fun s:List (List Qaa)×Int=>QaR x (m:Int) [] N s.1 s.2) ([],0)=_ from this)]
open Classical in
noncomputable def allS (x:Qac) (m:Nat):List (List Qaa):=if m≠0∧AlwS x m then Qdo x m (allV x m).length [] else []
theorem QAL (hx:Qa5 x) (hm:m<2 ^ x.orders.length):loopF (fun s=>QcX x (m:Int) s.1 s.2) (0,0)=some ((allV x m).length:Int):=by
 have h10:=hx.orders
 have hm2:=QsU hx hm
 exact QcQ x.orders.length (fun k=>(((restS x m [] k).length:Int),(k:Int))) (B:=fun s:Int×Int=>QcX x (m:Int) s.1 s.2) (e:=((allV x m).length:Int)) (by omega) (fun k hk=>by
  have h1:=QrS (x:=x) (m:=m) (l:=[]) k
  have h2:∀ n,cntB m n≤n:=fun n=>by
   induction n with
   | zero=>exact Nat.le_refl _
   | succ n ih=>unfold cntB; split <;> omega
  have h3:=h2 k
  have hv:=QjM (x:=x) (o:=(k:Int))
  show QcX x (m:Int) ((restS x m [] k).length:Int) (k:Int)=some (.inl (((restS x m [] k++_).length:Int),((k+1:Nat):Int)))
  unfold QcX
  have hfl:(visO x (k:Int)).filter (fun v=>!([]:List Qaa).any (isV v))=visO x (k:Int):=List.filter_eq_self.2 fun _ _=>rfl
  have ek:addK .i64 (k:Int) 1=((k+1:Nat):Int):=(addI (by omega) (by omega)).trans (by omega)
  rw [QbO (by simp [lenI]; omega),Qb5 (by omega),bitA (by omega) (by omega),QrL hx (by omega) (by omega),Qaj,hfl,ek]
  cases m.testBit k with
  | false=>simp
  | true=>rw [Qbx,if_pos rfl,List.length_append]; unfold lenI; rw [addI (by omega) (by omega)]; simp) (by
  show QcX x (m:Int) ((restS x m [] x.orders.length).length:Int) (x.orders.length:Int)=_
  unfold QcX
  rw [QaO (by simp [lenI])]; rfl)
theorem Qvb (hx:Qa5 x) {m:Nat}:neI (shrK .i64 (m:Int) (lenI x.orders)) 0=!decide (m<2 ^ x.orders.length):=by
 have h10:=hx.orders
 unfold lenI
 rw [shrN (by omega),Bool.eq_iff_iff,neI_t,Bool.not_eq_true',decide_eq_false_iff_not]
 have h2:=Nat.two_pow_pos x.orders.length
 constructor
 ·intro h hlt
  rw [Nat.div_eq_of_lt hlt] at h
  exact h rfl
 ·intro h he
  have:m / 2 ^ x.orders.length=0:=by omega
  rcases (Nat.div_eq_zero_iff).1 this with h'|h' <;> omega
theorem QrW (hx:Qa5 x) (hm:m<9223372036854775808):loopF (fun s=>Qch x (m:Int) s) 0=some (if m<2 ^ x.orders.length then .inl () else .inr ([],2)):=by
 have h10:=hx.orders
 have key:=Qur (n:=63) (B:=fun s=>Qch x (m:Int) s) (by decide) (fun i=>m.testBit i&&decide (x.orders.length≤i)) (y:=(.inr ([],2):Unit⊕(List (List Qaa)×Int))) (N:=.inl ()) (b:=!decide (m<2 ^ x.orders.length)) (by
   rw [Bool.not_eq_true',decide_eq_false_iff_not]
   constructor
   ·intro h
    refine Classical.byContradiction fun hn=>h (Nat.lt_pow_two_of_testBit _ fun i hi=>?_)
    cases hb:m.testBit i with
    | false=>rfl
    | true =>
     rcases Nat.lt_or_ge i 63 with h63|h63
     ·exact absurd ⟨i,h63,by rw [hb,Bool.true_and,decide_eq_true_eq]; exact hi⟩ hn
     ·rw [tb63 hm h63] at hb; cases hb
   ·rintro ⟨i,hi,hh⟩ hlt
    rw [Bool.and_eq_true,decide_eq_true_eq] at hh
    have:=QzF hlt hh.1
    omega) (fun i hi=>by
   show Qch x (m:Int) (i:Int)=_
   unfold Qch
   rw [QbO (by simp; omega),Qr7 (by omega) (by omega) (by omega),Qaj,Int.toNat_natCast,addI (by omega) (by omega),show geI (i:Int) (lenI x.orders)=decide (x.orders.length≤i) by rw [Bool.eq_iff_iff,geI_t,decide_eq_true_eq]; unfold lenI; omega,brs]) (by
   show Qch x (m:Int) ((63:Nat):Int)=_
   unfold Qch
   rw [QaO (by decide)])
 rw [key]
 by_cases h:m<2 ^ x.orders.length
 ·rw [if_neg (by simp [h]),if_pos h]
 ·rw [if_pos (by simp; omega),if_neg h]
theorem QAQ (hx:Qa5 x) (hm:m<2 ^ x.orders.length) (hc:cntB m x.orders.length≤3):Qgv x (m:Int)=some (allS x m,0)∧QeJ x (m:Int)=some (allS x m,0):=by
 have hm2:=QsU hx hm
 by_cases h0:m=0
 ·subst h0
  have e:allS x 0=[]:=by unfold allS; rw [if_neg (by simp)]
  rw [e]
  constructor
  ·unfold Qgv
   rw [QaO (by decide),Qb5 (by unfold lenI; omega),Qvb hx,QaO (by simp [hm]),QbO (by decide)]
  ·unfold QeJ
   rw [QaO (by decide),Qbg (QrW hx (by omega)),if_pos hm,Qdd]
   rfl
 obtain ⟨b,hb,hb1,hb2⟩:=Qts hx hm
 obtain ⟨c,hc0,hc1,hc2⟩:=Quk hx hm h0
 have hbc:b=!c:=by
  cases b with
  | false=>rw [hc2 (hb1 rfl)]; rfl
  | true =>
   cases c with
   | false=>rfl
   | true =>
    obtain ⟨l,h1,h2⟩:=hc1 rfl
    exact absurd (hb2 l h1 h2) (by decide)
 have hcb:c=true↔AlwS x m:=⟨fun h=>hb1 (by rw [hbc,h]; rfl),hc2⟩
 have hlen:(Qdo x m (allV x m).length []).length≤729:=Nat.le_trans (Qsh hc _ _) (QBr (Qtl hc))
 have hVne:(allV x m).length≠0:=by
  intro he
  refine h0 (Nat.eq_of_testBit_eq fun i=>?_)
  rw [Nat.zero_testBit]
  cases hbit:m.testBit i with
  | false=>rfl
  | true =>
   have hi:=QzF hm hbit
   obtain ⟨v,hv⟩:=Qwc hx hi
   have:=Qnd.2 ⟨i,hi,hbit,hv⟩
   rw [List.eq_nil_of_length_eq_zero he] at this
   cases this
 constructor
 ·unfold Qgv
  rw [QaO (by simp),Qb5 (by unfold lenI; omega),Qvb hx,QaO (by simp [hm]),QaO (by simp; omega),hb,Qaj]
  by_cases hA:AlwS x m
  ·have e:allS x m=Qdo x m (allV x m).length []:=by unfold allS; rw [if_pos ⟨h0,hA⟩]
   rw [hbc,hcb.2 hA,Bool.not_true,Qbb,Qbg (QAL hx hm),e]
   have:=Qyb hA hx hm (allV x m).length Qpz [] [] .nil (by simp) (by have:=Qtl hc; unfold Qpz; omega) (by simp; omega)
   unfold Qku
   rw [this,Qaj,Qbx,List.nil_append]
  ·have e:allS x m=[]:=by unfold allS; rw [if_neg (by simp [hA])]
   have hcf:c=false:=by
    cases c with
    | false=>rfl
    | true=>exact absurd (hcb.1 rfl) hA
   rw [hbc,hcf,Bool.not_false,Qbx,e]
 ·unfold QeJ
  rw [QaO (by simp),Qbg (QrW hx (by omega)),if_pos hm,Qdd,hc0,Qaj]
  by_cases hA:AlwS x m
  ·have e:allS x m=Qdo x m (allV x m).length []:=by unfold allS; rw [if_pos ⟨h0,hA⟩]
   rw [hcb.2 hA,Qbx,QA7 hA hx hm hVne (by omega),Qaj,QaO (by simp [lenI]; omega),e]
  ·have e:allS x m=[]:=by unfold allS; rw [if_neg (by simp [hA])]
   have hcf:c=false:=by
    cases c with
    | false=>rfl
    | true=>exact absurd (hcb.1 rfl) hA
   rw [hcf,Qbb,e]
theorem Qzh (hx:Qa5 x) (hm:m<9223372036854775808) (hb:¬ m<2 ^ x.orders.length):Qgv x (m:Int)=some ([],2)∧QeJ x (m:Int)=some ([],2):=by
 constructor
 ·unfold Qgv
  rw [QaO (by simp),Qb5 (by unfold lenI; omega),Qvb hx,QbO (by simp; omega)]
 ·unfold QeJ
  rw [QaO (by simp),Qbg (QrW hx hm),if_neg hb,QqF]
theorem QuF (hc:cntB m x.orders.length≤3):(allS x m).length≤729:=by
 unfold allS
 split
 ·exact Nat.le_trans (Qsh hc _ _) (QBr (Qtl hc))
 ·simp
theorem QzS {s:List Qaa} (hs:s∈allS x m):m≠0∧AlwS x m∧WalkL x m s∧s.length=(allV x m).length:=by
 unfold allS at hs
 split at hs
 ·rename_i h
  obtain ⟨h1,h2⟩:=Qtc _ _ .nil s hs
  exact ⟨h.1,h.2,h1,by rw [h2]; simp⟩
 ·cases hs
theorem Qvr (m:Nat):∀ n,cntB m (n+1)=m % 2+cntB (m / 2) n
 | 0=>by
  unfold cntB cntB
  rw [Nat.testBit_zero]
  have:m % 2=0∨m % 2=1:=by omega
  rcases this with h|h <;> simp [h,cntB]
 | n+1=>by
  rw [cntB,Qvr m n,cntB,Nat.testBit_succ]
  omega
theorem Qvs:∀ n,cntB 0 n=0
 | 0=>rfl
 | n+1=>by rw [cntB,Qvs n]; simp
theorem Qzk (m:Nat):∀ n,cntB m n≤n
 | 0=>Nat.le_refl _
 | n+1=>by have:=Qzk m n; unfold cntB; split <;> omega
theorem Qyt {a b:Nat} (h:a≤b):cntB m a≤cntB m b:=by
 induction h with
 | refl=>exact Nat.le_refl _
 | step _ ih=>exact Nat.le_trans ih (Nat.le_add_right _ _)
theorem QAV (hm:m<9223372036854775808):QgX (m:Int)=some (cntB m 63:Nat):=by
 apply post.eq
 unfold QgX
 refine QaU (R:=fun r=>r=(cntB m 63:Nat)) ?_ fun r hr=>Qay.2 hr
 refine Qde (fun s:Int×Int=>∃ a c j:Nat,s=((a:Int),(c:Int))∧j≤63∧a<2 ^ j∧c+cntB a j=cntB m 63∧c≤63) (fun s=>s.1.toNat) ⟨m,0,63,rfl,Nat.le_refl _,hm,by omega,by omega⟩ (by show (m:Int).toNat<_; omega) ?_
 rintro _ ⟨a,c,j,rfl,hj,ha,hs,hc⟩
 have hp:2 ^ j≤2 ^ 63:=Nat.pow_le_pow_right (by omega) hj
 have ha63:a<9223372036854775808:=Nat.lt_of_lt_of_le ha hp
 show post (Qee (a:Int) (c:Int)) _
 unfold Qee
 refine QaC (fun h=>?_) (fun h=>?_)
 ·rw [gtI_t] at h
  have hj0:j≠0:=by
   intro h0; subst h0
   simp at ha; omega
  obtain ⟨i,rfl⟩:∃ i,j=i+1:=⟨j-1,by omega⟩
  have hr:remK (a:Int) 2=((a % 2:Nat):Int):=by unfold remK; rw [Int.tmod_eq_emod_of_nonneg (by omega)]; rfl
  have hq:quoK .i64 (a:Int) 2=((a / 2:Nat):Int):=quoN (b:=2) ha63
  have hst:=Qvr a i
  have h2:a % 2<2:=Nat.mod_lt _ (by omega)
  have hle:=Qzk m 63
  rw [hr,hq,addI (by omega) (by omega)]
  refine Qeu ⟨⟨a / 2,c+a % 2,i,by simp,by omega,?_,by omega,by omega⟩,?_⟩
  ·rw [Nat.pow_succ] at ha
   omega
  ·show ((a / 2:Nat):Int).toNat<(a:Int).toNat
   omega
 ·rw [gtI_f] at h
  obtain rfl:a=0:=by omega
  rw [Qvs] at hs
  exact Qdn (by show (c:Int)=_; omega)
end
end Go.Proofs.YtfjiafgldchinaaGreatDoor
namespace Go.Proofs.YtfjiafgldchinaaGreatDoor
set_option linter.unusedSimpArgs false
set_option linter.unusedVariables false
set_option linter.unusedSectionVars false
section
variable {α : Type} (D : α → α → Bool)
def keepP (out:List α) (n:α):List α:=if out.any (fun k=>D k n)=true then out else out.filter (fun k=>!D n k)++[n]
def good1 (l:List α) (i:Nat) (a:α) (k:Nat):Bool:=k == i||(match l[k]? with
 | some b=>!D b a||(decide (i<k)&&D a b)
 | none=>true)
def goodI (l:List α) (i:Nat) (a:α):Bool:=(List.range l.length).all (good1 D l i a)
def outI (l:List α):Nat→List α
 | 0=>[]
 | i+1=>outI l i++(match l[i]? with
  | some a=>if goodI D l i a=true then [a] else []
  | none=>[])
end
section
variable {α : Type} {D : α → α → Bool}
theorem Qxa {l:List α} {i:Nat} {a:α}:goodI D l i a=true↔∀ k b,l[k]?=some b→k≠i→D b a=true→i<k∧D a b=true:=by
 unfold goodI
 rw [List.all_eq_true]
 constructor
 ·intro h k b hk hne hd
  have:=h k (List.mem_range.2 (List.getElem?_eq_some_iff.1 hk).1)
  unfold good1 at this
  rw [hk] at this
  simp only [Bool.or_eq_true,beq_iff_eq,Bool.not_eq_true',Bool.and_eq_true,decide_eq_true_eq] at this
  rcases this with h1|h1|h1
  ·exact absurd h1 hne
  ·rw [hd] at h1; cases h1
  ·exact h1
 ·intro h k hk
  have hk:=List.mem_range.1 hk
  unfold good1
  rw [List.getElem?_eq_getElem hk]
  simp only [Bool.or_eq_true,beq_iff_eq,Bool.not_eq_true',Bool.and_eq_true,decide_eq_true_eq]
  by_cases hki:k=i
  ·exact .inl hki
  ·cases hd:D l[k] a with
   | false=>exact .inr (.inl rfl)
   | true=>exact .inr (.inr (h k _ (List.getElem?_eq_getElem hk) hki hd))
theorem QyF {l:List α} {n a:α} {i:Nat} (hi:i<l.length):goodI D (l++[n]) i a=(goodI D l i a&&(!D n a||D a n)):=by
 rw [Bool.eq_iff_iff,Bool.and_eq_true,Qxa,Qxa]
 constructor
 ·intro h
  refine ⟨fun k b hk hne hd=>h k b (by rw [List.getElem?_append_left (List.getElem?_eq_some_iff.1 hk).1]; exact hk) hne hd,?_⟩
  cases hd:D n a with
  | false=>rfl
  | true =>
   have:=(h l.length n (by rw [List.getElem?_append_right (Nat.le_refl _)]; simp) (by omega) hd).2
   rw [this]; rfl
 ·rintro ⟨h1,h2⟩ k b hk hne hd
  rcases Nat.lt_or_ge k l.length with hkl|hkl
  ·rw [List.getElem?_append_left hkl] at hk
   exact h1 k b hk hne hd
  ·rw [List.getElem?_append_right hkl] at hk
   have hb:b=n:=by
    have:=List.mem_of_getElem? hk
    exact List.mem_singleton.1 this
   subst hb
   rw [hd] at h2
   simp at h2
   exact ⟨by omega,h2⟩
theorem QyE {l:List α} {n:α}:goodI D (l++[n]) l.length n=!l.any (fun k=>D k n):=by
 rw [Bool.eq_iff_iff,Qxa,Bool.not_eq_true',List.any_eq_false]
 constructor
 ·intro h b hb hd
  obtain ⟨k,hk⟩:=List.getElem?_of_mem hb
  have hkl:=(List.getElem?_eq_some_iff.1 hk).1
  have:=(h k b (by rw [List.getElem?_append_left hkl]; exact hk) (by omega) hd).1
  omega
 ·intro h k b hk hne hd
  have hkl:k<l.length:=by
   have:=(List.getElem?_eq_some_iff.1 hk).1
   rw [List.length_append,List.length_singleton] at this
   omega
  rw [List.getElem?_append_left hkl] at hk
  exact absurd hd (h b (List.mem_of_getElem? hk))
theorem Qy1 {l:List α} {i:Nat} {a:α} (h:l[i]?=some a):outI D l (i+1)=outI D l i++if goodI D l i a=true then [a] else []:=by
 show outI D l i++_=_
 rw [h]
theorem QxC {l:List α} {n:α}:∀ i,i≤l.length→outI D (l++[n]) i=(outI D l i).filter fun a=>!D n a||D a n
 | 0,_=>rfl
 | i+1,hi=>by
  have e:(l++[n])[i]?=l[i]?:=List.getElem?_append_left (by omega)
  unfold outI
  rw [QxC i (by omega),e,List.filter_append]
  congr 1
  rw [List.getElem?_eq_getElem (show i<l.length by omega)]
  simp only
  rw [QyF (by omega)]
  cases goodI D l i l[i] <;> cases h:(!D n l[i]||D l[i] n) <;> simp [List.filter_cons,h]
theorem Qy0 {l:List α} {n:α}:outI D (l++[n]) (l++[n]).length=(outI D l l.length).filter (fun a=>!D n a||D a n)++if l.any (fun k=>D k n)=true then [] else [n]:=by
 rw [List.length_append,List.length_singleton]
 show outI D (l++[n]) l.length++_=_
 rw [QxC l.length (Nat.le_refl _)]
 congr 1
 rw [List.getElem?_append_right (Nat.le_refl _)]
 simp only [Nat.sub_self,List.getElem?_cons_zero]
 rw [QyE]
 cases l.any fun k=>D k n <;> rfl
theorem QAG {P:List α→Prop} (h0:P []) (h1:∀ l a,P l→P (l++[a])) (l:List α):P l:=by
 have:∀ r:List α,P r.reverse:=fun r=>by
  induction r with
  | nil=>exact h0
  | cons a r ih=>rw [List.reverse_cons]; exact h1 _ _ ih
 rw [← List.reverse_reverse l]
 exact this _
theorem QAd {P:α→Prop} (hr:∀ a,P a→D a a=true) (ht:∀ a b c,P a→P b→P c→D a b=true→D b c=true→D a c=true) (l:List α):(∀ a∈l,P a)→l.foldl (keepP D) []=outI D l l.length∧(∀ g∈outI D l l.length,g∈l) ∧
  (∀ k∈l,∃ g∈outI D l l.length,D g k=true)∧(outI D l l.length).Pairwise (fun a b=>D a b=false∧D b a=false):=by
 refine QAG (P:=fun l=>(∀ a∈l,P a)→l.foldl (keepP D) []=outI D l l.length∧(∀ g∈outI D l l.length,g∈l)∧(∀ k∈l,∃ g∈outI D l l.length,D g k=true)∧(outI D l l.length).Pairwise (fun a b=>D a b=false∧D b a=false)) (fun _=>⟨rfl,fun g h=>by (cases h),fun k h=>(by cases h),List.Pairwise.nil⟩) ?_ l
 intro l n ih hP
 have hPl:∀ a∈l,P a:=fun a ha=>hP a (List.mem_append_left _ ha)
 have hPn:P n:=hP n (by simp)
 obtain ⟨e,hsub,hdom,hpw⟩:=ih hPl
 rw [List.foldl_append]
 simp only [List.foldl_cons,List.foldl_nil]
 rw [e,Qy0]
 generalize outI D l l.length=O at hsub hdom hpw
 unfold keepP
 by_cases hany:O.any (fun k=>D k n)=true
 ·obtain ⟨k,hk,hkn⟩:=List.any_eq_true.1 hany
  have hla:l.any (fun k=>D k n)=true:=List.any_eq_true.2 ⟨k,hsub k hk,hkn⟩
  have hfil:O.filter (fun a=>!D n a||D a n)=O:=List.filter_eq_self.2 fun a ha=>by
   cases hna:D n a with
   | false=>rfl
   | true =>
    have hka:=ht _ _ _ (hPl k (hsub k hk)) hPn (hPl a (hsub a ha)) hkn hna
    by_cases hak:a=k
    ·rw [hak,hkn]; rfl
    ·exfalso
     rcases List.pairwise_iff_getElem.1 hpw with hpp
     obtain ⟨i,hi⟩:=List.getElem?_of_mem ha
     obtain ⟨j,hj⟩:=List.getElem?_of_mem hk
     obtain ⟨i1,i2⟩:=List.getElem?_eq_some_iff.1 hi
     obtain ⟨j1,j2⟩:=List.getElem?_eq_some_iff.1 hj
     rcases Nat.lt_trichotomy i j with h|h|h
     ·have:=(hpp i j i1 j1 h).2
      rw [i2,j2,hka] at this; cases this
     ·subst h
      rw [i2] at j2; exact hak j2
     ·have:=(hpp j i j1 i1 h).1
      rw [i2,j2,hka] at this; cases this
  rw [if_pos hany,if_pos hla,hfil,List.append_nil]
  refine ⟨rfl,fun g hg=>List.mem_append_left _ (hsub g hg),fun b hb=>?_,hpw⟩
  rcases List.mem_append.1 hb with hb|hb
  ·exact hdom b hb
  ·rw [List.mem_singleton.1 hb]; exact ⟨k,hk,hkn⟩
 ·have hno:∀ k∈O,D k n=false:=fun k hk=>by
   have:=List.any_eq_false.1 (by simpa using hany:O.any (fun k=>D k n)=false) k hk
   simpa using this
  have hla:l.any (fun k=>D k n)=false:=by
   rw [List.any_eq_false]
   intro b hb hd
   obtain ⟨g,hg,hgb⟩:=hdom b hb
   have:=ht _ _ _ (hPl g (hsub g hg)) (hPl b hb) hPn hgb hd
   rw [hno g hg] at this; cases this
  have hfil:O.filter (fun a=>!D n a||D a n)=O.filter fun a=>!D n a:=by
   refine List.filter_congr fun a ha=>?_
   rw [hno a ha,Bool.or_false]
  rw [if_neg hany,if_neg (by rw [hla]; decide),hfil]
  refine ⟨rfl,fun g hg=>?_,fun b hb=>?_,?_⟩
  ·rcases List.mem_append.1 hg with hg|hg
   ·exact List.mem_append_left _ (hsub g (List.mem_filter.1 hg).1)
   ·exact List.mem_append_right _ hg
  ·rcases List.mem_append.1 hb with hb|hb
   ·obtain ⟨g,hg,hgb⟩:=hdom b hb
    cases hng:D n g with
    | false=>exact ⟨g,List.mem_append_left _ (List.mem_filter.2 ⟨hg,by rw [hng]; rfl⟩),hgb⟩
    | true=>exact ⟨n,by simp,ht _ _ _ hPn (hPl g (hsub g hg)) (hPl b hb) hng hgb⟩
   ·rw [List.mem_singleton.1 hb]; exact ⟨n,by simp,hr n hPn⟩
  ·rw [List.pairwise_append]
   refine ⟨hpw.sublist List.filter_sublist,by simp,fun a ha b hb=>?_⟩
   rw [List.mem_singleton.1 hb]
   obtain ⟨h1,h2⟩:=List.mem_filter.1 ha
   exact ⟨hno a h1,by simpa using h2⟩
end
section
variable {x : Qac} {a b c l n : Qae} {v : Qaa} {m : Nat} {kind : Int} {s : List Qaa}
theorem QBq {cap a:List Int}:overB cap a=false↔∀ i,i<a.length→a.getD i 0≤cap.getD i 0:=by
 unfold overB
 rw [List.any_eq_false]
 constructor
 ·intro h i hi
  have:=h i (List.mem_range.2 hi)
  simpa using this
 ·intro h i hi
  have:=h i (List.mem_range.1 hi)
  simpa using this
theorem Qyu:domB a b=true↔(a.type_=b.type_∧a.place=b.place∧a.done=b.done∧a.open_=b.open_)∧(a.time≤b.time∧a.driven≤b.driven∧a.miles≤b.miles)∧∀ i,i<a.load.length→a.load.getD i 0≤b.load.getD i 0:=by
 unfold domB
 simp only [Bool.and_eq_true,Bool.not_eq_true',Bool.or_eq_false_iff,neI_f,leI_t]
 rw [QBq]
 constructor
 ·rintro ⟨⟨⟨⟨h1,h2⟩,h3⟩,h4⟩,⟨⟨h5,h6⟩,h7⟩,h8⟩; exact ⟨⟨h1,h2,h3,h4⟩,⟨h5,h6,h7⟩,h8⟩
 ·rintro ⟨⟨h1,h2,h3,h4⟩,⟨h5,h6,h7⟩,h8⟩; exact ⟨⟨⟨⟨h1,h2⟩,h3⟩,h4⟩,⟨⟨h5,h6⟩,h7⟩,h8⟩
theorem QzW (h:LbI x a):domB a a=true:=Qyu.2 ⟨⟨rfl,rfl,rfl,rfl⟩,⟨Int.le_refl _,Int.le_refl _,Int.le_refl _⟩,fun _ _=>Int.le_refl _⟩
theorem Qyv (ha:LbI x a) (hb:LbI x b) (hc:LbI x c) (h1:domB a b=true) (h2:domB b c=true):domB a c=true:=by
 obtain ⟨⟨p1,p2,p3,p4⟩,⟨p5,p6,p7⟩,p8⟩:=Qyu.1 h1
 obtain ⟨⟨q1,q2,q3,q4⟩,⟨q5,q6,q7⟩,q8⟩:=Qyu.1 h2
 have la:=Qtx ha
 have lb:=Qtx hb
 exact Qyu.2 ⟨⟨p1.trans q1,p2.trans q2,p3.trans q3,p4.trans q4⟩,⟨by omega,by omega,by omega⟩,fun i hi=>Int.le_trans (p8 i hi) (q8 i (by omega))⟩
theorem Qw3 (hx:Qa5 x) (ha:LbI x a) (hb:LbI x b):Qd1 a b=some (domB a b)∧QcI (qL a) (qL b)=some (domB a b):=QBF (by rw [Qtx ha,Qtx hb]) (ha.short hx).2
noncomputable def stepL (x:Qac) (L:List Qae) (v:Qaa):List Qae:=L.flatMap fun l=>extL x l v
noncomputable def Qma (x:Qac) (kind:Int) (m:Nat) (s:List Qaa):List Qae:=s.foldl (stepL x) (Qhg x kind m)
structure LabsI (x:Qac) (k:Nat) (L:List Qae):Prop where
 all:∀ l∈L,LbI x l∧l.visits.length≤k
 len:L.length≤2*2 ^ k
theorem QoJ (hx:Qa5 x):LabsI x 0 (Qhg x kind m):=by
 rcases QwC (x:=x) (kind:=kind) (m:=m) hx with h|⟨h,_,h1,h2⟩
 ·rw [h]; exact ⟨fun l hl=>by (cases hl),by simp⟩
 ·rw [h]
  refine ⟨fun l hl=>?_,by unfold withL; simp⟩
  unfold withL at hl
  rcases List.mem_cons.1 hl with rfl|hl
  ·exact ⟨h1,Nat.le_refl _⟩
  ·rw [List.mem_singleton.1 hl]; exact ⟨h2,Nat.le_refl _⟩
theorem Qvv (hx:Qa5 x) (h:LbI x l) (h99:l.visits.length≤99):(extL x l v).length≤2∧∀ c∈extL x l v,LbI x c∧c.visits=l.visits++[v]:=by
 rcases Qyy (v:=v) hx h h99 with h'|⟨n,h',h1,h2,h3,_⟩
 ·rw [h']; exact ⟨by simp,fun c hc=>by (cases hc)⟩
 ·rw [h']
  refine ⟨by simp [withL],fun c hc=>?_⟩
  unfold withL at hc
  rcases List.mem_cons.1 hc with rfl|hc
  ·exact ⟨h1,h3⟩
  ·rw [List.mem_singleton.1 hc]; exact ⟨h2,h3⟩
theorem Qv6 (hx:Qa5 x) {L:List Qae} {k:Nat} (h:LabsI x k L) (hk:k≤98):LabsI x (k+1) (stepL x L v):=by
 refine ⟨fun c hc=>?_,?_⟩
 ·obtain ⟨l,hl,hc⟩:=List.mem_flatMap.1 hc
  obtain ⟨h1,h2⟩:=h.all l hl
  obtain ⟨h3,h4⟩:=(Qvv hx h1 (by omega)).2 c hc
  exact ⟨h3,by rw [h4]; simp; omega⟩
 ·have h1:=Qs8 (f:=fun l=>extL x l v) (c:=2) L fun l hl=>(Qvv hx (h.all l hl).1 (by have:=(h.all l hl).2; omega)).1
  have:=h.len
  unfold stepL
  rw [Nat.pow_succ]
  omega
theorem Qqa (hx:Qa5 x):∀ (k:Nat) (L:List Qae) (s:List Qaa),LabsI x k L→k+s.length≤98→LabsI x (k+s.length) (s.foldl (stepL x) L)
 | k,L,[],h,_=>h
 | k,L,v :: s,h,hk=>by
  have:=Qqa hx (k+1) _ s (Qv6 (v:=v) hx h (by simp at hk; omega)) (by simp at hk; omega)
  rw [List.foldl_cons,List.length_cons,show k+(s.length+1)=k+1+s.length by omega]
  exact this
theorem QBR {k:Nat} (h:k≤6):2*2 ^ k≤128:=by
 have:=Nat.pow_le_pow_right (n:=2) (by decide) h
 omega
noncomputable def candL (x:Qac) (kind:Int) (m:Nat):List Qae:=(allS x m).flatMap fun s=>(Qma x kind m s).filter (okL x)
noncomputable def endsL (x:Qac) (kind:Int) (m:Nat):List Qae:=(candL x kind m).foldl (keepP domB) []
theorem Qp9 (hx:Qa5 x) (hs:s.length≤6):LabsI x 6 (Qma x kind m s):=by
 have:=Qqa hx 0 _ s (QoJ (kind:=kind) (m:=m) hx) (by omega)
 rw [Nat.zero_add] at this
 exact ⟨fun l hl=>⟨(this.all l hl).1,by have:=(this.all l hl).2; omega⟩,Nat.le_trans this.len (Nat.le_trans (QBR hs) (by decide))⟩
theorem Qtk (hc:cntB m x.orders.length≤3) (hs:s∈allS x m):s.length≤6:=by
 rw [(QzS hs).2.2.2]; exact Qtl hc
theorem Qyq (hx:Qa5 x) (hc:cntB m x.orders.length≤3):(∀ l∈candL x kind m,LbI x l∧l.visits.length≤6)∧(candL x kind m).length≤93312:=by
 constructor
 ·intro l hl
  obtain ⟨s,hs,hl⟩:=List.mem_flatMap.1 hl
  exact (Qp9 hx (Qtk hc hs)).all l (List.mem_filter.1 hl).1
 ·have h1:=Qs8 (f:=fun s=>(Qma x kind m s).filter (okL x)) (c:=128) (allS x m) fun s hs=>Nat.le_trans (List.length_filter_le ..) (Nat.le_trans (Qp9 hx (Qtk hc hs)).len (by decide))
  have:=QuF (x:=x) hc
  unfold candL
  omega
theorem QAe {out:List Qae}:(keepP domB out n).length≤out.length+1:=by
 unfold keepP
 split
 ·omega
 ·rw [List.length_append]
  have:=List.length_filter_le (fun k=>!domB n k) out
  simp; omega
theorem QAf {out:List Qae} (h:a∈keepP domB out n):a∈out∨a=n:=by
 unfold keepP at h
 split at h
 ·exact .inl h
 ·rcases List.mem_append.1 h with h|h
  ·exact .inl (List.mem_filter.1 h).1
  ·exact .inr (List.mem_singleton.1 h)
theorem QAo (hx:Qa5 x) {out:List Qae} (ho:∀ l∈out,LbI x l) (hn:LbI x n) (hl:out.length≤1000000):Qn4 out n=some (keepP domB out n):=by
 unfold Qn4 keepP
 rw [Qbg (QcR (B:=fun s=>Qey out n s) (l:=out) (by omega) (fun k=>domB k n) (y:=(.inr out:Unit⊕List Qae)) (N:=.inl ()) (fun i a h=>by
  show Qey out n i=_
  unfold Qey
  rw [Qbh h,(Qw3 hx (ho a (List.mem_of_getElem? h)) hn).1,Qaj,incL h (by omega),brs]) (by
  show Qey out n out.length=_
  unfold Qey
  rw [QaV]))]
 by_cases hany:(out.any fun k=>domB k n)=true
 ·rw [if_pos hany,if_pos hany,QqF]
 ·rw [if_neg hany,if_neg hany,Qdd,Qbg (Qq0 (B:=fun s:List Qae×Int=>Qd3 out n s.1 s.2) (l:=out) (by omega) (fun k=>!domB n k) id [] (fun s i a h hs=>by
   have hi:=(List.getElem?_eq_some_iff.1 h).1
   simp only [List.length_nil] at hs
   show Qd3 out n s i=_
   unfold Qd3
   have hok:okN (s++[a]).length 104:=QeM (by simp; omega)
   rw [Qbh h,(Qw3 hx hn (ho a (List.mem_of_getElem? h))).1,Qaj,incL h (by omega),Qb5 hok]
   cases domB n a <;> rfl) (fun s=>by
   show Qd3 out n s out.length=_
   unfold Qd3
   rw [QaV]; rfl))]
  have:=List.length_filter_le (fun k=>!domB n k) out
  rw [List.nil_append]
  exact Qb5 (QeM (by rw [List.length_append]; simp only [id]; simp; omega))
end
end Go.Proofs.YtfjiafgldchinaaGreatDoor
namespace Go.Proofs.YtfjiafgldchinaaGreatDoor
set_option linter.unusedSimpArgs false
set_option linter.unusedVariables false
set_option linter.unusedSectionVars false
section
variable {x : Qac} {a b c l n : Qae} {v : Qaa} {m : Nat} {kind : Int} {s : List Qaa}
theorem QwJ (hx:Qa5 x) {items cur:List Qae} {f:Nat} (hf:f≤items.length) (hcur:items.drop f=cur) (hall:∀ l∈cur,LbI x l∧l.visits.length≤98) (hb:items.length+2*cur.length≤1000000) :
  QeX (Qbs.mk (Qan.mk items (f:Int)) x) v=some (Qbs.mk (Qan.mk (items++stepL x cur v) (items.length:Int)) x):=by
 have hlen:cur.length=items.length-f:=by rw [← hcur,List.length_drop]
 have hsz:subK .i64 (lenI items) (f:Int)=(cur.length:Int):=by unfold lenI; rw [subI (by omega) (by omega)]; omega
 have hflat:∀ i,((cur.take i).flatMap fun l=>extL x l v).length≤2*cur.length:=fun i=>by
  have h1:=Qs8 (f:=fun l=>extL x l v) (c:=2) (cur.take i) fun l hl=>(Qvv hx (hall l (List.mem_of_mem_take hl)).1 (by have:=(hall l (List.mem_of_mem_take hl)).2; omega)).1
  rw [List.length_take] at h1
  omega
 unfold QeX QaP
 show bnd (some (subK .i64 (lenI items) (f:Int),Qan.mk items (f:Int))) _=_
 rw [Qaj,hsz]
 have:=QcQ cur.length (fun i=>(items++(cur.take i).flatMap (fun l=>extL x l v),((f+i:Nat):Int),(i:Int)))
  (B:=fun s:List Qae×Int×Int=>Qbc (Qbs.mk (Qan.mk items (f:Int)) x) v ((cur.length:Int),Qan.mk items (f:Int)) s.1 s.2.1 s.2.2)
  (e:=(items++cur.flatMap (fun l=>extL x l v),(items.length:Int))) (by omega) (fun i hi=>by
   have e:cur[i]?=some cur[i]:=List.getElem?_eq_getElem hi
   have hc:=hall _ (List.getElem_mem hi)
   have hle:=hflat (i+1)
   rw [Qhb e,List.length_append] at hle
   have hg:getI (items++(cur.take i).flatMap fun l=>extL x l v) ((f+i:Nat):Int)=some cur[i]:=QaB (by
    rw [List.getElem?_append_left (by omega),← List.getElem?_drop,hcur,e])
   show Qbc _ v ((cur.length:Int),Qan.mk items (f:Int)) (items++(cur.take i).flatMap fun l=>extL x l v) ((f+i:Nat):Int) (i:Int)=_
   unfold Qbc Qa2 QaW
   simp only
   rw [QbO (by simp; omega),hg,Qaj,Qaj,Qyf hx hc.1 (by omega),Qaj,Qb5 (QeM (by rw [List.length_append,List.length_append]; omega)),Qaj,incL e (by omega),addI (by omega) (by omega),Qhb e,List.append_assoc]
   rfl) (by
   show Qbc _ v ((cur.length:Int),Qan.mk items (f:Int)) (items++(cur.take cur.length).flatMap fun l=>extL x l v) ((f+cur.length:Nat):Int) (cur.length:Int)=_
   unfold Qbc
   rw [QaO (by simp),List.take_length,show f+cur.length=items.length by omega])
 rw [Qbg (show loopF (fun s:List Qae×Int×Int=>Qbc (Qbs.mk (Qan.mk items (f:Int)) x) v ((cur.length:Int),Qan.mk items (f:Int)) s.1 s.2.1 s.2.2) (items,(f:Int),0)=_ by
  simpa using this)]
 rfl
theorem QzZ (hx:Qa5 x) (hs:s.length≤6) {r:List (List Qaa)×Int} {r1 out:List Qae} {i:Int} :
  post (loopF (fun q:List Qae×Qac×Int×Qac×Int=>Qfh r r1 out i s q.1 q.2.1 q.2.2.1 q.2.2.2.1 q.2.2.2.2) (Qhg x kind m,x,0,x,0)) fun e=>∃ (items:List Qae) (f:Nat),e=(items,x,(f:Int),x)∧f≤items.length∧items.drop f=Qma x kind m s∧items.length≤1000:=by
 refine Qde (fun q=>∃ (k:Nat) (items:List Qae) (f:Nat),q=(items,x,(f:Int),x,(k:Int))∧k≤s.length∧f≤items.length∧items.drop f=(s.take k).foldl (stepL x) (Qhg x kind m)∧items.length≤4*2 ^ k) (fun q=>s.length-q.2.2.2.2.toNat) ⟨0,Qhg x kind m,0,rfl,Nat.zero_le _,Nat.zero_le _,rfl,by have:=(QoJ (kind:=kind) (m:=m) hx).len; omega⟩ (by simp; omega) ?_
 rintro _ ⟨k,items,f,rfl,hk,hf,hd,hb⟩
 have h2k:2 ^ k≤2 ^ 6:=Nat.pow_le_pow_right (by decide) (by omega)
 show post (Qfh r r1 out i s items x (f:Int) x (k:Int)) _
 unfold Qfh
 refine QaC (fun hlt=>?_) (fun hge=>?_)
 ·simp only [ltI_t,lenI] at hlt
  have hk':k<s.length:=by omega
  have e:s[k]?=some s[k]:=List.getElem?_eq_getElem hk'
  have hL:=Qqa hx 0 _ (s.take k) (QoJ (kind:=kind) (m:=m) hx) (by rw [List.length_take]; omega)
  rw [Nat.zero_add,List.length_take,Nat.min_eq_left (by omega)] at hL
  have hS:=Qv6 (v:=s[k]) hx hL (by omega)
  have hll:=hL.len
  have hsl:=hS.len
  rw [Nat.pow_succ] at hsl
  have hfold:(s.take (k+1)).foldl (stepL x) (Qhg x kind m)=stepL x ((s.take k).foldl (stepL x) (Qhg x kind m)) s[k]:=by
   rw [List.take_add_one,e,Option.toList_some,List.foldl_append]; rfl
  rw [QaB e,Qaj,QwJ hx hf hd (fun l hl=>⟨(hL.all l hl).1,by have:=(hL.all l hl).2; omega⟩) (by omega),Qaj]
  have ek:addK .i64 (k:Int) 1=((k+1:Nat):Int):=(addI (by omega) (by omega)).trans (by omega)
  rw [ek]
  refine Qeu ⟨⟨k+1,_,items.length,rfl,hk',by rw [List.length_append]; omega,by rw [hfold]; simp,by rw [List.length_append,Nat.pow_succ]; omega⟩,?_⟩
  show s.length-((k+1:Nat):Int).toNat<s.length-(k:Int).toNat
  omega
 ·simp only [ltI_f,lenI] at hge
  have hkl:k=s.length:=by omega
  subst hkl
  rw [List.take_length] at hd
  exact Qdn ⟨items,f,rfl,hf,hd,by omega⟩
theorem Qr4 (l:List Qae):∀ {out:List Qae},(l.foldl (keepP domB) out).length≤out.length+l.length:=by
 induction l with
 | nil=>intro out; simp
 | cons a r ih =>
  intro out
  have h1:=ih (out:=keepP domB out a)
  have h2:=QAe (out:=out) (n:=a)
  rw [List.foldl_cons,List.length_cons]
  omega
theorem Qvz (l:List Qae):∀ {out:List Qae},∀ b∈l.foldl (keepP domB) out,b∈out∨b∈l:=by
 induction l with
 | nil=>intro out b hb; exact .inl hb
 | cons a r ih =>
  intro out b hb
  rcases ih b hb with h|h
  ·rcases QAf h with h|rfl
   ·exact .inl h
   ·exact .inr (List.mem_cons_self ..)
  ·exact .inr (List.mem_cons_of_mem _ h)
theorem QwW (hx:Qa5 x) (h:LbI x l):(Qwi x l).2.2=okL x l:=by unfold Qwi; cases okL x l <;> rfl
theorem Qz0 (hx:Qa5 x) {r:List (List Qaa)×Int} {r1 items cur out:List Qae} {f:Nat} {i:Int} (hf:f≤items.length) (hd:items.drop f=cur) (hi:items.length≤1000) (hc:∀ l∈cur,LbI x l) (ho:∀ l∈out,LbI x l) (hol:out.length≤900000) :
  loopF (fun q:List Qae×Qac×Int×Qac×List Qae=>Qdv r r1 i q.1 q.2.1 q.2.2.1 q.2.2.2.1 q.2.2.2.2) (items,x,(f:Int),x,out)=some (x,(cur.filter (okL x)).foldl (keepP domB) out):=by
 have hlen:cur.length=items.length-f:=by rw [← hd,List.length_drop]
 have:=QcQ cur.length (fun k=>(items,x,((f+k:Nat):Int),x,((cur.take k).filter (okL x)).foldl (keepP domB) out))
  (B:=fun q:List Qae×Qac×Int×Qac×List Qae=>Qdv r r1 i q.1 q.2.1 q.2.2.1 q.2.2.2.1 q.2.2.2.2) (e:=(x,(cur.filter (okL x)).foldl (keepP domB) out)) (by omega) (fun k hk=>by
   have e:cur[k]?=some cur[k]:=List.getElem?_eq_getElem hk
   have hcI:=hc _ (List.getElem_mem hk)
   have hg:getI items ((f+k:Nat):Int)=some cur[k]:=QaB (by rw [← List.getElem?_drop,hd,e])
   have hol2:=Qr4 (out:=out) ((cur.take k).filter (okL x))
   have hfl:=List.length_filter_le (okL x) (cur.take k)
   rw [List.length_take] at hfl
   have hoI:∀ b∈((cur.take k).filter (okL x)).foldl (keepP domB) out,LbI x b:=fun b hb=>by
    rcases Qvz _ b hb with h|h
    ·exact ho b h
    ·exact hc b (List.mem_of_mem_take (List.mem_filter.1 h).1)
   have htk:((cur.take (k+1)).filter (okL x))=(cur.take k).filter (okL x)++if okL x cur[k]=true then [cur[k]] else []:=by
    rw [List.take_add_one,e,List.filter_append]
    cases h:okL x cur[k] <;> simp [List.filter_cons,h]
   show Qdv r r1 i items x ((f+k:Nat):Int) x (((cur.take k).filter (okL x)).foldl (keepP domB) out)=_
   unfold Qdv QaP Qa2
   have hsz:gtI (subK .i64 (lenI items) ((f+k:Nat):Int)) 0=true:=by unfold lenI; rw [subI (by omega) (by omega)]; simp; omega
   have ek:addK .i64 ((f+k:Nat):Int) 1=((f+(k+1):Nat):Int):=(addI (by omega) (by omega)).trans (by omega)
   simp only
   rw [Qaj,QbO hsz,hg,Qaj,Qaj,(Qvj hx hcI).1,Qaj,QwW hx hcI,ek,htk]
   cases okL x cur[k] with
   | true =>
    rw [Qbx,QAo hx hoI hcI (by omega),Qaj,if_pos rfl,List.foldl_append]
    rfl
   | false =>
    rw [Qbb,if_neg (by decide),List.append_nil]) (by
   show Qdv r r1 i items x ((f+cur.length:Nat):Int) x (((cur.take cur.length).filter (okL x)).foldl (keepP domB) out)=_
   unfold Qdv QaP
   simp only
   rw [Qaj,QaO (by unfold lenI; rw [subI (by omega) (by omega)]; simp; omega),List.take_length])
 simpa using this
theorem QzM (hx:Qa5 x) (h0:0≤kind) (h1:kind<x.types.length) (hm:m<2 ^ x.orders.length) (hc:cntB m x.orders.length≤3):QhC x kind (m:Int)=some (endsL x kind m,0):=by
 have hm2:=QsU hx hm
 have hall:=QuF (x:=x) hc
 have hst:=(QoJ (kind:=kind) (m:=m) hx).len
 unfold QhC
 rw [QaO (by simp [lenI]; omega),(QAQ hx hm hc).1,Qaj,QaO (by simp),QyN hx (by constructor <;> omega),Qaj,Int.toNat_natCast]
 have hsix:∀ s∈allS x m,s.length≤6:=fun s hs=>Qtk hc hs
 have hcl:=Qyq (kind:=kind) hx hc
 unfold endsL candL at *
 generalize allS x m=A at hall hsix hcl
 have:=QcQ A.length (fun i=>(x,((A.take i).flatMap fun s=>(Qma x kind m s).filter (okL x)).foldl (keepP domB) [],(i:Int)))
  (B:=fun q:Qac×List Qae×Int=>Qd2 (A,0) (Qhg x kind m) q.1 q.2.1 q.2.2) (e:=(A.flatMap fun s=>(Qma x kind m s).filter (okL x)).foldl (keepP domB) []) (by omega) (fun i hi=>by
   have e:A[i]?=some A[i]:=List.getElem?_eq_getElem hi
   have h6:=hsix _ (List.getElem_mem hi)
   show Qd2 (A,0) (Qhg x kind m) x (((A.take i).flatMap fun s=>(Qma x kind m s).filter (okL x)).foldl (keepP domB) []) (i:Int)=_
   unfold Qd2 QaW
   simp only
   rw [Qbh e,Qb5 (QeM (by rw [List.length_append]; simp at hst ⊢; omega)),Qaj,List.nil_append]
   obtain ⟨q,hq,items,f,rfl,hf,hd,hb⟩:=QzZ (kind:=kind) (m:=m) hx h6 (r:=(A,0)) (r1:=Qhg x kind m) (out:=((A.take i).flatMap fun s=>(Qma x kind m s).filter (okL x)).foldl (keepP domB) []) (i:=(i:Int))
   have hq:loopF (fun q:List Qae×Qac×Int×Qac×Int=>Qfh (A,0) (Qhg x kind m) (((A.take i).flatMap fun s=>(Qma x kind m s).filter (okL x)).foldl (keepP domB) []) (i:Int) A[i] q.1 q.2.1 q.2.2.1 q.2.2.2.1 q.2.2.2.2) (Qhg x kind m,x,0,x,0)=some (items,x,(f:Int),x):=hq
   have hfk:=Qr4 (out:=[]) ((A.take i).flatMap fun s=>(Qma x kind m s).filter (okL x))
   have htl:=Qlt (f:=fun s=>(Qma x kind m s).filter (okL x)) (l:=A) i
   have hlabs:=Qp9 (kind:=kind) (m:=m) hx h6
   have h3:=Qz0 hx (r:=(A,0)) (r1:=Qhg x kind m) (i:=(i:Int)) (out:=((A.take i).flatMap fun s=>(Qma x kind m s).filter (okL x)).foldl (keepP domB) []) hf hd hb (fun l hl=>(hlabs.all l hl).1) (fun l hl=>by
    rcases Qvz _ l hl with h|h
    ·cases h
    ·obtain ⟨s,hs,hl⟩:=List.mem_flatMap.1 h
     exact (hcl.1 l (List.mem_flatMap.2 ⟨s,List.mem_of_mem_take hs,hl⟩)).1) (by simp only [List.length_nil] at hfk; omega)
   have ek:addK .i64 (i:Int) 1=((i+1:Nat):Int):=(addI (by omega) (by omega)).trans (by omega)
   rw [Qbg hq]
   simp only
   rw [Qbg h3]
   simp only
   rw [ek,Qhb e,List.foldl_append]) (by
   show Qd2 (A,0) (Qhg x kind m) x (((A.take A.length).flatMap fun s=>(Qma x kind m s).filter (okL x)).foldl (keepP domB) []) (A.length:Int)=_
   unfold Qd2
   simp only
   rw [QaV,List.take_length])
 rw [Qbg (show loopF (fun q:Qac×List Qae×Int=>Qd2 (A,0) (Qhg x kind m) q.1 q.2.1 q.2.2) (x,[],0)=_ from this)]
theorem Qy4 (hx:Qa5 x) (hm:m<1024) (hs:s.length≤6):Qgt x kind (m:Int) s=some ((Qma x kind m s).map qL):=by
 unfold Qgt
 rw [Qy3 hx (by constructor <;> omega),Qaj,Int.toNat_natCast]
 have:=QcQ s.length (fun k=>(((s.take k).foldl (stepL x) (Qhg x kind m)).map qL,(k:Int))) (B:=fun q:List Qad×Int=>QbF x s q.1 q.2) (e:=(Qma x kind m s).map qL) (by omega) (fun k hk=>by
  have e:s[k]?=some s[k]:=List.getElem?_eq_getElem hk
  have hL:=Qqa hx 0 _ (s.take k) (QoJ (kind:=kind) (m:=m) hx) (by rw [List.length_take]; omega)
  rw [Nat.zero_add,List.length_take,Nat.min_eq_left (by omega)] at hL
  have hfold:(s.take (k+1)).foldl (stepL x) (Qhg x kind m)=stepL x ((s.take k).foldl (stepL x) (Qhg x kind m)) s[k]:=by
   rw [List.take_add_one,e,Option.toList_some,List.foldl_append]; rfl
  have h2k:2 ^ k≤2 ^ 6:=Nat.pow_le_pow_right (by decide) (by omega)
  have hll:=hL.len
  have hlI:∀ l∈(s.take k).foldl (stepL x) (Qhg x kind m),LbI x l∧l.visits.length≤99:=fun l hl=>⟨(hL.all l hl).1,by have:=(hL.all l hl).2; omega⟩
  show QbF x s (((s.take k).foldl (stepL x) (Qhg x kind m)).map qL) (k:Int)=some (.inl (((s.take (k+1)).foldl (stepL x) (Qhg x kind m)).map qL,((k+1:Nat):Int)))
  rw [hfold]
  generalize (s.take k).foldl (stepL x) (Qhg x kind m)=cur at hll hlI
  unfold QbF
  have hin:=QcQ cur.length (fun i=>(((cur.take i).flatMap fun l=>extL x l s[k]).map qL,(i:Int))) (B:=fun q:List Qad×Int=>QbG x s (cur.map qL) (k:Int) q.1 q.2) (e:=(stepL x cur s[k]).map qL) (by omega) (fun i hi=>by
   have ei:cur[i]?=some cur[i]:=List.getElem?_eq_getElem hi
   have eq:(cur.map qL)[i]?=some (qL cur[i]):=by rw [List.getElem?_map,ei]; rfl
   have hcI:=hlI _ (List.getElem_mem hi)
   have hfl:=Qs8 (f:=fun l=>extL x l s[k]) (c:=2) (cur.take (i+1)) fun l hl=>(Qvv hx (hlI l (List.mem_of_mem_take hl)).1 (hlI l (List.mem_of_mem_take hl)).2).1
   rw [Qhb ei,List.length_append,List.length_take] at hfl
   show QbG x s (cur.map qL) (k:Int) (((cur.take i).flatMap fun l=>extL x l s[k]).map qL) (i:Int)=_
   unfold QbG
   rw [Qbh eq,QaB e,Qaj,QxN hx hcI.1 hcI.2,Qaj,Qb5 (QeM (by rw [List.length_append,List.length_map,List.length_map]; omega)),incL eq (by rw [List.length_map]; omega),Qhb ei,List.map_append]
   rfl) (by
   show QbG x s (cur.map qL) (k:Int) (((cur.take cur.length).flatMap fun l=>extL x l s[k]).map qL) (cur.length:Int)=_
   unfold QbG
   rw [QaO (by simp [lenI]),List.take_length]; rfl)
  rw [QbO (by simp [lenI]; omega),Qbg (show loopF (fun q:List Qad×Int=>QbG x s (cur.map qL) (k:Int) q.1 q.2) ([],0)=_ from hin),incL e (by omega)]
  rfl) (by
  show QbF x s (((s.take s.length).foldl (stepL x) (Qhg x kind m)).map qL) (s.length:Int)=_
  unfold QbF
  rw [QaO (by simp [lenI]),List.take_length]; rfl)
 rw [Qbg (show loopF (fun q:List Qad×Int=>QbF x s q.1 q.2) ((Qhg x kind m).map qL,0)=_ from this)]
theorem Qy7 (hx:Qa5 x) {L out:List Qae} (hL:∀ l∈L,LbI x l) (hl:L.length≤1000) (ho:out.length≤1000000) {r:List (List Qaa)×Int} {q0:List Qad} {set_ i:Int} :
  loopF (fun q:List Qad×Int=>QbU x kind set_ r q0 i (L.map qL) q.1 q.2) (out.map qL,0)=some ((out++L.filter (okL x)).map qL):=by
 have:=QcQ L.length (fun k=>((out++(L.take k).filter (okL x)).map qL,(k:Int))) (B:=fun q:List Qad×Int=>QbU x kind set_ r q0 i (L.map qL) q.1 q.2) (e:=(out++L.filter (okL x)).map qL) (by omega) (fun k hk=>by
  have e:L[k]?=some L[k]:=List.getElem?_eq_getElem hk
  have eq:(L.map qL)[k]?=some (qL L[k]):=by rw [List.getElem?_map,e]; rfl
  have hI:=hL _ (List.getElem_mem hk)
  have hfl:=List.length_filter_le (okL x) (L.take k)
  rw [List.length_take] at hfl
  have htk:((L.take (k+1)).filter (okL x))=(L.take k).filter (okL x)++if okL x L[k]=true then [L[k]] else []:=by
   rw [List.take_add_one,e,List.filter_append]
   cases h:okL x L[k] <;> simp [List.filter_cons,h]
  show QbU x kind set_ r q0 i (L.map qL) ((out++(L.take k).filter (okL x)).map qL) (k:Int)=some (.inl ((out++(L.take (k+1)).filter (okL x)).map qL,((k+1:Nat):Int)))
  unfold QbU
  rw [Qbh eq,(Qvj hx hI).2,Qaj,QwW hx hI,incL eq (by rw [List.length_map]; omega),Qb5 (QeM (by simp only [List.length_append,List.length_map,List.length_singleton]; omega)),htk]
  cases okL x L[k] with
  | true=>rw [Qbx,if_pos rfl,← List.append_assoc,List.map_append (l₁:=out++_)]; rfl
  | false=>rw [Qbb,if_neg (by decide),List.append_nil]; rfl) (by
  show QbU x kind set_ r q0 i (L.map qL) ((out++(L.take L.length).filter (okL x)).map qL) (L.length:Int)=_
  unfold QbU
  rw [QaO (by simp [lenI]),List.take_length])
 simpa using this
theorem Qs9 {α:Type} {D:α→α→Bool} {l:List α} {i:Nat} {a:α}:goodI D l i a=true↔∀ k,k<l.length→good1 D l i a k=true:=by
 unfold goodI
 rw [List.all_eq_true]
 exact ⟨fun h k hk=>h k (List.mem_range.2 hk),fun h k hk=>h k (List.mem_range.1 hk)⟩
theorem QAD (hx:Qa5 x) {C:List Qae} (hC:∀ l∈C,LbI x l) (hl:C.length≤1000000) {i:Nat} (hi:i<C.length) {q:List Qad} :
  loopF (fun s:Bool×Int=>QcO (C.map qL) q (i:Int) s.1 s.2) (true,0)=some (goodI domB C i C[i]):=by
 have ei:C[i]?=some C[i]:=List.getElem?_eq_getElem hi
 have eiq:(C.map qL)[i]?=some (qL C[i]):=by rw [List.getElem?_map,ei]; rfl
 have hiI:=hC _ (List.getElem_mem hi)
 have key:post (loopF (fun s:Bool×Int=>QcO (C.map qL) q (i:Int) s.1 s.2) (true,0)) fun g=>g=goodI domB C i C[i]:=by
  refine Qde (fun s:Bool×Int=>∃ k:Nat,s.2=(k:Int)∧k≤C.length∧(s.1=true→∀ j,j<k→good1 domB C i C[i] j=true)∧(s.1=false→goodI domB C i C[i]=false)) (fun s=>C.length-s.2.toNat) ⟨0,rfl,Nat.zero_le _,fun _ j hj=>by omega,fun h=>by cases h⟩ (by simp; omega) ?_
  rintro ⟨g,_⟩ ⟨k,rfl,hk,h1,h2⟩
  show post (QcO (C.map qL) q (i:Int) g (k:Int)) _
  unfold QcO
  refine QaC (fun h=>?_) (fun h=>?_)
  ·rw [Bool.and_eq_true,ltI_t,lenI,List.length_map] at h
   obtain ⟨hlt,rfl⟩:=h
   have hk':k<C.length:=by omega
   have e:C[k]?=some C[k]:=List.getElem?_eq_getElem hk'
   have eq:(C.map qL)[k]?=some (qL C[k]):=by rw [List.getElem?_map,e]; rfl
   have hkI:=hC _ (List.getElem_mem hk')
   have ek:addK .i64 (k:Int) 1=((k+1:Nat):Int):=(addI (by omega) (by omega)).trans (by omega)
   have go:∀ g':Bool,(k == i||(!domB C[k] C[i]||(decide (i<k)&&domB C[i] C[k])))=g'→post (some (Sum.inl (g',((k+1:Nat):Int))):Option ((Bool×Int)⊕Bool)) fun y=>(∀ s',y=.inl s'→(∃ k:Nat,s'.2=(k:Int)∧k≤C.length∧(s'.1=true→∀ j,j<k→good1 domB C i C[i] j=true)∧(s'.1=false→goodI domB C i C[i]=false))∧C.length-s'.2.toNat<C.length-(k:Int).toNat)∧∀ e,y=.inr e→e=goodI domB C i C[i]:=fun g' hg=>by
    refine Qeu ⟨⟨k+1,rfl,hk',fun ht j hj=>?_,fun hf=>?_⟩,by show C.length-((k+1:Nat):Int).toNat<C.length-(k:Int).toNat; omega⟩
    ·rcases Nat.lt_or_ge j k with hjk|hjk
     ·exact h1 rfl j hjk
     ·obtain rfl:j=k:=by omega
      unfold good1
      rw [e]
      simp only
      rw [hg]; exact ht
    ·cases hgd:goodI domB C i C[i] with
     | false=>rfl
     | true =>
      have:=Qs9.1 hgd k hk'
      unfold good1 at this
      rw [e] at this
      simp only at this
      rw [hg] at this
      have hf:g'=false:=hf
      rw [this] at hf; cases hf
   rw [ek]
   refine QaC (fun hki=>?_) (fun hki=>?_)
   ·have:k=i:=by have:=eqI_t.1 hki; omega
    exact go true (by simp [this])
   ·have hki':¬ k=i:=by have:=eqI_f.1 hki; omega
    rw [QaB eq,Qaj,QaB eiq,Qaj,(Qw3 hx hkI hiI).2,Qaj]
    refine QaC (fun hd=>QaC (fun hgt=>?_) (fun hgt=>?_)) (fun hd=>?_)
    ·rw [(Qw3 hx hiI hkI).2,Qaj]
     have:i<k:=by simpa using hgt
     exact go _ (by rw [hd]; simp [hki',this])
    ·have:¬ i<k:=by simpa using hgt
     exact go _ (by rw [hd]; simp [hki',this])
    ·exact go _ (by rw [hd]; simp)
  ·refine Qdn ?_
   cases g with
   | false=>exact (h2 rfl).symm
   | true =>
    rw [Bool.and_true,ltI_f,lenI,List.length_map] at h
    have hkl:k=C.length:=by omega
    subst hkl
    exact (Qs9.2 (h1 rfl)).symm
 exact key.eq
theorem QAz (hx:Qa5 x) (h0:0≤kind) (h1:kind<x.types.length) (hm:m<2 ^ x.orders.length) (hc:cntB m x.orders.length≤3):Qd8 x kind (m:Int)=some ((outI domB (candL x kind m) (candL x kind m).length).map qL,0):=by
 have hm2:=QsU hx hm
 have hall:=QuF (x:=x) hc
 unfold Qd8
 rw [QaO (by simp [lenI]; omega),(QAQ hx hm hc).2,Qaj,QaO (by simp)]
 have hsix:∀ s∈allS x m,s.length≤6:=fun s hs=>Qtk hc hs
 have hcl:=Qyq (kind:=kind) hx hc
 unfold candL at *
 generalize allS x m=A at hall hsix hcl
 have l1:=QcQ A.length (fun i=>(((A.take i).flatMap fun s=>(Qma x kind m s).filter (okL x)).map qL,(i:Int)))
  (B:=fun q:List Qad×Int=>QbT x kind (m:Int) (A,0) q.1 q.2) (e:=(A.flatMap fun s=>(Qma x kind m s).filter (okL x)).map qL) (by omega) (fun i hi=>by
   have e:A[i]?=some A[i]:=List.getElem?_eq_getElem hi
   have h6:=hsix _ (List.getElem_mem hi)
   have hlabs:=Qp9 (kind:=kind) (m:=m) hx h6
   have htl:=Qlt (f:=fun s=>(Qma x kind m s).filter (okL x)) (l:=A) i
   have hle:=hlabs.len
   show QbT x kind (m:Int) (A,0) (((A.take i).flatMap fun s=>(Qma x kind m s).filter (okL x)).map qL) (i:Int)=_
   unfold QbT
   simp only
   rw [Qbh e,Qy4 hx hm2 h6,Qaj,Qbg (Qy7 hx (fun l hl=>(hlabs.all l hl).1) (by omega) (by omega)),incL e (by omega),Qhb e]
   rfl) (by
   show QbT x kind (m:Int) (A,0) (((A.take A.length).flatMap fun s=>(Qma x kind m s).filter (okL x)).map qL) (A.length:Int)=_
   unfold QbT
   simp only
   rw [QaV,List.take_length])
 rw [Qbg (show loopF (fun q:List Qad×Int=>QbT x kind (m:Int) (A,0) q.1 q.2) ([],0)=_ from l1)]
 generalize (A.flatMap fun s=>(Qma x kind m s).filter (okL x))=C at hcl
 have hC:∀ l∈C,LbI x l:=fun l hl=>(hcl.1 l hl).1
 have outlen:∀ i,(outI domB C i).length≤i:=fun i=>by
  induction i with
  | zero=>exact Nat.le_refl _
  | succ i ih =>
   unfold outI
   rw [List.length_append]
   split
   ·split <;> simp <;> omega
   ·simp; omega
 have l2:=QcQ C.length (fun i=>((outI domB C i).map qL,(i:Int))) (B:=fun q:List Qad×Int=>QbA (C.map qL) q.1 q.2) (e:=(outI domB C C.length).map qL) (by omega) (fun i hi=>by
  have e:C[i]?=some C[i]:=List.getElem?_eq_getElem hi
  have eq:(C.map qL)[i]?=some (qL C[i]):=by rw [List.getElem?_map,e]; rfl
  have ho:=outlen i
  show QbA (C.map qL) ((outI domB C i).map qL) (i:Int)=some (.inl ((outI domB C (i+1)).map qL,((i+1:Nat):Int)))
  unfold QbA
  have ek:addK .i64 (i:Int) 1=((i+1:Nat):Int):=(addI (by omega) (by omega)).trans (by omega)
  rw [QbO (by simp [lenI]; omega),Qbg (QAD hx hC (by omega) hi),QaB eq,Qaj,Qb5 (QeM (by simp only [List.length_append,List.length_map,List.length_singleton]; omega)),ek]
  rw [Qy1 e]
  cases goodI domB C i C[i] with
  | true=>rw [Qbx,if_pos rfl,List.map_append]; rfl
  | false=>rw [Qbb,if_neg (by decide),List.append_nil]) (by
  show QbA (C.map qL) ((outI domB C C.length).map qL) (C.length:Int)=_
  unfold QbA
  rw [QaO (by simp [lenI])])
 rw [Qbg (show loopF (fun q:List Qad×Int=>QbA (C.map qL) q.1 q.2) ([],0)=_ from l2)]
theorem Qyx (hx:Qa5 x) (hc:cntB m x.orders.length≤3):endsL x kind m=outI domB (candL x kind m) (candL x kind m).length∧(∀ g∈endsL x kind m,g∈candL x kind m)∧(∀ k∈candL x kind m,∃ g∈endsL x kind m,domB g k=true)∧(endsL x kind m).Pairwise (fun a b=>domB a b=false∧domB b a=false):=by
 have:=QAd (D:=domB) (P:=LbI x) (fun a h=>QzW h) (fun a b c ha hb hc h1 h2=>Qyv ha hb hc h1 h2) (candL x kind m) fun a ha=>((Qyq hx hc).1 a ha).1
 obtain ⟨h1,h2,h3,h4⟩:=this
 unfold endsL
 rw [h1]
 exact ⟨rfl,h2,h3,h4⟩
theorem QwG (hx:Qa5 x) (hm:m<9223372036854775808) (hb:¬ (0≤kind∧kind<x.types.length)∨¬ m<2 ^ x.orders.length):QhC x kind (m:Int)=some ([],2)∧Qd8 x kind (m:Int)=some ([],2):=by
 by_cases hk:0≤kind∧kind<x.types.length
 ·have hb':¬ m<2 ^ x.orders.length:=by rcases hb with h|h; exact absurd hk h; exact h
  constructor
  ·unfold QhC
   rw [QaO (by simp [lenI]; omega),(Qzh hx hm hb').1,Qaj,QbO (by decide)]
  ·unfold Qd8
   rw [QaO (by simp [lenI]; omega),(Qzh hx hm hb').2,Qaj,QbO (by decide)]
 ·constructor
  ·unfold QhC
   rw [QbO (by simp [lenI]; omega)]
  ·unfold Qd8
   rw [QbO (by simp [lenI]; omega)]
theorem QA8 (hx:Qa5 x) (h:cntB m 63≤3):cntB m x.orders.length≤3:=Nat.le_trans (Qyt (by have:=hx.orders; omega)) h
theorem Qtw (hx:Qa5 x) {L:List Qae} (hL:∀ l∈L,LbI x l) (hl:L.length≤1000000) (hp:L.Pairwise (fun a b=>domB a b=false∧domB b a=false)) {e:Int}:loopF (fun s=>Qa4 (L,e) s) 0=some (.inl ()):=by
 have hno:∀ (i k:Nat) (a b:Qae),L[i]?=some a→L[k]?=some b→i≠k→domB a b=false:=fun i k a b ha hb hne=>by
  obtain ⟨i1,i2⟩:=List.getElem?_eq_some_iff.1 ha
  obtain ⟨k1,k2⟩:=List.getElem?_eq_some_iff.1 hb
  have hpp:=List.pairwise_iff_getElem.1 hp
  rcases Nat.lt_or_gt_of_ne hne with h|h
  ·have:=(hpp i k i1 k1 h).1; rw [i2,k2] at this; exact this
  ·have:=(hpp k i k1 i1 h).2; rw [i2,k2] at this; exact this
 refine Quz (l:=L) (B:=fun s=>Qa4 (L,e) s) (by omega) (fun i a ha=>?_) (by
  show Qa4 (L,e) (L.length:Int)=_
  unfold Qa4
  rw [QaO (by simp [lenI])])
 show Qa4 (L,e) (i:Int)=_
 have haI:=hL a (List.mem_of_getElem? ha)
 unfold Qa4
 have hi:=(List.getElem?_eq_some_iff.1 ha).1
 rw [QbO (by simp [lenI]; omega),Qbg (Quz (l:=L) (N:=(.inl ():Unit⊕Bool)) (B:=fun s=>Qba (L,e) (i:Int) s) (by omega) (fun k b hb=>by
  have hbI:=hL b (List.mem_of_getElem? hb)
  have hk:=(List.getElem?_eq_some_iff.1 hb).1
  show Qba (L,e) (i:Int) (k:Int)=_
  unfold Qba
  rw [QbO (by simp [lenI]; omega),incL hb (by omega)]
  by_cases hik:i=k
  ·rw [QaO (by simp [hik])]
  ·rw [QbO (by rw [neI_t]; omega),QaB ha,Qaj,QaB hb,Qaj,(Qw3 hx haI hbI).1,Qaj,hno i k a b ha hb hik,Qbb]) (by
  show Qba (L,e) (i:Int) (L.length:Int)=_
  unfold Qba
  rw [QaO (by simp [lenI])])),Qdd,incL ha (by omega)]
theorem QsQ (x:Qac) (hI:InstI x) (kind:Int) (set_:Int) (hs:isI64 set_):Qfq x kind set_=some true:=by
 apply post.eq
 unfold Qfq
 rw [QA1]
 refine QaU (few31 hI) fun ok hok=>QaC (fun _=>Qay.2 rfl) (fun h1=>?_)
 simp only [Bool.or_eq_false_iff,Bool.not_eq_false',ltI_f] at h1
 obtain ⟨hx,h6⟩:=hok h1.1
 obtain ⟨m,rfl⟩:∃ m:Nat,set_=m:=⟨set_.toNat,by omega⟩
 have hm63:m<9223372036854775808:=by have:=hs.2; omega
 rw [QAV hm63,Qaj]
 refine QaC (fun _=>Qay.2 rfl) (fun h3=>?_)
 simp only [gtI_f] at h3
 have hc:=QA8 hx (m:=m) (by omega)
 by_cases hk:0≤kind∧kind<x.types.length
 ·by_cases hm:m<2 ^ x.orders.length
  ·obtain ⟨e1,e2,e3,e4⟩:=Qyx (kind:=kind) hx hc
   have hcI:=Qyq (kind:=kind) hx hc
   have hLI:∀ l∈endsL x kind m,LbI x l:=fun l hl=>(hcI.1 l (e2 l hl)).1
   have hlen:=Qr4 (out:=[]) (candL x kind m)
   have hlen:(endsL x kind m).length≤93312:=by
    unfold endsL
    simp only [List.length_nil] at hlen
    omega
   rw [QzM hx hk.1 hk.2 hm hc,Qaj,QAz hx hk.1 hk.2 hm hc,Qaj,← e1]
   rw [QaO (by simp)]
   show post (bnd (Qd4 (endsL x kind m) ((endsL x kind m).map qL)) _) _
   rw [QAE hx hLI (by omega),Qaj,Qbx,Qbg (Qtw hx hLI (by omega) e4),Qdd]
   exact Qay.2 rfl
  ·obtain ⟨e1,e2⟩:=QwG (kind:=kind) hx hm63 (.inr hm)
   rw [e1,Qaj,e2,Qaj,QaO (by decide)]
   show post (bnd (Qd4 [] ([].map qL)) _) _
   rw [QAE hx (fun l hl=>by cases hl) (by simp),Qaj,Qbx,Qbg (Qtw hx (fun l hl=>by cases hl) (by simp) List.Pairwise.nil),Qdd]
   exact Qay.2 rfl
 ·obtain ⟨e1,e2⟩:=QwG (kind:=kind) hx hm63 (.inl hk)
  rw [e1,Qaj,e2,Qaj,QaO (by decide)]
  show post (bnd (Qd4 [] ([].map qL)) _) _
  rw [QAE hx (fun l hl=>by cases hl) (by simp),Qaj,Qbx,Qbg (Qtw hx (fun l hl=>by cases hl) (by simp) List.Pairwise.nil),Qdd]
  exact Qay.2 rfl
end
end Go.Proofs.YtfjiafgldchinaaGreatDoor
