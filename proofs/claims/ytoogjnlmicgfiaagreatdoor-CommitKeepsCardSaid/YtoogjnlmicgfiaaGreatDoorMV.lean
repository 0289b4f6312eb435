/- Part MV of the proof: texts W1. -/
import Derived.Test.YtoogjnlmicgfiaaGreatDoorMU
import Derived.Test.YtoogjnlmicgfiaaGreatDoorProg
namespace Go.Proofs.YtoogjnlmicgfiaaGreatDoor
set_option linter.unusedVariables false
set_option linter.unusedSectionVars false
set_option linter.unusedSimpArgs false
set_option maxHeartbeats 4000000
set_option maxRecDepth 100000
def Qiu (Γ:Gam) (rv:ByteArray) (cf:Cf):Prop:=Go Tryz.prog Tryz.f180 [] Γ (one (.str rv)) [] cf
theorem QdL (Γ:Gam) (rv:ByteArray) {i u} (h:QcG i u = some rv):Qiu Γ rv ⟨[.c 431,.c 7],⟨54,[vI 0 i,vP 5 0 24,(6,one (.int .u64 u))],[oX 24 223 [.int .u8 0,.int .u8 0,.int .u8 0,.int .u8 0,.int .u8 0,.int .u8 0,.int .u8 0,.int .u8 0,.int .u8 0,.int .u8 0,.int .u8 0,.int .u8 0,.int .u8 0,.int .u8 0,.int .u8 0,.int .u8 0,.int .u8 0,.int .u8 0,.int .u8 0,.int .u8 0,.int .u8 0,.int .u8 0,.int .u8 0,.int .u8 0]]⟩⟩:=by
 unfold QcG at h
 obtain ⟨r1,h4,h⟩:=Qae h
 cases h
theorem Qh9 {i base} {rv:ByteArray} (h:Qer i base = some rv):AFn Tryz.prog 180 [.one (lI i),.one (lI base)] [] (one (.str rv)) []:=by
 refine QaO Tryz.func180 (by kernel_rfl) (by kernel_rfl) (fun Γ=>?_)
 unfold Qer at h
 rcases Qaf h with ⟨h0,h⟩|⟨h0,h⟩
 ·rcases Qaf h with ⟨h1,h⟩|⟨h1,h⟩
  ·obtain ⟨r,h2,h⟩:=Qae h
   obtain rfl:=Option.some.inj h
   exact gr 12 [] [bT h0,hP,hP,hP,oI ((leI 0 i) = true),oR True ((leI 0 i) = true),bT h1,cC (QjT h2)]
  ·rcases Qaf h with ⟨h3,h⟩|⟨h3,h⟩
   ·exact gn 20 [0,5,6] [0] [bT h0,hP,hP,hP,oI ((leI 0 i) = true),oR True ((leI 0 i) = true),bF h1,bT h3] (QdL Γ rv h)
   ·exact gn 20 [0,5,6] [0] [bT h0,hP,hP,hP,oI ((leI 0 i) = true),oR True ((leI 0 i) = true),bF h1,bF h3] (QdL Γ rv h)
 ·cases h
theorem Qj4 {i} {rv:ByteArray} (h:Qia i = some rv):AFn Tryz.prog 179 [.one (lI i)] [] (one (.str rv)) []:=by
 refine QaO Tryz.func179 (by kernel_rfl) (by kernel_rfl) (fun Γ=>?_)
 unfold Qia at h
 obtain ⟨r,h0,h⟩:=Qae h
 obtain rfl:=Option.some.inj h
 exact gr 4 [] [cC (Qh9 h0)]
theorem QgM {i} {rv:ByteArray} (h:Qgs i = some rv):AFn Tryz.prog 178 [.one (lI i)] [] (one (.str rv)) []:=by
 refine QaO Tryz.func178 (by kernel_rfl) (by kernel_rfl) (fun Γ=>?_)
 unfold Qgs at h
 obtain ⟨r,h0,h⟩:=Qae h
 obtain rfl:=Option.some.inj h
 exact gr 4 [] [cC (Qj4 h0)]
def QeY (Γ:Gam) (rv:List Qak) (cf:Cf):Prop:=Go Tryz.prog Tryz.f174 [] Γ (one (lL 2 rv Qak.enc)) [] cf
def Qes (Γ:Gam) (rv:List Qak) (l:List Qah) (l2:List Qak) (v:Int):Prop:=QeY Γ rv ⟨[.c 244,.l 244,.b 0,.c 31],⟨83,[vL 0 2 l Qah.enc,vO 3 0 2 l2 Qak.enc,vL 19 2 l Qah.enc,vI 20 (lenI l),vI 21 v],[oS 2 144 l2 Qak.enc]⟩⟩
def QdS (Γ:Gam) (rv:List Qak) (l:List Qah) (l4:List Qak):Prop:=QeY Γ rv ⟨[.c 31],⟨83,[vO 3 0 2 l4 Qak.enc],[oS 2 144 l4 Qak.enc]⟩⟩
theorem Qgi (Γ:Gam) (rv:List Qak) {l v x0 r l3} {x:(List Qak × Int) ⊕ (List Qak)} (h:Qd3 l v x0 r l3 = some x) (hI:∀ s:List Qak × Int,x = .inl s→Qes Γ rv l s.1 s.2) (hE:∀ e:List Qak,x = .inr e→QdS Γ rv l e):QeY Γ rv ⟨[.c 31335,.b 1,.c 1959,.l 244,.b 0,.c 31],⟨83,[vL 0 2 l Qah.enc,vO 3 0 2 l3 Qak.enc,vI 4 v,vP 5 1 2,vS 6 r,vL 19 2 l Qah.enc,vI 20 (lenI l),vI 21 v],[oS 2 144 l3 Qak.enc,oX 2 96 (Qah.enc x0)]⟩⟩:=by
 unfold Qd3 at h
 rcases Qaf h with ⟨h8,h⟩|⟨h8,h⟩
 ·obtain ⟨x1,h9,h⟩:=Qae h
  rcases Qaf h with ⟨h10,h⟩|⟨h10,h⟩
  ·obtain ⟨h11,h⟩:=Qco h
   exact gn 7 [0,3,19,20,21] [3] [hH (.draw 24 []),rp 6 (bT h8),cE Qah.enc h9,rp 4 (bT h8),rp 9 (bT h10),bT h8,bT h10,bT h8,tT,oO (Eq.refl ([(Qak.mk 13 r)].map Qak.enc).length),aO Qak.enc h11] (hI _ (oJ h))
  ·rcases Qaf h with ⟨h12,h⟩|⟨h12,h⟩
   ·obtain ⟨h13,h⟩:=Qco h
    exact gn 7 [0,3,19,20,21] [3] [hH (.draw 24 []),rp 6 (bT h8),cE Qah.enc h9,rp 4 (bT h8),rp 6 (bF h10),cE Qah.enc h9,rp 3 (bF h10),bT h8,bF h10,bT h8,bT h12,oO (Eq.refl ([(Qak.mk 13 r)].map Qak.enc).length),aO Qak.enc h13] (hI _ (oJ h))
   ·exact gn 7 [0,3,19,20,21] [0] [hH (.draw 24 []),rp 6 (bT h8),cE Qah.enc h9,rp 4 (bT h8),rp 6 (bF h10),cE Qah.enc h9,rp 3 (bF h10),bT h8,bF h10,bT h8,bF h12] (hI _ (oJ h))
 ·exact gn 7 [0,3,19,20,21] [0] [hH (.draw 24 []),rp 10 (bF h8),rp 9 kF,bF h8,bF h8,fF] (hI _ (oJ h))
theorem QiU (Γ:Gam) (rv:List Qak) {l} {s:List Qak × Int} {e:List Qak} (h:loopF (fun s=>Qd4 l s.1 s.2) s = some e) (hD:QdS Γ rv l e):Qes Γ rv l s.1 s.2:=by
 refine QaL (C:=fun (s:List Qak × Int)=>Qes Γ rv l s.1 s.2) (D:=fun (e:List Qak)=>QdS Γ rv l e) ?_ h hD
 clear h hD s e
 rintro ⟨l2,v⟩ z_ h hI hE
 replace h:Qd4 l l2 v = _:=h
 unfold Qd4 at h
 rcases Qaf h with ⟨h2,h⟩|⟨h2,h⟩
 ·obtain ⟨x0,h3,h⟩:=Qae h
  obtain ⟨r,h4,h⟩:=Qae h
  obtain ⟨r1,h5,h⟩:=Qae h
  rcases Qaf h with ⟨h6,h⟩|⟨h6,h⟩
  ·obtain ⟨h7,h⟩:=Qco h
   exact gn 16 [0,3,4,5,6,19,20,21] [3,1] [bT h2,cE Qah.enc h3,cC (QgM h4),cC (QcY h5),rp 13 hP,rp 4 (oI ((!r1) = false)),oR True ((!r1) = false),rp 5 (oI (((!r1) || (ltI x0.a x0.t)) = false)),oR True (((!r1) || (ltI x0.a x0.t)) = false),bT h6,oO (Eq.refl ([(Qak.mk 2 r)].map Qak.enc).length),aO Qak.enc h7] (Qgi Γ rv h hI hE)
  ·exact gn 16 [0,3,4,5,6,19,20,21] [0,1] [bT h2,cE Qah.enc h3,cC (QgM h4),cC (QcY h5),rp 13 hP,rp 4 (oI ((!r1) = false)),oR True ((!r1) = false),rp 5 (oI (((!r1) || (ltI x0.a x0.t)) = false)),oR True (((!r1) || (ltI x0.a x0.t)) = false),bF h6] (Qgi Γ rv h hI hE)
 ·exact gn 5 [3] [0] [bF h2] (hE _ (oJ h))
theorem Qgh (Γ:Gam) (rv:List Qak) {l l1} (h:Qd2 l l1 = some rv):QeY Γ rv ⟨[.c 15],⟨83,[vL 0 2 l Qah.enc,vO 3 0 2 l1 Qak.enc],[oS 2 144 l1 Qak.enc]⟩⟩:=by
 unfold Qd2 at h
 obtain ⟨e0,h14,h⟩:=Qae h
 refine gn 5 [0,3,19,20,21] [0] [nL Qah.enc l] (QiU Γ rv h14 ?_)
 obtain ⟨l4,rfl⟩:∃ x,x = e0:=⟨_,rfl⟩
 replace h:(some l4:Option (List Qak)) = some _:=h
 obtain rfl:=Option.some.inj h
 exact gr 2 [] [hW 4,hH (.frz 0),rp 3 (eL l4 Qak.enc)]
theorem Qj5 {l} {rv:List Qak} (h:Qib l = some rv):AFn Tryz.prog 174 [.one (lL 2 l Qah.enc)] [] (one (lL 2 rv Qak.enc)) []:=by
 refine QaO Tryz.func174 (by kernel_rfl) (by kernel_rfl) (fun Γ=>?_)
 unfold Qib at h
 rcases Qaf h with ⟨h0,h⟩|⟨h0,h⟩
 ·obtain ⟨h1,h⟩:=Qco h
  exact gn 9 [0,3] [1] [nL Qah.enc l,hP,hP,oI ((eqI (lenI l) 0) = false),nL Qah.enc l,hP,hP,oI ((eqI (lenI l) 0) = false),oR True ((eqI (lenI l) 0) = false),bT h0,oO (Eq.refl ([(Qak.mk 4 ByteArray.empty)].map Qak.enc).length),aN (l:=([(Qak.mk 4 ByteArray.empty)]:List Qak)) Qak.enc h1] (Qgh Γ rv h)
 ·exact gn 9 [0,3] [0] [nL Qah.enc l,hP,hP,oI ((eqI (lenI l) 0) = false),nL Qah.enc l,hP,hP,oI ((eqI (lenI l) 0) = false),oR True ((eqI (lenI l) 0) = false),bF h0,hW 1,hH (.adopt 3 2 144)] (Qgh Γ rv h)
theorem QhP {l} {rv:Bool} (h:Qic l = some rv):AFn Tryz.prog 169 [.one (lL 2 l Qah.enc)] [] (one (.bool rv)) []:=by
 refine QaO Tryz.func169 (by kernel_rfl) (by kernel_rfl) (fun Γ=>?_)
 unfold Qic at h
 obtain ⟨r,h0,h⟩:=Qae h
 obtain rfl:=Option.some.inj h
 exact gr 4 [] [cC (Qj5 h0),nL Qak.enc r]
theorem QdT {p t} {rv:Int} (h:Qdj p t = some rv):AFn Tryz.prog 176 [.agg (Qah.enc p),.one (lI t)] [] (one (lI rv)) []:=by
 refine QaO Tryz.func176 (by kernel_rfl) (by kernel_rfl) (fun Γ=>?_)
 unfold Qdj at h
 obtain rfl:=Option.some.inj h
 exact gr 4 [] []
def Qa5 (Γ:Gam) (rv:Int × Bool) (cf:Cf):Prop:=Go Tryz.prog Tryz.f175 [] Γ (.tup [.one (lI rv.1),.one (.bool rv.2)]) [] cf
def QaY (Γ:Gam) (rv:Int × Bool) (x0:List Qah) (target:Int) (i:Int) (j:Int):Prop:=Qa5 Γ rv ⟨[.c 120,.l 120,.b 0,.c 31],⟨49,[vL 0 2 x0 Qah.enc,vI 1 target,(2,one (.fn (.func 176) [])),vI 8 (lenI x0),vI 9 i,vI 10 j],[]⟩⟩
def QaW (Γ:Gam) (rv:Int × Bool) (x0:List Qah) (target:Int) (i1:Int):Prop:=Qa5 Γ rv ⟨[.c 31],⟨49,[vL 0 2 x0 Qah.enc,vI 1 target,(2,one (.fn (.func 176) [])),vI 8 (lenI x0),vI 9 i1],[]⟩⟩
theorem QbM (Γ:Gam) (rv:Int × Bool) {x0 target} {s:Int × Int} {e:Int} (h:loopF (fun s=>Qau x0 target s.1 s.2) s = some e) (hD:QaW Γ rv x0 target e):QaY Γ rv x0 target s.1 s.2:=by
 refine QaL (C:=fun (s:Int × Int)=>QaY Γ rv x0 target s.1 s.2) (D:=fun (e:Int)=>QaW Γ rv x0 target e) ?_ h hD
 clear h hD s e
 rintro ⟨i,j⟩ z_ h hI hE
 replace h:Qau x0 target i j = _:=h
 unfold Qau at h
 rcases Qaf h with ⟨h0,h⟩|⟨h0,h⟩
 ·obtain ⟨x1,h1,h⟩:=Qae h
  obtain ⟨r,h2,h⟩:=Qae h
  rcases Qaf h with ⟨h3,h⟩|⟨h3,h⟩
  ·exact gn 14 [0,1,2,8,9,10] [] [bT h0,oO (zL 1),cE Qah.enc h1,cC (QdT h2),bT h3] (hI _ (oJ h))
  ·exact gn 14 [0,1,2,8,9,10] [] [bT h0,oO (zL 1),cE Qah.enc h1,cC (QdT h2),bF h3] (hI _ (oJ h))
 ·exact gn 5 [0,1,2,8,9] [] [bF h0] (hE _ (oJ h))
theorem Qav {x0 target} {rv:Int × Bool} (h:QaJ x0 target = some rv):AFn Tryz.prog 175 [.one (lL 2 x0 Qah.enc),.one (lI target),.one (.fn (.func 176) [])] [] (.tup [.one (lI rv.1),.one (.bool rv.2)]) []:=by
 refine QaO Tryz.func175 (by kernel_rfl) (by kernel_rfl) (fun Γ=>?_)
 unfold QaJ at h
 obtain ⟨e0,h4,h⟩:=Qae h
 refine gn 9 [0,1,2,8,9,10] [] [nL Qah.enc x0] (QbM Γ rv h4 ?_)
 obtain ⟨i1,rfl⟩:∃ x,x = e0:=⟨_,rfl⟩
 replace h:(br (ltI i1 (lenI x0)) (bnd (getI x0 i1) fun x2=>bnd (Qdj x2 target) fun r1=>some (i1,(eqI r1 0))) (some (i1,false)):Option (Int × Bool)) = some _:=h
 rcases Qaf h with ⟨h5,h⟩|⟨h5,h⟩
 ·obtain ⟨x2,h6,h⟩:=Qae h
  obtain ⟨r1,h7,h⟩:=Qae h
  obtain rfl:=Option.some.inj h
  exact gr 2 [] [rp 4 (bT h5),cE Qah.enc h6,rp 3 (bT h5),cC (QdT h7),bT h5,bT h5]
 ·obtain rfl:=Option.some.inj h
  exact gr 2 [] [rp 9 (bF h5)]
theorem QjW {l t} {rv:Int} (h:Qhn l t = some rv):AFn Tryz.prog 170 [.one (lL 2 l Qah.enc),.one (lI t)] [] (one (lI rv)) []:=by
 refine QaO Tryz.func170 (by kernel_rfl) (by kernel_rfl) (fun Γ=>?_)
 unfold Qhn at h
 obtain ⟨r,h0,h⟩:=Qae h
 rcases Qaf h with ⟨h1,h⟩|⟨h1,h⟩
 ·obtain ⟨x0,h2,h⟩:=Qae h
  obtain rfl:=Option.some.inj h
  exact gr 11 [] [cC (Qav h0),bT h1,cE Qah.enc h2]
 ·rcases Qaf h with ⟨h3,h⟩|⟨h3,h⟩
  ·obtain ⟨x1,h4,h⟩:=Qae h
   obtain rfl:=Option.some.inj h
   exact gr 14 [] [cC (Qav h0),bF h1,bT h3,hH (.draw 12 []),rp 2 (cE Qah.enc h4)]
  ·rcases Qaf h with ⟨h5,h⟩|⟨h5,h⟩
   ·obtain ⟨x2,h6,h⟩:=Qae h
    obtain rfl:=Option.some.inj h
    exact gr 17 [] [cC (Qav h0),bF h1,bF h3,nL Qah.enc l,bT h5,hH (.draw 16 []),rp 2 (cE Qah.enc h6)]
   ·obtain ⟨x3,h7,h⟩:=Qae h
    obtain ⟨x4,h8,h⟩:=Qae h
    obtain ⟨h9,h⟩:=Qco h
    obtain rfl:=Option.some.inj h
    exact gr 23 [] [cC (Qav h0),bF h1,bF h3,nL Qah.enc l,bF h5,hH (.draw 13 [(0,11),(1,12)]),cE Qah.enc h7,cE Qah.enc h8,hH (.draw 19 []),oO (h9)]
theorem QjV {l t} {rv:Int} (h:Qhm l t = some rv):AFn Tryz.prog 166 [.one (lL 2 l Qah.enc),.one (lI t)] [] (one (lI rv)) []:=by
 refine QaO Tryz.func166 (by kernel_rfl) (by kernel_rfl) (fun Γ=>?_)
 unfold Qhm at h
 obtain ⟨r,h0,h⟩:=Qae h
 rcases Qaf h with ⟨h1,h⟩|⟨h1,h⟩
 ·obtain ⟨r1,h2,h⟩:=Qae h
  rcases Qaf h with ⟨h3,h⟩|⟨h3,h⟩
  ·obtain ⟨r2,h4,h⟩:=Qae h
   obtain rfl:=Option.some.inj h
   exact gr 9 [] [cC (QcY h0),nF h1,nF h1,cC (QhP h2),nF h1,nF h1,nF h3,cC (QjW h4)]
  ·obtain rfl:=Option.some.inj h
   exact gr 8 [] [cC (QcY h0),nF h1,nF h1,cC (QhP h2),nF h1,nF h1,nT h3]
 ·obtain rfl:=Option.some.inj h
  exact gr 8 [] [cC (QcY h0),rp 4 (nT h1),tT]
def QgF (Γ:Gam) (rv:Int) (cf:Cf):Prop:=Go Tryz.prog Tryz.f162 [] Γ (one (lI rv)) [] cf
def Qfe (Γ:Gam) (rv:Int) (a:Qaw) (t:Int) (out:Int) (v:Int):Prop:=QgF Γ rv ⟨[.c 116,.l 116,.b 0,.c 15],⟨29,[vI 1 t,vI 5 out,vL 13 2 a.slow Qah.enc,vI 14 (lenI a.slow),vI 15 v],[]⟩⟩
def QeK (Γ:Gam) (rv:Int) (a:Qaw) (t:Int) (out1:Int):Prop:=QgF Γ rv ⟨[.c 15],⟨29,[vI 5 out1],[]⟩⟩
theorem QhB (Γ:Gam) (rv:Int) {a t} {s:Int × Int} {e:Int} (h:loopF (fun s=>Qda a t s.1 s.2) s = some e) (hD:QeK Γ rv a t e):Qfe Γ rv a t s.1 s.2:=by
 refine QaL (C:=fun (s:Int × Int)=>Qfe Γ rv a t s.1 s.2) (D:=fun (e:Int)=>QeK Γ rv a t e) ?_ h hD
 clear h hD s e
 rintro ⟨out,v⟩ z_ h hI hE
 replace h:Qda a t out v = _:=h
 unfold Qda at h
 rcases Qaf h with ⟨h1,h⟩|⟨h1,h⟩
 ·obtain ⟨x0,h2,h⟩:=Qae h
  rcases Qaf h with ⟨h3,h⟩|⟨h3,h⟩
  ·exact gn 16 [1,5,13,14,15] [] [bT h1,cE Qah.enc h2,bT h3] (hI _ (oJ h))
  ·exact gn 16 [1,5,13,14,15] [] [bT h1,cE Qah.enc h2,bF h3] (hI _ (oJ h))
 ·exact gn 5 [5] [] [bF h1] (hE _ (oJ h))
theorem QiJ {a t} {rv:Int} (h:QfV a t = some rv):AFn Tryz.prog 162 [.agg (Qaw.enc a),.one (lI t)] [] (one (lI rv)) []:=by
 refine QaO Tryz.func162 (by kernel_rfl) (by kernel_rfl) (fun Γ=>?_)
 unfold QfV at h
 obtain ⟨r,h0,h⟩:=Qae h
 obtain ⟨e0,h4,h⟩:=Qae h
 refine gn 9 [1,5,13,14,15] [] [cC (QjV h0),nL Qah.enc a.slow] (QhB Γ rv h4 ?_)
 obtain ⟨out1,rfl⟩:∃ x,x = e0:=⟨_,rfl⟩
 replace h:(some out1:Option Int) = some _:=h
 obtain rfl:=Option.some.inj h
 exact gr 2 [] []
theorem Qej {n profile from_ to_ t} {rv:Int × Int × Int} (h:QjE n profile from_ to_ t = some rv):AFn Tryz.prog 149 [.agg (Qar.enc n),.one (lI profile),.one (lI from_),.one (lI to_),.one (lI t)] [] (.tup [.one (lI rv.1),.one (lI rv.2.1),.one (lI rv.2.2)]) []:=by
 refine QaO Tryz.func149 (by kernel_rfl) (by kernel_rfl) (fun Γ=>?_)
 unfold QjE at h
 obtain ⟨r,h0,h⟩:=Qae h
 rcases Qaf h with ⟨h1,h⟩|⟨h1,h⟩
 ·obtain ⟨r1,h2,h⟩:=Qae h
  rcases Qaf h with ⟨h3,h⟩|⟨h3,h⟩
  ·rcases Qaf h with ⟨h4,h⟩|⟨h4,h⟩
   ·obtain rfl:=Option.some.inj h
    exact gr 13 [] [cC (QbP h0),rp 3 (nF h1),cC (QbP h2),nF h1,nF h1,nF h3,bT h4]
   ·obtain ⟨r2,h5,h⟩:=Qae h
    rcases Qaf h with ⟨h6,h⟩|⟨h6,h⟩
    ·obtain ⟨r3,h7,h⟩:=Qae h
     obtain rfl:=Option.some.inj h
     exact gr 21 [] [cC (QbP h0),rp 3 (nF h1),cC (QbP h2),nF h1,nF h1,nF h3,bF h4,cC (QhL h5),nF h6,hH (.draw 8 []),cC (QiJ h7)]
    ·obtain rfl:=Option.some.inj h
     exact gr 20 [] [cC (QbP h0),rp 3 (nF h1),cC (QbP h2),nF h1,nF h1,nF h3,bF h4,cC (QhL h5),nT h6]
  ·obtain rfl:=Option.some.inj h
   exact gr 8 [] [cC (QbP h0),rp 3 (nF h1),cC (QbP h2),nF h1,nF h1,nT h3]
 ·obtain rfl:=Option.some.inj h
  exact gr 8 [] [cC (QbP h0),rp 5 (nT h1),tT]
theorem Qcu {p visits} {rv:Int} (h:Qe8 p visits = some rv):AFn Tryz.prog 150 [.agg (Qal.enc p),.one (lI visits)] [] (one (lI rv)) []:=by
 refine QaO Tryz.func150 (by kernel_rfl) (by kernel_rfl) (fun Γ=>?_)
 unfold Qe8 at h
 rcases Qaf h with ⟨h0,h⟩|⟨h0,h⟩
 ·obtain rfl:=Option.some.inj h
  exact gr 8 [] [bT h0]
 ·obtain ⟨x0,h1,h⟩:=Qae h
  obtain rfl:=Option.some.inj h
  exact gr 9 [] [bF h0,cE Qam.enc h1]
theorem QhQ {s0 arrive} {rv:Int × Int} (h:Qie s0 arrive = some rv):AFn Tryz.prog 151 [.agg (Qam.enc s0),.one (lI arrive)] [] (.tup [.one (lI rv.1),.one (lI rv.2)]) []:=by
 refine QaO Tryz.func151 (by kernel_rfl) (by kernel_rfl) (fun Γ=>?_)
 unfold Qie at h
 rcases Qaf h with ⟨h0,h⟩|⟨h0,h⟩
 ·obtain rfl:=Option.some.inj h
  exact gr 10 [] [bT h0]
 ·obtain rfl:=Option.some.inj h
  exact gr 11 [] [bF h0]
theorem Qb0 {s0} {rv:List Qai} (h:QbG s0 = some rv):AFn Tryz.prog 148 [.one (lL 4 s0 Qai.enc)] [] (one (lO 0 4 rv Qai.enc)) [oS 4 66 rv Qai.enc]:=by
 refine QaO Tryz.func148 (by kernel_rfl) (by kernel_rfl) (fun Γ=>?_)
 unfold QbG at h
 rcases Qaf h with ⟨h0,h⟩|⟨h0,h⟩
 ·obtain ⟨hx,h⟩:=Qmb h
  refine gn 5 [0,4] [] [hH (.skip)] (cf':=⟨[.c 13,.c 7],⟨8,[vL 0 4 s0 Qai.enc,(4,.boo)],[]⟩⟩) (Qo0 4 rfl ?_ ?_)
  ·replace h:=hx
   obtain rfl:=Option.some.inj h
   exact gr 3 [0] [tT,hW 3,hH (.adopt 2 4 66)]
  ·obtain ⟨h1,h⟩:=Qco h
   obtain rfl:=Option.some.inj h
   exact gr 4 [0] [fF,aN Qai.enc h1]
 ·obtain ⟨h2,h⟩:=Qco h
  obtain rfl:=Option.some.inj h
  exact gr 9 [0] [oO (neE Qai.enc h0),fF,hH (.bit false),aN Qai.enc h2]
def Qdk (Γ:Gam) (rv:Qac × Int) (cf:Cf):Prop:=Go Tryz.prog Tryz.f124 [] Γ (.tup [.agg [lI rv.1.ready,lI rv.1.since,.bool rv.1.sheet.rest_,lI rv.1.sheet.depart,lL 4 rv.1.sheet.times Qai.enc,lI rv.1.sheet.end_,lI rv.1.sheet.miles],.one (lI rv.2)]) [] cf
theorem QeC (Γ:Gam) (rv:Qac × Int) {p l depart since rest_1 depart1 r2 l2 ready end_} (h:Qc8 p l depart since rest_1 depart1 r2 l2 ready end_ = some rv):Qdk Γ rv ⟨[.c 32767],⟨163,[vP 4 0 25,vP 8 1 7,vP 12 2 7],[oX 25 133 (Qal.enc p),oX 7 137 [lI 0,lI 0,.bool false,lI 0,.nils,lI 0,lI 0],oX 7 137 [lI ready,lI (subK .i64 (addK .i64 since r2.1) depart),.bool rest_1,lI depart1,lO 3 4 l2 Qai.enc,lI end_,lI (addK .i64 l.sheet.miles r2.2.1)],oS 4 66 l2 Qai.enc]⟩⟩:=by
 unfold Qc8 at h
 rcases Qaf h with ⟨h15,h⟩|⟨h15,h⟩
 ·obtain rfl:=Option.some.inj h
  exact gr 6 [] [bT h15,hW 5,hH (.nilB 1 4 4)]
 ·obtain rfl:=Option.some.inj h
  exact gr 7 [] [bF h15,hW 6,hH (.frz 3),rp 3 (eL l2 Qai.enc)]
theorem QeB (Γ:Gam) (rv:Qac × Int) {p l done depart since l1 rest_1 depart1 to_} (h:Qc7 p l done depart since l1 rest_1 depart1 to_ = some rv):Qdk Γ rv ⟨[.c 1023],⟨163,[vI 2 done,vP 4 0 25,vP 8 1 7,vI 10 depart,vI 11 since,vP 12 2 7,vB 13 (eqI done (lenI p.stops)),vI 14 to_],[oX 25 133 (Qal.enc p),oX 7 137 [lI 0,lI 0,.bool false,lI 0,.nils,lI 0,lI 0],oX 7 137 [lI 0,lI 0,.bool rest_1,lI depart1,lO 3 4 l1 Qai.enc,lI l.sheet.end_,lI l.sheet.miles],oS 4 66 l1 Qai.enc]⟩⟩:=by
 unfold Qc7 at h
 obtain ⟨r1,h6,h⟩:=Qae h
 obtain ⟨r2,h7,h⟩:=Qae h
 rcases Qaf h with ⟨h8,h⟩|⟨h8,h⟩
 ·obtain rfl:=Option.some.inj h
  exact gr 8 [] [hH (.draw 19 []),cC (Qcu h6),cC (Qej h7),bT h8,hW 5,hH (.nilB 1 4 4)]
 ·rcases Qaf h with ⟨h9,h⟩|⟨h9,h⟩
  ·rcases Qaf h with ⟨h10,h⟩|⟨h10,h⟩
   ·obtain rfl:=Option.some.inj h
    exact gr 21 [] [hH (.draw 19 []),cC (Qcu h6),cC (Qej h7),bF h8,bT h9,bT h10,hW 5,hH (.nilB 1 4 4)]
   ·exact gn 23 [4,8,12] [0,1,2,3] [hH (.draw 19 []),cC (Qcu h6),cC (Qej h7),bF h8,bT h9,bF h10] (QeC Γ rv h)
  ·obtain ⟨x2,h11,h⟩:=Qae h
   obtain ⟨r3,h12,h⟩:=Qae h
   rcases Qaf h with ⟨h13,h⟩|⟨h13,h⟩
   ·obtain rfl:=Option.some.inj h
    exact gr 23 [] [hH (.draw 19 []),cC (Qcu h6),cC (Qej h7),bF h8,bF h9,cE Qam.enc h11,cC (QhQ h12),bT h13,hW 5,hH (.nilB 1 4 4)]
   ·obtain ⟨h14,h⟩:=Qco h
    exact gn 25 [4,8,12] [0,1,2,5] [hH (.draw 19 []),cC (Qcu h6),cC (Qej h7),bF h8,bF h9,cE Qam.enc h11,cC (QhQ h12),bF h13,cE Qam.enc h11,oO (Eq.refl ([(Qai.mk r2.1 r3.1 0 false)].map Qai.enc).length),aO Qai.enc h14] (QeC Γ rv h)
theorem QeA (Γ:Gam) (rv:Qac × Int) {p l done depart since l1 rest_1 depart1} (h:Qc6 p l done depart since l1 rest_1 depart1 = some rv):Qdk Γ rv ⟨[.c 127],⟨163,[vI 2 done,vP 4 0 25,vP 8 1 7,vI 10 depart,vI 11 since,vP 12 2 7],[oX 25 133 (Qal.enc p),oX 7 137 [lI 0,lI 0,.bool false,lI 0,.nils,lI 0,lI 0],oX 7 137 [lI 0,lI 0,.bool rest_1,lI depart1,lO 3 4 l1 Qai.enc,lI l.sheet.end_,lI l.sheet.miles],oS 4 66 l1 Qai.enc]⟩⟩:=by
 unfold Qc6 at h
 rcases Qaf h with ⟨h4,h⟩|⟨h4,h⟩
 ·exact gn 9 [2,4,8,10,11,12,13,14] [0,1,2,3] [nL Qam.enc p.stops,nF h4] (QeB Γ rv h)
 ·obtain ⟨x1,h5,h⟩:=Qae h
  exact gn 9 [2,4,8,10,11,12,13,14] [0,1,2,3] [nL Qam.enc p.stops,nT h4,cE Qam.enc h5] (QeB Γ rv h)
theorem Qez (Γ:Gam) (rv:Qac × Int) {p l done rest_ depart since} (h:Qc5 p l done rest_ depart since = some rv):Qdk Γ rv ⟨[.c 15],⟨163,[vI 2 done,vB 3 rest_,vP 4 0 25,vP 5 1 7,vP 8 2 7,vI 10 depart,vI 11 since],[oX 25 133 (Qal.enc p),oX 7 137 (Qac.enc l),oX 7 137 [lI 0,lI 0,.bool false,lI 0,.nils,lI 0,lI 0]]⟩⟩:=by
 unfold Qc5 at h
 obtain ⟨r,h1,h⟩:=Qae h
 rcases Qaf h with ⟨h2,h⟩|⟨h2,h⟩
 ·exact gn 11 [2,4,8,10,11,12] [0,2,3,4] [cC (Qb0 h1),bT h2] (QeA Γ rv h)
 ·obtain ⟨x0,h3,h⟩:=Qae h
  exact gn 11 [2,4,8,10,11,12] [0,2,3,4] [cC (Qb0 h1),bF h2,oO (getLo h3),oO (getHi Qai.enc h3),rE Qai.enc h3,hH (.rows ((setI r (subK .i64 done 1) (Qai.mk x0.arrive x0.begin x0.depart rest_)).map Qai.enc)),hH (.relen 4 ((setI r (subK .i64 done 1) (Qai.mk x0.arrive x0.begin x0.depart rest_)).map Qai.enc).length),oO (setM Qai.enc r (subK .i64 done 1) (Qai.mk x0.arrive x0.begin x0.depart rest_)),rp 3 (oO (Qnt Qai.enc r (subK .i64 done 1) (Qai.mk x0.arrive x0.begin x0.depart rest_))),oO (getLo (Qoh h3 (Qai.mk x0.arrive x0.begin x0.depart rest_))),oO (getHi Qai.enc (Qoh h3 (Qai.mk x0.arrive x0.begin x0.depart rest_))),rE Qai.enc (Qoh h3 (Qai.mk x0.arrive x0.begin x0.depart rest_)),hH (.rows ((setI (setI r (subK .i64 done 1) (Qai.mk x0.arrive x0.begin x0.depart rest_)) (subK .i64 done 1) (Qai.mk x0.arrive x0.begin depart rest_)).map Qai.enc)),hH (.relen 4 ((setI (setI r (subK .i64 done 1) (Qai.mk x0.arrive x0.begin x0.depart rest_)) (subK .i64 done 1) (Qai.mk x0.arrive x0.begin depart rest_)).map Qai.enc).length),oO (setM Qai.enc (setI r (subK .i64 done 1) (Qai.mk x0.arrive x0.begin x0.depart rest_)) (subK .i64 done 1) (Qai.mk x0.arrive x0.begin depart rest_)),rp 4 (oO (Qnt Qai.enc (setI r (subK .i64 done 1) (Qai.mk x0.arrive x0.begin x0.depart rest_)) (subK .i64 done 1) (Qai.mk x0.arrive x0.begin depart rest_)))] (QeA Γ rv h)
theorem QcB {p l done rest_} {rv:Qac × Int} (h:QdY p l done rest_ = some rv):AFn Tryz.prog 124 [.agg (Qal.enc p),.agg (Qac.enc l),.one (lI done),.one (.bool rest_)] [] (.tup [.agg [lI rv.1.ready,lI rv.1.since,.bool rv.1.sheet.rest_,lI rv.1.sheet.depart,lL 4 rv.1.sheet.times Qai.enc,lI rv.1.sheet.end_,lI rv.1.sheet.miles],.one (lI rv.2)]) []:=by
 refine QaO Tryz.func124 (by kernel_rfl) (by kernel_rfl) (fun Γ=>?_)
 unfold QdY at h
 rcases Qaf h with ⟨h0,h⟩|⟨h0,h⟩
 ·exact gn 11 [2,3,4,5,8,10,11] [0,1,2] [hH (.draw 6 []),bT h0] (Qez Γ rv h)
 ·exact gn 9 [2,3,4,5,8,10,11] [0,1,2] [hH (.draw 6 []),bF h0] (Qez Γ rv h)
theorem QhV {l m} {rv:Bool} (h:Qel l m = some rv):AFn Tryz.prog 127 [.agg (Qac.enc l),.agg (Qac.enc m)] [] (one (.bool rv)) []:=by
 refine QaO Tryz.func127 (by kernel_rfl) (by kernel_rfl) (fun Γ=>?_)
 unfold Qel at h
 obtain rfl:=Option.some.inj h
 exact gr 4 [] [rp 6 hP,rp 4 (oI ((eqI l.ready m.ready) = true)),oR True ((eqI l.ready m.ready) = true)]
theorem Qe5 {m c} {rv:Bool} (h:Qem m c = some rv):AFn Tryz.prog 126 [.agg (Qac.enc m),.one (.ip (Qac.enc c) 0)] [] (one (.bool rv)) []:=by
 refine QaO Tryz.func126 (by kernel_rfl) (by kernel_rfl) (fun Γ=>?_)
 unfold Qem at h
 obtain ⟨r,h0,h⟩:=Qae h
 obtain rfl:=Option.some.inj h
 exact gr 4 [] [cC (QhV h0)]
def Qbu (Γ:Gam) (rv:Int) (cf:Cf):Prop:=Go Tryz.prog Tryz.f152 [] Γ (one (lI rv)) [] cf
def Qbg (Γ:Gam) (rv:Int) (s0:List Qac) (c:Qac) (v:Int):Prop:=Qbu Γ rv ⟨[.c 52,.l 52,.b 0,.c 7],⟨19,[vL 0 7 s0 Qac.enc,(1,one (.fn (.func 126) [.ip (Qac.enc c) 0])),vI 7 (lenI s0),vI 8 v],[]⟩⟩
def Qbe (Γ:Gam) (rv:Int) (s0:List Qac) (c:Qac):Prop:=Qbu Γ rv ⟨[.c 7],⟨19,[],[]⟩⟩
theorem Qb6 (Γ:Gam) (rv:Int) {s0 c} {s:Int} {e:(Unit) ⊕ (Int)} (h:loopF (fun s=>QaB s0 c s) s = some e) (hD:sel e (fun e=>Qbe Γ rv s0 c) (fun e=>e = rv)):Qbg Γ rv s0 c s:=by
 refine QaL (C:=fun (s:Int)=>Qbg Γ rv s0 c s) (D:=fun (e:(Unit) ⊕ (Int))=>sel e (fun e=>Qbe Γ rv s0 c) (fun e=>e = rv)) ?_ h hD
 clear h hD s e
 intro v z_ h hI hE
 replace h:QaB s0 c v = _:=h
 unfold QaB at h
 rcases Qaf h with ⟨h0,h⟩|⟨h0,h⟩
 ·obtain ⟨x0,h1,h⟩:=Qae h
  obtain ⟨r,h2,h⟩:=Qae h
  rcases Qaf h with ⟨h3,h⟩|⟨h3,h⟩
  ·obtain rfl:=(hE _ (oJ h):_ = rv)
   exact gr 14 [] [bT h0,cE Qac.enc h1,cC (Qe5 h2),bT h3]
  ·exact gn 16 [0,1,7,8] [] [bT h0,cE Qac.enc h1,cC (Qe5 h2),bF h3] (hI _ (oJ h))
 ·exact gn 5 [] [] [bF h0] (hE _ (oJ h))
theorem Qci {s0 c} {rv:Int} (h:QaV s0 c = some rv):AFn Tryz.prog 152 [.one (lL 7 s0 Qac.enc),.one (.fn (.func 126) [.ip (Qac.enc c) 0])] [] (one (lI rv)) []:=by
 refine QaO Tryz.func152 (by kernel_rfl) (by kernel_rfl) (fun Γ=>?_)
 unfold QaV at h
 obtain ⟨e0,h4,h⟩:=Qae h
 refine gn 7 [0,1,7,8] [] [nL Qac.enc s0] (Qb6 Γ rv h4 ?_)
 rcases e0 with e0|e0
 ·replace h:(some (-1):Option Int) = some _:=h
  obtain rfl:=Option.some.inj h
  exact gr 2 [] []
 ·obtain ⟨r1,rfl⟩:∃ x,x = e0:=⟨_,rfl⟩
  replace h:(some r1:Option Int) = some _:=h
  exact Option.some.inj h
theorem Qbd {s0 c} {rv:Bool} (h:QaP s0 c = some rv):AFn Tryz.prog 125 [.one (lL 7 s0 Qac.enc),.one (.fn (.func 126) [.ip (Qac.enc c) 0])] [] (one (.bool rv)) []:=by
 refine QaO Tryz.func125 (by kernel_rfl) (by kernel_rfl) (fun Γ=>?_)
 unfold QaP at h
 obtain ⟨r,h0,h⟩:=Qae h
 obtain rfl:=Option.some.inj h
 exact gr 4 [] [cC (Qci h0)]
def QcH (Γ:Gam) (rv:List Qac) (cf:Cf):Prop:=Go Tryz.prog Tryz.f80 [] Γ (one (lL 7 rv Qac.enc)) [] cf
def Qe7 (Γ:Gam) (rv:List Qac) (p:Qal) (l:List Qac) (done:Int) (choices:List Bool) (v:Int) (x0:Qac) (l3:List Qac) (v1:Int):Prop:=QcH Γ rv ⟨[.c 128204,.l 128204,.b 2,.b 1,.c 4007,.l 500,.b 0,.c 63],⟨64,[vI 2 done,vP 3 0 25,vL 7 1 choices QaI,vO 8 1 7 l3 Qac.enc,vP 10 2 7,vL 29 7 l Qac.enc,vI 30 (lenI l),vI 31 v,vL 35 1 choices QaI,vI 36 (lenI choices),vI 37 v1],[oX 25 133 (Qal.enc p),oS 7 137 l3 Qac.enc,oX 7 137 (Qac.enc x0)]⟩⟩
def Qey (Γ:Gam) (rv:List Qac) (p:Qal) (l:List Qac) (done:Int) (choices:List Bool) (v:Int) (x0:Qac) (l4:List Qac):Prop:=QcH Γ rv ⟨[.b 1,.c 4007,.l 500,.b 0,.c 63],⟨64,[vI 2 done,vP 3 0 25,vL 7 1 choices QaI,vO 8 1 7 l4 Qac.enc,vL 29 7 l Qac.enc,vI 30 (lenI l),vI 31 v],[oX 25 133 (Qal.enc p),oS 7 137 l4 Qac.enc]⟩⟩
def Qe6 (Γ:Gam) (rv:List Qac) (p:Qal) (l:List Qac) (done:Int) (choices:List Bool) (l2:List Qac) (v:Int):Prop:=QcH Γ rv ⟨[.c 500,.l 500,.b 0,.c 63],⟨64,[vI 2 done,vP 3 0 25,vL 7 1 choices QaI,vO 8 1 7 l2 Qac.enc,vL 29 7 l Qac.enc,vI 30 (lenI l),vI 31 v],[oX 25 133 (Qal.enc p),oS 7 137 l2 Qac.enc]⟩⟩
def Qex (Γ:Gam) (rv:List Qac) (p:Qal) (l:List Qac) (done:Int) (choices:List Bool) (l5:List Qac):Prop:=QcH Γ rv ⟨[.c 63],⟨64,[vO 8 0 7 l5 Qac.enc],[oS 7 137 l5 Qac.enc]⟩⟩
theorem Qhz (Γ:Gam) (rv:List Qac) {p l done choices v x0} {s:List Qac × Int} {e:List Qac} (h:loopF (fun s=>Qc4 p l done choices v x0 s.1 s.2) s = some e) (hD:Qey Γ rv p l done choices v x0 e):Qe7 Γ rv p l done choices v x0 s.1 s.2:=by
 refine QaL (C:=fun (s:List Qac × Int)=>Qe7 Γ rv p l done choices v x0 s.1 s.2) (D:=fun (e:List Qac)=>Qey Γ rv p l done choices v x0 e) ?_ h hD
 clear h hD s e
 rintro ⟨l3,v1⟩ z_ h hI hE
 replace h:Qc4 p l done choices v x0 l3 v1 = _:=h
 unfold Qc4 at h
 rcases Qaf h with ⟨h4,h⟩|⟨h4,h⟩
 ·obtain ⟨x1,h5,h⟩:=Qae h
  obtain ⟨r,h6,h⟩:=Qae h
  rcases Qaf h with ⟨h7,h⟩|⟨h7,h⟩
  ·obtain ⟨r1,h8,h⟩:=Qae h
   rcases Qaf h with ⟨h9,h⟩|⟨h9,h⟩
   ·exact gn 18 [2,3,7,8,10,29,30,31,35,36,37] [0,1,2] [bT h4,cE QaI h5,cC (QcB h6),rp 3 (bT h7),eL l3 Qac.enc,cC (Qbd h8),bT h7,bT h7,nF h9] (hI _ (oJ h))
   ·obtain ⟨h10,h⟩:=Qco h
    exact gn 18 [2,3,7,8,10,29,30,31,35,36,37] [0,5,2] [bT h4,cE QaI h5,cC (QcB h6),rp 3 (bT h7),eL l3 Qac.enc,cC (Qbd h8),bT h7,bT h7,nT h9,oO (Eq.refl ([r.1].map Qac.enc).length),aO Qac.enc h10] (hI _ (oJ h))
  ·exact gn 18 [2,3,7,8,10,29,30,31,35,36,37] [0,1,2] [bT h4,cE QaI h5,cC (QcB h6),rp 5 (bF h7),fF] (hI _ (oJ h))
 ·exact gn 5 [2,3,7,8,29,30,31] [0,1] [bF h4] (hE _ (oJ h))
theorem Qhy (Γ:Gam) (rv:List Qac) {p l done choices} {s:List Qac × Int} {e:List Qac} (h:loopF (fun s=>Qc3 p l done choices s.1 s.2) s = some e) (hD:Qex Γ rv p l done choices e):Qe6 Γ rv p l done choices s.1 s.2:=by
 refine QaL (C:=fun (s:List Qac × Int)=>Qe6 Γ rv p l done choices s.1 s.2) (D:=fun (e:List Qac)=>Qex Γ rv p l done choices e) ?_ h hD
 clear h hD s e
 rintro ⟨l2,v⟩ z_ h hI hE
 replace h:Qc3 p l done choices l2 v = _:=h
 unfold Qc3 at h
 rcases Qaf h with ⟨h2,h⟩|⟨h2,h⟩
 ·obtain ⟨x0,h3,h⟩:=Qae h
  obtain ⟨e0,h11,h⟩:=Qae h
  refine gn 13 [2,3,7,8,10,29,30,31,35,36,37] [0,1,2] [bT h2,cE Qac.enc h3,nL QaI choices] (Qhz Γ rv h11 ?_)
  obtain ⟨l4,rfl⟩:∃ x,x = e0:=⟨_,rfl⟩
  replace h:(some (.inl (l4,(addK .i64 v 1))):Option ((List Qac × Int) ⊕ (List Qac))) = some _:=h
  exact gn 3 [2,3,7,8,29,30,31] [0,1] [] (hI _ (oJ h))
 ·exact gn 5 [8] [1] [bF h2] (hE _ (oJ h))
theorem Qew (Γ:Gam) (rv:List Qac) {p l done choices} (h:Qc2 p l done choices = some rv):QcH Γ rv ⟨[.c 15],⟨64,[vL 1 7 l Qac.enc,vI 2 done,vP 3 0 25,vL 7 1 choices QaI],[oX 25 133 (Qal.enc p)]⟩⟩:=by
 unfold Qc2 at h
 obtain ⟨e1,h12,h⟩:=Qae h
 refine gn 7 [2,3,7,8,29,30,31] [0,1] [nL Qac.enc l,hW 3,hH (.adopt 8 7 137)] (Qhy Γ rv h12 ?_)
 obtain ⟨l5,rfl⟩:∃ x,x = e1:=⟨_,rfl⟩
 replace h:(some l5:Option (List Qac)) = some _:=h
 obtain rfl:=Option.some.inj h
 exact gr 2 [] [hW 4,hH (.frz 0),rp 3 (eL l5 Qac.enc)]
theorem QiD {p l done} {rv:List Qac} (h:QfT p l done = some rv):AFn Tryz.prog 80 [.agg (Qal.enc p),.one (lL 7 l Qac.enc),.one (lI done)] [] (one (lL 7 rv Qac.enc)) []:=by
 refine QaO Tryz.func80 (by kernel_rfl) (by kernel_rfl) (fun Γ=>?_)
 unfold QfT at h
 rcases Qaf h with ⟨h0,h⟩|⟨h0,h⟩
 ·obtain ⟨l1,h1,h⟩:=Qae h
  exact gn 9 [1,2,3,7] [0] [nL QaI p.r.rests,bT h0,hH (.rows (l1.map QaI)),oO (sl1 h1),oO (sl2 h1),oO (sl3 QaI h1),oO (Int.le_refl (addK .i64 done 1)),oO (sl3 QaI h1),oO (sl6 QaI h1)] (Qew Γ rv h)
 ·exact gn 9 [1,2,3,7] [0] [nL QaI p.r.rests,bF h0,hW 1,hH (.frz 1),rp 2 (oO (Eq.refl ([false,true].map QaI).length))] (Qew Γ rv h)
def QgZ (Γ:Gam) (rv:Qag × Int) (cf:Cf):Prop:=Go Tryz.prog Tryz.f81 [] Γ (.tup [.agg [.bool rv.1.rest_,lI rv.1.depart,lL 4 rv.1.times Qai.enc,lI rv.1.end_,lI rv.1.miles],.one (lI rv.2)]) [] cf
def Qfx (Γ:Gam) (rv:Qag × Int) (p:Qal) (rests:List Bool) (r:Qac) (rest_:Int) (x0:Qac) (v:Int):Prop:=QgZ Γ rv ⟨[.c 116,.l 116,.b 0,.c 15],⟨36,[vP 2 0 25,vP 4 1 5,vP 6 2 7,vL 13 1 rests QaI,vI 14 (lenI rests),vI 15 v],[oX 25 133 [lL 1 p.x.net.places e_str,lL 6 p.x.net.arcs Qaw.enc,lL 14 p.x.types Qan.enc,lL 16 p.x.orders Qap.enc,lL 2 p.x.apart QcQ.enc,lL 2 p.x.before QcQ.enc,.str p.t.name,lI p.t.count,lI p.t.from_,lI p.t.to_,lL 1 p.t.cap e_i64,lI p.t.skills,lI p.t.profile,lI p.t.open_,lI p.t.close,lI p.t.drive,lI rest_,lI p.t.fixed,lI p.t.perMile,lI p.t.perTick,lI p.r.type_,lI p.r.start,lL 1 p.r.rests QaI,lL 2 p.r.visits Qaa.enc,lL 4 p.stops Qam.enc],oX 5 60 [.bool false,lI 0,.nils,lI 0,lI 0],oX 7 137 (Qac.enc x0)]⟩⟩
def Qe9 (Γ:Gam) (rv:Qag × Int) (p:Qal) (rests:List Bool) (r:Qac) (x2:Qac):Prop:=QgZ Γ rv ⟨[.c 15],⟨36,[vP 4 0 5,vP 6 1 7],[oX 5 60 [.bool false,lI 0,.nils,lI 0,lI 0],oX 7 137 (Qac.enc x2)]⟩⟩
theorem QhW (Γ:Gam) (rv:Qag × Int) {p rests r} {s:Int × Qac × Int} {e:(Qac) ⊕ (Qag × Int)} (h:loopF (fun s=>Qdl p rests r s.1 s.2.1 s.2.2) s = some e) (hD:sel e (fun e=>Qe9 Γ rv p rests r e) (fun e=>e = rv)):Qfx Γ rv p rests r s.1 s.2.1 s.2.2:=by
 refine QaL (C:=fun (s:Int × Qac × Int)=>Qfx Γ rv p rests r s.1 s.2.1 s.2.2) (D:=fun (e:(Qac) ⊕ (Qag × Int))=>sel e (fun e=>Qe9 Γ rv p rests r e) (fun e=>e = rv)) ?_ h hD
 clear h hD s e
 rintro ⟨rest_,x0,v⟩ z_ h hI hE
 replace h:Qdl p rests r rest_ x0 v = _:=h
 unfold Qdl at h
 rcases Qaf h with ⟨h1,h⟩|⟨h1,h⟩
 ·obtain ⟨x1,h2,h⟩:=Qae h
  obtain ⟨r1,h3,h⟩:=Qae h
  rcases Qaf h with ⟨h4,h⟩|⟨h4,h⟩
  ·obtain rfl:=(hE _ (oJ h):_ = rv)
   exact gr 17 [] [bT h1,cE QaI h2,cC (QcB h3),bT h4,hW 6,hH (.nilB 1 2 4)]
  ·exact gn 20 [2,4,6,13,14,15] [0,1,2] [bT h1,cE QaI h2,cC (QcB h3),bF h4] (hI _ (oJ h))
 ·exact gn 5 [4,6] [1,2] [bF h1] (hE _ (oJ h))
theorem Qi9 {p rests} {rv:Qag × Int} (h:QeT p rests = some rv):AFn Tryz.prog 81 [.agg (Qal.enc p),.one (lL 1 rests QaI)] [] (.tup [.agg [.bool rv.1.rest_,lI rv.1.depart,lL 4 rv.1.times Qai.enc,lI rv.1.end_,lI rv.1.miles],.one (lI rv.2)]) []:=by
 refine QaO Tryz.func81 (by kernel_rfl) (by kernel_rfl) (fun Γ=>?_)
 unfold QeT at h
 obtain ⟨r,h0,h⟩:=Qae h
 obtain ⟨e0,h5,h⟩:=Qae h
 refine gn 9 [2,4,6,13,14,15] [0,1,2] [cC (Qfw h0),nL QaI rests] (QhW Γ rv h5 ?_)
 rcases e0 with e0|e0
 ·obtain ⟨x2,rfl⟩:∃ x,x = e0:=⟨_,rfl⟩
  replace h:(some (x2.sheet,0):Option (Qag × Int)) = some _:=h
  obtain rfl:=Option.some.inj h
  exact gr 2 [] []
 ·obtain ⟨r2,rfl⟩:∃ x,x = e0:=⟨_,rfl⟩
  replace h:(some r2:Option (Qag × Int)) = some _:=h
  exact Option.some.inj h
def Qgn (Γ:Gam) (rv:Qag × Int) (cf:Cf):Prop:=Go Tryz.prog Tryz.f42 [] Γ (.tup [.agg [.bool rv.1.rest_,lI rv.1.depart,lL 4 rv.1.times Qai.enc,lI rv.1.end_,lI rv.1.miles],.one (lI rv.2)]) [] cf
def QhH (Γ:Gam) (rv:Qag × Int) (r:Qab) (r1:Qal × Bool) (l:List Qac) (v:Int):Prop:=Qgn Γ rv ⟨[.c 1012,.l 1012,.b 0,.c 127],⟨82,[vP 3 0 4,vP 4 1 5,vP 6 2 25,vI 8 (addK .i64 (lenI r.visits) 1),vL 9 7 l Qac.enc,vI 38 (addK .i64 (lenI r.visits) 1),vI 39 v],[oX 4 34 (Qab.enc r),oX 5 60 [.bool false,lI 0,.nils,lI 0,lI 0],oX 25 133 (Qal.enc r1.1)]⟩⟩
def QgW (Γ:Gam) (rv:Qag × Int) (r:Qab) (r1:Qal × Bool) (l1:List Qac):Prop:=Qgn Γ rv ⟨[.c 127],⟨82,[vP 3 0 4,vP 4 1 5,vP 6 2 25,vI 8 (addK .i64 (lenI r.visits) 1),vL 9 7 l1 Qac.enc],[oX 4 34 (Qab.enc r),oX 5 60 [.bool false,lI 0,.nils,lI 0,lI 0],oX 25 133 (Qal.enc r1.1)]⟩⟩
def QhI (Γ:Gam) (rv:Qag × Int) (l3:List Qac) (x2:Qac) (v1:Int):Prop:=Qgn Γ rv ⟨[.c 8180,.l 8180,.b 2,.c 1023],⟨82,[vP 4 0 5,vP 12 1 7,vL 65 7 l3 Qac.enc,vI 66 (lenI l3),vI 67 v1],[oX 5 60 [.bool false,lI 0,.nils,lI 0,lI 0],oX 7 137 (Qac.enc x2)]⟩⟩
def QgX (Γ:Gam) (rv:Qag × Int) (l3:List Qac) (x4:Qac):Prop:=Qgn Γ rv ⟨[.c 1023],⟨82,[vP 4 0 5,vP 12 1 7],[oX 5 60 [.bool false,lI 0,.nils,lI 0,lI 0],oX 7 137 (Qac.enc x4)]⟩⟩
theorem Qjo (Γ:Gam) (rv:Qag × Int) {r r1} {s:List Qac × Int} {e:List Qac} (h:loopF (fun s=>Qfu r r1 s.1 s.2) s = some e) (hD:QgW Γ rv r r1 e):QhH Γ rv r r1 s.1 s.2:=by
 refine QaL (C:=fun (s:List Qac × Int)=>QhH Γ rv r r1 s.1 s.2) (D:=fun (e:List Qac)=>QgW Γ rv r r1 e) ?_ h hD
 clear h hD s e
 rintro ⟨l,v⟩ z_ h hI hE
 replace h:Qfu r r1 l v = _:=h
 unfold Qfu at h
 rcases Qaf h with ⟨h3,h⟩|⟨h3,h⟩
 ·obtain ⟨r3,h4,h⟩:=Qae h
  exact gn 13 [3,4,6,8,9,38,39] [0,1,2] [bT h3,cC (QiD h4)] (hI _ (oJ h))
 ·exact gn 5 [3,4,6,8,9] [0,1,2] [bF h3] (hE _ (oJ h))
theorem Qjp (Γ:Gam) (rv:Qag × Int) {l3} {s:Qac × Int} {e:Qac} (h:loopF (fun s=>Qd8 l3 s.1 s.2) s = some e) (hD:QgX Γ rv l3 e):QhI Γ rv l3 s.1 s.2:=by
 refine QaL (C:=fun (s:Qac × Int)=>QhI Γ rv l3 s.1 s.2) (D:=fun (e:Qac)=>QgX Γ rv l3 e) ?_ h hD
 clear h hD s e
 rintro ⟨x2,v1⟩ z_ h hI hE
 replace h:Qd8 l3 x2 v1 = _:=h
 unfold Qd8 at h
 rcases Qaf h with ⟨h11,h⟩|⟨h11,h⟩
 ·obtain ⟨x3,h12,h⟩:=Qae h
  rcases Qaf h with ⟨h13,h⟩|⟨h13,h⟩
  ·exact gn 16 [4,12,65,66,67] [0,1] [bT h11,cE Qac.enc h12,bT h13] (hI _ (oJ h))
  ·exact gn 16 [4,12,65,66,67] [0,1] [bT h11,cE Qac.enc h12,bF h13] (hI _ (oJ h))
 ·exact gn 5 [4,12] [0,1] [bF h11] (hE _ (oJ h))
theorem Qi0 {x0 r} {rv:Qag × Int} (h:Qjn x0 r = some rv):AFn Tryz.prog 42 [.agg (Qad.enc x0),.agg (Qab.enc r)] [] (.tup [.agg [.bool rv.1.rest_,lI rv.1.depart,lL 4 rv.1.times Qai.enc,lI rv.1.end_,lI rv.1.miles],.one (lI rv.2)]) []:=by
 refine QaO Tryz.func42 (by kernel_rfl) (by kernel_rfl) (fun Γ=>?_)
 unfold Qjn at h
 obtain ⟨r1,h0,h⟩:=Qae h
 rcases Qaf h with ⟨h1,h⟩|⟨h1,h⟩
 ·obtain rfl:=Option.some.inj h
  exact gr 12 [] [cC (Qi1 h0),nL Qaa.enc r.visits,hP,hP,hP,rp 2 (oI ((!r1.2) = false)),nL QaI r.rests,hP,hP,hP,rp 2 (oI ((!r1.2) = false)),oR True ((!r1.2) = false),bT h1,hW 5,hH (.nilB 2 2 4)]
 ·obtain ⟨r2,h2,h⟩:=Qae h
  obtain ⟨e0,h5,h⟩:=Qae h
  refine gn 18 [3,4,6,8,9,38,39] [1,2,3] [cC (Qi1 h0),nL Qaa.enc r.visits,hP,hP,hP,rp 2 (oI ((!r1.2) = false)),nL QaI r.rests,hP,hP,hP,rp 2 (oI ((!r1.2) = false)),oR True ((!r1.2) = false),bF h1,cC (Qfw h2),hW 9,hH (.frz 4),rp 2 (oO (Eq.refl ([r2].map Qac.enc).length))] (Qjo Γ rv h5 ?_)
  obtain ⟨l1,rfl⟩:∃ x,x = e0:=⟨_,rfl⟩
  replace h:(br (eqI (lenI l1) 0) (bnd (mkI (addK .i64 (lenI r.visits) 1) (addK .i64 (lenI r.visits) 1) 1 false) fun l2=>bnd (QeT r1.1 (cpyL l2 r.rests)) fun r4=>some (r4.1,r4.2)) (bnd (getI l1 0) fun x1=>bnd (slcI l1 1 (lenI l1)) fun l3=>bnd (loopF (fun s=>Qd8 l3 s.1 s.2) (x1,0)) (fun x4=>some (x4.sheet,0))):Option (Qag × Int)) = some _:=h
  rcases Qaf h with ⟨h6,h⟩|⟨h6,h⟩
  ·obtain ⟨l2,h7,h⟩:=Qae h
   obtain ⟨r4,h8,h⟩:=Qae h
   obtain rfl:=Option.some.inj h
   exact gr 10 [] [nL Qac.enc l1,bT h6,hH (.cells [.bool false]),hH (.rows (l2.map QaI)),oO (mk1 h7),oO (mk2 h7),oO (mk3 h7),oO (mk4 h7),oO (mk5 QaI h7),cY QaI l2 r.rests,hH (.relen 3 ((cpyL l2 r.rests).map QaI).length),hW 4,hH (.frz 3),rp 3 (oO (Qpi QaI l2 r.rests)),rp 4 (oO (Eq.refl ((cpyL l2 r.rests).map QaI).length)),cC (Qi9 h8)]
  ·obtain ⟨x1,h9,h⟩:=Qae h
   obtain ⟨l3,h10,h⟩:=Qae h
   obtain ⟨e1,h14,h⟩:=Qae h
   refine gn 12 [4,12,65,66,67] [1,3] [nL Qac.enc l1,bF h6,cE Qac.enc h9,hH (.rows (l3.map Qac.enc)),oO (sl1 h10),oO (sl2h Qac.enc h10),rp 3 (oO (Int.le_refl ((l1.map Qac.enc).length:Int))),oO (sl6h Qac.enc h10),nL Qac.enc l3] (Qjp Γ rv h14 ?_)
   obtain ⟨x4,rfl⟩:∃ x,x = e1:=⟨_,rfl⟩
   replace h:(some (x4.sheet,0):Option (Qag × Int)) = some _:=h
   obtain rfl:=Option.some.inj h
   exact gr 2 [] []
theorem QdD {kind own} {rv:Bool} (h:QfE kind own = some rv):AFn Tryz.prog 82 [.one (lI kind),.one (lI own)] [] (one (.bool rv)) []:=by
 refine QaO Tryz.func82 (by kernel_rfl) (by kernel_rfl) (fun Γ=>?_)
 unfold QfE at h
 obtain rfl:=Option.some.inj h
 exact gr 4 [] [rp 4 hP,rp 2 (oI ((neI kind (-1)) = true)),oR True ((neI kind (-1)) = true)]
def Qhh (Γ:Gam) (rv:Qa2) (cf:Cf):Prop:=Go Tryz.prog Tryz.f43 [] Γ (gG [lI rv.cost,lI rv.moved,lI rv.other,lI rv.work]) [] cf
def Qff (Γ:Gam) (rv:Qa2) (x0:Qad) (r:Qab) (s0:Qag) (x1:Qan) (l:List (Int × Int)) (moved:Int) (other:Int) (v:Int):Prop:=Qhh Γ rv ⟨[.c 4084,.l 4084,.b 0,.c 511],⟨114,[vP 3 0 6,vP 4 1 4,vP 6 2 4,vP 10 3 4,(11,one (.mp 4)),vL 59 2 r.visits Qaa.enc,vI 60 (lenI r.visits),vI 61 v],[oX 6 30 (Qad.enc x0),oX 4 34 (Qab.enc r),oX 4 62 [lI 0,lI 0,lI 0,lI 0],oX 4 62 [lI (addK .i64 (addK .i64 x1.fixed (mulK .i64 x1.perMile s0.miles)) (mulK .i64 x1.perTick (subK .i64 s0.end_ x1.open_))),lI moved,lI other,lI (mulK .i64 (quoK .i64 (subK .i64 s0.end_ x1.open_) 64) (quoK .i64 (subK .i64 s0.end_ x1.open_) 64))],oM 142 l (mE lI lI)]⟩⟩
def Qeo (Γ:Gam) (rv:Qa2) (x0:Qad) (r:Qab) (s0:Qag) (x1:Qan) (moved2:Int) (other1:Int):Prop:=Qhh Γ rv ⟨[.c 511],⟨114,[vP 6 0 4,vP 10 1 4],[oX 4 62 [lI 0,lI 0,lI 0,lI 0],oX 4 62 [lI (addK .i64 (addK .i64 x1.fixed (mulK .i64 x1.perMile s0.miles)) (mulK .i64 x1.perTick (subK .i64 s0.end_ x1.open_))),lI moved2,lI other1,lI (mulK .i64 (quoK .i64 (subK .i64 s0.end_ x1.open_) 64) (quoK .i64 (subK .i64 s0.end_ x1.open_) 64))]]⟩⟩
theorem QgG (Γ:Gam) (rv:Qa2) {x0 r s0 x1 l other v x2 x3 moved1} {x:(List (Int × Int) × Int × Int × Int) ⊕ (Int × Int)} (h:QeU x0 r s0 x1 l other v x2 x3 moved1 = some x) (hI:∀ s:List (Int × Int) × Int × Int × Int,x = .inl s→Qff Γ rv x0 r s0 x1 s.1 s.2.1 s.2.2.1 s.2.2.2) (hE:∀ e:Int × Int,x = .inr e→Qeo Γ rv x0 r s0 x1 e.1 e.2):Qhh Γ rv ⟨[.c 2091423,.b 1,.c 32679,.l 4084,.b 0,.c 511],⟨114,[vP 3 0 6,vP 4 1 4,vP 6 2 4,vP 10 3 4,(11,one (.mp 4)),vP 14 5 16,vL 59 2 r.visits Qaa.enc,vI 60 (lenI r.visits),vI 61 v],[oX 6 30 (Qad.enc x0),oX 4 34 (Qab.enc r),oX 4 62 [lI 0,lI 0,lI 0,lI 0],oX 4 62 [lI (addK .i64 (addK .i64 x1.fixed (mulK .i64 x1.perMile s0.miles)) (mulK .i64 x1.perTick (subK .i64 s0.end_ x1.open_))),lI moved1,lI other,lI (mulK .i64 (quoK .i64 (subK .i64 s0.end_ x1.open_) 64) (quoK .i64 (subK .i64 s0.end_ x1.open_) 64))],oM 142 (mPut eqI l x2.order (addK .i64 (mGet eqI l x2.order 0) 1)) (mE lI lI),oX 16 105 (Qap.enc x3)]⟩⟩:=by
 unfold QeU at h
 obtain ⟨r2,h9,h⟩:=Qae h
 rcases Qaf h with ⟨h10,h⟩|⟨h10,h⟩
 ·exact gn 7 [3,4,6,10,11,59,60,61] [0,1,2,3,4] [cC (QdD h9),bT h10] (hI _ (oJ h))
 ·exact gn 7 [3,4,6,10,11,59,60,61] [0,1,2,3,4] [cC (QdD h9),bF h10] (hI _ (oJ h))
theorem Qja (Γ:Gam) (rv:Qa2) {x0 r s0 x1} {s:List (Int × Int) × Int × Int × Int} {e:Int × Int} (h:loopF (fun s=>QeV x0 r s0 x1 s.1 s.2.1 s.2.2.1 s.2.2.2) s = some e) (hD:Qeo Γ rv x0 r s0 x1 e.1 e.2):Qff Γ rv x0 r s0 x1 s.1 s.2.1 s.2.2.1 s.2.2.2:=by
 refine QaL (C:=fun (s:List (Int × Int) × Int × Int × Int)=>Qff Γ rv x0 r s0 x1 s.1 s.2.1 s.2.2.1 s.2.2.2) (D:=fun (e:Int × Int)=>Qeo Γ rv x0 r s0 x1 e.1 e.2) ?_ h hD
 clear h hD s e
 rintro ⟨l,moved,other,v⟩ z_ h hI hE
 replace h:QeV x0 r s0 x1 l moved other v = _:=h
 unfold QeV at h
 rcases Qaf h with ⟨h2,h⟩|⟨h2,h⟩
 ·obtain ⟨x2,h3,h⟩:=Qae h
  rcases Qaf h with ⟨h4,h⟩|⟨h4,h⟩
  ·exact gn 18 [3,4,6,10,11,59,60,61] [0,1,2,3,4] [bT h2,cE Qaa.enc h3,mG kqI lI l x2.order 0,mU kqI lI l x2.order (addK .i64 (mGet eqI l x2.order 0) 1),rp 5 hP,rp 3 (oI ((ltI x2.order 0) = false)),nL Qap.enc x0.orders,hP,hP,rp 2 (oI ((ltI x2.order 0) = false)),oR True ((ltI x2.order 0) = false),rp 6 (bT h4),tT] (hI _ (oJ h))
  ·rcases Qaf h with ⟨h5,h⟩|⟨h5,h⟩
   ·exact gn 18 [3,4,6,10,11,59,60,61] [0,1,2,3,4] [bT h2,cE Qaa.enc h3,mG kqI lI l x2.order 0,mU kqI lI l x2.order (addK .i64 (mGet eqI l x2.order 0) 1),rp 5 hP,rp 3 (oI ((ltI x2.order 0) = false)),nL Qap.enc x0.orders,hP,hP,rp 2 (oI ((ltI x2.order 0) = false)),oR True ((ltI x2.order 0) = false),rp 4 (bF h4),mG kqI lI (mPut eqI l x2.order (addK .i64 (mGet eqI l x2.order 0) 1)) x2.order 0,bF h4,bF h4,bT h5] (hI _ (oJ h))
   ·obtain ⟨x3,h6,h⟩:=Qae h
    obtain ⟨r1,h7,h⟩:=Qae h
    rcases Qaf h with ⟨h8,h⟩|⟨h8,h⟩
    ·exact gn 23 [3,4,6,10,11,14,59,60,61] [0,1,2,3,4,6] [bT h2,cE Qaa.enc h3,mG kqI lI l x2.order 0,mU kqI lI l x2.order (addK .i64 (mGet eqI l x2.order 0) 1),rp 5 hP,rp 3 (oI ((ltI x2.order 0) = false)),nL Qap.enc x0.orders,hP,hP,rp 2 (oI ((ltI x2.order 0) = false)),oR True ((ltI x2.order 0) = false),rp 4 (bF h4),mG kqI lI (mPut eqI l x2.order (addK .i64 (mGet eqI l x2.order 0) 1)) x2.order 0,bF h4,bF h4,bF h5,cE Qap.enc h6,cC (QdD h7),bT h8] (QgG Γ rv h hI hE)
    ·exact gn 23 [3,4,6,10,11,14,59,60,61] [0,1,2,3,4,6] [bT h2,cE Qaa.enc h3,mG kqI lI l x2.order 0,mU kqI lI l x2.order (addK .i64 (mGet eqI l x2.order 0) 1),rp 5 hP,rp 3 (oI ((ltI x2.order 0) = false)),nL Qap.enc x0.orders,hP,hP,rp 2 (oI ((ltI x2.order 0) = false)),oR True ((ltI x2.order 0) = false),rp 4 (bF h4),mG kqI lI (mPut eqI l x2.order (addK .i64 (mGet eqI l x2.order 0) 1)) x2.order 0,bF h4,bF h4,bF h5,cE Qap.enc h6,cC (QdD h7),bF h8] (QgG Γ rv h hI hE)
 ·exact gn 5 [6,10] [2,3] [bF h2] (hE _ (oJ h))
theorem Qku {x0 r s0} {rv:Qa2} (h:QiO x0 r s0 = some rv):AFn Tryz.prog 43 [.agg (Qad.enc x0),.agg (Qab.enc r),.agg (Qag.enc s0)] [] (gG [lI rv.cost,lI rv.moved,lI rv.other,lI rv.work]) []:=by
 refine QaO Tryz.func43 (by kernel_rfl) (by kernel_rfl) (fun Γ=>?_)
 unfold QiO at h
 rcases Qaf h with ⟨h0,h⟩|⟨h0,h⟩
 ·obtain rfl:=Option.some.inj h
  exact gr 8 [] [rp 5 hP,rp 3 (oI ((ltI r.type_ 0) = false)),nL Qan.enc x0.types,hP,hP,rp 2 (oI ((ltI r.type_ 0) = false)),oR True ((ltI r.type_ 0) = false),bT h0]
 ·obtain ⟨x1,h1,h⟩:=Qae h
  obtain ⟨e0,h11,h⟩:=Qae h
  refine gn 22 [3,4,6,10,11,59,60,61] [0,1,3,5,6] [rp 5 hP,rp 3 (oI ((ltI r.type_ 0) = false)),nL Qan.enc x0.types,hP,hP,rp 2 (oI ((ltI r.type_ 0) = false)),oR True ((ltI r.type_ 0) = false),bF h0,cE Qan.enc h1,oO (oA (n:=64)),nL Qaa.enc r.visits] (Qja Γ rv h11 ?_)
  obtain ⟨moved2,other1⟩:=e0
  replace h:(some (Qa2.mk (addK .i64 (addK .i64 x1.fixed (mulK .i64 x1.perMile s0.miles)) (mulK .i64 x1.perTick (subK .i64 s0.end_ x1.open_))) moved2 other1 (mulK .i64 (quoK .i64 (subK .i64 s0.end_ x1.open_) 64) (quoK .i64 (subK .i64 s0.end_ x1.open_) 64))):Option Qa2) = some _:=h
  obtain rfl:=Option.some.inj h
  exact gr 2 [] []
theorem QgH {x0 r} {rv:Qag × Qa2 × Int} (h:Qgp x0 r = some rv):AFn Tryz.prog 24 [.agg (Qad.enc x0),.agg (Qab.enc r)] [] (.tup [.agg [.bool rv.1.rest_,lI rv.1.depart,lL 4 rv.1.times Qai.enc,lI rv.1.end_,lI rv.1.miles],.agg [lI rv.2.1.cost,lI rv.2.1.moved,lI rv.2.1.other,lI rv.2.1.work],.one (lI rv.2.2)]) []:=by
 refine QaO Tryz.func24 (by kernel_rfl) (by kernel_rfl) (fun Γ=>?_)
 unfold Qgp at h
 rcases Qaf h with ⟨h0,h⟩|⟨h0,h⟩
 ·obtain rfl:=Option.some.inj h
  exact gr 8 [] [rp 5 hP,rp 3 (oI ((ltI r.type_ 0) = false)),nL Qan.enc x0.types,hP,hP,rp 2 (oI ((ltI r.type_ 0) = false)),oR True ((ltI r.type_ 0) = false),bT h0,hW 7,hH (.nilB 2 2 4)]
 ·obtain ⟨r1,h1,h⟩:=Qae h
  rcases Qaf h with ⟨h2,h⟩|⟨h2,h⟩
  ·obtain rfl:=Option.some.inj h
   exact gr 28 [] [rp 5 hP,rp 3 (oI ((ltI r.type_ 0) = false)),nL Qan.enc x0.types,hP,hP,rp 2 (oI ((ltI r.type_ 0) = false)),oR True ((ltI r.type_ 0) = false),bF h0,nL e_fn [39,40,41],tT,oO (getLo (rfl:getI ([39,40,41]:List Nat) 0 = some 39)),oO (getHi e_fn (rfl:getI ([39,40,41]:List Nat) 0 = some 39)),rE e_fn (rfl:getI ([39,40,41]:List Nat) 0 = some 39),cC (QbS h1),bT h2,hW 8,hH (.nilB 2 2 4)]
  ·obtain ⟨r2,h3,h⟩:=Qae h
   rcases Qaf h with ⟨h4,h⟩|⟨h4,h⟩
   ·obtain rfl:=Option.some.inj h
    exact gr 46 [] [rp 5 hP,rp 3 (oI ((ltI r.type_ 0) = false)),nL Qan.enc x0.types,hP,hP,rp 2 (oI ((ltI r.type_ 0) = false)),oR True ((ltI r.type_ 0) = false),bF h0,nL e_fn [39,40,41],tT,oO (getLo (rfl:getI ([39,40,41]:List Nat) 0 = some 39)),oO (getHi e_fn (rfl:getI ([39,40,41]:List Nat) 0 = some 39)),rE e_fn (rfl:getI ([39,40,41]:List Nat) 0 = some 39),cC (QbS h1),bF h2,tT,oO (getLo (rfl:getI ([39,40,41]:List Nat) 1 = some 40)),oO (getHi e_fn (rfl:getI ([39,40,41]:List Nat) 1 = some 40)),rE e_fn (rfl:getI ([39,40,41]:List Nat) 1 = some 40),cC (QfG h3),bT h4,hW 8,hH (.nilB 2 2 4)]
   ·obtain ⟨r3,h5,h⟩:=Qae h
    rcases Qaf h with ⟨h6,h⟩|⟨h6,h⟩
    ·obtain rfl:=Option.some.inj h
     exact gr 64 [] [rp 5 hP,rp 3 (oI ((ltI r.type_ 0) = false)),nL Qan.enc x0.types,hP,hP,rp 2 (oI ((ltI r.type_ 0) = false)),oR True ((ltI r.type_ 0) = false),bF h0,nL e_fn [39,40,41],tT,oO (getLo (rfl:getI ([39,40,41]:List Nat) 0 = some 39)),oO (getHi e_fn (rfl:getI ([39,40,41]:List Nat) 0 = some 39)),rE e_fn (rfl:getI ([39,40,41]:List Nat) 0 = some 39),cC (QbS h1),bF h2,tT,oO (getLo (rfl:getI ([39,40,41]:List Nat) 1 = some 40)),oO (getHi e_fn (rfl:getI ([39,40,41]:List Nat) 1 = some 40)),rE e_fn (rfl:getI ([39,40,41]:List Nat) 1 = some 40),cC (QfG h3),bF h4,tT,oO (getLo (rfl:getI ([39,40,41]:List Nat) 2 = some 41)),oO (getHi e_fn (rfl:getI ([39,40,41]:List Nat) 2 = some 41)),rE e_fn (rfl:getI ([39,40,41]:List Nat) 2 = some 41),cC (QgS h5),bT h6,hW 8,hH (.nilB 2 2 4)]
    ·obtain ⟨r4,h7,h⟩:=Qae h
     rcases Qaf h with ⟨h8,h⟩|⟨h8,h⟩
     ·obtain rfl:=Option.some.inj h
      exact gr 79 [] [rp 5 hP,rp 3 (oI ((ltI r.type_ 0) = false)),nL Qan.enc x0.types,hP,hP,rp 2 (oI ((ltI r.type_ 0) = false)),oR True ((ltI r.type_ 0) = false),bF h0,nL e_fn [39,40,41],tT,oO (getLo (rfl:getI ([39,40,41]:List Nat) 0 = some 39)),oO (getHi e_fn (rfl:getI ([39,40,41]:List Nat) 0 = some 39)),rE e_fn (rfl:getI ([39,40,41]:List Nat) 0 = some 39),cC (QbS h1),bF h2,tT,oO (getLo (rfl:getI ([39,40,41]:List Nat) 1 = some 40)),oO (getHi e_fn (rfl:getI ([39,40,41]:List Nat) 1 = some 40)),rE e_fn (rfl:getI ([39,40,41]:List Nat) 1 = some 40),cC (QfG h3),bF h4,tT,oO (getLo (rfl:getI ([39,40,41]:List Nat) 2 = some 41)),oO (getHi e_fn (rfl:getI ([39,40,41]:List Nat) 2 = some 41)),rE e_fn (rfl:getI ([39,40,41]:List Nat) 2 = some 41),cC (QgS h5),bF h6,fF,cC (Qi0 h7),bT h8,hW 8,hH (.nilB 2 2 4)]
     ·obtain ⟨r5,h9,h⟩:=Qae h
      obtain rfl:=Option.some.inj h
      exact gr 80 [] [rp 5 hP,rp 3 (oI ((ltI r.type_ 0) = false)),nL Qan.enc x0.types,hP,hP,rp 2 (oI ((ltI r.type_ 0) = false)),oR True ((ltI r.type_ 0) = false),bF h0,nL e_fn [39,40,41],tT,oO (getLo (rfl:getI ([39,40,41]:List Nat) 0 = some 39)),oO (getHi e_fn (rfl:getI ([39,40,41]:List Nat) 0 = some 39)),rE e_fn (rfl:getI ([39,40,41]:List Nat) 0 = some 39),cC (QbS h1),bF h2,tT,oO (getLo (rfl:getI ([39,40,41]:List Nat) 1 = some 40)),oO (getHi e_fn (rfl:getI ([39,40,41]:List Nat) 1 = some 40)),rE e_fn (rfl:getI ([39,40,41]:List Nat) 1 = some 40),cC (QfG h3),bF h4,tT,oO (getLo (rfl:getI ([39,40,41]:List Nat) 2 = some 41)),oO (getHi e_fn (rfl:getI ([39,40,41]:List Nat) 2 = some 41)),rE e_fn (rfl:getI ([39,40,41]:List Nat) 2 = some 41),cC (QgS h5),bF h6,fF,cC (Qi0 h7),bF h8,hH (.draw 5 []),cC (Qku h9)]
def QgC (Γ:Gam) (rv:Int × Bool × Qag × Int) (cf:Cf):Prop:=Go Tryz.prog Tryz.f28 [] Γ (.tup [.one (lI rv.1),.one (.bool rv.2.1),.agg [.bool rv.2.2.1.rest_,lI rv.2.2.1.depart,lL 4 rv.2.2.1.times Qai.enc,lI rv.2.2.1.end_,lI rv.2.2.1.miles],.one (lI rv.2.2.2)]) [] cf
def Qe3 (Γ:Gam) (rv:Int × Bool × Qag × Int) (x0:Qad) (r:Qab) (now:Int) (r1:Qag × Qa2 × Int) (ready:Int) (k:Int) (v:Int):Prop:=QgC Γ rv ⟨[.c 1012,.l 1012,.b 0,.c 127],⟨81,[vI 2 now,vP 3 0 6,vP 8 1 5,vP 10 2 5,vI 13 ready,vI 14 k,vL 41 2 r.visits Qaa.enc,vI 42 (lenI r.visits),vI 43 v],[oX 6 30 (Qad.enc x0),oX 5 60 [.bool false,lI 0,.nils,lI 0,lI 0],oX 5 60 (Qag.enc r1.1)]⟩⟩
def Qev (Γ:Gam) (rv:Int × Bool × Qag × Int) (x0:Qad) (r:Qab) (now:Int) (r1:Qag × Qa2 × Int) (ready1:Int) (k1:Int):Prop:=QgC Γ rv ⟨[.c 127],⟨81,[vI 2 now,vP 8 0 5,vP 10 1 5,vI 13 ready1,vI 14 k1],[oX 5 60 [.bool false,lI 0,.nils,lI 0,lI 0],oX 5 60 (Qag.enc r1.1)]⟩⟩
theorem Qhx (Γ:Gam) (rv:Int × Bool × Qag × Int) {x0 r now r1} {s:Int × Int × Int} {e:(Int × Int) ⊕ (Int × Bool × Qag × Int)} (h:loopF (fun s=>Qc0 x0 r now r1 s.1 s.2.1 s.2.2) s = some e) (hD:sel e (fun e=>Qev Γ rv x0 r now r1 e.1 e.2) (fun e=>e = rv)):Qe3 Γ rv x0 r now r1 s.1 s.2.1 s.2.2:=by
 refine QaL (C:=fun (s:Int × Int × Int)=>Qe3 Γ rv x0 r now r1 s.1 s.2.1 s.2.2) (D:=fun (e:(Int × Int) ⊕ (Int × Bool × Qag × Int))=>sel e (fun e=>Qev Γ rv x0 r now r1 e.1 e.2) (fun e=>e = rv)) ?_ h hD
 clear h hD s e
 rintro ⟨ready,k,v⟩ z_ h hI hE
 replace h:Qc0 x0 r now r1 ready k v = _:=h
 unfold Qc0 at h
 rcases Qaf h with ⟨h3,h⟩|⟨h3,h⟩
 ·obtain ⟨x2,h4,h⟩:=Qae h
  rcases Qaf h with ⟨h5,h⟩|⟨h5,h⟩
  ·obtain rfl:=(hE _ (oJ h):_ = rv)
   exact gr 15 [] [bT h3,cE Qaa.enc h4,bT h5,hH (.draw 4 [])]
  ·obtain ⟨r2,h6,h⟩:=Qae h
   obtain ⟨x3,h7,h⟩:=Qae h
   exact gn 22 [2,3,8,10,13,14,41,42,43] [0,1,2] [bT h3,cE Qaa.enc h4,bF h5,cC (Qhf h6),hH (.draw 10 []),cE Qai.enc h7] (hI _ (oJ h))
 ·exact gn 5 [2,8,10,13,14] [1,2] [bF h3] (hE _ (oJ h))
theorem Qc1 {x0 r now} {rv:Int × Bool × Qag × Int} (h:QdX x0 r now = some rv):AFn Tryz.prog 28 [.agg (Qad.enc x0),.agg (Qab.enc r),.one (lI now)] [] (.tup [.one (lI rv.1),.one (.bool rv.2.1),.agg [.bool rv.2.2.1.rest_,lI rv.2.2.1.depart,lL 4 rv.2.2.1.times Qai.enc,lI rv.2.2.1.end_,lI rv.2.2.1.miles],.one (lI rv.2.2.2)]) []:=by
 refine QaO Tryz.func28 (by kernel_rfl) (by kernel_rfl) (fun Γ=>?_)
 unfold QdX at h
 obtain ⟨r1,h0,h⟩:=Qae h
 rcases Qaf h with ⟨h1,h⟩|⟨h1,h⟩
 ·obtain rfl:=Option.some.inj h
  exact gr 10 [] [cC (QgH h0),bT h1,hW 8,hH (.nilB 2 2 4)]
 ·obtain ⟨x1,h2,h⟩:=Qae h
  obtain ⟨e0,h8,h⟩:=Qae h
  refine gn 18 [2,3,8,10,13,14,41,42,43] [0,2,3] [cC (QgH h0),bF h1,hH (.draw 11 []),cE Qan.enc h2,nL Qaa.enc r.visits] (Qhx Γ rv h8 ?_)
  rcases e0 with e0|e0
  ·obtain ⟨ready1,k1⟩:=e0
   replace h:(some (k1,((gtI k1 0) && (ltI ready1 now)),r1.1,0):Option (Int × Bool × Qag × Int)) = some _:=h
   obtain rfl:=Option.some.inj h
   exact gr 2 [] [hH (.draw 11 []),rp 4 hP,rp 2 (oI ((gtI k1 0) = true)),oR True ((gtI k1 0) = true)]
  ·obtain ⟨r3,rfl⟩:∃ x,x = e0:=⟨_,rfl⟩
   replace h:(some r3:Option (Int × Bool × Qag × Int)) = some _:=h
   exact Option.some.inj h
theorem QaM {x0 r now} {rv:Int × Int} (h:Qe0 x0 r now = some rv):AFn Tryz.prog 11 [.agg (Qad.enc x0),.agg (Qab.enc r),.one (lI now)] [] (.tup [.one (lI rv.1),.one (lI rv.2)]) []:=by
 refine QaO Tryz.func11 (by kernel_rfl) (by kernel_rfl) (fun Γ=>?_)
 unfold Qe0 at h
 obtain ⟨r1,h0,h⟩:=Qae h
 rcases Qaf h with ⟨h1,h⟩|⟨h1,h⟩
 ·obtain ⟨r2,h2,h⟩:=Qae h
  obtain rfl:=Option.some.inj h
  exact gr 11 [] [cC (QeS h0),nF h1,cC (Qc1 h2)]
 ·obtain rfl:=Option.some.inj h
  exact gr 8 [] [cC (QeS h0),nT h1]
theorem Qdh {s0} {rv:List Qaa} (h:QbK s0 = some rv):AFn Tryz.prog 57 [.one (lL 2 s0 Qaa.enc)] [] (one (lL 2 rv Qaa.enc)) []:=by
 refine QaO Tryz.func57 (by kernel_rfl) (by kernel_rfl) (fun Γ=>?_)
 unfold QbK at h
 rcases Qaf h with ⟨h0,h⟩|⟨h0,h⟩
 ·obtain ⟨hx,h⟩:=Qmb h
  refine gn 5 [0,4] [] [hH (.skip)] (cf':=⟨[.c 13,.c 7],⟨8,[vL 0 2 s0 Qaa.enc,(4,.boo)],[]⟩⟩) (Qo0 4 rfl ?_ ?_)
  ·replace h:=hx
   obtain rfl:=Option.some.inj h
   exact gr 3 [] [tT,hW 3,hH (.nilS 2 0 2)]
  ·obtain ⟨h1,h⟩:=Qco h
   obtain rfl:=Option.some.inj h
   exact gr 4 [] [fF,aN Qaa.enc h1,hW 1,hH (.frz 0),rp 2 (eL s0 Qaa.enc)]
 ·obtain ⟨h2,h⟩:=Qco h
  obtain rfl:=Option.some.inj h
  exact gr 9 [] [oO (neE Qaa.enc h0),fF,hH (.bit false),aN Qaa.enc h2,hW 1,hH (.frz 0),rp 2 (eL s0 Qaa.enc)]
def Qig (Γ:Gam) (rv:Qab) (cf:Cf):Prop:=Go Tryz.prog Tryz.f31 [] Γ (gG [lI rv.type_,lI rv.start,lL 1 rv.rests QaI,lL 2 rv.visits Qaa.enc]) [] cf
def QgB (Γ:Gam) (rv:Qab) (r:Qab) (k:Int) (finished:Bool) (s0:Qag) (l:List Qaa) (r1:List Qaa) (l1:List Bool) (v:Int):Prop:=Qig Γ rv ⟨[.c 244,.l 244,.b 0,.c 31],⟨47,[vI 1 k,vB 2 finished,vP 8 0 4,vP 9 1 4,vO 10 2 1 l1 QaI,vL 27 4 s0.times Qai.enc,vI 28 (lenI s0.times),vI 29 v],[oX 4 34 [lI 0,lI 0,.nils,.nils],oX 4 34 [lI r.type_,lI r.start,.nils,lL 2 r1 Qaa.enc],oS 1 4 l1 QaI]⟩⟩
def Qf3 (Γ:Gam) (rv:Qab) (r:Qab) (k:Int) (finished:Bool) (s0:Qag) (l:List Qaa) (r1:List Qaa) (l2:List Bool):Prop:=Qig Γ rv ⟨[.c 31],⟨47,[vI 1 k,vB 2 finished,vP 8 0 4,vP 9 1 4,vO 10 2 1 l2 QaI],[oX 4 34 [lI 0,lI 0,.nils,.nils],oX 4 34 [lI r.type_,lI r.start,.nils,lL 2 r1 Qaa.enc],oS 1 4 l2 QaI]⟩⟩
theorem QiC (Γ:Gam) (rv:Qab) {r k finished s0 l r1} {s:List Bool × Int} {e:List Bool} (h:loopF (fun s=>QdV r k finished s0 l r1 s.1 s.2) s = some e) (hD:Qf3 Γ rv r k finished s0 l r1 e):QgB Γ rv r k finished s0 l r1 s.1 s.2:=by
 refine QaL (C:=fun (s:List Bool × Int)=>QgB Γ rv r k finished s0 l r1 s.1 s.2) (D:=fun (e:List Bool)=>Qf3 Γ rv r k finished s0 l r1 e) ?_ h hD
 clear h hD s e
 rintro ⟨l1,v⟩ z_ h hI hE
 replace h:QdV r k finished s0 l r1 l1 v = _:=h
 unfold QdV at h
 rcases Qaf h with ⟨h2,h⟩|⟨h2,h⟩
 ·obtain ⟨x0,h3,h⟩:=Qae h
  obtain ⟨h4,h⟩:=Qco h
  exact gn 13 [1,2,8,9,10,27,28,29] [0,1,5] [bT h2,cE Qai.enc h3,oO (Eq.refl ([x0.rest_].map QaI).length),aO QaI h4] (hI _ (oJ h))
 ·exact gn 5 [1,2,8,9,10] [0,1,2] [bF h2] (hE _ (oJ h))
theorem QjY {r k finished s0} {rv:Qab} (h:QhU r k finished s0 = some rv):AFn Tryz.prog 31 [.agg (Qab.enc r),.one (lI k),.one (.bool finished),.agg (Qag.enc s0)] [] (gG [lI rv.type_,lI rv.start,lL 1 rv.rests QaI,lL 2 rv.visits Qaa.enc]) []:=by
 refine QaO Tryz.func31 (by kernel_rfl) (by kernel_rfl) (fun Γ=>?_)
 unfold QhU at h
 obtain ⟨l,h0,h⟩:=Qae h
 obtain ⟨r1,h1,h⟩:=Qae h
 obtain ⟨e0,h5,h⟩:=Qae h
 refine gn 11 [1,2,8,9,10,27,28,29] [2,3,4] [hH (.draw 11 []),hH (.rows (l.map Qaa.enc)),oO (sl1 h0),oO (sl2 h0),oO (sl3 Qaa.enc h0),oO (Int.le_refl k),oO (sl3 Qaa.enc h0),oO (sl6 Qaa.enc h0),cC (Qdh h1),nL Qai.enc s0.times] (QiC Γ rv h5 ?_)
 obtain ⟨l2,rfl⟩:∃ x,x = e0:=⟨_,rfl⟩
 replace h:(br finished (bnd (slcI l2 0 (addK .i64 k 1)) fun l3=>some (Qab.mk r.type_ r.start l3 r1)) (bnd (slcI l2 0 k) fun l4=>some (Qab.mk r.type_ r.start l4 r1)):Option Qab) = some _:=h
 rcases Qaf h with ⟨h6,h⟩|⟨h6,h⟩
 ·obtain ⟨l3,h7,h⟩:=Qae h
  obtain rfl:=Option.some.inj h
  exact gr 9 [] [bT h6,hW 8,hH (.frz 2),rp 2 (eL l2 QaI),hH (.rows (l3.map QaI)),oO (sl1 h7),oO (sl2 h7),oO (sl3 QaI h7),oO (Int.le_refl (addK .i64 k 1)),oO (sl3 QaI h7),oO (sl6 QaI h7)]
 ·obtain ⟨l4,h8,h⟩:=Qae h
  obtain rfl:=Option.some.inj h
  exact gr 9 [] [bF h6,hW 5,hH (.frz 2),rp 2 (eL l2 QaI),hH (.rows (l4.map QaI)),oO (sl1 h8),oO (sl2 h8),oO (sl3 QaI h8),oO (Int.le_refl k),oO (sl3 QaI h8),oO (sl6 QaI h8)]
def QgA (Γ:Gam) (rv:List Qab × Int) (cf:Cf):Prop:=Go Tryz.prog Tryz.f14 [] Γ (.tup [.one (lL 4 rv.1 Qab.enc),.one (lI rv.2)]) [] cf
def Qe1 (Γ:Gam) (rv:List Qab × Int) (x0:Qad) (p:Qax) (now:Int) (l:List Qab) (v:Int):Prop:=QgA Γ rv ⟨[.c 244,.l 244,.b 0,.c 31],⟨49,[vI 2 now,vP 3 0 6,vO 8 1 4 l Qab.enc,vL 19 4 p.routes Qab.enc,vI 20 (lenI p.routes),vI 21 v],[oX 6 30 (Qad.enc x0),oS 4 34 l Qab.enc]⟩⟩
def Qeu (Γ:Gam) (rv:List Qab × Int) (x0:Qad) (p:Qax) (now:Int) (l1:List Qab):Prop:=QgA Γ rv ⟨[.c 31],⟨49,[vO 8 0 4 l1 Qab.enc],[oS 4 34 l1 Qab.enc]⟩⟩
theorem Qhw (Γ:Gam) (rv:List Qab × Int) {x0 p now} {s:List Qab × Int} {e:(List Qab) ⊕ (List Qab × Int)} (h:loopF (fun s=>QcZ x0 p now s.1 s.2) s = some e) (hD:sel e (fun e=>Qeu Γ rv x0 p now e) (fun e=>e = rv)):Qe1 Γ rv x0 p now s.1 s.2:=by
 refine QaL (C:=fun (s:List Qab × Int)=>Qe1 Γ rv x0 p now s.1 s.2) (D:=fun (e:(List Qab) ⊕ (List Qab × Int))=>sel e (fun e=>Qeu Γ rv x0 p now e) (fun e=>e = rv)) ?_ h hD
 clear h hD s e
 rintro ⟨l,v⟩ z_ h hI hE
 replace h:QcZ x0 p now l v = _:=h
 unfold QcZ at h
 rcases Qaf h with ⟨h2,h⟩|⟨h2,h⟩
 ·obtain ⟨x1,h3,h⟩:=Qae h
  obtain ⟨r1,h4,h⟩:=Qae h
  rcases Qaf h with ⟨h5,h⟩|⟨h5,h⟩
  ·obtain rfl:=(hE _ (oJ h):_ = rv)
   exact gr 17 [] [bT h2,cE Qab.enc h3,cC (Qc1 h4),bT h5,hW 5,hH (.nilS 6 0 4)]
  ·rcases Qaf h with ⟨h6,h⟩|⟨h6,h⟩
   ·obtain ⟨r2,h7,h⟩:=Qae h
    obtain ⟨h8,h⟩:=Qco h
    exact gn 23 [2,3,8,19,20,21] [0,5] [bT h2,cE Qab.enc h3,cC (Qc1 h4),bF h5,bT h6,cC (QjY h7),oO (Eq.refl ([r2].map Qab.enc).length),aO Qab.enc h8] (hI _ (oJ h))
   ·exact gn 23 [2,3,8,19,20,21] [0,1] [bT h2,cE Qab.enc h3,cC (Qc1 h4),bF h5,bF h6] (hI _ (oJ h))
 ·exact gn 5 [8] [1] [bF h2] (hE _ (oJ h))
theorem QaX {x0 p now} {rv:List Qab × Int} (h:QdU x0 p now = some rv):AFn Tryz.prog 14 [.agg (Qad.enc x0),.agg (Qax.enc p),.one (lI now)] [] (.tup [.one (lL 4 rv.1 Qab.enc),.one (lI rv.2)]) []:=by
 refine QaO Tryz.func14 (by kernel_rfl) (by kernel_rfl) (fun Γ=>?_)
 unfold QdU at h
 obtain ⟨r,h0,h⟩:=Qae h
 rcases Qaf h with ⟨h1,h⟩|⟨h1,h⟩
 ·obtain ⟨e0,h9,h⟩:=Qae h
  refine gn 14 [2,3,8,19,20,21] [0,2] [cC (QeS h0),nF h1,nL Qab.enc p.routes,hW 3,hH (.adopt 8 4 34)] (Qhw Γ rv h9 ?_)
  rcases e0 with e0|e0
  ·obtain ⟨l1,rfl⟩:∃ x,x = e0:=⟨_,rfl⟩
   replace h:(some (l1,0):Option (List Qab × Int)) = some _:=h
   obtain rfl:=Option.some.inj h
   exact gr 2 [] [hW 5,hH (.frz 0),rp 3 (eL l1 Qab.enc)]
  ·obtain ⟨r3,rfl⟩:∃ x,x = e0:=⟨_,rfl⟩
   replace h:(some r3:Option (List Qab × Int)) = some _:=h
   exact Option.some.inj h
 ·obtain rfl:=Option.some.inj h
  exact gr 8 [] [cC (QeS h0),nT h1,hW 4,hH (.nilS 6 0 4)]
def Qcd (Γ:Gam) (rv:Bool) (cf:Cf):Prop:=Go Tryz.prog Tryz.f102 [] Γ (one (.bool rv)) [] cf
def Qb1 (Γ:Gam) (rv:Bool) (s1:List Qaa) (s2:List Qaa) (v:Int):Prop:=Qcd Γ rv ⟨[.c 116,.l 116,.b 0,.c 15],⟨26,[vL 0 2 s1 Qaa.enc,vL 1 2 s2 Qaa.enc,vI 12 (lenI s1),vI 13 v],[]⟩⟩
def QbW (Γ:Gam) (rv:Bool) (s1:List Qaa) (s2:List Qaa):Prop:=Qcd Γ rv ⟨[.c 15],⟨26,[],[]⟩⟩
theorem QcR (Γ:Gam) (rv:Bool) {s1 s2} {s:Int} {e:(Unit) ⊕ (Bool)} (h:loopF (fun s=>Qas s1 s2 s) s = some e) (hD:sel e (fun e=>QbW Γ rv s1 s2) (fun e=>e = rv)):Qb1 Γ rv s1 s2 s:=by
 refine QaL (C:=fun (s:Int)=>Qb1 Γ rv s1 s2 s) (D:=fun (e:(Unit) ⊕ (Bool))=>sel e (fun e=>QbW Γ rv s1 s2) (fun e=>e = rv)) ?_ h hD
 clear h hD s e
 intro v z_ h hI hE
 replace h:Qas s1 s2 v = _:=h
 unfold Qas at h
 rcases Qaf h with ⟨h1,h⟩|⟨h1,h⟩
 ·obtain ⟨x0,h2,h⟩:=Qae h
  obtain ⟨x1,h3,h⟩:=Qae h
  rcases Qaf h with ⟨h4,h⟩|⟨h4,h⟩
  ·exact gn 16 [0,1,12,13] [] [bT h1,hH (.draw 9 []),cE Qaa.enc h2,cE Qaa.enc h3,nF h4] (hI _ (oJ h))
  ·obtain rfl:=(hE _ (oJ h):_ = rv)
   exact gr 14 [] [bT h1,hH (.draw 9 []),cE Qaa.enc h2,cE Qaa.enc h3,nT h4]
 ·exact gn 5 [] [] [bF h1] (hE _ (oJ h))
theorem Qdi {s1 s2} {rv:Bool} (h:QaR s1 s2 = some rv):AFn Tryz.prog 102 [.one (lL 2 s1 Qaa.enc),.one (lL 2 s2 Qaa.enc)] [] (one (.bool rv)) []:=by
 refine QaO Tryz.func102 (by kernel_rfl) (by kernel_rfl) (fun Γ=>?_)
 unfold QaR at h
 rcases Qaf h with ⟨h0,h⟩|⟨h0,h⟩
 ·obtain rfl:=Option.some.inj h
  exact gr 8 [] [nL Qaa.enc s1,nL Qaa.enc s2,bT h0]
 ·obtain ⟨e0,h5,h⟩:=Qae h
  refine gn 12 [0,1,12,13] [] [nL Qaa.enc s1,nL Qaa.enc s2,bF h0,nL Qaa.enc s1] (QcR Γ rv h5 ?_)
  rcases e0 with e0|e0
  ·replace h:(some true:Option Bool) = some _:=h
   obtain rfl:=Option.some.inj h
   exact gr 2 [] []
  ·obtain ⟨r,rfl⟩:∃ x,x = e0:=⟨_,rfl⟩
   replace h:(some r:Option Bool) = some _:=h
   exact Option.some.inj h
theorem Qcp {l first_} {rv:Bool} (h:QbN l first_ = some rv):AFn Tryz.prog 58 [.one (lL 2 l Qaa.enc),.one (lL 2 first_ Qaa.enc)] [] (one (.bool rv)) []:=by
 refine QaO Tryz.func58 (by kernel_rfl) (by kernel_rfl) (fun Γ=>?_)
 unfold QbN at h
 rcases Qaf h with ⟨h0,h⟩|⟨h0,h⟩
 ·obtain ⟨l1,h1,h⟩:=Qae h
  obtain ⟨r,h2,h⟩:=Qae h
  obtain rfl:=Option.some.inj h
  exact gr 4 [] [nL Qaa.enc l,nL Qaa.enc first_,rp 3 (bT h0),nL Qaa.enc first_,bT h0,hH (.rows (l1.map Qaa.enc)),oO (sl1 h1),oO (sl2 h1),oO (sl3 Qaa.enc h1),oO (Int.le_refl (lenI first_)),oO (sl3 Qaa.enc h1),oO (sl6 Qaa.enc h1),bT h0,bT h0,cC (Qdi h2),bT h0]
 ·obtain rfl:=Option.some.inj h
  exact gr 4 [] [nL Qaa.enc l,nL Qaa.enc first_,rp 7 (bF h0)]
def Qdg (Γ:Gam) (rv:Bool) (cf:Cf):Prop:=Go Tryz.prog Tryz.f103 [] Γ (one (.bool rv)) [] cf
def QcL (Γ:Gam) (rv:Bool) (s1:List Bool) (s2:List Bool) (v:Int):Prop:=Qdg Γ rv ⟨[.c 116,.l 116,.b 0,.c 15],⟨26,[vL 0 1 s1 QaI,vL 1 1 s2 QaI,vI 12 (lenI s1),vI 13 v],[]⟩⟩
def QcE (Γ:Gam) (rv:Bool) (s1:List Bool) (s2:List Bool):Prop:=Qdg Γ rv ⟨[.c 15],⟨26,[],[]⟩⟩
theorem Qek (Γ:Gam) (rv:Bool) {s1 s2} {s:Int} {e:(Unit) ⊕ (Bool)} (h:loopF (fun s=>QaC s1 s2 s) s = some e) (hD:sel e (fun e=>QcE Γ rv s1 s2) (fun e=>e = rv)):QcL Γ rv s1 s2 s:=by
 refine QaL (C:=fun (s:Int)=>QcL Γ rv s1 s2 s) (D:=fun (e:(Unit) ⊕ (Bool))=>sel e (fun e=>QcE Γ rv s1 s2) (fun e=>e = rv)) ?_ h hD
 clear h hD s e
 intro v z_ h hI hE
 replace h:QaC s1 s2 v = _:=h
 unfold QaC at h
 rcases Qaf h with ⟨h1,h⟩|⟨h1,h⟩
 ·obtain ⟨x0,h2,h⟩:=Qae h
  obtain ⟨x1,h3,h⟩:=Qae h
  rcases Qaf h with ⟨h4,h⟩|⟨h4,h⟩
  ·exact gn 16 [0,1,12,13] [] [bT h1,hH (.draw 9 []),cE QaI h2,cE QaI h3,nF h4] (hI _ (oJ h))
  ·obtain rfl:=(hE _ (oJ h):_ = rv)
   exact gr 14 [] [bT h1,hH (.draw 9 []),cE QaI h2,cE QaI h3,nT h4]
 ·exact gn 5 [] [] [bF h1] (hE _ (oJ h))
theorem Qfq {s1 s2} {rv:Bool} (h:QbJ s1 s2 = some rv):AFn Tryz.prog 103 [.one (lL 1 s1 QaI),.one (lL 1 s2 QaI)] [] (one (.bool rv)) []:=by
 refine QaO Tryz.func103 (by kernel_rfl) (by kernel_rfl) (fun Γ=>?_)
 unfold QbJ at h
 rcases Qaf h with ⟨h0,h⟩|⟨h0,h⟩
 ·obtain rfl:=Option.some.inj h
  exact gr 8 [] [nL QaI s1,nL QaI s2,bT h0]
 ·obtain ⟨e0,h5,h⟩:=Qae h
  refine gn 12 [0,1,12,13] [] [nL QaI s1,nL QaI s2,bF h0,nL QaI s1] (Qek Γ rv h5 ?_)
  rcases e0 with e0|e0
  ·replace h:(some true:Option Bool) = some _:=h
   obtain rfl:=Option.some.inj h
   exact gr 2 [] []
  ·obtain ⟨r,rfl⟩:∃ x,x = e0:=⟨_,rfl⟩
   replace h:(some r:Option Bool) = some _:=h
   exact Option.some.inj h
theorem Qd7 {l first_} {rv:Bool} (h:Qct l first_ = some rv):AFn Tryz.prog 59 [.one (lL 1 l QaI),.one (lL 1 first_ QaI)] [] (one (.bool rv)) []:=by
 refine QaO Tryz.func59 (by kernel_rfl) (by kernel_rfl) (fun Γ=>?_)
 unfold Qct at h
 rcases Qaf h with ⟨h0,h⟩|⟨h0,h⟩
 ·obtain ⟨l1,h1,h⟩:=Qae h
  obtain ⟨r,h2,h⟩:=Qae h
  obtain rfl:=Option.some.inj h
  exact gr 4 [] [nL QaI l,nL QaI first_,rp 3 (bT h0),nL QaI first_,bT h0,hH (.rows (l1.map QaI)),oO (sl1 h1),oO (sl2 h1),oO (sl3 QaI h1),oO (Int.le_refl (lenI first_)),oO (sl3 QaI h1),oO (sl6 QaI h1),bT h0,bT h0,cC (Qfq h2),bT h0]
 ·obtain rfl:=Option.some.inj h
  exact gr 4 [] [nL QaI l,nL QaI first_,rp 7 (bF h0)]
theorem Qe2 {r b} {rv:Bool} (h:Qd5 r b = some rv):AFn Tryz.prog 33 [.agg (Qab.enc r),.agg (Qab.enc b)] [] (one (.bool rv)) []:=by
 refine QaO Tryz.func33 (by kernel_rfl) (by kernel_rfl) (fun Γ=>?_)
 unfold Qd5 at h
 rcases Qaf h with ⟨h0,h⟩|⟨h0,h⟩
 ·obtain rfl:=Option.some.inj h
  exact gr 8 [] [rp 6 hP,rp 4 (oI ((neI r.type_ b.type_) = false)),oR True ((neI r.type_ b.type_) = false),rp 7 (bT h0),rp 8 tT]
 ·obtain ⟨r1,h1,h⟩:=Qae h
  rcases Qaf h with ⟨h2,h⟩|⟨h2,h⟩
  ·obtain ⟨r2,h3,h⟩:=Qae h
   rcases Qaf h with ⟨h4,h⟩|⟨h4,h⟩
   ·obtain rfl:=Option.some.inj h
    exact gr 11 [] [rp 6 hP,rp 4 (oI ((neI r.type_ b.type_) = false)),oR True ((neI r.type_ b.type_) = false),rp 5 (bF h0),cC (Qcp h1),bF h0,bF h0,rp 5 (nF h2),cC (Qd7 h3),nF h2,nF h2,nF h4,nL QaI b.rests,nL Qaa.enc b.visits,hP,hP,hP,rp 2 (oI ((!(gtI (lenI b.rests) (lenI b.visits))) = false)),nL Qaa.enc r.visits,hP,hP,hP,rp 2 (oI ((!(gtI (lenI b.rests) (lenI b.visits))) = false)),nL Qaa.enc b.visits,rp 5 hP,rp 3 (oI ((!(gtI (lenI b.rests) (lenI b.visits))) = false)),rp 2 (oI (((!(gtI (lenI b.rests) (lenI b.visits))) = false)∧(eqI (lenI r.visits) (lenI b.visits)) = true)),nL QaI r.rests,hP,hP,hP,rp 2 (oI (((!(gtI (lenI b.rests) (lenI b.visits))) = false)∧(eqI (lenI r.visits) (lenI b.visits)) = true)),nL QaI b.rests,rp 4 hP,rp 2 (oI (((!(gtI (lenI b.rests) (lenI b.visits))) = false)∧(eqI (lenI r.visits) (lenI b.visits)) = true)),oI ((!(gtI (lenI b.rests) (lenI b.visits))) = false),oI (((!(gtI (lenI b.rests) (lenI b.visits))) = false)∧(eqI (lenI r.visits) (lenI b.visits)) = true),oR True ((!(gtI (lenI b.rests) (lenI b.visits))) = false)]
   ·obtain rfl:=Option.some.inj h
    exact gr 8 [] [rp 6 hP,rp 4 (oI ((neI r.type_ b.type_) = false)),oR True ((neI r.type_ b.type_) = false),rp 5 (bF h0),cC (Qcp h1),bF h0,bF h0,rp 5 (nF h2),cC (Qd7 h3),nF h2,nF h2,nT h4]
  ·obtain rfl:=Option.some.inj h
   exact gr 8 [] [rp 6 hP,rp 4 (oI ((neI r.type_ b.type_) = false)),oR True ((neI r.type_ b.type_) = false),rp 5 (bF h0),cC (Qcp h1),bF h0,bF h0,rp 7 (nT h2),tT]
theorem Qf5 {w c} {rv:Bool} (h:QdW w c = some rv):AFn Tryz.prog 62 [.agg (Qaa.enc w),.one (.ip (Qaa.enc c) 0)] [] (one (.bool rv)) []:=by
 refine QaO Tryz.func62 (by kernel_rfl) (by kernel_rfl) (fun Γ=>?_)
 unfold QdW at h
 obtain rfl:=Option.some.inj h
 exact gr 4 [] []
def QbA (Γ:Gam) (rv:Int) (cf:Cf):Prop:=Go Tryz.prog Tryz.f104 [] Γ (one (lI rv)) [] cf
def Qbq (Γ:Gam) (rv:Int) (s0:List Qaa) (c:Qaa) (v:Int):Prop:=QbA Γ rv ⟨[.c 52,.l 52,.b 0,.c 7],⟨19,[vL 0 2 s0 Qaa.enc,(1,one (.fn (.func 62) [.ip (Qaa.enc c) 0])),vI 7 (lenI s0),vI 8 v],[]⟩⟩
def Qbl (Γ:Gam) (rv:Int) (s0:List Qaa) (c:Qaa):Prop:=QbA Γ rv ⟨[.c 7],⟨19,[],[]⟩⟩
theorem Qca (Γ:Gam) (rv:Int) {s0 c} {s:Int} {e:(Unit) ⊕ (Int)} (h:loopF (fun s=>Qaj s0 c s) s = some e) (hD:sel e (fun e=>Qbl Γ rv s0 c) (fun e=>e = rv)):Qbq Γ rv s0 c s:=by
 refine QaL (C:=fun (s:Int)=>Qbq Γ rv s0 c s) (D:=fun (e:(Unit) ⊕ (Int))=>sel e (fun e=>Qbl Γ rv s0 c) (fun e=>e = rv)) ?_ h hD
 clear h hD s e
 intro v z_ h hI hE
 replace h:Qaj s0 c v = _:=h
 unfold Qaj at h
 rcases Qaf h with ⟨h0,h⟩|⟨h0,h⟩
 ·obtain ⟨x0,h1,h⟩:=Qae h
  obtain ⟨r,h2,h⟩:=Qae h
  rcases Qaf h with ⟨h3,h⟩|⟨h3,h⟩
  ·obtain rfl:=(hE _ (oJ h):_ = rv)
   exact gr 14 [] [bT h0,cE Qaa.enc h1,cC (Qf5 h2),bT h3]
  ·exact gn 16 [0,1,7,8] [] [bT h0,cE Qaa.enc h1,cC (Qf5 h2),bF h3] (hI _ (oJ h))
 ·exact gn 5 [] [] [bF h0] (hE _ (oJ h))
theorem Qcn {s0 c} {rv:Int} (h:Qay s0 c = some rv):AFn Tryz.prog 104 [.one (lL 2 s0 Qaa.enc),.one (.fn (.func 62) [.ip (Qaa.enc c) 0])] [] (one (lI rv)) []:=by
 refine QaO Tryz.func104 (by kernel_rfl) (by kernel_rfl) (fun Γ=>?_)
 unfold Qay at h
 obtain ⟨e0,h4,h⟩:=Qae h
 refine gn 7 [0,1,7,8] [] [nL Qaa.enc s0] (Qca Γ rv h4 ?_)
 rcases e0 with e0|e0
 ·replace h:(some (-1):Option Int) = some _:=h
  obtain rfl:=Option.some.inj h
  exact gr 2 [] []
 ·obtain ⟨r1,rfl⟩:∃ x,x = e0:=⟨_,rfl⟩
  replace h:(some r1:Option Int) = some _:=h
  exact Option.some.inj h
theorem Qb8 {s0 c} {rv:Bool} (h:QaD s0 c = some rv):AFn Tryz.prog 60 [.one (lL 2 s0 Qaa.enc),.one (.fn (.func 62) [.ip (Qaa.enc c) 0])] [] (one (.bool rv)) []:=by
 refine QaO Tryz.func60 (by kernel_rfl) (by kernel_rfl) (fun Γ=>?_)
 unfold QaD at h
 obtain ⟨r,h0,h⟩:=Qae h
 obtain rfl:=Option.some.inj h
 exact gr 4 [] [cC (Qcn h0)]
theorem QgV {v c} {rv:Bool} (h:Qd6 v c = some rv):AFn Tryz.prog 61 [.agg (Qaa.enc v),.one (.ip (Qab.enc c) 0)] [] (one (.bool rv)) []:=by
 refine QaO Tryz.func61 (by kernel_rfl) (by kernel_rfl) (fun Γ=>?_)
 unfold Qd6 at h
 obtain ⟨r,h0,h⟩:=Qae h
 obtain rfl:=Option.some.inj h
 exact gr 4 [] [cC (Qb8 h0)]
def QbH (Γ:Gam) (rv:Int) (cf:Cf):Prop:=Go Tryz.prog Tryz.f104 [] Γ (one (lI rv)) [] cf
def Qbx (Γ:Gam) (rv:Int) (s0:List Qaa) (c:Qab) (v:Int):Prop:=QbH Γ rv ⟨[.c 52,.l 52,.b 0,.c 7],⟨19,[vL 0 2 s0 Qaa.enc,(1,one (.fn (.func 61) [.ip (Qab.enc c) 0])),vI 7 (lenI s0),vI 8 v],[]⟩⟩
def Qbt (Γ:Gam) (rv:Int) (s0:List Qaa) (c:Qab):Prop:=QbH Γ rv ⟨[.c 7],⟨19,[],[]⟩⟩
theorem Qck (Γ:Gam) (rv:Int) {s0 c} {s:Int} {e:(Unit) ⊕ (Int)} (h:loopF (fun s=>Qao s0 c s) s = some e) (hD:sel e (fun e=>Qbt Γ rv s0 c) (fun e=>e = rv)):Qbx Γ rv s0 c s:=by
 refine QaL (C:=fun (s:Int)=>Qbx Γ rv s0 c s) (D:=fun (e:(Unit) ⊕ (Int))=>sel e (fun e=>Qbt Γ rv s0 c) (fun e=>e = rv)) ?_ h hD
 clear h hD s e
 intro v z_ h hI hE
 replace h:Qao s0 c v = _:=h
 unfold Qao at h
 rcases Qaf h with ⟨h0,h⟩|⟨h0,h⟩
 ·obtain ⟨x0,h1,h⟩:=Qae h
  obtain ⟨r,h2,h⟩:=Qae h
  rcases Qaf h with ⟨h3,h⟩|⟨h3,h⟩
  ·obtain rfl:=(hE _ (oJ h):_ = rv)
   exact gr 14 [] [bT h0,cE Qaa.enc h1,cC (QgV h2),bT h3]
  ·exact gn 16 [0,1,7,8] [] [bT h0,cE Qaa.enc h1,cC (QgV h2),bF h3] (hI _ (oJ h))
 ·exact gn 5 [] [] [bF h0] (hE _ (oJ h))
theorem Qcx {s0 c} {rv:Int} (h:Qaz s0 c = some rv):AFn Tryz.prog 104 [.one (lL 2 s0 Qaa.enc),.one (.fn (.func 61) [.ip (Qab.enc c) 0])] [] (one (lI rv)) []:=by
 refine QaO Tryz.func104 (by kernel_rfl) (by kernel_rfl) (fun Γ=>?_)
 unfold Qaz at h
 obtain ⟨e0,h4,h⟩:=Qae h
 refine gn 7 [0,1,7,8] [] [nL Qaa.enc s0] (Qck Γ rv h4 ?_)
 rcases e0 with e0|e0
 ·replace h:(some (-1):Option Int) = some _:=h
  obtain rfl:=Option.some.inj h
  exact gr 2 [] []
 ·obtain ⟨r1,rfl⟩:∃ x,x = e0:=⟨_,rfl⟩
  replace h:(some r1:Option Int) = some _:=h
  exact Option.some.inj h
theorem Qcj {s0 c} {rv:Bool} (h:QaH s0 c = some rv):AFn Tryz.prog 60 [.one (lL 2 s0 Qaa.enc),.one (.fn (.func 61) [.ip (Qab.enc c) 0])] [] (one (.bool rv)) []:=by
 refine QaO Tryz.func60 (by kernel_rfl) (by kernel_rfl) (fun Γ=>?_)
 unfold QaH at h
 obtain ⟨r,h0,h⟩:=Qae h
 obtain rfl:=Option.some.inj h
 exact gr 4 [] [cC (Qcx h0)]
theorem Qih {a b} {rv:Bool} (h:Qf4 a b = some rv):AFn Tryz.prog 34 [.agg (Qab.enc a),.agg (Qab.enc b)] [] (one (.bool rv)) []:=by
 refine QaO Tryz.func34 (by kernel_rfl) (by kernel_rfl) (fun Γ=>?_)
 unfold Qf4 at h
 obtain ⟨r,h0,h⟩:=Qae h
 obtain rfl:=Option.some.inj h
 exact gr 4 [] [cC (Qcj h0)]
def QeR (Γ:Gam) (rv:Int) (cf:Cf):Prop:=Go Tryz.prog Tryz.f18 [] Γ (one (lI rv)) [] cf
def Qgz (Γ:Gam) (rv:Int) (p:Qax) (l:List Qab) (v:Int) (x0:Qab) (n:Int) (v1:Int):Prop:=QeR Γ rv ⟨[.c 54068,.l 54068,.b 2,.c 6759,.b 1,.c 423,.l 52,.b 0,.c 7],⟨37,[vP 2 0 2,vP 6 1 4,vI 7 n,vL 10 4 l Qab.enc,vI 11 (lenI l),vI 12 v,vL 17 4 p.routes Qab.enc,vI 18 (lenI p.routes),vI 19 v1],[oX 2 45 (Qax.enc p),oX 4 34 (Qab.enc x0)]⟩⟩
def Qf2 (Γ:Gam) (rv:Int) (p:Qax) (l:List Qab) (v:Int) (x0:Qab) (n1:Int):Prop:=QeR Γ rv ⟨[.c 6759,.b 1,.c 423,.l 52,.b 0,.c 7],⟨37,[vP 2 0 2,vI 7 n1,vL 10 4 l Qab.enc,vI 11 (lenI l),vI 12 v],[oX 2 45 (Qax.enc p)]⟩⟩
def Qgy (Γ:Gam) (rv:Int) (p:Qax) (l:List Qab) (v:Int):Prop:=QeR Γ rv ⟨[.c 52,.l 52,.b 0,.c 7],⟨37,[vP 2 0 2,vL 10 4 l Qab.enc,vI 11 (lenI l),vI 12 v],[oX 2 45 (Qax.enc p)]⟩⟩
def Qf1 (Γ:Gam) (rv:Int) (p:Qax) (l:List Qab):Prop:=QeR Γ rv ⟨[.c 7],⟨37,[],[]⟩⟩
theorem QiB (Γ:Gam) (rv:Int) {p l v x0} {s:Int × Int} {e:(Int) ⊕ (Int)} (h:loopF (fun s=>QbZ p l v x0 s.1 s.2) s = some e) (hD:sel e (fun e=>Qf2 Γ rv p l v x0 e) (fun e=>e = rv)):Qgz Γ rv p l v x0 s.1 s.2:=by
 refine QaL (C:=fun (s:Int × Int)=>Qgz Γ rv p l v x0 s.1 s.2) (D:=fun (e:(Int) ⊕ (Int))=>sel e (fun e=>Qf2 Γ rv p l v x0 e) (fun e=>e = rv)) ?_ h hD
 clear h hD s e
 rintro ⟨n,v1⟩ z_ h hI hE
 replace h:QbZ p l v x0 n v1 = _:=h
 unfold QbZ at h
 rcases Qaf h with ⟨h2,h⟩|⟨h2,h⟩
 ·obtain ⟨x1,h3,h⟩:=Qae h
  obtain ⟨r,h4,h⟩:=Qae h
  rcases Qaf h with ⟨h5,h⟩|⟨h5,h⟩
  ·exact gn 18 [2,6,7,10,11,12,17,18,19] [0,1] [bT h2,cE Qab.enc h3,cC (Qe2 h4),bT h5] (hI _ (oJ h))
  ·obtain ⟨r1,h6,h⟩:=Qae h
   rcases Qaf h with ⟨h7,h⟩|⟨h7,h⟩
   ·obtain rfl:=(hE _ (oJ h):_ = rv)
    exact gr 18 [] [bT h2,cE Qab.enc h3,cC (Qe2 h4),bF h5,cC (Qih h6),bT h7]
   ·exact gn 21 [2,6,7,10,11,12,17,18,19] [0,1] [bT h2,cE Qab.enc h3,cC (Qe2 h4),bF h5,cC (Qih h6),bF h7] (hI _ (oJ h))
 ·exact gn 5 [2,7,10,11,12] [0] [bF h2] (hE _ (oJ h))
theorem QiA (Γ:Gam) (rv:Int) {p l} {s:Int} {e:(Unit) ⊕ (Int)} (h:loopF (fun s=>QbY p l s) s = some e) (hD:sel e (fun e=>Qf1 Γ rv p l) (fun e=>e = rv)):Qgy Γ rv p l s:=by
 refine QaL (C:=fun (s:Int)=>Qgy Γ rv p l s) (D:=fun (e:(Unit) ⊕ (Int))=>sel e (fun e=>Qf1 Γ rv p l) (fun e=>e = rv)) ?_ h hD
 clear h hD s e
 intro v z_ h hI hE
 replace h:QbY p l v = _:=h
 unfold QbY at h
 rcases Qaf h with ⟨h0,h⟩|⟨h0,h⟩
 ·obtain ⟨x0,h1,h⟩:=Qae h
  obtain ⟨e0,h8,h⟩:=Qae h
  refine gn 16 [2,6,7,10,11,12,17,18,19] [0,1] [bT h0,cE Qab.enc h1,nL Qab.enc p.routes] (QiB Γ rv h8 ?_)
  rcases e0 with e0|e0
  ·obtain ⟨n1,rfl⟩:∃ x,x = e0:=⟨_,rfl⟩
   replace h:(br (neI n1 1) (some (.inr (.inr 31))) (some (.inl (addK .i64 v 1))):Option ((Int) ⊕ ((Unit) ⊕ (Int)))) = some _:=h
   rcases Qaf h with ⟨h9,h⟩|⟨h9,h⟩
   ·obtain rfl:=(hE _ (oJ h):_ = rv)
    exact gr 5 [] [bT h9]
   ·exact gn 7 [2,10,11,12] [0] [bF h9] (hI _ (oJ h))
  ·obtain ⟨r2,rfl⟩:∃ x,x = e0:=⟨_,rfl⟩
   replace h:(some (.inr (.inr r2)):Option ((Int) ⊕ ((Unit) ⊕ (Int)))) = some _:=h
   exact (hE _ (oJ h):_ = rv)
 ·exact gn 5 [] [] [bF h0] (hE _ (oJ h))
theorem Qcb {p l} {rv:Int} (h:Qdq p l = some rv):AFn Tryz.prog 18 [.agg (Qax.enc p),.one (lL 4 l Qab.enc)] [] (one (lI rv)) []:=by
 refine QaO Tryz.func18 (by kernel_rfl) (by kernel_rfl) (fun Γ=>?_)
 unfold Qdq at h
 obtain ⟨e1,h10,h⟩:=Qae h
 refine gn 7 [2,10,11,12] [0] [nL Qab.enc l] (QiA Γ rv h10 ?_)
 rcases e1 with e1|e1
 ·replace h:(some 0:Option Int) = some _:=h
  obtain rfl:=Option.some.inj h
  exact gr 2 [] []
 ·obtain ⟨r3,rfl⟩:∃ x,x = e1:=⟨_,rfl⟩
  replace h:(some r3:Option Int) = some _:=h
  exact Option.some.inj h
def QeQ (Γ:Gam) (rv:Int) (cf:Cf):Prop:=Go Tryz.prog Tryz.f20 [] Γ (one (lI rv)) [] cf
def Qgx (Γ:Gam) (rv:Int) (l:List Qab) (v:Int) (x0:Qab) (set_1:Int) (v1:Int):Prop:=QeQ Γ rv ⟨[.c 29900,.l 29900,.b 2,.b 1,.c 935,.l 116,.b 0,.c 15],⟨37,[vI 3 set_1,vL 8 4 l Qab.enc,vI 9 (lenI l),vI 10 v,vL 15 2 x0.visits Qaa.enc,vI 16 (lenI x0.visits),vI 17 v1],[]⟩⟩
def Qf0 (Γ:Gam) (rv:Int) (l:List Qab) (v:Int) (x0:Qab) (set_2:Int):Prop:=QeQ Γ rv ⟨[.b 1,.c 935,.l 116,.b 0,.c 15],⟨37,[vI 3 set_2,vL 8 4 l Qab.enc,vI 9 (lenI l),vI 10 v],[]⟩⟩
def Qgw (Γ:Gam) (rv:Int) (l:List Qab) (set_:Int) (v:Int):Prop:=QeQ Γ rv ⟨[.c 116,.l 116,.b 0,.c 15],⟨37,[vI 3 set_,vL 8 4 l Qab.enc,vI 9 (lenI l),vI 10 v],[]⟩⟩
def QfZ (Γ:Gam) (rv:Int) (l:List Qab) (set_3:Int):Prop:=QeQ Γ rv ⟨[.c 15],⟨37,[vI 3 set_3],[]⟩⟩
theorem Qiz (Γ:Gam) (rv:Int) {l v x0} {s:Int × Int} {e:Int} (h:loopF (fun s=>Qcy l v x0 s.1 s.2) s = some e) (hD:Qf0 Γ rv l v x0 e):Qgx Γ rv l v x0 s.1 s.2:=by
 refine QaL (C:=fun (s:Int × Int)=>Qgx Γ rv l v x0 s.1 s.2) (D:=fun (e:Int)=>Qf0 Γ rv l v x0 e) ?_ h hD
 clear h hD s e
 rintro ⟨set_1,v1⟩ z_ h hI hE
 replace h:Qcy l v x0 set_1 v1 = _:=h
 unfold Qcy at h
 rcases Qaf h with ⟨h2,h⟩|⟨h2,h⟩
 ·obtain ⟨x1,h3,h⟩:=Qae h
  rcases Qaf h with ⟨h4,h⟩|⟨h4,h⟩
  ·obtain ⟨h5,h⟩:=Qco h
   exact gn 16 [3,8,9,10,15,16,17] [] [bT h2,cE Qaa.enc h3,rp 4 hP,rp 2 (oI ((geI x1.order 0) = true)),oR True ((geI x1.order 0) = true),bT h4,oO (h5)] (hI _ (oJ h))
  ·exact gn 16 [3,8,9,10,15,16,17] [] [bT h2,cE Qaa.enc h3,rp 4 hP,rp 2 (oI ((geI x1.order 0) = true)),oR True ((geI x1.order 0) = true),bF h4] (hI _ (oJ h))
 ·exact gn 5 [3,8,9,10] [] [bF h2] (hE _ (oJ h))
theorem Qiy (Γ:Gam) (rv:Int) {l} {s:Int × Int} {e:Int} (h:loopF (fun s=>QcM l s.1 s.2) s = some e) (hD:QfZ Γ rv l e):Qgw Γ rv l s.1 s.2:=by
 refine QaL (C:=fun (s:Int × Int)=>Qgw Γ rv l s.1 s.2) (D:=fun (e:Int)=>QfZ Γ rv l e) ?_ h hD
 clear h hD s e
 rintro ⟨set_,v⟩ z_ h hI hE
 replace h:QcM l set_ v = _:=h
 unfold QcM at h
 rcases Qaf h with ⟨h0,h⟩|⟨h0,h⟩
 ·obtain ⟨x0,h1,h⟩:=Qae h
  obtain ⟨e0,h6,h⟩:=Qae h
  refine gn 13 [3,8,9,10,15,16,17] [] [bT h0,cE Qab.enc h1,nL Qaa.enc x0.visits] (Qiz Γ rv h6 ?_)
  obtain ⟨set_2,rfl⟩:∃ x,x = e0:=⟨_,rfl⟩
  replace h:(some (.inl (set_2,(addK .i64 v 1))):Option ((Int × Int) ⊕ (Int))) = some _:=h
  exact gn 3 [3,8,9,10] [] [] (hI _ (oJ h))
 ·exact gn 5 [3] [] [bF h0] (hE _ (oJ h))
theorem QfS {l} {rv:Int} (h:QdN l = some rv):AFn Tryz.prog 20 [.one (lL 4 l Qab.enc)] [] (one (lI rv)) []:=by
 refine QaO Tryz.func20 (by kernel_rfl) (by kernel_rfl) (fun Γ=>?_)
 unfold QdN at h
 obtain ⟨e1,h7,h⟩:=Qae h
 refine gn 9 [3,8,9,10] [] [nL Qab.enc l] (Qiy Γ rv h7 ?_)
 obtain ⟨set_3,rfl⟩:∃ x,x = e1:=⟨_,rfl⟩
 replace h:(some set_3:Option Int) = some _:=h
 obtain rfl:=Option.some.inj h
 exact gr 2 [] []
theorem QbU {rv:Qad × Qab} (h:Qen = some rv):AFn Tryz.prog 26 [] [] (.tup [.agg [lL 1 rv.1.net.places e_str,lL 6 rv.1.net.arcs Qaw.enc,lL 14 rv.1.types Qan.enc,lL 16 rv.1.orders Qap.enc,lL 2 rv.1.apart QcQ.enc,lL 2 rv.1.before QcQ.enc],.agg [lI rv.2.type_,lI rv.2.start,lL 1 rv.2.rests QaI,lL 2 rv.2.visits Qaa.enc]]) []:=by
 refine QaO Tryz.func26 (by kernel_rfl) (by kernel_rfl) (fun Γ=>?_)
 unfold Qen at h
 obtain rfl:=Option.some.inj h
 exact gr 12 [] [hW 19,hH (.frz 4),hH (.nilS 8 5 2),hH (.frz 5),hH (.nilS 11 5 2),hW 8,hH (.frz 7),hW 9,hH (.frz 9),hW 11,hH (.frz 2),hH (.frz 6),hH (.frz 8),hH (.frz 10),hH (.nilB 0 4 2),hH (.nilB 0 5 2),hH (.frz 11),hH (.nilB 1 2 1),rp 4 (oO (Eq.refl ([(Qah.mk 0 10)].map Qah.enc).length)),rp 4 (oO (Eq.refl ([1].map e_i64).length)),rp 6 (oO (Eq.refl ([QmY,QmZ].map e_str).length)),rp 4 (oO (Eq.refl ([(Qaw.mk 0 1 0 0 [(Qah.mk 0 10)] []),(Qaw.mk 1 0 0 0 [(Qah.mk 0 10)] [])].map Qaw.enc).length)),rp 4 (oO (Eq.refl ([(Qan.mk Qm1 1 0 0 [1] 0 0 5 100 100 0 0 0 0)].map Qan.enc).length)),rp 4 (oO (Eq.refl ([(Qap.mk Qm0 [1] (Qam.mk (-1) 0 0 0) (Qam.mk 1 30 40 2) 0 (-1) 1 (-1) (-1) false)].map Qap.enc).length)),rp 3 (oO (Eq.refl ([(Qaa.mk 0 true)].map Qaa.enc).length))]
theorem QcV {rv:Bool} (h:Qb4 = some rv):AFn Tryz.prog 10 [] [] (one (.bool rv)) []:=by
 refine QaO Tryz.func10 (by kernel_rfl) (by kernel_rfl) (fun Γ=>?_)
 unfold Qb4 at h
 obtain ⟨r,h0,h⟩:=Qae h
 obtain ⟨r1,h1,h⟩:=Qae h
 obtain ⟨r2,h2,h⟩:=Qae h
 obtain ⟨r3,h3,h⟩:=Qae h
 obtain ⟨r4,h4,h⟩:=Qae h
 obtain ⟨r5,h5,h⟩:=Qae h
 rcases Qaf h with ⟨h6,h⟩|⟨h6,h⟩
 ·obtain rfl:=Option.some.inj h
  exact gr 22 [] [cC (QbU h0),cC (QaM h1),cC (QaM h2),hW 16,hH (.frz 2),hH (.nilS 35 1 1),rp 4 (oO (Eq.refl ([r.2].map Qab.enc).length)),cC (QaX h3),hW 9,hH (.nilS 41 1 1),cC (QaX h4),cC (QaM h5),rp 20 hP,oI ((neI r1.2 0) = false),oR True ((neI r1.2 0) = false),oI (((neI r1.2 0) || (neI r2.2 0)) = false),oR True (((neI r1.2 0) || (neI r2.2 0)) = false),oI ((((neI r1.2 0) || (neI r2.2 0)) || (neI r3.2 0)) = false),oR True ((((neI r1.2 0) || (neI r2.2 0)) || (neI r3.2 0)) = false),oI (((((neI r1.2 0) || (neI r2.2 0)) || (neI r3.2 0)) || (neI r4.2 0)) = false),oR True (((((neI r1.2 0) || (neI r2.2 0)) || (neI r3.2 0)) || (neI r4.2 0)) = false),oI ((((((neI r1.2 0) || (neI r2.2 0)) || (neI r3.2 0)) || (neI r4.2 0)) || (neI r5.2 2)) = false),oR True ((((((neI r1.2 0) || (neI r2.2 0)) || (neI r3.2 0)) || (neI r4.2 0)) || (neI r5.2 2)) = false),oI (((((((neI r1.2 0) || (neI r2.2 0)) || (neI r3.2 0)) || (neI r4.2 0)) || (neI r5.2 2)) || (neI r1.1 0)) = false),oR True (((((((neI r1.2 0) || (neI r2.2 0)) || (neI r3.2 0)) || (neI r4.2 0)) || (neI r5.2 2)) || (neI r1.1 0)) = false),oI ((((((((neI r1.2 0) || (neI r2.2 0)) || (neI r3.2 0)) || (neI r4.2 0)) || (neI r5.2 2)) || (neI r1.1 0)) || (neI r2.1 1)) = false),nL Qab.enc r3.1,rp 4 hP,oI ((((((((neI r1.2 0) || (neI r2.2 0)) || (neI r3.2 0)) || (neI r4.2 0)) || (neI r5.2 2)) || (neI r1.1 0)) || (neI r2.1 1)) = false),oR True ((((((((neI r1.2 0) || (neI r2.2 0)) || (neI r3.2 0)) || (neI r4.2 0)) || (neI r5.2 2)) || (neI r1.1 0)) || (neI r2.1 1)) = false),oI (((((((((neI r1.2 0) || (neI r2.2 0)) || (neI r3.2 0)) || (neI r4.2 0)) || (neI r5.2 2)) || (neI r1.1 0)) || (neI r2.1 1)) || (neI (lenI r3.1) 1)) = false),nL Qab.enc r4.1,hP,hP,oI (((((((((neI r1.2 0) || (neI r2.2 0)) || (neI r3.2 0)) || (neI r4.2 0)) || (neI r5.2 2)) || (neI r1.1 0)) || (neI r2.1 1)) || (neI (lenI r3.1) 1)) = false),oR True (((((((((neI r1.2 0) || (neI r2.2 0)) || (neI r3.2 0)) || (neI r4.2 0)) || (neI r5.2 2)) || (neI r1.1 0)) || (neI r2.1 1)) || (neI (lenI r3.1) 1)) = false),bT h6]
 ·obtain ⟨x0,h7,h⟩:=Qae h
  rcases Qaf h with ⟨h8,h⟩|⟨h8,h⟩
  ·obtain ⟨x1,h9,h⟩:=Qae h
   rcases Qaf h with ⟨h10,h⟩|⟨h10,h⟩
   ·obtain ⟨r6,h11,h⟩:=Qae h
    rcases Qaf h with ⟨h12,h⟩|⟨h12,h⟩
    ·obtain ⟨r7,h13,h⟩:=Qae h
     rcases Qaf h with ⟨h14,h⟩|⟨h14,h⟩
     ·obtain ⟨r8,h15,h⟩:=Qae h
      obtain rfl:=Option.some.inj h
      exact gr 23 [] [cC (QbU h0),cC (QaM h1),cC (QaM h2),hW 16,hH (.frz 2),hH (.nilS 35 1 1),rp 4 (oO (Eq.refl ([r.2].map Qab.enc).length)),cC (QaX h3),hW 9,hH (.nilS 41 1 1),cC (QaX h4),cC (QaM h5),rp 20 hP,oI ((neI r1.2 0) = false),oR True ((neI r1.2 0) = false),oI (((neI r1.2 0) || (neI r2.2 0)) = false),oR True (((neI r1.2 0) || (neI r2.2 0)) = false),oI ((((neI r1.2 0) || (neI r2.2 0)) || (neI r3.2 0)) = false),oR True ((((neI r1.2 0) || (neI r2.2 0)) || (neI r3.2 0)) = false),oI (((((neI r1.2 0) || (neI r2.2 0)) || (neI r3.2 0)) || (neI r4.2 0)) = false),oR True (((((neI r1.2 0) || (neI r2.2 0)) || (neI r3.2 0)) || (neI r4.2 0)) = false),oI ((((((neI r1.2 0) || (neI r2.2 0)) || (neI r3.2 0)) || (neI r4.2 0)) || (neI r5.2 2)) = false),oR True ((((((neI r1.2 0) || (neI r2.2 0)) || (neI r3.2 0)) || (neI r4.2 0)) || (neI r5.2 2)) = false),oI (((((((neI r1.2 0) || (neI r2.2 0)) || (neI r3.2 0)) || (neI r4.2 0)) || (neI r5.2 2)) || (neI r1.1 0)) = false),oR True (((((((neI r1.2 0) || (neI r2.2 0)) || (neI r3.2 0)) || (neI r4.2 0)) || (neI r5.2 2)) || (neI r1.1 0)) = false),oI ((((((((neI r1.2 0) || (neI r2.2 0)) || (neI r3.2 0)) || (neI r4.2 0)) || (neI r5.2 2)) || (neI r1.1 0)) || (neI r2.1 1)) = false),nL Qab.enc r3.1,rp 4 hP,oI ((((((((neI r1.2 0) || (neI r2.2 0)) || (neI r3.2 0)) || (neI r4.2 0)) || (neI r5.2 2)) || (neI r1.1 0)) || (neI r2.1 1)) = false),oR True ((((((((neI r1.2 0) || (neI r2.2 0)) || (neI r3.2 0)) || (neI r4.2 0)) || (neI r5.2 2)) || (neI r1.1 0)) || (neI r2.1 1)) = false),oI (((((((((neI r1.2 0) || (neI r2.2 0)) || (neI r3.2 0)) || (neI r4.2 0)) || (neI r5.2 2)) || (neI r1.1 0)) || (neI r2.1 1)) || (neI (lenI r3.1) 1)) = false),nL Qab.enc r4.1,hP,hP,oI (((((((((neI r1.2 0) || (neI r2.2 0)) || (neI r3.2 0)) || (neI r4.2 0)) || (neI r5.2 2)) || (neI r1.1 0)) || (neI r2.1 1)) || (neI (lenI r3.1) 1)) = false),oR True (((((((((neI r1.2 0) || (neI r2.2 0)) || (neI r3.2 0)) || (neI r4.2 0)) || (neI r5.2 2)) || (neI r1.1 0)) || (neI r2.1 1)) || (neI (lenI r3.1) 1)) = false),bF h6,cE Qab.enc h7,nL QaI x0.rests,bT h8,bT h8,cE Qab.enc h9,rp 3 (bT h8),nL QaI x1.rests,bT h8,bT h8,rp 2 (bT h10),hH (.nilS 102 1 1),bT h10,cC (Qcb h11),rp 2 (bT h10),rp 3 (bT h12),hH (.nilS 109 1 1),bT h12,cC (Qcb h13),rp 2 (bT h12),rp 2 (bT h14),cC (QfS h15),rp 2 (bT h14)]
     ·obtain rfl:=Option.some.inj h
      exact gr 23 [] [cC (QbU h0),cC (QaM h1),cC (QaM h2),hW 16,hH (.frz 2),hH (.nilS 35 1 1),rp 4 (oO (Eq.refl ([r.2].map Qab.enc).length)),cC (QaX h3),hW 9,hH (.nilS 41 1 1),cC (QaX h4),cC (QaM h5),rp 20 hP,oI ((neI r1.2 0) = false),oR True ((neI r1.2 0) = false),oI (((neI r1.2 0) || (neI r2.2 0)) = false),oR True (((neI r1.2 0) || (neI r2.2 0)) = false),oI ((((neI r1.2 0) || (neI r2.2 0)) || (neI r3.2 0)) = false),oR True ((((neI r1.2 0) || (neI r2.2 0)) || (neI r3.2 0)) = false),oI (((((neI r1.2 0) || (neI r2.2 0)) || (neI r3.2 0)) || (neI r4.2 0)) = false),oR True (((((neI r1.2 0) || (neI r2.2 0)) || (neI r3.2 0)) || (neI r4.2 0)) = false),oI ((((((neI r1.2 0) || (neI r2.2 0)) || (neI r3.2 0)) || (neI r4.2 0)) || (neI r5.2 2)) = false),oR True ((((((neI r1.2 0) || (neI r2.2 0)) || (neI r3.2 0)) || (neI r4.2 0)) || (neI r5.2 2)) = false),oI (((((((neI r1.2 0) || (neI r2.2 0)) || (neI r3.2 0)) || (neI r4.2 0)) || (neI r5.2 2)) || (neI r1.1 0)) = false),oR True (((((((neI r1.2 0) || (neI r2.2 0)) || (neI r3.2 0)) || (neI r4.2 0)) || (neI r5.2 2)) || (neI r1.1 0)) = false),oI ((((((((neI r1.2 0) || (neI r2.2 0)) || (neI r3.2 0)) || (neI r4.2 0)) || (neI r5.2 2)) || (neI r1.1 0)) || (neI r2.1 1)) = false),nL Qab.enc r3.1,rp 4 hP,oI ((((((((neI r1.2 0) || (neI r2.2 0)) || (neI r3.2 0)) || (neI r4.2 0)) || (neI r5.2 2)) || (neI r1.1 0)) || (neI r2.1 1)) = false),oR True ((((((((neI r1.2 0) || (neI r2.2 0)) || (neI r3.2 0)) || (neI r4.2 0)) || (neI r5.2 2)) || (neI r1.1 0)) || (neI r2.1 1)) = false),oI (((((((((neI r1.2 0) || (neI r2.2 0)) || (neI r3.2 0)) || (neI r4.2 0)) || (neI r5.2 2)) || (neI r1.1 0)) || (neI r2.1 1)) || (neI (lenI r3.1) 1)) = false),nL Qab.enc r4.1,hP,hP,oI (((((((((neI r1.2 0) || (neI r2.2 0)) || (neI r3.2 0)) || (neI r4.2 0)) || (neI r5.2 2)) || (neI r1.1 0)) || (neI r2.1 1)) || (neI (lenI r3.1) 1)) = false),oR True (((((((((neI r1.2 0) || (neI r2.2 0)) || (neI r3.2 0)) || (neI r4.2 0)) || (neI r5.2 2)) || (neI r1.1 0)) || (neI r2.1 1)) || (neI (lenI r3.1) 1)) = false),bF h6,cE Qab.enc h7,nL QaI x0.rests,bT h8,bT h8,cE Qab.enc h9,rp 3 (bT h8),nL QaI x1.rests,bT h8,bT h8,rp 2 (bT h10),hH (.nilS 102 1 1),bT h10,cC (Qcb h11),rp 2 (bT h10),rp 3 (bT h12),hH (.nilS 109 1 1),bT h12,cC (Qcb h13),rp 2 (bT h12),rp 4 (bF h14)]
    ·obtain rfl:=Option.some.inj h
     exact gr 23 [] [cC (QbU h0),cC (QaM h1),cC (QaM h2),hW 16,hH (.frz 2),hH (.nilS 35 1 1),rp 4 (oO (Eq.refl ([r.2].map Qab.enc).length)),cC (QaX h3),hW 9,hH (.nilS 41 1 1),cC (QaX h4),cC (QaM h5),rp 20 hP,oI ((neI r1.2 0) = false),oR True ((neI r1.2 0) = false),oI (((neI r1.2 0) || (neI r2.2 0)) = false),oR True (((neI r1.2 0) || (neI r2.2 0)) = false),oI ((((neI r1.2 0) || (neI r2.2 0)) || (neI r3.2 0)) = false),oR True ((((neI r1.2 0) || (neI r2.2 0)) || (neI r3.2 0)) = false),oI (((((neI r1.2 0) || (neI r2.2 0)) || (neI r3.2 0)) || (neI r4.2 0)) = false),oR True (((((neI r1.2 0) || (neI r2.2 0)) || (neI r3.2 0)) || (neI r4.2 0)) = false),oI ((((((neI r1.2 0) || (neI r2.2 0)) || (neI r3.2 0)) || (neI r4.2 0)) || (neI r5.2 2)) = false),oR True ((((((neI r1.2 0) || (neI r2.2 0)) || (neI r3.2 0)) || (neI r4.2 0)) || (neI r5.2 2)) = false),oI (((((((neI r1.2 0) || (neI r2.2 0)) || (neI r3.2 0)) || (neI r4.2 0)) || (neI r5.2 2)) || (neI r1.1 0)) = false),oR True (((((((neI r1.2 0) || (neI r2.2 0)) || (neI r3.2 0)) || (neI r4.2 0)) || (neI r5.2 2)) || (neI r1.1 0)) = false),oI ((((((((neI r1.2 0) || (neI r2.2 0)) || (neI r3.2 0)) || (neI r4.2 0)) || (neI r5.2 2)) || (neI r1.1 0)) || (neI r2.1 1)) = false),nL Qab.enc r3.1,rp 4 hP,oI ((((((((neI r1.2 0) || (neI r2.2 0)) || (neI r3.2 0)) || (neI r4.2 0)) || (neI r5.2 2)) || (neI r1.1 0)) || (neI r2.1 1)) = false),oR True ((((((((neI r1.2 0) || (neI r2.2 0)) || (neI r3.2 0)) || (neI r4.2 0)) || (neI r5.2 2)) || (neI r1.1 0)) || (neI r2.1 1)) = false),oI (((((((((neI r1.2 0) || (neI r2.2 0)) || (neI r3.2 0)) || (neI r4.2 0)) || (neI r5.2 2)) || (neI r1.1 0)) || (neI r2.1 1)) || (neI (lenI r3.1) 1)) = false),nL Qab.enc r4.1,hP,hP,oI (((((((((neI r1.2 0) || (neI r2.2 0)) || (neI r3.2 0)) || (neI r4.2 0)) || (neI r5.2 2)) || (neI r1.1 0)) || (neI r2.1 1)) || (neI (lenI r3.1) 1)) = false),oR True (((((((((neI r1.2 0) || (neI r2.2 0)) || (neI r3.2 0)) || (neI r4.2 0)) || (neI r5.2 2)) || (neI r1.1 0)) || (neI r2.1 1)) || (neI (lenI r3.1) 1)) = false),bF h6,cE Qab.enc h7,nL QaI x0.rests,bT h8,bT h8,cE Qab.enc h9,rp 3 (bT h8),nL QaI x1.rests,bT h8,bT h8,rp 2 (bT h10),hH (.nilS 102 1 1),bT h10,cC (Qcb h11),rp 2 (bT h10),rp 6 (bF h12),rp 4 fF]
   ·obtain rfl:=Option.some.inj h
    exact gr 23 [] [cC (QbU h0),cC (QaM h1),cC (QaM h2),hW 16,hH (.frz 2),hH (.nilS 35 1 1),rp 4 (oO (Eq.refl ([r.2].map Qab.enc).length)),cC (QaX h3),hW 9,hH (.nilS 41 1 1),cC (QaX h4),cC (QaM h5),rp 20 hP,oI ((neI r1.2 0) = false),oR True ((neI r1.2 0) = false),oI (((neI r1.2 0) || (neI r2.2 0)) = false),oR True (((neI r1.2 0) || (neI r2.2 0)) = false),oI ((((neI r1.2 0) || (neI r2.2 0)) || (neI r3.2 0)) = false),oR True ((((neI r1.2 0) || (neI r2.2 0)) || (neI r3.2 0)) = false),oI (((((neI r1.2 0) || (neI r2.2 0)) || (neI r3.2 0)) || (neI r4.2 0)) = false),oR True (((((neI r1.2 0) || (neI r2.2 0)) || (neI r3.2 0)) || (neI r4.2 0)) = false),oI ((((((neI r1.2 0) || (neI r2.2 0)) || (neI r3.2 0)) || (neI r4.2 0)) || (neI r5.2 2)) = false),oR True ((((((neI r1.2 0) || (neI r2.2 0)) || (neI r3.2 0)) || (neI r4.2 0)) || (neI r5.2 2)) = false),oI (((((((neI r1.2 0) || (neI r2.2 0)) || (neI r3.2 0)) || (neI r4.2 0)) || (neI r5.2 2)) || (neI r1.1 0)) = false),oR True (((((((neI r1.2 0) || (neI r2.2 0)) || (neI r3.2 0)) || (neI r4.2 0)) || (neI r5.2 2)) || (neI r1.1 0)) = false),oI ((((((((neI r1.2 0) || (neI r2.2 0)) || (neI r3.2 0)) || (neI r4.2 0)) || (neI r5.2 2)) || (neI r1.1 0)) || (neI r2.1 1)) = false),nL Qab.enc r3.1,rp 4 hP,oI ((((((((neI r1.2 0) || (neI r2.2 0)) || (neI r3.2 0)) || (neI r4.2 0)) || (neI r5.2 2)) || (neI r1.1 0)) || (neI r2.1 1)) = false),oR True ((((((((neI r1.2 0) || (neI r2.2 0)) || (neI r3.2 0)) || (neI r4.2 0)) || (neI r5.2 2)) || (neI r1.1 0)) || (neI r2.1 1)) = false),oI (((((((((neI r1.2 0) || (neI r2.2 0)) || (neI r3.2 0)) || (neI r4.2 0)) || (neI r5.2 2)) || (neI r1.1 0)) || (neI r2.1 1)) || (neI (lenI r3.1) 1)) = false),nL Qab.enc r4.1,hP,hP,oI (((((((((neI r1.2 0) || (neI r2.2 0)) || (neI r3.2 0)) || (neI r4.2 0)) || (neI r5.2 2)) || (neI r1.1 0)) || (neI r2.1 1)) || (neI (lenI r3.1) 1)) = false),oR True (((((((((neI r1.2 0) || (neI r2.2 0)) || (neI r3.2 0)) || (neI r4.2 0)) || (neI r5.2 2)) || (neI r1.1 0)) || (neI r2.1 1)) || (neI (lenI r3.1) 1)) = false),bF h6,cE Qab.enc h7,nL QaI x0.rests,bT h8,bT h8,cE Qab.enc h9,rp 3 (bT h8),nL QaI x1.rests,bT h8,bT h8,rp 5 (bF h10),rp 10 fF]
  ·obtain rfl:=Option.some.inj h
   exact gr 23 [] [cC (QbU h0),cC (QaM h1),cC (QaM h2),hW 16,hH (.frz 2),hH (.nilS 35 1 1),rp 4 (oO (Eq.refl ([r.2].map Qab.enc).length)),cC (QaX h3),hW 9,hH (.nilS 41 1 1),cC (QaX h4),cC (QaM h5),rp 20 hP,oI ((neI r1.2 0) = false),oR True ((neI r1.2 0) = false),oI (((neI r1.2 0) || (neI r2.2 0)) = false),oR True (((neI r1.2 0) || (neI r2.2 0)) = false),oI ((((neI r1.2 0) || (neI r2.2 0)) || (neI r3.2 0)) = false),oR True ((((neI r1.2 0) || (neI r2.2 0)) || (neI r3.2 0)) = false),oI (((((neI r1.2 0) || (neI r2.2 0)) || (neI r3.2 0)) || (neI r4.2 0)) = false),oR True (((((neI r1.2 0) || (neI r2.2 0)) || (neI r3.2 0)) || (neI r4.2 0)) = false),oI ((((((neI r1.2 0) || (neI r2.2 0)) || (neI r3.2 0)) || (neI r4.2 0)) || (neI r5.2 2)) = false),oR True ((((((neI r1.2 0) || (neI r2.2 0)) || (neI r3.2 0)) || (neI r4.2 0)) || (neI r5.2 2)) = false),oI (((((((neI r1.2 0) || (neI r2.2 0)) || (neI r3.2 0)) || (neI r4.2 0)) || (neI r5.2 2)) || (neI r1.1 0)) = false),oR True (((((((neI r1.2 0) || (neI r2.2 0)) || (neI r3.2 0)) || (neI r4.2 0)) || (neI r5.2 2)) || (neI r1.1 0)) = false),oI ((((((((neI r1.2 0) || (neI r2.2 0)) || (neI r3.2 0)) || (neI r4.2 0)) || (neI r5.2 2)) || (neI r1.1 0)) || (neI r2.1 1)) = false),nL Qab.enc r3.1,rp 4 hP,oI ((((((((neI r1.2 0) || (neI r2.2 0)) || (neI r3.2 0)) || (neI r4.2 0)) || (neI r5.2 2)) || (neI r1.1 0)) || (neI r2.1 1)) = false),oR True ((((((((neI r1.2 0) || (neI r2.2 0)) || (neI r3.2 0)) || (neI r4.2 0)) || (neI r5.2 2)) || (neI r1.1 0)) || (neI r2.1 1)) = false),oI (((((((((neI r1.2 0) || (neI r2.2 0)) || (neI r3.2 0)) || (neI r4.2 0)) || (neI r5.2 2)) || (neI r1.1 0)) || (neI r2.1 1)) || (neI (lenI r3.1) 1)) = false),nL Qab.enc r4.1,hP,hP,oI (((((((((neI r1.2 0) || (neI r2.2 0)) || (neI r3.2 0)) || (neI r4.2 0)) || (neI r5.2 2)) || (neI r1.1 0)) || (neI r2.1 1)) || (neI (lenI r3.1) 1)) = false),oR True (((((((((neI r1.2 0) || (neI r2.2 0)) || (neI r3.2 0)) || (neI r4.2 0)) || (neI r5.2 2)) || (neI r1.1 0)) || (neI r2.1 1)) || (neI (lenI r3.1) 1)) = false),bF h6,cE Qab.enc h7,nL QaI x0.rests,rp 7 (bF h8),rp 15 fF]
end Go.Proofs.YtoogjnlmicgfiaaGreatDoor
