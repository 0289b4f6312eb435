/- Part MW of the proof: texts W2. -/
import Derived.Test.YtoogjnlmicgfiaaGreatDoorMV
import Derived.Test.YtoogjnlmicgfiaaGreatDoorProg
namespace Go.Proofs.YtoogjnlmicgfiaaGreatDoor
set_option linter.unusedVariables false
set_option linter.unusedSectionVars false
set_option linter.unusedSimpArgs false
set_option maxHeartbeats 4000000
set_option maxRecDepth 100000
def Qga (Γ:Gam) (rv:Bool) (cf:Cf):Prop:=Go Tryz.prog Tryz.f17 [] Γ (one (.bool rv)) [] cf
def QeE (Γ:Gam) (rv:Bool) (l:List Qab) (v:Int):Prop:=Qga Γ rv ⟨[.c 116,.l 116,.b 0,.c 15],⟨25,[vL 8 4 l Qab.enc,vI 9 (lenI l),vI 10 v],[]⟩⟩
def Qd9 (Γ:Gam) (rv:Bool) (l:List Qab):Prop:=Qga Γ rv ⟨[.c 15],⟨25,[],[]⟩⟩
theorem Qg4 (Γ:Gam) (rv:Bool) {l} {s:Int} {e:(Unit) ⊕ (Bool)} (h:loopF (fun s=>Qbh l s) s = some e) (hD:sel e (fun e=>Qd9 Γ rv l) (fun e=>e = rv)):QeE Γ rv l s:=by
 refine QaL (C:=fun (s:Int)=>QeE Γ rv l s) (D:=fun (e:(Unit) ⊕ (Bool))=>sel e (fun e=>Qd9 Γ rv l) (fun e=>e = rv)) ?_ h hD
 clear h hD s e
 intro v z_ h hI hE
 replace h:Qbh l v = _:=h
 unfold Qbh at h
 rcases Qaf h with ⟨h1,h⟩|⟨h1,h⟩
 ·obtain ⟨x0,h2,h⟩:=Qae h
  rcases Qaf h with ⟨h3,h⟩|⟨h3,h⟩
  ·obtain rfl:=(hE _ (oJ h):_ = rv)
   exact gr 14 [] [bT h1,cE Qab.enc h2,nL Qaa.enc x0.visits,hP,hP,hP,rp 2 (oI ((gtI (lenI x0.visits) 20) = false)),nL QaI x0.rests,hP,hP,oI ((gtI (lenI x0.visits) 20) = false),oR True ((gtI (lenI x0.visits) 20) = false),bT h3]
  ·exact gn 16 [8,9,10] [] [bT h1,cE Qab.enc h2,nL Qaa.enc x0.visits,hP,hP,hP,rp 2 (oI ((gtI (lenI x0.visits) 20) = false)),nL QaI x0.rests,hP,hP,oI ((gtI (lenI x0.visits) 20) = false),oR True ((gtI (lenI x0.visits) 20) = false),bF h3] (hI _ (oJ h))
 ·exact gn 5 [] [] [bF h1] (hE _ (oJ h))
theorem Qbi {l} {rv:Bool} (h:QcC l = some rv):AFn Tryz.prog 17 [.one (lL 4 l Qab.enc)] [] (one (.bool rv)) []:=by
 refine QaO Tryz.func17 (by kernel_rfl) (by kernel_rfl) (fun Γ=>?_)
 unfold QcC at h
 rcases Qaf h with ⟨h0,h⟩|⟨h0,h⟩
 ·obtain rfl:=Option.some.inj h
  exact gr 8 [] [nL Qab.enc l,bT h0]
 ·obtain ⟨e0,h4,h⟩:=Qae h
  refine gn 12 [8,9,10] [] [nL Qab.enc l,bF h0,nL Qab.enc l] (Qg4 Γ rv h4 ?_)
  rcases e0 with e0|e0
  ·replace h:(some true:Option Bool) = some _:=h
   obtain rfl:=Option.some.inj h
   exact gr 2 [] []
  ·obtain ⟨r,rfl⟩:∃ x,x = e0:=⟨_,rfl⟩
   replace h:(some r:Option Bool) = some _:=h
   exact Option.some.inj h
def QcN (Γ:Gam) (rv:Bool) (cf:Cf):Prop:=Go Tryz.prog Tryz.f22 [] Γ (one (.bool rv)) [] cf
def Qea (Γ:Gam) (rv:Bool) (r:Qab) (begin:Qab) (i:Int):Prop:=QcN Γ rv ⟨[.c 116,.l 116,.b 0,.c 15],⟨98,[vP 2 0 4,vP 3 1 4,vI 5 i],[oX 4 34 (Qab.enc r),oX 4 34 (Qab.enc begin)]⟩⟩
def QdG (Γ:Gam) (rv:Bool) (r:Qab) (begin:Qab):Prop:=QcN Γ rv ⟨[.c 15],⟨98,[vP 2 0 4,vP 3 1 4],[oX 4 34 (Qab.enc r),oX 4 34 (Qab.enc begin)]⟩⟩
def Qeb (Γ:Gam) (rv:Bool) (r:Qab) (begin:Qab) (i1:Int):Prop:=QcN Γ rv ⟨[.c 244,.l 244,.b 2,.c 31],⟨98,[vP 2 0 4,vP 3 1 4,vI 6 i1],[oX 4 34 (Qab.enc r),oX 4 34 (Qab.enc begin)]⟩⟩
def QdH (Γ:Gam) (rv:Bool) (r:Qab) (begin:Qab):Prop:=QcN Γ rv ⟨[.c 31],⟨98,[vP 2 0 4,vP 3 1 4],[oX 4 34 (Qab.enc r),oX 4 34 (Qab.enc begin)]⟩⟩
theorem QgN (Γ:Gam) (rv:Bool) {r begin} {s:Int} {e:(Unit) ⊕ (Bool)} (h:loopF (fun s=>Qba r begin s) s = some e) (hD:sel e (fun e=>QdG Γ rv r begin) (fun e=>e = rv)):Qea Γ rv r begin s:=by
 refine QaL (C:=fun (s:Int)=>Qea Γ rv r begin s) (D:=fun (e:(Unit) ⊕ (Bool))=>sel e (fun e=>QdG Γ rv r begin) (fun e=>e = rv)) ?_ h hD
 clear h hD s e
 intro i z_ h hI hE
 replace h:Qba r begin i = _:=h
 unfold Qba at h
 rcases Qaf h with ⟨h1,h⟩|⟨h1,h⟩
 ·obtain ⟨x0,h2,h⟩:=Qae h
  obtain ⟨x1,h3,h⟩:=Qae h
  rcases Qaf h with ⟨h4,h⟩|⟨h4,h⟩
  ·exact gn 14 [2,3,5] [0,1] [nL Qaa.enc begin.visits,bT h1,hH (.draw 11 []),cE Qaa.enc h2,cE Qaa.enc h3,nF h4] (hI _ (oJ h))
  ·obtain rfl:=(hE _ (oJ h):_ = rv)
   exact gr 12 [] [nL Qaa.enc begin.visits,bT h1,hH (.draw 11 []),cE Qaa.enc h2,cE Qaa.enc h3,nT h4]
 ·exact gn 5 [2,3] [0,1] [nL Qaa.enc begin.visits,bF h1] (hE _ (oJ h))
theorem QgO (Γ:Gam) (rv:Bool) {r begin} {s:Int} {e:(Unit) ⊕ (Bool)} (h:loopF (fun s=>QaZ r begin s) s = some e) (hD:sel e (fun e=>QdH Γ rv r begin) (fun e=>e = rv)):Qeb Γ rv r begin s:=by
 refine QaL (C:=fun (s:Int)=>Qeb Γ rv r begin s) (D:=fun (e:(Unit) ⊕ (Bool))=>sel e (fun e=>QdH Γ rv r begin) (fun e=>e = rv)) ?_ h hD
 clear h hD s e
 intro i1 z_ h hI hE
 replace h:QaZ r begin i1 = _:=h
 unfold QaZ at h
 rcases Qaf h with ⟨h6,h⟩|⟨h6,h⟩
 ·obtain ⟨x2,h7,h⟩:=Qae h
  obtain ⟨x3,h8,h⟩:=Qae h
  rcases Qaf h with ⟨h9,h⟩|⟨h9,h⟩
  ·exact gn 14 [2,3,6] [0,1] [nL QaI begin.rests,bT h6,hH (.draw 11 []),cE QaI h7,cE QaI h8,nF h9] (hI _ (oJ h))
  ·obtain rfl:=(hE _ (oJ h):_ = rv)
   exact gr 12 [] [nL QaI begin.rests,bT h6,hH (.draw 11 []),cE QaI h7,cE QaI h8,nT h9]
 ·exact gn 5 [2,3] [0,1] [nL QaI begin.rests,bF h6] (hE _ (oJ h))
theorem Qdr {r begin} {rv:Bool} (h:QcI r begin = some rv):AFn Tryz.prog 22 [.agg (Qab.enc r),.agg (Qab.enc begin)] [] (one (.bool rv)) []:=by
 refine QaO Tryz.func22 (by kernel_rfl) (by kernel_rfl) (fun Γ=>?_)
 unfold QcI at h
 rcases Qaf h with ⟨h0,h⟩|⟨h0,h⟩
 ·obtain rfl:=Option.some.inj h
  exact gr 8 [] [rp 9 hP,rp 4 (oI ((neI r.type_ begin.type_) = false)),oR True ((neI r.type_ begin.type_) = false),rp 2 (oI (((neI r.type_ begin.type_) || (neI r.start begin.start)) = false)),nL Qaa.enc r.visits,hP,hP,hP,rp 2 (oI (((neI r.type_ begin.type_) || (neI r.start begin.start)) = false)),nL Qaa.enc begin.visits,rp 5 hP,rp 2 (oI (((neI r.type_ begin.type_) || (neI r.start begin.start)) = false)),oR True (((neI r.type_ begin.type_) || (neI r.start begin.start)) = false),rp 2 (oI ((((neI r.type_ begin.type_) || (neI r.start begin.start)) || (ltI (lenI r.visits) (lenI begin.visits))) = false)),nL QaI r.rests,hP,hP,hP,rp 2 (oI ((((neI r.type_ begin.type_) || (neI r.start begin.start)) || (ltI (lenI r.visits) (lenI begin.visits))) = false)),nL QaI begin.rests,hP,hP,rp 2 (oI ((((neI r.type_ begin.type_) || (neI r.start begin.start)) || (ltI (lenI r.visits) (lenI begin.visits))) = false)),oR True ((((neI r.type_ begin.type_) || (neI r.start begin.start)) || (ltI (lenI r.visits) (lenI begin.visits))) = false),bT h0]
 ·obtain ⟨e0,h5,h⟩:=Qae h
  refine gn 12 [2,3,5] [0,1] [rp 9 hP,rp 4 (oI ((neI r.type_ begin.type_) = false)),oR True ((neI r.type_ begin.type_) = false),rp 2 (oI (((neI r.type_ begin.type_) || (neI r.start begin.start)) = false)),nL Qaa.enc r.visits,hP,hP,hP,rp 2 (oI (((neI r.type_ begin.type_) || (neI r.start begin.start)) = false)),nL Qaa.enc begin.visits,rp 5 hP,rp 2 (oI (((neI r.type_ begin.type_) || (neI r.start begin.start)) = false)),oR True (((neI r.type_ begin.type_) || (neI r.start begin.start)) = false),rp 2 (oI ((((neI r.type_ begin.type_) || (neI r.start begin.start)) || (ltI (lenI r.visits) (lenI begin.visits))) = false)),nL QaI r.rests,hP,hP,hP,rp 2 (oI ((((neI r.type_ begin.type_) || (neI r.start begin.start)) || (ltI (lenI r.visits) (lenI begin.visits))) = false)),nL QaI begin.rests,hP,hP,rp 2 (oI ((((neI r.type_ begin.type_) || (neI r.start begin.start)) || (ltI (lenI r.visits) (lenI begin.visits))) = false)),oR True ((((neI r.type_ begin.type_) || (neI r.start begin.start)) || (ltI (lenI r.visits) (lenI begin.visits))) = false),bF h0] (QgN Γ rv h5 ?_)
  rcases e0 with e0|e0
  ·replace h:(bnd (loopF (fun s=>QaZ r begin s) 0) (fun e=>sel e (fun (_:Unit)=>some ((leI (lenI begin.rests) (lenI begin.visits)) || ((eqI (lenI r.visits) (lenI begin.visits)) && (eqI (lenI r.rests) (lenI begin.rests))))) (fun r1=>some r1)):Option Bool) = some _:=h
   obtain ⟨e1,h10,h⟩:=Qae h
   refine gn 5 [2,3,6] [0,1] [] (QgO Γ rv h10 ?_)
   rcases e1 with e1|e1
   ·replace h:(some ((leI (lenI begin.rests) (lenI begin.visits)) || ((eqI (lenI r.visits) (lenI begin.visits)) && (eqI (lenI r.rests) (lenI begin.rests)))):Option Bool) = some _:=h
    obtain rfl:=Option.some.inj h
    exact gr 2 [] [nL QaI begin.rests,nL Qaa.enc begin.visits,hP,hP,hP,rp 2 (oI ((leI (lenI begin.rests) (lenI begin.visits)) = false)),nL Qaa.enc r.visits,hP,hP,hP,rp 2 (oI ((leI (lenI begin.rests) (lenI begin.visits)) = false)),nL Qaa.enc begin.visits,rp 5 hP,rp 3 (oI ((leI (lenI begin.rests) (lenI begin.visits)) = false)),rp 2 (oI (((leI (lenI begin.rests) (lenI begin.visits)) = false)∧(eqI (lenI r.visits) (lenI begin.visits)) = true)),nL QaI r.rests,hP,hP,hP,rp 2 (oI (((leI (lenI begin.rests) (lenI begin.visits)) = false)∧(eqI (lenI r.visits) (lenI begin.visits)) = true)),nL QaI begin.rests,rp 4 hP,rp 2 (oI (((leI (lenI begin.rests) (lenI begin.visits)) = false)∧(eqI (lenI r.visits) (lenI begin.visits)) = true)),oI ((leI (lenI begin.rests) (lenI begin.visits)) = false),oI (((leI (lenI begin.rests) (lenI begin.visits)) = false)∧(eqI (lenI r.visits) (lenI begin.visits)) = true),oR True ((leI (lenI begin.rests) (lenI begin.visits)) = false)]
   ·obtain ⟨r1,rfl⟩:∃ x,x = e1:=⟨_,rfl⟩
    replace h:(some r1:Option Bool) = some _:=h
    exact Option.some.inj h
  ·obtain ⟨r2,rfl⟩:∃ x,x = e0:=⟨_,rfl⟩
   replace h:(some r2:Option Bool) = some _:=h
   exact Option.some.inj h
def QcO (Γ:Gam) (rv:Bool) (cf:Cf):Prop:=Go Tryz.prog Tryz.f35 [] Γ (one (.bool rv)) [] cf
def Qei (Γ:Gam) (rv:Bool) (r:Qab) (of:Qab) (i:Int) (k:Int):Prop:=QcO Γ rv ⟨[.c 3364,.l 3364,.b 2,.b 1,.c 211,.l 52,.b 0,.c 7],⟨34,[vP 2 0 4,vP 3 1 4,vI 5 i,vI 6 k],[oX 4 34 (Qab.enc r),oX 4 34 (Qab.enc of)]⟩⟩
def QdJ (Γ:Gam) (rv:Bool) (r:Qab) (of:Qab) (i:Int):Prop:=QcO Γ rv ⟨[.b 1,.c 211,.l 52,.b 0,.c 7],⟨34,[vP 2 0 4,vP 3 1 4,vI 5 i],[oX 4 34 (Qab.enc r),oX 4 34 (Qab.enc of)]⟩⟩
def Qeh (Γ:Gam) (rv:Bool) (r:Qab) (of:Qab) (i:Int):Prop:=QcO Γ rv ⟨[.c 52,.l 52,.b 0,.c 7],⟨34,[vP 2 0 4,vP 3 1 4,vI 5 i],[oX 4 34 (Qab.enc r),oX 4 34 (Qab.enc of)]⟩⟩
def QdI (Γ:Gam) (rv:Bool) (r:Qab) (of:Qab):Prop:=QcO Γ rv ⟨[.c 7],⟨34,[],[]⟩⟩
theorem QgQ (Γ:Gam) (rv:Bool) {r of i} {s:Int} {e:(Unit) ⊕ (Bool)} (h:loopF (fun s=>Qbc r of i s) s = some e) (hD:sel e (fun e=>QdJ Γ rv r of i) (fun e=>e = rv)):Qei Γ rv r of i s:=by
 refine QaL (C:=fun (s:Int)=>Qei Γ rv r of i s) (D:=fun (e:(Unit) ⊕ (Bool))=>sel e (fun e=>QdJ Γ rv r of i) (fun e=>e = rv)) ?_ h hD
 clear h hD s e
 intro k z_ h hI hE
 replace h:Qbc r of i k = _:=h
 unfold Qbc at h
 rcases Qaf h with ⟨h1,h⟩|⟨h1,h⟩
 ·obtain ⟨x0,h2,h⟩:=Qae h
  obtain ⟨x1,h3,h⟩:=Qae h
  rcases Qaf h with ⟨h4,h⟩|⟨h4,h⟩
  ·obtain rfl:=(hE _ (oJ h):_ = rv)
   exact gr 12 [] [nL Qaa.enc of.visits,bT h1,hH (.draw 13 []),cE Qaa.enc h2,cE Qaa.enc h3,bT h4]
  ·exact gn 14 [2,3,5,6] [0,1] [nL Qaa.enc of.visits,bT h1,hH (.draw 13 []),cE Qaa.enc h2,cE Qaa.enc h3,bF h4] (hI _ (oJ h))
 ·exact gn 5 [2,3,5] [0,1] [nL Qaa.enc of.visits,bF h1] (hE _ (oJ h))
theorem QgP (Γ:Gam) (rv:Bool) {r of} {s:Int} {e:(Unit) ⊕ (Bool)} (h:loopF (fun s=>Qbb r of s) s = some e) (hD:sel e (fun e=>QdI Γ rv r of) (fun e=>e = rv)):Qeh Γ rv r of s:=by
 refine QaL (C:=fun (s:Int)=>Qeh Γ rv r of s) (D:=fun (e:(Unit) ⊕ (Bool))=>sel e (fun e=>QdI Γ rv r of) (fun e=>e = rv)) ?_ h hD
 clear h hD s e
 intro i z_ h hI hE
 replace h:Qbb r of i = _:=h
 unfold Qbb at h
 rcases Qaf h with ⟨h0,h⟩|⟨h0,h⟩
 ·obtain ⟨e0,h5,h⟩:=Qae h
  refine gn 11 [2,3,5,6] [0,1] [nL Qaa.enc r.visits,bT h0] (QgQ Γ rv h5 ?_)
  rcases e0 with e0|e0
  ·replace h:(some (.inl (addK .i64 i 1)):Option ((Int) ⊕ ((Unit) ⊕ (Bool)))) = some _:=h
   exact gn 3 [2,3,5] [0,1] [] (hI _ (oJ h))
  ·obtain ⟨r1,rfl⟩:∃ x,x = e0:=⟨_,rfl⟩
   replace h:(some (.inr (.inr r1)):Option ((Int) ⊕ ((Unit) ⊕ (Bool)))) = some _:=h
   exact (hE _ (oJ h):_ = rv)
 ·exact gn 5 [] [] [nL Qaa.enc r.visits,bF h0] (hE _ (oJ h))
theorem Qh0 {r of} {rv:Bool} (h:QcJ r of = some rv):AFn Tryz.prog 35 [.agg (Qab.enc r),.agg (Qab.enc of)] [] (one (.bool rv)) []:=by
 refine QaO Tryz.func35 (by kernel_rfl) (by kernel_rfl) (fun Γ=>?_)
 unfold QcJ at h
 obtain ⟨e1,h6,h⟩:=Qae h
 refine gn 7 [2,3,5] [0,1] [] (QgP Γ rv h6 ?_)
 rcases e1 with e1|e1
 ·replace h:(some false:Option Bool) = some _:=h
  obtain rfl:=Option.some.inj h
  exact gr 2 [] []
 ·obtain ⟨r2,rfl⟩:∃ x,x = e1:=⟨_,rfl⟩
  replace h:(some r2:Option Bool) = some _:=h
  exact Option.some.inj h
def Qc9 (Γ:Gam) (rv:Int) (cf:Cf):Prop:=Go Tryz.prog Tryz.f19 [] Γ (one (lI rv)) [] cf
def QeJ (Γ:Gam) (rv:Int) (p:Qax) (l:List Qab) (i:Int) (n:Int) (other:Bool) (k:Int):Prop:=Qc9 Γ rv ⟨[.c 26932,.l 26932,.b 2,.c 3367,.b 1,.c 211,.l 52,.b 0,.c 7],⟨52,[vL 1 4 l Qab.enc,vP 2 0 2,vI 5 i,vI 6 n,vB 7 other,vI 8 k],[oX 2 45 (Qax.enc p)]⟩⟩
def Qeg (Γ:Gam) (rv:Int) (p:Qax) (l:List Qab) (i:Int) (n1:Int) (other1:Bool):Prop:=Qc9 Γ rv ⟨[.c 3367,.b 1,.c 211,.l 52,.b 0,.c 7],⟨52,[vL 1 4 l Qab.enc,vP 2 0 2,vI 5 i,vI 6 n1,vB 7 other1],[oX 2 45 (Qax.enc p)]⟩⟩
def QeI (Γ:Gam) (rv:Int) (p:Qax) (l:List Qab) (i:Int):Prop:=Qc9 Γ rv ⟨[.c 52,.l 52,.b 0,.c 7],⟨52,[vL 1 4 l Qab.enc,vP 2 0 2,vI 5 i],[oX 2 45 (Qax.enc p)]⟩⟩
def Qef (Γ:Gam) (rv:Int) (p:Qax) (l:List Qab):Prop:=Qc9 Γ rv ⟨[.c 7],⟨52,[],[]⟩⟩
theorem Qg9 (Γ:Gam) (rv:Int) {p l i} {s:Int × Bool × Int} {e:Int × Bool} (h:loopF (fun s=>Qa8 p l i s.1 s.2.1 s.2.2) s = some e) (hD:Qeg Γ rv p l i e.1 e.2):QeJ Γ rv p l i s.1 s.2.1 s.2.2:=by
 refine QaL (C:=fun (s:Int × Bool × Int)=>QeJ Γ rv p l i s.1 s.2.1 s.2.2) (D:=fun (e:Int × Bool)=>Qeg Γ rv p l i e.1 e.2) ?_ h hD
 clear h hD s e
 rintro ⟨n,other,k⟩ z_ h hI hE
 replace h:Qa8 p l i n other k = _:=h
 unfold Qa8 at h
 rcases Qaf h with ⟨h1,h⟩|⟨h1,h⟩
 ·obtain ⟨x0,h2,h⟩:=Qae h
  obtain ⟨x1,h3,h⟩:=Qae h
  obtain ⟨r,h4,h⟩:=Qae h
  rcases Qaf h with ⟨h5,h⟩|⟨h5,h⟩
  ·exact gn 14 [1,2,5,6,7,8] [0] [nL Qab.enc p.routes,bT h1,hH (.draw 10 []),cE Qab.enc h2,cE Qab.enc h3,cC (Qdr h4),bT h5] (hI _ (oJ h))
  ·rcases Qaf h with ⟨h6,h⟩|⟨h6,h⟩
   ·exact gn 14 [1,2,5,6,7,8] [0] [nL Qab.enc p.routes,bT h1,hH (.draw 10 []),cE Qab.enc h2,cE Qab.enc h3,cC (Qdr h4),bF h5,hH (.draw 13 []),rp 11 (bT h6)] (hI _ (oJ h))
   ·obtain ⟨r1,h7,h⟩:=Qae h
    exact gn 14 [1,2,5,6,7,8] [0] [nL Qab.enc p.routes,bT h1,hH (.draw 10 []),cE Qab.enc h2,cE Qab.enc h3,cC (Qdr h4),bF h5,hH (.draw 13 []),rp 4 (bF h6),cE Qab.enc h2,rp 4 (bF h6),cE Qab.enc h3,bF h6,bF h6,cC (Qh0 h7),bF h6] (hI _ (oJ h))
 ·exact gn 5 [1,2,5,6,7] [0] [nL Qab.enc p.routes,bF h1] (hE _ (oJ h))
theorem Qg8 (Γ:Gam) (rv:Int) {p l} {s:Int} {e:(Unit) ⊕ (Int)} (h:loopF (fun s=>Qbj p l s) s = some e) (hD:sel e (fun e=>Qef Γ rv p l) (fun e=>e = rv)):QeI Γ rv p l s:=by
 refine QaL (C:=fun (s:Int)=>QeI Γ rv p l s) (D:=fun (e:(Unit) ⊕ (Int))=>sel e (fun e=>Qef Γ rv p l) (fun e=>e = rv)) ?_ h hD
 clear h hD s e
 intro i z_ h hI hE
 replace h:Qbj p l i = _:=h
 unfold Qbj at h
 rcases Qaf h with ⟨h0,h⟩|⟨h0,h⟩
 ·obtain ⟨e0,h8,h⟩:=Qae h
  refine gn 16 [1,2,5,6,7,8] [0] [nL Qab.enc l,bT h0] (Qg9 Γ rv h8 ?_)
  obtain ⟨n1,other1⟩:=e0
  replace h:(br ((neI n1 1) || other1) (some (.inr (.inr 31))) (some (.inl (addK .i64 i 1))):Option ((Int) ⊕ ((Unit) ⊕ (Int)))) = some _:=h
  rcases Qaf h with ⟨h9,h⟩|⟨h9,h⟩
  ·obtain rfl:=(hE _ (oJ h):_ = rv)
   exact gr 5 [] [hP,hP,oR True ((neI n1 1) = false),bT h9]
  ·exact gn 7 [1,2,5] [0] [hP,hP,oR True ((neI n1 1) = false),bF h9] (hI _ (oJ h))
 ·exact gn 5 [] [] [nL Qab.enc l,bF h0] (hE _ (oJ h))
theorem QdB {p l} {rv:Int} (h:QcX p l = some rv):AFn Tryz.prog 19 [.agg (Qax.enc p),.one (lL 4 l Qab.enc)] [] (one (lI rv)) []:=by
 refine QaO Tryz.func19 (by kernel_rfl) (by kernel_rfl) (fun Γ=>?_)
 unfold QcX at h
 obtain ⟨e1,h10,h⟩:=Qae h
 refine gn 7 [1,2,5] [0] [] (Qg8 Γ rv h10 ?_)
 rcases e1 with e1|e1
 ·replace h:(some 0:Option Int) = some _:=h
  obtain rfl:=Option.some.inj h
  exact gr 2 [] []
 ·obtain ⟨r2,rfl⟩:∃ x,x = e1:=⟨_,rfl⟩
  replace h:(some r2:Option Int) = some _:=h
  exact Option.some.inj h
def Qha (Γ:Gam) (rv:Bool) (cf:Cf):Prop:=Go Tryz.prog Tryz.f36 [] Γ (one (.bool rv)) [] cf
def QfA (Γ:Gam) (rv:Bool) (i:Int) (set_1:Int) (k:Int):Prop:=Qha Γ rv ⟨[.c 52,.l 52,.b 0,.c 7],⟨16,[vI 0 set_1,vI 1 i,vI 5 k],[]⟩⟩
def Qfd (Γ:Gam) (rv:Bool) (i:Int) (set_2:Int):Prop:=Qha Γ rv ⟨[.c 7],⟨16,[vI 0 set_2],[]⟩⟩
theorem QhZ (Γ:Gam) (rv:Bool) {i} {s:Int × Int} {e:Int} (h:loopF (fun s=>Qbv i s.1 s.2) s = some e) (hD:Qfd Γ rv i e):QfA Γ rv i s.1 s.2:=by
 refine QaL (C:=fun (s:Int × Int)=>QfA Γ rv i s.1 s.2) (D:=fun (e:Int)=>Qfd Γ rv i e) ?_ h hD
 clear h hD s e
 rintro ⟨set_1,k⟩ z_ h hI hE
 replace h:Qbv i set_1 k = _:=h
 unfold Qbv at h
 rcases Qaf h with ⟨h0,h⟩|⟨h0,h⟩
 ·exact gn 11 [0,1,5] [] [bT h0,oO (oA (n:=2))] (hI _ (oJ h))
 ·exact gn 5 [0] [] [bF h0] (hE _ (oJ h))
theorem QgD {set_ i} {rv:Bool} (h:QdC set_ i = some rv):AFn Tryz.prog 36 [.one (lI set_),.one (lI i)] [] (one (.bool rv)) []:=by
 refine QaO Tryz.func36 (by kernel_rfl) (by kernel_rfl) (fun Γ=>?_)
 unfold QdC at h
 obtain ⟨e0,h1,h⟩:=Qae h
 refine gn 7 [0,1,5] [] [] (QhZ Γ rv h1 ?_)
 obtain ⟨set_2,rfl⟩:∃ x,x = e0:=⟨_,rfl⟩
 replace h:(some (eqI (remK set_2 2) 1):Option Bool) = some _:=h
 obtain rfl:=Option.some.inj h
 exact gr 2 [] [oO (oA (n:=2))]
def Qcf (Γ:Gam) (rv:Int) (cf:Cf):Prop:=Go Tryz.prog Tryz.f21 [] Γ (one (lI rv)) [] cf
def QeH (Γ:Gam) (rv:Int) (l:List Qab) (i:Int) (set_1:Int) (k:Int) (x1:Qaa) (bit:Int) (j:Int):Prop:=Qcf Γ rv ⟨[.c 7639668,.l 7639668,.b 4,.c 954959,.b 3,.c 29843,.l 7460,.b 2,.b 1,.c 467,.l 116,.b 0,.c 15],⟨56,[vL 0 4 l Qab.enc,vI 3 set_1,vI 4 i,vI 5 k,vI 6 x1.order,vI 7 bit,vI 8 j],[]⟩⟩
def Qee (Γ:Gam) (rv:Int) (l:List Qab) (i:Int) (set_1:Int) (k:Int) (x1:Qaa) (bit1:Int):Prop:=Qcf Γ rv ⟨[.c 954959,.b 3,.c 29843,.l 7460,.b 2,.b 1,.c 467,.l 116,.b 0,.c 15],⟨56,[vL 0 4 l Qab.enc,vI 3 set_1,vI 4 i,vI 5 k,vI 7 bit1],[]⟩⟩
def QeG (Γ:Gam) (rv:Int) (l:List Qab) (i:Int) (set_1:Int) (k:Int):Prop:=Qcf Γ rv ⟨[.c 7460,.l 7460,.b 2,.b 1,.c 467,.l 116,.b 0,.c 15],⟨56,[vL 0 4 l Qab.enc,vI 3 set_1,vI 4 i,vI 5 k],[]⟩⟩
def Qed (Γ:Gam) (rv:Int) (l:List Qab) (i:Int) (set_2:Int):Prop:=Qcf Γ rv ⟨[.b 1,.c 467,.l 116,.b 0,.c 15],⟨56,[vL 0 4 l Qab.enc,vI 3 set_2,vI 4 i],[]⟩⟩
def QeF (Γ:Gam) (rv:Int) (l:List Qab) (set_:Int) (i:Int):Prop:=Qcf Γ rv ⟨[.c 116,.l 116,.b 0,.c 15],⟨56,[vL 0 4 l Qab.enc,vI 3 set_,vI 4 i],[]⟩⟩
def Qec (Γ:Gam) (rv:Int) (l:List Qab) (set_3:Int):Prop:=Qcf Γ rv ⟨[.c 15],⟨56,[vI 3 set_3],[]⟩⟩
theorem Qg7 (Γ:Gam) (rv:Int) {l i set_1 k x1} {s:Int × Int} {e:Int} (h:loopF (fun s=>Qa7 l i set_1 k x1 s.1 s.2) s = some e) (hD:Qee Γ rv l i set_1 k x1 e):QeH Γ rv l i set_1 k x1 s.1 s.2:=by
 refine QaL (C:=fun (s:Int × Int)=>QeH Γ rv l i set_1 k x1 s.1 s.2) (D:=fun (e:Int)=>Qee Γ rv l i set_1 k x1 e) ?_ h hD
 clear h hD s e
 rintro ⟨bit,j⟩ z_ h hI hE
 replace h:Qa7 l i set_1 k x1 bit j = _:=h
 unfold Qa7 at h
 rcases Qaf h with ⟨h7,h⟩|⟨h7,h⟩
 ·exact gn 11 [0,3,4,5,6,7,8] [] [bT h7] (hI _ (oJ h))
 ·exact gn 5 [0,3,4,5,7] [] [bF h7] (hE _ (oJ h))
theorem Qg6 (Γ:Gam) (rv:Int) {l i} {s:Int × Int} {e:Int} (h:loopF (fun s=>QbO l i s.1 s.2) s = some e) (hD:Qed Γ rv l i e):QeG Γ rv l i s.1 s.2:=by
 refine QaL (C:=fun (s:Int × Int)=>QeG Γ rv l i s.1 s.2) (D:=fun (e:Int)=>Qed Γ rv l i e) ?_ h hD
 clear h hD s e
 rintro ⟨set_1,k⟩ z_ h hI hE
 replace h:QbO l i set_1 k = _:=h
 unfold QbO at h
 obtain ⟨x0,h1,h⟩:=Qae h
 rcases Qaf h with ⟨h2,h⟩|⟨h2,h⟩
 ·obtain ⟨x1,h3,h⟩:=Qae h
  rcases Qaf h with ⟨h4,h⟩|⟨h4,h⟩
  ·exact gn 16 [0,3,4,5] [] [cE Qab.enc h1,nL Qaa.enc x0.visits,bT h2,cE Qab.enc h1,cE Qaa.enc h3,hP,hP,hP,oI ((ltI x1.order 0) = false),oR True ((ltI x1.order 0) = false),rp 4 (bT h4),tT] (hI _ (oJ h))
  ·obtain ⟨r,h5,h⟩:=Qae h
   rcases Qaf h with ⟨h6,h⟩|⟨h6,h⟩
   ·exact gn 16 [0,3,4,5] [] [cE Qab.enc h1,nL Qaa.enc x0.visits,bT h2,cE Qab.enc h1,cE Qaa.enc h3,hP,hP,hP,oI ((ltI x1.order 0) = false),oR True ((ltI x1.order 0) = false),rp 3 (bF h4),cC (QgD h5),bF h4,bT h6] (hI _ (oJ h))
   ·obtain ⟨e0,h8,h⟩:=Qae h
    refine gn 21 [0,3,4,5,6,7,8] [] [cE Qab.enc h1,nL Qaa.enc x0.visits,bT h2,cE Qab.enc h1,cE Qaa.enc h3,hP,hP,hP,oI ((ltI x1.order 0) = false),oR True ((ltI x1.order 0) = false),rp 3 (bF h4),cC (QgD h5),bF h4,bF h6] (Qg7 Γ rv h8 ?_)
    obtain ⟨bit1,rfl⟩:∃ x,x = e0:=⟨_,rfl⟩
    replace h:(some (.inl ((addK .i64 set_1 bit1),(addK .i64 k 1))):Option ((Int × Int) ⊕ (Int))) = some _:=h
    exact gn 4 [0,3,4,5] [] [] (hI _ (oJ h))
 ·exact gn 5 [0,3,4] [] [cE Qab.enc h1,nL Qaa.enc x0.visits,bF h2] (hE _ (oJ h))
theorem Qg5 (Γ:Gam) (rv:Int) {l} {s:Int × Int} {e:Int} (h:loopF (fun s=>Qb5 l s.1 s.2) s = some e) (hD:Qec Γ rv l e):QeF Γ rv l s.1 s.2:=by
 refine QaL (C:=fun (s:Int × Int)=>QeF Γ rv l s.1 s.2) (D:=fun (e:Int)=>Qec Γ rv l e) ?_ h hD
 clear h hD s e
 rintro ⟨set_,i⟩ z_ h hI hE
 replace h:Qb5 l set_ i = _:=h
 unfold Qb5 at h
 rcases Qaf h with ⟨h0,h⟩|⟨h0,h⟩
 ·obtain ⟨e1,h9,h⟩:=Qae h
  refine gn 11 [0,3,4,5] [] [nL Qab.enc l,bT h0] (Qg6 Γ rv h9 ?_)
  obtain ⟨set_2,rfl⟩:∃ x,x = e1:=⟨_,rfl⟩
  replace h:(some (.inl (set_2,(addK .i64 i 1))):Option ((Int × Int) ⊕ (Int))) = some _:=h
  exact gn 3 [0,3,4] [] [] (hI _ (oJ h))
 ·exact gn 5 [3] [] [nL Qab.enc l,bF h0] (hE _ (oJ h))
theorem Qfz {l} {rv:Int} (h:QcW l = some rv):AFn Tryz.prog 21 [.one (lL 4 l Qab.enc)] [] (one (lI rv)) []:=by
 refine QaO Tryz.func21 (by kernel_rfl) (by kernel_rfl) (fun Γ=>?_)
 unfold QcW at h
 obtain ⟨e2,h10,h⟩:=Qae h
 refine gn 9 [0,3,4] [] [] (Qg5 Γ rv h10 ?_)
 obtain ⟨set_3,rfl⟩:∃ x,x = e2:=⟨_,rfl⟩
 replace h:(some set_3:Option Int) = some _:=h
 obtain rfl:=Option.some.inj h
 exact gr 2 [] []
theorem Qf9 {p l} {rv:Bool} (h:Qcw p l = some rv):AFn Tryz.prog 5 [.agg (Qax.enc p),.one (lL 4 l Qab.enc)] [] (one (.bool rv)) []:=by
 refine QaO Tryz.func5 (by kernel_rfl) (by kernel_rfl) (fun Γ=>?_)
 unfold Qcw at h
 obtain ⟨r,h0,h⟩:=Qae h
 rcases Qaf h with ⟨h1,h⟩|⟨h1,h⟩
 ·obtain ⟨r1,h2,h⟩:=Qae h
  rcases Qaf h with ⟨h3,h⟩|⟨h3,h⟩
  ·obtain ⟨r2,h4,h⟩:=Qae h
   obtain ⟨r3,h5,h⟩:=Qae h
   rcases Qaf h with ⟨h6,h⟩|⟨h6,h⟩
   ·obtain ⟨r4,h7,h⟩:=Qae h
    obtain ⟨r5,h8,h⟩:=Qae h
    rcases Qaf h with ⟨h9,h⟩|⟨h9,h⟩
    ·obtain ⟨r6,h10,h⟩:=Qae h
     obtain rfl:=Option.some.inj h
     exact gr 9 [] [cC (Qbi h0),nF h1,nF h1,cC (Qbi h2),nF h1,nF h1,nF h3,hH (.draw 18 []),cC (Qcb h4),cC (QdB h5),bT h6,bT h6,cC (QfS h7),bT h6,bT h6,cC (Qfz h8),bT h6,bT h6,bT h9,cC (QcV h10),bT h9]
    ·obtain rfl:=Option.some.inj h
     exact gr 9 [] [cC (Qbi h0),nF h1,nF h1,cC (Qbi h2),nF h1,nF h1,nF h3,hH (.draw 18 []),cC (Qcb h4),cC (QdB h5),bT h6,bT h6,cC (QfS h7),bT h6,bT h6,cC (Qfz h8),bT h6,bT h6,bF h9,bF h9]
   ·obtain rfl:=Option.some.inj h
    exact gr 9 [] [cC (Qbi h0),nF h1,nF h1,cC (Qbi h2),nF h1,nF h1,nF h3,hH (.draw 18 []),cC (Qcb h4),cC (QdB h5),rp 6 (bF h6),fF,fF]
  ·obtain ⟨r7,h11,h⟩:=Qae h
   obtain rfl:=Option.some.inj h
   exact gr 8 [] [cC (Qbi h0),nF h1,nF h1,cC (Qbi h2),nF h1,nF h1,nT h3,cC (QcV h11)]
 ·obtain ⟨r8,h12,h⟩:=Qae h
  obtain rfl:=Option.some.inj h
  exact gr 8 [] [cC (Qbi h0),rp 4 (nT h1),tT,cC (QcV h12)]
end Go.Proofs.YtoogjnlmicgfiaaGreatDoor
