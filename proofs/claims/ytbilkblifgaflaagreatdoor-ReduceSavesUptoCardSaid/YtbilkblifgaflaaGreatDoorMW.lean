/- Part MW of the proof: texts K2. -/
import Derived.Test.YtbilkblifgaflaaGreatDoorMV
import Derived.Test.YtbilkblifgaflaaGreatDoorProg
namespace Go.Proofs.YtbilkblifgaflaaGreatDoor
set_option linter.unusedVariables false
set_option linter.unusedSectionVars false
set_option linter.unusedSimpArgs false
set_option maxHeartbeats 4000000
set_option maxRecDepth 100000
def Qc5 (Γ:Gam) (rv:List Qaa) (cf:Cf):Prop:=Go Tryz.prog Tryz.f63 [] Γ (one (lO 0 2 rv Qaa.enc)) [oS 2 104 rv Qaa.enc] cf
def Qhc (Γ:Gam) (rv:List Qaa) (n:Qag) (l:List Qaa) (l1:List Qaa) (i:Int) (r:ByteArray) (twice:Bool) (k:Int):Prop:=Qc5 Γ rv ⟨[.c 250484,.l 250484,.b 2,.c 31311,.b 1,.c 979,.l 244,.b 0,.c 31],⟨64,[vP 1 0 2,vO 3 1 2 l1 Qaa.enc,vI 4 i,vS 5 (catS QbU r),vB 6 twice,vI 7 k],[oX 2 25 (Qag.enc n),oS 2 104 l1 Qaa.enc]⟩⟩
def QgW (Γ:Gam) (rv:List Qaa) (n:Qag) (l:List Qaa) (l1:List Qaa) (i:Int) (r:ByteArray) (twice1:Bool):Prop:=Qc5 Γ rv ⟨[.c 31311,.b 1,.c 979,.l 244,.b 0,.c 31],⟨64,[vP 1 0 2,vO 3 1 2 l1 Qaa.enc,vI 4 i,vS 5 (catS QbU r),vB 6 twice1],[oX 2 25 (Qag.enc n),oS 2 104 l1 Qaa.enc]⟩⟩
def Qhb (Γ:Gam) (rv:List Qaa) (n:Qag) (l:List Qaa) (l1:List Qaa) (i:Int):Prop:=Qc5 Γ rv ⟨[.c 244,.l 244,.b 0,.c 31],⟨64,[vP 1 0 2,vO 3 1 2 l1 Qaa.enc,vI 4 i],[oX 2 25 (Qag.enc n),oS 2 104 l1 Qaa.enc]⟩⟩
def QgV (Γ:Gam) (rv:List Qaa) (n:Qag) (l:List Qaa) (l2:List Qaa):Prop:=Qc5 Γ rv ⟨[.c 31],⟨64,[vO 3 0 2 l2 Qaa.enc],[oS 2 104 l2 Qaa.enc]⟩⟩
theorem QkT (Γ:Gam) (rv:List Qaa) {n l l1 i r} {s:Bool×Int} {e:Bool} (h:QaX (fun s=>QaR n l l1 i r s.1 s.2) s=some e) (hD:QgW Γ rv n l l1 i r e):Qhc Γ rv n l l1 i r s.1 s.2:=by
 refine QaA (C:=fun (s:Bool×Int)=>Qhc Γ rv n l l1 i r s.1 s.2) (D:=fun (e:Bool)=>QgW Γ rv n l l1 i r e) ?_ h hD
 clear h hD s e
 rintro ⟨twice,k⟩ z_ h hI hE
 replace h:QaR n l l1 i r twice k=_:=h
 unfold QaR at h
 rcases Qak h with ⟨h8,h⟩|⟨h8,h⟩
 ·rcases Qak h with ⟨h9,h⟩|⟨h9,h⟩
  ·exact gn 11 [1,3,4,5,6,7] [0,1] [bT h8,hH (.draw 14 []),rp 12 (bT h9)] (hI _ (oJ h))
  ·obtain ⟨x1,h10,h⟩:=Qae h
   obtain ⟨x2,h11,h⟩:=Qae h
   exact gn 11 [1,3,4,5,6,7] [0,1] [bT h8,hH (.draw 14 []),rp 4 (bF h9),cE QeA h10,rp 5 (bF h9),cE QeA h11,rp 3 (bF h9)] (hI _ (oJ h))
 ·exact gn 5 [1,3,4,5,6] [0,1] [bF h8] (hE _ (oJ h))
theorem QkS (Γ:Gam) (rv:List Qaa) {n l} {s:List Qaa×Int} {e:List Qaa} (h:QaX (fun s=>QaQ n l s.1 s.2) s=some e) (hD:QgV Γ rv n l e):Qhb Γ rv n l s.1 s.2:=by
 refine QaA (C:=fun (s:List Qaa×Int)=>Qhb Γ rv n l s.1 s.2) (D:=fun (e:List Qaa)=>QgV Γ rv n l e) ?_ h hD
 clear h hD s e
 rintro ⟨l1,i⟩ z_ h hI hE
 replace h:QaQ n l l1 i=_:=h
 unfold QaQ at h
 rcases Qak h with ⟨h2,h⟩|⟨h2,h⟩
 ·obtain ⟨r,h3,h⟩:=Qae h
  obtain ⟨h4,h⟩:=Qat h
  obtain ⟨x0,h5,h⟩:=Qae h
  obtain ⟨r1,h6,h⟩:=Qae h
  rcases Qak h with ⟨h7,h⟩|⟨h7,h⟩
  ·obtain ⟨e0,h12,h⟩:=Qae h
   refine gn 21 [1,3,4,5,6,7] [0,1] [nL QeA n.places,bT h2,cC (Qcr h3),oO (h4),cE QeA h5,cC (QfI h6),nF h7] (QkT Γ rv h12 ?_)
   obtain ⟨twice1,rfl⟩:∃ x,x=e0:=⟨_,rfl⟩
   replace h:(br twice1 (chk (okN (l1++[(Qaa.mk 6 (catS QbU r))]).length 24) (some (.inl ((l1++[(Qaa.mk 6 (catS QbU r))]),(addK .i64 i 1))))) (some (.inl (l1,(addK .i64 i 1)))):Option ((List Qaa×Int)⊕(List Qaa)))=some _:=h
   rcases Qak h with ⟨h13,h⟩|⟨h13,h⟩
   ·obtain ⟨h14,h⟩:=Qat h
    exact gn 7 [1,3,4] [0,3] [bT h13,oO (Eq.refl ([(Qaa.mk 6 (catS QbU r))].map Qaa.enc).length),aO Qaa.enc h14] (hI _ (oJ h))
   ·exact gn 7 [1,3,4] [0,1] [bF h13] (hI _ (oJ h))
  ·obtain ⟨h15,h⟩:=Qat h
   exact gn 18 [1,3,4] [0,3] [nL QeA n.places,bT h2,cC (Qcr h3),oO (h4),cE QeA h5,cC (QfI h6),nT h7,oO (Eq.refl ([(Qaa.mk 5 (catS QbU r))].map Qaa.enc).length),aO Qaa.enc h15] (hI _ (oJ h))
 ·exact gn 5 [3] [1] [nL QeA n.places,bF h2] (hE _ (oJ h))
theorem QgU (Γ:Gam) (rv:List Qaa) {n l} (h:QbO n l=some rv):Qc5 Γ rv ⟨[.c 15],⟨64,[vP 1 0 2,vO 3 1 2 l Qaa.enc],[oX 2 25 (Qag.enc n),oS 2 104 l Qaa.enc]⟩⟩:=by
 unfold QbO at h
 obtain ⟨e1,h16,h⟩:=Qae h
 refine gn 5 [1,3,4] [0,1] [] (QkS Γ rv h16 ?_)
 obtain ⟨l2,rfl⟩:∃ x,x=e1:=⟨_,rfl⟩
 replace h:(some l2:Option (List Qaa))=some _:=h
 obtain rfl:=Option.some.inj h
 exact gr 2 [0] []
theorem QhY {n} {rv:List Qaa} (h:Qcj n=some rv):AFn Tryz.prog 63 [.agg (Qag.enc n)] [] (one (lO 0 2 rv Qaa.enc)) [oS 2 104 rv Qaa.enc]:=by
 refine QaG Tryz.func63 (by kernel_rfl) (by kernel_rfl) (fun Γ=>?_)
 unfold Qcj at h
 rcases Qak h with ⟨h0,h⟩|⟨h0,h⟩
 ·obtain ⟨h1,h⟩:=Qat h
  exact gn 9 [1,3] [0,2] [nL QeA n.places,bT h0,oO (Eq.refl ([(Qaa.mk 4 Qd6)].map Qaa.enc).length),aN (l:=([(Qaa.mk 4 Qd6)]:List Qaa)) Qaa.enc h1] (QgU Γ rv h)
 ·exact gn 9 [1,3] [0,1] [nL QeA n.places,bF h0,hW 1,hH (.adopt 3 2 104)] (QgU Γ rv h)
def QkR (Γ:Gam) (rv:List Qaa) (cf:Cf):Prop:=Go Tryz.prog Tryz.f40 [] Γ (one (lL 2 rv Qaa.enc)) [] cf
def QmC (Γ:Gam) (rv:List Qaa) (n:Qag) (l:List Qaa) (l1:List Qaa) (i:Int):Prop:=QkR Γ rv ⟨[.c 244,.l 244,.b 0,.c 31],⟨28,[vP 1 0 2,vO 3 1 2 l1 Qaa.enc,vI 4 i],[oX 2 25 (Qag.enc n),oS 2 104 l1 Qaa.enc]⟩⟩
def Qlo (Γ:Gam) (rv:List Qaa) (n:Qag) (l:List Qaa) (l2:List Qaa):Prop:=QkR Γ rv ⟨[.c 31],⟨28,[vO 3 0 2 l2 Qaa.enc],[oS 2 104 l2 Qaa.enc]⟩⟩
theorem Qsk (Γ:Gam) (rv:List Qaa) {n l} {s:List Qaa×Int} {e:List Qaa} (h:QaX (fun s=>Qbt n l s.1 s.2) s=some e) (hD:Qlo Γ rv n l e):QmC Γ rv n l s.1 s.2:=by
 refine QaA (C:=fun (s:List Qaa×Int)=>QmC Γ rv n l s.1 s.2) (D:=fun (e:List Qaa)=>Qlo Γ rv n l e) ?_ h hD
 clear h hD s e
 rintro ⟨l1,i⟩ z_ h hI hE
 replace h:Qbt n l l1 i=_:=h
 unfold Qbt at h
 rcases Qak h with ⟨h3,h⟩|⟨h3,h⟩
 ·obtain ⟨r1,h4,h⟩:=Qae h
  obtain ⟨h5,h⟩:=Qat h
  exact gn 11 [1,3,4] [0,2] [nL Qai.enc n.arcs,bT h3,cC (Qsm h4),aO Qaa.enc h5] (hI _ (oJ h))
 ·exact gn 5 [3] [1] [nL Qai.enc n.arcs,bF h3] (hE _ (oJ h))
theorem Qln (Γ:Gam) (rv:List Qaa) {n l} (h:Qeh n l=some rv):QkR Γ rv ⟨[.c 15],⟨28,[vP 1 0 2,vO 3 1 2 l Qaa.enc],[oX 2 25 (Qag.enc n),oS 2 104 l Qaa.enc]⟩⟩:=by
 unfold Qeh at h
 obtain ⟨e0,h6,h⟩:=Qae h
 refine gn 5 [1,3,4] [0,1] [] (Qsk Γ rv h6 ?_)
 obtain ⟨l2,rfl⟩:∃ x,x=e0:=⟨_,rfl⟩
 replace h:(some l2:Option (List Qaa))=some _:=h
 obtain rfl:=Option.some.inj h
 exact gr 2 [] [hW 4,hH (.frz 0),rp 3 (eL l2 Qaa.enc)]
theorem Qut {n} {rv:List Qaa} (h:QfU n=some rv):AFn Tryz.prog 40 [.agg (Qag.enc n)] [] (one (lL 2 rv Qaa.enc)) []:=by
 refine QaG Tryz.func40 (by kernel_rfl) (by kernel_rfl) (fun Γ=>?_)
 unfold QfU at h
 obtain ⟨r,h0,h⟩:=Qae h
 rcases Qak h with ⟨h1,h⟩|⟨h1,h⟩
 ·obtain ⟨h2,h⟩:=Qat h
  exact gn 9 [1,3] [0,3] [cC (QhY h0),nL Qai.enc n.arcs,bT h1,oO (Eq.refl ([(Qaa.mk 4 Qg8)].map Qaa.enc).length),aO Qaa.enc h2] (Qln Γ rv h)
 ·exact gn 9 [1,3] [0,1] [cC (QhY h0),nL Qai.enc n.arcs,bF h1] (Qln Γ rv h)
theorem Qao {n lo hi} {rv:Bool} (h:QaU n lo hi=some rv):AFn Tryz.prog 65 [.one (lI n),.one (lI lo),.one (lI hi)] [] (one (.bool rv)) []:=by
 refine QaG Tryz.func65 (by kernel_rfl) (by kernel_rfl) (fun Γ=>?_)
 unfold QaU at h
 obtain rfl:=Option.some.inj h
 exact gr 4 [] [rp 4 hP,rp 2 (oI ((geI n lo)=true)),oR True ((geI n lo)=true)]
theorem QgY {l} {rv:Int} (h:QfC l=some rv):AFn Tryz.prog 43 [.one (lL 14 l Qaf.enc)] [] (one (lI rv)) []:=by
 refine QaG Tryz.func43 (by kernel_rfl) (by kernel_rfl) (fun Γ=>?_)
 unfold QfC at h
 rcases Qak h with ⟨h0,h⟩|⟨h0,h⟩
 ·obtain rfl:=Option.some.inj h
  exact gr 8 [] [nL Qaf.enc l,bT h0]
 ·obtain ⟨x0,h1,h⟩:=Qae h
  obtain rfl:=Option.some.inj h
  exact gr 9 [] [nL Qaf.enc l,bF h0,cE Qaf.enc h1,nL Qaw x0.cap]
def QpX (Γ:Gam) (rv:Bool) (cf:Cf):Prop:=Go Tryz.prog Tryz.f96 [] Γ (one (.bool rv)) [] cf
def QmJ (Γ:Gam) (rv:Bool) (l:List Qaf) (at_:Int) (name:ByteArray) (i:Int):Prop:=QpX Γ rv ⟨[.c 52,.l 52,.b 0,.c 7],⟨20,[vL 0 14 l Qaf.enc,vI 1 at_,vS 2 name,vI 7 i],[]⟩⟩
def Qlt (Γ:Gam) (rv:Bool) (l:List Qaf) (at_:Int) (name:ByteArray):Prop:=QpX Γ rv ⟨[.c 7],⟨20,[],[]⟩⟩
theorem Qsp (Γ:Gam) (rv:Bool) {l at_ name} {s:Int} {e:(Unit)⊕(Bool)} (h:QaX (fun s=>Qbu l at_ name s) s=some e) (hD:sel e (fun e=>Qlt Γ rv l at_ name) (fun e=>e=rv)):QmJ Γ rv l at_ name s:=by
 refine QaA (C:=fun (s:Int)=>QmJ Γ rv l at_ name s) (D:=fun (e:(Unit)⊕(Bool))=>sel e (fun e=>Qlt Γ rv l at_ name) (fun e=>e=rv)) ?_ h hD
 clear h hD s e
 intro i z_ h hI hE
 replace h:Qbu l at_ name i=_:=h
 unfold Qbu at h
 rcases Qak h with ⟨h0,h⟩|⟨h0,h⟩
 ·obtain ⟨x0,h1,h⟩:=Qae h
  rcases Qak h with ⟨h2,h⟩|⟨h2,h⟩
  ·obtain rfl:=(hE _ (oJ h):_=rv)
   exact gr 12 [] [bT h0,cE Qaf.enc h1,bT h2]
  ·exact gn 14 [0,1,2,7] [] [bT h0,cE Qaf.enc h1,bF h2] (hI _ (oJ h))
 ·exact gn 5 [] [] [bF h0] (hE _ (oJ h))
theorem QoO {l at_ name} {rv:Bool} (h:QfW l at_ name=some rv):AFn Tryz.prog 96 [.one (lL 14 l Qaf.enc),.one (lI at_),.one (.str name)] [] (one (.bool rv)) []:=by
 refine QaG Tryz.func96 (by kernel_rfl) (by kernel_rfl) (fun Γ=>?_)
 unfold QfW at h
 obtain ⟨e0,h3,h⟩:=Qae h
 refine gn 7 [0,1,2,7] [] [] (Qsp Γ rv h3 ?_)
 rcases e0 with e0|e0
 ·replace h:(some false:Option Bool)=some _:=h
  obtain rfl:=Option.some.inj h
  exact gr 2 [] []
 ·obtain ⟨r,rfl⟩:∃ x,x=e0:=⟨_,rfl⟩
  replace h:(some r:Option Bool)=some _:=h
  exact Option.some.inj h
def QmI (Γ:Gam) (rv:Bool) (cf:Cf):Prop:=Go Tryz.prog Tryz.f97 [] Γ (one (.bool rv)) [] cf
def Qj3 (Γ:Gam) (rv:Bool) (l:List Int) (i:Int):Prop:=QmI Γ rv ⟨[.c 116,.l 116,.b 0,.c 15],⟨28,[vL 0 1 l Qaw,vI 5 i],[]⟩⟩
def QjF (Γ:Gam) (rv:Bool) (l:List Int):Prop:=QmI Γ rv ⟨[.c 15],⟨28,[],[]⟩⟩
theorem QpW (Γ:Gam) (rv:Bool) {l} {s:Int} {e:(Unit)⊕(Bool)} (h:QaX (fun s=>Qa6 l s) s=some e) (hD:sel e (fun e=>QjF Γ rv l) (fun e=>e=rv)):Qj3 Γ rv l s:=by
 refine QaA (C:=fun (s:Int)=>Qj3 Γ rv l s) (D:=fun (e:(Unit)⊕(Bool))=>sel e (fun e=>QjF Γ rv l) (fun e=>e=rv)) ?_ h hD
 clear h hD s e
 intro i z_ h hI hE
 replace h:Qa6 l i=_:=h
 unfold Qa6 at h
 rcases Qak h with ⟨h2,h⟩|⟨h2,h⟩
 ·obtain ⟨x0,h3,h⟩:=Qae h
  obtain ⟨r1,h4,h⟩:=Qae h
  rcases Qak h with ⟨h5,h⟩|⟨h5,h⟩
  ·exact gn 14 [0,5] [] [nL Qaw l,bT h2,cE Qaw h3,cC (Qao h4),nF h5] (hI _ (oJ h))
  ·obtain rfl:=(hE _ (oJ h):_=rv)
   exact gr 12 [] [nL Qaw l,bT h2,cE Qaw h3,cC (Qao h4),nT h5]
 ·exact gn 5 [] [] [nL Qaw l,bF h2] (hE _ (oJ h))
theorem Qgq {l dims} {rv:Bool} (h:Qdz l dims=some rv):AFn Tryz.prog 97 [.one (lL 1 l Qaw),.one (lI dims)] [] (one (.bool rv)) []:=by
 refine QaG Tryz.func97 (by kernel_rfl) (by kernel_rfl) (fun Γ=>?_)
 unfold Qdz at h
 obtain ⟨r,h0,h⟩:=Qae h
 rcases Qak h with ⟨h1,h⟩|⟨h1,h⟩
 ·obtain rfl:=Option.some.inj h
  exact gr 8 [] [nL Qaw l,cC (Qao h0),hP,hP,oI ((!r)=false),nL Qaw l,hP,hP,hP,rp 2 (oI ((!r)=false)),oR True ((!r)=false),bT h1]
 ·obtain ⟨e0,h6,h⟩:=Qae h
  refine gn 12 [0,5] [] [nL Qaw l,cC (Qao h0),hP,hP,oI ((!r)=false),nL Qaw l,hP,hP,hP,rp 2 (oI ((!r)=false)),oR True ((!r)=false),bF h1] (QpW Γ rv h6 ?_)
  rcases e0 with e0|e0
  ·replace h:(some true:Option Bool)=some _:=h
   obtain rfl:=Option.some.inj h
   exact gr 2 [] []
  ·obtain ⟨r2,rfl⟩:∃ x,x=e0:=⟨_,rfl⟩
   replace h:(some r2:Option Bool)=some _:=h
   exact Option.some.inj h
def Qcb (Γ:Gam) (rv:List Int) (cf:Cf):Prop:=Go Tryz.prog Tryz.f66 [] Γ (one (lL 1 rv Qaw)) [] cf
theorem QlB (Γ:Gam) (rv:List Int) {x0 l8} (h:QdH x0 l8=some rv):Qcb Γ rv ⟨[.c 4095],⟨125,[vP 7 0 14,vO 8 1 1 l8 Qaw],[oX 14 70 (Qaf.enc x0),oS 1 33 l8 Qaw]⟩⟩:=by
 unfold QdH at h
 obtain ⟨r11,h30,h⟩:=Qae h
 rcases Qak h with ⟨h31,h⟩|⟨h31,h⟩
 ·obtain ⟨r12,h32,h⟩:=Qae h
  rcases Qak h with ⟨h33,h⟩|⟨h33,h⟩
  ·obtain ⟨r13,h34,h⟩:=Qae h
   rcases Qak h with ⟨h35,h⟩|⟨h35,h⟩
   ·obtain ⟨r14,h36,h⟩:=Qae h
    rcases Qak h with ⟨h37,h⟩|⟨h37,h⟩
    ·obtain rfl:=Option.some.inj h
     exact gr 7 [] [cC (Qao h30),rp 3 (nF h31),cC (Qao h32),rp 2 (nF h31),rp 3 (nF h33),cC (Qao h34),rp 2 (nF h33),rp 3 (nF h35),cC (Qao h36),rp 2 (nF h35),nF h37,hW 5,hH (.frz 1),rp 3 (eL l8 Qaw)]
    ·obtain ⟨h38,h⟩:=Qat h
     obtain rfl:=Option.some.inj h
     exact gr 7 [] [cC (Qao h30),rp 3 (nF h31),cC (Qao h32),rp 2 (nF h31),rp 3 (nF h33),cC (Qao h34),rp 2 (nF h33),rp 3 (nF h35),cC (Qao h36),rp 2 (nF h35),nT h37,oO (Eq.refl ([2].map Qaw).length),aO Qaw h38,hW 5,hH (.frz 3),rp 4 (oO (Eq.refl ((l8++[2]).map Qaw).length))]
   ·obtain ⟨h39,h⟩:=Qat h
    obtain rfl:=Option.some.inj h
    exact gr 7 [] [cC (Qao h30),rp 3 (nF h31),cC (Qao h32),rp 2 (nF h31),rp 3 (nF h33),cC (Qao h34),rp 2 (nF h33),rp 5 (nT h35),tT,oO (Eq.refl ([2].map Qaw).length),aO Qaw h39,hW 5,hH (.frz 3),rp 4 (oO (Eq.refl ((l8++[2]).map Qaw).length))]
  ·obtain ⟨h40,h⟩:=Qat h
   obtain rfl:=Option.some.inj h
   exact gr 7 [] [cC (Qao h30),rp 3 (nF h31),cC (Qao h32),rp 2 (nF h31),rp 5 (nT h33),rp 6 tT,oO (Eq.refl ([2].map Qaw).length),aO Qaw h40,hW 5,hH (.frz 3),rp 4 (oO (Eq.refl ((l8++[2]).map Qaw).length))]
 ·obtain ⟨h41,h⟩:=Qat h
  obtain rfl:=Option.some.inj h
  exact gr 7 [] [cC (Qao h30),rp 5 (nT h31),rp 11 tT,oO (Eq.refl ([2].map Qaw).length),aO Qaw h41,hW 5,hH (.frz 3),rp 4 (oO (Eq.refl ((l8++[2]).map Qaw).length))]
theorem QlA (Γ:Gam) (rv:List Int) {x0 l7} (h:QdG x0 l7=some rv):Qcb Γ rv ⟨[.c 2047],⟨125,[vP 7 0 14,vO 8 1 1 l7 Qaw],[oX 14 70 (Qaf.enc x0),oS 1 33 l7 Qaw]⟩⟩:=by
 unfold QdG at h
 obtain ⟨r9,h25,h⟩:=Qae h
 rcases Qak h with ⟨h26,h⟩|⟨h26,h⟩
 ·obtain ⟨r10,h27,h⟩:=Qae h
  rcases Qak h with ⟨h28,h⟩|⟨h28,h⟩
  ·exact gn 5 [7,8] [0,1] [cC (Qao h25),rp 3 (nF h26),cC (Qao h27),rp 2 (nF h26),nF h28] (QlB Γ rv h)
  ·obtain ⟨h29,h⟩:=Qat h
   exact gn 5 [7,8] [0,3] [cC (Qao h25),rp 3 (nF h26),cC (Qao h27),rp 2 (nF h26),nT h28,oO (Eq.refl ([16].map Qaw).length),aO Qaw h29] (QlB Γ rv h)
 ·obtain ⟨h42,h⟩:=Qat h
  obtain ⟨r15,h43,h⟩:=Qae h
  rcases Qak h with ⟨h44,h⟩|⟨h44,h⟩
  ·obtain ⟨r16,h45,h⟩:=Qae h
   rcases Qak h with ⟨h46,h⟩|⟨h46,h⟩
   ·obtain ⟨r17,h47,h⟩:=Qae h
    rcases Qak h with ⟨h48,h⟩|⟨h48,h⟩
    ·obtain ⟨r18,h49,h⟩:=Qae h
     rcases Qak h with ⟨h50,h⟩|⟨h50,h⟩
     ·obtain rfl:=Option.some.inj h
      exact gr 12 [] [cC (Qao h25),rp 5 (nT h26),tT,oO (Eq.refl ([16].map Qaw).length),aO Qaw h42,cC (Qao h43),rp 3 (nF h44),cC (Qao h45),rp 2 (nF h44),rp 3 (nF h46),cC (Qao h47),rp 2 (nF h46),rp 3 (nF h48),cC (Qao h49),rp 2 (nF h48),nF h50,hW 5,hH (.frz 3),rp 4 (oO (Eq.refl ((l7++[16]).map Qaw).length))]
     ·obtain ⟨h51,h⟩:=Qat h
      obtain rfl:=Option.some.inj h
      exact gr 12 [] [cC (Qao h25),rp 5 (nT h26),tT,oO (Eq.refl ([16].map Qaw).length),aO Qaw h42,cC (Qao h43),rp 3 (nF h44),cC (Qao h45),rp 2 (nF h44),rp 3 (nF h46),cC (Qao h47),rp 2 (nF h46),rp 3 (nF h48),cC (Qao h49),rp 2 (nF h48),nT h50,oO (Eq.refl ([2].map Qaw).length),aO Qaw h51,hW 5,hH (.frz 5),rp 4 (oO (Eq.refl (((l7++[16])++[2]).map Qaw).length))]
    ·obtain ⟨h52,h⟩:=Qat h
     obtain rfl:=Option.some.inj h
     exact gr 12 [] [cC (Qao h25),rp 5 (nT h26),tT,oO (Eq.refl ([16].map Qaw).length),aO Qaw h42,cC (Qao h43),rp 3 (nF h44),cC (Qao h45),rp 2 (nF h44),rp 3 (nF h46),cC (Qao h47),rp 2 (nF h46),rp 5 (nT h48),tT,oO (Eq.refl ([2].map Qaw).length),aO Qaw h52,hW 5,hH (.frz 5),rp 4 (oO (Eq.refl (((l7++[16])++[2]).map Qaw).length))]
   ·obtain ⟨h53,h⟩:=Qat h
    obtain rfl:=Option.some.inj h
    exact gr 12 [] [cC (Qao h25),rp 5 (nT h26),tT,oO (Eq.refl ([16].map Qaw).length),aO Qaw h42,cC (Qao h43),rp 3 (nF h44),cC (Qao h45),rp 2 (nF h44),rp 5 (nT h46),rp 6 tT,oO (Eq.refl ([2].map Qaw).length),aO Qaw h53,hW 5,hH (.frz 5),rp 4 (oO (Eq.refl (((l7++[16])++[2]).map Qaw).length))]
  ·obtain ⟨h54,h⟩:=Qat h
   obtain rfl:=Option.some.inj h
   exact gr 12 [] [cC (Qao h25),rp 5 (nT h26),tT,oO (Eq.refl ([16].map Qaw).length),aO Qaw h42,cC (Qao h43),rp 5 (nT h44),rp 11 tT,oO (Eq.refl ([2].map Qaw).length),aO Qaw h54,hW 5,hH (.frz 5),rp 4 (oO (Eq.refl (((l7++[16])++[2]).map Qaw).length))]
theorem Qlz (Γ:Gam) (rv:List Int) {x0 l6} (h:QdF x0 l6=some rv):Qcb Γ rv ⟨[.c 1023],⟨125,[vP 7 0 14,vO 8 1 1 l6 Qaw],[oX 14 70 (Qaf.enc x0),oS 1 33 l6 Qaw]⟩⟩:=by
 unfold QdF at h
 obtain ⟨r8,h22,h⟩:=Qae h
 rcases Qak h with ⟨h23,h⟩|⟨h23,h⟩
 ·obtain ⟨h24,h⟩:=Qat h
  exact gn 5 [7,8] [0,3] [cC (Qao h22),rp 4 hP,rp 2 (oI ((!r8)=false)),oR True ((!r8)=false),bT h23,oO (Eq.refl ([15].map Qaw).length),aO Qaw h24] (QlA Γ rv h)
 ·exact gn 5 [7,8] [0,1] [cC (Qao h22),rp 4 hP,rp 2 (oI ((!r8)=false)),oR True ((!r8)=false),bF h23] (QlA Γ rv h)
theorem Qly (Γ:Gam) (rv:List Int) {x0 l5} (h:QdE x0 l5=some rv):Qcb Γ rv ⟨[.c 511],⟨125,[vP 7 0 14,vO 8 1 1 l5 Qaw],[oX 14 70 (Qaf.enc x0),oS 1 33 l5 Qaw]⟩⟩:=by
 unfold QdE at h
 obtain ⟨r7,h19,h⟩:=Qae h
 rcases Qak h with ⟨h20,h⟩|⟨h20,h⟩
 ·exact gn 5 [7,8] [0,1] [cC (Qao h19),nF h20] (Qlz Γ rv h)
 ·obtain ⟨h21,h⟩:=Qat h
  exact gn 5 [7,8] [0,3] [cC (Qao h19),nT h20,oO (Eq.refl ([18].map Qaw).length),aO Qaw h21] (Qlz Γ rv h)
theorem Qlx (Γ:Gam) (rv:List Int) {l x0 l4} (h:QdD l x0 l4=some rv):Qcb Γ rv ⟨[.c 255],⟨125,[vL 1 14 l Qaf.enc,vP 7 0 14,vO 8 1 1 l4 Qaw],[oX 14 70 (Qaf.enc x0),oS 1 33 l4 Qaw]⟩⟩:=by
 unfold QdD at h
 obtain ⟨r5,h15,h⟩:=Qae h
 obtain ⟨r6,h16,h⟩:=Qae h
 rcases Qak h with ⟨h17,h⟩|⟨h17,h⟩
 ·exact gn 5 [7,8] [0,1] [hH (.draw 6 []),cC (QgY h15),cC (Qgq h16),nF h17] (Qly Γ rv h)
 ·obtain ⟨h18,h⟩:=Qat h
  exact gn 5 [7,8] [0,3] [hH (.draw 6 []),cC (QgY h15),cC (Qgq h16),nT h17,oO (Eq.refl ([17].map Qaw).length),aO Qaw h18] (Qly Γ rv h)
theorem Qkr (Γ:Gam) (rv:List Int) {x0 l12} (h:Qhn x0 l12=some rv):Qcb Γ rv ⟨[.c 4095],⟨125,[vP 7 0 14,vO 8 1 1 l12 Qaw],[oX 14 70 (Qaf.enc x0),oS 1 33 l12 Qaw]⟩⟩:=by
 unfold Qhn at h
 obtain ⟨r25,h71,h⟩:=Qae h
 rcases Qak h with ⟨h72,h⟩|⟨h72,h⟩
 ·obtain ⟨r26,h73,h⟩:=Qae h
  rcases Qak h with ⟨h74,h⟩|⟨h74,h⟩
  ·obtain ⟨r27,h75,h⟩:=Qae h
   rcases Qak h with ⟨h76,h⟩|⟨h76,h⟩
   ·obtain ⟨r28,h77,h⟩:=Qae h
    rcases Qak h with ⟨h78,h⟩|⟨h78,h⟩
    ·obtain rfl:=Option.some.inj h
     exact gr 7 [] [cC (Qao h71),rp 3 (nF h72),cC (Qao h73),rp 2 (nF h72),rp 3 (nF h74),cC (Qao h75),rp 2 (nF h74),rp 3 (nF h76),cC (Qao h77),rp 2 (nF h76),nF h78,hW 5,hH (.frz 1),rp 3 (eL l12 Qaw)]
    ·obtain ⟨h79,h⟩:=Qat h
     obtain rfl:=Option.some.inj h
     exact gr 7 [] [cC (Qao h71),rp 3 (nF h72),cC (Qao h73),rp 2 (nF h72),rp 3 (nF h74),cC (Qao h75),rp 2 (nF h74),rp 3 (nF h76),cC (Qao h77),rp 2 (nF h76),nT h78,oO (Eq.refl ([2].map Qaw).length),aO Qaw h79,hW 5,hH (.frz 3),rp 4 (oO (Eq.refl ((l12++[2]).map Qaw).length))]
   ·obtain ⟨h80,h⟩:=Qat h
    obtain rfl:=Option.some.inj h
    exact gr 7 [] [cC (Qao h71),rp 3 (nF h72),cC (Qao h73),rp 2 (nF h72),rp 3 (nF h74),cC (Qao h75),rp 2 (nF h74),rp 5 (nT h76),tT,oO (Eq.refl ([2].map Qaw).length),aO Qaw h80,hW 5,hH (.frz 3),rp 4 (oO (Eq.refl ((l12++[2]).map Qaw).length))]
  ·obtain ⟨h81,h⟩:=Qat h
   obtain rfl:=Option.some.inj h
   exact gr 7 [] [cC (Qao h71),rp 3 (nF h72),cC (Qao h73),rp 2 (nF h72),rp 5 (nT h74),rp 6 tT,oO (Eq.refl ([2].map Qaw).length),aO Qaw h81,hW 5,hH (.frz 3),rp 4 (oO (Eq.refl ((l12++[2]).map Qaw).length))]
 ·obtain ⟨h82,h⟩:=Qat h
  obtain rfl:=Option.some.inj h
  exact gr 7 [] [cC (Qao h71),rp 5 (nT h72),rp 11 tT,oO (Eq.refl ([2].map Qaw).length),aO Qaw h82,hW 5,hH (.frz 3),rp 4 (oO (Eq.refl ((l12++[2]).map Qaw).length))]
theorem Qkq (Γ:Gam) (rv:List Int) {x0 l11} (h:Qhm x0 l11=some rv):Qcb Γ rv ⟨[.c 2047],⟨125,[vP 7 0 14,vO 8 1 1 l11 Qaw],[oX 14 70 (Qaf.enc x0),oS 1 33 l11 Qaw]⟩⟩:=by
 unfold Qhm at h
 obtain ⟨r23,h66,h⟩:=Qae h
 rcases Qak h with ⟨h67,h⟩|⟨h67,h⟩
 ·obtain ⟨r24,h68,h⟩:=Qae h
  rcases Qak h with ⟨h69,h⟩|⟨h69,h⟩
  ·exact gn 5 [7,8] [0,1] [cC (Qao h66),rp 3 (nF h67),cC (Qao h68),rp 2 (nF h67),nF h69] (Qkr Γ rv h)
  ·obtain ⟨h70,h⟩:=Qat h
   exact gn 5 [7,8] [0,3] [cC (Qao h66),rp 3 (nF h67),cC (Qao h68),rp 2 (nF h67),nT h69,oO (Eq.refl ([16].map Qaw).length),aO Qaw h70] (Qkr Γ rv h)
 ·obtain ⟨h83,h⟩:=Qat h
  obtain ⟨r29,h84,h⟩:=Qae h
  rcases Qak h with ⟨h85,h⟩|⟨h85,h⟩
  ·obtain ⟨r30,h86,h⟩:=Qae h
   rcases Qak h with ⟨h87,h⟩|⟨h87,h⟩
   ·obtain ⟨r31,h88,h⟩:=Qae h
    rcases Qak h with ⟨h89,h⟩|⟨h89,h⟩
    ·obtain ⟨r32,h90,h⟩:=Qae h
     rcases Qak h with ⟨h91,h⟩|⟨h91,h⟩
     ·obtain rfl:=Option.some.inj h
      exact gr 12 [] [cC (Qao h66),rp 5 (nT h67),tT,oO (Eq.refl ([16].map Qaw).length),aO Qaw h83,cC (Qao h84),rp 3 (nF h85),cC (Qao h86),rp 2 (nF h85),rp 3 (nF h87),cC (Qao h88),rp 2 (nF h87),rp 3 (nF h89),cC (Qao h90),rp 2 (nF h89),nF h91,hW 5,hH (.frz 3),rp 4 (oO (Eq.refl ((l11++[16]).map Qaw).length))]
     ·obtain ⟨h92,h⟩:=Qat h
      obtain rfl:=Option.some.inj h
      exact gr 12 [] [cC (Qao h66),rp 5 (nT h67),tT,oO (Eq.refl ([16].map Qaw).length),aO Qaw h83,cC (Qao h84),rp 3 (nF h85),cC (Qao h86),rp 2 (nF h85),rp 3 (nF h87),cC (Qao h88),rp 2 (nF h87),rp 3 (nF h89),cC (Qao h90),rp 2 (nF h89),nT h91,oO (Eq.refl ([2].map Qaw).length),aO Qaw h92,hW 5,hH (.frz 5),rp 4 (oO (Eq.refl (((l11++[16])++[2]).map Qaw).length))]
    ·obtain ⟨h93,h⟩:=Qat h
     obtain rfl:=Option.some.inj h
     exact gr 12 [] [cC (Qao h66),rp 5 (nT h67),tT,oO (Eq.refl ([16].map Qaw).length),aO Qaw h83,cC (Qao h84),rp 3 (nF h85),cC (Qao h86),rp 2 (nF h85),rp 3 (nF h87),cC (Qao h88),rp 2 (nF h87),rp 5 (nT h89),tT,oO (Eq.refl ([2].map Qaw).length),aO Qaw h93,hW 5,hH (.frz 5),rp 4 (oO (Eq.refl (((l11++[16])++[2]).map Qaw).length))]
   ·obtain ⟨h94,h⟩:=Qat h
    obtain rfl:=Option.some.inj h
    exact gr 12 [] [cC (Qao h66),rp 5 (nT h67),tT,oO (Eq.refl ([16].map Qaw).length),aO Qaw h83,cC (Qao h84),rp 3 (nF h85),cC (Qao h86),rp 2 (nF h85),rp 5 (nT h87),rp 6 tT,oO (Eq.refl ([2].map Qaw).length),aO Qaw h94,hW 5,hH (.frz 5),rp 4 (oO (Eq.refl (((l11++[16])++[2]).map Qaw).length))]
  ·obtain ⟨h95,h⟩:=Qat h
   obtain rfl:=Option.some.inj h
   exact gr 12 [] [cC (Qao h66),rp 5 (nT h67),tT,oO (Eq.refl ([16].map Qaw).length),aO Qaw h83,cC (Qao h84),rp 5 (nT h85),rp 11 tT,oO (Eq.refl ([2].map Qaw).length),aO Qaw h95,hW 5,hH (.frz 5),rp 4 (oO (Eq.refl (((l11++[16])++[2]).map Qaw).length))]
theorem Qkp (Γ:Gam) (rv:List Int) {x0 l10} (h:Qhl x0 l10=some rv):Qcb Γ rv ⟨[.c 1023],⟨125,[vP 7 0 14,vO 8 1 1 l10 Qaw],[oX 14 70 (Qaf.enc x0),oS 1 33 l10 Qaw]⟩⟩:=by
 unfold Qhl at h
 obtain ⟨r22,h63,h⟩:=Qae h
 rcases Qak h with ⟨h64,h⟩|⟨h64,h⟩
 ·obtain ⟨h65,h⟩:=Qat h
  exact gn 5 [7,8] [0,3] [cC (Qao h63),rp 4 hP,rp 2 (oI ((!r22)=false)),oR True ((!r22)=false),bT h64,oO (Eq.refl ([15].map Qaw).length),aO Qaw h65] (Qkq Γ rv h)
 ·exact gn 5 [7,8] [0,1] [cC (Qao h63),rp 4 hP,rp 2 (oI ((!r22)=false)),oR True ((!r22)=false),bF h64] (Qkq Γ rv h)
theorem QlC (Γ:Gam) (rv:List Int) {x0 l9} (h:QhZ x0 l9=some rv):Qcb Γ rv ⟨[.c 511],⟨125,[vP 7 0 14,vO 8 1 1 l9 Qaw],[oX 14 70 (Qaf.enc x0),oS 1 33 l9 Qaw]⟩⟩:=by
 unfold QhZ at h
 obtain ⟨r21,h60,h⟩:=Qae h
 rcases Qak h with ⟨h61,h⟩|⟨h61,h⟩
 ·exact gn 5 [7,8] [0,1] [cC (Qao h60),nF h61] (Qkp Γ rv h)
 ·obtain ⟨h62,h⟩:=Qat h
  exact gn 5 [7,8] [0,3] [cC (Qao h60),nT h61,oO (Eq.refl ([18].map Qaw).length),aO Qaw h62] (Qkp Γ rv h)
theorem Qlw (Γ:Gam) (rv:List Int) {n l x0 l3} (h:QdC n l x0 l3=some rv):Qcb Γ rv ⟨[.c 127],⟨125,[vL 1 14 l Qaf.enc,vP 3 0 2,vP 7 1 14,vO 8 2 1 l3 Qaw],[oX 2 25 (Qag.enc n),oX 14 70 (Qaf.enc x0),oS 1 33 l3 Qaw]⟩⟩:=by
 unfold QdC at h
 obtain ⟨r3,h10,h⟩:=Qae h
 rcases Qak h with ⟨h11,h⟩|⟨h11,h⟩
 ·obtain ⟨r4,h12,h⟩:=Qae h
  rcases Qak h with ⟨h13,h⟩|⟨h13,h⟩
  ·exact gn 5 [1,7,8] [1,2] [nL QeA n.places,cC (Qao h10),rp 5 (nF h11),nL QeA n.places,rp 2 (nF h11),cC (Qao h12),rp 2 (nF h11),nF h13] (Qlx Γ rv h)
  ·obtain ⟨h14,h⟩:=Qat h
   exact gn 5 [1,7,8] [1,4] [nL QeA n.places,cC (Qao h10),rp 5 (nF h11),nL QeA n.places,rp 2 (nF h11),cC (Qao h12),rp 2 (nF h11),nT h13,oO (Eq.refl ([11].map Qaw).length),aO Qaw h14] (Qlx Γ rv h)
 ·obtain ⟨h55,h⟩:=Qat h
  obtain ⟨r19,h56,h⟩:=Qae h
  obtain ⟨r20,h57,h⟩:=Qae h
  rcases Qak h with ⟨h58,h⟩|⟨h58,h⟩
  ·exact gn 10 [7,8] [1,4] [nL QeA n.places,cC (Qao h10),rp 9 (nT h11),tT,oO (Eq.refl ([11].map Qaw).length),aO Qaw h55,hH (.draw 6 []),cC (QgY h56),cC (Qgq h57),nF h58] (QlC Γ rv h)
  ·obtain ⟨h59,h⟩:=Qat h
   exact gn 10 [7,8] [1,6] [nL QeA n.places,cC (Qao h10),rp 9 (nT h11),tT,oO (Eq.refl ([11].map Qaw).length),aO Qaw h55,hH (.draw 6 []),cC (QgY h56),cC (Qgq h57),nT h58,oO (Eq.refl ([17].map Qaw).length),aO Qaw h59] (QlC Γ rv h)
theorem Qlv (Γ:Gam) (rv:List Int) {n l x0 l2} (h:QdB n l x0 l2=some rv):Qcb Γ rv ⟨[.c 63],⟨125,[vL 1 14 l Qaf.enc,vP 3 0 2,vP 7 1 14,vO 8 2 1 l2 Qaw],[oX 2 25 (Qag.enc n),oX 14 70 (Qaf.enc x0),oS 1 33 l2 Qaw]⟩⟩:=by
 unfold QdB at h
 obtain ⟨r2,h7,h⟩:=Qae h
 rcases Qak h with ⟨h8,h⟩|⟨h8,h⟩
 ·exact gn 5 [1,3,7,8] [0,1,2] [cC (Qao h7),nF h8] (Qlw Γ rv h)
 ·obtain ⟨h9,h⟩:=Qat h
  exact gn 5 [1,3,7,8] [0,1,4] [cC (Qao h7),nT h8,oO (Eq.refl ([22].map Qaw).length),aO Qaw h9] (Qlw Γ rv h)
theorem Qlu (Γ:Gam) (rv:List Int) {n l at_ x0 l1} (h:QdA n l at_ x0 l1=some rv):Qcb Γ rv ⟨[.c 31],⟨125,[vL 1 14 l Qaf.enc,vI 2 at_,vP 3 0 2,vP 7 1 14,vO 8 2 1 l1 Qaw],[oX 2 25 (Qag.enc n),oX 14 70 (Qaf.enc x0),oS 1 33 l1 Qaw]⟩⟩:=by
 unfold QdA at h
 obtain ⟨r1,h4,h⟩:=Qae h
 rcases Qak h with ⟨h5,h⟩|⟨h5,h⟩
 ·obtain ⟨h6,h⟩:=Qat h
  exact gn 5 [1,3,7,8] [0,1,4] [cC (QoO h4),bT h5,oO (Eq.refl ([6].map Qaw).length),aO Qaw h6] (Qlv Γ rv h)
 ·exact gn 5 [1,3,7,8] [0,1,2] [cC (QoO h4),bF h5] (Qlv Γ rv h)
theorem Quv {n l at_} {rv:List Int} (h:Qel n l at_=some rv):AFn Tryz.prog 66 [.agg (Qag.enc n),.one (lL 14 l Qaf.enc),.one (lI at_)] [] (one (lL 1 rv Qaw)) []:=by
 refine QaG Tryz.func66 (by kernel_rfl) (by kernel_rfl) (fun Γ=>?_)
 unfold Qel at h
 obtain ⟨x0,h0,h⟩:=Qae h
 obtain ⟨r,h1,h⟩:=Qae h
 rcases Qak h with ⟨h2,h⟩|⟨h2,h⟩
 ·exact gn 11 [1,2,3,7,8] [0,1,2] [cE Qaf.enc h0,cC (QfI h1),nF h2,hW 1,hH (.adopt 8 1 33)] (Qlu Γ rv h)
 ·obtain ⟨h3,h⟩:=Qat h
  exact gn 11 [1,2,3,7,8] [0,1,3] [cE Qaf.enc h0,cC (QfI h1),nT h2,oO (Eq.refl ([5].map Qaw).length),aN (l:=([5]:List Int)) Qaw h3] (Qlu Γ rv h)
def QgX (Γ:Gam) (rv:List Qaa) (cf:Cf):Prop:=Go Tryz.prog Tryz.f41 [] Γ (one (lL 2 rv Qaa.enc)) [] cf
def QmG (Γ:Gam) (rv:List Qaa) (n:Qag) (l:List Qaf) (i:Int) (r1:List Int) (l3:List Qaa) (k:Int):Prop:=QgX Γ rv ⟨[.c 31308,.l 31308,.b 2,.b 1,.c 979,.l 244,.b 0,.c 31],⟨44,[vL 1 14 l Qaf.enc,vP 2 0 2,vO 5 1 2 l3 Qaa.enc,vI 6 i,vL 7 1 r1 Qaw,vI 8 k],[oX 2 25 (Qag.enc n),oS 2 104 l3 Qaa.enc]⟩⟩
def Qls (Γ:Gam) (rv:List Qaa) (n:Qag) (l:List Qaf) (i:Int) (r1:List Int) (l4:List Qaa):Prop:=QgX Γ rv ⟨[.b 1,.c 979,.l 244,.b 0,.c 31],⟨44,[vL 1 14 l Qaf.enc,vP 2 0 2,vO 5 1 2 l4 Qaa.enc,vI 6 i],[oX 2 25 (Qag.enc n),oS 2 104 l4 Qaa.enc]⟩⟩
def QmF (Γ:Gam) (rv:List Qaa) (n:Qag) (l:List Qaf) (l2:List Qaa) (i:Int):Prop:=QgX Γ rv ⟨[.c 244,.l 244,.b 0,.c 31],⟨44,[vL 1 14 l Qaf.enc,vP 2 0 2,vO 5 1 2 l2 Qaa.enc,vI 6 i],[oX 2 25 (Qag.enc n),oS 2 104 l2 Qaa.enc]⟩⟩
def Qlr (Γ:Gam) (rv:List Qaa) (n:Qag) (l:List Qaf) (l5:List Qaa):Prop:=QgX Γ rv ⟨[.c 31],⟨44,[vO 5 0 2 l5 Qaa.enc],[oS 2 104 l5 Qaa.enc]⟩⟩
theorem Qso (Γ:Gam) (rv:List Qaa) {n l i r1} {s:List Qaa×Int} {e:List Qaa} (h:QaX (fun s=>Qek n l i r1 s.1 s.2) s=some e) (hD:Qls Γ rv n l i r1 e):QmG Γ rv n l i r1 s.1 s.2:=by
 refine QaA (C:=fun (s:List Qaa×Int)=>QmG Γ rv n l i r1 s.1 s.2) (D:=fun (e:List Qaa)=>Qls Γ rv n l i r1 e) ?_ h hD
 clear h hD s e
 rintro ⟨l3,k⟩ z_ h hI hE
 replace h:Qek n l i r1 l3 k=_:=h
 unfold Qek at h
 rcases Qak h with ⟨h5,h⟩|⟨h5,h⟩
 ·obtain ⟨x0,h6,h⟩:=Qae h
  obtain ⟨r2,h7,h⟩:=Qae h
  obtain ⟨h8,h⟩:=Qat h
  exact gn 11 [1,2,5,6,7,8] [0,3] [nL Qaw r1,bT h5,hH (.draw 9 []),cE Qaw h6,cC (Qcr h7),oO (Eq.refl ([(Qaa.mk x0 r2)].map Qaa.enc).length),aO Qaa.enc h8] (hI _ (oJ h))
 ·exact gn 5 [1,2,5,6] [0,1] [nL Qaw r1,bF h5] (hE _ (oJ h))
theorem Qsn (Γ:Gam) (rv:List Qaa) {n l} {s:List Qaa×Int} {e:List Qaa} (h:QaX (fun s=>Qcd n l s.1 s.2) s=some e) (hD:Qlr Γ rv n l e):QmF Γ rv n l s.1 s.2:=by
 refine QaA (C:=fun (s:List Qaa×Int)=>QmF Γ rv n l s.1 s.2) (D:=fun (e:List Qaa)=>Qlr Γ rv n l e) ?_ h hD
 clear h hD s e
 rintro ⟨l2,i⟩ z_ h hI hE
 replace h:Qcd n l l2 i=_:=h
 unfold Qcd at h
 rcases Qak h with ⟨h3,h⟩|⟨h3,h⟩
 ·obtain ⟨r1,h4,h⟩:=Qae h
  obtain ⟨e0,h9,h⟩:=Qae h
  refine gn 13 [1,2,5,6,7,8] [0,1] [nL Qaf.enc l,bT h3,cC (Quv h4)] (Qso Γ rv h9 ?_)
  obtain ⟨l4,rfl⟩:∃ x,x=e0:=⟨_,rfl⟩
  replace h:(some (.inl (l4,(addK .i64 i 1))):Option ((List Qaa×Int)⊕(List Qaa)))=some _:=h
  exact gn 3 [1,2,5,6] [0,1] [] (hI _ (oJ h))
 ·exact gn 5 [5] [1] [nL Qaf.enc l,bF h3] (hE _ (oJ h))
theorem Qlq (Γ:Gam) (rv:List Qaa) {n l l1} (h:Qej n l l1=some rv):QgX Γ rv ⟨[.c 15],⟨44,[vL 1 14 l Qaf.enc,vP 2 0 2,vO 5 1 2 l1 Qaa.enc],[oX 2 25 (Qag.enc n),oS 2 104 l1 Qaa.enc]⟩⟩:=by
 unfold Qej at h
 obtain ⟨e1,h10,h⟩:=Qae h
 refine gn 5 [1,2,5,6] [0,1] [] (Qsn Γ rv h10 ?_)
 obtain ⟨l5,rfl⟩:∃ x,x=e1:=⟨_,rfl⟩
 replace h:(some l5:Option (List Qaa))=some _:=h
 obtain rfl:=Option.some.inj h
 exact gr 2 [] [hW 4,hH (.frz 0),rp 3 (eL l5 Qaa.enc)]
theorem Quu {n l} {rv:List Qaa} (h:QfV n l=some rv):AFn Tryz.prog 41 [.agg (Qag.enc n),.one (lL 14 l Qaf.enc)] [] (one (lL 2 rv Qaa.enc)) []:=by
 refine QaG Tryz.func41 (by kernel_rfl) (by kernel_rfl) (fun Γ=>?_)
 unfold QfV at h
 obtain ⟨r,h0,h⟩:=Qae h
 rcases Qak h with ⟨h1,h⟩|⟨h1,h⟩
 ·exact gn 9 [1,2,5] [0,1] [nL Qaf.enc l,cC (Qao h0),nF h1,hW 1,hH (.adopt 5 2 104)] (Qlq Γ rv h)
 ·obtain ⟨h2,h⟩:=Qat h
  exact gn 9 [1,2,5] [0,2] [nL Qaf.enc l,cC (Qao h0),nT h1,oO (Eq.refl ([(Qaa.mk 4 ByteArray.empty)].map Qaa.enc).length),aN (l:=([(Qaa.mk 4 ByteArray.empty)]:List Qaa)) Qaa.enc h2] (Qlq Γ rv h)
def QpM (Γ:Gam) (rv:Bool) (cf:Cf):Prop:=Go Tryz.prog Tryz.f98 [] Γ (one (.bool rv)) [] cf
def QmB (Γ:Gam) (rv:Bool) (a:List Int) (i:Int):Prop:=QpM Γ rv ⟨[.c 116,.l 116,.b 0,.c 15],⟨28,[vL 0 1 a Qaw,vI 5 i],[]⟩⟩
def Qli (Γ:Gam) (rv:Bool) (a:List Int):Prop:=QpM Γ rv ⟨[.c 15],⟨28,[],[]⟩⟩
theorem Qsi (Γ:Gam) (rv:Bool) {a} {s:Int} {e:(Unit)⊕(Bool)} (h:QaX (fun s=>Qbl a s) s=some e) (hD:sel e (fun e=>Qli Γ rv a) (fun e=>e=rv)):QmB Γ rv a s:=by
 refine QaA (C:=fun (s:Int)=>QmB Γ rv a s) (D:=fun (e:(Unit)⊕(Bool))=>sel e (fun e=>Qli Γ rv a) (fun e=>e=rv)) ?_ h hD
 clear h hD s e
 intro i z_ h hI hE
 replace h:Qbl a i=_:=h
 unfold Qbl at h
 rcases Qak h with ⟨h1,h⟩|⟨h1,h⟩
 ·obtain ⟨x0,h2,h⟩:=Qae h
  rcases Qak h with ⟨h3,h⟩|⟨h3,h⟩
  ·obtain rfl:=(hE _ (oJ h):_=rv)
   exact gr 12 [] [nL Qaw a,bT h1,cE Qaw h2,rp 6 (bT h3),tT]
  ·rcases Qak h with ⟨h4,h⟩|⟨h4,h⟩
   ·obtain rfl:=(hE _ (oJ h):_=rv)
    exact gr 12 [] [nL Qaw a,bT h1,cE Qaw h2,rp 3 (bF h3),cE Qaw h2,rp 3 (bF h3),bT h4]
   ·exact gn 14 [0,5] [] [nL Qaw a,bT h1,cE Qaw h2,rp 3 (bF h3),cE Qaw h2,rp 3 (bF h3),bF h4] (hI _ (oJ h))
 ·exact gn 5 [] [] [nL Qaw a,bF h1] (hE _ (oJ h))
theorem QoL {a dims} {rv:Bool} (h:Qef a dims=some rv):AFn Tryz.prog 98 [.one (lL 1 a Qaw),.one (lI dims)] [] (one (.bool rv)) []:=by
 refine QaG Tryz.func98 (by kernel_rfl) (by kernel_rfl) (fun Γ=>?_)
 unfold Qef at h
 rcases Qak h with ⟨h0,h⟩|⟨h0,h⟩
 ·obtain rfl:=Option.some.inj h
  exact gr 8 [] [nL Qaw a,bT h0]
 ·obtain ⟨e0,h5,h⟩:=Qae h
  refine gn 12 [0,5] [] [nL Qaw a,bF h0] (Qsi Γ rv h5 ?_)
  rcases e0 with e0|e0
  ·replace h:(some true:Option Bool)=some _:=h
   obtain rfl:=Option.some.inj h
   exact gr 2 [] []
  ·obtain ⟨r,rfl⟩:∃ x,x=e0:=⟨_,rfl⟩
   replace h:(some r:Option Bool)=some _:=h
   exact Option.some.inj h
theorem QaJ {n low high} {rv:Bool} (h:Qb2 n low high=some rv):AFn Tryz.prog 99 [.one (lI n),.one (lI low),.one (lI high)] [] (one (.bool rv)) []:=by
 refine QaG Tryz.func99 (by kernel_rfl) (by kernel_rfl) (fun Γ=>?_)
 unfold Qb2 at h
 obtain rfl:=Option.some.inj h
 exact gr 4 [] [rp 4 hP,rp 2 (oI ((geI n low)=true)),oR True ((geI n low)=true)]
theorem QbX {s0} {rv:Int} (h:Qcc s0=some rv):AFn Tryz.prog 100 [.agg (Qap.enc s0)] [] (one (lI rv)) []:=by
 refine QaG Tryz.func100 (by kernel_rfl) (by kernel_rfl) (fun Γ=>?_)
 unfold Qcc at h
 rcases Qak h with ⟨h0,h⟩|⟨h0,h⟩
 ·obtain rfl:=Option.some.inj h
  exact gr 8 [] [rp 12 hP,rp 2 (oI ((eqI s0.place (-1))=true)),oR True ((eqI s0.place (-1))=true),rp 2 (oI (((eqI s0.place (-1))&&(eqI s0.open_ 0))=true)),oR True (((eqI s0.place (-1))&&(eqI s0.open_ 0))=true),rp 2 (oI ((((eqI s0.place (-1))&&(eqI s0.open_ 0))&&(eqI s0.close 0))=true)),oR True ((((eqI s0.place (-1))&&(eqI s0.open_ 0))&&(eqI s0.close 0))=true),bT h0]
 ·rcases Qak h with ⟨h1,h⟩|⟨h1,h⟩
  ·obtain rfl:=Option.some.inj h
   exact gr 13 [] [rp 12 hP,rp 2 (oI ((eqI s0.place (-1))=true)),oR True ((eqI s0.place (-1))=true),rp 2 (oI (((eqI s0.place (-1))&&(eqI s0.open_ 0))=true)),oR True (((eqI s0.place (-1))&&(eqI s0.open_ 0))=true),rp 2 (oI ((((eqI s0.place (-1))&&(eqI s0.open_ 0))&&(eqI s0.close 0))=true)),oR True ((((eqI s0.place (-1))&&(eqI s0.open_ 0))&&(eqI s0.close 0))=true),bF h0,rp 22 hP,rp 2 (oI ((ltI s0.place 0)=false)),oR True ((ltI s0.place 0)=false),rp 4 (oI (((ltI s0.place 0)||(ltI s0.open_ 0))=false)),oR True (((ltI s0.place 0)||(ltI s0.open_ 0))=false),rp 2 (oI ((((ltI s0.place 0)||(ltI s0.open_ 0))||(gtI s0.open_ s0.close))=false)),oR True ((((ltI s0.place 0)||(ltI s0.open_ 0))||(gtI s0.open_ s0.close))=false),rp 2 (oI (((((ltI s0.place 0)||(ltI s0.open_ 0))||(gtI s0.open_ s0.close))||(gtI s0.close 4096))=false)),oR True (((((ltI s0.place 0)||(ltI s0.open_ 0))||(gtI s0.open_ s0.close))||(gtI s0.close 4096))=false),rp 2 (oI ((((((ltI s0.place 0)||(ltI s0.open_ 0))||(gtI s0.open_ s0.close))||(gtI s0.close 4096))||(ltI s0.service 0))=false)),oR True ((((((ltI s0.place 0)||(ltI s0.open_ 0))||(gtI s0.open_ s0.close))||(gtI s0.close 4096))||(ltI s0.service 0))=false),bT h1]
  ·obtain rfl:=Option.some.inj h
   exact gr 14 [] [rp 12 hP,rp 2 (oI ((eqI s0.place (-1))=true)),oR True ((eqI s0.place (-1))=true),rp 2 (oI (((eqI s0.place (-1))&&(eqI s0.open_ 0))=true)),oR True (((eqI s0.place (-1))&&(eqI s0.open_ 0))=true),rp 2 (oI ((((eqI s0.place (-1))&&(eqI s0.open_ 0))&&(eqI s0.close 0))=true)),oR True ((((eqI s0.place (-1))&&(eqI s0.open_ 0))&&(eqI s0.close 0))=true),bF h0,rp 22 hP,rp 2 (oI ((ltI s0.place 0)=false)),oR True ((ltI s0.place 0)=false),rp 4 (oI (((ltI s0.place 0)||(ltI s0.open_ 0))=false)),oR True (((ltI s0.place 0)||(ltI s0.open_ 0))=false),rp 2 (oI ((((ltI s0.place 0)||(ltI s0.open_ 0))||(gtI s0.open_ s0.close))=false)),oR True ((((ltI s0.place 0)||(ltI s0.open_ 0))||(gtI s0.open_ s0.close))=false),rp 2 (oI (((((ltI s0.place 0)||(ltI s0.open_ 0))||(gtI s0.open_ s0.close))||(gtI s0.close 4096))=false)),oR True (((((ltI s0.place 0)||(ltI s0.open_ 0))||(gtI s0.open_ s0.close))||(gtI s0.close 4096))=false),rp 2 (oI ((((((ltI s0.place 0)||(ltI s0.open_ 0))||(gtI s0.open_ s0.close))||(gtI s0.close 4096))||(ltI s0.service 0))=false)),oR True ((((((ltI s0.place 0)||(ltI s0.open_ 0))||(gtI s0.open_ s0.close))||(gtI s0.close 4096))||(ltI s0.service 0))=false),bF h1]
def QbV (Γ:Gam) (rv:List Int) (cf:Cf):Prop:=Go Tryz.prog Tryz.f68 [] Γ (one (lL 1 rv Qaw)) [] cf
def QmM (Γ:Gam) (rv:List Int) (places:Int) (dims:Int) (types:Int) (l:List Qac) (at_:Int) (x0:Qac) (l1:List Int) (i:Int):Prop:=QbV Γ rv ⟨[.c 500,.l 500,.b 0,.c 63],⟨156,[vI 0 places,vI 1 dims,vI 2 types,vL 3 16 l Qac.enc,vI 4 at_,vO 11 0 1 l1 Qaw,vP 12 1 16,vI 13 i],[oS 1 33 l1 Qaw,oX 16 56 (Qac.enc x0)]⟩⟩
def QlP (Γ:Gam) (rv:List Int) (places:Int) (dims:Int) (types:Int) (l:List Qac) (at_:Int) (x0:Qac) (l1:List Int) (l2:List Int):Prop:=QbV Γ rv ⟨[.c 63],⟨156,[vI 0 places,vI 1 dims,vI 2 types,vO 11 0 1 l2 Qaw,vP 12 1 16],[oS 1 33 l2 Qaw,oX 16 56 (Qac.enc x0)]⟩⟩
theorem Qss (Γ:Gam) (rv:List Int) {places dims types l at_ x0 l1} {s:Int} {e:List Int} (h:QaX (fun s=>Qbn places dims types l at_ x0 l1 s) s=some e) (hD:QlP Γ rv places dims types l at_ x0 l1 e):QmM Γ rv places dims types l at_ x0 l1 s:=by
 refine QaA (C:=fun (s:Int)=>QmM Γ rv places dims types l at_ x0 l1 s) (D:=fun (e:List Int)=>QlP Γ rv places dims types l at_ x0 l1 e) ?_ h hD
 clear h hD s e
 intro i z_ h hI hE
 replace h:Qbn places dims types l at_ x0 l1 i=_:=h
 unfold Qbn at h
 rcases Qak h with ⟨h4,h⟩|⟨h4,h⟩
 ·obtain ⟨x1,h5,h⟩:=Qae h
  rcases Qak h with ⟨h6,h⟩|⟨h6,h⟩
  ·obtain ⟨h7,h⟩:=Qat h
   exact gn 13 [0,1,2,11,12] [3,1] [bT h4,hH (.draw 8 []),cE Qac.enc h5,bT h6,oO (Eq.refl ([6].map Qaw).length),aO Qaw h7] (hE _ (oJ h))
  ·exact gn 14 [0,1,2,3,4,11,12,13] [0,1] [bT h4,hH (.draw 8 []),cE Qac.enc h5,bF h6] (hI _ (oJ h))
 ·exact gn 5 [0,1,2,11,12] [0,1] [bF h4] (hE _ (oJ h))
theorem QlK (Γ:Gam) (rv:List Int) {types x0 l6} (h:Qcf types x0 l6=some rv):QbV Γ rv ⟨[.c 2047],⟨156,[vI 2 types,vO 11 0 1 l6 Qaw,vP 12 1 16],[oS 1 33 l6 Qaw,oX 16 56 (Qac.enc x0)]⟩⟩:=by
 unfold Qcf at h
 obtain ⟨r6,h25,h⟩:=Qae h
 rcases Qak h with ⟨h26,h⟩|⟨h26,h⟩
 ·obtain ⟨r7,h27,h⟩:=Qae h
  rcases Qak h with ⟨h28,h⟩|⟨h28,h⟩
  ·obtain ⟨h29,h⟩:=Qat h
   obtain rfl:=Option.some.inj h
   exact gr 9 [] [rp 5 hP,rp 3 (oI ((neI x0.pick.place (-1))=true)),oR True ((neI x0.pick.place (-1))=true),cC (QaJ h25),rp 3 (nF h26),cC (QaJ h27),rp 2 (nF h26),rp 26 hP,rp 4 (oI ((!r7)=false)),oI (((!r7)=false)∧(gtI x0.split 1)=true),oR True ((!r7)=false),rp 2 (oI (((!r7)||((gtI x0.split 1)&&((neI x0.pick.place (-1))&&(neI x0.drop.place (-1)))))=false)),oR True (((!r7)||((gtI x0.split 1)&&((neI x0.pick.place (-1))&&(neI x0.drop.place (-1)))))=false),rp 3 (oI ((((!r7)||((gtI x0.split 1)&&((neI x0.pick.place (-1))&&(neI x0.drop.place (-1)))))||(ltI x0.last_ (-1)))=false)),oR True ((((!r7)||((gtI x0.split 1)&&((neI x0.pick.place (-1))&&(neI x0.drop.place (-1)))))||(ltI x0.last_ (-1)))=false),rp 2 (oI (((((!r7)||((gtI x0.split 1)&&((neI x0.pick.place (-1))&&(neI x0.drop.place (-1)))))||(ltI x0.last_ (-1)))||(geI x0.last_ types))=false)),oR True (((((!r7)||((gtI x0.split 1)&&((neI x0.pick.place (-1))&&(neI x0.drop.place (-1)))))||(ltI x0.last_ (-1)))||(geI x0.last_ types))=false),rp 3 (oI ((((((!r7)||((gtI x0.split 1)&&((neI x0.pick.place (-1))&&(neI x0.drop.place (-1)))))||(ltI x0.last_ (-1)))||(geI x0.last_ types))||(ltI x0.now (-1)))=false)),oR True ((((((!r7)||((gtI x0.split 1)&&((neI x0.pick.place (-1))&&(neI x0.drop.place (-1)))))||(ltI x0.last_ (-1)))||(geI x0.last_ types))||(ltI x0.now (-1)))=false),bT h28,oO (Eq.refl ([2].map Qaw).length),aO Qaw h29,hW 5,hH (.frz 3),rp 4 (oO (Eq.refl ((l6++[2]).map Qaw).length))]
  ·obtain rfl:=Option.some.inj h
   exact gr 9 [] [rp 5 hP,rp 3 (oI ((neI x0.pick.place (-1))=true)),oR True ((neI x0.pick.place (-1))=true),cC (QaJ h25),rp 3 (nF h26),cC (QaJ h27),rp 2 (nF h26),rp 26 hP,rp 4 (oI ((!r7)=false)),oI (((!r7)=false)∧(gtI x0.split 1)=true),oR True ((!r7)=false),rp 2 (oI (((!r7)||((gtI x0.split 1)&&((neI x0.pick.place (-1))&&(neI x0.drop.place (-1)))))=false)),oR True (((!r7)||((gtI x0.split 1)&&((neI x0.pick.place (-1))&&(neI x0.drop.place (-1)))))=false),rp 3 (oI ((((!r7)||((gtI x0.split 1)&&((neI x0.pick.place (-1))&&(neI x0.drop.place (-1)))))||(ltI x0.last_ (-1)))=false)),oR True ((((!r7)||((gtI x0.split 1)&&((neI x0.pick.place (-1))&&(neI x0.drop.place (-1)))))||(ltI x0.last_ (-1)))=false),rp 2 (oI (((((!r7)||((gtI x0.split 1)&&((neI x0.pick.place (-1))&&(neI x0.drop.place (-1)))))||(ltI x0.last_ (-1)))||(geI x0.last_ types))=false)),oR True (((((!r7)||((gtI x0.split 1)&&((neI x0.pick.place (-1))&&(neI x0.drop.place (-1)))))||(ltI x0.last_ (-1)))||(geI x0.last_ types))=false),rp 3 (oI ((((((!r7)||((gtI x0.split 1)&&((neI x0.pick.place (-1))&&(neI x0.drop.place (-1)))))||(ltI x0.last_ (-1)))||(geI x0.last_ types))||(ltI x0.now (-1)))=false)),oR True ((((((!r7)||((gtI x0.split 1)&&((neI x0.pick.place (-1))&&(neI x0.drop.place (-1)))))||(ltI x0.last_ (-1)))||(geI x0.last_ types))||(ltI x0.now (-1)))=false),bF h28,hW 5,hH (.frz 0),rp 3 (eL l6 Qaw)]
 ·obtain ⟨h30,h⟩:=Qat h
  obtain rfl:=Option.some.inj h
  exact gr 9 [] [rp 5 hP,rp 3 (oI ((neI x0.pick.place (-1))=true)),oR True ((neI x0.pick.place (-1))=true),cC (QaJ h25),rp 5 (nT h26),rp 4 tT,kF,rp 21 tT,oO (Eq.refl ([2].map Qaw).length),aO Qaw h30,hW 5,hH (.frz 3),rp 4 (oO (Eq.refl ((l6++[2]).map Qaw).length))]
theorem QlM (Γ:Gam) (rv:List Int) {types x0 l8} (h:QdJ types x0 l8=some rv):QbV Γ rv ⟨[.c 2047],⟨156,[vI 2 types,vO 11 0 1 l8 Qaw,vP 12 1 16],[oS 1 33 l8 Qaw,oX 16 56 (Qac.enc x0)]⟩⟩:=by
 unfold QdJ at h
 obtain ⟨r10,h37,h⟩:=Qae h
 rcases Qak h with ⟨h38,h⟩|⟨h38,h⟩
 ·obtain ⟨r11,h39,h⟩:=Qae h
  rcases Qak h with ⟨h40,h⟩|⟨h40,h⟩
  ·obtain ⟨h41,h⟩:=Qat h
   obtain rfl:=Option.some.inj h
   exact gr 9 [] [rp 5 hP,rp 3 (oI ((neI x0.pick.place (-1))=true)),oR True ((neI x0.pick.place (-1))=true),cC (QaJ h37),rp 3 (nF h38),cC (QaJ h39),rp 2 (nF h38),rp 26 hP,rp 4 (oI ((!r11)=false)),oI (((!r11)=false)∧(gtI x0.split 1)=true),oR True ((!r11)=false),rp 2 (oI (((!r11)||((gtI x0.split 1)&&((neI x0.pick.place (-1))&&(neI x0.drop.place (-1)))))=false)),oR True (((!r11)||((gtI x0.split 1)&&((neI x0.pick.place (-1))&&(neI x0.drop.place (-1)))))=false),rp 3 (oI ((((!r11)||((gtI x0.split 1)&&((neI x0.pick.place (-1))&&(neI x0.drop.place (-1)))))||(ltI x0.last_ (-1)))=false)),oR True ((((!r11)||((gtI x0.split 1)&&((neI x0.pick.place (-1))&&(neI x0.drop.place (-1)))))||(ltI x0.last_ (-1)))=false),rp 2 (oI (((((!r11)||((gtI x0.split 1)&&((neI x0.pick.place (-1))&&(neI x0.drop.place (-1)))))||(ltI x0.last_ (-1)))||(geI x0.last_ types))=false)),oR True (((((!r11)||((gtI x0.split 1)&&((neI x0.pick.place (-1))&&(neI x0.drop.place (-1)))))||(ltI x0.last_ (-1)))||(geI x0.last_ types))=false),rp 3 (oI ((((((!r11)||((gtI x0.split 1)&&((neI x0.pick.place (-1))&&(neI x0.drop.place (-1)))))||(ltI x0.last_ (-1)))||(geI x0.last_ types))||(ltI x0.now (-1)))=false)),oR True ((((((!r11)||((gtI x0.split 1)&&((neI x0.pick.place (-1))&&(neI x0.drop.place (-1)))))||(ltI x0.last_ (-1)))||(geI x0.last_ types))||(ltI x0.now (-1)))=false),bT h40,oO (Eq.refl ([2].map Qaw).length),aO Qaw h41,hW 5,hH (.frz 3),rp 4 (oO (Eq.refl ((l8++[2]).map Qaw).length))]
  ·obtain rfl:=Option.some.inj h
   exact gr 9 [] [rp 5 hP,rp 3 (oI ((neI x0.pick.place (-1))=true)),oR True ((neI x0.pick.place (-1))=true),cC (QaJ h37),rp 3 (nF h38),cC (QaJ h39),rp 2 (nF h38),rp 26 hP,rp 4 (oI ((!r11)=false)),oI (((!r11)=false)∧(gtI x0.split 1)=true),oR True ((!r11)=false),rp 2 (oI (((!r11)||((gtI x0.split 1)&&((neI x0.pick.place (-1))&&(neI x0.drop.place (-1)))))=false)),oR True (((!r11)||((gtI x0.split 1)&&((neI x0.pick.place (-1))&&(neI x0.drop.place (-1)))))=false),rp 3 (oI ((((!r11)||((gtI x0.split 1)&&((neI x0.pick.place (-1))&&(neI x0.drop.place (-1)))))||(ltI x0.last_ (-1)))=false)),oR True ((((!r11)||((gtI x0.split 1)&&((neI x0.pick.place (-1))&&(neI x0.drop.place (-1)))))||(ltI x0.last_ (-1)))=false),rp 2 (oI (((((!r11)||((gtI x0.split 1)&&((neI x0.pick.place (-1))&&(neI x0.drop.place (-1)))))||(ltI x0.last_ (-1)))||(geI x0.last_ types))=false)),oR True (((((!r11)||((gtI x0.split 1)&&((neI x0.pick.place (-1))&&(neI x0.drop.place (-1)))))||(ltI x0.last_ (-1)))||(geI x0.last_ types))=false),rp 3 (oI ((((((!r11)||((gtI x0.split 1)&&((neI x0.pick.place (-1))&&(neI x0.drop.place (-1)))))||(ltI x0.last_ (-1)))||(geI x0.last_ types))||(ltI x0.now (-1)))=false)),oR True ((((((!r11)||((gtI x0.split 1)&&((neI x0.pick.place (-1))&&(neI x0.drop.place (-1)))))||(ltI x0.last_ (-1)))||(geI x0.last_ types))||(ltI x0.now (-1)))=false),bF h40,hW 5,hH (.frz 0),rp 3 (eL l8 Qaw)]
 ·obtain ⟨h42,h⟩:=Qat h
  obtain rfl:=Option.some.inj h
  exact gr 9 [] [rp 5 hP,rp 3 (oI ((neI x0.pick.place (-1))=true)),oR True ((neI x0.pick.place (-1))=true),cC (QaJ h37),rp 5 (nT h38),rp 4 tT,kF,rp 21 tT,oO (Eq.refl ([2].map Qaw).length),aO Qaw h42,hW 5,hH (.frz 3),rp 4 (oO (Eq.refl ((l8++[2]).map Qaw).length))]
theorem QlL (Γ:Gam) (rv:List Int) {types x0 l7} (h:Qbm types x0 l7=some rv):QbV Γ rv ⟨[.c 1023],⟨156,[vI 2 types,vO 11 0 1 l7 Qaw,vP 12 1 16],[oS 1 33 l7 Qaw,oX 16 56 (Qac.enc x0)]⟩⟩:=by
 unfold Qbm at h
 obtain ⟨r9,h34,h⟩:=Qae h
 rcases Qak h with ⟨h35,h⟩|⟨h35,h⟩
 ·exact gn 5 [2,11,12] [0,1] [cC (QaJ h34),nF h35] (QlM Γ rv h)
 ·obtain ⟨h36,h⟩:=Qat h
  exact gn 5 [2,11,12] [3,1] [cC (QaJ h34),nT h35,oO (Eq.refl ([18].map Qaw).length),aO Qaw h36] (QlM Γ rv h)
theorem QlJ (Γ:Gam) (rv:List Int) {types x0 l5} (h:QbY types x0 l5=some rv):QbV Γ rv ⟨[.c 511],⟨156,[vI 2 types,vO 11 0 1 l5 Qaw,vP 12 1 16],[oS 1 33 l5 Qaw,oX 16 56 (Qac.enc x0)]⟩⟩:=by
 unfold QbY at h
 obtain ⟨r4,h19,h⟩:=Qae h
 rcases Qak h with ⟨h20,h⟩|⟨h20,h⟩
 ·obtain ⟨h21,h⟩:=Qat h
  obtain ⟨r5,h22,h⟩:=Qae h
  rcases Qak h with ⟨h23,h⟩|⟨h23,h⟩
  ·exact gn 10 [2,11,12] [3,1] [cC (QbX h19),rp 5 (bT h20),tT,oO (Eq.refl ([14].map Qaw).length),aO Qaw h21,cC (QaJ h22),nF h23] (QlK Γ rv h)
  ·obtain ⟨h24,h⟩:=Qat h
   exact gn 10 [2,11,12] [5,1] [cC (QbX h19),rp 5 (bT h20),tT,oO (Eq.refl ([14].map Qaw).length),aO Qaw h21,cC (QaJ h22),nT h23,oO (Eq.refl ([18].map Qaw).length),aO Qaw h24] (QlK Γ rv h)
 ·obtain ⟨r8,h31,h⟩:=Qae h
  rcases Qak h with ⟨h32,h⟩|⟨h32,h⟩
  ·obtain ⟨h33,h⟩:=Qat h
   exact gn 5 [2,11,12] [3,1] [cC (QbX h19),rp 3 (bF h20),cC (QbX h31),rp 2 (bF h20),bT h32,oO (Eq.refl ([14].map Qaw).length),aO Qaw h33] (QlL Γ rv h)
  ·exact gn 5 [2,11,12] [0,1] [cC (QbX h19),rp 3 (bF h20),cC (QbX h31),rp 2 (bF h20),bF h32] (QlL Γ rv h)
theorem QlI (Γ:Gam) (rv:List Int) {types x0 l4} (h:Qbv types x0 l4=some rv):QbV Γ rv ⟨[.c 255],⟨156,[vI 2 types,vO 11 0 1 l4 Qaw,vP 12 1 16],[oS 1 33 l4 Qaw,oX 16 56 (Qac.enc x0)]⟩⟩:=by
 unfold Qbv at h
 rcases Qak h with ⟨h17,h⟩|⟨h17,h⟩
 ·obtain ⟨h18,h⟩:=Qat h
  exact gn 5 [2,11,12] [3,1] [rp 5 hP,rp 3 (oI ((eqI x0.pick.place (-1))=true)),oR True ((eqI x0.pick.place (-1))=true),bT h17,oO (Eq.refl ([19].map Qaw).length),aO Qaw h18] (QlJ Γ rv h)
 ·exact gn 5 [2,11,12] [0,1] [rp 5 hP,rp 3 (oI ((eqI x0.pick.place (-1))=true)),oR True ((eqI x0.pick.place (-1))=true),bF h17] (QlJ Γ rv h)
theorem QlO (Γ:Gam) (rv:List Int) {types x0 l10} (h:Qeq types x0 l10=some rv):QbV Γ rv ⟨[.c 2047],⟨156,[vI 2 types,vO 11 0 1 l10 Qaw,vP 12 1 16],[oS 1 33 l10 Qaw,oX 16 56 (Qac.enc x0)]⟩⟩:=by
 unfold Qeq at h
 obtain ⟨r14,h52,h⟩:=Qae h
 rcases Qak h with ⟨h53,h⟩|⟨h53,h⟩
 ·obtain ⟨r15,h54,h⟩:=Qae h
  rcases Qak h with ⟨h55,h⟩|⟨h55,h⟩
  ·obtain ⟨h56,h⟩:=Qat h
   obtain rfl:=Option.some.inj h
   exact gr 9 [] [rp 5 hP,rp 3 (oI ((neI x0.pick.place (-1))=true)),oR True ((neI x0.pick.place (-1))=true),cC (QaJ h52),rp 3 (nF h53),cC (QaJ h54),rp 2 (nF h53),rp 26 hP,rp 4 (oI ((!r15)=false)),oI (((!r15)=false)∧(gtI x0.split 1)=true),oR True ((!r15)=false),rp 2 (oI (((!r15)||((gtI x0.split 1)&&((neI x0.pick.place (-1))&&(neI x0.drop.place (-1)))))=false)),oR True (((!r15)||((gtI x0.split 1)&&((neI x0.pick.place (-1))&&(neI x0.drop.place (-1)))))=false),rp 3 (oI ((((!r15)||((gtI x0.split 1)&&((neI x0.pick.place (-1))&&(neI x0.drop.place (-1)))))||(ltI x0.last_ (-1)))=false)),oR True ((((!r15)||((gtI x0.split 1)&&((neI x0.pick.place (-1))&&(neI x0.drop.place (-1)))))||(ltI x0.last_ (-1)))=false),rp 2 (oI (((((!r15)||((gtI x0.split 1)&&((neI x0.pick.place (-1))&&(neI x0.drop.place (-1)))))||(ltI x0.last_ (-1)))||(geI x0.last_ types))=false)),oR True (((((!r15)||((gtI x0.split 1)&&((neI x0.pick.place (-1))&&(neI x0.drop.place (-1)))))||(ltI x0.last_ (-1)))||(geI x0.last_ types))=false),rp 3 (oI ((((((!r15)||((gtI x0.split 1)&&((neI x0.pick.place (-1))&&(neI x0.drop.place (-1)))))||(ltI x0.last_ (-1)))||(geI x0.last_ types))||(ltI x0.now (-1)))=false)),oR True ((((((!r15)||((gtI x0.split 1)&&((neI x0.pick.place (-1))&&(neI x0.drop.place (-1)))))||(ltI x0.last_ (-1)))||(geI x0.last_ types))||(ltI x0.now (-1)))=false),bT h55,oO (Eq.refl ([2].map Qaw).length),aO Qaw h56,hW 5,hH (.frz 3),rp 4 (oO (Eq.refl ((l10++[2]).map Qaw).length))]
  ·obtain rfl:=Option.some.inj h
   exact gr 9 [] [rp 5 hP,rp 3 (oI ((neI x0.pick.place (-1))=true)),oR True ((neI x0.pick.place (-1))=true),cC (QaJ h52),rp 3 (nF h53),cC (QaJ h54),rp 2 (nF h53),rp 26 hP,rp 4 (oI ((!r15)=false)),oI (((!r15)=false)∧(gtI x0.split 1)=true),oR True ((!r15)=false),rp 2 (oI (((!r15)||((gtI x0.split 1)&&((neI x0.pick.place (-1))&&(neI x0.drop.place (-1)))))=false)),oR True (((!r15)||((gtI x0.split 1)&&((neI x0.pick.place (-1))&&(neI x0.drop.place (-1)))))=false),rp 3 (oI ((((!r15)||((gtI x0.split 1)&&((neI x0.pick.place (-1))&&(neI x0.drop.place (-1)))))||(ltI x0.last_ (-1)))=false)),oR True ((((!r15)||((gtI x0.split 1)&&((neI x0.pick.place (-1))&&(neI x0.drop.place (-1)))))||(ltI x0.last_ (-1)))=false),rp 2 (oI (((((!r15)||((gtI x0.split 1)&&((neI x0.pick.place (-1))&&(neI x0.drop.place (-1)))))||(ltI x0.last_ (-1)))||(geI x0.last_ types))=false)),oR True (((((!r15)||((gtI x0.split 1)&&((neI x0.pick.place (-1))&&(neI x0.drop.place (-1)))))||(ltI x0.last_ (-1)))||(geI x0.last_ types))=false),rp 3 (oI ((((((!r15)||((gtI x0.split 1)&&((neI x0.pick.place (-1))&&(neI x0.drop.place (-1)))))||(ltI x0.last_ (-1)))||(geI x0.last_ types))||(ltI x0.now (-1)))=false)),oR True ((((((!r15)||((gtI x0.split 1)&&((neI x0.pick.place (-1))&&(neI x0.drop.place (-1)))))||(ltI x0.last_ (-1)))||(geI x0.last_ types))||(ltI x0.now (-1)))=false),bF h55,hW 5,hH (.frz 0),rp 3 (eL l10 Qaw)]
 ·obtain ⟨h57,h⟩:=Qat h
  obtain rfl:=Option.some.inj h
  exact gr 9 [] [rp 5 hP,rp 3 (oI ((neI x0.pick.place (-1))=true)),oR True ((neI x0.pick.place (-1))=true),cC (QaJ h52),rp 5 (nT h53),rp 4 tT,kF,rp 21 tT,oO (Eq.refl ([2].map Qaw).length),aO Qaw h57,hW 5,hH (.frz 3),rp 4 (oO (Eq.refl ((l10++[2]).map Qaw).length))]
theorem Qkt (Γ:Gam) (rv:List Int) {types x0 l12} (h:Qd1 types x0 l12=some rv):QbV Γ rv ⟨[.c 2047],⟨156,[vI 2 types,vO 11 0 1 l12 Qaw,vP 12 1 16],[oS 1 33 l12 Qaw,oX 16 56 (Qac.enc x0)]⟩⟩:=by
 unfold Qd1 at h
 obtain ⟨r18,h64,h⟩:=Qae h
 rcases Qak h with ⟨h65,h⟩|⟨h65,h⟩
 ·obtain ⟨r19,h66,h⟩:=Qae h
  rcases Qak h with ⟨h67,h⟩|⟨h67,h⟩
  ·obtain ⟨h68,h⟩:=Qat h
   obtain rfl:=Option.some.inj h
   exact gr 9 [] [rp 5 hP,rp 3 (oI ((neI x0.pick.place (-1))=true)),oR True ((neI x0.pick.place (-1))=true),cC (QaJ h64),rp 3 (nF h65),cC (QaJ h66),rp 2 (nF h65),rp 26 hP,rp 4 (oI ((!r19)=false)),oI (((!r19)=false)∧(gtI x0.split 1)=true),oR True ((!r19)=false),rp 2 (oI (((!r19)||((gtI x0.split 1)&&((neI x0.pick.place (-1))&&(neI x0.drop.place (-1)))))=false)),oR True (((!r19)||((gtI x0.split 1)&&((neI x0.pick.place (-1))&&(neI x0.drop.place (-1)))))=false),rp 3 (oI ((((!r19)||((gtI x0.split 1)&&((neI x0.pick.place (-1))&&(neI x0.drop.place (-1)))))||(ltI x0.last_ (-1)))=false)),oR True ((((!r19)||((gtI x0.split 1)&&((neI x0.pick.place (-1))&&(neI x0.drop.place (-1)))))||(ltI x0.last_ (-1)))=false),rp 2 (oI (((((!r19)||((gtI x0.split 1)&&((neI x0.pick.place (-1))&&(neI x0.drop.place (-1)))))||(ltI x0.last_ (-1)))||(geI x0.last_ types))=false)),oR True (((((!r19)||((gtI x0.split 1)&&((neI x0.pick.place (-1))&&(neI x0.drop.place (-1)))))||(ltI x0.last_ (-1)))||(geI x0.last_ types))=false),rp 3 (oI ((((((!r19)||((gtI x0.split 1)&&((neI x0.pick.place (-1))&&(neI x0.drop.place (-1)))))||(ltI x0.last_ (-1)))||(geI x0.last_ types))||(ltI x0.now (-1)))=false)),oR True ((((((!r19)||((gtI x0.split 1)&&((neI x0.pick.place (-1))&&(neI x0.drop.place (-1)))))||(ltI x0.last_ (-1)))||(geI x0.last_ types))||(ltI x0.now (-1)))=false),bT h67,oO (Eq.refl ([2].map Qaw).length),aO Qaw h68,hW 5,hH (.frz 3),rp 4 (oO (Eq.refl ((l12++[2]).map Qaw).length))]
  ·obtain rfl:=Option.some.inj h
   exact gr 9 [] [rp 5 hP,rp 3 (oI ((neI x0.pick.place (-1))=true)),oR True ((neI x0.pick.place (-1))=true),cC (QaJ h64),rp 3 (nF h65),cC (QaJ h66),rp 2 (nF h65),rp 26 hP,rp 4 (oI ((!r19)=false)),oI (((!r19)=false)∧(gtI x0.split 1)=true),oR True ((!r19)=false),rp 2 (oI (((!r19)||((gtI x0.split 1)&&((neI x0.pick.place (-1))&&(neI x0.drop.place (-1)))))=false)),oR True (((!r19)||((gtI x0.split 1)&&((neI x0.pick.place (-1))&&(neI x0.drop.place (-1)))))=false),rp 3 (oI ((((!r19)||((gtI x0.split 1)&&((neI x0.pick.place (-1))&&(neI x0.drop.place (-1)))))||(ltI x0.last_ (-1)))=false)),oR True ((((!r19)||((gtI x0.split 1)&&((neI x0.pick.place (-1))&&(neI x0.drop.place (-1)))))||(ltI x0.last_ (-1)))=false),rp 2 (oI (((((!r19)||((gtI x0.split 1)&&((neI x0.pick.place (-1))&&(neI x0.drop.place (-1)))))||(ltI x0.last_ (-1)))||(geI x0.last_ types))=false)),oR True (((((!r19)||((gtI x0.split 1)&&((neI x0.pick.place (-1))&&(neI x0.drop.place (-1)))))||(ltI x0.last_ (-1)))||(geI x0.last_ types))=false),rp 3 (oI ((((((!r19)||((gtI x0.split 1)&&((neI x0.pick.place (-1))&&(neI x0.drop.place (-1)))))||(ltI x0.last_ (-1)))||(geI x0.last_ types))||(ltI x0.now (-1)))=false)),oR True ((((((!r19)||((gtI x0.split 1)&&((neI x0.pick.place (-1))&&(neI x0.drop.place (-1)))))||(ltI x0.last_ (-1)))||(geI x0.last_ types))||(ltI x0.now (-1)))=false),bF h67,hW 5,hH (.frz 0),rp 3 (eL l12 Qaw)]
 ·obtain ⟨h69,h⟩:=Qat h
  obtain rfl:=Option.some.inj h
  exact gr 9 [] [rp 5 hP,rp 3 (oI ((neI x0.pick.place (-1))=true)),oR True ((neI x0.pick.place (-1))=true),cC (QaJ h64),rp 5 (nT h65),rp 4 tT,kF,rp 21 tT,oO (Eq.refl ([2].map Qaw).length),aO Qaw h69,hW 5,hH (.frz 3),rp 4 (oO (Eq.refl ((l12++[2]).map Qaw).length))]
theorem Qks (Γ:Gam) (rv:List Int) {types x0 l11} (h:Qd0 types x0 l11=some rv):QbV Γ rv ⟨[.c 1023],⟨156,[vI 2 types,vO 11 0 1 l11 Qaw,vP 12 1 16],[oS 1 33 l11 Qaw,oX 16 56 (Qac.enc x0)]⟩⟩:=by
 unfold Qd0 at h
 obtain ⟨r17,h61,h⟩:=Qae h
 rcases Qak h with ⟨h62,h⟩|⟨h62,h⟩
 ·exact gn 5 [2,11,12] [0,1] [cC (QaJ h61),nF h62] (Qkt Γ rv h)
 ·obtain ⟨h63,h⟩:=Qat h
  exact gn 5 [2,11,12] [3,1] [cC (QaJ h61),nT h62,oO (Eq.refl ([18].map Qaw).length),aO Qaw h63] (Qkt Γ rv h)
theorem QlN (Γ:Gam) (rv:List Int) {types x0 l9} (h:Qep types x0 l9=some rv):QbV Γ rv ⟨[.c 511],⟨156,[vI 2 types,vO 11 0 1 l9 Qaw,vP 12 1 16],[oS 1 33 l9 Qaw,oX 16 56 (Qac.enc x0)]⟩⟩:=by
 unfold Qep at h
 obtain ⟨r12,h46,h⟩:=Qae h
 rcases Qak h with ⟨h47,h⟩|⟨h47,h⟩
 ·obtain ⟨h48,h⟩:=Qat h
  obtain ⟨r13,h49,h⟩:=Qae h
  rcases Qak h with ⟨h50,h⟩|⟨h50,h⟩
  ·exact gn 10 [2,11,12] [3,1] [cC (QbX h46),rp 5 (bT h47),tT,oO (Eq.refl ([14].map Qaw).length),aO Qaw h48,cC (QaJ h49),nF h50] (QlO Γ rv h)
  ·obtain ⟨h51,h⟩:=Qat h
   exact gn 10 [2,11,12] [5,1] [cC (QbX h46),rp 5 (bT h47),tT,oO (Eq.refl ([14].map Qaw).length),aO Qaw h48,cC (QaJ h49),nT h50,oO (Eq.refl ([18].map Qaw).length),aO Qaw h51] (QlO Γ rv h)
 ·obtain ⟨r16,h58,h⟩:=Qae h
  rcases Qak h with ⟨h59,h⟩|⟨h59,h⟩
  ·obtain ⟨h60,h⟩:=Qat h
   exact gn 5 [2,11,12] [3,1] [cC (QbX h46),rp 3 (bF h47),cC (QbX h58),rp 2 (bF h47),bT h59,oO (Eq.refl ([14].map Qaw).length),aO Qaw h60] (Qks Γ rv h)
  ·exact gn 5 [2,11,12] [0,1] [cC (QbX h46),rp 3 (bF h47),cC (QbX h58),rp 2 (bF h47),bF h59] (Qks Γ rv h)
theorem QlH (Γ:Gam) (rv:List Int) {places types x0 l3} (h:Qa7 places types x0 l3=some rv):QbV Γ rv ⟨[.c 127],⟨156,[vI 0 places,vI 2 types,vO 11 0 1 l3 Qaw,vP 12 1 16],[oS 1 33 l3 Qaw,oX 16 56 (Qac.enc x0)]⟩⟩:=by
 unfold Qa7 at h
 obtain ⟨r2,h12,h⟩:=Qae h
 rcases Qak h with ⟨h13,h⟩|⟨h13,h⟩
 ·obtain ⟨r3,h14,h⟩:=Qae h
  rcases Qak h with ⟨h15,h⟩|⟨h15,h⟩
  ·exact gn 5 [2,11,12] [0,1] [cC (QaJ h12),rp 6 (nF h13),cC (QaJ h14),rp 2 (nF h13),nF h15] (QlI Γ rv h)
  ·obtain ⟨h16,h⟩:=Qat h
   exact gn 5 [2,11,12] [3,1] [cC (QaJ h12),rp 6 (nF h13),cC (QaJ h14),rp 2 (nF h13),nT h15,oO (Eq.refl ([11].map Qaw).length),aO Qaw h16] (QlI Γ rv h)
 ·obtain ⟨h43,h⟩:=Qat h
  rcases Qak h with ⟨h44,h⟩|⟨h44,h⟩
  ·obtain ⟨h45,h⟩:=Qat h
   exact gn 10 [2,11,12] [5,1] [cC (QaJ h12),rp 8 (nT h13),tT,oO (Eq.refl ([11].map Qaw).length),aO Qaw h43,rp 5 hP,rp 3 (oI ((eqI x0.pick.place (-1))=true)),oR True ((eqI x0.pick.place (-1))=true),bT h44,oO (Eq.refl ([19].map Qaw).length),aO Qaw h45] (QlN Γ rv h)
  ·exact gn 10 [2,11,12] [3,1] [cC (QaJ h12),rp 8 (nT h13),tT,oO (Eq.refl ([11].map Qaw).length),aO Qaw h43,rp 5 hP,rp 3 (oI ((eqI x0.pick.place (-1))=true)),oR True ((eqI x0.pick.place (-1))=true),bF h44] (QlN Γ rv h)
theorem QlG (Γ:Gam) (rv:List Int) {places dims types l at_ x0 l1} (h:QdI places dims types l at_ x0 l1=some rv):QbV Γ rv ⟨[.c 31],⟨156,[vI 0 places,vI 1 dims,vI 2 types,vL 3 16 l Qac.enc,vI 4 at_,vO 11 0 1 l1 Qaw,vP 12 1 16],[oS 1 33 l1 Qaw,oX 16 56 (Qac.enc x0)]⟩⟩:=by
 unfold QdI at h
 obtain ⟨e0,h8,h⟩:=Qae h
 refine gn 5 [0,1,2,3,4,11,12,13] [0,1] [] (Qss Γ rv h8 ?_)
 obtain ⟨l2,rfl⟩:∃ x,x=e0:=⟨_,rfl⟩
 replace h:(bnd (Qef x0.load dims) fun r1=>br r1 (Qa7 places types x0 l2) (chk (okN (l2++[17]).length 8) (Qa7 places types x0 (l2++[17]))):Option (List Int))=some _:=h
 obtain ⟨r1,h9,h⟩:=Qae h
 rcases Qak h with ⟨h10,h⟩|⟨h10,h⟩
 ·exact gn 5 [0,2,11,12] [0,1] [cC (QoL h9),nF h10] (QlH Γ rv h)
 ·obtain ⟨h11,h⟩:=Qat h
  exact gn 5 [0,2,11,12] [3,1] [cC (QoL h9),nT h10,oO (Eq.refl ([17].map Qaw).length),aO Qaw h11] (QlH Γ rv h)
theorem Qux {places dims types l at_} {rv:List Int} (h:Qeo places dims types l at_=some rv):AFn Tryz.prog 68 [.one (lI places),.one (lI dims),.one (lI types),.one (lL 16 l Qac.enc),.one (lI at_)] [] (one (lL 1 rv Qaw)) []:=by
 refine QaG Tryz.func68 (by kernel_rfl) (by kernel_rfl) (fun Γ=>?_)
 unfold Qeo at h
 obtain ⟨x0,h0,h⟩:=Qae h
 obtain ⟨r,h1,h⟩:=Qae h
 rcases Qak h with ⟨h2,h⟩|⟨h2,h⟩
 ·exact gn 11 [0,1,2,3,4,11,12] [1,0] [cE Qac.enc h0,cC (QfI h1),nF h2,hW 1,hH (.adopt 11 1 33)] (QlG Γ rv h)
 ·obtain ⟨h3,h⟩:=Qat h
  exact gn 11 [0,1,2,3,4,11,12] [2,0] [cE Qac.enc h0,cC (QfI h1),nT h2,oO (Eq.refl ([5].map Qaw).length),aN (l:=([5]:List Int)) Qaw h3] (QlG Γ rv h)
def QgZ (Γ:Gam) (rv:List Qaa) (cf:Cf):Prop:=Go Tryz.prog Tryz.f42 [] Γ (one (lL 2 rv Qaa.enc)) [] cf
def QmL (Γ:Gam) (rv:List Qaa) (n:Qag) (dims:Int) (types:Int) (l:List Qac) (i:Int) (r:List Int) (l3:List Qaa) (k:Int):Prop:=QgZ Γ rv ⟨[.c 31308,.l 31308,.b 2,.b 1,.c 979,.l 244,.b 0,.c 31],⟨51,[vI 1 dims,vI 2 types,vL 3 16 l Qac.enc,vP 4 0 2,vO 9 1 2 l3 Qaa.enc,vI 10 i,vL 11 1 r Qaw,vI 12 k],[oX 2 25 (Qag.enc n),oS 2 104 l3 Qaa.enc]⟩⟩
def QlF (Γ:Gam) (rv:List Qaa) (n:Qag) (dims:Int) (types:Int) (l:List Qac) (i:Int) (r:List Int) (l4:List Qaa):Prop:=QgZ Γ rv ⟨[.b 1,.c 979,.l 244,.b 0,.c 31],⟨51,[vI 1 dims,vI 2 types,vL 3 16 l Qac.enc,vP 4 0 2,vO 9 1 2 l4 Qaa.enc,vI 10 i],[oX 2 25 (Qag.enc n),oS 2 104 l4 Qaa.enc]⟩⟩
def QmK (Γ:Gam) (rv:List Qaa) (n:Qag) (dims:Int) (types:Int) (l:List Qac) (l2:List Qaa) (i:Int):Prop:=QgZ Γ rv ⟨[.c 244,.l 244,.b 0,.c 31],⟨51,[vI 1 dims,vI 2 types,vL 3 16 l Qac.enc,vP 4 0 2,vO 9 1 2 l2 Qaa.enc,vI 10 i],[oX 2 25 (Qag.enc n),oS 2 104 l2 Qaa.enc]⟩⟩
def QlE (Γ:Gam) (rv:List Qaa) (n:Qag) (dims:Int) (types:Int) (l:List Qac) (l5:List Qaa):Prop:=QgZ Γ rv ⟨[.c 31],⟨51,[vO 9 0 2 l5 Qaa.enc],[oS 2 104 l5 Qaa.enc]⟩⟩
theorem Qsr (Γ:Gam) (rv:List Qaa) {n dims types l i r} {s:List Qaa×Int} {e:List Qaa} (h:QaX (fun s=>Qen n dims types l i r s.1 s.2) s=some e) (hD:QlF Γ rv n dims types l i r e):QmL Γ rv n dims types l i r s.1 s.2:=by
 refine QaA (C:=fun (s:List Qaa×Int)=>QmL Γ rv n dims types l i r s.1 s.2) (D:=fun (e:List Qaa)=>QlF Γ rv n dims types l i r e) ?_ h hD
 clear h hD s e
 rintro ⟨l3,k⟩ z_ h hI hE
 replace h:Qen n dims types l i r l3 k=_:=h
 unfold Qen at h
 rcases Qak h with ⟨h4,h⟩|⟨h4,h⟩
 ·obtain ⟨x0,h5,h⟩:=Qae h
  obtain ⟨r1,h6,h⟩:=Qae h
  obtain ⟨h7,h⟩:=Qat h
  exact gn 11 [1,2,3,4,9,10,11,12] [0,3] [nL Qaw r,bT h4,hH (.draw 9 []),cE Qaw h5,cC (Qcr h6),oO (Eq.refl ([(Qaa.mk x0 r1)].map Qaa.enc).length),aO Qaa.enc h7] (hI _ (oJ h))
 ·exact gn 5 [1,2,3,4,9,10] [0,1] [nL Qaw r,bF h4] (hE _ (oJ h))
theorem Qsq (Γ:Gam) (rv:List Qaa) {n dims types l} {s:List Qaa×Int} {e:List Qaa} (h:QaX (fun s=>Qce n dims types l s.1 s.2) s=some e) (hD:QlE Γ rv n dims types l e):QmK Γ rv n dims types l s.1 s.2:=by
 refine QaA (C:=fun (s:List Qaa×Int)=>QmK Γ rv n dims types l s.1 s.2) (D:=fun (e:List Qaa)=>QlE Γ rv n dims types l e) ?_ h hD
 clear h hD s e
 rintro ⟨l2,i⟩ z_ h hI hE
 replace h:Qce n dims types l l2 i=_:=h
 unfold Qce at h
 rcases Qak h with ⟨h2,h⟩|⟨h2,h⟩
 ·obtain ⟨r,h3,h⟩:=Qae h
  obtain ⟨e0,h8,h⟩:=Qae h
  refine gn 13 [1,2,3,4,9,10,11,12] [0,1] [nL Qac.enc l,bT h2,nL QeA n.places,cC (Qux h3)] (Qsr Γ rv h8 ?_)
  obtain ⟨l4,rfl⟩:∃ x,x=e0:=⟨_,rfl⟩
  replace h:(some (.inl (l4,(addK .i64 i 1))):Option ((List Qaa×Int)⊕(List Qaa)))=some _:=h
  exact gn 3 [1,2,3,4,9,10] [0,1] [] (hI _ (oJ h))
 ·exact gn 5 [9] [1] [nL Qac.enc l,bF h2] (hE _ (oJ h))
theorem QlD (Γ:Gam) (rv:List Qaa) {n dims types l l1} (h:Qem n dims types l l1=some rv):QgZ Γ rv ⟨[.c 15],⟨51,[vI 1 dims,vI 2 types,vL 3 16 l Qac.enc,vP 4 0 2,vO 9 1 2 l1 Qaa.enc],[oX 2 25 (Qag.enc n),oS 2 104 l1 Qaa.enc]⟩⟩:=by
 unfold Qem at h
 obtain ⟨e1,h9,h⟩:=Qae h
 refine gn 5 [1,2,3,4,9,10] [0,1] [] (Qsq Γ rv h9 ?_)
 obtain ⟨l5,rfl⟩:∃ x,x=e1:=⟨_,rfl⟩
 replace h:(some l5:Option (List Qaa))=some _:=h
 obtain rfl:=Option.some.inj h
 exact gr 2 [] [hW 4,hH (.frz 0),rp 3 (eL l5 Qaa.enc)]
theorem Quw {n dims types l} {rv:List Qaa} (h:QfX n dims types l=some rv):AFn Tryz.prog 42 [.agg (Qag.enc n),.one (lI dims),.one (lI types),.one (lL 16 l Qac.enc)] [] (one (lL 2 rv Qaa.enc)) []:=by
 refine QaG Tryz.func42 (by kernel_rfl) (by kernel_rfl) (fun Γ=>?_)
 unfold QfX at h
 rcases Qak h with ⟨h0,h⟩|⟨h0,h⟩
 ·obtain ⟨h1,h⟩:=Qat h
  exact gn 9 [1,2,3,4,9] [0,2] [nL Qac.enc l,bT h0,oO (Eq.refl ([(Qaa.mk 4 ByteArray.empty)].map Qaa.enc).length),aN (l:=([(Qaa.mk 4 ByteArray.empty)]:List Qaa)) Qaa.enc h1] (QlD Γ rv h)
 ·exact gn 9 [1,2,3,4,9] [0,1] [nL Qac.enc l,bF h0,hW 1,hH (.adopt 9 2 104)] (QlD Γ rv h)
def QnS (Γ:Gam) (rv:ByteArray) (cf:Cf):Prop:=Go Tryz.prog Tryz.f101 [] Γ (one (.str rv)) [] cf
def Qku (Γ:Gam) (rv:ByteArray) (n1:Int) (s0:ByteArray):Prop:=QnS Γ rv ⟨[.c 56,.l 56,.b 0,.c 15],⟨23,[vI 0 n1,vS 3 s0],[]⟩⟩
def Qj4 (Γ:Gam) (rv:ByteArray) (n2:Int) (s1:ByteArray):Prop:=QnS Γ rv ⟨[.c 15],⟨23,[vI 0 n2,vS 3 s1],[]⟩⟩
theorem QqI (Γ:Gam) (rv:ByteArray) {s:Int×ByteArray} {e:Int×ByteArray} (h:QaX (fun s=>Qez s.1 s.2) s=some e) (hD:Qj4 Γ rv e.1 e.2):Qku Γ rv s.1 s.2:=by
 refine QaA (C:=fun (s:Int×ByteArray)=>Qku Γ rv s.1 s.2) (D:=fun (e:Int×ByteArray)=>Qj4 Γ rv e.1 e.2) ?_ h hD
 clear h hD s e
 rintro ⟨n1,s0⟩ z_ h hI hE
 replace h:Qez n1 s0=_:=h
 unfold Qez at h
 rcases Qak h with ⟨h0,h⟩|⟨h0,h⟩
 ·obtain ⟨h1,h⟩:=Qat h
  exact gn 11 [0,3] [] [bT h0,hH (.ints [(cvK .u8 (addK .i64 48 (remK n1 10)))]),oO (oA (n:=10)),oO (Eq.refl ([(cvK .u8 (addK .i64 48 (remK n1 10)))].map e_u8).length),oO (Eq.refl (([(cvK .u8 (addK .i64 48 (remK n1 10)))].map e_u8):List (List Lf))),oO (h1),oO (oA (n:=10))] (hI _ (oJ h))
 ·exact gn 5 [0,3] [] [bF h0] (hE _ (oJ h))
theorem QgP {n} {rv:ByteArray} (h:QfK n=some rv):AFn Tryz.prog 101 [.one (lI n)] [] (one (.str rv)) []:=by
 refine QaG Tryz.func101 (by kernel_rfl) (by kernel_rfl) (fun Γ=>?_)
 unfold QfK at h
 obtain ⟨e0,h2,h⟩:=Qae h
 refine gn 7 [0,3] [] [] (QqI Γ rv h2 ?_)
 obtain ⟨n2,s1⟩:=e0
 replace h:(chk ((QtQ [(cvK .u8 (addK .i64 48 n2))]).size+s1.size≤9223372036854775807) (some (catS (QtQ [(cvK .u8 (addK .i64 48 n2))]) s1)):Option ByteArray)=some _:=h
 obtain ⟨h3,h⟩:=Qat h
 obtain rfl:=Option.some.inj h
 exact gr 2 [] [hH (.ints [(cvK .u8 (addK .i64 48 n2))]),oO (Eq.refl ([(cvK .u8 (addK .i64 48 n2))].map e_u8).length),oO (Eq.refl (([(cvK .u8 (addK .i64 48 n2))].map e_u8):List (List Lf))),oO (h3)]
def Qgr (Γ:Gam) (rv:List Qaa) (cf:Cf):Prop:=Go Tryz.prog Tryz.f69 [] Γ (one (lL 2 rv Qaa.enc)) [] cf
def QlR (Γ:Gam) (rv:List Qaa) (orders:Int) (l:List Qav) (word:ByteArray) (turned:Bool) (l2:List Qaa) (i:Int) (x0:Qav) (r:ByteArray) (twice:Bool) (k:Int):Prop:=Qgr Γ rv ⟨[.c 1001972,.l 1001972,.b 2,.c 125247,.b 1,.c 979,.l 244,.b 0,.c 31],⟨123,[vI 0 orders,vL 1 2 l Qav.enc,vS 2 word,vB 3 turned,vO 9 0 2 l2 Qaa.enc,vI 10 i,vI 11 x0.x0,vI 12 x0.x1,vS 13 (catS (catS word Qa1) r),vB 14 twice,vI 15 k],[oS 2 104 l2 Qaa.enc]⟩⟩
def Qkx (Γ:Gam) (rv:List Qaa) (orders:Int) (l:List Qav) (word:ByteArray) (turned:Bool) (l2:List Qaa) (i:Int) (x0:Qav) (r:ByteArray) (twice1:Bool):Prop:=Qgr Γ rv ⟨[.c 125247,.b 1,.c 979,.l 244,.b 0,.c 31],⟨123,[vI 0 orders,vL 1 2 l Qav.enc,vS 2 word,vB 3 turned,vO 9 0 2 l2 Qaa.enc,vI 10 i,vS 13 (catS (catS word Qa1) r),vB 14 twice1],[oS 2 104 l2 Qaa.enc]⟩⟩
def QlQ (Γ:Gam) (rv:List Qaa) (orders:Int) (l:List Qav) (word:ByteArray) (turned:Bool) (l2:List Qaa) (i:Int):Prop:=Qgr Γ rv ⟨[.c 244,.l 244,.b 0,.c 31],⟨123,[vI 0 orders,vL 1 2 l Qav.enc,vS 2 word,vB 3 turned,vO 9 0 2 l2 Qaa.enc,vI 10 i],[oS 2 104 l2 Qaa.enc]⟩⟩
def Qkw (Γ:Gam) (rv:List Qaa) (orders:Int) (l:List Qav) (word:ByteArray) (turned:Bool) (l3:List Qaa):Prop:=Qgr Γ rv ⟨[.c 31],⟨123,[vO 9 0 2 l3 Qaa.enc],[oS 2 104 l3 Qaa.enc]⟩⟩
theorem QrQ (Γ:Gam) (rv:List Qaa) {orders l word turned l2 i x0 r} {s:Bool×Int} {e:Bool} (h:QaX (fun s=>QbM orders l word turned l2 i x0 r s.1 s.2) s=some e) (hD:Qkx Γ rv orders l word turned l2 i x0 r e):QlR Γ rv orders l word turned l2 i x0 r s.1 s.2:=by
 refine QaA (C:=fun (s:Bool×Int)=>QlR Γ rv orders l word turned l2 i x0 r s.1 s.2) (D:=fun (e:Bool)=>Qkx Γ rv orders l word turned l2 i x0 r e) ?_ h hD
 clear h hD s e
 rintro ⟨twice,k⟩ z_ h hI hE
 replace h:QbM orders l word turned l2 i x0 r twice k=_:=h
 unfold QbM at h
 rcases Qak h with ⟨h9,h⟩|⟨h9,h⟩
 ·rcases Qak h with ⟨h10,h⟩|⟨h10,h⟩
  ·exact gn 11 [0,1,2,3,9,10,11,12,13,14,15] [0] [bT h9,rp 8 (bT h10),rp 7 kF,rp 2 (bT h10),tT,tT,rp 7 kF,tT,tT,rp 7 kF,tT,tT] (hI _ (oJ h))
  ·obtain ⟨x1,h11,h⟩:=Qae h
   rcases Qak h with ⟨h12,h⟩|⟨h12,h⟩
   ·rcases Qak h with ⟨h13,h⟩|⟨h13,h⟩
    ·exact gn 11 [0,1,2,3,9,10,11,12,13,14,15] [0] [bT h9,rp 3 (bF h10),cE Qav.enc h11,bF h10,oO (zL 0),oO (lT 0 2),rp 4 (bF h10),rp 3 (bT h12),cE Qav.enc h11,bT h12,oO (zL 1),oO (lT 1 2),rp 3 (bT h12),bF h10,bT h12,bF h10,rp 2 (bT h13),rp 7 kF,rp 2 (bT h13),rp 7 kF,rp 2 (bT h13)] (hI _ (oJ h))
    ·rcases Qak h with ⟨h14,h⟩|⟨h14,h⟩
     ·rcases Qak h with ⟨h15,h⟩|⟨h15,h⟩
      ·exact gn 11 [0,1,2,3,9,10,11,12,13,14,15] [0] [bT h9,rp 3 (bF h10),cE Qav.enc h11,bF h10,oO (zL 0),oO (lT 0 2),rp 4 (bF h10),rp 3 (bT h12),cE Qav.enc h11,bT h12,oO (zL 1),oO (lT 1 2),rp 3 (bT h12),bF h10,bT h12,bF h10,rp 2 (bF h13),rp 3 (bT h14),cE Qav.enc h11,bT h14,oO (zL 0),oO (lT 0 2),rp 3 (bT h14),bF h13,bT h14,bF h13,rp 3 (bT h15),cE Qav.enc h11,bT h15,oO (zL 1),oO (lT 1 2),rp 3 (bT h15),bF h13,bT h15,bF h13] (hI _ (oJ h))
      ·exact gn 11 [0,1,2,3,9,10,11,12,13,14,15] [0] [bT h9,rp 3 (bF h10),cE Qav.enc h11,bF h10,oO (zL 0),oO (lT 0 2),rp 4 (bF h10),rp 3 (bT h12),cE Qav.enc h11,bT h12,oO (zL 1),oO (lT 1 2),rp 3 (bT h12),bF h10,bT h12,bF h10,rp 2 (bF h13),rp 3 (bT h14),cE Qav.enc h11,bT h14,oO (zL 0),oO (lT 0 2),rp 3 (bT h14),bF h13,bT h14,bF h13,rp 7 (bF h15),bF h13,bF h15,bF h13] (hI _ (oJ h))
     ·exact gn 11 [0,1,2,3,9,10,11,12,13,14,15] [0] [bT h9,rp 3 (bF h10),cE Qav.enc h11,bF h10,oO (zL 0),oO (lT 0 2),rp 4 (bF h10),rp 3 (bT h12),cE Qav.enc h11,bT h12,oO (zL 1),oO (lT 1 2),rp 3 (bT h12),bF h10,bT h12,bF h10,rp 2 (bF h13),rp 7 (bF h14),bF h13,bF h14,bF h13,rp 7 fF,bF h13,fF,bF h13] (hI _ (oJ h))
   ·rcases Qak h with ⟨h16,h⟩|⟨h16,h⟩
    ·rcases Qak h with ⟨h17,h⟩|⟨h17,h⟩
     ·exact gn 11 [0,1,2,3,9,10,11,12,13,14,15] [0] [bT h9,rp 3 (bF h10),cE Qav.enc h11,bF h10,oO (zL 0),oO (lT 0 2),rp 4 (bF h10),rp 7 (bF h12),bF h10,bF h12,bF h10,fF,fF,rp 3 (bT h16),cE Qav.enc h11,bT h16,oO (zL 0),oO (lT 0 2),rp 3 (bT h16),fF,bT h16,fF,rp 3 (bT h17),cE Qav.enc h11,bT h17,oO (zL 1),oO (lT 1 2),rp 3 (bT h17),fF,bT h17,fF] (hI _ (oJ h))
     ·exact gn 11 [0,1,2,3,9,10,11,12,13,14,15] [0] [bT h9,rp 3 (bF h10),cE Qav.enc h11,bF h10,oO (zL 0),oO (lT 0 2),rp 4 (bF h10),rp 7 (bF h12),bF h10,bF h12,bF h10,fF,fF,rp 3 (bT h16),cE Qav.enc h11,bT h16,oO (zL 0),oO (lT 0 2),rp 3 (bT h16),fF,bT h16,fF,rp 7 (bF h17),fF,bF h17,fF] (hI _ (oJ h))
    ·exact gn 11 [0,1,2,3,9,10,11,12,13,14,15] [0] [bT h9,rp 3 (bF h10),cE Qav.enc h11,bF h10,oO (zL 0),oO (lT 0 2),rp 4 (bF h10),rp 7 (bF h12),bF h10,bF h12,bF h10,fF,fF,rp 7 (bF h16),fF,bF h16,rp 11 fF] (hI _ (oJ h))
 ·exact gn 5 [0,1,2,3,9,10,13,14] [0] [bF h9] (hE _ (oJ h))
theorem QrP (Γ:Gam) (rv:List Qaa) {orders l word turned} {s:List Qaa×Int} {e:List Qaa} (h:QaX (fun s=>Qbx orders l word turned s.1 s.2) s=some e) (hD:Qkw Γ rv orders l word turned e):QlQ Γ rv orders l word turned s.1 s.2:=by
 refine QaA (C:=fun (s:List Qaa×Int)=>QlQ Γ rv orders l word turned s.1 s.2) (D:=fun (e:List Qaa)=>Qkw Γ rv orders l word turned e) ?_ h hD
 clear h hD s e
 rintro ⟨l2,i⟩ z_ h hI hE
 replace h:Qbx orders l word turned l2 i=_:=h
 unfold Qbx at h
 rcases Qak h with ⟨h2,h⟩|⟨h2,h⟩
 ·obtain ⟨x0,h3,h⟩:=Qae h
  obtain ⟨h4,h⟩:=Qat h
  obtain ⟨r,h5,h⟩:=Qae h
  obtain ⟨h6,h⟩:=Qat h
  rcases Qak h with ⟨h7,h⟩|⟨h7,h⟩
  ·obtain ⟨h8,h⟩:=Qat h
   exact gn 22 [0,1,2,3,9,10] [2] [nL Qav.enc l,bT h2,cE Qav.enc h3,oO (zL 0),oO (lT 0 2),cE Qav.enc h3,oO (zL 1),oO (lT 1 2),oO (h4),cC (QgP h5),rp 15 hP,oO (h6),rp 2 (oI ((ltI x0.x0 0)=false)),oR True ((ltI x0.x0 0)=false),oI (((ltI x0.x0 0)||(geI x0.x0 orders))=false),oR True (((ltI x0.x0 0)||(geI x0.x0 orders))=false),rp 2 (oI ((((ltI x0.x0 0)||(geI x0.x0 orders))||(ltI x0.x1 0))=false)),oR True ((((ltI x0.x0 0)||(geI x0.x0 orders))||(ltI x0.x1 0))=false),rp 2 (oI (((((ltI x0.x0 0)||(geI x0.x0 orders))||(ltI x0.x1 0))||(geI x0.x1 orders))=false)),oR True (((((ltI x0.x0 0)||(geI x0.x0 orders))||(ltI x0.x1 0))||(geI x0.x1 orders))=false),bT h7,oO (Eq.refl ([(Qaa.mk 2 (catS (catS word Qa1) r))].map Qaa.enc).length),aO Qaa.enc h8] (hI _ (oJ h))
  ·obtain ⟨e0,h18,h⟩:=Qae h
   refine gn 25 [0,1,2,3,9,10,11,12,13,14,15] [0] [nL Qav.enc l,bT h2,cE Qav.enc h3,oO (zL 0),oO (lT 0 2),cE Qav.enc h3,oO (zL 1),oO (lT 1 2),oO (h4),cC (QgP h5),rp 15 hP,oO (h6),rp 2 (oI ((ltI x0.x0 0)=false)),oR True ((ltI x0.x0 0)=false),oI (((ltI x0.x0 0)||(geI x0.x0 orders))=false),oR True (((ltI x0.x0 0)||(geI x0.x0 orders))=false),rp 2 (oI ((((ltI x0.x0 0)||(geI x0.x0 orders))||(ltI x0.x1 0))=false)),oR True ((((ltI x0.x0 0)||(geI x0.x0 orders))||(ltI x0.x1 0))=false),rp 2 (oI (((((ltI x0.x0 0)||(geI x0.x0 orders))||(ltI x0.x1 0))||(geI x0.x1 orders))=false)),oR True (((((ltI x0.x0 0)||(geI x0.x0 orders))||(ltI x0.x1 0))||(geI x0.x1 orders))=false),bF h7] (QrQ Γ rv h18 ?_)
   obtain ⟨twice1,rfl⟩:∃ x,x=e0:=⟨_,rfl⟩
   replace h:(br twice1 (chk (okN (l2++[(Qaa.mk 6 (catS (catS word Qa1) r))]).length 24) (some (.inl ((l2++[(Qaa.mk 6 (catS (catS word Qa1) r))]),(addK .i64 i 1))))) (some (.inl (l2,(addK .i64 i 1)))):Option ((List Qaa×Int)⊕(List Qaa)))=some _:=h
   rcases Qak h with ⟨h19,h⟩|⟨h19,h⟩
   ·obtain ⟨h20,h⟩:=Qat h
    exact gn 7 [0,1,2,3,9,10] [2] [bT h19,oO (Eq.refl ([(Qaa.mk 6 (catS (catS word Qa1) r))].map Qaa.enc).length),aO Qaa.enc h20] (hI _ (oJ h))
   ·exact gn 7 [0,1,2,3,9,10] [0] [bF h19] (hI _ (oJ h))
 ·exact gn 5 [9] [0] [nL Qav.enc l,bF h2] (hE _ (oJ h))
theorem Qkv (Γ:Gam) (rv:List Qaa) {orders l word turned l1} (h:Qd2 orders l word turned l1=some rv):Qgr Γ rv ⟨[.c 15],⟨123,[vI 0 orders,vL 1 2 l Qav.enc,vS 2 word,vB 3 turned,vO 9 0 2 l1 Qaa.enc],[oS 2 104 l1 Qaa.enc]⟩⟩:=by
 unfold Qd2 at h
 obtain ⟨e1,h21,h⟩:=Qae h
 refine gn 5 [0,1,2,3,9,10] [0] [] (QrP Γ rv h21 ?_)
 obtain ⟨l3,rfl⟩:∃ x,x=e1:=⟨_,rfl⟩
 replace h:(some l3:Option (List Qaa))=some _:=h
 obtain rfl:=Option.some.inj h
 exact gr 2 [] [hW 4,hH (.frz 0),rp 3 (eL l3 Qaa.enc)]
theorem Qt0 {orders l word turned} {rv:List Qaa} (h:QeB orders l word turned=some rv):AFn Tryz.prog 69 [.one (lI orders),.one (lL 2 l Qav.enc),.one (.str word),.one (.bool turned)] [] (one (lL 2 rv Qaa.enc)) []:=by
 refine QaG Tryz.func69 (by kernel_rfl) (by kernel_rfl) (fun Γ=>?_)
 unfold QeB at h
 rcases Qak h with ⟨h0,h⟩|⟨h0,h⟩
 ·obtain ⟨h1,h⟩:=Qat h
  exact gn 9 [0,1,2,3,9] [1] [nL Qav.enc l,bT h0,oO (Eq.refl ([(Qaa.mk 4 word)].map Qaa.enc).length),aN (l:=([(Qaa.mk 4 word)]:List Qaa)) Qaa.enc h1] (Qkv Γ rv h)
 ·exact gn 9 [0,1,2,3,9] [0] [nL Qav.enc l,bF h0,hW 1,hH (.adopt 9 2 104)] (Qkv Γ rv h)
def QeJ (Γ:Gam) (rv:List Qaa) (cf:Cf):Prop:=Go Tryz.prog Tryz.f69 [] Γ (one (lO 0 2 rv Qaa.enc)) [oS 2 104 rv Qaa.enc] cf
def QiX (Γ:Gam) (rv:List Qaa) (orders:Int) (l:List Qav) (word:ByteArray) (turned:Bool) (l2:List Qaa) (i:Int) (x0:Qav) (r:ByteArray) (twice:Bool) (k:Int):Prop:=QeJ Γ rv ⟨[.c 1001972,.l 1001972,.b 2,.c 125247,.b 1,.c 979,.l 244,.b 0,.c 31],⟨123,[vI 0 orders,vL 1 2 l Qav.enc,vS 2 word,vB 3 turned,vO 9 0 2 l2 Qaa.enc,vI 10 i,vI 11 x0.x0,vI 12 x0.x1,vS 13 (catS (catS word Qa1) r),vB 14 twice,vI 15 k],[oS 2 104 l2 Qaa.enc]⟩⟩
def QiI (Γ:Gam) (rv:List Qaa) (orders:Int) (l:List Qav) (word:ByteArray) (turned:Bool) (l2:List Qaa) (i:Int) (x0:Qav) (r:ByteArray) (twice1:Bool):Prop:=QeJ Γ rv ⟨[.c 125247,.b 1,.c 979,.l 244,.b 0,.c 31],⟨123,[vI 0 orders,vL 1 2 l Qav.enc,vS 2 word,vB 3 turned,vO 9 0 2 l2 Qaa.enc,vI 10 i,vS 13 (catS (catS word Qa1) r),vB 14 twice1],[oS 2 104 l2 Qaa.enc]⟩⟩
def QiW (Γ:Gam) (rv:List Qaa) (orders:Int) (l:List Qav) (word:ByteArray) (turned:Bool) (l2:List Qaa) (i:Int):Prop:=QeJ Γ rv ⟨[.c 244,.l 244,.b 0,.c 31],⟨123,[vI 0 orders,vL 1 2 l Qav.enc,vS 2 word,vB 3 turned,vO 9 0 2 l2 Qaa.enc,vI 10 i],[oS 2 104 l2 Qaa.enc]⟩⟩
def QiH (Γ:Gam) (rv:List Qaa) (orders:Int) (l:List Qav) (word:ByteArray) (turned:Bool) (l3:List Qaa):Prop:=QeJ Γ rv ⟨[.c 31],⟨123,[vO 9 0 2 l3 Qaa.enc],[oS 2 104 l3 Qaa.enc]⟩⟩
theorem Qow (Γ:Gam) (rv:List Qaa) {orders l word turned l2 i x0 r} {s:Bool×Int} {e:Bool} (h:QaX (fun s=>Qfv orders l word turned l2 i x0 r s.1 s.2) s=some e) (hD:QiI Γ rv orders l word turned l2 i x0 r e):QiX Γ rv orders l word turned l2 i x0 r s.1 s.2:=by
 refine QaA (C:=fun (s:Bool×Int)=>QiX Γ rv orders l word turned l2 i x0 r s.1 s.2) (D:=fun (e:Bool)=>QiI Γ rv orders l word turned l2 i x0 r e) ?_ h hD
 clear h hD s e
 rintro ⟨twice,k⟩ z_ h hI hE
 replace h:Qfv orders l word turned l2 i x0 r twice k=_:=h
 unfold Qfv at h
 rcases Qak h with ⟨h9,h⟩|⟨h9,h⟩
 ·rcases Qak h with ⟨h10,h⟩|⟨h10,h⟩
  ·exact gn 11 [0,1,2,3,9,10,11,12,13,14,15] [0] [bT h9,rp 8 (bT h10),rp 7 kF,rp 2 (bT h10),tT,tT,rp 7 kF,tT,tT,rp 7 kF,tT,tT] (hI _ (oJ h))
  ·obtain ⟨x1,h11,h⟩:=Qae h
   rcases Qak h with ⟨h12,h⟩|⟨h12,h⟩
   ·rcases Qak h with ⟨h13,h⟩|⟨h13,h⟩
    ·exact gn 11 [0,1,2,3,9,10,11,12,13,14,15] [0] [bT h9,rp 3 (bF h10),cE Qav.enc h11,bF h10,oO (zL 0),oO (lT 0 2),rp 4 (bF h10),rp 3 (bT h12),cE Qav.enc h11,bT h12,oO (zL 1),oO (lT 1 2),rp 3 (bT h12),bF h10,bT h12,bF h10,rp 2 (bT h13),rp 7 kF,rp 2 (bT h13),rp 7 kF,rp 2 (bT h13)] (hI _ (oJ h))
    ·rcases Qak h with ⟨h14,h⟩|⟨h14,h⟩
     ·rcases Qak h with ⟨h15,h⟩|⟨h15,h⟩
      ·exact gn 11 [0,1,2,3,9,10,11,12,13,14,15] [0] [bT h9,rp 3 (bF h10),cE Qav.enc h11,bF h10,oO (zL 0),oO (lT 0 2),rp 4 (bF h10),rp 3 (bT h12),cE Qav.enc h11,bT h12,oO (zL 1),oO (lT 1 2),rp 3 (bT h12),bF h10,bT h12,bF h10,rp 2 (bF h13),rp 3 (bT h14),cE Qav.enc h11,bT h14,oO (zL 0),oO (lT 0 2),rp 3 (bT h14),bF h13,bT h14,bF h13,rp 3 (bT h15),cE Qav.enc h11,bT h15,oO (zL 1),oO (lT 1 2),rp 3 (bT h15),bF h13,bT h15,bF h13] (hI _ (oJ h))
      ·exact gn 11 [0,1,2,3,9,10,11,12,13,14,15] [0] [bT h9,rp 3 (bF h10),cE Qav.enc h11,bF h10,oO (zL 0),oO (lT 0 2),rp 4 (bF h10),rp 3 (bT h12),cE Qav.enc h11,bT h12,oO (zL 1),oO (lT 1 2),rp 3 (bT h12),bF h10,bT h12,bF h10,rp 2 (bF h13),rp 3 (bT h14),cE Qav.enc h11,bT h14,oO (zL 0),oO (lT 0 2),rp 3 (bT h14),bF h13,bT h14,bF h13,rp 7 (bF h15),bF h13,bF h15,bF h13] (hI _ (oJ h))
     ·exact gn 11 [0,1,2,3,9,10,11,12,13,14,15] [0] [bT h9,rp 3 (bF h10),cE Qav.enc h11,bF h10,oO (zL 0),oO (lT 0 2),rp 4 (bF h10),rp 3 (bT h12),cE Qav.enc h11,bT h12,oO (zL 1),oO (lT 1 2),rp 3 (bT h12),bF h10,bT h12,bF h10,rp 2 (bF h13),rp 7 (bF h14),bF h13,bF h14,bF h13,rp 7 fF,bF h13,fF,bF h13] (hI _ (oJ h))
   ·rcases Qak h with ⟨h16,h⟩|⟨h16,h⟩
    ·rcases Qak h with ⟨h17,h⟩|⟨h17,h⟩
     ·exact gn 11 [0,1,2,3,9,10,11,12,13,14,15] [0] [bT h9,rp 3 (bF h10),cE Qav.enc h11,bF h10,oO (zL 0),oO (lT 0 2),rp 4 (bF h10),rp 7 (bF h12),bF h10,bF h12,bF h10,fF,fF,rp 3 (bT h16),cE Qav.enc h11,bT h16,oO (zL 0),oO (lT 0 2),rp 3 (bT h16),fF,bT h16,fF,rp 3 (bT h17),cE Qav.enc h11,bT h17,oO (zL 1),oO (lT 1 2),rp 3 (bT h17),fF,bT h17,fF] (hI _ (oJ h))
     ·exact gn 11 [0,1,2,3,9,10,11,12,13,14,15] [0] [bT h9,rp 3 (bF h10),cE Qav.enc h11,bF h10,oO (zL 0),oO (lT 0 2),rp 4 (bF h10),rp 7 (bF h12),bF h10,bF h12,bF h10,fF,fF,rp 3 (bT h16),cE Qav.enc h11,bT h16,oO (zL 0),oO (lT 0 2),rp 3 (bT h16),fF,bT h16,fF,rp 7 (bF h17),fF,bF h17,fF] (hI _ (oJ h))
    ·exact gn 11 [0,1,2,3,9,10,11,12,13,14,15] [0] [bT h9,rp 3 (bF h10),cE Qav.enc h11,bF h10,oO (zL 0),oO (lT 0 2),rp 4 (bF h10),rp 7 (bF h12),bF h10,bF h12,bF h10,fF,fF,rp 7 (bF h16),fF,bF h16,rp 11 fF] (hI _ (oJ h))
 ·exact gn 5 [0,1,2,3,9,10,13,14] [0] [bF h9] (hE _ (oJ h))
theorem Qov (Γ:Gam) (rv:List Qaa) {orders l word turned} {s:List Qaa×Int} {e:List Qaa} (h:QaX (fun s=>Qfu orders l word turned s.1 s.2) s=some e) (hD:QiH Γ rv orders l word turned e):QiW Γ rv orders l word turned s.1 s.2:=by
 refine QaA (C:=fun (s:List Qaa×Int)=>QiW Γ rv orders l word turned s.1 s.2) (D:=fun (e:List Qaa)=>QiH Γ rv orders l word turned e) ?_ h hD
 clear h hD s e
 rintro ⟨l2,i⟩ z_ h hI hE
 replace h:Qfu orders l word turned l2 i=_:=h
 unfold Qfu at h
 rcases Qak h with ⟨h2,h⟩|⟨h2,h⟩
 ·obtain ⟨x0,h3,h⟩:=Qae h
  obtain ⟨h4,h⟩:=Qat h
  obtain ⟨r,h5,h⟩:=Qae h
  obtain ⟨h6,h⟩:=Qat h
  rcases Qak h with ⟨h7,h⟩|⟨h7,h⟩
  ·obtain ⟨h8,h⟩:=Qat h
   exact gn 22 [0,1,2,3,9,10] [2] [nL Qav.enc l,bT h2,cE Qav.enc h3,oO (zL 0),oO (lT 0 2),cE Qav.enc h3,oO (zL 1),oO (lT 1 2),oO (h4),cC (QgP h5),rp 15 hP,oO (h6),rp 2 (oI ((ltI x0.x0 0)=false)),oR True ((ltI x0.x0 0)=false),oI (((ltI x0.x0 0)||(geI x0.x0 orders))=false),oR True (((ltI x0.x0 0)||(geI x0.x0 orders))=false),rp 2 (oI ((((ltI x0.x0 0)||(geI x0.x0 orders))||(ltI x0.x1 0))=false)),oR True ((((ltI x0.x0 0)||(geI x0.x0 orders))||(ltI x0.x1 0))=false),rp 2 (oI (((((ltI x0.x0 0)||(geI x0.x0 orders))||(ltI x0.x1 0))||(geI x0.x1 orders))=false)),oR True (((((ltI x0.x0 0)||(geI x0.x0 orders))||(ltI x0.x1 0))||(geI x0.x1 orders))=false),bT h7,oO (Eq.refl ([(Qaa.mk 2 (catS (catS word Qa1) r))].map Qaa.enc).length),aO Qaa.enc h8] (hI _ (oJ h))
  ·obtain ⟨e0,h18,h⟩:=Qae h
   refine gn 25 [0,1,2,3,9,10,11,12,13,14,15] [0] [nL Qav.enc l,bT h2,cE Qav.enc h3,oO (zL 0),oO (lT 0 2),cE Qav.enc h3,oO (zL 1),oO (lT 1 2),oO (h4),cC (QgP h5),rp 15 hP,oO (h6),rp 2 (oI ((ltI x0.x0 0)=false)),oR True ((ltI x0.x0 0)=false),oI (((ltI x0.x0 0)||(geI x0.x0 orders))=false),oR True (((ltI x0.x0 0)||(geI x0.x0 orders))=false),rp 2 (oI ((((ltI x0.x0 0)||(geI x0.x0 orders))||(ltI x0.x1 0))=false)),oR True ((((ltI x0.x0 0)||(geI x0.x0 orders))||(ltI x0.x1 0))=false),rp 2 (oI (((((ltI x0.x0 0)||(geI x0.x0 orders))||(ltI x0.x1 0))||(geI x0.x1 orders))=false)),oR True (((((ltI x0.x0 0)||(geI x0.x0 orders))||(ltI x0.x1 0))||(geI x0.x1 orders))=false),bF h7] (Qow Γ rv h18 ?_)
   obtain ⟨twice1,rfl⟩:∃ x,x=e0:=⟨_,rfl⟩
   replace h:(br twice1 (chk (okN (l2++[(Qaa.mk 6 (catS (catS word Qa1) r))]).length 24) (some (.inl ((l2++[(Qaa.mk 6 (catS (catS word Qa1) r))]),(addK .i64 i 1))))) (some (.inl (l2,(addK .i64 i 1)))):Option ((List Qaa×Int)⊕(List Qaa)))=some _:=h
   rcases Qak h with ⟨h19,h⟩|⟨h19,h⟩
   ·obtain ⟨h20,h⟩:=Qat h
    exact gn 7 [0,1,2,3,9,10] [2] [bT h19,oO (Eq.refl ([(Qaa.mk 6 (catS (catS word Qa1) r))].map Qaa.enc).length),aO Qaa.enc h20] (hI _ (oJ h))
   ·exact gn 7 [0,1,2,3,9,10] [0] [bF h19] (hI _ (oJ h))
 ·exact gn 5 [9] [0] [nL Qav.enc l,bF h2] (hE _ (oJ h))
theorem QiG (Γ:Gam) (rv:List Qaa) {orders l word turned l1} (h:Qft orders l word turned l1=some rv):QeJ Γ rv ⟨[.c 15],⟨123,[vI 0 orders,vL 1 2 l Qav.enc,vS 2 word,vB 3 turned,vO 9 0 2 l1 Qaa.enc],[oS 2 104 l1 Qaa.enc]⟩⟩:=by
 unfold Qft at h
 obtain ⟨e1,h21,h⟩:=Qae h
 refine gn 5 [0,1,2,3,9,10] [0] [] (Qov Γ rv h21 ?_)
 obtain ⟨l3,rfl⟩:∃ x,x=e1:=⟨_,rfl⟩
 replace h:(some l3:Option (List Qaa))=some _:=h
 obtain rfl:=Option.some.inj h
 exact gr 2 [0] []
theorem QqJ {orders l word turned} {rv:List Qaa} (h:QgQ orders l word turned=some rv):AFn Tryz.prog 69 [.one (lI orders),.one (lL 2 l Qav.enc),.one (.str word),.one (.bool turned)] [] (one (lO 0 2 rv Qaa.enc)) [oS 2 104 rv Qaa.enc]:=by
 refine QaG Tryz.func69 (by kernel_rfl) (by kernel_rfl) (fun Γ=>?_)
 unfold QgQ at h
 rcases Qak h with ⟨h0,h⟩|⟨h0,h⟩
 ·obtain ⟨h1,h⟩:=Qat h
  exact gn 9 [0,1,2,3,9] [1] [nL Qav.enc l,bT h0,oO (Eq.refl ([(Qaa.mk 4 word)].map Qaa.enc).length),aN (l:=([(Qaa.mk 4 word)]:List Qaa)) Qaa.enc h1] (QiG Γ rv h)
 ·exact gn 9 [0,1,2,3,9] [0] [nL Qav.enc l,bF h0,hW 1,hH (.adopt 9 2 104)] (QiG Γ rv h)
theorem Quy {orders apart before} {rv:List Qaa} (h:QfY orders apart before=some rv):AFn Tryz.prog 44 [.one (lI orders),.one (lL 2 apart Qav.enc),.one (lL 2 before Qav.enc)] [] (one (lL 2 rv Qaa.enc)) []:=by
 refine QaG Tryz.func44 (by kernel_rfl) (by kernel_rfl) (fun Γ=>?_)
 unfold QfY at h
 obtain ⟨r,h0,h⟩:=Qae h
 obtain ⟨r1,h1,h⟩:=Qae h
 obtain ⟨h2,h⟩:=Qat h
 obtain rfl:=Option.some.inj h
 exact gr 6 [] [cC (QqJ h0),cC (Qt0 h1),aO Qaa.enc h2,hW 1,hH (.frz 1),rp 2 (oO (Eq.refl ((r++r1).map Qaa.enc).length))]
def Qh9 (Γ:Gam) (rv:List Qaa) (cf:Cf):Prop:=Go Tryz.prog Tryz.f39 [] Γ (one (lO 0 2 rv Qaa.enc)) [oS 2 104 rv Qaa.enc] cf
def Qg1 (Γ:Gam) (rv:List Qaa) (word:ByteArray) (l:List Qaa) (l1:List Qaa) (i:Int):Prop:=Qh9 Γ rv ⟨[.c 116,.l 116,.b 0,.c 15],⟨40,[vS 0 word,vL 1 2 l Qaa.enc,vO 5 0 2 l1 Qaa.enc,vI 6 i],[oS 2 104 l1 Qaa.enc]⟩⟩
def QgE (Γ:Gam) (rv:List Qaa) (word:ByteArray) (l:List Qaa) (l2:List Qaa):Prop:=Qh9 Γ rv ⟨[.c 15],⟨40,[vO 5 0 2 l2 Qaa.enc],[oS 2 104 l2 Qaa.enc]⟩⟩
theorem QiZ (Γ:Gam) (rv:List Qaa) {word l l1 i at_} {x:(List Qaa×Int)⊕(List Qaa)} (h:Qf7 word l l1 i at_=some x) (hI:∀ s:List Qaa×Int,x=.inl s→Qg1 Γ rv word l s.1 s.2) (hE:∀ e:List Qaa,x=.inr e→QgE Γ rv word l e):Qh9 Γ rv ⟨[.c 3731,.b 1,.c 467,.l 116,.b 0,.c 15],⟨40,[vS 0 word,vL 1 2 l Qaa.enc,vO 5 0 2 l1 Qaa.enc,vI 6 i,vS 7 at_],[oS 2 104 l1 Qaa.enc]⟩⟩:=by
 unfold Qf7 at h
 obtain ⟨x1,h5,h⟩:=Qae h
 obtain ⟨h6,h⟩:=Qat h
 exact gn 4 [0,1,5,6] [2] [cE Qaa.enc h5,oO (Eq.refl ([(Qaa.mk x1.err at_)].map Qaa.enc).length),aO Qaa.enc h6] (hI _ (oJ h))
theorem Qpu (Γ:Gam) (rv:List Qaa) {word l} {s:List Qaa×Int} {e:List Qaa} (h:QaX (fun s=>Qf8 word l s.1 s.2) s=some e) (hD:QgE Γ rv word l e):Qg1 Γ rv word l s.1 s.2:=by
 refine QaA (C:=fun (s:List Qaa×Int)=>Qg1 Γ rv word l s.1 s.2) (D:=fun (e:List Qaa)=>QgE Γ rv word l e) ?_ h hD
 clear h hD s e
 rintro ⟨l1,i⟩ z_ h hI hE
 replace h:Qf8 word l l1 i=_:=h
 unfold Qf8 at h
 rcases Qak h with ⟨h0,h⟩|⟨h0,h⟩
 ·obtain ⟨x0,h1,h⟩:=Qae h
  rcases Qak h with ⟨h2,h⟩|⟨h2,h⟩
  ·exact gn 14 [0,1,5,6,7] [0] [nL Qaa.enc l,bT h0,cE Qaa.enc h1,nF h2] (QiZ Γ rv h hI hE)
  ·obtain ⟨h3,h⟩:=Qat h
   obtain ⟨h4,h⟩:=Qat h
   exact gn 14 [0,1,5,6,7] [0] [nL Qaa.enc l,bT h0,cE Qaa.enc h1,nT h2,oO (h3),cE Qaa.enc h1,oO (h4)] (QiZ Γ rv h hI hE)
 ·exact gn 5 [5] [0] [nL Qaa.enc l,bF h0] (hE _ (oJ h))
theorem QrS {word l} {rv:List Qaa} (h:QeR word l=some rv):AFn Tryz.prog 39 [.one (.str word),.one (lL 2 l Qaa.enc)] [] (one (lO 0 2 rv Qaa.enc)) [oS 2 104 rv Qaa.enc]:=by
 refine QaG Tryz.func39 (by kernel_rfl) (by kernel_rfl) (fun Γ=>?_)
 unfold QeR at h
 obtain ⟨e0,h7,h⟩:=Qae h
 refine gn 9 [0,1,5,6] [0] [hW 12,hH (.adopt 5 2 104)] (Qpu Γ rv h7 ?_)
 obtain ⟨l2,rfl⟩:∃ x,x=e0:=⟨_,rfl⟩
 replace h:(some l2:Option (List Qaa))=some _:=h
 obtain rfl:=Option.some.inj h
 exact gr 2 [0] []
theorem Qh0 {x0} {rv:List Qaa} (h:QbZ x0=some rv):AFn Tryz.prog 19 [.agg (Qab.enc x0)] [] (one (lL 2 rv Qaa.enc)) []:=by
 refine QaG Tryz.func19 (by kernel_rfl) (by kernel_rfl) (fun Γ=>?_)
 unfold QbZ at h
 obtain ⟨r,h0,h⟩:=Qae h
 obtain ⟨r1,h1,h⟩:=Qae h
 obtain ⟨r2,h2,h⟩:=Qae h
 obtain ⟨r3,h3,h⟩:=Qae h
 obtain ⟨h4,h⟩:=Qat h
 obtain ⟨r4,h5,h⟩:=Qae h
 obtain ⟨r5,h6,h⟩:=Qae h
 obtain ⟨r6,h7,h⟩:=Qae h
 obtain ⟨h8,h⟩:=Qat h
 obtain ⟨r7,h9,h⟩:=Qae h
 obtain ⟨r8,h10,h⟩:=Qae h
 obtain ⟨h11,h⟩:=Qat h
 obtain rfl:=Option.some.inj h
 exact gr 12 [] [cC (Qut h0),cC (QrS h1),cC (Quu h2),cC (Qj6 h3),aO Qaa.enc h4,hH (.draw 13 []),cC (QgY h5),nL Qaf.enc x0.types,cC (Quw h6),cC (Qj6 h7),aO Qaa.enc h8,nL Qac.enc x0.orders,cC (Quy h9),cC (Qj6 h10),aO Qaa.enc h11,hW 5,hH (.frz 4),rp 4 (oO (Eq.refl ((((r1++r3)++r6)++r8).map Qaa.enc).length))]
def Qrc (Γ:Gam) (rv:Bool) (cf:Cf):Prop:=Go Tryz.prog Tryz.f55 [] Γ (one (.bool rv)) [] cf
def QnP (Γ:Gam) (rv:Bool) (t:Qaf) (skills:Int) (bit:Int):Prop:=Qrc Γ rv ⟨[.c 116,.l 116,.b 0,.c 15],⟨30,[vI 1 skills,vP 2 0 14,vI 5 bit],[oX 14 70 (Qaf.enc t)]⟩⟩
def QmE (Γ:Gam) (rv:Bool) (t:Qaf) (skills:Int):Prop:=Qrc Γ rv ⟨[.c 15],⟨30,[],[]⟩⟩
theorem Qtm (Γ:Gam) (rv:Bool) {t skills} {s:Int} {e:(Unit)⊕(Bool)} (h:QaX (fun s=>Qd4 t skills s) s=some e) (hD:sel e (fun e=>QmE Γ rv t skills) (fun e=>e=rv)):QnP Γ rv t skills s:=by
 refine QaA (C:=fun (s:Int)=>QnP Γ rv t skills s) (D:=fun (e:(Unit)⊕(Bool))=>sel e (fun e=>QmE Γ rv t skills) (fun e=>e=rv)) ?_ h hD
 clear h hD s e
 intro bit z_ h hI hE
 replace h:Qd4 t skills bit=_:=h
 unfold Qd4 at h
 rcases Qak h with ⟨h1,h⟩|⟨h1,h⟩
 ·obtain ⟨h2,h⟩:=Qat h
  rcases Qak h with ⟨h3,h⟩|⟨h3,h⟩
  ·obtain ⟨h4,h⟩:=Qat h
   rcases Qak h with ⟨h5,h⟩|⟨h5,h⟩
   ·obtain rfl:=(hE _ (oJ h):_=rv)
    exact gr 12 [] [bT h1,oO (h2),oO (oA (n:=2)),rp 4 (bT h3),oO (h4),bT h3,oO (oA (n:=2)),bT h3,bT h3,bT h5]
   ·exact gn 14 [1,2,5] [0] [bT h1,oO (h2),oO (oA (n:=2)),rp 4 (bT h3),oO (h4),bT h3,oO (oA (n:=2)),bT h3,bT h3,bF h5] (hI _ (oJ h))
  ·exact gn 14 [1,2,5] [0] [bT h1,oO (h2),oO (oA (n:=2)),rp 7 (bF h3),fF] (hI _ (oJ h))
 ·exact gn 5 [] [] [bF h1] (hE _ (oJ h))
theorem QpU {t skills} {rv:Bool} (h:QhH t skills=some rv):AFn Tryz.prog 55 [.agg (Qaf.enc t),.one (lI skills)] [] (one (.bool rv)) []:=by
 refine QaG Tryz.func55 (by kernel_rfl) (by kernel_rfl) (fun Γ=>?_)
 unfold QhH at h
 rcases Qak h with ⟨h0,h⟩|⟨h0,h⟩
 ·obtain rfl:=Option.some.inj h
  exact gr 8 [] [hP,hP,hP,oI ((ltI t.skills 0)=false),oR True ((ltI t.skills 0)=false),bT h0]
 ·obtain ⟨e0,h6,h⟩:=Qae h
  refine gn 12 [1,2,5] [0] [hP,hP,hP,oI ((ltI t.skills 0)=false),oR True ((ltI t.skills 0)=false),bF h0] (Qtm Γ rv h6 ?_)
  rcases e0 with e0|e0
  ·replace h:(some true:Option Bool)=some _:=h
   obtain rfl:=Option.some.inj h
   exact gr 2 [] []
  ·obtain ⟨r,rfl⟩:∃ x,x=e0:=⟨_,rfl⟩
   replace h:(some r:Option Bool)=some _:=h
   exact Option.some.inj h
def Qrg (Γ:Gam) (rv:List Qaf) (cf:Cf):Prop:=Go Tryz.prog Tryz.f29 [] Γ (one (lL 14 rv Qaf.enc)) [] cf
def QnY (Γ:Gam) (rv:List Qaf) (x0:Qab) (o:Qac) (l:List Qaf) (i:Int):Prop:=Qrg Γ rv ⟨[.c 116,.l 116,.b 0,.c 15],⟨31,[vP 2 0 6,vP 3 1 16,vO 5 2 14 l Qaf.enc,vI 6 i],[oX 6 30 (Qab.enc x0),oX 16 56 (Qac.enc o),oS 14 70 l Qaf.enc]⟩⟩
def QmV (Γ:Gam) (rv:List Qaf) (x0:Qab) (o:Qac) (l1:List Qaf):Prop:=Qrg Γ rv ⟨[.c 15],⟨31,[vO 5 0 14 l1 Qaf.enc],[oS 14 70 l1 Qaf.enc]⟩⟩
theorem Qtu (Γ:Gam) (rv:List Qaf) {x0 o} {s:List Qaf×Int} {e:List Qaf} (h:QaX (fun s=>Qdo x0 o s.1 s.2) s=some e) (hD:QmV Γ rv x0 o e):QnY Γ rv x0 o s.1 s.2:=by
 refine QaA (C:=fun (s:List Qaf×Int)=>QnY Γ rv x0 o s.1 s.2) (D:=fun (e:List Qaf)=>QmV Γ rv x0 o e) ?_ h hD
 clear h hD s e
 rintro ⟨l,i⟩ z_ h hI hE
 replace h:Qdo x0 o l i=_:=h
 unfold Qdo at h
 rcases Qak h with ⟨h0,h⟩|⟨h0,h⟩
 ·obtain ⟨x1,h1,h⟩:=Qae h
  obtain ⟨r,h2,h⟩:=Qae h
  rcases Qak h with ⟨h3,h⟩|⟨h3,h⟩
  ·obtain ⟨h4,h⟩:=Qat h
   exact gn 14 [2,3,5,6] [0,1,4] [nL Qaf.enc x0.types,bT h0,hH (.draw 8 []),cE Qaf.enc h1,cC (QpU h2),bT h3,cE Qaf.enc h1,oO (Eq.refl ([x1].map Qaf.enc).length),aO Qaf.enc h4] (hI _ (oJ h))
  ·exact gn 14 [2,3,5,6] [0,1,2] [nL Qaf.enc x0.types,bT h0,hH (.draw 8 []),cE Qaf.enc h1,cC (QpU h2),bF h3] (hI _ (oJ h))
 ·exact gn 5 [5] [2] [nL Qaf.enc x0.types,bF h0] (hE _ (oJ h))
theorem Qvj {x0 o} {rv:List Qaf} (h:Qi0 x0 o=some rv):AFn Tryz.prog 29 [.agg (Qab.enc x0),.agg (Qac.enc o)] [] (one (lL 14 rv Qaf.enc)) []:=by
 refine QaG Tryz.func29 (by kernel_rfl) (by kernel_rfl) (fun Γ=>?_)
 unfold Qi0 at h
 obtain ⟨e0,h5,h⟩:=Qae h
 refine gn 9 [2,3,5,6] [0,1,2] [hW 14,hH (.adopt 5 14 70)] (Qtu Γ rv h5 ?_)
 obtain ⟨l1,rfl⟩:∃ x,x=e0:=⟨_,rfl⟩
 replace h:(some l1:Option (List Qaf))=some _:=h
 obtain rfl:=Option.some.inj h
 exact gr 2 [] [hW 4,hH (.frz 0),rp 3 (eL l1 Qaf.enc)]
def QoM (Γ:Gam) (rv:Int) (cf:Cf):Prop:=Go Tryz.prog Tryz.f125 [] Γ (one (lI rv)) [] cf
def Qlj (Γ:Gam) (rv:Int) (l:List Qal) (t:Int) (i:Int):Prop:=QoM Γ rv ⟨[.c 116,.l 116,.b 0,.c 15],⟨93,[vL 0 2 l Qal.enc,vI 1 t,vI 5 i],[]⟩⟩
def Qkn (Γ:Gam) (rv:Int) (l:List Qal) (t:Int):Prop:=QoM Γ rv ⟨[.c 15],⟨93,[vL 0 2 l Qal.enc,vI 1 t],[]⟩⟩
theorem QrN (Γ:Gam) (rv:Int) {l t} {s:Int} {e:(Unit)⊕(Int)} (h:QaX (fun s=>QeQ l t s) s=some e) (hD:sel e (fun e=>Qkn Γ rv l t) (fun e=>e=rv)):Qlj Γ rv l t s:=by
 refine QaA (C:=fun (s:Int)=>Qlj Γ rv l t s) (D:=fun (e:(Unit)⊕(Int))=>sel e (fun e=>Qkn Γ rv l t) (fun e=>e=rv)) ?_ h hD
 clear h hD s e
 intro i z_ h hI hE
 replace h:QeQ l t i=_:=h
 unfold QeQ at h
 rcases Qak h with ⟨h2,h⟩|⟨h2,h⟩
 ·obtain ⟨x0,h3,h⟩:=Qae h
  obtain ⟨x1,h4,h⟩:=Qae h
  rcases Qak h with ⟨h5,h⟩|⟨h5,h⟩
  ·obtain ⟨h6,h⟩:=Qat h
   obtain rfl:=(hE _ (oJ h):_=rv)
   exact gr 16 [] [nL Qal.enc l,bT h2,cE Qal.enc h3,cE Qal.enc h4,rp 5 hP,rp 3 (oI ((leI x0.t t)=true)),oR True ((leI x0.t t)=true),bT h5,hH (.draw 27 []),oO (h6)]
  ·exact gn 18 [0,1,5] [] [nL Qal.enc l,bT h2,cE Qal.enc h3,cE Qal.enc h4,rp 5 hP,rp 3 (oI ((leI x0.t t)=true)),oR True ((leI x0.t t)=true),bF h5] (hI _ (oJ h))
 ·exact gn 5 [0,1] [] [nL Qal.enc l,bF h2] (hE _ (oJ h))
theorem QtZ {l t} {rv:Int} (h:QhA l t=some rv):AFn Tryz.prog 125 [.one (lL 2 l Qal.enc),.one (lI t)] [] (one (lI rv)) []:=by
 refine QaG Tryz.func125 (by kernel_rfl) (by kernel_rfl) (fun Γ=>?_)
 unfold QhA at h
 obtain ⟨r,h0,h⟩:=Qae h
 rcases Qak h with ⟨h1,h⟩|⟨h1,h⟩
 ·obtain rfl:=Option.some.inj h
  exact gr 8 [] [cC (QjW h0),nL Qaa.enc r,rp 6 hP,oI ((gtI (lenI r) 0)=false),oR True ((gtI (lenI r) 0)=false),oI (((gtI (lenI r) 0)||(ltI t 0))=false),oR True (((gtI (lenI r) 0)||(ltI t 0))=false),bT h1]
 ·obtain ⟨e0,h7,h⟩:=Qae h
  refine gn 12 [0,1,5] [] [cC (QjW h0),nL Qaa.enc r,rp 6 hP,oI ((gtI (lenI r) 0)=false),oR True ((gtI (lenI r) 0)=false),oI (((gtI (lenI r) 0)||(ltI t 0))=false),oR True (((gtI (lenI r) 0)||(ltI t 0))=false),bF h1] (QrN Γ rv h7 ?_)
  rcases e0 with e0|e0
  ·replace h:(bnd (getI l 0) fun x2=>br (gtI t x2.t) (bnd (getI l (subK .i64 (lenI l) 1)) fun x3=>some (subK .i64 (addK .i64 t x3.a) x3.t)) (some (subK .i64 (addK .i64 t x2.a) x2.t)):Option Int)=some _:=h
   obtain ⟨x2,h8,h⟩:=Qae h
   rcases Qak h with ⟨h9,h⟩|⟨h9,h⟩
   ·obtain ⟨x3,h10,h⟩:=Qae h
    obtain rfl:=Option.some.inj h
    exact gr 9 [] [cE Qal.enc h8,bT h9,nL Qal.enc l,cE Qal.enc h10]
   ·obtain rfl:=Option.some.inj h
    exact gr 9 [] [cE Qal.enc h8,bF h9]
  ·obtain ⟨r1,rfl⟩:∃ x,x=e0:=⟨_,rfl⟩
   replace h:(some r1:Option Int)=some _:=h
   exact Option.some.inj h
def QoN (Γ:Gam) (rv:Int) (cf:Cf):Prop:=Go Tryz.prog Tryz.f92 [] Γ (one (lI rv)) [] cf
def Qlm (Γ:Gam) (rv:Int) (a:Qai) (t:Int) (n:Int) (i:Int):Prop:=QoN Γ rv ⟨[.c 116,.l 116,.b 0,.c 15],⟨35,[vI 1 t,vP 2 0 6,vI 5 n,vI 6 i],[oX 6 59 (Qai.enc a)]⟩⟩
def Qko (Γ:Gam) (rv:Int) (a:Qai) (t:Int) (n1:Int):Prop:=QoN Γ rv ⟨[.c 15],⟨35,[vI 5 n1],[]⟩⟩
theorem QrO (Γ:Gam) (rv:Int) {a t} {s:Int×Int} {e:Int} (h:QaX (fun s=>Qhj a t s.1 s.2) s=some e) (hD:Qko Γ rv a t e):Qlm Γ rv a t s.1 s.2:=by
 refine QaA (C:=fun (s:Int×Int)=>Qlm Γ rv a t s.1 s.2) (D:=fun (e:Int)=>Qko Γ rv a t e) ?_ h hD
 clear h hD s e
 rintro ⟨n,i⟩ z_ h hI hE
 replace h:Qhj a t n i=_:=h
 unfold Qhj at h
 rcases Qak h with ⟨h1,h⟩|⟨h1,h⟩
 ·obtain ⟨x0,h2,h⟩:=Qae h
  rcases Qak h with ⟨h3,h⟩|⟨h3,h⟩
  ·exact gn 14 [1,2,5,6] [0] [nL Qal.enc a.slow,bT h1,cE Qal.enc h2,bT h3,cE Qal.enc h2] (hI _ (oJ h))
  ·exact gn 14 [1,2,5,6] [0] [nL Qal.enc a.slow,bT h1,cE Qal.enc h2,bF h3] (hI _ (oJ h))
 ·exact gn 5 [5] [] [nL Qal.enc a.slow,bF h1] (hE _ (oJ h))
theorem Qhk {a t} {rv:Int} (h:Qgh a t=some rv):AFn Tryz.prog 92 [.agg (Qai.enc a),.one (lI t)] [] (one (lI rv)) []:=by
 refine QaG Tryz.func92 (by kernel_rfl) (by kernel_rfl) (fun Γ=>?_)
 unfold Qgh at h
 obtain ⟨r,h0,h⟩:=Qae h
 obtain ⟨e0,h4,h⟩:=Qae h
 refine gn 9 [1,2,5,6] [0] [cC (QtZ h0)] (QrO Γ rv h4 ?_)
 obtain ⟨n1,rfl⟩:∃ x,x=e0:=⟨_,rfl⟩
 replace h:(some n1:Option Int)=some _:=h
 obtain rfl:=Option.some.inj h
 exact gr 2 [] []
def Qey (Γ:Gam) (rv:List Int) (cf:Cf):Prop:=Go Tryz.prog Tryz.f88 [] Γ (one (lL 1 rv Qaw)) [] cf
def QjX (Γ:Gam) (rv:List Int) (n:Qag) (profile:Int) (from_:Int) (t:Int) (l:List Int) (p:Int):Prop:=Qey Γ rv ⟨[.c 116,.l 116,.b 0,.c 15],⟨91,[vI 1 profile,vI 2 from_,vI 3 t,vP 4 0 2,vO 9 1 1 l Qaw,vI 10 p],[oX 2 25 (Qag.enc n),oS 1 3 l Qaw]⟩⟩
def Qjv (Γ:Gam) (rv:List Int) (n:Qag) (profile:Int) (from_:Int) (t:Int) (l1:List Int):Prop:=Qey Γ rv ⟨[.c 15],⟨91,[vI 1 profile,vP 4 0 2,vO 9 1 1 l1 Qaw],[oX 2 25 (Qag.enc n),oS 1 3 l1 Qaw]⟩⟩
def QjZ (Γ:Gam) (rv:List Int) (n:Qag) (profile:Int) (from_:Int) (round:Int) (l3:List Int) (i:Int):Prop:=Qey Γ rv ⟨[.c 15652,.l 15652,.b 4,.b 3,.c 979,.l 244,.b 2,.c 31],⟨91,[vI 1 profile,vP 4 0 2,vO 9 1 1 l3 Qaw,vI 11 round,vI 12 i],[oX 2 25 (Qag.enc n),oS 1 3 l3 Qaw]⟩⟩
def Qjx (Γ:Gam) (rv:List Int) (n:Qag) (profile:Int) (from_:Int) (round:Int) (l4:List Int):Prop:=Qey Γ rv ⟨[.b 3,.c 979,.l 244,.b 2,.c 31],⟨91,[vI 1 profile,vP 4 0 2,vO 9 1 1 l4 Qaw,vI 11 round],[oX 2 25 (Qag.enc n),oS 1 3 l4 Qaw]⟩⟩
def QjY (Γ:Gam) (rv:List Int) (n:Qag) (profile:Int) (from_:Int) (l2:List Int) (round:Int):Prop:=Qey Γ rv ⟨[.c 244,.l 244,.b 2,.c 31],⟨91,[vI 1 profile,vP 4 0 2,vO 9 1 1 l2 Qaw,vI 11 round],[oX 2 25 (Qag.enc n),oS 1 3 l2 Qaw]⟩⟩
def Qjw (Γ:Gam) (rv:List Int) (n:Qag) (profile:Int) (from_:Int) (l5:List Int):Prop:=Qey Γ rv ⟨[.c 31],⟨91,[vO 9 0 1 l5 Qaw],[oS 1 3 l5 Qaw]⟩⟩
theorem QpN (Γ:Gam) (rv:List Int) {n profile from_ t} {s:List Int×Int} {e:List Int} (h:QaX (fun s=>QbR n profile from_ t s.1 s.2) s=some e) (hD:Qjv Γ rv n profile from_ t e):QjX Γ rv n profile from_ t s.1 s.2:=by
 refine QaA (C:=fun (s:List Int×Int)=>QjX Γ rv n profile from_ t s.1 s.2) (D:=fun (e:List Int)=>Qjv Γ rv n profile from_ t e) ?_ h hD
 clear h hD s e
 rintro ⟨l,p⟩ z_ h hI hE
 replace h:QbR n profile from_ t l p=_:=h
 unfold QbR at h
 rcases Qak h with ⟨h0,h⟩|⟨h0,h⟩
 ·rcases Qak h with ⟨h1,h⟩|⟨h1,h⟩
  ·obtain ⟨h2,h⟩:=Qat h
   exact gn 14 [1,2,3,4,9,10] [0,3] [nL QeA n.places,bT h0,bT h1,oO (Eq.refl ([t].map Qaw).length),aO Qaw h2] (hI _ (oJ h))
  ·obtain ⟨h3,h⟩:=Qat h
   exact gn 14 [1,2,3,4,9,10] [0,3] [nL QeA n.places,bT h0,bF h1,oO (Eq.refl ([(-1)].map Qaw).length),aO Qaw h3] (hI _ (oJ h))
 ·exact gn 5 [1,4,9] [0,1] [nL QeA n.places,bF h0] (hE _ (oJ h))
theorem QpP (Γ:Gam) (rv:List Int) {n profile from_ round} {s:List Int×Int} {e:List Int} (h:QaX (fun s=>QbS n profile from_ round s.1 s.2) s=some e) (hD:Qjx Γ rv n profile from_ round e):QjZ Γ rv n profile from_ round s.1 s.2:=by
 refine QaA (C:=fun (s:List Int×Int)=>QjZ Γ rv n profile from_ round s.1 s.2) (D:=fun (e:List Int)=>Qjx Γ rv n profile from_ round e) ?_ h hD
 clear h hD s e
 rintro ⟨l3,i⟩ z_ h hI hE
 replace h:QbS n profile from_ round l3 i=_:=h
 unfold QbS at h
 rcases Qak h with ⟨h6,h⟩|⟨h6,h⟩
 ·obtain ⟨x0,h7,h⟩:=Qae h
  rcases Qak h with ⟨h8,h⟩|⟨h8,h⟩
  ·obtain ⟨x1,h9,h⟩:=Qae h
   rcases Qak h with ⟨h10,h⟩|⟨h10,h⟩
   ·obtain ⟨r,h11,h⟩:=Qae h
    obtain ⟨x2,h12,h⟩:=Qae h
    rcases Qak h with ⟨h13,h⟩|⟨h13,h⟩
    ·exact gn 21 [1,4,9,11,12] [0,1] [nL Qai.enc n.arcs,bT h6,cE Qai.enc h7,rp 4 (bT h8),oO (QiR h9),oO (QiQ Qaw h9),bT h8,rE Qaw h9,bT h8,bT h8,bT h10,hH (.draw 8 []),oO (QiR h9),oO (QiQ Qaw h9),rE Qaw h9,cC (Qhk h11),oO (QiR h12),oO (QiQ Qaw h12),rE Qaw h12,rp 8 (bT h13),tT,oO (QiR h12),oO (QiQ Qaw h12),rE Qaw h12,hH (.rows ((setI l3 x0.to_ r).map Qaw)),hH (.relen 1 ((setI l3 x0.to_ r).map Qaw).length),oO (setM Qaw l3 x0.to_ r),rp 5 (oO (QrM Qaw l3 x0.to_ r))] (hI _ (oJ h))
    ·rcases Qak h with ⟨h14,h⟩|⟨h14,h⟩
     ·exact gn 21 [1,4,9,11,12] [0,1] [nL Qai.enc n.arcs,bT h6,cE Qai.enc h7,rp 4 (bT h8),oO (QiR h9),oO (QiQ Qaw h9),bT h8,rE Qaw h9,bT h8,bT h8,bT h10,hH (.draw 8 []),oO (QiR h9),oO (QiQ Qaw h9),rE Qaw h9,cC (Qhk h11),oO (QiR h12),oO (QiQ Qaw h12),rE Qaw h12,rp 5 (bF h13),oO (QiR h12),oO (QiQ Qaw h12),bF h13,rE Qaw h12,rp 2 (bF h13),bT h14,oO (QiR h12),oO (QiQ Qaw h12),rE Qaw h12,hH (.rows ((setI l3 x0.to_ r).map Qaw)),hH (.relen 1 ((setI l3 x0.to_ r).map Qaw).length),oO (setM Qaw l3 x0.to_ r),rp 6 (oO (QrM Qaw l3 x0.to_ r))] (hI _ (oJ h))
     ·exact gn 21 [1,4,9,11,12] [0,1] [nL Qai.enc n.arcs,bT h6,cE Qai.enc h7,rp 4 (bT h8),oO (QiR h9),oO (QiQ Qaw h9),bT h8,rE Qaw h9,bT h8,bT h8,bT h10,hH (.draw 8 []),oO (QiR h9),oO (QiQ Qaw h9),rE Qaw h9,cC (Qhk h11),oO (QiR h12),oO (QiQ Qaw h12),rE Qaw h12,rp 5 (bF h13),oO (QiR h12),oO (QiQ Qaw h12),bF h13,rE Qaw h12,rp 2 (bF h13),bF h14] (hI _ (oJ h))
   ·exact gn 16 [1,4,9,11,12] [0,1] [nL Qai.enc n.arcs,bT h6,cE Qai.enc h7,rp 4 (bT h8),oO (QiR h9),oO (QiQ Qaw h9),bT h8,rE Qaw h9,bT h8,bT h8,bF h10] (hI _ (oJ h))
  ·exact gn 16 [1,4,9,11,12] [0,1] [nL Qai.enc n.arcs,bT h6,cE Qai.enc h7,rp 7 (bF h8),fF] (hI _ (oJ h))
 ·exact gn 5 [1,4,9,11] [0,1] [nL Qai.enc n.arcs,bF h6] (hE _ (oJ h))
theorem QpO (Γ:Gam) (rv:List Int) {n profile from_} {s:List Int×Int} {e:List Int} (h:QaX (fun s=>QbG n profile from_ s.1 s.2) s=some e) (hD:Qjw Γ rv n profile from_ e):QjY Γ rv n profile from_ s.1 s.2:=by
 refine QaA (C:=fun (s:List Int×Int)=>QjY Γ rv n profile from_ s.1 s.2) (D:=fun (e:List Int)=>Qjw Γ rv n profile from_ e) ?_ h hD
 clear h hD s e
 rintro ⟨l2,round⟩ z_ h hI hE
 replace h:QbG n profile from_ l2 round=_:=h
 unfold QbG at h
 rcases Qak h with ⟨h5,h⟩|⟨h5,h⟩
 ·obtain ⟨e1,h15,h⟩:=Qae h
  refine gn 11 [1,4,9,11,12] [0,1] [nL QeA n.places,bT h5] (QpP Γ rv h15 ?_)
  obtain ⟨l4,rfl⟩:∃ x,x=e1:=⟨_,rfl⟩
  replace h:(some (.inl (l4,(addK .i64 round 1))):Option ((List Int×Int)⊕(List Int)))=some _:=h
  exact gn 3 [1,4,9,11] [0,1] [] (hI _ (oJ h))
 ·exact gn 5 [9] [1] [nL QeA n.places,bF h5] (hE _ (oJ h))
theorem Qe3 {n profile from_ t} {rv:List Int} (h:Qfh n profile from_ t=some rv):AFn Tryz.prog 88 [.agg (Qag.enc n),.one (lI profile),.one (lI from_),.one (lI t)] [] (one (lL 1 rv Qaw)) []:=by
 refine QaG Tryz.func88 (by kernel_rfl) (by kernel_rfl) (fun Γ=>?_)
 unfold Qfh at h
 obtain ⟨e0,h4,h⟩:=Qae h
 refine gn 9 [1,2,3,4,9,10] [0,1] [hW 13,hH (.adopt 9 1 3)] (QpN Γ rv h4 ?_)
 obtain ⟨l1,rfl⟩:∃ x,x=e0:=⟨_,rfl⟩
 replace h:(bnd (QaX (fun s=>QbG n profile from_ s.1 s.2) (l1,0)) (fun l5=>some l5):Option (List Int))=some _:=h
 obtain ⟨e2,h16,h⟩:=Qae h
 refine gn 5 [1,4,9,11] [0,1] [] (QpO Γ rv h16 ?_)
 obtain ⟨l5,rfl⟩:∃ x,x=e2:=⟨_,rfl⟩
 replace h:(some l5:Option (List Int))=some _:=h
 obtain rfl:=Option.some.inj h
 exact gr 2 [] [hW 4,hH (.frz 0),rp 3 (eL l5 Qaw)]
theorem Qgt {x0 t place} {rv:Int} (h:Qe4 x0 t place=some rv):AFn Tryz.prog 61 [.agg (Qab.enc x0),.agg (Qaf.enc t),.one (lI place)] [] (one (lI rv)) []:=by
 refine QaG Tryz.func61 (by kernel_rfl) (by kernel_rfl) (fun Γ=>?_)
 unfold Qe4 at h
 obtain ⟨r,h0,h⟩:=Qae h
 rcases Qak h with ⟨h1,h⟩|⟨h1,h⟩
 ·obtain rfl:=Option.some.inj h
  exact gr 10 [] [cC (Qe3 h0),hP,hP,hP,oI ((ltI place 0)=false),nL Qaw r,hP,hP,rp 2 (oI ((ltI place 0)=false)),oR True ((ltI place 0)=false),bT h1]
 ·obtain ⟨x1,h2,h⟩:=Qae h
  obtain rfl:=Option.some.inj h
  exact gr 11 [] [cC (Qe3 h0),hP,hP,hP,oI ((ltI place 0)=false),nL Qaw r,hP,hP,rp 2 (oI ((ltI place 0)=false)),oR True ((ltI place 0)=false),bF h1,cE Qaw h2]
def Qp2 (Γ:Gam) (rv:Int) (cf:Cf):Prop:=Go Tryz.prog Tryz.f56 [] Γ (one (lI rv)) [] cf
def QmW (Γ:Gam) (rv:Int) (x0:Qab) (l:List Qaf) (place:Int) (out:Int) (i:Int):Prop:=Qp2 Γ rv ⟨[.c 116,.l 116,.b 0,.c 15],⟨36,[vL 1 14 l Qaf.enc,vI 2 place,vP 3 0 6,vI 7 out,vI 8 i],[oX 6 30 (Qab.enc x0)]⟩⟩
def QlW (Γ:Gam) (rv:Int) (x0:Qab) (l:List Qaf) (place:Int) (out1:Int):Prop:=Qp2 Γ rv ⟨[.c 15],⟨36,[vI 7 out1],[]⟩⟩
theorem Qsw (Γ:Gam) (rv:Int) {x0 l place} {s:Int×Int} {e:Int} (h:QaX (fun s=>Qbg x0 l place s.1 s.2) s=some e) (hD:QlW Γ rv x0 l place e):QmW Γ rv x0 l place s.1 s.2:=by
 refine QaA (C:=fun (s:Int×Int)=>QmW Γ rv x0 l place s.1 s.2) (D:=fun (e:Int)=>QlW Γ rv x0 l place e) ?_ h hD
 clear h hD s e
 rintro ⟨out,i⟩ z_ h hI hE
 replace h:Qbg x0 l place out i=_:=h
 unfold Qbg at h
 rcases Qak h with ⟨h0,h⟩|⟨h0,h⟩
 ·obtain ⟨x1,h1,h⟩:=Qae h
  obtain ⟨r,h2,h⟩:=Qae h
  rcases Qak h with ⟨h3,h⟩|⟨h3,h⟩
  ·exact gn 16 [1,2,3,7,8] [0] [nL Qaf.enc l,bT h0,hH (.draw 8 []),cE Qaf.enc h1,cC (Qgt h2),rp 9 hP,rp 2 (oI ((geI r 0)=true)),rp 2 (oI (((geI r 0)=true)∧(ltI out 0)=false)),oI ((geI r 0)=true),oI (((geI r 0)=true)∧(ltI out 0)=false),oR True ((geI r 0)=true),bT h3] (hI _ (oJ h))
  ·exact gn 16 [1,2,3,7,8] [0] [nL Qaf.enc l,bT h0,hH (.draw 8 []),cE Qaf.enc h1,cC (Qgt h2),rp 9 hP,rp 2 (oI ((geI r 0)=true)),rp 2 (oI (((geI r 0)=true)∧(ltI out 0)=false)),oI ((geI r 0)=true),oI (((geI r 0)=true)∧(ltI out 0)=false),oR True ((geI r 0)=true),bF h3] (hI _ (oJ h))
 ·exact gn 5 [7] [] [nL Qaf.enc l,bF h0] (hE _ (oJ h))
theorem QoQ {x0 l place} {rv:Int} (h:Qf1 x0 l place=some rv):AFn Tryz.prog 56 [.agg (Qab.enc x0),.one (lL 14 l Qaf.enc),.one (lI place)] [] (one (lI rv)) []:=by
 refine QaG Tryz.func56 (by kernel_rfl) (by kernel_rfl) (fun Γ=>?_)
 unfold Qf1 at h
 obtain ⟨e0,h4,h⟩:=Qae h
 refine gn 9 [1,2,3,7,8] [0] [] (Qsw Γ rv h4 ?_)
 obtain ⟨out1,rfl⟩:∃ x,x=e0:=⟨_,rfl⟩
 replace h:(some out1:Option Int)=some _:=h
 obtain rfl:=Option.some.inj h
 exact gr 2 [] []
theorem QmX {x0 t place depart} {rv:Bool} (h:Qg2 x0 t place depart=some rv):AFn Tryz.prog 57 [.agg (Qab.enc x0),.agg (Qaf.enc t),.one (lI place),.one (lI depart)] [] (one (.bool rv)) []:=by
 refine QaG Tryz.func57 (by kernel_rfl) (by kernel_rfl) (fun Γ=>?_)
 unfold Qg2 at h
 obtain ⟨r,h0,h⟩:=Qae h
 rcases Qak h with ⟨h1,h⟩|⟨h1,h⟩
 ·obtain ⟨x1,h2,h⟩:=Qae h
  rcases Qak h with ⟨h3,h⟩|⟨h3,h⟩
  ·obtain rfl:=Option.some.inj h
   exact gr 6 [] [cC (Qe3 h0),hH (.draw 29 []),rp 4 hP,rp 2 (oI ((geI t.to_ 0)=true)),nL Qaw r,hP,hP,rp 2 (oI ((geI t.to_ 0)=true)),oR True ((geI t.to_ 0)=true),rp 4 (bT h1),cE Qaw h2,rp 3 (bT h1),rp 4 (bT h3),cE Qaw h2,rp 5 (bT h3)]
  ·obtain rfl:=Option.some.inj h
   exact gr 6 [] [cC (Qe3 h0),hH (.draw 29 []),rp 4 hP,rp 2 (oI ((geI t.to_ 0)=true)),nL Qaw r,hP,hP,rp 2 (oI ((geI t.to_ 0)=true)),oR True ((geI t.to_ 0)=true),rp 4 (bT h1),cE Qaw h2,rp 3 (bT h1),rp 9 (bF h3)]
 ·obtain rfl:=Option.some.inj h
  exact gr 6 [] [cC (Qe3 h0),hH (.draw 29 []),rp 4 hP,rp 2 (oI ((geI t.to_ 0)=true)),nL Qaw r,hP,hP,rp 2 (oI ((geI t.to_ 0)=true)),oR True ((geI t.to_ 0)=true),rp 7 (bF h1),rp 9 fF]
def Qh2 (Γ:Gam) (rv:Qap) (cf:Cf):Prop:=Go Tryz.prog Tryz.f30 [] Γ (gG [lI rv.place,lI rv.open_,lI rv.close,lI rv.service]) [] cf
def QlY (Γ:Gam) (rv:Qap) (x0:Qab) (l:List Qaf) (s0:Qap) (r:Int) (b:Int) (i:Int):Prop:=Qh2 Γ rv ⟨[.c 32036,.l 32036,.b 2,.b 1,.c 2003,.l 500,.b 0,.c 63],⟨67,[vL 1 14 l Qaf.enc,vP 3 0 6,vP 5 1 4,vP 6 2 4,vI 8 (maxI s0.open_ r),vI 9 b,vI 10 i],[oX 6 30 (Qab.enc x0),oX 4 54 (Qap.enc s0),oX 4 54 [lI 0,lI 0,lI 0,lI 0]]⟩⟩
def QkA (Γ:Gam) (rv:Qap) (x0:Qab) (l:List Qaf) (s0:Qap) (r:Int) (b:Int):Prop:=Qh2 Γ rv ⟨[.b 1,.c 2003,.l 500,.b 0,.c 63],⟨67,[vL 1 14 l Qaf.enc,vP 3 0 6,vP 5 1 4,vP 6 2 4,vI 8 (maxI s0.open_ r),vI 9 b],[oX 6 30 (Qab.enc x0),oX 4 54 (Qap.enc s0),oX 4 54 [lI 0,lI 0,lI 0,lI 0]]⟩⟩
def QlX (Γ:Gam) (rv:Qap) (x0:Qab) (l:List Qaf) (s0:Qap) (r:Int) (b:Int):Prop:=Qh2 Γ rv ⟨[.c 500,.l 500,.b 0,.c 63],⟨67,[vL 1 14 l Qaf.enc,vP 3 0 6,vP 5 1 4,vP 6 2 4,vI 8 (maxI s0.open_ r),vI 9 b],[oX 6 30 (Qab.enc x0),oX 4 54 (Qap.enc s0),oX 4 54 [lI 0,lI 0,lI 0,lI 0]]⟩⟩
def Qkz (Γ:Gam) (rv:Qap) (x0:Qab) (l:List Qaf) (s0:Qap) (r:Int):Prop:=Qh2 Γ rv ⟨[.c 63],⟨67,[vP 5 0 4,vP 6 1 4],[oX 4 54 (Qap.enc s0),oX 4 54 [lI 0,lI 0,lI 0,lI 0]]⟩⟩
theorem QrU (Γ:Gam) (rv:Qap) {x0 l s0 r b} {s:Int} {e:(Unit)⊕(Qap)} (h:QaX (fun s=>QcF x0 l s0 r b s) s=some e) (hD:sel e (fun e=>QkA Γ rv x0 l s0 r b) (fun e=>e=rv)):QlY Γ rv x0 l s0 r b s:=by
 refine QaA (C:=fun (s:Int)=>QlY Γ rv x0 l s0 r b s) (D:=fun (e:(Unit)⊕(Qap))=>sel e (fun e=>QkA Γ rv x0 l s0 r b) (fun e=>e=rv)) ?_ h hD
 clear h hD s e
 intro i z_ h hI hE
 replace h:QcF x0 l s0 r b i=_:=h
 unfold QcF at h
 rcases Qak h with ⟨h3,h⟩|⟨h3,h⟩
 ·obtain ⟨x1,h4,h⟩:=Qae h
  obtain ⟨r1,h5,h⟩:=Qae h
  rcases Qak h with ⟨h6,h⟩|⟨h6,h⟩
  ·obtain rfl:=(hE _ (oJ h):_=rv)
   exact gr 12 [] [nL Qaf.enc l,bT h3,hH (.draw 12 []),cE Qaf.enc h4,cC (QmX h5),bT h6]
  ·exact gn 14 [1,3,5,6,8,9,10] [0,1,2] [nL Qaf.enc l,bT h3,hH (.draw 12 []),cE Qaf.enc h4,cC (QmX h5),bF h6] (hI _ (oJ h))
 ·exact gn 5 [1,3,5,6,8,9] [0,1,2] [nL Qaf.enc l,bF h3] (hE _ (oJ h))
theorem QrT (Γ:Gam) (rv:Qap) {x0 l s0 r} {s:Int} {e:(Unit)⊕(Qap)} (h:QaX (fun s=>Qd3 x0 l s0 r s) s=some e) (hD:sel e (fun e=>Qkz Γ rv x0 l s0 r) (fun e=>e=rv)):QlX Γ rv x0 l s0 r s:=by
 refine QaA (C:=fun (s:Int)=>QlX Γ rv x0 l s0 r s) (D:=fun (e:(Unit)⊕(Qap))=>sel e (fun e=>Qkz Γ rv x0 l s0 r) (fun e=>e=rv)) ?_ h hD
 clear h hD s e
 intro b z_ h hI hE
 replace h:Qd3 x0 l s0 r b=_:=h
 unfold Qd3 at h
 rcases Qak h with ⟨h2,h⟩|⟨h2,h⟩
 ·obtain ⟨e0,h7,h⟩:=Qae h
  refine gn 11 [1,3,5,6,8,9,10] [0,1,2] [bT h2] (QrU Γ rv h7 ?_)
  rcases e0 with e0|e0
  ·replace h:(some (.inl (subK .i64 b 1)):Option ((Int)⊕((Unit)⊕(Qap))))=some _:=h
   exact gn 3 [1,3,5,6,8,9] [0,1,2] [] (hI _ (oJ h))
  ·obtain ⟨r2,rfl⟩:∃ x,x=e0:=⟨_,rfl⟩
   replace h:(some (.inr (.inr r2)):Option ((Int)⊕((Unit)⊕(Qap))))=some _:=h
   exact (hE _ (oJ h):_=rv)
 ·exact gn 5 [5,6] [1,2] [bF h2] (hE _ (oJ h))
theorem QnZ {x0 l s0} {rv:Qap} (h:Qfl x0 l s0=some rv):AFn Tryz.prog 30 [.agg (Qab.enc x0),.one (lL 14 l Qaf.enc),.agg (Qap.enc s0)] [] (gG [lI rv.place,lI rv.open_,lI rv.close,lI rv.service]) []:=by
 refine QaG Tryz.func30 (by kernel_rfl) (by kernel_rfl) (fun Γ=>?_)
 unfold Qfl at h
 obtain ⟨r,h0,h⟩:=Qae h
 rcases Qak h with ⟨h1,h⟩|⟨h1,h⟩
 ·obtain rfl:=Option.some.inj h
  exact gr 10 [] [cC (QoQ h0),rp 8 hP,oI ((ltI s0.place 0)=false),oR True ((ltI s0.place 0)=false),rp 3 (oI (((ltI s0.place 0)||(ltI r 0))=false)),oR True (((ltI s0.place 0)||(ltI r 0))=false),bT h1]
 ·obtain ⟨e1,h8,h⟩:=Qae h
  refine gn 16 [1,3,5,6,8,9] [0,1,2] [cC (QoQ h0),rp 8 hP,oI ((ltI s0.place 0)=false),oR True ((ltI s0.place 0)=false),rp 3 (oI (((ltI s0.place 0)||(ltI r 0))=false)),oR True (((ltI s0.place 0)||(ltI r 0))=false),bF h1] (QrT Γ rv h8 ?_)
  rcases e1 with e1|e1
  ·replace h:(some s0:Option Qap)=some _:=h
   obtain rfl:=Option.some.inj h
   exact gr 2 [] []
  ·obtain ⟨r3,rfl⟩:∃ x,x=e1:=⟨_,rfl⟩
   replace h:(some r3:Option Qap)=some _:=h
   exact Option.some.inj h
def Qp1 (Γ:Gam) (rv:Qab×Int) (cf:Cf):Prop:=Go Tryz.prog Tryz.f11 [] Γ (.tup [.agg [lL 1 rv.1.net.places QeA,lL 6 rv.1.net.arcs Qai.enc,lL 14 rv.1.types Qaf.enc,lL 16 rv.1.orders Qac.enc,lL 2 rv.1.apart Qav.enc,lL 2 rv.1.before Qav.enc],.one (lI rv.2)]) [] cf
def QmU (Γ:Gam) (rv:Qab×Int) (x0:Qab) (l:List Qac) (i:Int):Prop:=Qp1 Γ rv ⟨[.c 500,.l 500,.b 0,.c 63],⟨67,[vP 1 0 6,vP 2 1 6,vP 4 2 6,vI 5 i],[oX 6 30 (Qab.enc x0),oX 6 30 [.nils,.nils,.nils,.nils,.nils,.nils],oX 6 30 [lL 1 x0.net.places QeA,lL 6 x0.net.arcs Qai.enc,lL 14 x0.types Qaf.enc,lO 3 16 l Qac.enc,lL 2 x0.apart Qav.enc,lL 2 x0.before Qav.enc],oS 16 56 l Qac.enc]⟩⟩
def QlV (Γ:Gam) (rv:Qab×Int) (x0:Qab) (l1:List Qac):Prop:=Qp1 Γ rv ⟨[.c 63],⟨67,[vP 2 0 6,vP 4 1 6],[oX 6 30 [.nils,.nils,.nils,.nils,.nils,.nils],oX 6 30 [lL 1 x0.net.places QeA,lL 6 x0.net.arcs Qai.enc,lL 14 x0.types Qaf.enc,lO 2 16 l1 Qac.enc,lL 2 x0.apart Qav.enc,lL 2 x0.before Qav.enc],oS 16 56 l1 Qac.enc]⟩⟩
theorem Qsv (Γ:Gam) (rv:Qab×Int) {x0} {s:List Qac×Int} {e:List Qac} (h:QaX (fun s=>QcT x0 s.1 s.2) s=some e) (hD:QlV Γ rv x0 e):QmU Γ rv x0 s.1 s.2:=by
 refine QaA (C:=fun (s:List Qac×Int)=>QmU Γ rv x0 s.1 s.2) (D:=fun (e:List Qac)=>QlV Γ rv x0 e) ?_ h hD
 clear h hD s e
 rintro ⟨l,i⟩ z_ h hI hE
 replace h:QcT x0 l i=_:=h
 unfold QcT at h
 rcases Qak h with ⟨h3,h⟩|⟨h3,h⟩
 ·obtain ⟨x1,h4,h⟩:=Qae h
  rcases Qak h with ⟨h5,h⟩|⟨h5,h⟩
  ·exact gn 14 [1,2,4,5] [0,1,2,3] [nL Qac.enc l,bT h3,oO (QiR h4),oO (QiQ Qac.enc h4),rE Qac.enc h4,bT h5] (hI _ (oJ h))
  ·obtain ⟨r1,h6,h⟩:=Qae h
   obtain ⟨x2,h7,h⟩:=Qae h
   obtain ⟨r2,h8,h⟩:=Qae h
   obtain ⟨r3,h9,h⟩:=Qae h
   exact gn 20 [1,2,4,5] [0,1,2,3] [nL Qac.enc l,bT h3,oO (QiR h4),oO (QiQ Qac.enc h4),rE Qac.enc h4,bF h5,hH (.draw 8 []),oO (QiR h4),oO (QiQ Qac.enc h4),rE Qac.enc h4,cC (Qvj h6),hH (.draw 14 []),cE Qac.enc h7,cC (QnZ h8),oO (QiR h4),oO (QiQ Qac.enc h4),rE Qac.enc h4,hH (.rows ((setI l i (Qac.mk x1.name x1.load r2 x1.drop x1.skills x1.penalty x1.split x1.last_ x1.now x1.off)).map Qac.enc)),hH (.relen 3 ((setI l i (Qac.mk x1.name x1.load r2 x1.drop x1.skills x1.penalty x1.split x1.last_ x1.now x1.off)).map Qac.enc).length),hH (.draw 14 []),oO (setM Qac.enc l i (Qac.mk x1.name x1.load r2 x1.drop x1.skills x1.penalty x1.split x1.last_ x1.now x1.off)),rp 5 (oO (QrM Qac.enc l i (Qac.mk x1.name x1.load r2 x1.drop x1.skills x1.penalty x1.split x1.last_ x1.now x1.off))),cE Qac.enc h7,cC (QnZ h9),oO (QiR (Qyk h4 (Qac.mk x1.name x1.load r2 x1.drop x1.skills x1.penalty x1.split x1.last_ x1.now x1.off))),oO (QiQ Qac.enc (Qyk h4 (Qac.mk x1.name x1.load r2 x1.drop x1.skills x1.penalty x1.split x1.last_ x1.now x1.off))),rE Qac.enc (Qyk h4 (Qac.mk x1.name x1.load r2 x1.drop x1.skills x1.penalty x1.split x1.last_ x1.now x1.off)),hH (.rows ((setI (setI l i (Qac.mk x1.name x1.load r2 x1.drop x1.skills x1.penalty x1.split x1.last_ x1.now x1.off)) i (Qac.mk x1.name x1.load r2 r3 x1.skills x1.penalty x1.split x1.last_ x1.now x1.off)).map Qac.enc)),hH (.relen 3 ((setI (setI l i (Qac.mk x1.name x1.load r2 x1.drop x1.skills x1.penalty x1.split x1.last_ x1.now x1.off)) i (Qac.mk x1.name x1.load r2 r3 x1.skills x1.penalty x1.split x1.last_ x1.now x1.off)).map Qac.enc).length),oO (setM Qac.enc (setI l i (Qac.mk x1.name x1.load r2 x1.drop x1.skills x1.penalty x1.split x1.last_ x1.now x1.off)) i (Qac.mk x1.name x1.load r2 r3 x1.skills x1.penalty x1.split x1.last_ x1.now x1.off)),rp 6 (oO (QrM Qac.enc (setI l i (Qac.mk x1.name x1.load r2 x1.drop x1.skills x1.penalty x1.split x1.last_ x1.now x1.off)) i (Qac.mk x1.name x1.load r2 r3 x1.skills x1.penalty x1.split x1.last_ x1.now x1.off)))] (hI _ (oJ h))
 ·exact gn 5 [2,4] [1,2,3] [nL Qac.enc l,bF h3] (hE _ (oJ h))
theorem Qh1 {x0} {rv:Qab×Int} (h:QdQ x0=some rv):AFn Tryz.prog 11 [.agg (Qab.enc x0)] [] (.tup [.agg [lL 1 rv.1.net.places QeA,lL 6 rv.1.net.arcs Qai.enc,lL 14 rv.1.types Qaf.enc,lL 16 rv.1.orders Qac.enc,lL 2 rv.1.apart Qav.enc,lL 2 rv.1.before Qav.enc],.one (lI rv.2)]) []:=by
 refine QaG Tryz.func11 (by kernel_rfl) (by kernel_rfl) (fun Γ=>?_)
 unfold QdQ at h
 obtain ⟨r,h0,h⟩:=Qae h
 rcases Qak h with ⟨h1,h⟩|⟨h1,h⟩
 ·obtain rfl:=Option.some.inj h
  exact gr 8 [] [cC (Qh0 h0),nL Qaa.enc r,bT h1,hW 5,hH (.nilB 1 0 1),hH (.nilB 1 1 6),hH (.nilB 1 2 14),hH (.nilB 1 3 16),hH (.nilB 1 4 2),hH (.nilB 1 5 2)]
 ·obtain ⟨h2,h⟩:=Qat h
  obtain ⟨e0,h10,h⟩:=Qae h
  refine gn 16 [1,2,4,5] [0,1,2,3] [cC (Qh0 h0),nL Qaa.enc r,bF h1,aZ Qac.enc h2] (Qsv Γ rv h10 ?_)
  obtain ⟨l1,rfl⟩:∃ x,x=e0:=⟨_,rfl⟩
  replace h:(some ((Qab.mk x0.net x0.types l1 x0.apart x0.before),0):Option (Qab×Int))=some _:=h
  obtain rfl:=Option.some.inj h
  exact gr 2 [] [hW 5,hH (.frz 2),rp 3 (eL l1 Qac.enc)]
def QoP (Γ:Gam) (rv:Bool) (cf:Cf):Prop:=Go Tryz.prog Tryz.f58 [] Γ (one (.bool rv)) [] cf
def QlT (Γ:Gam) (rv:Bool) (a:List Qal) (b:List Qal) (i:Int):Prop:=QoP Γ rv ⟨[.c 116,.l 116,.b 0,.c 15],⟨26,[vL 0 2 a Qal.enc,vL 1 2 b Qal.enc,vI 5 i],[]⟩⟩
def Qky (Γ:Gam) (rv:Bool) (a:List Qal) (b:List Qal):Prop:=QoP Γ rv ⟨[.c 15],⟨26,[],[]⟩⟩
theorem QrR (Γ:Gam) (rv:Bool) {a b} {s:Int} {e:(Unit)⊕(Bool)} (h:QaX (fun s=>QcE a b s) s=some e) (hD:sel e (fun e=>Qky Γ rv a b) (fun e=>e=rv)):QlT Γ rv a b s:=by
 refine QaA (C:=fun (s:Int)=>QlT Γ rv a b s) (D:=fun (e:(Unit)⊕(Bool))=>sel e (fun e=>Qky Γ rv a b) (fun e=>e=rv)) ?_ h hD
 clear h hD s e
 intro i z_ h hI hE
 replace h:QcE a b i=_:=h
 unfold QcE at h
 rcases Qak h with ⟨h1,h⟩|⟨h1,h⟩
 ·obtain ⟨x0,h2,h⟩:=Qae h
  obtain ⟨x1,h3,h⟩:=Qae h
  rcases Qak h with ⟨h4,h⟩|⟨h4,h⟩
  ·exact gn 14 [0,1,5] [] [nL Qal.enc a,bT h1,hH (.draw 9 []),cE Qal.enc h2,cE Qal.enc h3,nF h4] (hI _ (oJ h))
  ·obtain rfl:=(hE _ (oJ h):_=rv)
   exact gr 12 [] [nL Qal.enc a,bT h1,hH (.draw 9 []),cE Qal.enc h2,cE Qal.enc h3,nT h4]
 ·exact gn 5 [] [] [nL Qal.enc a,bF h1] (hE _ (oJ h))
theorem QfZ {a b} {rv:Bool} (h:Qgi a b=some rv):AFn Tryz.prog 58 [.one (lL 2 a Qal.enc),.one (lL 2 b Qal.enc)] [] (one (.bool rv)) []:=by
 refine QaG Tryz.func58 (by kernel_rfl) (by kernel_rfl) (fun Γ=>?_)
 unfold Qgi at h
 rcases Qak h with ⟨h0,h⟩|⟨h0,h⟩
 ·obtain rfl:=Option.some.inj h
  exact gr 8 [] [nL Qal.enc a,nL Qal.enc b,bT h0]
 ·obtain ⟨e0,h5,h⟩:=Qae h
  refine gn 12 [0,1,5] [] [nL Qal.enc a,nL Qal.enc b,bF h0] (QrR Γ rv h5 ?_)
  rcases e0 with e0|e0
  ·replace h:(some true:Option Bool)=some _:=h
   obtain rfl:=Option.some.inj h
   exact gr 2 [] []
  ·obtain ⟨r,rfl⟩:∃ x,x=e0:=⟨_,rfl⟩
   replace h:(some r:Option Bool)=some _:=h
   exact Option.some.inj h
def Qjd (Γ:Gam) (rv:Bool) (cf:Cf):Prop:=Go Tryz.prog Tryz.f31 [] Γ (one (.bool rv)) [] cf
def QnV (Γ:Gam) (rv:Bool) (a:Qag) (b:Qag) (i:Int):Prop:=Qjd Γ rv ⟨[.c 116,.l 116,.b 0,.c 15],⟨102,[vP 2 0 2,vP 3 1 2,vI 5 i],[oX 2 25 (Qag.enc a),oX 2 25 (Qag.enc b)]⟩⟩
def QmQ (Γ:Gam) (rv:Bool) (a:Qag) (b:Qag):Prop:=Qjd Γ rv ⟨[.c 15],⟨102,[vP 2 0 2,vP 3 1 2],[oX 2 25 (Qag.enc a),oX 2 25 (Qag.enc b)]⟩⟩
def QnW (Γ:Gam) (rv:Bool) (a:Qag) (b:Qag) (i1:Int):Prop:=Qjd Γ rv ⟨[.c 244,.l 244,.b 2,.c 31],⟨102,[vP 2 0 2,vP 3 1 2,vI 6 i1],[oX 2 25 (Qag.enc a),oX 2 25 (Qag.enc b)]⟩⟩
def QmR (Γ:Gam) (rv:Bool) (a:Qag) (b:Qag):Prop:=Qjd Γ rv ⟨[.c 31],⟨102,[],[]⟩⟩
theorem Qtr (Γ:Gam) (rv:Bool) {a b} {s:Int} {e:(Unit)⊕(Bool)} (h:QaX (fun s=>Qdm a b s) s=some e) (hD:sel e (fun e=>QmQ Γ rv a b) (fun e=>e=rv)):QnV Γ rv a b s:=by
 refine QaA (C:=fun (s:Int)=>QnV Γ rv a b s) (D:=fun (e:(Unit)⊕(Bool))=>sel e (fun e=>QmQ Γ rv a b) (fun e=>e=rv)) ?_ h hD
 clear h hD s e
 intro i z_ h hI hE
 replace h:Qdm a b i=_:=h
 unfold Qdm at h
 rcases Qak h with ⟨h1,h⟩|⟨h1,h⟩
 ·obtain ⟨x0,h2,h⟩:=Qae h
  obtain ⟨x1,h3,h⟩:=Qae h
  rcases Qak h with ⟨h4,h⟩|⟨h4,h⟩
  ·exact gn 14 [2,3,5] [0,1] [nL QeA a.places,bT h1,hH (.draw 11 []),cE QeA h2,cE QeA h3,nF h4] (hI _ (oJ h))
  ·obtain rfl:=(hE _ (oJ h):_=rv)
   exact gr 12 [] [nL QeA a.places,bT h1,hH (.draw 11 []),cE QeA h2,cE QeA h3,nT h4]
 ·exact gn 5 [2,3] [0,1] [nL QeA a.places,bF h1] (hE _ (oJ h))
theorem Qts (Γ:Gam) (rv:Bool) {a b} {s:Int} {e:(Unit)⊕(Bool)} (h:QaX (fun s=>QcN a b s) s=some e) (hD:sel e (fun e=>QmR Γ rv a b) (fun e=>e=rv)):QnW Γ rv a b s:=by
 refine QaA (C:=fun (s:Int)=>QnW Γ rv a b s) (D:=fun (e:(Unit)⊕(Bool))=>sel e (fun e=>QmR Γ rv a b) (fun e=>e=rv)) ?_ h hD
 clear h hD s e
 intro i1 z_ h hI hE
 replace h:QcN a b i1=_:=h
 unfold QcN at h
 rcases Qak h with ⟨h6,h⟩|⟨h6,h⟩
 ·obtain ⟨x2,h7,h⟩:=Qae h
  obtain ⟨x3,h8,h⟩:=Qae h
  rcases Qak h with ⟨h9,h⟩|⟨h9,h⟩
  ·obtain rfl:=(hE _ (oJ h):_=rv)
   exact gr 16 [] [nL Qai.enc a.arcs,bT h6,cE Qai.enc h7,cE Qai.enc h8,rp 18 hP,rp 4 (oI ((neI x2.from_ x3.from_)=false)),oR True ((neI x2.from_ x3.from_)=false),rp 4 (oI (((neI x2.from_ x3.from_)||(neI x2.to_ x3.to_))=false)),oR True (((neI x2.from_ x3.from_)||(neI x2.to_ x3.to_))=false),rp 4 (oI ((((neI x2.from_ x3.from_)||(neI x2.to_ x3.to_))||(neI x2.profile x3.profile))=false)),oR True ((((neI x2.from_ x3.from_)||(neI x2.to_ x3.to_))||(neI x2.profile x3.profile))=false),rp 7 (bT h9),rp 8 tT]
  ·obtain ⟨r,h10,h⟩:=Qae h
   rcases Qak h with ⟨h11,h⟩|⟨h11,h⟩
   ·obtain ⟨r1,h12,h⟩:=Qae h
    rcases Qak h with ⟨h13,h⟩|⟨h13,h⟩
    ·exact gn 18 [2,3,6] [0,1] [nL Qai.enc a.arcs,bT h6,cE Qai.enc h7,cE Qai.enc h8,rp 18 hP,rp 4 (oI ((neI x2.from_ x3.from_)=false)),oR True ((neI x2.from_ x3.from_)=false),rp 4 (oI (((neI x2.from_ x3.from_)||(neI x2.to_ x3.to_))=false)),oR True (((neI x2.from_ x3.from_)||(neI x2.to_ x3.to_))=false),rp 4 (oI ((((neI x2.from_ x3.from_)||(neI x2.to_ x3.to_))||(neI x2.profile x3.profile))=false)),oR True ((((neI x2.from_ x3.from_)||(neI x2.to_ x3.to_))||(neI x2.profile x3.profile))=false),rp 5 (bF h9),cC (QfZ h10),bF h9,bF h9,rp 5 (nF h11),cC (QfZ h12),rp 2 (nF h11),nF h13] (hI _ (oJ h))
    ·obtain rfl:=(hE _ (oJ h):_=rv)
     exact gr 16 [] [nL Qai.enc a.arcs,bT h6,cE Qai.enc h7,cE Qai.enc h8,rp 18 hP,rp 4 (oI ((neI x2.from_ x3.from_)=false)),oR True ((neI x2.from_ x3.from_)=false),rp 4 (oI (((neI x2.from_ x3.from_)||(neI x2.to_ x3.to_))=false)),oR True (((neI x2.from_ x3.from_)||(neI x2.to_ x3.to_))=false),rp 4 (oI ((((neI x2.from_ x3.from_)||(neI x2.to_ x3.to_))||(neI x2.profile x3.profile))=false)),oR True ((((neI x2.from_ x3.from_)||(neI x2.to_ x3.to_))||(neI x2.profile x3.profile))=false),rp 5 (bF h9),cC (QfZ h10),bF h9,bF h9,rp 5 (nF h11),cC (QfZ h12),rp 2 (nF h11),nT h13]
   ·obtain rfl:=(hE _ (oJ h):_=rv)
    exact gr 16 [] [nL Qai.enc a.arcs,bT h6,cE Qai.enc h7,cE Qai.enc h8,rp 18 hP,rp 4 (oI ((neI x2.from_ x3.from_)=false)),oR True ((neI x2.from_ x3.from_)=false),rp 4 (oI (((neI x2.from_ x3.from_)||(neI x2.to_ x3.to_))=false)),oR True (((neI x2.from_ x3.from_)||(neI x2.to_ x3.to_))=false),rp 4 (oI ((((neI x2.from_ x3.from_)||(neI x2.to_ x3.to_))||(neI x2.profile x3.profile))=false)),oR True ((((neI x2.from_ x3.from_)||(neI x2.to_ x3.to_))||(neI x2.profile x3.profile))=false),rp 5 (bF h9),cC (QfZ h10),bF h9,bF h9,rp 7 (nT h11),tT]
 ·exact gn 5 [] [] [nL Qai.enc a.arcs,bF h6] (hE _ (oJ h))
theorem QpZ {a b} {rv:Bool} (h:QiY a b=some rv):AFn Tryz.prog 31 [.agg (Qag.enc a),.agg (Qag.enc b)] [] (one (.bool rv)) []:=by
 refine QaG Tryz.func31 (by kernel_rfl) (by kernel_rfl) (fun Γ=>?_)
 unfold QiY at h
 rcases Qak h with ⟨h0,h⟩|⟨h0,h⟩
 ·obtain rfl:=Option.some.inj h
  exact gr 8 [] [nL QeA a.places,nL QeA b.places,hP,hP,hP,rp 2 (oI ((neI (lenI a.places) (lenI b.places))=false)),nL Qai.enc a.arcs,hP,hP,hP,rp 2 (oI ((neI (lenI a.places) (lenI b.places))=false)),nL Qai.enc b.arcs,hP,hP,rp 2 (oI ((neI (lenI a.places) (lenI b.places))=false)),oR True ((neI (lenI a.places) (lenI b.places))=false),bT h0]
 ·obtain ⟨e0,h5,h⟩:=Qae h
  refine gn 12 [2,3,5] [0,1] [nL QeA a.places,nL QeA b.places,hP,hP,hP,rp 2 (oI ((neI (lenI a.places) (lenI b.places))=false)),nL Qai.enc a.arcs,hP,hP,hP,rp 2 (oI ((neI (lenI a.places) (lenI b.places))=false)),nL Qai.enc b.arcs,hP,hP,rp 2 (oI ((neI (lenI a.places) (lenI b.places))=false)),oR True ((neI (lenI a.places) (lenI b.places))=false),bF h0] (Qtr Γ rv h5 ?_)
  rcases e0 with e0|e0
  ·replace h:(bnd (QaX (fun s=>QcN a b s) 0) (fun e=>sel e (fun (_:Unit)=>some true) (fun r2=>some r2)):Option Bool)=some _:=h
   obtain ⟨e1,h14,h⟩:=Qae h
   refine gn 5 [2,3,6] [0,1] [] (Qts Γ rv h14 ?_)
   rcases e1 with e1|e1
   ·replace h:(some true:Option Bool)=some _:=h
    obtain rfl:=Option.some.inj h
    exact gr 2 [] []
   ·obtain ⟨r2,rfl⟩:∃ x,x=e1:=⟨_,rfl⟩
    replace h:(some r2:Option Bool)=some _:=h
    exact Option.some.inj h
  ·obtain ⟨r3,rfl⟩:∃ x,x=e0:=⟨_,rfl⟩
   replace h:(some r3:Option Bool)=some _:=h
   exact Option.some.inj h
def Qrd (Γ:Gam) (rv:Bool) (cf:Cf):Prop:=Go Tryz.prog Tryz.f32 [] Γ (one (.bool rv)) [] cf
def QnQ (Γ:Gam) (rv:Bool) (a:Qaf) (b:Qaf) (i:Int):Prop:=Qrd Γ rv ⟨[.c 116,.l 116,.b 0,.c 15],⟨120,[vP 2 0 14,vP 3 1 14,vI 5 i],[oX 14 70 (Qaf.enc a),oX 14 70 (Qaf.enc b)]⟩⟩
def QmH (Γ:Gam) (rv:Bool) (a:Qaf) (b:Qaf):Prop:=Qrd Γ rv ⟨[.c 15],⟨120,[vP 2 0 14,vP 3 1 14],[oX 14 70 (Qaf.enc a),oX 14 70 (Qaf.enc b)]⟩⟩
theorem Qtn (Γ:Gam) (rv:Bool) {a b} {s:Int} {e:(Unit)⊕(Bool)} (h:QaX (fun s=>Qdj a b s) s=some e) (hD:sel e (fun e=>QmH Γ rv a b) (fun e=>e=rv)):QnQ Γ rv a b s:=by
 refine QaA (C:=fun (s:Int)=>QnQ Γ rv a b s) (D:=fun (e:(Unit)⊕(Bool))=>sel e (fun e=>QmH Γ rv a b) (fun e=>e=rv)) ?_ h hD
 clear h hD s e
 intro i z_ h hI hE
 replace h:Qdj a b i=_:=h
 unfold Qdj at h
 rcases Qak h with ⟨h1,h⟩|⟨h1,h⟩
 ·obtain ⟨x0,h2,h⟩:=Qae h
  obtain ⟨x1,h3,h⟩:=Qae h
  rcases Qak h with ⟨h4,h⟩|⟨h4,h⟩
  ·obtain rfl:=(hE _ (oJ h):_=rv)
   exact gr 12 [] [nL Qaw a.cap,bT h1,hH (.draw 11 []),cE Qaw h2,cE Qaw h3,bT h4]
  ·exact gn 14 [2,3,5] [0,1] [nL Qaw a.cap,bT h1,hH (.draw 11 []),cE Qaw h2,cE Qaw h3,bF h4] (hI _ (oJ h))
 ·exact gn 5 [2,3] [0,1] [nL Qaw a.cap,bF h1] (hE _ (oJ h))
theorem QpV {a b} {rv:Bool} (h:QiT a b=some rv):AFn Tryz.prog 32 [.agg (Qaf.enc a),.agg (Qaf.enc b)] [] (one (.bool rv)) []:=by
 refine QaG Tryz.func32 (by kernel_rfl) (by kernel_rfl) (fun Γ=>?_)
 unfold QiT at h
 rcases Qak h with ⟨h0,h⟩|⟨h0,h⟩
 ·obtain rfl:=Option.some.inj h
  exact gr 8 [] [nL Qaw a.cap,nL Qaw b.cap,bT h0]
 ·obtain ⟨e0,h5,h⟩:=Qae h
  refine gn 12 [2,3,5] [0,1] [nL Qaw a.cap,nL Qaw b.cap,bF h0] (Qtn Γ rv h5 ?_)
  rcases e0 with e0|e0
  ·replace h:(some (((((((((((((eqS a.name b.name)&&(eqI a.count b.count))&&(eqI a.from_ b.from_))&&(eqI a.to_ b.to_))&&(eqI a.skills b.skills))&&(eqI a.profile b.profile))&&(eqI a.open_ b.open_))&&(eqI a.close b.close))&&(eqI a.drive b.drive))&&(eqI a.rest_ b.rest_))&&(eqI a.fixed b.fixed))&&(eqI a.perMile b.perMile))&&(eqI a.perTick b.perTick)):Option Bool)=some _:=h
   obtain rfl:=Option.some.inj h
   exact gr 2 [] [rp 72 hP,rp 4 (oI ((eqS a.name b.name)=true)),oR True ((eqS a.name b.name)=true),rp 4 (oI (((eqS a.name b.name)&&(eqI a.count b.count))=true)),oR True (((eqS a.name b.name)&&(eqI a.count b.count))=true),rp 4 (oI ((((eqS a.name b.name)&&(eqI a.count b.count))&&(eqI a.from_ b.from_))=true)),oR True ((((eqS a.name b.name)&&(eqI a.count b.count))&&(eqI a.from_ b.from_))=true),rp 4 (oI (((((eqS a.name b.name)&&(eqI a.count b.count))&&(eqI a.from_ b.from_))&&(eqI a.to_ b.to_))=true)),oR True (((((eqS a.name b.name)&&(eqI a.count b.count))&&(eqI a.from_ b.from_))&&(eqI a.to_ b.to_))=true),rp 4 (oI ((((((eqS a.name b.name)&&(eqI a.count b.count))&&(eqI a.from_ b.from_))&&(eqI a.to_ b.to_))&&(eqI a.skills b.skills))=true)),oR True ((((((eqS a.name b.name)&&(eqI a.count b.count))&&(eqI a.from_ b.from_))&&(eqI a.to_ b.to_))&&(eqI a.skills b.skills))=true),rp 4 (oI (((((((eqS a.name b.name)&&(eqI a.count b.count))&&(eqI a.from_ b.from_))&&(eqI a.to_ b.to_))&&(eqI a.skills b.skills))&&(eqI a.profile b.profile))=true)),oR True (((((((eqS a.name b.name)&&(eqI a.count b.count))&&(eqI a.from_ b.from_))&&(eqI a.to_ b.to_))&&(eqI a.skills b.skills))&&(eqI a.profile b.profile))=true),rp 4 (oI ((((((((eqS a.name b.name)&&(eqI a.count b.count))&&(eqI a.from_ b.from_))&&(eqI a.to_ b.to_))&&(eqI a.skills b.skills))&&(eqI a.profile b.profile))&&(eqI a.open_ b.open_))=true)),oR True ((((((((eqS a.name b.name)&&(eqI a.count b.count))&&(eqI a.from_ b.from_))&&(eqI a.to_ b.to_))&&(eqI a.skills b.skills))&&(eqI a.profile b.profile))&&(eqI a.open_ b.open_))=true),rp 4 (oI (((((((((eqS a.name b.name)&&(eqI a.count b.count))&&(eqI a.from_ b.from_))&&(eqI a.to_ b.to_))&&(eqI a.skills b.skills))&&(eqI a.profile b.profile))&&(eqI a.open_ b.open_))&&(eqI a.close b.close))=true)),oR True (((((((((eqS a.name b.name)&&(eqI a.count b.count))&&(eqI a.from_ b.from_))&&(eqI a.to_ b.to_))&&(eqI a.skills b.skills))&&(eqI a.profile b.profile))&&(eqI a.open_ b.open_))&&(eqI a.close b.close))=true),rp 4 (oI ((((((((((eqS a.name b.name)&&(eqI a.count b.count))&&(eqI a.from_ b.from_))&&(eqI a.to_ b.to_))&&(eqI a.skills b.skills))&&(eqI a.profile b.profile))&&(eqI a.open_ b.open_))&&(eqI a.close b.close))&&(eqI a.drive b.drive))=true)),oR True ((((((((((eqS a.name b.name)&&(eqI a.count b.count))&&(eqI a.from_ b.from_))&&(eqI a.to_ b.to_))&&(eqI a.skills b.skills))&&(eqI a.profile b.profile))&&(eqI a.open_ b.open_))&&(eqI a.close b.close))&&(eqI a.drive b.drive))=true),rp 4 (oI (((((((((((eqS a.name b.name)&&(eqI a.count b.count))&&(eqI a.from_ b.from_))&&(eqI a.to_ b.to_))&&(eqI a.skills b.skills))&&(eqI a.profile b.profile))&&(eqI a.open_ b.open_))&&(eqI a.close b.close))&&(eqI a.drive b.drive))&&(eqI a.rest_ b.rest_))=true)),oR True (((((((((((eqS a.name b.name)&&(eqI a.count b.count))&&(eqI a.from_ b.from_))&&(eqI a.to_ b.to_))&&(eqI a.skills b.skills))&&(eqI a.profile b.profile))&&(eqI a.open_ b.open_))&&(eqI a.close b.close))&&(eqI a.drive b.drive))&&(eqI a.rest_ b.rest_))=true),rp 4 (oI ((((((((((((eqS a.name b.name)&&(eqI a.count b.count))&&(eqI a.from_ b.from_))&&(eqI a.to_ b.to_))&&(eqI a.skills b.skills))&&(eqI a.profile b.profile))&&(eqI a.open_ b.open_))&&(eqI a.close b.close))&&(eqI a.drive b.drive))&&(eqI a.rest_ b.rest_))&&(eqI a.fixed b.fixed))=true)),oR True ((((((((((((eqS a.name b.name)&&(eqI a.count b.count))&&(eqI a.from_ b.from_))&&(eqI a.to_ b.to_))&&(eqI a.skills b.skills))&&(eqI a.profile b.profile))&&(eqI a.open_ b.open_))&&(eqI a.close b.close))&&(eqI a.drive b.drive))&&(eqI a.rest_ b.rest_))&&(eqI a.fixed b.fixed))=true),rp 4 (oI (((((((((((((eqS a.name b.name)&&(eqI a.count b.count))&&(eqI a.from_ b.from_))&&(eqI a.to_ b.to_))&&(eqI a.skills b.skills))&&(eqI a.profile b.profile))&&(eqI a.open_ b.open_))&&(eqI a.close b.close))&&(eqI a.drive b.drive))&&(eqI a.rest_ b.rest_))&&(eqI a.fixed b.fixed))&&(eqI a.perMile b.perMile))=true)),oR True (((((((((((((eqS a.name b.name)&&(eqI a.count b.count))&&(eqI a.from_ b.from_))&&(eqI a.to_ b.to_))&&(eqI a.skills b.skills))&&(eqI a.profile b.profile))&&(eqI a.open_ b.open_))&&(eqI a.close b.close))&&(eqI a.drive b.drive))&&(eqI a.rest_ b.rest_))&&(eqI a.fixed b.fixed))&&(eqI a.perMile b.perMile))=true)]
  ·obtain ⟨r,rfl⟩:∃ x,x=e0:=⟨_,rfl⟩
   replace h:(some r:Option Bool)=some _:=h
   exact Option.some.inj h
def Qre (Γ:Gam) (rv:Bool) (cf:Cf):Prop:=Go Tryz.prog Tryz.f59 [] Γ (one (.bool rv)) [] cf
def QnR (Γ:Gam) (rv:Bool) (a:List Int) (b:List Int) (i:Int):Prop:=Qre Γ rv ⟨[.c 116,.l 116,.b 0,.c 15],⟨26,[vL 0 1 a Qaw,vL 1 1 b Qaw,vI 5 i],[]⟩⟩
def QmN (Γ:Gam) (rv:Bool) (a:List Int) (b:List Int):Prop:=Qre Γ rv ⟨[.c 15],⟨26,[],[]⟩⟩
theorem Qto (Γ:Gam) (rv:Bool) {a b} {s:Int} {e:(Unit)⊕(Bool)} (h:QaX (fun s=>Qdk a b s) s=some e) (hD:sel e (fun e=>QmN Γ rv a b) (fun e=>e=rv)):QnR Γ rv a b s:=by
 refine QaA (C:=fun (s:Int)=>QnR Γ rv a b s) (D:=fun (e:(Unit)⊕(Bool))=>sel e (fun e=>QmN Γ rv a b) (fun e=>e=rv)) ?_ h hD
 clear h hD s e
 intro i z_ h hI hE
 replace h:Qdk a b i=_:=h
 unfold Qdk at h
 rcases Qak h with ⟨h1,h⟩|⟨h1,h⟩
 ·obtain ⟨x0,h2,h⟩:=Qae h
  obtain ⟨x1,h3,h⟩:=Qae h
  rcases Qak h with ⟨h4,h⟩|⟨h4,h⟩
  ·obtain rfl:=(hE _ (oJ h):_=rv)
   exact gr 12 [] [nL Qaw a,bT h1,hH (.draw 9 []),cE Qaw h2,cE Qaw h3,bT h4]
  ·exact gn 14 [0,1,5] [] [nL Qaw a,bT h1,hH (.draw 9 []),cE Qaw h2,cE Qaw h3,bF h4] (hI _ (oJ h))
 ·exact gn 5 [] [] [nL Qaw a,bF h1] (hE _ (oJ h))
theorem Qvi {a b} {rv:Bool} (h:QiV a b=some rv):AFn Tryz.prog 59 [.one (lL 1 a Qaw),.one (lL 1 b Qaw)] [] (one (.bool rv)) []:=by
 refine QaG Tryz.func59 (by kernel_rfl) (by kernel_rfl) (fun Γ=>?_)
 unfold QiV at h
 rcases Qak h with ⟨h0,h⟩|⟨h0,h⟩
 ·obtain rfl:=Option.some.inj h
  exact gr 8 [] [nL Qaw a,nL Qaw b,bT h0]
 ·obtain ⟨e0,h5,h⟩:=Qae h
  refine gn 12 [0,1,5] [] [nL Qaw a,nL Qaw b,bF h0] (Qto Γ rv h5 ?_)
  rcases e0 with e0|e0
  ·replace h:(some true:Option Bool)=some _:=h
   obtain rfl:=Option.some.inj h
   exact gr 2 [] []
  ·obtain ⟨r,rfl⟩:∃ x,x=e0:=⟨_,rfl⟩
   replace h:(some r:Option Bool)=some _:=h
   exact Option.some.inj h
theorem QpY {a b} {rv:Bool} (h:QiU a b=some rv):AFn Tryz.prog 33 [.agg (Qac.enc a),.agg (Qac.enc b)] [] (one (.bool rv)) []:=by
 refine QaG Tryz.func33 (by kernel_rfl) (by kernel_rfl) (fun Γ=>?_)
 unfold QiU at h
 rcases Qak h with ⟨h0,h⟩|⟨h0,h⟩
 ·obtain ⟨r,h1,h⟩:=Qae h
  obtain rfl:=Option.some.inj h
  exact gr 4 [] [rp 5 (bT h0),cC (Qvi h1),bT h0,rp 48 hP,rp 4 (oI (r=true)),oR True (r=true),rp 4 (oI ((r&&(eqI a.pick.place b.pick.place&&(eqI a.pick.open_ b.pick.open_&&(eqI a.pick.close b.pick.close&&(eqI a.pick.service b.pick.service&&true)))))=true)),oR True ((r&&(eqI a.pick.place b.pick.place&&(eqI a.pick.open_ b.pick.open_&&(eqI a.pick.close b.pick.close&&(eqI a.pick.service b.pick.service&&true)))))=true),rp 4 (oI (((r&&(eqI a.pick.place b.pick.place&&(eqI a.pick.open_ b.pick.open_&&(eqI a.pick.close b.pick.close&&(eqI a.pick.service b.pick.service&&true)))))&&(eqI a.drop.place b.drop.place&&(eqI a.drop.open_ b.drop.open_&&(eqI a.drop.close b.drop.close&&(eqI a.drop.service b.drop.service&&true)))))=true)),oR True (((r&&(eqI a.pick.place b.pick.place&&(eqI a.pick.open_ b.pick.open_&&(eqI a.pick.close b.pick.close&&(eqI a.pick.service b.pick.service&&true)))))&&(eqI a.drop.place b.drop.place&&(eqI a.drop.open_ b.drop.open_&&(eqI a.drop.close b.drop.close&&(eqI a.drop.service b.drop.service&&true)))))=true),rp 4 (oI ((((r&&(eqI a.pick.place b.pick.place&&(eqI a.pick.open_ b.pick.open_&&(eqI a.pick.close b.pick.close&&(eqI a.pick.service b.pick.service&&true)))))&&(eqI a.drop.place b.drop.place&&(eqI a.drop.open_ b.drop.open_&&(eqI a.drop.close b.drop.close&&(eqI a.drop.service b.drop.service&&true)))))&&(eqI a.skills b.skills))=true)),oR True ((((r&&(eqI a.pick.place b.pick.place&&(eqI a.pick.open_ b.pick.open_&&(eqI a.pick.close b.pick.close&&(eqI a.pick.service b.pick.service&&true)))))&&(eqI a.drop.place b.drop.place&&(eqI a.drop.open_ b.drop.open_&&(eqI a.drop.close b.drop.close&&(eqI a.drop.service b.drop.service&&true)))))&&(eqI a.skills b.skills))=true),rp 4 (oI (((((r&&(eqI a.pick.place b.pick.place&&(eqI a.pick.open_ b.pick.open_&&(eqI a.pick.close b.pick.close&&(eqI a.pick.service b.pick.service&&true)))))&&(eqI a.drop.place b.drop.place&&(eqI a.drop.open_ b.drop.open_&&(eqI a.drop.close b.drop.close&&(eqI a.drop.service b.drop.service&&true)))))&&(eqI a.skills b.skills))&&(eqI a.penalty b.penalty))=true)),oR True (((((r&&(eqI a.pick.place b.pick.place&&(eqI a.pick.open_ b.pick.open_&&(eqI a.pick.close b.pick.close&&(eqI a.pick.service b.pick.service&&true)))))&&(eqI a.drop.place b.drop.place&&(eqI a.drop.open_ b.drop.open_&&(eqI a.drop.close b.drop.close&&(eqI a.drop.service b.drop.service&&true)))))&&(eqI a.skills b.skills))&&(eqI a.penalty b.penalty))=true),rp 4 (oI ((((((r&&(eqI a.pick.place b.pick.place&&(eqI a.pick.open_ b.pick.open_&&(eqI a.pick.close b.pick.close&&(eqI a.pick.service b.pick.service&&true)))))&&(eqI a.drop.place b.drop.place&&(eqI a.drop.open_ b.drop.open_&&(eqI a.drop.close b.drop.close&&(eqI a.drop.service b.drop.service&&true)))))&&(eqI a.skills b.skills))&&(eqI a.penalty b.penalty))&&(eqI a.split b.split))=true)),oR True ((((((r&&(eqI a.pick.place b.pick.place&&(eqI a.pick.open_ b.pick.open_&&(eqI a.pick.close b.pick.close&&(eqI a.pick.service b.pick.service&&true)))))&&(eqI a.drop.place b.drop.place&&(eqI a.drop.open_ b.drop.open_&&(eqI a.drop.close b.drop.close&&(eqI a.drop.service b.drop.service&&true)))))&&(eqI a.skills b.skills))&&(eqI a.penalty b.penalty))&&(eqI a.split b.split))=true),rp 4 (oI (((((((r&&(eqI a.pick.place b.pick.place&&(eqI a.pick.open_ b.pick.open_&&(eqI a.pick.close b.pick.close&&(eqI a.pick.service b.pick.service&&true)))))&&(eqI a.drop.place b.drop.place&&(eqI a.drop.open_ b.drop.open_&&(eqI a.drop.close b.drop.close&&(eqI a.drop.service b.drop.service&&true)))))&&(eqI a.skills b.skills))&&(eqI a.penalty b.penalty))&&(eqI a.split b.split))&&(eqI a.last_ b.last_))=true)),oR True (((((((r&&(eqI a.pick.place b.pick.place&&(eqI a.pick.open_ b.pick.open_&&(eqI a.pick.close b.pick.close&&(eqI a.pick.service b.pick.service&&true)))))&&(eqI a.drop.place b.drop.place&&(eqI a.drop.open_ b.drop.open_&&(eqI a.drop.close b.drop.close&&(eqI a.drop.service b.drop.service&&true)))))&&(eqI a.skills b.skills))&&(eqI a.penalty b.penalty))&&(eqI a.split b.split))&&(eqI a.last_ b.last_))=true),rp 4 (oI ((((((((r&&(eqI a.pick.place b.pick.place&&(eqI a.pick.open_ b.pick.open_&&(eqI a.pick.close b.pick.close&&(eqI a.pick.service b.pick.service&&true)))))&&(eqI a.drop.place b.drop.place&&(eqI a.drop.open_ b.drop.open_&&(eqI a.drop.close b.drop.close&&(eqI a.drop.service b.drop.service&&true)))))&&(eqI a.skills b.skills))&&(eqI a.penalty b.penalty))&&(eqI a.split b.split))&&(eqI a.last_ b.last_))&&(eqI a.now b.now))=true)),oR True ((((((((r&&(eqI a.pick.place b.pick.place&&(eqI a.pick.open_ b.pick.open_&&(eqI a.pick.close b.pick.close&&(eqI a.pick.service b.pick.service&&true)))))&&(eqI a.drop.place b.drop.place&&(eqI a.drop.open_ b.drop.open_&&(eqI a.drop.close b.drop.close&&(eqI a.drop.service b.drop.service&&true)))))&&(eqI a.skills b.skills))&&(eqI a.penalty b.penalty))&&(eqI a.split b.split))&&(eqI a.last_ b.last_))&&(eqI a.now b.now))=true)]
 ·obtain rfl:=Option.some.inj h
  exact gr 4 [] [rp 6 (bF h0),rp 48 fF]
def Qp0 (Γ:Gam) (rv:Bool) (cf:Cf):Prop:=Go Tryz.prog Tryz.f34 [] Γ (one (.bool rv)) [] cf
def QmS (Γ:Gam) (rv:Bool) (a:List Qav) (b:List Qav) (i:Int):Prop:=Qp0 Γ rv ⟨[.c 116,.l 116,.b 0,.c 15],⟨26,[vL 0 2 a Qav.enc,vL 1 2 b Qav.enc,vI 5 i],[]⟩⟩
def QlS (Γ:Gam) (rv:Bool) (a:List Qav) (b:List Qav):Prop:=Qp0 Γ rv ⟨[.c 15],⟨26,[],[]⟩⟩
theorem Qst (Γ:Gam) (rv:Bool) {a b} {s:Int} {e:(Unit)⊕(Bool)} (h:QaX (fun s=>QcS a b s) s=some e) (hD:sel e (fun e=>QlS Γ rv a b) (fun e=>e=rv)):QmS Γ rv a b s:=by
 refine QaA (C:=fun (s:Int)=>QmS Γ rv a b s) (D:=fun (e:(Unit)⊕(Bool))=>sel e (fun e=>QlS Γ rv a b) (fun e=>e=rv)) ?_ h hD
 clear h hD s e
 intro i z_ h hI hE
 replace h:QcS a b i=_:=h
 unfold QcS at h
 rcases Qak h with ⟨h1,h⟩|⟨h1,h⟩
 ·obtain ⟨x0,h2,h⟩:=Qae h
  obtain ⟨x1,h3,h⟩:=Qae h
  rcases Qak h with ⟨h4,h⟩|⟨h4,h⟩
  ·exact gn 14 [0,1,5] [] [nL Qav.enc a,bT h1,hH (.draw 9 []),cE Qav.enc h2,cE Qav.enc h3,nF h4] (hI _ (oJ h))
  ·obtain rfl:=(hE _ (oJ h):_=rv)
   exact gr 12 [] [nL Qav.enc a,bT h1,hH (.draw 9 []),cE Qav.enc h2,cE Qav.enc h3,nT h4]
 ·exact gn 5 [] [] [nL Qav.enc a,bF h1] (hE _ (oJ h))
theorem Qj5 {a b} {rv:Bool} (h:QdP a b=some rv):AFn Tryz.prog 34 [.one (lL 2 a Qav.enc),.one (lL 2 b Qav.enc)] [] (one (.bool rv)) []:=by
 refine QaG Tryz.func34 (by kernel_rfl) (by kernel_rfl) (fun Γ=>?_)
 unfold QdP at h
 rcases Qak h with ⟨h0,h⟩|⟨h0,h⟩
 ·obtain rfl:=Option.some.inj h
  exact gr 8 [] [nL Qav.enc a,nL Qav.enc b,bT h0]
 ·obtain ⟨e0,h5,h⟩:=Qae h
  refine gn 12 [0,1,5] [] [nL Qav.enc a,nL Qav.enc b,bF h0] (Qst Γ rv h5 ?_)
  rcases e0 with e0|e0
  ·replace h:(some true:Option Bool)=some _:=h
   obtain rfl:=Option.some.inj h
   exact gr 2 [] []
  ·obtain ⟨r,rfl⟩:∃ x,x=e0:=⟨_,rfl⟩
   replace h:(some r:Option Bool)=some _:=h
   exact Option.some.inj h
def Qjc (Γ:Gam) (rv:Bool) (cf:Cf):Prop:=Go Tryz.prog Tryz.f12 [] Γ (one (.bool rv)) [] cf
def QnT (Γ:Gam) (rv:Bool) (a:Qab) (b:Qab) (i:Int):Prop:=Qjc Γ rv ⟨[.c 116,.l 116,.b 0,.c 15],⟨81,[vP 2 0 6,vP 3 1 6,vI 5 i],[oX 6 30 (Qab.enc a),oX 6 30 (Qab.enc b)]⟩⟩
def QmO (Γ:Gam) (rv:Bool) (a:Qab) (b:Qab):Prop:=Qjc Γ rv ⟨[.c 15],⟨81,[vP 2 0 6,vP 3 1 6],[oX 6 30 (Qab.enc a),oX 6 30 (Qab.enc b)]⟩⟩
def QnU (Γ:Gam) (rv:Bool) (a:Qab) (b:Qab) (i1:Int):Prop:=Qjc Γ rv ⟨[.c 244,.l 244,.b 2,.c 31],⟨81,[vP 2 0 6,vP 3 1 6,vI 6 i1],[oX 6 30 (Qab.enc a),oX 6 30 (Qab.enc b)]⟩⟩
def QmP (Γ:Gam) (rv:Bool) (a:Qab) (b:Qab):Prop:=Qjc Γ rv ⟨[.c 31],⟨81,[vP 2 0 6,vP 3 1 6],[oX 6 30 (Qab.enc a),oX 6 30 (Qab.enc b)]⟩⟩
theorem Qtp (Γ:Gam) (rv:Bool) {a b} {s:Int} {e:(Unit)⊕(Bool)} (h:QaX (fun s=>Qdl a b s) s=some e) (hD:sel e (fun e=>QmO Γ rv a b) (fun e=>e=rv)):QnT Γ rv a b s:=by
 refine QaA (C:=fun (s:Int)=>QnT Γ rv a b s) (D:=fun (e:(Unit)⊕(Bool))=>sel e (fun e=>QmO Γ rv a b) (fun e=>e=rv)) ?_ h hD
 clear h hD s e
 intro i z_ h hI hE
 replace h:Qdl a b i=_:=h
 unfold Qdl at h
 rcases Qak h with ⟨h2,h⟩|⟨h2,h⟩
 ·obtain ⟨x0,h3,h⟩:=Qae h
  obtain ⟨x1,h4,h⟩:=Qae h
  obtain ⟨r1,h5,h⟩:=Qae h
  rcases Qak h with ⟨h6,h⟩|⟨h6,h⟩
  ·exact gn 14 [2,3,5] [0,1] [nL Qaf.enc a.types,bT h2,hH (.draw 12 []),cE Qaf.enc h3,cE Qaf.enc h4,cC (QpV h5),nF h6] (hI _ (oJ h))
  ·obtain rfl:=(hE _ (oJ h):_=rv)
   exact gr 12 [] [nL Qaf.enc a.types,bT h2,hH (.draw 12 []),cE Qaf.enc h3,cE Qaf.enc h4,cC (QpV h5),nT h6]
 ·exact gn 5 [2,3] [0,1] [nL Qaf.enc a.types,bF h2] (hE _ (oJ h))
theorem Qtq (Γ:Gam) (rv:Bool) {a b} {s:Int} {e:(Unit)⊕(Bool)} (h:QaX (fun s=>QcM a b s) s=some e) (hD:sel e (fun e=>QmP Γ rv a b) (fun e=>e=rv)):QnU Γ rv a b s:=by
 refine QaA (C:=fun (s:Int)=>QnU Γ rv a b s) (D:=fun (e:(Unit)⊕(Bool))=>sel e (fun e=>QmP Γ rv a b) (fun e=>e=rv)) ?_ h hD
 clear h hD s e
 intro i1 z_ h hI hE
 replace h:QcM a b i1=_:=h
 unfold QcM at h
 rcases Qak h with ⟨h8,h⟩|⟨h8,h⟩
 ·obtain ⟨x2,h9,h⟩:=Qae h
  obtain ⟨x3,h10,h⟩:=Qae h
  obtain ⟨r2,h11,h⟩:=Qae h
  rcases Qak h with ⟨h12,h⟩|⟨h12,h⟩
  ·exact gn 14 [2,3,6] [0,1] [nL Qac.enc a.orders,bT h8,hH (.draw 12 []),cE Qac.enc h9,cE Qac.enc h10,cC (QpY h11),nF h12] (hI _ (oJ h))
  ·obtain rfl:=(hE _ (oJ h):_=rv)
   exact gr 12 [] [nL Qac.enc a.orders,bT h8,hH (.draw 12 []),cE Qac.enc h9,cE Qac.enc h10,cC (QpY h11),nT h12]
 ·exact gn 5 [2,3] [0,1] [nL Qac.enc a.orders,bF h8] (hE _ (oJ h))
theorem QfL {a b} {rv:Bool} (h:Qd9 a b=some rv):AFn Tryz.prog 12 [.agg (Qab.enc a),.agg (Qab.enc b)] [] (one (.bool rv)) []:=by
 refine QaG Tryz.func12 (by kernel_rfl) (by kernel_rfl) (fun Γ=>?_)
 unfold Qd9 at h
 obtain ⟨r,h0,h⟩:=Qae h
 rcases Qak h with ⟨h1,h⟩|⟨h1,h⟩
 ·obtain rfl:=Option.some.inj h
  exact gr 8 [] [cC (QpZ h0),hP,hP,hP,rp 2 (oI ((!r)=false)),nL Qaf.enc a.types,hP,hP,hP,rp 2 (oI ((!r)=false)),nL Qaf.enc b.types,rp 5 hP,rp 2 (oI ((!r)=false)),oR True ((!r)=false),rp 2 (oI (((!r)||(neI (lenI a.types) (lenI b.types)))=false)),nL Qac.enc a.orders,hP,hP,hP,rp 2 (oI (((!r)||(neI (lenI a.types) (lenI b.types)))=false)),nL Qac.enc b.orders,hP,hP,rp 2 (oI (((!r)||(neI (lenI a.types) (lenI b.types)))=false)),oR True (((!r)||(neI (lenI a.types) (lenI b.types)))=false),bT h1]
 ·obtain ⟨e0,h7,h⟩:=Qae h
  refine gn 12 [2,3,5] [0,1] [cC (QpZ h0),hP,hP,hP,rp 2 (oI ((!r)=false)),nL Qaf.enc a.types,hP,hP,hP,rp 2 (oI ((!r)=false)),nL Qaf.enc b.types,rp 5 hP,rp 2 (oI ((!r)=false)),oR True ((!r)=false),rp 2 (oI (((!r)||(neI (lenI a.types) (lenI b.types)))=false)),nL Qac.enc a.orders,hP,hP,hP,rp 2 (oI (((!r)||(neI (lenI a.types) (lenI b.types)))=false)),nL Qac.enc b.orders,hP,hP,rp 2 (oI (((!r)||(neI (lenI a.types) (lenI b.types)))=false)),oR True (((!r)||(neI (lenI a.types) (lenI b.types)))=false),bF h1] (Qtp Γ rv h7 ?_)
  rcases e0 with e0|e0
  ·replace h:(bnd (QaX (fun s=>QcM a b s) 0) (fun e=>sel e (fun (_:Unit)=>bnd (QdP a.apart b.apart) fun r3=>br r3 (bnd (QdP a.before b.before) fun r4=>some r4) (some false)) (fun r5=>some r5)):Option Bool)=some _:=h
   obtain ⟨e1,h13,h⟩:=Qae h
   refine gn 5 [2,3,6] [0,1] [] (Qtq Γ rv h13 ?_)
   rcases e1 with e1|e1
   ·replace h:(bnd (QdP a.apart b.apart) fun r3=>br r3 (bnd (QdP a.before b.before) fun r4=>some r4) (some false):Option Bool)=some _:=h
    obtain ⟨r3,h14,h⟩:=Qae h
    rcases Qak h with ⟨h15,h⟩|⟨h15,h⟩
    ·obtain ⟨r4,h16,h⟩:=Qae h
     obtain rfl:=Option.some.inj h
     exact gr 2 [] [cC (Qj5 h14),rp 5 (bT h15),cC (Qj5 h16),bT h15]
    ·obtain rfl:=Option.some.inj h
     exact gr 2 [] [cC (Qj5 h14),rp 6 (bF h15)]
   ·obtain ⟨r5,rfl⟩:∃ x,x=e1:=⟨_,rfl⟩
    replace h:(some r5:Option Bool)=some _:=h
    exact Option.some.inj h
  ·obtain ⟨r6,rfl⟩:∃ x,x=e0:=⟨_,rfl⟩
   replace h:(some r6:Option Bool)=some _:=h
   exact Option.some.inj h
theorem QpL {x0} {rv:Bool} (h:Qgp x0=some rv):AFn Tryz.prog 3 [.agg (Qab.enc x0)] [] (one (.bool rv)) []:=by
 refine QaG Tryz.func3 (by kernel_rfl) (by kernel_rfl) (fun Γ=>?_)
 unfold Qgp at h
 obtain ⟨r,h0,h⟩:=Qae h
 rcases Qak h with ⟨h1,h⟩|⟨h1,h⟩
 ·obtain ⟨r1,h2,h⟩:=Qae h
  obtain ⟨r2,h3,h⟩:=Qae h
  obtain ⟨r3,h4,h⟩:=Qae h
  rcases Qak h with ⟨h5,h⟩|⟨h5,h⟩
  ·obtain ⟨r4,h6,h⟩:=Qae h
   obtain rfl:=Option.some.inj h
   exact gr 13 [] [cC (Qdc h0),nF h1,cC (Qk6 h2),cC (Qh1 h3),cC (QfL h4),rp 4 hP,rp 2 (oI (r3=true)),oR True (r3=true),bT h5,cC (Qfg h6),bT h5]
  ·obtain rfl:=Option.some.inj h
   exact gr 13 [] [cC (Qdc h0),nF h1,cC (Qk6 h2),cC (Qh1 h3),cC (QfL h4),rp 4 hP,rp 2 (oI (r3=true)),oR True (r3=true),bF h5,bF h5]
 ·obtain ⟨r5,h7,h⟩:=Qae h
  obtain rfl:=Option.some.inj h
  exact gr 8 [] [cC (Qdc h0),nT h1,cC (Qfg h7)]
theorem QcR {n p} {rv:Bool} (h:QgT n p=some rv):AFn Tryz.prog 90 [.agg (Qag.enc n),.one (lI p)] [] (one (.bool rv)) []:=by
 refine QaG Tryz.func90 (by kernel_rfl) (by kernel_rfl) (fun Γ=>?_)
 unfold QgT at h
 obtain rfl:=Option.some.inj h
 exact gr 4 [] [rp 4 hP,rp 2 (oI ((geI p 0)=true)),nL QeA n.places,hP,hP,rp 2 (oI ((geI p 0)=true)),oR True ((geI p 0)=true)]
def Qrb (Γ:Gam) (rv:Qai×Bool) (cf:Cf):Prop:=Go Tryz.prog Tryz.f91 [] Γ (.tup [.agg [lI rv.1.from_,lI rv.1.to_,lI rv.1.profile,lI rv.1.miles,lL 2 rv.1.travel Qal.enc,lL 2 rv.1.slow Qal.enc],.one (.bool rv.2)]) [] cf
def QnO (Γ:Gam) (rv:Qai×Bool) (n:Qag) (profile:Int) (from_:Int) (to_:Int) (i:Int):Prop:=Qrb Γ rv ⟨[.c 52,.l 52,.b 0,.c 7],⟨42,[vI 1 profile,vI 2 from_,vI 3 to_,vP 4 0 2,vP 8 1 6,vI 10 i],[oX 2 25 (Qag.enc n),oX 6 59 [lI 0,lI 0,lI 0,lI 0,.nils,.nils]]⟩⟩
def QmD (Γ:Gam) (rv:Qai×Bool) (n:Qag) (profile:Int) (from_:Int) (to_:Int):Prop:=Qrb Γ rv ⟨[.c 7],⟨42,[vP 8 0 6],[oX 6 59 [lI 0,lI 0,lI 0,lI 0,.nils,.nils]]⟩⟩
theorem Qtl (Γ:Gam) (rv:Qai×Bool) {n profile from_ to_} {s:Int} {e:(Unit)⊕(Qai×Bool)} (h:QaX (fun s=>QfJ n profile from_ to_ s) s=some e) (hD:sel e (fun e=>QmD Γ rv n profile from_ to_) (fun e=>e=rv)):QnO Γ rv n profile from_ to_ s:=by
 refine QaA (C:=fun (s:Int)=>QnO Γ rv n profile from_ to_ s) (D:=fun (e:(Unit)⊕(Qai×Bool))=>sel e (fun e=>QmD Γ rv n profile from_ to_) (fun e=>e=rv)) ?_ h hD
 clear h hD s e
 intro i z_ h hI hE
 replace h:QfJ n profile from_ to_ i=_:=h
 unfold QfJ at h
 rcases Qak h with ⟨h0,h⟩|⟨h0,h⟩
 ·obtain ⟨x0,h1,h⟩:=Qae h
  rcases Qak h with ⟨h2,h⟩|⟨h2,h⟩
  ·obtain rfl:=(hE _ (oJ h):_=rv)
   exact gr 14 [] [nL Qai.enc n.arcs,bT h0,cE Qai.enc h1,rp 10 hP,rp 3 (oI ((eqI x0.from_ from_)=true)),oR True ((eqI x0.from_ from_)=true),rp 3 (oI (((eqI x0.from_ from_)&&(eqI x0.to_ to_))=true)),oR True (((eqI x0.from_ from_)&&(eqI x0.to_ to_))=true),bT h2]
  ·exact gn 16 [1,2,3,4,8,10] [0,1] [nL Qai.enc n.arcs,bT h0,cE Qai.enc h1,rp 10 hP,rp 3 (oI ((eqI x0.from_ from_)=true)),oR True ((eqI x0.from_ from_)=true),rp 3 (oI (((eqI x0.from_ from_)&&(eqI x0.to_ to_))=true)),oR True (((eqI x0.from_ from_)&&(eqI x0.to_ to_))=true),bF h2] (hI _ (oJ h))
 ·exact gn 5 [8] [1] [nL Qai.enc n.arcs,bF h0] (hE _ (oJ h))
theorem QpQ {n profile from_ to_} {rv:Qai×Bool} (h:QiS n profile from_ to_=some rv):AFn Tryz.prog 91 [.agg (Qag.enc n),.one (lI profile),.one (lI from_),.one (lI to_)] [] (.tup [.agg [lI rv.1.from_,lI rv.1.to_,lI rv.1.profile,lI rv.1.miles,lL 2 rv.1.travel Qal.enc,lL 2 rv.1.slow Qal.enc],.one (.bool rv.2)]) []:=by
 refine QaG Tryz.func91 (by kernel_rfl) (by kernel_rfl) (fun Γ=>?_)
 unfold QiS at h
 obtain ⟨e0,h3,h⟩:=Qae h
 refine gn 7 [1,2,3,4,8,10] [0,1] [] (Qtl Γ rv h3 ?_)
 rcases e0 with e0|e0
 ·replace h:(some ((Qai.mk 0 0 0 0 [] []),false):Option (Qai×Bool))=some _:=h
  obtain rfl:=Option.some.inj h
  exact gr 2 [] [hW 5,hH (.nilB 0 4 2),hH (.nilB 0 5 2)]
 ·obtain ⟨r,rfl⟩:∃ x,x=e0:=⟨_,rfl⟩
  replace h:(some r:Option (Qai×Bool))=some _:=h
  exact Option.some.inj h
theorem Qsl {n profile from_ to_ t} {rv:Int×Int×Int} (h:Qlp n profile from_ to_ t=some rv):AFn Tryz.prog 62 [.agg (Qag.enc n),.one (lI profile),.one (lI from_),.one (lI to_),.one (lI t)] [] (.tup [.one (lI rv.1),.one (lI rv.2.1),.one (lI rv.2.2)]) []:=by
 refine QaG Tryz.func62 (by kernel_rfl) (by kernel_rfl) (fun Γ=>?_)
 unfold Qlp at h
 obtain ⟨r,h0,h⟩:=Qae h
 rcases Qak h with ⟨h1,h⟩|⟨h1,h⟩
 ·obtain ⟨r1,h2,h⟩:=Qae h
  rcases Qak h with ⟨h3,h⟩|⟨h3,h⟩
  ·rcases Qak h with ⟨h4,h⟩|⟨h4,h⟩
   ·obtain rfl:=Option.some.inj h
    exact gr 13 [] [cC (QcR h0),rp 3 (nF h1),cC (QcR h2),nF h1,nF h1,nF h3,bT h4]
   ·obtain ⟨r2,h5,h⟩:=Qae h
    rcases Qak h with ⟨h6,h⟩|⟨h6,h⟩
    ·obtain ⟨r3,h7,h⟩:=Qae h
     obtain rfl:=Option.some.inj h
     exact gr 21 [] [cC (QcR h0),rp 3 (nF h1),cC (QcR h2),nF h1,nF h1,nF h3,bF h4,cC (QpQ h5),nF h6,hH (.draw 8 []),cC (Qhk h7)]
    ·obtain rfl:=Option.some.inj h
     exact gr 20 [] [cC (QcR h0),rp 3 (nF h1),cC (QcR h2),nF h1,nF h1,nF h3,bF h4,cC (QpQ h5),nT h6]
  ·obtain rfl:=Option.some.inj h
   exact gr 8 [] [cC (QcR h0),rp 3 (nF h1),cC (QcR h2),nF h1,nF h1,nT h3]
 ·obtain rfl:=Option.some.inj h
  exact gr 8 [] [cC (QcR h0),rp 5 (nT h1),tT]
def QoR (Γ:Gam) (rv:Bool) (cf:Cf):Prop:=Go Tryz.prog Tryz.f36 [] Γ (one (.bool rv)) [] cf
def QlZ (Γ:Gam) (rv:Bool) (x0:Qab) (c:Qai) (i:Int):Prop:=QoR Γ rv ⟨[.c 52,.l 52,.b 0,.c 7],⟨59,[vP 2 0 6,vP 3 1 6,vI 5 i],[oX 6 30 (Qab.enc x0),oX 6 59 (Qai.enc c)]⟩⟩
def QkB (Γ:Gam) (rv:Bool) (x0:Qab) (c:Qai):Prop:=QoR Γ rv ⟨[.c 7],⟨59,[],[]⟩⟩
theorem QrV (Γ:Gam) (rv:Bool) {x0 c} {s:Int} {e:(Unit)⊕(Bool)} (h:QaX (fun s=>QcG x0 c s) s=some e) (hD:sel e (fun e=>QkB Γ rv x0 c) (fun e=>e=rv)):QlZ Γ rv x0 c s:=by
 refine QaA (C:=fun (s:Int)=>QlZ Γ rv x0 c s) (D:=fun (e:(Unit)⊕(Bool))=>sel e (fun e=>QkB Γ rv x0 c) (fun e=>e=rv)) ?_ h hD
 clear h hD s e
 intro i z_ h hI hE
 replace h:QcG x0 c i=_:=h
 unfold QcG at h
 rcases Qak h with ⟨h0,h⟩|⟨h0,h⟩
 ·obtain ⟨x1,h1,h⟩:=Qae h
  obtain ⟨r,h2,h⟩:=Qae h
  rcases Qak h with ⟨h3,h⟩|⟨h3,h⟩
  ·exact gn 18 [2,3,5] [0,1] [nL Qaf.enc x0.types,bT h0,cE Qaf.enc h1,cC (Qgt h2),hP,hP,hP,oI ((neI x1.profile c.profile)=false),oR True ((neI x1.profile c.profile)=false),bT h3] (hI _ (oJ h))
  ·obtain ⟨r1,h4,h⟩:=Qae h
   rcases Qak h with ⟨h5,h⟩|⟨h5,h⟩
   ·obtain rfl:=(hE _ (oJ h):_=rv)
    exact gr 23 [] [nL Qaf.enc x0.types,bT h0,cE Qaf.enc h1,cC (Qgt h2),hP,hP,hP,oI ((neI x1.profile c.profile)=false),oR True ((neI x1.profile c.profile)=false),bF h3,cC (Qsl h4),rp 5 hP,rp 3 (oI ((eqI r1.2.2 0)=true)),oR True ((eqI r1.2.2 0)=true),bT h5]
   ·exact gn 25 [2,3,5] [0,1] [nL Qaf.enc x0.types,bT h0,cE Qaf.enc h1,cC (Qgt h2),hP,hP,hP,oI ((neI x1.profile c.profile)=false),oR True ((neI x1.profile c.profile)=false),bF h3,cC (Qsl h4),rp 5 hP,rp 3 (oI ((eqI r1.2.2 0)=true)),oR True ((eqI r1.2.2 0)=true),bF h5] (hI _ (oJ h))
 ·exact gn 5 [] [] [nL Qaf.enc x0.types,bF h0] (hE _ (oJ h))
theorem Qn0 {x0 c} {rv:Bool} (h:QhB x0 c=some rv):AFn Tryz.prog 36 [.agg (Qab.enc x0),.agg (Qai.enc c)] [] (one (.bool rv)) []:=by
 refine QaG Tryz.func36 (by kernel_rfl) (by kernel_rfl) (fun Γ=>?_)
 unfold QhB at h
 obtain ⟨e0,h6,h⟩:=Qae h
 refine gn 7 [2,3,5] [0,1] [] (QrV Γ rv h6 ?_)
 rcases e0 with e0|e0
 ·replace h:(some false:Option Bool)=some _:=h
  obtain rfl:=Option.some.inj h
  exact gr 2 [] []
 ·obtain ⟨r2,rfl⟩:∃ x,x=e0:=⟨_,rfl⟩
  replace h:(some r2:Option Bool)=some _:=h
  exact Option.some.inj h
def Qrf (Γ:Gam) (rv:Qab×Int) (cf:Cf):Prop:=Go Tryz.prog Tryz.f14 [] Γ (.tup [.agg [lL 1 rv.1.net.places QeA,lL 6 rv.1.net.arcs Qai.enc,lL 14 rv.1.types Qaf.enc,lL 16 rv.1.orders Qac.enc,lL 2 rv.1.apart Qav.enc,lL 2 rv.1.before Qav.enc],.one (lI rv.2)]) [] cf
def QnX (Γ:Gam) (rv:Qab×Int) (x0:Qab) (l:List Qai) (i:Int):Prop:=Qrf Γ rv ⟨[.c 500,.l 500,.b 0,.c 63],⟨44,[vP 1 0 6,vP 2 1 6,vP 4 2 6,vI 5 i],[oX 6 30 (Qab.enc x0),oX 6 30 [.nils,.nils,.nils,.nils,.nils,.nils],oX 6 30 [lL 1 x0.net.places QeA,lO 3 6 l Qai.enc,lL 14 x0.types Qaf.enc,lL 16 x0.orders Qac.enc,lL 2 x0.apart Qav.enc,lL 2 x0.before Qav.enc],oS 6 59 l Qai.enc]⟩⟩
def QmT (Γ:Gam) (rv:Qab×Int) (x0:Qab) (l1:List Qai):Prop:=Qrf Γ rv ⟨[.c 63],⟨44,[vP 2 0 6,vP 4 1 6],[oX 6 30 [.nils,.nils,.nils,.nils,.nils,.nils],oX 6 30 [lL 1 x0.net.places QeA,lO 2 6 l1 Qai.enc,lL 14 x0.types Qaf.enc,lL 16 x0.orders Qac.enc,lL 2 x0.apart Qav.enc,lL 2 x0.before Qav.enc],oS 6 59 l1 Qai.enc]⟩⟩
theorem Qtt (Γ:Gam) (rv:Qab×Int) {x0} {s:List Qai×Int} {e:List Qai} (h:QaX (fun s=>Qdn x0 s.1 s.2) s=some e) (hD:QmT Γ rv x0 e):QnX Γ rv x0 s.1 s.2:=by
 refine QaA (C:=fun (s:List Qai×Int)=>QnX Γ rv x0 s.1 s.2) (D:=fun (e:List Qai)=>QmT Γ rv x0 e) ?_ h hD
 clear h hD s e
 rintro ⟨l,i⟩ z_ h hI hE
 replace h:Qdn x0 l i=_:=h
 unfold Qdn at h
 rcases Qak h with ⟨h2,h⟩|⟨h2,h⟩
 ·obtain ⟨x1,h3,h⟩:=Qae h
  obtain ⟨r1,h4,h⟩:=Qae h
  rcases Qak h with ⟨h5,h⟩|⟨h5,h⟩
  ·obtain ⟨h6,h⟩:=Qat h
   exact gn 14 [1,2,4,5] [0,1,2,5] [nL Qai.enc x0.net.arcs,bT h2,hH (.draw 8 []),cE Qai.enc h3,cC (Qn0 h4),bT h5,hH (.draw 10 []),cE Qai.enc h3,oO (Eq.refl ([x1].map Qai.enc).length),aO Qai.enc h6] (hI _ (oJ h))
  ·exact gn 14 [1,2,4,5] [0,1,2,3] [nL Qai.enc x0.net.arcs,bT h2,hH (.draw 8 []),cE Qai.enc h3,cC (Qn0 h4),bF h5] (hI _ (oJ h))
 ·exact gn 5 [2,4] [1,2,3] [nL Qai.enc x0.net.arcs,bF h2] (hE _ (oJ h))
theorem QkV {x0} {rv:Qab×Int} (h:Qea x0=some rv):AFn Tryz.prog 14 [.agg (Qab.enc x0)] [] (.tup [.agg [lL 1 rv.1.net.places QeA,lL 6 rv.1.net.arcs Qai.enc,lL 14 rv.1.types Qaf.enc,lL 16 rv.1.orders Qac.enc,lL 2 rv.1.apart Qav.enc,lL 2 rv.1.before Qav.enc],.one (lI rv.2)]) []:=by
 refine QaG Tryz.func14 (by kernel_rfl) (by kernel_rfl) (fun Γ=>?_)
 unfold Qea at h
 obtain ⟨r,h0,h⟩:=Qae h
 rcases Qak h with ⟨h1,h⟩|⟨h1,h⟩
 ·obtain rfl:=Option.some.inj h
  exact gr 8 [] [cC (Qh0 h0),nL Qaa.enc r,bT h1,hW 5,hH (.nilB 1 0 1),hH (.nilB 1 1 6),hH (.nilB 1 2 14),hH (.nilB 1 3 16),hH (.nilB 1 4 2),hH (.nilB 1 5 2)]
 ·obtain ⟨e0,h7,h⟩:=Qae h
  refine gn 16 [1,2,4,5] [0,1,2,3] [cC (Qh0 h0),nL Qaa.enc r,bF h1,hW 17,hH (.adoptB 2 1 6 59)] (Qtt Γ rv h7 ?_)
  obtain ⟨l1,rfl⟩:∃ x,x=e0:=⟨_,rfl⟩
  replace h:(some ((Qab.mk (Qag.mk x0.net.places l1) x0.types x0.orders x0.apart x0.before),0):Option (Qab×Int))=some _:=h
  obtain rfl:=Option.some.inj h
  exact gr 2 [] [hW 5,hH (.frz 2),rp 3 (eL l1 Qai.enc)]
theorem QqG {x0} {rv:Bool} (h:QgN x0=some rv):AFn Tryz.prog 4 [.agg (Qab.enc x0)] [] (one (.bool rv)) []:=by
 refine QaG Tryz.func4 (by kernel_rfl) (by kernel_rfl) (fun Γ=>?_)
 unfold QgN at h
 obtain ⟨r,h0,h⟩:=Qae h
 rcases Qak h with ⟨h1,h⟩|⟨h1,h⟩
 ·obtain ⟨r1,h2,h⟩:=Qae h
  obtain ⟨r2,h3,h⟩:=Qae h
  obtain ⟨r3,h4,h⟩:=Qae h
  rcases Qak h with ⟨h5,h⟩|⟨h5,h⟩
  ·obtain ⟨r4,h6,h⟩:=Qae h
   obtain rfl:=Option.some.inj h
   exact gr 13 [] [cC (Qdc h0),nF h1,cC (QqN h2),cC (QkV h3),cC (QfL h4),rp 4 hP,rp 2 (oI (r3=true)),oR True (r3=true),bT h5,cC (Qfg h6),bT h5]
  ·obtain rfl:=Option.some.inj h
   exact gr 13 [] [cC (Qdc h0),nF h1,cC (QqN h2),cC (QkV h3),cC (QfL h4),rp 4 hP,rp 2 (oI (r3=true)),oR True (r3=true),bF h5,bF h5]
 ·obtain ⟨r5,h7,h⟩:=Qae h
  obtain rfl:=Option.some.inj h
  exact gr 8 [] [cC (Qdc h0),nT h1,cC (Qfg h7)]
theorem Qf0 {x0} {rv:Qab×Int} (h:QeC x0=some rv):AFn Tryz.prog 18 [.agg (Qab.enc x0)] [] (.tup [.agg [lL 1 rv.1.net.places QeA,lL 6 rv.1.net.arcs Qai.enc,lL 14 rv.1.types Qaf.enc,lL 16 rv.1.orders Qac.enc,lL 2 rv.1.apart Qav.enc,lL 2 rv.1.before Qav.enc],.one (lI rv.2)]) []:=by
 refine QaG Tryz.func18 (by kernel_rfl) (by kernel_rfl) (fun Γ=>?_)
 unfold QeC at h
 obtain ⟨r,h0,h⟩:=Qae h
 rcases Qak h with ⟨h1,h⟩|⟨h1,h⟩
 ·obtain rfl:=Option.some.inj h
  exact gr 10 [] [cC (Qh1 h0),bT h1,hW 6,hH (.nilB 1 0 1),hH (.nilB 1 1 6),hH (.nilB 1 2 14),hH (.nilB 1 3 16),hH (.nilB 1 4 2),hH (.nilB 1 5 2)]
 ·obtain ⟨r1,h2,h⟩:=Qae h
  obtain rfl:=Option.some.inj h
  exact gr 11 [] [cC (Qh1 h0),bF h1,cC (QkV h2)]
def Qp3 (Γ:Gam) (rv:Int) (cf:Cf):Prop:=Go Tryz.prog Tryz.f38 [] Γ (one (lI rv)) [] cf
def QmY (Γ:Gam) (rv:Int) (x0:Qab) (n:Int) (i:Int):Prop:=Qp3 Γ rv ⟨[.c 116,.l 116,.b 0,.c 15],⟨36,[vP 1 0 6,vI 3 n,vI 4 i],[oX 6 30 (Qab.enc x0)]⟩⟩
def Ql0 (Γ:Gam) (rv:Int) (x0:Qab) (n1:Int):Prop:=Qp3 Γ rv ⟨[.c 15],⟨36,[vI 3 n1],[]⟩⟩
theorem Qsx (Γ:Gam) (rv:Int) {x0} {s:Int×Int} {e:Int} (h:QaX (fun s=>Qer x0 s.1 s.2) s=some e) (hD:Ql0 Γ rv x0 e):QmY Γ rv x0 s.1 s.2:=by
 refine QaA (C:=fun (s:Int×Int)=>QmY Γ rv x0 s.1 s.2) (D:=fun (e:Int)=>Ql0 Γ rv x0 e) ?_ h hD
 clear h hD s e
 rintro ⟨n,i⟩ z_ h hI hE
 replace h:Qer x0 n i=_:=h
 unfold Qer at h
 rcases Qak h with ⟨h0,h⟩|⟨h0,h⟩
 ·obtain ⟨x1,h1,h⟩:=Qae h
  exact gn 13 [1,3,4] [0] [nL Qac.enc x0.orders,bT h0,cE Qac.enc h1] (hI _ (oJ h))
 ·exact gn 5 [3] [] [nL Qac.enc x0.orders,bF h0] (hE _ (oJ h))
theorem QoS {x0} {rv:Int} (h:Qe5 x0=some rv):AFn Tryz.prog 38 [.agg (Qab.enc x0)] [] (one (lI rv)) []:=by
 refine QaG Tryz.func38 (by kernel_rfl) (by kernel_rfl) (fun Γ=>?_)
 unfold Qe5 at h
 obtain ⟨e0,h2,h⟩:=Qae h
 refine gn 9 [1,3,4] [0] [] (Qsx Γ rv h2 ?_)
 obtain ⟨n1,rfl⟩:∃ x,x=e0:=⟨_,rfl⟩
 replace h:(some n1:Option Int)=some _:=h
 obtain rfl:=Option.some.inj h
 exact gr 2 [] []
theorem Qj7 {x0} {rv:Int×Int×Int} (h:Qia x0=some rv):AFn Tryz.prog 16 [.agg (Qab.enc x0)] [] (.tup [.one (lI rv.1),.one (lI rv.2.1),.one (lI rv.2.2)]) []:=by
 refine QaG Tryz.func16 (by kernel_rfl) (by kernel_rfl) (fun Γ=>?_)
 unfold Qia at h
 obtain ⟨r,h0,h⟩:=Qae h
 rcases Qak h with ⟨h1,h⟩|⟨h1,h⟩
 ·obtain rfl:=Option.some.inj h
  exact gr 10 [] [cC (Qf0 h0),bT h1]
 ·obtain ⟨r1,h2,h⟩:=Qae h
  obtain ⟨r2,h3,h⟩:=Qae h
  obtain rfl:=Option.some.inj h
  exact gr 11 [] [cC (Qf0 h0),bF h1,hH (.draw 17 []),cC (QoS h2),cC (QoS h3),nL Qai.enc x0.net.arcs,nL Qai.enc r.1.net.arcs]
theorem QpK {x0} {rv:Bool} (h:Qgo x0=some rv):AFn Tryz.prog 5 [.agg (Qab.enc x0)] [] (one (.bool rv)) []:=by
 refine QaG Tryz.func5 (by kernel_rfl) (by kernel_rfl) (fun Γ=>?_)
 unfold Qgo at h
 obtain ⟨r,h0,h⟩:=Qae h
 rcases Qak h with ⟨h1,h⟩|⟨h1,h⟩
 ·obtain ⟨r1,h2,h⟩:=Qae h
  obtain ⟨r2,h3,h⟩:=Qae h
  obtain ⟨r3,h4,h⟩:=Qae h
  obtain ⟨r4,h5,h⟩:=Qae h
  rcases Qak h with ⟨h6,h⟩|⟨h6,h⟩
  ·obtain ⟨r5,h7,h⟩:=Qae h
   rcases Qak h with ⟨h8,h⟩|⟨h8,h⟩
   ·obtain ⟨r6,h9,h⟩:=Qae h
    obtain rfl:=Option.some.inj h
    exact gr 17 [] [cC (Qdc h0),nF h1,cC (QhN h2),cC (Qj7 h3),cC (Qe7 h4),cC (Qf0 h5),rp 8 hP,rp 2 (oI ((eqI r1.1 r2.1)=true)),oR True ((eqI r1.1 r2.1)=true),rp 2 (oI (((eqI r1.1 r2.1)&&(eqI r1.2.1 r2.2.1))=true)),oR True (((eqI r1.1 r2.1)&&(eqI r1.2.1 r2.2.1))=true),rp 3 (bT h6),cC (QfL h7),bT h6,rp 4 hP,rp 2 (oI (r5=true)),oR True (r5=true),bT h8,cC (Qfg h9),bT h8]
   ·obtain rfl:=Option.some.inj h
    exact gr 17 [] [cC (Qdc h0),nF h1,cC (QhN h2),cC (Qj7 h3),cC (Qe7 h4),cC (Qf0 h5),rp 8 hP,rp 2 (oI ((eqI r1.1 r2.1)=true)),oR True ((eqI r1.1 r2.1)=true),rp 2 (oI (((eqI r1.1 r2.1)&&(eqI r1.2.1 r2.2.1))=true)),oR True (((eqI r1.1 r2.1)&&(eqI r1.2.1 r2.2.1))=true),rp 3 (bT h6),cC (QfL h7),bT h6,rp 4 hP,rp 2 (oI (r5=true)),oR True (r5=true),bF h8,bF h8]
  ·obtain rfl:=Option.some.inj h
   exact gr 17 [] [cC (Qdc h0),nF h1,cC (QhN h2),cC (Qj7 h3),cC (Qe7 h4),cC (Qf0 h5),rp 8 hP,rp 2 (oI ((eqI r1.1 r2.1)=true)),oR True ((eqI r1.1 r2.1)=true),rp 2 (oI (((eqI r1.1 r2.1)&&(eqI r1.2.1 r2.2.1))=true)),oR True (((eqI r1.1 r2.1)&&(eqI r1.2.1 r2.2.1))=true),rp 4 (bF h6),rp 6 fF]
 ·obtain ⟨r7,h10,h⟩:=Qae h
  obtain rfl:=Option.some.inj h
  exact gr 8 [] [cC (Qdc h0),nT h1,cC (Qfg h10)]
end Go.Proofs.YtbilkblifgaflaaGreatDoor
