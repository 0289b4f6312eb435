/- Part MU of the proof: texts K0. -/
import Derived.Test.YtbilkblifgaflaaGreatDoorMT
import Derived.Test.YtbilkblifgaflaaGreatDoorMC
import Derived.Test.YtbilkblifgaflaaGreatDoorProg
namespace Go.Proofs.YtbilkblifgaflaaGreatDoor
set_option linter.unusedVariables false
set_option linter.unusedSectionVars false
set_option linter.unusedSimpArgs false
set_option maxHeartbeats 4000000
set_option maxRecDepth 100000
def Qsh (Γ:Gam) (rv:Bool) (cf:Cf):Prop:=Go Tryz.prog Tryz.f8 [] Γ (one (.bool rv)) [] cf
def QoK (Γ:Gam) (rv:Bool) (x0:Qab) (i:Int):Prop:=Qsh Γ rv ⟨[.c 116,.l 116,.b 0,.c 15],⟨56,[vP 1 0 6,vI 3 i],[oX 6 30 (Qab.enc x0)]⟩⟩
def QnM (Γ:Gam) (rv:Bool) (x0:Qab):Prop:=Qsh Γ rv ⟨[.c 15],⟨56,[],[]⟩⟩
theorem QtY (Γ:Gam) (rv:Bool) {x0} {s:Int} {e:(Unit)⊕(Bool)} (h:QaX (fun s=>QdX x0 s) s=some e) (hD:sel e (fun e=>QnM Γ rv x0) (fun e=>e=rv)):QoK Γ rv x0 s:=by
 refine QaA (C:=fun (s:Int)=>QoK Γ rv x0 s) (D:=fun (e:(Unit)⊕(Bool))=>sel e (fun e=>QnM Γ rv x0) (fun e=>e=rv)) ?_ h hD
 clear h hD s e
 intro i z_ h hI hE
 replace h:QdX x0 i=_:=h
 unfold QdX at h
 rcases Qak h with ⟨h1,h⟩|⟨h1,h⟩
 ·obtain ⟨x1,h2,h⟩:=Qae h
  rcases Qak h with ⟨h3,h⟩|⟨h3,h⟩
  ·obtain rfl:=(hE _ (oJ h):_=rv)
   exact gr 12 [] [nL Qai.enc x0.net.arcs,bT h1,cE Qai.enc h2,nL Qal.enc x1.travel,rp 10 (bT h3),tT]
  ·rcases Qak h with ⟨h4,h⟩|⟨h4,h⟩
   ·obtain rfl:=(hE _ (oJ h):_=rv)
    exact gr 12 [] [nL Qai.enc x0.net.arcs,bT h1,cE Qai.enc h2,nL Qal.enc x1.travel,rp 5 (bF h3),cE Qai.enc h2,rp 3 (bF h3),nL Qal.enc x1.slow,bF h3,bF h3,bT h4]
   ·exact gn 14 [1,3] [0] [nL Qai.enc x0.net.arcs,bT h1,cE Qai.enc h2,nL Qal.enc x1.travel,rp 5 (bF h3),cE Qai.enc h2,rp 3 (bF h3),nL Qal.enc x1.slow,bF h3,bF h3,bF h4] (hI _ (oJ h))
 ·exact gn 5 [] [] [nL Qai.enc x0.net.arcs,bF h1] (hE _ (oJ h))
theorem Qdc {x0} {rv:Bool} (h:Qhh x0=some rv):AFn Tryz.prog 8 [.agg (Qab.enc x0)] [] (one (.bool rv)) []:=by
 refine QaG Tryz.func8 (by kernel_rfl) (by kernel_rfl) (fun Γ=>?_)
 unfold Qhh at h
 rcases Qak h with ⟨h0,h⟩|⟨h0,h⟩
 ·obtain rfl:=Option.some.inj h
  exact gr 8 [] [nL Qac.enc x0.orders,hP,hP,hP,rp 2 (oI ((gtI (lenI x0.orders) 3)=false)),nL Qaf.enc x0.types,rp 6 hP,oI ((gtI (lenI x0.orders) 3)=false),oR True ((gtI (lenI x0.orders) 3)=false),rp 3 (oI (((gtI (lenI x0.orders) 3)||(gtI (lenI x0.types) 3))=false)),nL QeA x0.net.places,rp 6 hP,oI (((gtI (lenI x0.orders) 3)||(gtI (lenI x0.types) 3))=false),oR True (((gtI (lenI x0.orders) 3)||(gtI (lenI x0.types) 3))=false),rp 3 (oI ((((gtI (lenI x0.orders) 3)||(gtI (lenI x0.types) 3))||(gtI (lenI x0.net.places) 6))=false)),nL Qai.enc x0.net.arcs,hP,hP,oI ((((gtI (lenI x0.orders) 3)||(gtI (lenI x0.types) 3))||(gtI (lenI x0.net.places) 6))=false),oR True ((((gtI (lenI x0.orders) 3)||(gtI (lenI x0.types) 3))||(gtI (lenI x0.net.places) 6))=false),bT h0]
 ·obtain ⟨e0,h5,h⟩:=Qae h
  refine gn 12 [1,3] [0] [nL Qac.enc x0.orders,hP,hP,hP,rp 2 (oI ((gtI (lenI x0.orders) 3)=false)),nL Qaf.enc x0.types,rp 6 hP,oI ((gtI (lenI x0.orders) 3)=false),oR True ((gtI (lenI x0.orders) 3)=false),rp 3 (oI (((gtI (lenI x0.orders) 3)||(gtI (lenI x0.types) 3))=false)),nL QeA x0.net.places,rp 6 hP,oI (((gtI (lenI x0.orders) 3)||(gtI (lenI x0.types) 3))=false),oR True (((gtI (lenI x0.orders) 3)||(gtI (lenI x0.types) 3))=false),rp 3 (oI ((((gtI (lenI x0.orders) 3)||(gtI (lenI x0.types) 3))||(gtI (lenI x0.net.places) 6))=false)),nL Qai.enc x0.net.arcs,hP,hP,oI ((((gtI (lenI x0.orders) 3)||(gtI (lenI x0.types) 3))||(gtI (lenI x0.net.places) 6))=false),oR True ((((gtI (lenI x0.orders) 3)||(gtI (lenI x0.types) 3))||(gtI (lenI x0.net.places) 6))=false),bF h0] (QtY Γ rv h5 ?_)
  rcases e0 with e0|e0
  ·replace h:(some true:Option Bool)=some _:=h
   obtain rfl:=Option.some.inj h
   exact gr 2 [] []
  ·obtain ⟨r,rfl⟩:∃ x,x=e0:=⟨_,rfl⟩
   replace h:(some r:Option Bool)=some _:=h
   exact Option.some.inj h
theorem Qha {n} {rv:List Qaa} (h:Qbf n=some rv):AFn Tryz.prog 112 [.one (.nils),.one (lI n)] [] (one (lO 0 2 rv Qaa.enc)) [oS 2 104 rv Qaa.enc]:=by
 refine QaG Tryz.func112 (by kernel_rfl) (by kernel_rfl) (fun Γ=>?_)
 unfold Qbf at h
 rcases Qak h with ⟨h0,h⟩|⟨h0,h⟩
 ·cases h
 ·rcases Qak h with ⟨h1,h⟩|⟨h1,h⟩
  ·obtain ⟨l,h2,h⟩:=Qae h
   obtain ⟨l1,h3,h⟩:=Qae h
   obtain rfl:=Option.some.inj h
   exact gr 16 [0] [bF h0,bT h1,hH (.cells [lI 0,.str ByteArray.empty]),rp 3 (oO (Int.le_refl 0)),hH (.rows (l.map Qaa.enc)),oO (mk1 h2),oO (mk3 h2),oO (mk4 h2),oO (mk5 Qaa.enc h2),eL l Qaa.enc,hH (.rows (l1.map Qaa.enc)),oO (sl2 h3),oO (sl3 Qaa.enc h3),oO (sl6c Qaa.enc h3)]
  ·obtain rfl:=Option.some.inj h
   exact gr 16 [0] [bF h0,bF h1,hW 5,hH (.adopt 4 2 104)]
def Qcs (Γ:Gam) (rv:List Qaa) (cf:Cf):Prop:=Go Tryz.prog Tryz.f76 [] Γ (one (lL 2 rv Qaa.enc)) [] cf
def QeV (Γ:Gam) (rv:List Qaa) (slices:List (List Qaa)) (size:Int) (v:Int):Prop:=Qcs Γ rv ⟨[.c 116,.l 116,.b 0,.c 15],⟨36,[vL 0 1 slices es_T_api_Fault.enc,vI 3 size,vL 9 1 slices es_T_api_Fault.enc,vI 10 (lenI slices),vI 11 v],[]⟩⟩
def QeL (Γ:Gam) (rv:List Qaa) (slices:List (List Qaa)) (size1:Int):Prop:=Qcs Γ rv ⟨[.c 15],⟨36,[vL 0 1 slices es_T_api_Fault.enc,vI 3 size1],[]⟩⟩
def QeW (Γ:Gam) (rv:List Qaa) (slices:List (List Qaa)) (l:List Qaa) (v1:Int):Prop:=Qcs Γ rv ⟨[.c 500,.l 500,.b 2,.c 63],⟨36,[vO 6 0 2 l Qaa.enc,vL 25 1 slices es_T_api_Fault.enc,vI 26 (lenI slices),vI 27 v1],[oS 2 104 l Qaa.enc]⟩⟩
def QeM (Γ:Gam) (rv:List Qaa) (slices:List (List Qaa)) (l1:List Qaa):Prop:=Qcs Γ rv ⟨[.c 63],⟨36,[vO 6 0 2 l1 Qaa.enc],[oS 2 104 l1 Qaa.enc]⟩⟩
theorem QhT (Γ:Gam) (rv:List Qaa) {slices} {s:Int×Int} {e:Int} (h:QaX (fun s=>QaO slices s.1 s.2) s=some e) (hD:QeL Γ rv slices e):QeV Γ rv slices s.1 s.2:=by
 refine QaA (C:=fun (s:Int×Int)=>QeV Γ rv slices s.1 s.2) (D:=fun (e:Int)=>QeL Γ rv slices e) ?_ h hD
 clear h hD s e
 rintro ⟨size,v⟩ z_ h hI hE
 replace h:QaO slices size v=_:=h
 unfold QaO at h
 rcases Qak h with ⟨h0,h⟩|⟨h0,h⟩
 ·obtain ⟨x0,h1,h⟩:=Qae h
  rcases Qak h with ⟨h2,h⟩|⟨h2,h⟩
  ·cases h
  ·exact gn 18 [0,3,9,10,11] [] [bT h0,cE es_T_api_Fault.enc h1,nL Qaa.enc x0,bF h2] (hI _ (oJ h))
 ·exact gn 5 [0,3] [] [bF h0] (hE _ (oJ h))
theorem QhU (Γ:Gam) (rv:List Qaa) {slices} {s:List Qaa×Int} {e:List Qaa} (h:QaX (fun s=>QaK slices s.1 s.2) s=some e) (hD:QeM Γ rv slices e):QeW Γ rv slices s.1 s.2:=by
 refine QaA (C:=fun (s:List Qaa×Int)=>QeW Γ rv slices s.1 s.2) (D:=fun (e:List Qaa)=>QeM Γ rv slices e) ?_ h hD
 clear h hD s e
 rintro ⟨l,v1⟩ z_ h hI hE
 replace h:QaK slices l v1=_:=h
 unfold QaK at h
 rcases Qak h with ⟨h5,h⟩|⟨h5,h⟩
 ·obtain ⟨x1,h6,h⟩:=Qae h
  obtain ⟨h7,h⟩:=Qat h
  exact gn 13 [6,25,26,27] [1] [bT h5,cE es_T_api_Fault.enc h6,aO Qaa.enc h7] (hI _ (oJ h))
 ·exact gn 5 [6] [0] [bF h5] (hE _ (oJ h))
theorem QiF {slices} {rv:List Qaa} (h:Qb0 slices=some rv):AFn Tryz.prog 76 [.one (lL 1 slices es_T_api_Fault.enc)] [] (one (lL 2 rv Qaa.enc)) []:=by
 refine QaG Tryz.func76 (by kernel_rfl) (by kernel_rfl) (fun Γ=>?_)
 unfold Qb0 at h
 obtain ⟨e0,h3,h⟩:=Qae h
 refine gn 9 [0,3,9,10,11] [] [nL es_T_api_Fault.enc slices] (QhT Γ rv h3 ?_)
 obtain ⟨size1,rfl⟩:∃ x,x=e0:=⟨_,rfl⟩
 replace h:(bnd (Qbf size1) fun r=>bnd (QaX (fun s=>QaK slices s.1 s.2) (r,0)) (fun l1=>some l1):Option (List Qaa))=some _:=h
 obtain ⟨r,h4,h⟩:=Qae h
 obtain ⟨e1,h8,h⟩:=Qae h
 refine gn 7 [6,25,26,27] [0] [cC (Qha h4),nL es_T_api_Fault.enc slices] (QhU Γ rv h8 ?_)
 obtain ⟨l1,rfl⟩:∃ x,x=e1:=⟨_,rfl⟩
 replace h:(some l1:Option (List Qaa))=some _:=h
 obtain rfl:=Option.some.inj h
 exact gr 2 [] [hW 4,hH (.frz 0),rp 3 (eL l1 Qaa.enc)]
def QnJ (Γ:Gam) (rv:List Qaa) (cf:Cf):Prop:=Go Tryz.prog Tryz.f77 [] Γ (one (lL 2 rv Qaa.enc)) [] cf
def QjQ (Γ:Gam) (rv:List Qaa) (word:ByteArray) (l:List Qaa) (l2:List Qaa) (v:Int):Prop:=QnJ Γ rv ⟨[.c 116,.l 116,.b 0,.c 15],⟨36,[vS 0 word,vO 5 0 2 l2 Qaa.enc,vL 12 2 l Qaa.enc,vI 13 (lenI l),vI 14 v],[oS 2 104 l2 Qaa.enc]⟩⟩
def Qjk (Γ:Gam) (rv:List Qaa) (word:ByteArray) (l:List Qaa) (l3:List Qaa):Prop:=QnJ Γ rv ⟨[.c 15],⟨36,[vO 5 0 2 l3 Qaa.enc],[oS 2 104 l3 Qaa.enc]⟩⟩
theorem QnK (Γ:Gam) (rv:List Qaa) {word l l2 v x0 at_ at_1} {x:(List Qaa×Int)⊕(List Qaa)} (h:Qhz word l l2 v x0 at_ at_1=some x) (hI:∀ s:List Qaa×Int,x=.inl s→QjQ Γ rv word l s.1 s.2) (hE:∀ e:List Qaa,x=.inr e→Qjk Γ rv word l e):QnJ Γ rv ⟨[.c 14951,.b 1,.c 935,.l 116,.b 0,.c 15],⟨36,[vS 0 word,vO 5 0 2 l2 Qaa.enc,vP 7 1 2,vS 8 at_1,vL 12 2 l Qaa.enc,vI 13 (lenI l),vI 14 v],[oS 2 104 l2 Qaa.enc,oX 2 104 [lI x0.err,.str at_]]⟩⟩:=by
 unfold Qhz at h
 obtain ⟨h6,h⟩:=Qat h
 exact gn 4 [0,5,12,13,14] [3] [oO (Eq.refl ([(Qaa.mk x0.err at_1)].map Qaa.enc).length),aO Qaa.enc h6] (hI _ (oJ h))
theorem QtW (Γ:Gam) (rv:List Qaa) {word l} {s:List Qaa×Int} {e:List Qaa} (h:QaX (fun s=>Qgg word l s.1 s.2) s=some e) (hD:Qjk Γ rv word l e):QjQ Γ rv word l s.1 s.2:=by
 refine QaA (C:=fun (s:List Qaa×Int)=>QjQ Γ rv word l s.1 s.2) (D:=fun (e:List Qaa)=>Qjk Γ rv word l e) ?_ h hD
 clear h hD s e
 rintro ⟨l2,v⟩ z_ h hI hE
 replace h:Qgg word l l2 v=_:=h
 unfold Qgg at h
 rcases Qak h with ⟨h1,h⟩|⟨h1,h⟩
 ·obtain ⟨x0,h2,h⟩:=Qae h
  rcases Qak h with ⟨h3,h⟩|⟨h3,h⟩
  ·exact gn 16 [0,5,7,8,12,13,14] [0,1] [bT h1,cE Qaa.enc h2,nF h3] (QnK Γ rv h hI hE)
  ·obtain ⟨h4,h⟩:=Qat h
   obtain ⟨h5,h⟩:=Qat h
   exact gn 16 [0,5,7,8,12,13,14] [0,1] [bT h1,cE Qaa.enc h2,nT h3,oO (h4),oO (h5)] (QnK Γ rv h hI hE)
 ·exact gn 5 [5] [0] [bF h1] (hE _ (oJ h))
theorem Qja {word l} {rv:List Qaa} (h:Qgm word l=some rv):AFn Tryz.prog 77 [.one (.str word),.one (lL 2 l Qaa.enc)] [] (one (lL 2 rv Qaa.enc)) []:=by
 refine QaG Tryz.func77 (by kernel_rfl) (by kernel_rfl) (fun Γ=>?_)
 unfold Qgm at h
 obtain ⟨l1,h0,h⟩:=Qae h
 obtain ⟨e0,h7,h⟩:=Qae h
 refine gn 9 [0,5,12,13,14] [0] [nL Qaa.enc l,hH (.cells [lI 0,.str ByteArray.empty]),hH (.rows (l1.map Qaa.enc)),oO (mk1 h0),oO (mk2 h0),oO (mk3 h0),oO (mk4 h0),oO (mk5 Qaa.enc h0),nL Qaa.enc l] (QtW Γ rv h7 ?_)
 obtain ⟨l3,rfl⟩:∃ x,x=e0:=⟨_,rfl⟩
 replace h:(some l3:Option (List Qaa))=some _:=h
 obtain rfl:=Option.some.inj h
 exact gr 2 [] [hW 4,hH (.frz 0),rp 3 (eL l3 Qaa.enc)]
theorem Qxm {i} {rv:ByteArray} (h:QsW i=some rv):AFn Tryz.prog 232 [.one (lI i)] [] (one (.str rv)) []:=by
 refine QaG Tryz.func232 (by kernel_rfl) (by kernel_rfl) (fun Γ=>?_)
 unfold QsW at h
 rcases Qak h with ⟨h0,h⟩|⟨h0,h⟩
 ·obtain ⟨s0,h1,h⟩:=Qae h
  obtain rfl:=Option.some.inj h
  exact gr 8 [] [bT h0,oO (ss1 h1),oO (ss2 h1),oO (ss3 h1)]
 ·obtain ⟨s1,h2,h⟩:=Qae h
  obtain rfl:=Option.some.inj h
  exact gr 9 [] [bF h0,oO (ss1 h2),oO (ss2 h2),oO (ss3 h2)]
def Qu1 (Γ:Gam) (rv:ByteArray) (cf:Cf):Prop:=Go Tryz.prog Tryz.f207 [] Γ (one (.str rv)) [] cf
theorem QkI (Γ:Gam) (rv:ByteArray) {i u} (h:Qhw i u=some rv):Qu1 Γ rv ⟨[.c 431,.c 7],⟨54,[vI 0 i,vP 5 0 24,(6,one (.int .u64 u))],[oX 24 245 [.int .u8 0,.int .u8 0,.int .u8 0,.int .u8 0,.int .u8 0,.int .u8 0,.int .u8 0,.int .u8 0,.int .u8 0,.int .u8 0,.int .u8 0,.int .u8 0,.int .u8 0,.int .u8 0,.int .u8 0,.int .u8 0,.int .u8 0,.int .u8 0,.int .u8 0,.int .u8 0,.int .u8 0,.int .u8 0,.int .u8 0,.int .u8 0]]⟩⟩:=by
 unfold Qhw at h
 obtain ⟨r1,h4,h⟩:=Qae h
 cases h
theorem Quf {i base} {rv:ByteArray} (h:Qmn i base=some rv):AFn Tryz.prog 207 [.one (lI i),.one (lI base)] [] (one (.str rv)) []:=by
 refine QaG Tryz.func207 (by kernel_rfl) (by kernel_rfl) (fun Γ=>?_)
 unfold Qmn at h
 rcases Qak h with ⟨h0,h⟩|⟨h0,h⟩
 ·rcases Qak h with ⟨h1,h⟩|⟨h1,h⟩
  ·obtain ⟨r,h2,h⟩:=Qae h
   obtain rfl:=Option.some.inj h
   exact gr 12 [] [bT h0,hP,hP,hP,oI ((leI 0 i)=true),oR True ((leI 0 i)=true),bT h1,cC (Qxm h2)]
  ·rcases Qak h with ⟨h3,h⟩|⟨h3,h⟩
   ·exact gn 20 [0,5,6] [0] [bT h0,hP,hP,hP,oI ((leI 0 i)=true),oR True ((leI 0 i)=true),bF h1,bT h3] (QkI Γ rv h)
   ·exact gn 20 [0,5,6] [0] [bT h0,hP,hP,hP,oI ((leI 0 i)=true),oR True ((leI 0 i)=true),bF h1,bF h3] (QkI Γ rv h)
 ·cases h
theorem QxG {i} {rv:ByteArray} (h:Qug i=some rv):AFn Tryz.prog 179 [.one (lI i)] [] (one (.str rv)) []:=by
 refine QaG Tryz.func179 (by kernel_rfl) (by kernel_rfl) (fun Γ=>?_)
 unfold Qug at h
 obtain ⟨r,h0,h⟩:=Qae h
 obtain rfl:=Option.some.inj h
 exact gr 4 [] [cC (Quf h0)]
theorem Qmo {i} {rv:ByteArray} (h:QgA i=some rv):AFn Tryz.prog 146 [.one (lI i)] [] (one (.str rv)) []:=by
 refine QaG Tryz.func146 (by kernel_rfl) (by kernel_rfl) (fun Γ=>?_)
 unfold QgA at h
 obtain ⟨r,h0,h⟩:=Qae h
 obtain rfl:=Option.some.inj h
 exact gr 4 [] [cC (QxG h0)]
theorem QhO {n} {rv:ByteArray} (h:QgH n=some rv):AFn Tryz.prog 113 [.one (lI n)] [] (one (.str rv)) []:=by
 refine QaG Tryz.func113 (by kernel_rfl) (by kernel_rfl) (fun Γ=>?_)
 unfold QgH at h
 obtain ⟨r,h0,h⟩:=Qae h
 obtain rfl:=Option.some.inj h
 exact gr 4 [] [cC (Qmo h0)]
theorem Qpq {c} {rv:Bool} (h:Qu3 c=some rv):AFn Tryz.prog 147 [.one (.int .u8 c)] [] (one (.bool rv)) []:=by
 refine QaG Tryz.func147 (by kernel_rfl) (by kernel_rfl) (fun Γ=>?_)
 unfold Qu3 at h
 obtain rfl:=Option.some.inj h
 exact gr 4 [] [hP,hP,hP,oI ((geI c 48)=true),oR True ((geI c 48)=true)]
theorem QqY {c} {rv:Bool} (h:QvE c=some rv):AFn Tryz.prog 148 [.one (.int .u8 c)] [] (one (.bool rv)) []:=by
 refine QaG Tryz.func148 (by kernel_rfl) (by kernel_rfl) (fun Γ=>?_)
 unfold QvE at h
 obtain rfl:=Option.some.inj h
 exact gr 4 [] [rp 14 hP,oI ((geI c 97)=true),oR True ((geI c 97)=true),rp 2 (oI (((geI c 97)&&(leI c 122))=false)),oI ((((geI c 97)&&(leI c 122))=false)∧(geI c 65)=true),oI (((geI c 97)&&(leI c 122))=false),oI ((((geI c 97)&&(leI c 122))=false)∧(geI c 65)=true),oR True (((geI c 97)&&(leI c 122))=false),oI ((((geI c 97)&&(leI c 122))||((geI c 65)&&(leI c 90)))=false),oR True ((((geI c 97)&&(leI c 122))||((geI c 65)&&(leI c 90)))=false)]
def Qx3 (Γ:Gam) (rv:Bool) (cf:Cf):Prop:=Go Tryz.prog Tryz.f114 [] Γ (one (.bool rv)) [] cf
def Qu2 (Γ:Gam) (rv:Bool) (s0:ByteArray) (b:UInt8) (v:Int):Prop:=Qx3 Γ rv ⟨[.c 116,.l 116,.b 0,.c 15],⟨34,[vS 0 s0,vI 17 (Qx2 s0),vI 18 v],[]⟩⟩
def QtO (Γ:Gam) (rv:Bool) (s0:ByteArray) (b:UInt8):Prop:=Qx3 Γ rv ⟨[.c 15],⟨34,[],[]⟩⟩
theorem QxH (Γ:Gam) (rv:Bool) {s0 b} {s:Int} {e:(Unit)⊕(Bool)} (h:QaX (fun s=>QqX s0 b s) s=some e) (hD:sel e (fun e=>QtO Γ rv s0 b) (fun e=>e=rv)):Qu2 Γ rv s0 b s:=by
 refine QaA (C:=fun (s:Int)=>Qu2 Γ rv s0 b s) (D:=fun (e:(Unit)⊕(Bool))=>sel e (fun e=>QtO Γ rv s0 b) (fun e=>e=rv)) ?_ h hD
 clear h hD s e
 intro v z_ h hI hE
 replace h:QqX s0 b v=_:=h
 unfold QqX at h
 rcases Qak h with ⟨h4,h⟩|⟨h4,h⟩
 ·obtain ⟨b1,h5,h⟩:=Qae h
  obtain ⟨r1,h6,h⟩:=Qae h
  rcases Qak h with ⟨h7,h⟩|⟨h7,h⟩
  ·exact gn 16 [0,17,18] [] [bT h4,yE h5,cC (QqY h6),rp 6 (nF h7),fF] (hI _ (oJ h))
  ·obtain ⟨r2,h8,h⟩:=Qae h
   rcases Qak h with ⟨h9,h⟩|⟨h9,h⟩
   ·exact gn 16 [0,17,18] [] [bT h4,yE h5,cC (QqY h6),rp 3 (nT h7),yE h5,nT h7,cC (Qpq h8),nT h7,nT h7,nF h9] (hI _ (oJ h))
   ·obtain rfl:=(hE _ (oJ h):_=rv)
    exact gr 14 [] [bT h4,yE h5,cC (QqY h6),rp 3 (nT h7),yE h5,nT h7,cC (Qpq h8),nT h7,nT h7,nT h9]
 ·exact gn 5 [] [] [bF h4] (hE _ (oJ h))
theorem Qb1 {s0} {rv:Bool} (h:QqW s0=some rv):AFn Tryz.prog 114 [.one (.str s0)] [] (one (.bool rv)) []:=by
 refine QaG Tryz.func114 (by kernel_rfl) (by kernel_rfl) (fun Γ=>?_)
 unfold QqW at h
 rcases Qak h with ⟨h0,h⟩|⟨h0,h⟩
 ·obtain rfl:=Option.some.inj h
  exact gr 8 [] [rp 4 hP,rp 2 (oI ((eqS s0 ByteArray.empty)=false)),oR True ((eqS s0 ByteArray.empty)=false),rp 4 (bT h0),tT]
 ·obtain ⟨b,h1,h⟩:=Qae h
  obtain ⟨r,h2,h⟩:=Qae h
  rcases Qak h with ⟨h3,h⟩|⟨h3,h⟩
  ·obtain rfl:=Option.some.inj h
   exact gr 8 [] [rp 4 hP,rp 2 (oI ((eqS s0 ByteArray.empty)=false)),oR True ((eqS s0 ByteArray.empty)=false),bF h0,bF h0,yE h1,bF h0,cC (Qpq h2),bF h0,bT h3]
  ·obtain ⟨e0,h10,h⟩:=Qae h
   refine gn 12 [0,17,18] [] [rp 4 hP,rp 2 (oI ((eqS s0 ByteArray.empty)=false)),oR True ((eqS s0 ByteArray.empty)=false),bF h0,bF h0,yE h1,bF h0,cC (Qpq h2),bF h0,bF h3] (QxH Γ rv h10 ?_)
   rcases e0 with e0|e0
   ·replace h:(some true:Option Bool)=some _:=h
    obtain rfl:=Option.some.inj h
    exact gr 2 [] []
   ·obtain ⟨r3,rfl⟩:∃ x,x=e0:=⟨_,rfl⟩
    replace h:(some r3:Option Bool)=some _:=h
    exact Option.some.inj h
theorem QaW {n i} {rv:Bool} (h:QeD n i=some rv):AFn Tryz.prog 83 [.agg (Qag.enc n),.one (lI i)] [] (one (.bool rv)) []:=by
 refine QaG Tryz.func83 (by kernel_rfl) (by kernel_rfl) (fun Γ=>?_)
 unfold QeD at h
 obtain rfl:=Option.some.inj h
 exact gr 4 [] [rp 4 hP,rp 2 (oI ((geI i 0)=true)),nL QeA n.places,hP,hP,rp 2 (oI ((geI i 0)=true)),oR True ((geI i 0)=true)]
theorem Qf2 {a} {rv:Qar} (h:QfE a=some rv):AFn Tryz.prog 116 [.agg (Qai.enc a)] [] (gG [lI rv.from_,lI rv.to_,lI rv.profile]) []:=by
 refine QaG Tryz.func116 (by kernel_rfl) (by kernel_rfl) (fun Γ=>?_)
 unfold QfE at h
 obtain rfl:=Option.some.inj h
 exact gr 4 [] []
theorem Qif {n least most} {rv:Bool} (h:QgB n least most=some rv):AFn Tryz.prog 163 [.one (lI n),.one (lI least),.one (lI most)] [] (one (.bool rv)) []:=by
 refine QaG Tryz.func163 (by kernel_rfl) (by kernel_rfl) (fun Γ=>?_)
 unfold QgB at h
 obtain rfl:=Option.some.inj h
 exact gr 4 [] [rp 4 hP,rp 2 (oI ((geI n least)=true)),oR True ((geI n least)=true)]
def Qnq (Γ:Gam) (rv:List Qaa) (cf:Cf):Prop:=Go Tryz.prog Tryz.f149 [] Γ (one (lL 2 rv Qaa.enc)) [] cf
def Qmp (Γ:Gam) (rv:List Qaa) (l:List Qal) (l2:List Qaa) (v:Int):Prop:=Qnq Γ rv ⟨[.c 244,.l 244,.b 0,.c 31],⟨83,[vL 0 2 l Qal.enc,vO 3 0 2 l2 Qaa.enc,vL 19 2 l Qal.enc,vI 20 (lenI l),vI 21 v],[oS 2 104 l2 Qaa.enc]⟩⟩
def Qk2 (Γ:Gam) (rv:List Qaa) (l:List Qal) (l4:List Qaa):Prop:=Qnq Γ rv ⟨[.c 31],⟨83,[vO 3 0 2 l4 Qaa.enc],[oS 2 104 l4 Qaa.enc]⟩⟩
theorem Qqx (Γ:Gam) (rv:List Qaa) {l v x0 r l3} {x:(List Qaa×Int)⊕(List Qaa)} (h:QgJ l v x0 r l3=some x) (hI:∀ s:List Qaa×Int,x=.inl s→Qmp Γ rv l s.1 s.2) (hE:∀ e:List Qaa,x=.inr e→Qk2 Γ rv l e):Qnq Γ rv ⟨[.c 31335,.b 1,.c 1959,.l 244,.b 0,.c 31],⟨83,[vL 0 2 l Qal.enc,vO 3 0 2 l3 Qaa.enc,vI 4 v,vP 5 1 2,vS 6 r,vL 19 2 l Qal.enc,vI 20 (lenI l),vI 21 v],[oS 2 104 l3 Qaa.enc,oX 2 86 (Qal.enc x0)]⟩⟩:=by
 unfold QgJ at h
 rcases Qak h with ⟨h8,h⟩|⟨h8,h⟩
 ·obtain ⟨x1,h9,h⟩:=Qae h
  rcases Qak h with ⟨h10,h⟩|⟨h10,h⟩
  ·obtain ⟨h11,h⟩:=Qat h
   exact gn 7 [0,3,19,20,21] [3] [hH (.draw 24 []),rp 6 (bT h8),cE Qal.enc h9,rp 4 (bT h8),rp 9 (bT h10),bT h8,bT h10,bT h8,tT,oO (Eq.refl ([(Qaa.mk 13 r)].map Qaa.enc).length),aO Qaa.enc h11] (hI _ (oJ h))
  ·rcases Qak h with ⟨h12,h⟩|⟨h12,h⟩
   ·obtain ⟨h13,h⟩:=Qat h
    exact gn 7 [0,3,19,20,21] [3] [hH (.draw 24 []),rp 6 (bT h8),cE Qal.enc h9,rp 4 (bT h8),rp 6 (bF h10),cE Qal.enc h9,rp 3 (bF h10),bT h8,bF h10,bT h8,bT h12,oO (Eq.refl ([(Qaa.mk 13 r)].map Qaa.enc).length),aO Qaa.enc h13] (hI _ (oJ h))
   ·exact gn 7 [0,3,19,20,21] [0] [hH (.draw 24 []),rp 6 (bT h8),cE Qal.enc h9,rp 4 (bT h8),rp 6 (bF h10),cE Qal.enc h9,rp 3 (bF h10),bT h8,bF h10,bT h8,bF h12] (hI _ (oJ h))
 ·exact gn 7 [0,3,19,20,21] [0] [hH (.draw 24 []),rp 10 (bF h8),rp 9 kF,bF h8,bF h8,fF] (hI _ (oJ h))
theorem QvF (Γ:Gam) (rv:List Qaa) {l} {s:List Qaa×Int} {e:List Qaa} (h:QaX (fun s=>Qdf l s.1 s.2) s=some e) (hD:Qk2 Γ rv l e):Qmp Γ rv l s.1 s.2:=by
 refine QaA (C:=fun (s:List Qaa×Int)=>Qmp Γ rv l s.1 s.2) (D:=fun (e:List Qaa)=>Qk2 Γ rv l e) ?_ h hD
 clear h hD s e
 rintro ⟨l2,v⟩ z_ h hI hE
 replace h:Qdf l l2 v=_:=h
 unfold Qdf at h
 rcases Qak h with ⟨h2,h⟩|⟨h2,h⟩
 ·obtain ⟨x0,h3,h⟩:=Qae h
  obtain ⟨r,h4,h⟩:=Qae h
  obtain ⟨r1,h5,h⟩:=Qae h
  rcases Qak h with ⟨h6,h⟩|⟨h6,h⟩
  ·obtain ⟨h7,h⟩:=Qat h
   exact gn 16 [0,3,4,5,6,19,20,21] [3,1] [bT h2,cE Qal.enc h3,cC (Qmo h4),cC (Qif h5),rp 13 hP,rp 4 (oI ((!r1)=false)),oR True ((!r1)=false),rp 5 (oI (((!r1)||(ltI x0.a x0.t))=false)),oR True (((!r1)||(ltI x0.a x0.t))=false),bT h6,oO (Eq.refl ([(Qaa.mk 2 r)].map Qaa.enc).length),aO Qaa.enc h7] (Qqx Γ rv h hI hE)
  ·exact gn 16 [0,3,4,5,6,19,20,21] [0,1] [bT h2,cE Qal.enc h3,cC (Qmo h4),cC (Qif h5),rp 13 hP,rp 4 (oI ((!r1)=false)),oR True ((!r1)=false),rp 5 (oI (((!r1)||(ltI x0.a x0.t))=false)),oR True (((!r1)||(ltI x0.a x0.t))=false),bF h6] (Qqx Γ rv h hI hE)
 ·exact gn 5 [3] [0] [bF h2] (hE _ (oJ h))
theorem Qqw (Γ:Gam) (rv:List Qaa) {l l1} (h:QgI l l1=some rv):Qnq Γ rv ⟨[.c 15],⟨83,[vL 0 2 l Qal.enc,vO 3 0 2 l1 Qaa.enc],[oS 2 104 l1 Qaa.enc]⟩⟩:=by
 unfold QgI at h
 obtain ⟨e0,h14,h⟩:=Qae h
 refine gn 5 [0,3,19,20,21] [0] [nL Qal.enc l] (QvF Γ rv h14 ?_)
 obtain ⟨l4,rfl⟩:∃ x,x=e0:=⟨_,rfl⟩
 replace h:(some l4:Option (List Qaa))=some _:=h
 obtain rfl:=Option.some.inj h
 exact gr 2 [] [hW 4,hH (.frz 0),rp 3 (eL l4 Qaa.enc)]
theorem QpB {l} {rv:List Qaa} (h:QeU l=some rv):AFn Tryz.prog 149 [.one (lL 2 l Qal.enc)] [] (one (lL 2 rv Qaa.enc)) []:=by
 refine QaG Tryz.func149 (by kernel_rfl) (by kernel_rfl) (fun Γ=>?_)
 unfold QeU at h
 rcases Qak h with ⟨h0,h⟩|⟨h0,h⟩
 ·obtain ⟨h1,h⟩:=Qat h
  exact gn 9 [0,3] [1] [nL Qal.enc l,hP,hP,oI ((eqI (lenI l) 0)=false),nL Qal.enc l,hP,hP,oI ((eqI (lenI l) 0)=false),oR True ((eqI (lenI l) 0)=false),bT h0,oO (Eq.refl ([(Qaa.mk 4 ByteArray.empty)].map Qaa.enc).length),aN (l:=([(Qaa.mk 4 ByteArray.empty)]:List Qaa)) Qaa.enc h1] (Qqw Γ rv h)
 ·exact gn 9 [0,3] [0] [nL Qal.enc l,hP,hP,oI ((eqI (lenI l) 0)=false),nL Qal.enc l,hP,hP,oI ((eqI (lenI l) 0)=false),oR True ((eqI (lenI l) 0)=false),bF h0,hW 1,hH (.adopt 3 2 104)] (Qqw Γ rv h)
theorem Qec {t} {rv:Bool} (h:QkX t=some rv):AFn Tryz.prog 180 [.one (lI t)] [] (one (.bool rv)) []:=by
 refine QaG Tryz.func180 (by kernel_rfl) (by kernel_rfl) (fun Γ=>?_)
 unfold QkX at h
 obtain rfl:=Option.some.inj h
 exact gr 4 [] [hP,hP,hP,oI ((geI t 0)=true),oR True ((geI t 0)=true)]
def QqK (Γ:Gam) (rv:List Int) (cf:Cf):Prop:=Go Tryz.prog Tryz.f150 [] Γ (one (lL 1 rv Qaw)) [] cf
def Qrq (Γ:Gam) (rv:List Int) (l:List Qal) (l2:List Int) (v:Int):Prop:=QqK Γ rv ⟨[.c 244,.l 244,.b 0,.c 31],⟨49,[vL 0 2 l Qal.enc,vO 3 0 1 l2 Qaw,vL 12 2 l Qal.enc,vI 13 (lenI l),vI 14 v],[oS 1 33 l2 Qaw]⟩⟩
def Qp9 (Γ:Gam) (rv:List Int) (l:List Qal) (l3:List Int):Prop:=QqK Γ rv ⟨[.c 31],⟨49,[vO 3 0 1 l3 Qaw],[oS 1 33 l3 Qaw]⟩⟩
theorem Qvl (Γ:Gam) (rv:List Int) {l} {s:List Int×Int} {e:List Int} (h:QaX (fun s=>Qeb l s.1 s.2) s=some e) (hD:Qp9 Γ rv l e):Qrq Γ rv l s.1 s.2:=by
 refine QaA (C:=fun (s:List Int×Int)=>Qrq Γ rv l s.1 s.2) (D:=fun (e:List Int)=>Qp9 Γ rv l e) ?_ h hD
 clear h hD s e
 rintro ⟨l2,v⟩ z_ h hI hE
 replace h:Qeb l l2 v=_:=h
 unfold Qeb at h
 rcases Qak h with ⟨h2,h⟩|⟨h2,h⟩
 ·obtain ⟨x0,h3,h⟩:=Qae h
  obtain ⟨r,h4,h⟩:=Qae h
  rcases Qak h with ⟨h5,h⟩|⟨h5,h⟩
  ·rcases Qak h with ⟨h6,h⟩|⟨h6,h⟩
   ·obtain ⟨x1,h7,h⟩:=Qae h
    rcases Qak h with ⟨h8,h⟩|⟨h8,h⟩
    ·obtain ⟨h9,h⟩:=Qat h
     exact gn 16 [0,3,12,13,14] [3] [bT h2,cE Qal.enc h3,hH (.draw 25 []),cC (Qec h4),rp 3 (nF h5),rp 6 (bT h6),cE Qal.enc h7,rp 3 (bT h6),nF h5,bT h6,nF h5,rp 5 (bT h8),tT,oO (Eq.refl ([2].map Qaw).length),aO Qaw h9] (hI _ (oJ h))
    ·obtain ⟨r1,h10,h⟩:=Qae h
     rcases Qak h with ⟨h11,h⟩|⟨h11,h⟩
     ·exact gn 16 [0,3,12,13,14] [0] [bT h2,cE Qal.enc h3,hH (.draw 25 []),cC (Qec h4),rp 3 (nF h5),rp 6 (bT h6),cE Qal.enc h7,rp 3 (bT h6),nF h5,bT h6,nF h5,rp 3 (bF h8),cC (Qec h10),bF h8,bF h8,nF h11] (hI _ (oJ h))
     ·obtain ⟨h12,h⟩:=Qat h
      exact gn 16 [0,3,12,13,14] [3] [bT h2,cE Qal.enc h3,hH (.draw 25 []),cC (Qec h4),rp 3 (nF h5),rp 6 (bT h6),cE Qal.enc h7,rp 3 (bT h6),nF h5,bT h6,nF h5,rp 3 (bF h8),cC (Qec h10),bF h8,bF h8,nT h11,oO (Eq.refl ([2].map Qaw).length),aO Qaw h12] (hI _ (oJ h))
   ·obtain ⟨r2,h13,h⟩:=Qae h
    rcases Qak h with ⟨h14,h⟩|⟨h14,h⟩
    ·exact gn 16 [0,3,12,13,14] [0] [bT h2,cE Qal.enc h3,hH (.draw 25 []),cC (Qec h4),rp 3 (nF h5),rp 9 (bF h6),nF h5,bF h6,nF h5,fF,fF,fF,cC (Qec h13),fF,fF,nF h14] (hI _ (oJ h))
    ·obtain ⟨h15,h⟩:=Qat h
     exact gn 16 [0,3,12,13,14] [3] [bT h2,cE Qal.enc h3,hH (.draw 25 []),cC (Qec h4),rp 3 (nF h5),rp 9 (bF h6),nF h5,bF h6,nF h5,fF,fF,fF,cC (Qec h13),fF,fF,nT h14,oO (Eq.refl ([2].map Qaw).length),aO Qaw h15] (hI _ (oJ h))
  ·obtain ⟨h16,h⟩:=Qat h
   exact gn 16 [0,3,12,13,14] [3] [bT h2,cE Qal.enc h3,hH (.draw 25 []),cC (Qec h4),rp 3 (nT h5),rp 9 kF,nT h5,nT h5,rp 6 tT,oO (Eq.refl ([2].map Qaw).length),aO Qaw h16] (hI _ (oJ h))
 ·exact gn 5 [3] [0] [bF h2] (hE _ (oJ h))
theorem Qp8 (Γ:Gam) (rv:List Int) {l l1} (h:QhK l l1=some rv):QqK Γ rv ⟨[.c 15],⟨49,[vL 0 2 l Qal.enc,vO 3 0 1 l1 Qaw],[oS 1 33 l1 Qaw]⟩⟩:=by
 unfold QhK at h
 obtain ⟨e0,h17,h⟩:=Qae h
 refine gn 5 [0,3,12,13,14] [0] [nL Qal.enc l] (Qvl Γ rv h17 ?_)
 obtain ⟨l3,rfl⟩:∃ x,x=e0:=⟨_,rfl⟩
 replace h:(some l3:Option (List Int))=some _:=h
 obtain rfl:=Option.some.inj h
 exact gr 2 [] [hW 4,hH (.frz 0),rp 3 (eL l3 Qaw)]
theorem QtJ {l} {rv:List Int} (h:Qib l=some rv):AFn Tryz.prog 150 [.one (lL 2 l Qal.enc)] [] (one (lL 1 rv Qaw)) []:=by
 refine QaG Tryz.func150 (by kernel_rfl) (by kernel_rfl) (fun Γ=>?_)
 unfold Qib at h
 rcases Qak h with ⟨h0,h⟩|⟨h0,h⟩
 ·obtain ⟨h1,h⟩:=Qat h
  exact gn 9 [0,3] [1] [nL Qal.enc l,bT h0,oO (Eq.refl ([4].map Qaw).length),aN (l:=([4]:List Int)) Qaw h1] (Qp8 Γ rv h)
 ·exact gn 9 [0,3] [0] [nL Qal.enc l,bF h0,hW 1,hH (.adopt 3 1 33)] (Qp8 Γ rv h)
def Qgu (Γ:Gam) (rv:List Int) (known:List (Qar×Bool)) (cf:Cf):Prop:=Go Tryz.prog Tryz.f115 [0] Γ (one (lL 1 rv Qaw)) [oM 151 known (mE Qar.enc Lf.bool)] cf
def QsB (Γ:Gam) (rv:List Int) (a:Qai) (known:List (Qar×Bool)) (l:List Int) (r3:List Qaa) (l3:List Int) (v:Int):Prop:=Qgu Γ rv known ⟨[.c 1012,.l 1012,.b 0,.c 127],⟨79,[vP 4 1 6,vO 7 2 1 l3 Qaw,vL 62 2 r3 Qaa.enc,vI 63 (lenI r3),vI 64 v],[oM 151 known (mE Qar.enc Lf.bool),oX 6 59 (Qai.enc a),oS 1 33 l3 Qaw]⟩⟩
def Qrn (Γ:Gam) (rv:List Int) (a:Qai) (known:List (Qar×Bool)) (l:List Int) (r3:List Qaa) (l4:List Int):Prop:=Qgu Γ rv known ⟨[.c 127],⟨79,[vP 4 1 6,vO 7 2 1 l4 Qaw],[oM 151 known (mE Qar.enc Lf.bool),oX 6 59 (Qai.enc a),oS 1 33 l4 Qaw]⟩⟩
def QsC (Γ:Gam) (rv:List Int) (a:Qai) (known:List (Qar×Bool)) (r6:List Qaa) (l7:List Int) (v1:Int):Prop:=Qgu Γ rv known ⟨[.c 1012,.l 1012,.b 0,.c 127],⟨79,[vP 4 1 6,vO 7 2 1 l7 Qaw,vL 62 2 r6 Qaa.enc,vI 63 (lenI r6),vI 64 v1],[oM 151 known (mE Qar.enc Lf.bool),oX 6 59 (Qai.enc a),oS 1 33 l7 Qaw]⟩⟩
def Qro (Γ:Gam) (rv:List Int) (a:Qai) (known:List (Qar×Bool)) (r6:List Qaa) (l8:List Int):Prop:=Qgu Γ rv known ⟨[.c 127],⟨79,[vP 4 1 6,vO 7 2 1 l8 Qaw],[oM 151 known (mE Qar.enc Lf.bool),oX 6 59 (Qai.enc a),oS 1 33 l8 Qaw]⟩⟩
theorem Qv9 (Γ:Gam) (rv:List Int) {a known l r3} {s:List Int×Int} {e:List Int} (h:QaX (fun s=>Qe1 a known l r3 s.1 s.2) s=some e) (hD:Qrn Γ rv a known l r3 e):QsB Γ rv a known l r3 s.1 s.2:=by
 refine QaA (C:=fun (s:List Int×Int)=>QsB Γ rv a known l r3 s.1 s.2) (D:=fun (e:List Int)=>Qrn Γ rv a known l r3 e) ?_ h hD
 clear h hD s e
 rintro ⟨l3,v⟩ z_ h hI hE
 replace h:Qe1 a known l r3 l3 v=_:=h
 unfold Qe1 at h
 rcases Qak h with ⟨h11,h⟩|⟨h11,h⟩
 ·obtain ⟨x0,h12,h⟩:=Qae h
  obtain ⟨h13,h⟩:=Qat h
  exact gn 13 [4,7,62,63,64] [0,1,5] [bT h11,cE Qaa.enc h12,oO (Eq.refl ([x0.err].map Qaw).length),aO Qaw h13] (hI _ (oJ h))
 ·exact gn 5 [4,7] [0,1,2] [bF h11] (hE _ (oJ h))
theorem Qrk (Γ:Gam) (rv:List Int) {a known l l2} (h:Qit a known l l2=some rv):Qgu Γ rv known ⟨[.c 63],⟨79,[vP 4 1 6,vO 7 2 1 l2 Qaw],[oM 151 known (mE Qar.enc Lf.bool),oX 6 59 (Qai.enc a),oS 1 33 l2 Qaw]⟩⟩:=by
 unfold Qit at h
 obtain ⟨r3,h10,h⟩:=Qae h
 obtain ⟨e0,h14,h⟩:=Qae h
 refine gn 5 [4,7,62,63,64] [0,1,2] [cC (QpB h10),nL Qaa.enc r3] (Qv9 Γ rv h14 ?_)
 obtain ⟨l4,rfl⟩:∃ x,x=e0:=⟨_,rfl⟩
 replace h:(bnd (Qib a.slow) fun r4=>chk (okN (l4++r4).length 8) (some (l4++r4)):Option (List Int))=some _:=h
 obtain ⟨r4,h15,h⟩:=Qae h
 obtain ⟨h16,h⟩:=Qat h
 obtain rfl:=Option.some.inj h
 exact gr 2 [0] [cC (QtJ h15),aO Qaw h16,hW 1,hH (.frz 3),rp 2 (oO (Eq.refl ((l4++r4).map Qaw).length))]
theorem Qrj (Γ:Gam) (rv:List Int) {a known l l1} (h:Qho a known l l1=some rv):Qgu Γ rv known ⟨[.c 31],⟨79,[(2,one (.mp 0)),vP 4 1 6,vO 7 2 1 l1 Qaw],[oM 151 known (mE Qar.enc Lf.bool),oX 6 59 (Qai.enc a),oS 1 33 l1 Qaw]⟩⟩:=by
 unfold Qho at h
 obtain ⟨r2,h7,h⟩:=Qae h
 rcases Qak h with ⟨h8,h⟩|⟨h8,h⟩
 ·obtain ⟨h9,h⟩:=Qat h
  exact gn 5 [4,7] [0,1,4] [cC (Qf2 h7),mG Qar.kq Lf.bool known r2 false,bT h8,oO (Eq.refl ([6].map Qaw).length),aO Qaw h9] (Qrk Γ rv h)
 ·exact gn 5 [4,7] [0,1,2] [cC (Qf2 h7),mG Qar.kq Lf.bool known r2 false,bF h8] (Qrk Γ rv h)
theorem Qri (Γ:Gam) (rv:List Int) {a known l} (h:Qis a known l=some rv):Qgu Γ rv known ⟨[.c 15],⟨79,[(2,one (.mp 0)),vP 4 1 6,vO 7 2 1 l Qaw],[oM 151 known (mE Qar.enc Lf.bool),oX 6 59 (Qai.enc a),oS 1 33 l Qaw]⟩⟩:=by
 unfold Qis at h
 rcases Qak h with ⟨h5,h⟩|⟨h5,h⟩
 ·obtain ⟨h6,h⟩:=Qat h
  exact gn 5 [2,4,7] [0,1,4] [rp 18 hP,rp 2 (oI ((ltI a.profile 0)=false)),oR True ((ltI a.profile 0)=false),rp 2 (oI (((ltI a.profile 0)||(gtI a.profile 7))=false)),oR True (((ltI a.profile 0)||(gtI a.profile 7))=false),rp 2 (oI ((((ltI a.profile 0)||(gtI a.profile 7))||(ltI a.miles 0))=false)),oR True ((((ltI a.profile 0)||(gtI a.profile 7))||(ltI a.miles 0))=false),rp 4 (oI (((((ltI a.profile 0)||(gtI a.profile 7))||(ltI a.miles 0))||(gtI a.miles 10000))=false)),oR True (((((ltI a.profile 0)||(gtI a.profile 7))||(ltI a.miles 0))||(gtI a.miles 10000))=false),bT h5,oO (Eq.refl ([2].map Qaw).length),aO Qaw h6] (Qrj Γ rv h)
 ·exact gn 5 [2,4,7] [0,1,2] [rp 18 hP,rp 2 (oI ((ltI a.profile 0)=false)),oR True ((ltI a.profile 0)=false),rp 2 (oI (((ltI a.profile 0)||(gtI a.profile 7))=false)),oR True (((ltI a.profile 0)||(gtI a.profile 7))=false),rp 2 (oI ((((ltI a.profile 0)||(gtI a.profile 7))||(ltI a.miles 0))=false)),oR True ((((ltI a.profile 0)||(gtI a.profile 7))||(ltI a.miles 0))=false),rp 4 (oI (((((ltI a.profile 0)||(gtI a.profile 7))||(ltI a.miles 0))||(gtI a.miles 10000))=false)),oR True (((((ltI a.profile 0)||(gtI a.profile 7))||(ltI a.miles 0))||(gtI a.miles 10000))=false),bF h5] (Qrj Γ rv h)
theorem Qwa (Γ:Gam) (rv:List Int) {a known r6} {s:List Int×Int} {e:List Int} (h:QaX (fun s=>Qnj a known r6 s.1 s.2) s=some e) (hD:Qro Γ rv a known r6 e):QsC Γ rv a known r6 s.1 s.2:=by
 refine QaA (C:=fun (s:List Int×Int)=>QsC Γ rv a known r6 s.1 s.2) (D:=fun (e:List Int)=>Qro Γ rv a known r6 e) ?_ h hD
 clear h hD s e
 rintro ⟨l7,v1⟩ z_ h hI hE
 replace h:Qnj a known r6 l7 v1=_:=h
 unfold Qnj at h
 rcases Qak h with ⟨h24,h⟩|⟨h24,h⟩
 ·obtain ⟨x1,h25,h⟩:=Qae h
  obtain ⟨h26,h⟩:=Qat h
  exact gn 13 [4,7,62,63,64] [0,1,5] [bT h24,cE Qaa.enc h25,oO (Eq.refl ([x1.err].map Qaw).length),aO Qaw h26] (hI _ (oJ h))
 ·exact gn 5 [4,7] [0,1,2] [bF h24] (hE _ (oJ h))
theorem Qrm (Γ:Gam) (rv:List Int) {a known l6} (h:Qni a known l6=some rv):Qgu Γ rv known ⟨[.c 63],⟨79,[vP 4 1 6,vO 7 2 1 l6 Qaw],[oM 151 known (mE Qar.enc Lf.bool),oX 6 59 (Qai.enc a),oS 1 33 l6 Qaw]⟩⟩:=by
 unfold Qni at h
 obtain ⟨r6,h23,h⟩:=Qae h
 obtain ⟨e1,h27,h⟩:=Qae h
 refine gn 5 [4,7,62,63,64] [0,1,2] [cC (QpB h23),nL Qaa.enc r6] (Qwa Γ rv h27 ?_)
 obtain ⟨l8,rfl⟩:∃ x,x=e1:=⟨_,rfl⟩
 replace h:(bnd (Qib a.slow) fun r7=>chk (okN (l8++r7).length 8) (some (l8++r7)):Option (List Int))=some _:=h
 obtain ⟨r7,h28,h⟩:=Qae h
 obtain ⟨h29,h⟩:=Qat h
 obtain rfl:=Option.some.inj h
 exact gr 2 [0] [cC (QtJ h28),aO Qaw h29,hW 1,hH (.frz 3),rp 2 (oO (Eq.refl ((l8++r7).map Qaw).length))]
theorem Qrl (Γ:Gam) (rv:List Int) {a known l5} (h:Qka a known l5=some rv):Qgu Γ rv known ⟨[.c 31],⟨79,[(2,one (.mp 0)),vP 4 1 6,vO 7 2 1 l5 Qaw],[oM 151 known (mE Qar.enc Lf.bool),oX 6 59 (Qai.enc a),oS 1 33 l5 Qaw]⟩⟩:=by
 unfold Qka at h
 obtain ⟨r5,h20,h⟩:=Qae h
 rcases Qak h with ⟨h21,h⟩|⟨h21,h⟩
 ·obtain ⟨h22,h⟩:=Qat h
  exact gn 5 [4,7] [0,1,4] [cC (Qf2 h20),mG Qar.kq Lf.bool known r5 false,bT h21,oO (Eq.refl ([6].map Qaw).length),aO Qaw h22] (Qrm Γ rv h)
 ·exact gn 5 [4,7] [0,1,2] [cC (Qf2 h20),mG Qar.kq Lf.bool known r5 false,bF h21] (Qrm Γ rv h)
theorem Qyr {n a known} {rv:List Int} (h:Qp7 n a known=some rv):AFn Tryz.prog 115 [.agg (Qag.enc n),.agg (Qai.enc a),.one (.mp 0)] [bM 151 known (mE Qar.enc Lf.bool)] (one (lL 1 rv Qaw)) [oM 151 known (mE Qar.enc Lf.bool)]:=by
 refine QaG Tryz.func115 (by kernel_rfl) (by kernel_rfl) (fun Γ=>?_)
 unfold Qp7 at h
 obtain ⟨r,h0,h⟩:=Qae h
 rcases Qak h with ⟨h1,h⟩|⟨h1,h⟩
 ·obtain ⟨r1,h2,h⟩:=Qae h
  rcases Qak h with ⟨h3,h⟩|⟨h3,h⟩
  ·exact gn 9 [2,4,7] [0,2,3] [cC (QaW h0),rp 4 (nF h1),cC (QaW h2),nF h1,nF h1,nF h3,hW 1,hH (.adopt 7 1 33)] (Qri Γ rv h)
  ·obtain ⟨h4,h⟩:=Qat h
   exact gn 9 [2,4,7] [0,2,4] [cC (QaW h0),rp 4 (nF h1),cC (QaW h2),nF h1,nF h1,nT h3,oO (Eq.refl ([11].map Qaw).length),aN (l:=([11]:List Int)) Qaw h4] (Qri Γ rv h)
 ·obtain ⟨h17,h⟩:=Qat h
  rcases Qak h with ⟨h18,h⟩|⟨h18,h⟩
  ·obtain ⟨h19,h⟩:=Qat h
   exact gn 14 [2,4,7] [0,2,6] [cC (QaW h0),rp 6 (nT h1),tT,oO (Eq.refl ([11].map Qaw).length),aN (l:=([11]:List Int)) Qaw h17,rp 18 hP,rp 2 (oI ((ltI a.profile 0)=false)),oR True ((ltI a.profile 0)=false),rp 2 (oI (((ltI a.profile 0)||(gtI a.profile 7))=false)),oR True (((ltI a.profile 0)||(gtI a.profile 7))=false),rp 2 (oI ((((ltI a.profile 0)||(gtI a.profile 7))||(ltI a.miles 0))=false)),oR True ((((ltI a.profile 0)||(gtI a.profile 7))||(ltI a.miles 0))=false),rp 4 (oI (((((ltI a.profile 0)||(gtI a.profile 7))||(ltI a.miles 0))||(gtI a.miles 10000))=false)),oR True (((((ltI a.profile 0)||(gtI a.profile 7))||(ltI a.miles 0))||(gtI a.miles 10000))=false),bT h18,oO (Eq.refl ([2].map Qaw).length),aO Qaw h19] (Qrl Γ rv h)
  ·exact gn 14 [2,4,7] [0,2,4] [cC (QaW h0),rp 6 (nT h1),tT,oO (Eq.refl ([11].map Qaw).length),aN (l:=([11]:List Int)) Qaw h17,rp 18 hP,rp 2 (oI ((ltI a.profile 0)=false)),oR True ((ltI a.profile 0)=false),rp 2 (oI (((ltI a.profile 0)||(gtI a.profile 7))=false)),oR True (((ltI a.profile 0)||(gtI a.profile 7))=false),rp 2 (oI ((((ltI a.profile 0)||(gtI a.profile 7))||(ltI a.miles 0))=false)),oR True ((((ltI a.profile 0)||(gtI a.profile 7))||(ltI a.miles 0))=false),rp 4 (oI (((((ltI a.profile 0)||(gtI a.profile 7))||(ltI a.miles 0))||(gtI a.miles 10000))=false)),oR True (((((ltI a.profile 0)||(gtI a.profile 7))||(ltI a.miles 0))||(gtI a.miles 10000))=false),bF h18] (Qrl Γ rv h)
def Qe0 (Γ:Gam) (rv:List Qaa) (cf:Cf):Prop:=Go Tryz.prog Tryz.f78 [] Γ (one (lL 2 rv Qaa.enc)) [] cf
def QkW (Γ:Gam) (rv:List Qaa) (n:Qag) (l:List Qaa) (l1:List Qaa) (l2:List (ByteArray×Bool)) (v:Int):Prop:=Qe0 Γ rv ⟨[.c 500,.l 500,.b 0,.c 63],⟨94,[vP 1 0 2,vO 3 1 2 l1 Qaa.enc,(4,one (.mp 2)),vL 23 1 n.places QeA,vI 24 (lenI n.places),vI 25 v],[oX 2 25 (Qag.enc n),oS 2 104 l1 Qaa.enc,oM 150 l2 (mE kS Lf.bool)]⟩⟩
def Qj9 (Γ:Gam) (rv:List Qaa) (n:Qag) (l:List Qaa) (l4:List Qaa):Prop:=Qe0 Γ rv ⟨[.c 63],⟨94,[vP 1 0 2,vO 3 1 2 l4 Qaa.enc],[oX 2 25 (Qag.enc n),oS 2 104 l4 Qaa.enc]⟩⟩
def Qp5 (Γ:Gam) (rv:List Qaa) (n:Qag) (l:List Qaa) (l7:List (Qar×Bool)) (v1:Int) (x1:Qai) (r2:List Int) (l8:List Qaa) (v2:Int):Prop:=Qe0 Γ rv ⟨[.c 2091412,.l 2091412,.b 5,.c 261427,.b 4,.c 32679,.l 4084,.b 3,.c 511],⟨94,[vP 1 0 2,vO 3 1 2 l8 Qaa.enc,(8,one (.mp 2)),vI 9 v1,vP 10 3 6,vL 64 6 n.arcs Qai.enc,vI 65 (lenI n.arcs),vI 66 v1,vL 74 1 r2 Qaw,vI 75 (lenI r2),vI 76 v2],[oX 2 25 (Qag.enc n),oS 2 104 l8 Qaa.enc,oM 151 l7 (mE Qar.enc Lf.bool),oX 6 59 (Qai.enc x1)]⟩⟩
def QoW (Γ:Gam) (rv:List Qaa) (n:Qag) (l:List Qaa) (l7:List (Qar×Bool)) (v1:Int) (x1:Qai) (r2:List Int) (l9:List Qaa):Prop:=Qe0 Γ rv ⟨[.c 261427,.b 4,.c 32679,.l 4084,.b 3,.c 511],⟨94,[vP 1 0 2,vO 3 1 2 l9 Qaa.enc,(8,one (.mp 2)),vP 10 3 6,vL 64 6 n.arcs Qai.enc,vI 65 (lenI n.arcs),vI 66 v1],[oX 2 25 (Qag.enc n),oS 2 104 l9 Qaa.enc,oM 151 l7 (mE Qar.enc Lf.bool),oX 6 59 (Qai.enc x1)]⟩⟩
def Qp4 (Γ:Gam) (rv:List Qaa) (n:Qag) (l:List Qaa) (l6:List Qaa) (l7:List (Qar×Bool)) (v1:Int):Prop:=Qe0 Γ rv ⟨[.c 4084,.l 4084,.b 3,.c 511],⟨94,[vP 1 0 2,vO 3 1 2 l6 Qaa.enc,(8,one (.mp 2)),vL 64 6 n.arcs Qai.enc,vI 65 (lenI n.arcs),vI 66 v1],[oX 2 25 (Qag.enc n),oS 2 104 l6 Qaa.enc,oM 151 l7 (mE Qar.enc Lf.bool)]⟩⟩
def QoV (Γ:Gam) (rv:List Qaa) (n:Qag) (l:List Qaa) (l10:List Qaa):Prop:=Qe0 Γ rv ⟨[.c 511],⟨94,[vO 3 0 2 l10 Qaa.enc],[oS 2 104 l10 Qaa.enc]⟩⟩
theorem Qj8 (Γ:Gam) (rv:List Qaa) {n l l2 v x0 l3} {x:(List Qaa×List (ByteArray×Bool)×Int)⊕(List Qaa)} (h:Qg4 n l l2 v x0 l3=some x) (hI:∀ s:List Qaa×List (ByteArray×Bool)×Int,x=.inl s→QkW Γ rv n l s.1 s.2.1 s.2.2) (hE:∀ e:List Qaa,x=.inr e→Qj9 Γ rv n l e):Qe0 Γ rv ⟨[.b 2,.c 64103,.b 1,.c 4007,.l 500,.b 0,.c 63],⟨94,[vP 1 0 2,vO 3 1 2 l3 Qaa.enc,(4,one (.mp 2)),vS 6 x0,vL 23 1 n.places QeA,vI 24 (lenI n.places),vI 25 v],[oX 2 25 (Qag.enc n),oS 2 104 l3 Qaa.enc,oM 150 l2 (mE kS Lf.bool)]⟩⟩:=by
 unfold Qg4 at h
 exact gn 5 [1,3,4,23,24,25] [0,1,2] [mU kqS Lf.bool l2 x0 true] (hI _ (oJ h))
theorem Quz (Γ:Gam) (rv:List Qaa) {n l} {s:List Qaa×List (ByteArray×Bool)×Int} {e:List Qaa} (h:QaX (fun s=>QdR n l s.1 s.2.1 s.2.2) s=some e) (hD:Qj9 Γ rv n l e):QkW Γ rv n l s.1 s.2.1 s.2.2:=by
 refine QaA (C:=fun (s:List Qaa×List (ByteArray×Bool)×Int)=>QkW Γ rv n l s.1 s.2.1 s.2.2) (D:=fun (e:List Qaa)=>Qj9 Γ rv n l e) ?_ h hD
 clear h hD s e
 rintro ⟨l1,l2,v⟩ z_ h hI hE
 replace h:QdR n l l1 l2 v=_:=h
 unfold QdR at h
 rcases Qak h with ⟨h2,h⟩|⟨h2,h⟩
 ·obtain ⟨x0,h3,h⟩:=Qae h
  obtain ⟨r,h4,h⟩:=Qae h
  obtain ⟨h5,h⟩:=Qat h
  obtain ⟨r1,h6,h⟩:=Qae h
  rcases Qak h with ⟨h7,h⟩|⟨h7,h⟩
  ·rcases Qak h with ⟨h8,h⟩|⟨h8,h⟩
   ·obtain ⟨h9,h⟩:=Qat h
    exact gn 20 [1,3,4,6,23,24,25] [0,4,2] [bT h2,cE QeA h3,cC (QhO h4),oO (h5),cC (Qb1 h6),nF h7,mG kqS Lf.bool l2 x0 false,bT h8,oO (Eq.refl ([(Qaa.mk 6 (catS QbU r))].map Qaa.enc).length),aO Qaa.enc h9] (Qj8 Γ rv h hI hE)
   ·exact gn 20 [1,3,4,6,23,24,25] [0,1,2] [bT h2,cE QeA h3,cC (QhO h4),oO (h5),cC (Qb1 h6),nF h7,mG kqS Lf.bool l2 x0 false,bF h8] (Qj8 Γ rv h hI hE)
  ·obtain ⟨h10,h⟩:=Qat h
   exact gn 17 [1,3,4,6,23,24,25] [0,4,2] [bT h2,cE QeA h3,cC (QhO h4),oO (h5),cC (Qb1 h6),nT h7,oO (Eq.refl ([(Qaa.mk 5 (catS QbU r))].map Qaa.enc).length),aO Qaa.enc h10] (Qj8 Γ rv h hI hE)
 ·exact gn 5 [1,3] [0,1] [bF h2] (hE _ (oJ h))
theorem QuB (Γ:Gam) (rv:List Qaa) {n l l7 v1 x1 r2} {s:List Qaa×Int} {e:List Qaa} (h:QaX (fun s=>QdT n l l7 v1 x1 r2 s.1 s.2) s=some e) (hD:QoW Γ rv n l l7 v1 x1 r2 e):Qp5 Γ rv n l l7 v1 x1 r2 s.1 s.2:=by
 refine QaA (C:=fun (s:List Qaa×Int)=>Qp5 Γ rv n l l7 v1 x1 r2 s.1 s.2) (D:=fun (e:List Qaa)=>QoW Γ rv n l l7 v1 x1 r2 e) ?_ h hD
 clear h hD s e
 rintro ⟨l8,v2⟩ z_ h hI hE
 replace h:QdT n l l7 v1 x1 r2 l8 v2=_:=h
 unfold QdT at h
 rcases Qak h with ⟨h17,h⟩|⟨h17,h⟩
 ·obtain ⟨x2,h18,h⟩:=Qae h
  obtain ⟨r3,h19,h⟩:=Qae h
  obtain ⟨h20,h⟩:=Qat h
  obtain ⟨h21,h⟩:=Qat h
  exact gn 13 [1,3,8,9,10,64,65,66,74,75,76] [0,5,2,3] [bT h17,cE Qaw h18,cC (QhO h19),oO (h20),oO (Eq.refl ([(Qaa.mk x2 (catS QaT r3))].map Qaa.enc).length),aO Qaa.enc h21] (hI _ (oJ h))
 ·exact gn 5 [1,3,8,10,64,65,66] [0,1,2,3] [bF h17] (hE _ (oJ h))
theorem QuA (Γ:Gam) (rv:List Qaa) {n l} {s:List Qaa×List (Qar×Bool)×Int} {e:List Qaa} (h:QaX (fun s=>QdS n l s.1 s.2.1 s.2.2) s=some e) (hD:QoV Γ rv n l e):Qp4 Γ rv n l s.1 s.2.1 s.2.2:=by
 refine QaA (C:=fun (s:List Qaa×List (Qar×Bool)×Int)=>Qp4 Γ rv n l s.1 s.2.1 s.2.2) (D:=fun (e:List Qaa)=>QoV Γ rv n l e) ?_ h hD
 clear h hD s e
 rintro ⟨l6,l7,v1⟩ z_ h hI hE
 replace h:QdS n l l6 l7 v1=_:=h
 unfold QdS at h
 rcases Qak h with ⟨h14,h⟩|⟨h14,h⟩
 ·obtain ⟨x1,h15,h⟩:=Qae h
  obtain ⟨r2,h16,h⟩:=Qae h
  obtain ⟨e1,h22,h⟩:=Qae h
  refine gn 14 [1,3,8,9,10,64,65,66,74,75,76] [0,1,2,3] [bT h14,cE Qai.enc h15,cI [2] (Qyr h16),nL Qaw r2] (QuB Γ rv h22 ?_)
  obtain ⟨l9,rfl⟩:∃ x,x=e1:=⟨_,rfl⟩
  replace h:(bnd (QfE x1) fun r4=>some (.inl (l9,(mPut Qar.keq l7 r4 true),(addK .i64 v1 1))):Option ((List Qaa×List (Qar×Bool)×Int)⊕(List Qaa)))=some _:=h
  obtain ⟨r4,h23,h⟩:=Qae h
  exact gn 4 [1,3,8,64,65,66] [0,1,2] [cC (Qf2 h23),mU Qar.kq Lf.bool l7 r4 true] (hI _ (oJ h))
 ·exact gn 5 [3] [1] [bF h14] (hE _ (oJ h))
theorem QoU (Γ:Gam) (rv:List Qaa) {n l l5} (h:Qe6 n l l5=some rv):Qe0 Γ rv ⟨[.c 127],⟨94,[vP 1 0 2,vO 3 1 2 l5 Qaa.enc],[oX 2 25 (Qag.enc n),oS 2 104 l5 Qaa.enc]⟩⟩:=by
 unfold Qe6 at h
 obtain ⟨e2,h24,h⟩:=Qae h
 refine gn 7 [1,3,8,64,65,66] [0,1,2] [nL Qai.enc n.arcs] (QuA Γ rv h24 ?_)
 obtain ⟨l10,rfl⟩:∃ x,x=e2:=⟨_,rfl⟩
 replace h:(some l10:Option (List Qaa))=some _:=h
 obtain rfl:=Option.some.inj h
 exact gr 2 [] [hW 4,hH (.frz 0),rp 3 (eL l10 Qaa.enc)]
theorem QoT (Γ:Gam) (rv:List Qaa) {n l} (h:Qg3 n l=some rv):Qe0 Γ rv ⟨[.c 15],⟨94,[vP 1 0 2,vO 3 1 2 l Qaa.enc],[oX 2 25 (Qag.enc n),oS 2 104 l Qaa.enc]⟩⟩:=by
 unfold Qg3 at h
 obtain ⟨e0,h11,h⟩:=Qae h
 refine gn 7 [1,3,4,23,24,25] [0,1,2] [nL QeA n.places] (Quz Γ rv h11 ?_)
 obtain ⟨l4,rfl⟩:∃ x,x=e0:=⟨_,rfl⟩
 replace h:(br (gtI (lenI n.arcs) 1024) (chk (okN (l4++[(Qaa.mk 4 Qg8)]).length 24) (Qe6 n l (l4++[(Qaa.mk 4 Qg8)]))) (Qe6 n l l4):Option (List Qaa))=some _:=h
 rcases Qak h with ⟨h12,h⟩|⟨h12,h⟩
 ·obtain ⟨h13,h⟩:=Qat h
  exact gn 5 [1,3] [0,3] [nL Qai.enc n.arcs,bT h12,oO (Eq.refl ([(Qaa.mk 4 Qg8)].map Qaa.enc).length),aO Qaa.enc h13] (QoU Γ rv h)
 ·exact gn 5 [1,3] [0,1] [nL Qai.enc n.arcs,bF h12] (QoU Γ rv h)
theorem Qw1 {n} {rv:List Qaa} (h:Ql1 n=some rv):AFn Tryz.prog 78 [.agg (Qag.enc n)] [] (one (lL 2 rv Qaa.enc)) []:=by
 refine QaG Tryz.func78 (by kernel_rfl) (by kernel_rfl) (fun Γ=>?_)
 unfold Ql1 at h
 rcases Qak h with ⟨h0,h⟩|⟨h0,h⟩
 ·obtain ⟨h1,h⟩:=Qat h
  exact gn 9 [1,3] [0,2] [nL QeA n.places,bT h0,oO (Eq.refl ([(Qaa.mk 4 Qd6)].map Qaa.enc).length),aN (l:=([(Qaa.mk 4 Qd6)]:List Qaa)) Qaa.enc h1] (QoT Γ rv h)
 ·exact gn 9 [1,3] [0,1] [nL QeA n.places,bF h0,hW 1,hH (.adopt 3 2 104)] (QoT Γ rv h)
theorem Qam {n least most} {rv:Bool} (h:Qa5 n least most=some rv):AFn Tryz.prog 117 [.one (lI n),.one (lI least),.one (lI most)] [] (one (.bool rv)) []:=by
 refine QaG Tryz.func117 (by kernel_rfl) (by kernel_rfl) (fun Γ=>?_)
 unfold Qa5 at h
 obtain rfl:=Option.some.inj h
 exact gr 4 [] [rp 4 hP,rp 2 (oI ((geI n least)=true)),oR True ((geI n least)=true)]
theorem QoI {n} {rv:Bool} (h:QjN n=some rv):AFn Tryz.prog 182 [.one (lI n)] [] (one (.bool rv)) []:=by
 refine QaG Tryz.func182 (by kernel_rfl) (by kernel_rfl) (fun Γ=>?_)
 unfold QjN at h
 obtain ⟨r,h0,h⟩:=Qae h
 obtain rfl:=Option.some.inj h
 exact gr 4 [] [cC (Qam h0)]
def Qfd (Γ:Gam) (rv:Int) (cf:Cf):Prop:=Go Tryz.prog Tryz.f208 [] Γ (one (lI rv)) [] cf
def QeH (Γ:Gam) (rv:Int) (s0:List Int) (v:Int):Prop:=Qfd Γ rv ⟨[.c 52,.l 52,.b 0,.c 7],⟨19,[vL 0 1 s0 Qaw,(1,one (.fn (.func 182) [])),vI 7 (lenI s0),vI 8 v],[]⟩⟩
def Qew (Γ:Gam) (rv:Int) (s0:List Int):Prop:=Qfd Γ rv ⟨[.c 7],⟨19,[],[]⟩⟩
theorem Qhv (Γ:Gam) (rv:Int) {s0} {s:Int} {e:(Unit)⊕(Int)} (h:QaX (fun s=>QaS s0 s) s=some e) (hD:sel e (fun e=>Qew Γ rv s0) (fun e=>e=rv)):QeH Γ rv s0 s:=by
 refine QaA (C:=fun (s:Int)=>QeH Γ rv s0 s) (D:=fun (e:(Unit)⊕(Int))=>sel e (fun e=>Qew Γ rv s0) (fun e=>e=rv)) ?_ h hD
 clear h hD s e
 intro v z_ h hI hE
 replace h:QaS s0 v=_:=h
 unfold QaS at h
 rcases Qak h with ⟨h0,h⟩|⟨h0,h⟩
 ·obtain ⟨x0,h1,h⟩:=Qae h
  obtain ⟨r,h2,h⟩:=Qae h
  rcases Qak h with ⟨h3,h⟩|⟨h3,h⟩
  ·obtain rfl:=(hE _ (oJ h):_=rv)
   exact gr 14 [] [bT h0,cE Qaw h1,cC (QoI h2),bT h3]
  ·exact gn 16 [0,1,7,8] [] [bT h0,cE Qaw h1,cC (QoI h2),bF h3] (hI _ (oJ h))
 ·exact gn 5 [] [] [bF h0] (hE _ (oJ h))
theorem Qh5 {s0} {rv:Int} (h:Qct s0=some rv):AFn Tryz.prog 208 [.one (lL 1 s0 Qaw),.one (.fn (.func 182) [])] [] (one (lI rv)) []:=by
 refine QaG Tryz.func208 (by kernel_rfl) (by kernel_rfl) (fun Γ=>?_)
 unfold Qct at h
 obtain ⟨e0,h4,h⟩:=Qae h
 refine gn 7 [0,1,7,8] [] [nL Qaw s0] (Qhv Γ rv h4 ?_)
 rcases e0 with e0|e0
 ·replace h:(some (-1):Option Int)=some _:=h
  obtain rfl:=Option.some.inj h
  exact gr 2 [] []
 ·obtain ⟨r1,rfl⟩:∃ x,x=e0:=⟨_,rfl⟩
  replace h:(some r1:Option Int)=some _:=h
  exact Option.some.inj h
theorem Qht {s0} {rv:Bool} (h:Qbz s0=some rv):AFn Tryz.prog 181 [.one (lL 1 s0 Qaw),.one (.fn (.func 182) [])] [] (one (.bool rv)) []:=by
 refine QaG Tryz.func181 (by kernel_rfl) (by kernel_rfl) (fun Γ=>?_)
 unfold Qbz at h
 obtain ⟨r,h0,h⟩:=Qae h
 obtain rfl:=Option.some.inj h
 exact gr 4 [] [cC (Qh5 h0)]
theorem QbA {l first_} {rv:Bool} (h:Qio l first_=some rv):AFn Tryz.prog 153 [.one (lL 1 l Qaw),.one (lL 1 first_ Qaw)] [] (one (.bool rv)) []:=by
 refine QaG Tryz.func153 (by kernel_rfl) (by kernel_rfl) (fun Γ=>?_)
 unfold Qio at h
 obtain ⟨r,h0,h⟩:=Qae h
 rcases Qak h with ⟨h1,h⟩|⟨h1,h⟩
 ·obtain rfl:=Option.some.inj h
  exact gr 8 [] [nL Qaw l,cC (Qam h0),hP,hP,oI ((!r)=false),nL Qaw l,hP,hP,oI ((!r)=false),nL Qaw first_,hP,hP,rp 2 (oI ((!r)=false)),oR True ((!r)=false),bT h1]
 ·obtain ⟨r1,h2,h⟩:=Qae h
  obtain rfl:=Option.some.inj h
  exact gr 9 [] [nL Qaw l,cC (Qam h0),hP,hP,oI ((!r)=false),nL Qaw l,hP,hP,oI ((!r)=false),nL Qaw first_,hP,hP,rp 2 (oI ((!r)=false)),oR True ((!r)=false),bF h1,cC (Qht h2)]
theorem Qah {right e0 c} {rv:List Int} (h:QaL right e0 c=some rv):AFn Tryz.prog 151 [.one (.bool right),.one (lI e0),.one (.op 0 1 0 0)] [bX 1 107 [lO 1 1 c Qaw],bS 1 33 c Qaw] (.tup []) [oX 1 107 [lO 1 1 rv Qaw],oS 1 33 rv Qaw]:=by
 refine QaG Tryz.func151 (by kernel_rfl) (by kernel_rfl) (fun Γ=>?_)
 unfold QaL at h
 rcases Qak h with ⟨h0,h⟩|⟨h0,h⟩
 ·obtain rfl:=Option.some.inj h
  exact gr 4 [0,1] [nF h0]
 ·obtain ⟨h1,h⟩:=Qat h
  obtain rfl:=Option.some.inj h
  exact gr 4 [0,3] [nT h0,oO (Eq.refl ([e0].map Qaw).length),aO Qaw h1]
theorem Qq7 {x0 c} {rv:Bool} (h:Qng x0 c=some rv):AFn Tryz.prog 152 [.agg (Qaf.enc x0),.one (.ip (Qaf.enc c) 0)] [] (one (.bool rv)) []:=by
 refine QaG Tryz.func152 (by kernel_rfl) (by kernel_rfl) (fun Γ=>?_)
 unfold Qng at h
 obtain rfl:=Option.some.inj h
 exact gr 4 [] []
def QdV (Γ:Gam) (rv:Int) (cf:Cf):Prop:=Go Tryz.prog Tryz.f124 [] Γ (one (lI rv)) [] cf
def Qdg (Γ:Gam) (rv:Int) (s0:List Qaf) (c:Qaf) (v:Int):Prop:=QdV Γ rv ⟨[.c 52,.l 52,.b 0,.c 7],⟨19,[vL 0 14 s0 Qaf.enc,(1,one (.fn (.func 152) [.ip (Qaf.enc c) 0])),vI 7 (lenI s0),vI 8 v],[]⟩⟩
def Qc7 (Γ:Gam) (rv:Int) (s0:List Qaf) (c:Qaf):Prop:=QdV Γ rv ⟨[.c 7],⟨19,[],[]⟩⟩
theorem Qf6 (Γ:Gam) (rv:Int) {s0 c} {s:Int} {e:(Unit)⊕(Int)} (h:QaX (fun s=>QaF s0 c s) s=some e) (hD:sel e (fun e=>Qc7 Γ rv s0 c) (fun e=>e=rv)):Qdg Γ rv s0 c s:=by
 refine QaA (C:=fun (s:Int)=>Qdg Γ rv s0 c s) (D:=fun (e:(Unit)⊕(Int))=>sel e (fun e=>Qc7 Γ rv s0 c) (fun e=>e=rv)) ?_ h hD
 clear h hD s e
 intro v z_ h hI hE
 replace h:QaF s0 c v=_:=h
 unfold QaF at h
 rcases Qak h with ⟨h0,h⟩|⟨h0,h⟩
 ·obtain ⟨x0,h1,h⟩:=Qae h
  obtain ⟨r,h2,h⟩:=Qae h
  rcases Qak h with ⟨h3,h⟩|⟨h3,h⟩
  ·obtain rfl:=(hE _ (oJ h):_=rv)
   exact gr 14 [] [bT h0,cE Qaf.enc h1,cC (Qq7 h2),bT h3]
  ·exact gn 16 [0,1,7,8] [] [bT h0,cE Qaf.enc h1,cC (Qq7 h2),bF h3] (hI _ (oJ h))
 ·exact gn 5 [] [] [bF h0] (hE _ (oJ h))
theorem Qgy {s0 c} {rv:Int} (h:QbL s0 c=some rv):AFn Tryz.prog 124 [.one (lL 14 s0 Qaf.enc),.one (.fn (.func 152) [.ip (Qaf.enc c) 0])] [] (one (lI rv)) []:=by
 refine QaG Tryz.func124 (by kernel_rfl) (by kernel_rfl) (fun Γ=>?_)
 unfold QbL at h
 obtain ⟨e0,h4,h⟩:=Qae h
 refine gn 7 [0,1,7,8] [] [nL Qaf.enc s0] (Qf6 Γ rv h4 ?_)
 rcases e0 with e0|e0
 ·replace h:(some (-1):Option Int)=some _:=h
  obtain rfl:=Option.some.inj h
  exact gr 2 [] []
 ·obtain ⟨r1,rfl⟩:∃ x,x=e0:=⟨_,rfl⟩
  replace h:(some r1:Option Int)=some _:=h
  exact Option.some.inj h
theorem Qas {s0 c} {rv:Bool} (h:Qbd s0 c=some rv):AFn Tryz.prog 86 [.one (lL 14 s0 Qaf.enc),.one (.fn (.func 152) [.ip (Qaf.enc c) 0])] [] (one (.bool rv)) []:=by
 refine QaG Tryz.func86 (by kernel_rfl) (by kernel_rfl) (fun Γ=>?_)
 unfold Qbd at h
 obtain ⟨r,h0,h⟩:=Qae h
 obtain rfl:=Option.some.inj h
 exact gr 4 [] [cC (Qgy h0)]
theorem Qxx {n l i} {rv:List Int} (h:QnI n l i=some rv):AFn Tryz.prog 118 [.agg (Qag.enc n),.one (lL 14 l Qaf.enc),.one (lI i)] [] (one (lL 1 rv Qaw)) []:=by
 refine QaG Tryz.func118 (by kernel_rfl) (by kernel_rfl) (fun Γ=>?_)
 unfold QnI at h
 obtain ⟨x0,h0,h⟩:=Qae h
 obtain ⟨r,h1,h⟩:=Qae h
 obtain ⟨r1,h2,h⟩:=Qae h
 obtain ⟨l1,h3,h⟩:=Qae h
 obtain ⟨r2,h4,h⟩:=Qae h
 obtain ⟨r3,h5,h⟩:=Qae h
 obtain ⟨r4,h6,h⟩:=Qae h
 obtain ⟨r5,h7,h⟩:=Qae h
 obtain ⟨r6,h8,h⟩:=Qae h
 rcases Qak h with ⟨h9,h⟩|⟨h9,h⟩
 ·obtain ⟨r7,h10,h⟩:=Qae h
  obtain ⟨r8,h11,h⟩:=Qae h
  obtain ⟨x1,h12,h⟩:=Qae h
  obtain ⟨r9,h13,h⟩:=Qae h
  obtain ⟨r10,h14,h⟩:=Qae h
  obtain ⟨r11,h15,h⟩:=Qae h
  obtain ⟨r12,h16,h⟩:=Qae h
  obtain ⟨r13,h17,h⟩:=Qae h
  obtain ⟨r14,h18,h⟩:=Qae h
  obtain ⟨r15,h19,h⟩:=Qae h
  rcases Qak h with ⟨h20,h⟩|⟨h20,h⟩
  ·obtain ⟨r16,h21,h⟩:=Qae h
   obtain ⟨r17,h22,h⟩:=Qae h
   obtain ⟨r18,h23,h⟩:=Qae h
   rcases Qak h with ⟨h24,h⟩|⟨h24,h⟩
   ·obtain ⟨r19,h25,h⟩:=Qae h
    rcases Qak h with ⟨h26,h⟩|⟨h26,h⟩
    ·obtain ⟨r20,h27,h⟩:=Qae h
     rcases Qak h with ⟨h28,h⟩|⟨h28,h⟩
     ·obtain ⟨r21,h29,h⟩:=Qae h
      obtain ⟨r22,h30,h⟩:=Qae h
      obtain rfl:=Option.some.inj h
      exact gr 30 [] [cE Qaf.enc h0,nL QeA n.places,cC (Qb1 h1),hH (.adoptB 1 0 1 33),cI [1,3] (Qah h2),hH (.rows (l1.map Qaf.enc)),oO (sl1 h3),oO (sl2 h3),oO (sl3 Qaf.enc h3),oO (Int.le_refl i),oO (sl3 Qaf.enc h3),oO (sl6 Qaf.enc h3),cC (Qas h4),cI [1,4] (Qah h5),cC (Qam h6),cI [1,5] (Qah h7),cC (Qam h8),rp 4 (bT h9),cC (Qam h10),bT h9,cI [1,6] (Qah h11),hH (.draw 9 [(1,8),(7,8)]),cE Qaf.enc h12,cC (QbA h13),cI [1,7] (Qah h14),cC (Qam h15),cI [1,8] (Qah h16),cC (Qam h17),rp 4 hP,rp 2 (oI (r13=true)),oR True (r13=true),cI [1,9] (Qah h18),cC (Qam h19),rp 3 (bT h20),cC (Qam h21),bT h20,cI [1,10] (Qah h22),cC (Qam h23),rp 3 (bT h24),cC (Qam h25),bT h24,rp 3 (bT h26),cC (Qam h27),bT h26,rp 3 (bT h28),cC (Qam h29),bT h28,cI [1,11] (Qah h30),hW 4,hH (.frz 12),rp 3 (eL r22 Qaw)]
     ·obtain ⟨r23,h31,h⟩:=Qae h
      obtain rfl:=Option.some.inj h
      exact gr 30 [] [cE Qaf.enc h0,nL QeA n.places,cC (Qb1 h1),hH (.adoptB 1 0 1 33),cI [1,3] (Qah h2),hH (.rows (l1.map Qaf.enc)),oO (sl1 h3),oO (sl2 h3),oO (sl3 Qaf.enc h3),oO (Int.le_refl i),oO (sl3 Qaf.enc h3),oO (sl6 Qaf.enc h3),cC (Qas h4),cI [1,4] (Qah h5),cC (Qam h6),cI [1,5] (Qah h7),cC (Qam h8),rp 4 (bT h9),cC (Qam h10),bT h9,cI [1,6] (Qah h11),hH (.draw 9 [(1,8),(7,8)]),cE Qaf.enc h12,cC (QbA h13),cI [1,7] (Qah h14),cC (Qam h15),cI [1,8] (Qah h16),cC (Qam h17),rp 4 hP,rp 2 (oI (r13=true)),oR True (r13=true),cI [1,9] (Qah h18),cC (Qam h19),rp 3 (bT h20),cC (Qam h21),bT h20,cI [1,10] (Qah h22),cC (Qam h23),rp 3 (bT h24),cC (Qam h25),bT h24,rp 3 (bT h26),cC (Qam h27),bT h26,rp 4 (bF h28),cI [1,11] (Qah h31),hW 4,hH (.frz 12),rp 3 (eL r23 Qaw)]
    ·obtain ⟨r24,h32,h⟩:=Qae h
     obtain rfl:=Option.some.inj h
     exact gr 30 [] [cE Qaf.enc h0,nL QeA n.places,cC (Qb1 h1),hH (.adoptB 1 0 1 33),cI [1,3] (Qah h2),hH (.rows (l1.map Qaf.enc)),oO (sl1 h3),oO (sl2 h3),oO (sl3 Qaf.enc h3),oO (Int.le_refl i),oO (sl3 Qaf.enc h3),oO (sl6 Qaf.enc h3),cC (Qas h4),cI [1,4] (Qah h5),cC (Qam h6),cI [1,5] (Qah h7),cC (Qam h8),rp 4 (bT h9),cC (Qam h10),bT h9,cI [1,6] (Qah h11),hH (.draw 9 [(1,8),(7,8)]),cE Qaf.enc h12,cC (QbA h13),cI [1,7] (Qah h14),cC (Qam h15),cI [1,8] (Qah h16),cC (Qam h17),rp 4 hP,rp 2 (oI (r13=true)),oR True (r13=true),cI [1,9] (Qah h18),cC (Qam h19),rp 3 (bT h20),cC (Qam h21),bT h20,cI [1,10] (Qah h22),cC (Qam h23),rp 3 (bT h24),cC (Qam h25),bT h24,rp 4 (bF h26),rp 4 fF,cI [1,11] (Qah h32),hW 4,hH (.frz 12),rp 3 (eL r24 Qaw)]
   ·obtain ⟨r25,h33,h⟩:=Qae h
    obtain rfl:=Option.some.inj h
    exact gr 30 [] [cE Qaf.enc h0,nL QeA n.places,cC (Qb1 h1),hH (.adoptB 1 0 1 33),cI [1,3] (Qah h2),hH (.rows (l1.map Qaf.enc)),oO (sl1 h3),oO (sl2 h3),oO (sl3 Qaf.enc h3),oO (Int.le_refl i),oO (sl3 Qaf.enc h3),oO (sl6 Qaf.enc h3),cC (Qas h4),cI [1,4] (Qah h5),cC (Qam h6),cI [1,5] (Qah h7),cC (Qam h8),rp 4 (bT h9),cC (Qam h10),bT h9,cI [1,6] (Qah h11),hH (.draw 9 [(1,8),(7,8)]),cE Qaf.enc h12,cC (QbA h13),cI [1,7] (Qah h14),cC (Qam h15),cI [1,8] (Qah h16),cC (Qam h17),rp 4 hP,rp 2 (oI (r13=true)),oR True (r13=true),cI [1,9] (Qah h18),cC (Qam h19),rp 3 (bT h20),cC (Qam h21),bT h20,cI [1,10] (Qah h22),cC (Qam h23),rp 4 (bF h24),rp 8 fF,cI [1,11] (Qah h33),hW 4,hH (.frz 12),rp 3 (eL r25 Qaw)]
  ·obtain ⟨r26,h34,h⟩:=Qae h
   obtain ⟨r27,h35,h⟩:=Qae h
   rcases Qak h with ⟨h36,h⟩|⟨h36,h⟩
   ·obtain ⟨r28,h37,h⟩:=Qae h
    rcases Qak h with ⟨h38,h⟩|⟨h38,h⟩
    ·obtain ⟨r29,h39,h⟩:=Qae h
     rcases Qak h with ⟨h40,h⟩|⟨h40,h⟩
     ·obtain ⟨r30,h41,h⟩:=Qae h
      obtain ⟨r31,h42,h⟩:=Qae h
      obtain rfl:=Option.some.inj h
      exact gr 30 [] [cE Qaf.enc h0,nL QeA n.places,cC (Qb1 h1),hH (.adoptB 1 0 1 33),cI [1,3] (Qah h2),hH (.rows (l1.map Qaf.enc)),oO (sl1 h3),oO (sl2 h3),oO (sl3 Qaf.enc h3),oO (Int.le_refl i),oO (sl3 Qaf.enc h3),oO (sl6 Qaf.enc h3),cC (Qas h4),cI [1,4] (Qah h5),cC (Qam h6),cI [1,5] (Qah h7),cC (Qam h8),rp 4 (bT h9),cC (Qam h10),bT h9,cI [1,6] (Qah h11),hH (.draw 9 [(1,8),(7,8)]),cE Qaf.enc h12,cC (QbA h13),cI [1,7] (Qah h14),cC (Qam h15),cI [1,8] (Qah h16),cC (Qam h17),rp 4 hP,rp 2 (oI (r13=true)),oR True (r13=true),cI [1,9] (Qah h18),cC (Qam h19),rp 4 (bF h20),cI [1,10] (Qah h34),cC (Qam h35),rp 3 (bT h36),cC (Qam h37),bT h36,rp 3 (bT h38),cC (Qam h39),bT h38,rp 3 (bT h40),cC (Qam h41),bT h40,cI [1,11] (Qah h42),hW 4,hH (.frz 12),rp 3 (eL r31 Qaw)]
     ·obtain ⟨r32,h43,h⟩:=Qae h
      obtain rfl:=Option.some.inj h
      exact gr 30 [] [cE Qaf.enc h0,nL QeA n.places,cC (Qb1 h1),hH (.adoptB 1 0 1 33),cI [1,3] (Qah h2),hH (.rows (l1.map Qaf.enc)),oO (sl1 h3),oO (sl2 h3),oO (sl3 Qaf.enc h3),oO (Int.le_refl i),oO (sl3 Qaf.enc h3),oO (sl6 Qaf.enc h3),cC (Qas h4),cI [1,4] (Qah h5),cC (Qam h6),cI [1,5] (Qah h7),cC (Qam h8),rp 4 (bT h9),cC (Qam h10),bT h9,cI [1,6] (Qah h11),hH (.draw 9 [(1,8),(7,8)]),cE Qaf.enc h12,cC (QbA h13),cI [1,7] (Qah h14),cC (Qam h15),cI [1,8] (Qah h16),cC (Qam h17),rp 4 hP,rp 2 (oI (r13=true)),oR True (r13=true),cI [1,9] (Qah h18),cC (Qam h19),rp 4 (bF h20),cI [1,10] (Qah h34),cC (Qam h35),rp 3 (bT h36),cC (Qam h37),bT h36,rp 3 (bT h38),cC (Qam h39),bT h38,rp 4 (bF h40),cI [1,11] (Qah h43),hW 4,hH (.frz 12),rp 3 (eL r32 Qaw)]
    ·obtain ⟨r33,h44,h⟩:=Qae h
     obtain rfl:=Option.some.inj h
     exact gr 30 [] [cE Qaf.enc h0,nL QeA n.places,cC (Qb1 h1),hH (.adoptB 1 0 1 33),cI [1,3] (Qah h2),hH (.rows (l1.map Qaf.enc)),oO (sl1 h3),oO (sl2 h3),oO (sl3 Qaf.enc h3),oO (Int.le_refl i),oO (sl3 Qaf.enc h3),oO (sl6 Qaf.enc h3),cC (Qas h4),cI [1,4] (Qah h5),cC (Qam h6),cI [1,5] (Qah h7),cC (Qam h8),rp 4 (bT h9),cC (Qam h10),bT h9,cI [1,6] (Qah h11),hH (.draw 9 [(1,8),(7,8)]),cE Qaf.enc h12,cC (QbA h13),cI [1,7] (Qah h14),cC (Qam h15),cI [1,8] (Qah h16),cC (Qam h17),rp 4 hP,rp 2 (oI (r13=true)),oR True (r13=true),cI [1,9] (Qah h18),cC (Qam h19),rp 4 (bF h20),cI [1,10] (Qah h34),cC (Qam h35),rp 3 (bT h36),cC (Qam h37),bT h36,rp 4 (bF h38),rp 4 fF,cI [1,11] (Qah h44),hW 4,hH (.frz 12),rp 3 (eL r33 Qaw)]
   ·obtain ⟨r34,h45,h⟩:=Qae h
    obtain rfl:=Option.some.inj h
    exact gr 30 [] [cE Qaf.enc h0,nL QeA n.places,cC (Qb1 h1),hH (.adoptB 1 0 1 33),cI [1,3] (Qah h2),hH (.rows (l1.map Qaf.enc)),oO (sl1 h3),oO (sl2 h3),oO (sl3 Qaf.enc h3),oO (Int.le_refl i),oO (sl3 Qaf.enc h3),oO (sl6 Qaf.enc h3),cC (Qas h4),cI [1,4] (Qah h5),cC (Qam h6),cI [1,5] (Qah h7),cC (Qam h8),rp 4 (bT h9),cC (Qam h10),bT h9,cI [1,6] (Qah h11),hH (.draw 9 [(1,8),(7,8)]),cE Qaf.enc h12,cC (QbA h13),cI [1,7] (Qah h14),cC (Qam h15),cI [1,8] (Qah h16),cC (Qam h17),rp 4 hP,rp 2 (oI (r13=true)),oR True (r13=true),cI [1,9] (Qah h18),cC (Qam h19),rp 4 (bF h20),cI [1,10] (Qah h34),cC (Qam h35),rp 4 (bF h36),rp 8 fF,cI [1,11] (Qah h45),hW 4,hH (.frz 12),rp 3 (eL r34 Qaw)]
 ·obtain ⟨r35,h46,h⟩:=Qae h
  obtain ⟨x2,h47,h⟩:=Qae h
  obtain ⟨r36,h48,h⟩:=Qae h
  obtain ⟨r37,h49,h⟩:=Qae h
  obtain ⟨r38,h50,h⟩:=Qae h
  obtain ⟨r39,h51,h⟩:=Qae h
  obtain ⟨r40,h52,h⟩:=Qae h
  obtain ⟨r41,h53,h⟩:=Qae h
  obtain ⟨r42,h54,h⟩:=Qae h
  rcases Qak h with ⟨h55,h⟩|⟨h55,h⟩
  ·obtain ⟨r43,h56,h⟩:=Qae h
   obtain ⟨r44,h57,h⟩:=Qae h
   obtain ⟨r45,h58,h⟩:=Qae h
   rcases Qak h with ⟨h59,h⟩|⟨h59,h⟩
   ·obtain ⟨r46,h60,h⟩:=Qae h
    rcases Qak h with ⟨h61,h⟩|⟨h61,h⟩
    ·obtain ⟨r47,h62,h⟩:=Qae h
     rcases Qak h with ⟨h63,h⟩|⟨h63,h⟩
     ·obtain ⟨r48,h64,h⟩:=Qae h
      obtain ⟨r49,h65,h⟩:=Qae h
      obtain rfl:=Option.some.inj h
      exact gr 30 [] [cE Qaf.enc h0,nL QeA n.places,cC (Qb1 h1),hH (.adoptB 1 0 1 33),cI [1,3] (Qah h2),hH (.rows (l1.map Qaf.enc)),oO (sl1 h3),oO (sl2 h3),oO (sl3 Qaf.enc h3),oO (Int.le_refl i),oO (sl3 Qaf.enc h3),oO (sl6 Qaf.enc h3),cC (Qas h4),cI [1,4] (Qah h5),cC (Qam h6),cI [1,5] (Qah h7),cC (Qam h8),rp 5 (bF h9),cI [1,6] (Qah h46),hH (.draw 9 [(1,8),(7,8)]),cE Qaf.enc h47,cC (QbA h48),cI [1,7] (Qah h49),cC (Qam h50),cI [1,8] (Qah h51),cC (Qam h52),rp 4 hP,rp 2 (oI (r40=true)),oR True (r40=true),cI [1,9] (Qah h53),cC (Qam h54),rp 3 (bT h55),cC (Qam h56),bT h55,cI [1,10] (Qah h57),cC (Qam h58),rp 3 (bT h59),cC (Qam h60),bT h59,rp 3 (bT h61),cC (Qam h62),bT h61,rp 3 (bT h63),cC (Qam h64),bT h63,cI [1,11] (Qah h65),hW 4,hH (.frz 12),rp 3 (eL r49 Qaw)]
     ·obtain ⟨r50,h66,h⟩:=Qae h
      obtain rfl:=Option.some.inj h
      exact gr 30 [] [cE Qaf.enc h0,nL QeA n.places,cC (Qb1 h1),hH (.adoptB 1 0 1 33),cI [1,3] (Qah h2),hH (.rows (l1.map Qaf.enc)),oO (sl1 h3),oO (sl2 h3),oO (sl3 Qaf.enc h3),oO (Int.le_refl i),oO (sl3 Qaf.enc h3),oO (sl6 Qaf.enc h3),cC (Qas h4),cI [1,4] (Qah h5),cC (Qam h6),cI [1,5] (Qah h7),cC (Qam h8),rp 5 (bF h9),cI [1,6] (Qah h46),hH (.draw 9 [(1,8),(7,8)]),cE Qaf.enc h47,cC (QbA h48),cI [1,7] (Qah h49),cC (Qam h50),cI [1,8] (Qah h51),cC (Qam h52),rp 4 hP,rp 2 (oI (r40=true)),oR True (r40=true),cI [1,9] (Qah h53),cC (Qam h54),rp 3 (bT h55),cC (Qam h56),bT h55,cI [1,10] (Qah h57),cC (Qam h58),rp 3 (bT h59),cC (Qam h60),bT h59,rp 3 (bT h61),cC (Qam h62),bT h61,rp 4 (bF h63),cI [1,11] (Qah h66),hW 4,hH (.frz 12),rp 3 (eL r50 Qaw)]
    ·obtain ⟨r51,h67,h⟩:=Qae h
     obtain rfl:=Option.some.inj h
     exact gr 30 [] [cE Qaf.enc h0,nL QeA n.places,cC (Qb1 h1),hH (.adoptB 1 0 1 33),cI [1,3] (Qah h2),hH (.rows (l1.map Qaf.enc)),oO (sl1 h3),oO (sl2 h3),oO (sl3 Qaf.enc h3),oO (Int.le_refl i),oO (sl3 Qaf.enc h3),oO (sl6 Qaf.enc h3),cC (Qas h4),cI [1,4] (Qah h5),cC (Qam h6),cI [1,5] (Qah h7),cC (Qam h8),rp 5 (bF h9),cI [1,6] (Qah h46),hH (.draw 9 [(1,8),(7,8)]),cE Qaf.enc h47,cC (QbA h48),cI [1,7] (Qah h49),cC (Qam h50),cI [1,8] (Qah h51),cC (Qam h52),rp 4 hP,rp 2 (oI (r40=true)),oR True (r40=true),cI [1,9] (Qah h53),cC (Qam h54),rp 3 (bT h55),cC (Qam h56),bT h55,cI [1,10] (Qah h57),cC (Qam h58),rp 3 (bT h59),cC (Qam h60),bT h59,rp 4 (bF h61),rp 4 fF,cI [1,11] (Qah h67),hW 4,hH (.frz 12),rp 3 (eL r51 Qaw)]
   ·obtain ⟨r52,h68,h⟩:=Qae h
    obtain rfl:=Option.some.inj h
    exact gr 30 [] [cE Qaf.enc h0,nL QeA n.places,cC (Qb1 h1),hH (.adoptB 1 0 1 33),cI [1,3] (Qah h2),hH (.rows (l1.map Qaf.enc)),oO (sl1 h3),oO (sl2 h3),oO (sl3 Qaf.enc h3),oO (Int.le_refl i),oO (sl3 Qaf.enc h3),oO (sl6 Qaf.enc h3),cC (Qas h4),cI [1,4] (Qah h5),cC (Qam h6),cI [1,5] (Qah h7),cC (Qam h8),rp 5 (bF h9),cI [1,6] (Qah h46),hH (.draw 9 [(1,8),(7,8)]),cE Qaf.enc h47,cC (QbA h48),cI [1,7] (Qah h49),cC (Qam h50),cI [1,8] (Qah h51),cC (Qam h52),rp 4 hP,rp 2 (oI (r40=true)),oR True (r40=true),cI [1,9] (Qah h53),cC (Qam h54),rp 3 (bT h55),cC (Qam h56),bT h55,cI [1,10] (Qah h57),cC (Qam h58),rp 4 (bF h59),rp 8 fF,cI [1,11] (Qah h68),hW 4,hH (.frz 12),rp 3 (eL r52 Qaw)]
  ·obtain ⟨r53,h69,h⟩:=Qae h
   obtain ⟨r54,h70,h⟩:=Qae h
   rcases Qak h with ⟨h71,h⟩|⟨h71,h⟩
   ·obtain ⟨r55,h72,h⟩:=Qae h
    rcases Qak h with ⟨h73,h⟩|⟨h73,h⟩
    ·obtain ⟨r56,h74,h⟩:=Qae h
     rcases Qak h with ⟨h75,h⟩|⟨h75,h⟩
     ·obtain ⟨r57,h76,h⟩:=Qae h
      obtain ⟨r58,h77,h⟩:=Qae h
      obtain rfl:=Option.some.inj h
      exact gr 30 [] [cE Qaf.enc h0,nL QeA n.places,cC (Qb1 h1),hH (.adoptB 1 0 1 33),cI [1,3] (Qah h2),hH (.rows (l1.map Qaf.enc)),oO (sl1 h3),oO (sl2 h3),oO (sl3 Qaf.enc h3),oO (Int.le_refl i),oO (sl3 Qaf.enc h3),oO (sl6 Qaf.enc h3),cC (Qas h4),cI [1,4] (Qah h5),cC (Qam h6),cI [1,5] (Qah h7),cC (Qam h8),rp 5 (bF h9),cI [1,6] (Qah h46),hH (.draw 9 [(1,8),(7,8)]),cE Qaf.enc h47,cC (QbA h48),cI [1,7] (Qah h49),cC (Qam h50),cI [1,8] (Qah h51),cC (Qam h52),rp 4 hP,rp 2 (oI (r40=true)),oR True (r40=true),cI [1,9] (Qah h53),cC (Qam h54),rp 4 (bF h55),cI [1,10] (Qah h69),cC (Qam h70),rp 3 (bT h71),cC (Qam h72),bT h71,rp 3 (bT h73),cC (Qam h74),bT h73,rp 3 (bT h75),cC (Qam h76),bT h75,cI [1,11] (Qah h77),hW 4,hH (.frz 12),rp 3 (eL r58 Qaw)]
     ·obtain ⟨r59,h78,h⟩:=Qae h
      obtain rfl:=Option.some.inj h
      exact gr 30 [] [cE Qaf.enc h0,nL QeA n.places,cC (Qb1 h1),hH (.adoptB 1 0 1 33),cI [1,3] (Qah h2),hH (.rows (l1.map Qaf.enc)),oO (sl1 h3),oO (sl2 h3),oO (sl3 Qaf.enc h3),oO (Int.le_refl i),oO (sl3 Qaf.enc h3),oO (sl6 Qaf.enc h3),cC (Qas h4),cI [1,4] (Qah h5),cC (Qam h6),cI [1,5] (Qah h7),cC (Qam h8),rp 5 (bF h9),cI [1,6] (Qah h46),hH (.draw 9 [(1,8),(7,8)]),cE Qaf.enc h47,cC (QbA h48),cI [1,7] (Qah h49),cC (Qam h50),cI [1,8] (Qah h51),cC (Qam h52),rp 4 hP,rp 2 (oI (r40=true)),oR True (r40=true),cI [1,9] (Qah h53),cC (Qam h54),rp 4 (bF h55),cI [1,10] (Qah h69),cC (Qam h70),rp 3 (bT h71),cC (Qam h72),bT h71,rp 3 (bT h73),cC (Qam h74),bT h73,rp 4 (bF h75),cI [1,11] (Qah h78),hW 4,hH (.frz 12),rp 3 (eL r59 Qaw)]
    ·obtain ⟨r60,h79,h⟩:=Qae h
     obtain rfl:=Option.some.inj h
     exact gr 30 [] [cE Qaf.enc h0,nL QeA n.places,cC (Qb1 h1),hH (.adoptB 1 0 1 33),cI [1,3] (Qah h2),hH (.rows (l1.map Qaf.enc)),oO (sl1 h3),oO (sl2 h3),oO (sl3 Qaf.enc h3),oO (Int.le_refl i),oO (sl3 Qaf.enc h3),oO (sl6 Qaf.enc h3),cC (Qas h4),cI [1,4] (Qah h5),cC (Qam h6),cI [1,5] (Qah h7),cC (Qam h8),rp 5 (bF h9),cI [1,6] (Qah h46),hH (.draw 9 [(1,8),(7,8)]),cE Qaf.enc h47,cC (QbA h48),cI [1,7] (Qah h49),cC (Qam h50),cI [1,8] (Qah h51),cC (Qam h52),rp 4 hP,rp 2 (oI (r40=true)),oR True (r40=true),cI [1,9] (Qah h53),cC (Qam h54),rp 4 (bF h55),cI [1,10] (Qah h69),cC (Qam h70),rp 3 (bT h71),cC (Qam h72),bT h71,rp 4 (bF h73),rp 4 fF,cI [1,11] (Qah h79),hW 4,hH (.frz 12),rp 3 (eL r60 Qaw)]
   ·obtain ⟨r61,h80,h⟩:=Qae h
    obtain rfl:=Option.some.inj h
    exact gr 30 [] [cE Qaf.enc h0,nL QeA n.places,cC (Qb1 h1),hH (.adoptB 1 0 1 33),cI [1,3] (Qah h2),hH (.rows (l1.map Qaf.enc)),oO (sl1 h3),oO (sl2 h3),oO (sl3 Qaf.enc h3),oO (Int.le_refl i),oO (sl3 Qaf.enc h3),oO (sl6 Qaf.enc h3),cC (Qas h4),cI [1,4] (Qah h5),cC (Qam h6),cI [1,5] (Qah h7),cC (Qam h8),rp 5 (bF h9),cI [1,6] (Qah h46),hH (.draw 9 [(1,8),(7,8)]),cE Qaf.enc h47,cC (QbA h48),cI [1,7] (Qah h49),cC (Qam h50),cI [1,8] (Qah h51),cC (Qam h52),rp 4 hP,rp 2 (oI (r40=true)),oR True (r40=true),cI [1,9] (Qah h53),cC (Qam h54),rp 4 (bF h55),cI [1,10] (Qah h69),cC (Qam h70),rp 4 (bF h71),rp 8 fF,cI [1,11] (Qah h80),hW 4,hH (.frz 12),rp 3 (eL r61 Qaw)]
def Qlh (Γ:Gam) (rv:List Qaa) (cf:Cf):Prop:=Go Tryz.prog Tryz.f79 [] Γ (one (lL 2 rv Qaa.enc)) [] cf
def Qsb (Γ:Gam) (rv:List Qaa) (n:Qag) (l:List Qaf) (v:Int) (r1:List Int) (l3:List Qaa) (v1:Int):Prop:=Qlh Γ rv ⟨[.c 62668,.l 62668,.b 2,.b 1,.c 1959,.l 244,.b 0,.c 31],⟨41,[vL 1 14 l Qaf.enc,vP 2 0 2,vO 5 1 2 l3 Qaa.enc,vI 6 v,vI 18 (lenI l),vI 19 v,vL 25 1 r1 Qaw,vI 26 (lenI r1),vI 27 v1],[oX 2 25 (Qag.enc n),oS 2 104 l3 Qaa.enc]⟩⟩
def Qq6 (Γ:Gam) (rv:List Qaa) (n:Qag) (l:List Qaf) (v:Int) (r1:List Int) (l4:List Qaa):Prop:=Qlh Γ rv ⟨[.b 1,.c 1959,.l 244,.b 0,.c 31],⟨41,[vL 1 14 l Qaf.enc,vP 2 0 2,vO 5 1 2 l4 Qaa.enc,vI 18 (lenI l),vI 19 v],[oX 2 25 (Qag.enc n),oS 2 104 l4 Qaa.enc]⟩⟩
def Qsa (Γ:Gam) (rv:List Qaa) (n:Qag) (l:List Qaf) (l2:List Qaa) (v:Int):Prop:=Qlh Γ rv ⟨[.c 244,.l 244,.b 0,.c 31],⟨41,[vL 1 14 l Qaf.enc,vP 2 0 2,vO 5 1 2 l2 Qaa.enc,vI 18 (lenI l),vI 19 v],[oX 2 25 (Qag.enc n),oS 2 104 l2 Qaa.enc]⟩⟩
def Qq5 (Γ:Gam) (rv:List Qaa) (n:Qag) (l:List Qaf) (l5:List Qaa):Prop:=Qlh Γ rv ⟨[.c 31],⟨41,[vO 5 0 2 l5 Qaa.enc],[oS 2 104 l5 Qaa.enc]⟩⟩
theorem Qv6 (Γ:Gam) (rv:List Qaa) {n l v r1} {s:List Qaa×Int} {e:List Qaa} (h:QaX (fun s=>Qhg n l v r1 s.1 s.2) s=some e) (hD:Qq6 Γ rv n l v r1 e):Qsb Γ rv n l v r1 s.1 s.2:=by
 refine QaA (C:=fun (s:List Qaa×Int)=>Qsb Γ rv n l v r1 s.1 s.2) (D:=fun (e:List Qaa)=>Qq6 Γ rv n l v r1 e) ?_ h hD
 clear h hD s e
 rintro ⟨l3,v1⟩ z_ h hI hE
 replace h:Qhg n l v r1 l3 v1=_:=h
 unfold Qhg at h
 rcases Qak h with ⟨h5,h⟩|⟨h5,h⟩
 ·obtain ⟨x0,h6,h⟩:=Qae h
  obtain ⟨r2,h7,h⟩:=Qae h
  obtain ⟨h8,h⟩:=Qat h
  exact gn 13 [1,2,5,6,18,19,25,26,27] [0,3] [bT h5,cE Qaw h6,cC (QhO h7),oO (Eq.refl ([(Qaa.mk x0 r2)].map Qaa.enc).length),aO Qaa.enc h8] (hI _ (oJ h))
 ·exact gn 5 [1,2,5,18,19] [0,1] [bF h5] (hE _ (oJ h))
theorem Qv5 (Γ:Gam) (rv:List Qaa) {n l} {s:List Qaa×Int} {e:List Qaa} (h:QaX (fun s=>Qhf n l s.1 s.2) s=some e) (hD:Qq5 Γ rv n l e):Qsa Γ rv n l s.1 s.2:=by
 refine QaA (C:=fun (s:List Qaa×Int)=>Qsa Γ rv n l s.1 s.2) (D:=fun (e:List Qaa)=>Qq5 Γ rv n l e) ?_ h hD
 clear h hD s e
 rintro ⟨l2,v⟩ z_ h hI hE
 replace h:Qhf n l l2 v=_:=h
 unfold Qhf at h
 rcases Qak h with ⟨h3,h⟩|⟨h3,h⟩
 ·obtain ⟨r1,h4,h⟩:=Qae h
  obtain ⟨e0,h9,h⟩:=Qae h
  refine gn 13 [1,2,5,6,18,19,25,26,27] [0,1] [bT h3,cC (Qxx h4),nL Qaw r1] (Qv6 Γ rv h9 ?_)
  obtain ⟨l4,rfl⟩:∃ x,x=e0:=⟨_,rfl⟩
  replace h:(some (.inl (l4,(addK .i64 v 1))):Option ((List Qaa×Int)⊕(List Qaa)))=some _:=h
  exact gn 3 [1,2,5,18,19] [0,1] [] (hI _ (oJ h))
 ·exact gn 5 [5] [1] [bF h3] (hE _ (oJ h))
theorem Qq4 (Γ:Gam) (rv:List Qaa) {n l l1} (h:Qin n l l1=some rv):Qlh Γ rv ⟨[.c 15],⟨41,[vL 1 14 l Qaf.enc,vP 2 0 2,vO 5 1 2 l1 Qaa.enc],[oX 2 25 (Qag.enc n),oS 2 104 l1 Qaa.enc]⟩⟩:=by
 unfold Qin at h
 obtain ⟨e1,h10,h⟩:=Qae h
 refine gn 5 [1,2,5,18,19] [0,1] [nL Qaf.enc l] (Qv5 Γ rv h10 ?_)
 obtain ⟨l5,rfl⟩:∃ x,x=e1:=⟨_,rfl⟩
 replace h:(some l5:Option (List Qaa))=some _:=h
 obtain rfl:=Option.some.inj h
 exact gr 2 [] [hW 4,hH (.frz 0),rp 3 (eL l5 Qaa.enc)]
theorem Qyj {n l} {rv:List Qaa} (h:Qnt n l=some rv):AFn Tryz.prog 79 [.agg (Qag.enc n),.one (lL 14 l Qaf.enc)] [] (one (lL 2 rv Qaa.enc)) []:=by
 refine QaG Tryz.func79 (by kernel_rfl) (by kernel_rfl) (fun Γ=>?_)
 unfold Qnt at h
 obtain ⟨r,h0,h⟩:=Qae h
 rcases Qak h with ⟨h1,h⟩|⟨h1,h⟩
 ·exact gn 9 [1,2,5] [0,1] [nL Qaf.enc l,cC (Qam h0),nF h1,hW 1,hH (.adopt 5 2 104)] (Qq4 Γ rv h)
 ·obtain ⟨h2,h⟩:=Qat h
  exact gn 9 [1,2,5] [0,2] [nL Qaf.enc l,cC (Qam h0),nT h1,oO (Eq.refl ([(Qaa.mk 4 ByteArray.empty)].map Qaa.enc).length),aN (l:=([(Qaa.mk 4 ByteArray.empty)]:List Qaa)) Qaa.enc h2] (Qq4 Γ rv h)
def QvT (Γ:Gam) (rv:Bool) (cf:Cf):Prop:=Go Tryz.prog Tryz.f157 [] Γ (one (.bool rv)) [] cf
def Qsf (Γ:Gam) (rv:Bool) (a:List Int) (dims:Int) (v:Int):Prop:=QvT Γ rv ⟨[.c 52,.l 52,.b 0,.c 7],⟨24,[vL 0 1 a Qaw,vI 1 dims,vL 7 1 a Qaw,vI 8 (lenI a),vI 9 v],[]⟩⟩
def Qq9 (Γ:Gam) (rv:Bool) (a:List Int) (dims:Int):Prop:=QvT Γ rv ⟨[.c 7],⟨24,[vL 0 1 a Qaw,vI 1 dims],[]⟩⟩
theorem Qv8 (Γ:Gam) (rv:Bool) {a dims} {s:Int} {e:(Unit)⊕(Bool)} (h:QaX (fun s=>QeZ a dims s) s=some e) (hD:sel e (fun e=>Qq9 Γ rv a dims) (fun e=>e=rv)):Qsf Γ rv a dims s:=by
 refine QaA (C:=fun (s:Int)=>Qsf Γ rv a dims s) (D:=fun (e:(Unit)⊕(Bool))=>sel e (fun e=>Qq9 Γ rv a dims) (fun e=>e=rv)) ?_ h hD
 clear h hD s e
 intro v z_ h hI hE
 replace h:QeZ a dims v=_:=h
 unfold QeZ at h
 rcases Qak h with ⟨h0,h⟩|⟨h0,h⟩
 ·obtain ⟨x0,h1,h⟩:=Qae h
  rcases Qak h with ⟨h2,h⟩|⟨h2,h⟩
  ·obtain rfl:=(hE _ (oJ h):_=rv)
   exact gr 14 [] [bT h0,cE Qaw h1,hP,hP,hP,oI ((ltI x0 0)=false),oR True ((ltI x0 0)=false),bT h2]
  ·exact gn 16 [0,1,7,8,9] [] [bT h0,cE Qaw h1,hP,hP,hP,oI ((ltI x0 0)=false),oR True ((ltI x0 0)=false),bF h2] (hI _ (oJ h))
 ·exact gn 5 [0,1] [] [bF h0] (hE _ (oJ h))
theorem Qnh {a dims} {rv:Bool} (h:Qnv a dims=some rv):AFn Tryz.prog 157 [.one (lL 1 a Qaw),.one (lI dims)] [] (one (.bool rv)) []:=by
 refine QaG Tryz.func157 (by kernel_rfl) (by kernel_rfl) (fun Γ=>?_)
 unfold Qnv at h
 obtain ⟨e0,h3,h⟩:=Qae h
 refine gn 7 [0,1,7,8,9] [] [nL Qaw a] (Qv8 Γ rv h3 ?_)
 rcases e0 with e0|e0
 ·replace h:(some (eqI (lenI a) dims):Option Bool)=some _:=h
  obtain rfl:=Option.some.inj h
  exact gr 2 [] [nL Qaw a]
 ·obtain ⟨r,rfl⟩:∃ x,x=e0:=⟨_,rfl⟩
  replace h:(some r:Option Bool)=some _:=h
  exact Option.some.inj h
theorem QcO {n least most} {rv:Bool} (h:Qdu n least most=some rv):AFn Tryz.prog 158 [.one (lI n),.one (lI least),.one (lI most)] [] (one (.bool rv)) []:=by
 refine QaG Tryz.func158 (by kernel_rfl) (by kernel_rfl) (fun Γ=>?_)
 unfold Qdu at h
 obtain rfl:=Option.some.inj h
 exact gr 4 [] [rp 4 hP,rp 2 (oI ((geI n least)=true)),oR True ((geI n least)=true)]
theorem QfB {n} {rv:Bool} (h:Qnx n=some rv):AFn Tryz.prog 184 [.one (lI n)] [] (one (.bool rv)) []:=by
 refine QaG Tryz.func184 (by kernel_rfl) (by kernel_rfl) (fun Γ=>?_)
 unfold Qnx at h
 obtain rfl:=Option.some.inj h
 exact gr 4 [] [hP,hP,hP,oI ((geI n 0)=true),oR True ((geI n 0)=true)]
theorem QhP {s0} {rv:Int} (h:QgL s0=some rv):AFn Tryz.prog 159 [.agg (Qap.enc s0)] [] (one (lI rv)) []:=by
 refine QaG Tryz.func159 (by kernel_rfl) (by kernel_rfl) (fun Γ=>?_)
 unfold QgL at h
 rcases Qak h with ⟨h0,h⟩|⟨h0,h⟩
 ·obtain rfl:=Option.some.inj h
  exact gr 10 [] [rp 4 (bT h0),kF,kF,kF,bT h0,bT h0,kF,kF,kF,bT h0,bT h0,rp 5 kF,bT h0,bT h0,kF,kF,kF,bT h0,bT h0,tT]
 ·rcases Qak h with ⟨h1,h⟩|⟨h1,h⟩
  ·obtain ⟨r,h2,h⟩:=Qae h
   rcases Qak h with ⟨h3,h⟩|⟨h3,h⟩
   ·obtain ⟨r1,h4,h⟩:=Qae h
    rcases Qak h with ⟨h5,h⟩|⟨h5,h⟩
    ·obtain ⟨r2,h6,h⟩:=Qae h
     rcases Qak h with ⟨h7,h⟩|⟨h7,h⟩
     ·obtain rfl:=Option.some.inj h
      exact gr 10 [] [rp 4 (bF h0),rp 3 (bT h1),cC (QfB h2),bF h0,bT h1,bF h0,rp 3 (bT h3),cC (QfB h4),bF h0,bT h3,bF h0,rp 5 hP,rp 4 (oI (r1=true)),bF h0,hP,oR True (r1=true),bF h0,rp 3 (bT h5),cC (QfB h6),bF h0,bT h5,bF h0,bT h7]
     ·obtain rfl:=Option.some.inj h
      exact gr 11 [] [rp 4 (bF h0),rp 3 (bT h1),cC (QfB h2),bF h0,bT h1,bF h0,rp 3 (bT h3),cC (QfB h4),bF h0,bT h3,bF h0,rp 5 hP,rp 4 (oI (r1=true)),bF h0,hP,oR True (r1=true),bF h0,rp 3 (bT h5),cC (QfB h6),bF h0,bT h5,bF h0,bF h7]
    ·obtain rfl:=Option.some.inj h
     exact gr 11 [] [rp 4 (bF h0),rp 3 (bT h1),cC (QfB h2),bF h0,bT h1,bF h0,rp 3 (bT h3),cC (QfB h4),bF h0,bT h3,bF h0,rp 5 hP,rp 4 (oI (r1=true)),bF h0,hP,oR True (r1=true),bF h0,rp 3 (bF h5),bF h0,bF h5,bF h0,fF]
   ·obtain rfl:=Option.some.inj h
    exact gr 11 [] [rp 4 (bF h0),rp 3 (bT h1),cC (QfB h2),bF h0,bT h1,bF h0,rp 3 (bF h3),bF h0,bF h3,bF h0,rp 5 fF,bF h0,fF,bF h0,fF,fF,fF,bF h0,fF,bF h0,fF]
  ·obtain rfl:=Option.some.inj h
   exact gr 11 [] [rp 4 (bF h0),rp 3 (bF h1),bF h0,bF h1,bF h0,fF,fF,fF,bF h0,fF,bF h0,rp 5 fF,bF h0,fF,bF h0,fF,fF,fF,bF h0,fF,bF h0,fF]
theorem Qkb {o types} {rv:Bool} (h:Qgv o types=some rv):AFn Tryz.prog 160 [.agg (Qac.enc o),.one (lI types)] [] (one (.bool rv)) []:=by
 refine QaG Tryz.func160 (by kernel_rfl) (by kernel_rfl) (fun Γ=>?_)
 unfold Qgv at h
 obtain ⟨r,h0,h⟩:=Qae h
 rcases Qak h with ⟨h1,h⟩|⟨h1,h⟩
 ·obtain ⟨r1,h2,h⟩:=Qae h
  obtain rfl:=Option.some.inj h
  exact gr 4 [] [cC (QcO h0),rp 3 (bT h1),cC (QcO h2),bT h1,rp 36 hP,rp 3 (oI (r1=true)),rp 3 (oI ((r1=true)∧(eqI o.split 1)=false)),oI (r1=true),oI ((r1=true)∧(eqI o.split 1)=false),oI (r1=true),rp 3 (oI ((r1=true)∧((eqI o.split 1)||(eqI o.pick.place (-1)))=false)),oI (r1=true),oI ((r1=true)∧((eqI o.split 1)||(eqI o.pick.place (-1)))=false),oR True (r1=true),rp 2 (oI ((r1&&(((eqI o.split 1)||(eqI o.pick.place (-1)))||(eqI o.drop.place (-1))))=true)),oR True ((r1&&(((eqI o.split 1)||(eqI o.pick.place (-1)))||(eqI o.drop.place (-1))))=true),rp 3 (oI (((r1&&(((eqI o.split 1)||(eqI o.pick.place (-1)))||(eqI o.drop.place (-1))))&&(geI o.last_ (-1)))=true)),oR True (((r1&&(((eqI o.split 1)||(eqI o.pick.place (-1)))||(eqI o.drop.place (-1))))&&(geI o.last_ (-1)))=true),rp 2 (oI ((((r1&&(((eqI o.split 1)||(eqI o.pick.place (-1)))||(eqI o.drop.place (-1))))&&(geI o.last_ (-1)))&&(ltI o.last_ types))=true)),oR True ((((r1&&(((eqI o.split 1)||(eqI o.pick.place (-1)))||(eqI o.drop.place (-1))))&&(geI o.last_ (-1)))&&(ltI o.last_ types))=true),rp 3 (oI (((((r1&&(((eqI o.split 1)||(eqI o.pick.place (-1)))||(eqI o.drop.place (-1))))&&(geI o.last_ (-1)))&&(ltI o.last_ types))&&(geI o.now (-1)))=true)),oR True (((((r1&&(((eqI o.split 1)||(eqI o.pick.place (-1)))||(eqI o.drop.place (-1))))&&(geI o.last_ (-1)))&&(ltI o.last_ types))&&(geI o.now (-1)))=true)]
 ·obtain rfl:=Option.some.inj h
  exact gr 4 [] [cC (QcO h0),rp 4 (bF h1),rp 4 fF,rp 4 kF,fF,fF,rp 4 kF,rp 20 fF]
theorem QaI {right e0 c} {rv:List Int} (h:QaP right e0 c=some rv):AFn Tryz.prog 154 [.one (.bool right),.one (lI e0),.one (.op 0 1 0 0)] [bX 1 107 [lO 1 1 c Qaw],bS 1 33 c Qaw] (.tup []) [oX 1 107 [lO 1 1 rv Qaw],oS 1 33 rv Qaw]:=by
 refine QaG Tryz.func154 (by kernel_rfl) (by kernel_rfl) (fun Γ=>?_)
 unfold QaP at h
 rcases Qak h with ⟨h0,h⟩|⟨h0,h⟩
 ·obtain rfl:=Option.some.inj h
  exact gr 4 [0,1] [nF h0]
 ·obtain ⟨h1,h⟩:=Qat h
  obtain rfl:=Option.some.inj h
  exact gr 4 [0,3] [nT h0,oO (Eq.refl ([e0].map Qaw).length),aO Qaw h1]
theorem Qru {x0 c} {rv:Bool} (h:Qnk x0 c=some rv):AFn Tryz.prog 156 [.agg (Qac.enc x0),.one (.ip (Qac.enc c) 0)] [] (one (.bool rv)) []:=by
 refine QaG Tryz.func156 (by kernel_rfl) (by kernel_rfl) (fun Γ=>?_)
 unfold Qnk at h
 obtain rfl:=Option.some.inj h
 exact gr 4 [] []
def Qdr (Γ:Gam) (rv:Int) (cf:Cf):Prop:=Go Tryz.prog Tryz.f183 [] Γ (one (lI rv)) [] cf
def QcZ (Γ:Gam) (rv:Int) (s0:List Qac) (c:Qac) (v:Int):Prop:=Qdr Γ rv ⟨[.c 52,.l 52,.b 0,.c 7],⟨19,[vL 0 16 s0 Qac.enc,(1,one (.fn (.func 156) [.ip (Qac.enc c) 0])),vI 7 (lenI s0),vI 8 v],[]⟩⟩
def QcU (Γ:Gam) (rv:Int) (s0:List Qac) (c:Qac):Prop:=Qdr Γ rv ⟨[.c 7],⟨19,[],[]⟩⟩
theorem Qfz (Γ:Gam) (rv:Int) {s0 c} {s:Int} {e:(Unit)⊕(Int)} (h:QaX (fun s=>QaB s0 c s) s=some e) (hD:sel e (fun e=>QcU Γ rv s0 c) (fun e=>e=rv)):QcZ Γ rv s0 c s:=by
 refine QaA (C:=fun (s:Int)=>QcZ Γ rv s0 c s) (D:=fun (e:(Unit)⊕(Int))=>sel e (fun e=>QcU Γ rv s0 c) (fun e=>e=rv)) ?_ h hD
 clear h hD s e
 intro v z_ h hI hE
 replace h:QaB s0 c v=_:=h
 unfold QaB at h
 rcases Qak h with ⟨h0,h⟩|⟨h0,h⟩
 ·obtain ⟨x0,h1,h⟩:=Qae h
  obtain ⟨r,h2,h⟩:=Qae h
  rcases Qak h with ⟨h3,h⟩|⟨h3,h⟩
  ·obtain rfl:=(hE _ (oJ h):_=rv)
   exact gr 14 [] [bT h0,cE Qac.enc h1,cC (Qru h2),bT h3]
  ·exact gn 16 [0,1,7,8] [] [bT h0,cE Qac.enc h1,cC (Qru h2),bF h3] (hI _ (oJ h))
 ·exact gn 5 [] [] [bF h0] (hE _ (oJ h))
theorem Qga {s0 c} {rv:Int} (h:QbD s0 c=some rv):AFn Tryz.prog 183 [.one (lL 16 s0 Qac.enc),.one (.fn (.func 156) [.ip (Qac.enc c) 0])] [] (one (lI rv)) []:=by
 refine QaG Tryz.func183 (by kernel_rfl) (by kernel_rfl) (fun Γ=>?_)
 unfold QbD at h
 obtain ⟨e0,h4,h⟩:=Qae h
 refine gn 7 [0,1,7,8] [] [nL Qac.enc s0] (Qfz Γ rv h4 ?_)
 rcases e0 with e0|e0
 ·replace h:(some (-1):Option Int)=some _:=h
  obtain rfl:=Option.some.inj h
  exact gr 2 [] []
 ·obtain ⟨r1,rfl⟩:∃ x,x=e0:=⟨_,rfl⟩
  replace h:(some r1:Option Int)=some _:=h
  exact Option.some.inj h
theorem Qbh {s0 c} {rv:Bool} (h:Qa0 s0 c=some rv):AFn Tryz.prog 155 [.one (lL 16 s0 Qac.enc),.one (.fn (.func 156) [.ip (Qac.enc c) 0])] [] (one (.bool rv)) []:=by
 refine QaG Tryz.func155 (by kernel_rfl) (by kernel_rfl) (fun Γ=>?_)
 unfold Qa0 at h
 obtain ⟨r,h0,h⟩:=Qae h
 obtain rfl:=Option.some.inj h
 exact gr 4 [] [cC (Qga h0)]
theorem Qxz {n dims types l i} {rv:List Int} (h:Qn4 n dims types l i=some rv):AFn Tryz.prog 119 [.agg (Qag.enc n),.one (lI dims),.one (lI types),.one (lL 16 l Qac.enc),.one (lI i)] [] (one (lL 1 rv Qaw)) []:=by
 refine QaG Tryz.func119 (by kernel_rfl) (by kernel_rfl) (fun Γ=>?_)
 unfold Qn4 at h
 obtain ⟨x0,h0,h⟩:=Qae h
 obtain ⟨r,h1,h⟩:=Qae h
 obtain ⟨r1,h2,h⟩:=Qae h
 obtain ⟨l1,h3,h⟩:=Qae h
 obtain ⟨r2,h4,h⟩:=Qae h
 obtain ⟨r3,h5,h⟩:=Qae h
 obtain ⟨r4,h6,h⟩:=Qae h
 obtain ⟨r5,h7,h⟩:=Qae h
 obtain ⟨r6,h8,h⟩:=Qae h
 rcases Qak h with ⟨h9,h⟩|⟨h9,h⟩
 ·obtain ⟨r7,h10,h⟩:=Qae h
  obtain ⟨r8,h11,h⟩:=Qae h
  obtain ⟨r9,h12,h⟩:=Qae h
  obtain ⟨r10,h13,h⟩:=Qae h
  rcases Qak h with ⟨h14,h⟩|⟨h14,h⟩
  ·obtain ⟨r11,h15,h⟩:=Qae h
   obtain ⟨r12,h16,h⟩:=Qae h
   obtain ⟨r13,h17,h⟩:=Qae h
   obtain ⟨r14,h18,h⟩:=Qae h
   obtain ⟨r15,h19,h⟩:=Qae h
   obtain ⟨r16,h20,h⟩:=Qae h
   obtain rfl:=Option.some.inj h
   exact gr 28 [] [cE Qac.enc h0,nL QeA n.places,cC (Qb1 h1),hH (.adoptB 1 0 1 33),cI [1,3] (QaI h2),hH (.rows (l1.map Qac.enc)),oO (sl1 h3),oO (sl2 h3),oO (sl3 Qac.enc h3),oO (Int.le_refl i),oO (sl3 Qac.enc h3),oO (sl6 Qac.enc h3),cC (Qbh h4),cI [1,4] (QaI h5),cC (Qnh h6),cI [1,5] (QaI h7),cC (QcO h8),rp 5 (bT h9),cC (QcO h10),bT h9,cI [1,6] (QaI h11),rp 5 hP,rp 3 (oI ((neI x0.pick.place (-1))=false)),oR True ((neI x0.pick.place (-1))=false),cI [1,7] (QaI h12),cC (QhP h13),rp 3 (bT h14),cC (QhP h15),rp 2 (bT h14),cI [1,8] (QaI h16),cC (QcO h17),cI [1,9] (QaI h18),cC (Qkb h19),cI [1,10] (QaI h20),hW 4,hH (.frz 11),rp 3 (eL r16 Qaw)]
  ·obtain ⟨r17,h21,h⟩:=Qae h
   obtain ⟨r18,h22,h⟩:=Qae h
   obtain ⟨r19,h23,h⟩:=Qae h
   obtain ⟨r20,h24,h⟩:=Qae h
   obtain ⟨r21,h25,h⟩:=Qae h
   obtain rfl:=Option.some.inj h
   exact gr 28 [] [cE Qac.enc h0,nL QeA n.places,cC (Qb1 h1),hH (.adoptB 1 0 1 33),cI [1,3] (QaI h2),hH (.rows (l1.map Qac.enc)),oO (sl1 h3),oO (sl2 h3),oO (sl3 Qac.enc h3),oO (Int.le_refl i),oO (sl3 Qac.enc h3),oO (sl6 Qac.enc h3),cC (Qbh h4),cI [1,4] (QaI h5),cC (Qnh h6),cI [1,5] (QaI h7),cC (QcO h8),rp 5 (bT h9),cC (QcO h10),bT h9,cI [1,6] (QaI h11),rp 5 hP,rp 3 (oI ((neI x0.pick.place (-1))=false)),oR True ((neI x0.pick.place (-1))=false),cI [1,7] (QaI h12),cC (QhP h13),rp 5 (bF h14),cI [1,8] (QaI h21),cC (QcO h22),cI [1,9] (QaI h23),cC (Qkb h24),cI [1,10] (QaI h25),hW 4,hH (.frz 11),rp 3 (eL r21 Qaw)]
 ·obtain ⟨r22,h26,h⟩:=Qae h
  obtain ⟨r23,h27,h⟩:=Qae h
  obtain ⟨r24,h28,h⟩:=Qae h
  rcases Qak h with ⟨h29,h⟩|⟨h29,h⟩
  ·obtain ⟨r25,h30,h⟩:=Qae h
   obtain ⟨r26,h31,h⟩:=Qae h
   obtain ⟨r27,h32,h⟩:=Qae h
   obtain ⟨r28,h33,h⟩:=Qae h
   obtain ⟨r29,h34,h⟩:=Qae h
   obtain ⟨r30,h35,h⟩:=Qae h
   obtain rfl:=Option.some.inj h
   exact gr 28 [] [cE Qac.enc h0,nL QeA n.places,cC (Qb1 h1),hH (.adoptB 1 0 1 33),cI [1,3] (QaI h2),hH (.rows (l1.map Qac.enc)),oO (sl1 h3),oO (sl2 h3),oO (sl3 Qac.enc h3),oO (Int.le_refl i),oO (sl3 Qac.enc h3),oO (sl6 Qac.enc h3),cC (Qbh h4),cI [1,4] (QaI h5),cC (Qnh h6),cI [1,5] (QaI h7),cC (QcO h8),rp 6 (bF h9),cI [1,6] (QaI h26),rp 5 hP,rp 3 (oI ((neI x0.pick.place (-1))=false)),oR True ((neI x0.pick.place (-1))=false),cI [1,7] (QaI h27),cC (QhP h28),rp 3 (bT h29),cC (QhP h30),rp 2 (bT h29),cI [1,8] (QaI h31),cC (QcO h32),cI [1,9] (QaI h33),cC (Qkb h34),cI [1,10] (QaI h35),hW 4,hH (.frz 11),rp 3 (eL r30 Qaw)]
  ·obtain ⟨r31,h36,h⟩:=Qae h
   obtain ⟨r32,h37,h⟩:=Qae h
   obtain ⟨r33,h38,h⟩:=Qae h
   obtain ⟨r34,h39,h⟩:=Qae h
   obtain ⟨r35,h40,h⟩:=Qae h
   obtain rfl:=Option.some.inj h
   exact gr 28 [] [cE Qac.enc h0,nL QeA n.places,cC (Qb1 h1),hH (.adoptB 1 0 1 33),cI [1,3] (QaI h2),hH (.rows (l1.map Qac.enc)),oO (sl1 h3),oO (sl2 h3),oO (sl3 Qac.enc h3),oO (Int.le_refl i),oO (sl3 Qac.enc h3),oO (sl6 Qac.enc h3),cC (Qbh h4),cI [1,4] (QaI h5),cC (Qnh h6),cI [1,5] (QaI h7),cC (QcO h8),rp 6 (bF h9),cI [1,6] (QaI h26),rp 5 hP,rp 3 (oI ((neI x0.pick.place (-1))=false)),oR True ((neI x0.pick.place (-1))=false),cI [1,7] (QaI h27),cC (QhP h28),rp 5 (bF h29),cI [1,8] (QaI h36),cC (QcO h37),cI [1,9] (QaI h38),cC (Qkb h39),cI [1,10] (QaI h40),hW 4,hH (.frz 11),rp 3 (eL r35 Qaw)]
def Ql5 (Γ:Gam) (rv:List Qaa) (cf:Cf):Prop:=Go Tryz.prog Tryz.f80 [] Γ (one (lL 2 rv Qaa.enc)) [] cf
def QsF (Γ:Gam) (rv:List Qaa) (n:Qag) (dims:Int) (types:Int) (l:List Qac) (v:Int) (r:List Int) (l3:List Qaa) (v1:Int):Prop:=Ql5 Γ rv ⟨[.c 62668,.l 62668,.b 2,.b 1,.c 1959,.l 244,.b 0,.c 31],⟨46,[vI 1 dims,vI 2 types,vL 3 16 l Qac.enc,vP 4 0 2,vO 9 1 2 l3 Qaa.enc,vI 10 v,vI 21 (lenI l),vI 22 v,vL 30 1 r Qaw,vI 31 (lenI r),vI 32 v1],[oX 2 25 (Qag.enc n),oS 2 104 l3 Qaa.enc]⟩⟩
def Qrt (Γ:Gam) (rv:List Qaa) (n:Qag) (dims:Int) (types:Int) (l:List Qac) (v:Int) (r:List Int) (l4:List Qaa):Prop:=Ql5 Γ rv ⟨[.b 1,.c 1959,.l 244,.b 0,.c 31],⟨46,[vI 1 dims,vI 2 types,vL 3 16 l Qac.enc,vP 4 0 2,vO 9 1 2 l4 Qaa.enc,vI 21 (lenI l),vI 22 v],[oX 2 25 (Qag.enc n),oS 2 104 l4 Qaa.enc]⟩⟩
def QsE (Γ:Gam) (rv:List Qaa) (n:Qag) (dims:Int) (types:Int) (l:List Qac) (l2:List Qaa) (v:Int):Prop:=Ql5 Γ rv ⟨[.c 244,.l 244,.b 0,.c 31],⟨46,[vI 1 dims,vI 2 types,vL 3 16 l Qac.enc,vP 4 0 2,vO 9 1 2 l2 Qaa.enc,vI 21 (lenI l),vI 22 v],[oX 2 25 (Qag.enc n),oS 2 104 l2 Qaa.enc]⟩⟩
def Qrs (Γ:Gam) (rv:List Qaa) (n:Qag) (dims:Int) (types:Int) (l:List Qac) (l5:List Qaa):Prop:=Ql5 Γ rv ⟨[.c 31],⟨46,[vO 9 0 2 l5 Qaa.enc],[oS 2 104 l5 Qaa.enc]⟩⟩
theorem Qwc (Γ:Gam) (rv:List Qaa) {n dims types l v r} {s:List Qaa×Int} {e:List Qaa} (h:QaX (fun s=>Qhq n dims types l v r s.1 s.2) s=some e) (hD:Qrt Γ rv n dims types l v r e):QsF Γ rv n dims types l v r s.1 s.2:=by
 refine QaA (C:=fun (s:List Qaa×Int)=>QsF Γ rv n dims types l v r s.1 s.2) (D:=fun (e:List Qaa)=>Qrt Γ rv n dims types l v r e) ?_ h hD
 clear h hD s e
 rintro ⟨l3,v1⟩ z_ h hI hE
 replace h:Qhq n dims types l v r l3 v1=_:=h
 unfold Qhq at h
 rcases Qak h with ⟨h4,h⟩|⟨h4,h⟩
 ·obtain ⟨x0,h5,h⟩:=Qae h
  obtain ⟨r1,h6,h⟩:=Qae h
  obtain ⟨h7,h⟩:=Qat h
  exact gn 13 [1,2,3,4,9,10,21,22,30,31,32] [0,3] [bT h4,cE Qaw h5,cC (QhO h6),oO (Eq.refl ([(Qaa.mk x0 r1)].map Qaa.enc).length),aO Qaa.enc h7] (hI _ (oJ h))
 ·exact gn 5 [1,2,3,4,9,21,22] [0,1] [bF h4] (hE _ (oJ h))
theorem Qwb (Γ:Gam) (rv:List Qaa) {n dims types l} {s:List Qaa×Int} {e:List Qaa} (h:QaX (fun s=>Qhp n dims types l s.1 s.2) s=some e) (hD:Qrs Γ rv n dims types l e):QsE Γ rv n dims types l s.1 s.2:=by
 refine QaA (C:=fun (s:List Qaa×Int)=>QsE Γ rv n dims types l s.1 s.2) (D:=fun (e:List Qaa)=>Qrs Γ rv n dims types l e) ?_ h hD
 clear h hD s e
 rintro ⟨l2,v⟩ z_ h hI hE
 replace h:Qhp n dims types l l2 v=_:=h
 unfold Qhp at h
 rcases Qak h with ⟨h2,h⟩|⟨h2,h⟩
 ·obtain ⟨r,h3,h⟩:=Qae h
  obtain ⟨e0,h8,h⟩:=Qae h
  refine gn 13 [1,2,3,4,9,10,21,22,30,31,32] [0,1] [bT h2,cC (Qxz h3),nL Qaw r] (Qwc Γ rv h8 ?_)
  obtain ⟨l4,rfl⟩:∃ x,x=e0:=⟨_,rfl⟩
  replace h:(some (.inl (l4,(addK .i64 v 1))):Option ((List Qaa×Int)⊕(List Qaa)))=some _:=h
  exact gn 3 [1,2,3,4,9,21,22] [0,1] [] (hI _ (oJ h))
 ·exact gn 5 [9] [1] [bF h2] (hE _ (oJ h))
theorem Qrr (Γ:Gam) (rv:List Qaa) {n dims types l l1} (h:Qiw n dims types l l1=some rv):Ql5 Γ rv ⟨[.c 15],⟨46,[vI 1 dims,vI 2 types,vL 3 16 l Qac.enc,vP 4 0 2,vO 9 1 2 l1 Qaa.enc],[oX 2 25 (Qag.enc n),oS 2 104 l1 Qaa.enc]⟩⟩:=by
 unfold Qiw at h
 obtain ⟨e1,h9,h⟩:=Qae h
 refine gn 5 [1,2,3,4,9,21,22] [0,1] [nL Qac.enc l] (Qwb Γ rv h9 ?_)
 obtain ⟨l5,rfl⟩:∃ x,x=e1:=⟨_,rfl⟩
 replace h:(some l5:Option (List Qaa))=some _:=h
 obtain rfl:=Option.some.inj h
 exact gr 2 [] [hW 4,hH (.frz 0),rp 3 (eL l5 Qaa.enc)]
theorem Qyt {n dims types l} {rv:List Qaa} (h:Qnw n dims types l=some rv):AFn Tryz.prog 80 [.agg (Qag.enc n),.one (lI dims),.one (lI types),.one (lL 16 l Qac.enc)] [] (one (lL 2 rv Qaa.enc)) []:=by
 refine QaG Tryz.func80 (by kernel_rfl) (by kernel_rfl) (fun Γ=>?_)
 unfold Qnw at h
 rcases Qak h with ⟨h0,h⟩|⟨h0,h⟩
 ·obtain ⟨h1,h⟩:=Qat h
  exact gn 9 [1,2,3,4,9] [0,2] [nL Qac.enc l,bT h0,oO (Eq.refl ([(Qaa.mk 4 ByteArray.empty)].map Qaa.enc).length),aN (l:=([(Qaa.mk 4 ByteArray.empty)]:List Qaa)) Qaa.enc h1] (Qrr Γ rv h)
 ·exact gn 9 [1,2,3,4,9] [0,1] [nL Qac.enc l,bF h0,hW 1,hH (.adopt 9 2 104)] (Qrr Γ rv h)
theorem QvS {l} {rv:Int} (h:Qsc l=some rv):AFn Tryz.prog 81 [.one (lL 14 l Qaf.enc)] [] (one (lI rv)) []:=by
 refine QaG Tryz.func81 (by kernel_rfl) (by kernel_rfl) (fun Γ=>?_)
 unfold Qsc at h
 rcases Qak h with ⟨h0,h⟩|⟨h0,h⟩
 ·obtain rfl:=Option.some.inj h
  exact gr 8 [] [nL Qaf.enc l,bT h0]
 ·obtain ⟨x0,h1,h⟩:=Qae h
  obtain rfl:=Option.some.inj h
  exact gr 9 [] [nL Qaf.enc l,bF h0,cE Qaf.enc h1,nL Qaw x0.cap]
theorem Qvy {self:Int→Option ByteArray} (hself:∀ {n:Int} {rv:ByteArray},self n=some rv→AFn Tryz.prog 162 [.one (lI n)] [] (one (.str rv)) []) {n} {rv:ByteArray} (h:Qi3 self n=some rv):AFn Tryz.prog 162 [.one (lI n)] [] (one (.str rv)) []:=by
 refine QaG Tryz.func162 (by kernel_rfl) (by kernel_rfl) (fun Γ=>?_)
 unfold Qi3 at h
 rcases Qak h with ⟨h0,h⟩|⟨h0,h⟩
 ·obtain rfl:=Option.some.inj h
  exact gr 10 [] [oO (oA (n:=10)),bT h0]
 ·obtain ⟨r,h1,h⟩:=Qae h
  obtain ⟨h2,h⟩:=Qat h
  obtain rfl:=Option.some.inj h
  exact gr 11 [] [oO (oA (n:=10)),bF h0,oO (oA (n:=10)),cC (hself h1),oO (h2)]
theorem QrE:∀ fuel_,∀ {n:Int} {rv:ByteArray},Qi4 fuel_ n=some rv→AFn Tryz.prog 162 [.one (lI n)] [] (one (.str rv)) []
 | 0=>fun h=>nomatch h
 | fuel_+1=>fun h=>Qvy (QrE fuel_) h
theorem Qfa:∀ {n:Int} {rv:ByteArray},Qpa n=some rv→AFn Tryz.prog 162 [.one (lI n)] [] (one (.str rv)) []:=QrE _
theorem QuQ {a b} {rv:Bool} (h:Qqn a b=some rv):AFn Tryz.prog 121 [.agg (Qav.enc a),.agg (Qav.enc b)] [] (one (.bool rv)) []:=by
 refine QaG Tryz.func121 (by kernel_rfl) (by kernel_rfl) (fun Γ=>?_)
 unfold Qqn at h
 rcases Qak h with ⟨h0,h⟩|⟨h0,h⟩
 ·obtain rfl:=Option.some.inj h
  exact gr 4 [] [rp 6 (bT h0),rp 5 kF,bT h0,bT h0]
 ·rcases Qak h with ⟨h1,h⟩|⟨h1,h⟩
  ·obtain rfl:=Option.some.inj h
   exact gr 4 [] [bF h0,oO (zL 0),oO (lT 0 2),bF h0,bF h0,oO (zL 1),oO (lT 1 2),rp 3 (bF h0),bT h1,oO (zL 1),oO (lT 1 2),bT h1,bT h1,oO (zL 0),oO (lT 0 2),bT h1,bT h1,bF h0,bT h1,bF h0]
  ·obtain rfl:=Option.some.inj h
   exact gr 4 [] [bF h0,oO (zL 0),oO (lT 0 2),bF h0,bF h0,oO (zL 1),oO (lT 1 2),rp 3 (bF h0),rp 5 (bF h1),bF h0,bF h1,bF h0]
theorem QuP {a b} {rv:Bool} (h:Qqm a b=some rv):AFn Tryz.prog 122 [.agg (Qav.enc a),.agg (Qav.enc b)] [] (one (.bool rv)) []:=by
 refine QaG Tryz.func122 (by kernel_rfl) (by kernel_rfl) (fun Γ=>?_)
 unfold Qqm at h
 obtain rfl:=Option.some.inj h
 exact gr 4 [] []
theorem Qcg {n c} {rv:Bool} (h:Qhd n c=some rv):AFn Tryz.prog 161 [.one (lI n),.one (.ip [lI c] 0)] [] (one (.bool rv)) []:=by
 refine QaG Tryz.func161 (by kernel_rfl) (by kernel_rfl) (fun Γ=>?_)
 unfold Qhd at h
 obtain rfl:=Option.some.inj h
 exact gr 4 [] [rp 4 hP,rp 2 (oI ((geI n 0)=true)),oR True ((geI n 0)=true)]
def Qgx (Γ:Gam) (rv:List Qaa) (cf:Cf):Prop:=Go Tryz.prog Tryz.f120 [] Γ (one (lL 2 rv Qaa.enc)) [] cf
def Qma (Γ:Gam) (rv:List Qaa) (orders:Int) (word:ByteArray) (l:List Qav) (l2:List Qaa) (v:Int) (x0:Qav) (r:ByteArray) (l3:List Qav) (v1:Int):Prop:=Qgx Γ rv ⟨[.c 512828,.l 512828,.b 2,.b 1,.c 4007,.l 500,.b 0,.c 63],⟨81,[vS 1 word,vL 2 2 l Qav.enc,(3,one (.fn (.func 122) [])),vO 9 0 2 l2 Qaa.enc,(10,one (.fn (.func 161) [.op 1 1 0 0])),vP 12 2 2,vS 13 (catS (catS word Qa1) r),vL 25 2 l Qav.enc,vI 26 (lenI l),vI 27 v,vL 63 2 l3 Qav.enc,vI 64 (lenI l3),vI 65 v1],[oS 2 104 l2 Qaa.enc,oX 1 3 [lI orders],oX 2 100 (Qav.enc x0)]⟩⟩
def QkH (Γ:Gam) (rv:List Qaa) (orders:Int) (word:ByteArray) (l:List Qav) (l2:List Qaa) (v:Int) (x0:Qav) (r:ByteArray) (l3:List Qav) (l4:List Qaa):Prop:=Qgx Γ rv ⟨[.b 1,.c 4007,.l 500,.b 0,.c 63],⟨81,[vS 1 word,vL 2 2 l Qav.enc,(3,one (.fn (.func 122) [])),vO 9 0 2 l4 Qaa.enc,(10,one (.fn (.func 161) [.op 1 1 0 0])),vL 25 2 l Qav.enc,vI 26 (lenI l),vI 27 v],[oS 2 104 l4 Qaa.enc,oX 1 3 [lI orders]]⟩⟩
def Ql9 (Γ:Gam) (rv:List Qaa) (orders:Int) (word:ByteArray) (l:List Qav) (l2:List Qaa) (v:Int):Prop:=Qgx Γ rv ⟨[.c 500,.l 500,.b 0,.c 63],⟨81,[vS 1 word,vL 2 2 l Qav.enc,(3,one (.fn (.func 122) [])),vO 9 0 2 l2 Qaa.enc,(10,one (.fn (.func 161) [.op 1 1 0 0])),vL 25 2 l Qav.enc,vI 26 (lenI l),vI 27 v],[oS 2 104 l2 Qaa.enc,oX 1 3 [lI orders]]⟩⟩
def QkG (Γ:Gam) (rv:List Qaa) (orders:Int) (word:ByteArray) (l:List Qav) (l5:List Qaa):Prop:=Qgx Γ rv ⟨[.c 63],⟨81,[vO 9 0 2 l5 Qaa.enc],[oS 2 104 l5 Qaa.enc]⟩⟩
theorem Qr0 (Γ:Gam) (rv:List Qaa) {orders word l l2 v x0 r l3} {s:Int} {e:List Qaa} (h:QaX (fun s=>Qck orders word l l2 v x0 r l3 s) s=some e) (hD:QkH Γ rv orders word l l2 v x0 r l3 e):Qma Γ rv orders word l l2 v x0 r l3 s:=by
 refine QaA (C:=fun (s:Int)=>Qma Γ rv orders word l l2 v x0 r l3 s) (D:=fun (e:List Qaa)=>QkH Γ rv orders word l l2 v x0 r l3 e) ?_ h hD
 clear h hD s e
 intro v1 z_ h hI hE
 replace h:Qck orders word l l2 v x0 r l3 v1=_:=h
 unfold Qck at h
 rcases Qak h with ⟨h14,h⟩|⟨h14,h⟩
 ·obtain ⟨x1,h15,h⟩:=Qae h
  obtain ⟨r3,h16,h⟩:=Qae h
  rcases Qak h with ⟨h17,h⟩|⟨h17,h⟩
  ·obtain ⟨h18,h⟩:=Qat h
   exact gn 15 [1,2,3,9,10,25,26,27] [5,1] [bT h14,cE Qav.enc h15,cC (QuP h16),bT h17,oO (Eq.refl ([(Qaa.mk 6 (catS (catS word Qa1) r))].map Qaa.enc).length),aO Qaa.enc h18] (hE _ (oJ h))
  ·exact gn 16 [1,2,3,9,10,12,13,25,26,27,63,64,65] [0,1,2] [bT h14,cE Qav.enc h15,cC (QuP h16),bF h17] (hI _ (oJ h))
 ·exact gn 5 [1,2,3,9,10,25,26,27] [0,1] [bF h14] (hE _ (oJ h))
theorem QrZ (Γ:Gam) (rv:List Qaa) {orders word l} {s:List Qaa×Int} {e:List Qaa} (h:QaX (fun s=>QcI orders word l s.1 s.2) s=some e) (hD:QkG Γ rv orders word l e):Ql9 Γ rv orders word l s.1 s.2:=by
 refine QaA (C:=fun (s:List Qaa×Int)=>Ql9 Γ rv orders word l s.1 s.2) (D:=fun (e:List Qaa)=>QkG Γ rv orders word l e) ?_ h hD
 clear h hD s e
 rintro ⟨l2,v⟩ z_ h hI hE
 replace h:QcI orders word l l2 v=_:=h
 unfold QcI at h
 rcases Qak h with ⟨h2,h⟩|⟨h2,h⟩
 ·obtain ⟨x0,h3,h⟩:=Qae h
  obtain ⟨h4,h⟩:=Qat h
  obtain ⟨r,h5,h⟩:=Qae h
  obtain ⟨h6,h⟩:=Qat h
  obtain ⟨r1,h7,h⟩:=Qae h
  rcases Qak h with ⟨h8,h⟩|⟨h8,h⟩
  ·obtain ⟨r2,h9,h⟩:=Qae h
   rcases Qak h with ⟨h10,h⟩|⟨h10,h⟩
   ·rcases Qak h with ⟨h11,h⟩|⟨h11,h⟩
    ·obtain ⟨h12,h⟩:=Qat h
     exact gn 20 [1,2,3,9,10,25,26,27] [4,1] [bT h2,cE Qav.enc h3,oO (h4),cC (Qfa h5),oO (h6),oO (zL 0),oO (lT 0 2),cC (Qcg h7),nF h8,nF h8,oO (zL 1),oO (lT 1 2),nF h8,nF h8,cC (Qcg h9),nF h8,nF h8,nF h10,oO (zL 0),oO (lT 0 2),rp 2 (nF h10),oO (zL 1),oO (lT 1 2),rp 3 (nF h10),bT h11,oO (Eq.refl ([(Qaa.mk 2 (catS (catS word Qa1) r))].map Qaa.enc).length),aO Qaa.enc h12] (hI _ (oJ h))
    ·obtain ⟨l3,h13,h⟩:=Qae h
     obtain ⟨e0,h19,h⟩:=Qae h
     refine gn 20 [1,2,3,9,10,12,13,25,26,27,63,64,65] [0,1,2] [bT h2,cE Qav.enc h3,oO (h4),cC (Qfa h5),oO (h6),oO (zL 0),oO (lT 0 2),cC (Qcg h7),nF h8,nF h8,oO (zL 1),oO (lT 1 2),nF h8,nF h8,cC (Qcg h9),nF h8,nF h8,nF h10,oO (zL 0),oO (lT 0 2),rp 2 (nF h10),oO (zL 1),oO (lT 1 2),rp 3 (nF h10),bF h11,hH (.rows (l3.map Qav.enc)),oO (sl1 h13),oO (sl2 h13),oO (sl3 Qav.enc h13),oO (Int.le_refl v),oO (sl3 Qav.enc h13),oO (sl6 Qav.enc h13),nL Qav.enc l3] (Qr0 Γ rv h19 ?_)
     obtain ⟨l4,rfl⟩:∃ x,x=e0:=⟨_,rfl⟩
     replace h:(some (.inl (l4,(addK .i64 v 1))):Option ((List Qaa×Int)⊕(List Qaa)))=some _:=h
     exact gn 3 [1,2,3,9,10,25,26,27] [0,1] [] (hI _ (oJ h))
   ·obtain ⟨h20,h⟩:=Qat h
    exact gn 20 [1,2,3,9,10,25,26,27] [4,1] [bT h2,cE Qav.enc h3,oO (h4),cC (Qfa h5),oO (h6),oO (zL 0),oO (lT 0 2),cC (Qcg h7),nF h8,nF h8,oO (zL 1),oO (lT 1 2),nF h8,nF h8,cC (Qcg h9),nF h8,nF h8,rp 6 (nT h10),tT,oO (Eq.refl ([(Qaa.mk 2 (catS (catS word Qa1) r))].map Qaa.enc).length),aO Qaa.enc h20] (hI _ (oJ h))
  ·obtain ⟨h21,h⟩:=Qat h
   exact gn 20 [1,2,3,9,10,25,26,27] [4,1] [bT h2,cE Qav.enc h3,oO (h4),cC (Qfa h5),oO (h6),oO (zL 0),oO (lT 0 2),cC (Qcg h7),rp 6 (nT h8),rp 7 tT,oO (Eq.refl ([(Qaa.mk 2 (catS (catS word Qa1) r))].map Qaa.enc).length),aO Qaa.enc h21] (hI _ (oJ h))
 ·exact gn 5 [9] [0] [bF h2] (hE _ (oJ h))
theorem QkF (Γ:Gam) (rv:List Qaa) {orders word l l1} (h:QeT orders word l l1=some rv):Qgx Γ rv ⟨[.c 15],⟨81,[vS 1 word,vL 2 2 l Qav.enc,(3,one (.fn (.func 122) [])),vP 4 0 1,vO 9 1 2 l1 Qaa.enc],[oX 1 3 [lI orders],oS 2 104 l1 Qaa.enc]⟩⟩:=by
 unfold QeT at h
 obtain ⟨e1,h22,h⟩:=Qae h
 refine gn 7 [1,2,3,9,10,25,26,27] [1,0] [nL Qav.enc l] (QrZ Γ rv h22 ?_)
 obtain ⟨l5,rfl⟩:∃ x,x=e1:=⟨_,rfl⟩
 replace h:(some l5:Option (List Qaa))=some _:=h
 obtain rfl:=Option.some.inj h
 exact gr 2 [] [hW 4,hH (.frz 0),rp 3 (eL l5 Qaa.enc)]
theorem Qt6 {orders word l} {rv:List Qaa} (h:QhD orders word l=some rv):AFn Tryz.prog 120 [.one (lI orders),.one (.str word),.one (lL 2 l Qav.enc),.one (.fn (.func 122) [])] [] (one (lL 2 rv Qaa.enc)) []:=by
 refine QaG Tryz.func120 (by kernel_rfl) (by kernel_rfl) (fun Γ=>?_)
 unfold QhD at h
 rcases Qak h with ⟨h0,h⟩|⟨h0,h⟩
 ·obtain ⟨h1,h⟩:=Qat h
  exact gn 9 [1,2,3,4,9] [0,2] [nL Qav.enc l,bT h0,oO (Eq.refl ([(Qaa.mk 4 word)].map Qaa.enc).length),aN (l:=([(Qaa.mk 4 word)]:List Qaa)) Qaa.enc h1] (QkF Γ rv h)
 ·exact gn 9 [1,2,3,4,9] [0,1] [nL Qav.enc l,bF h0,hW 1,hH (.adopt 9 2 104)] (QkF Γ rv h)
def QeK (Γ:Gam) (rv:List Qaa) (cf:Cf):Prop:=Go Tryz.prog Tryz.f120 [] Γ (one (lO 0 2 rv Qaa.enc)) [oS 2 104 rv Qaa.enc] cf
def Qi6 (Γ:Gam) (rv:List Qaa) (orders:Int) (word:ByteArray) (l:List Qav) (l2:List Qaa) (v:Int) (x0:Qav) (r:ByteArray) (l3:List Qav) (v1:Int):Prop:=QeK Γ rv ⟨[.c 512828,.l 512828,.b 2,.b 1,.c 4007,.l 500,.b 0,.c 63],⟨81,[vS 1 word,vL 2 2 l Qav.enc,(3,one (.fn (.func 121) [])),vO 9 0 2 l2 Qaa.enc,(10,one (.fn (.func 161) [.op 1 1 0 0])),vP 12 2 2,vS 13 (catS (catS word Qa1) r),vL 25 2 l Qav.enc,vI 26 (lenI l),vI 27 v,vL 63 2 l3 Qav.enc,vI 64 (lenI l3),vI 65 v1],[oS 2 104 l2 Qaa.enc,oX 1 3 [lI orders],oX 2 100 (Qav.enc x0)]⟩⟩
def QiM (Γ:Gam) (rv:List Qaa) (orders:Int) (word:ByteArray) (l:List Qav) (l2:List Qaa) (v:Int) (x0:Qav) (r:ByteArray) (l3:List Qav) (l4:List Qaa):Prop:=QeK Γ rv ⟨[.b 1,.c 4007,.l 500,.b 0,.c 63],⟨81,[vS 1 word,vL 2 2 l Qav.enc,(3,one (.fn (.func 121) [])),vO 9 0 2 l4 Qaa.enc,(10,one (.fn (.func 161) [.op 1 1 0 0])),vL 25 2 l Qav.enc,vI 26 (lenI l),vI 27 v],[oS 2 104 l4 Qaa.enc,oX 1 3 [lI orders]]⟩⟩
def Qi5 (Γ:Gam) (rv:List Qaa) (orders:Int) (word:ByteArray) (l:List Qav) (l2:List Qaa) (v:Int):Prop:=QeK Γ rv ⟨[.c 500,.l 500,.b 0,.c 63],⟨81,[vS 1 word,vL 2 2 l Qav.enc,(3,one (.fn (.func 121) [])),vO 9 0 2 l2 Qaa.enc,(10,one (.fn (.func 161) [.op 1 1 0 0])),vL 25 2 l Qav.enc,vI 26 (lenI l),vI 27 v],[oS 2 104 l2 Qaa.enc,oX 1 3 [lI orders]]⟩⟩
def QiL (Γ:Gam) (rv:List Qaa) (orders:Int) (word:ByteArray) (l:List Qav) (l5:List Qaa):Prop:=QeK Γ rv ⟨[.c 63],⟨81,[vO 9 0 2 l5 Qaa.enc],[oS 2 104 l5 Qaa.enc]⟩⟩
theorem QoA (Γ:Gam) (rv:List Qaa) {orders word l l2 v x0 r l3} {s:Int} {e:List Qaa} (h:QaX (fun s=>QbC orders word l l2 v x0 r l3 s) s=some e) (hD:QiM Γ rv orders word l l2 v x0 r l3 e):Qi6 Γ rv orders word l l2 v x0 r l3 s:=by
 refine QaA (C:=fun (s:Int)=>Qi6 Γ rv orders word l l2 v x0 r l3 s) (D:=fun (e:List Qaa)=>QiM Γ rv orders word l l2 v x0 r l3 e) ?_ h hD
 clear h hD s e
 intro v1 z_ h hI hE
 replace h:QbC orders word l l2 v x0 r l3 v1=_:=h
 unfold QbC at h
 rcases Qak h with ⟨h14,h⟩|⟨h14,h⟩
 ·obtain ⟨x1,h15,h⟩:=Qae h
  obtain ⟨r3,h16,h⟩:=Qae h
  rcases Qak h with ⟨h17,h⟩|⟨h17,h⟩
  ·obtain ⟨h18,h⟩:=Qat h
   exact gn 15 [1,2,3,9,10,25,26,27] [5,1] [bT h14,cE Qav.enc h15,cC (QuQ h16),bT h17,oO (Eq.refl ([(Qaa.mk 6 (catS (catS word Qa1) r))].map Qaa.enc).length),aO Qaa.enc h18] (hE _ (oJ h))
  ·exact gn 16 [1,2,3,9,10,12,13,25,26,27,63,64,65] [0,1,2] [bT h14,cE Qav.enc h15,cC (QuQ h16),bF h17] (hI _ (oJ h))
 ·exact gn 5 [1,2,3,9,10,25,26,27] [0,1] [bF h14] (hE _ (oJ h))
theorem Qoz (Γ:Gam) (rv:List Qaa) {orders word l} {s:List Qaa×Int} {e:List Qaa} (h:QaX (fun s=>QbQ orders word l s.1 s.2) s=some e) (hD:QiL Γ rv orders word l e):Qi5 Γ rv orders word l s.1 s.2:=by
 refine QaA (C:=fun (s:List Qaa×Int)=>Qi5 Γ rv orders word l s.1 s.2) (D:=fun (e:List Qaa)=>QiL Γ rv orders word l e) ?_ h hD
 clear h hD s e
 rintro ⟨l2,v⟩ z_ h hI hE
 replace h:QbQ orders word l l2 v=_:=h
 unfold QbQ at h
 rcases Qak h with ⟨h2,h⟩|⟨h2,h⟩
 ·obtain ⟨x0,h3,h⟩:=Qae h
  obtain ⟨h4,h⟩:=Qat h
  obtain ⟨r,h5,h⟩:=Qae h
  obtain ⟨h6,h⟩:=Qat h
  obtain ⟨r1,h7,h⟩:=Qae h
  rcases Qak h with ⟨h8,h⟩|⟨h8,h⟩
  ·obtain ⟨r2,h9,h⟩:=Qae h
   rcases Qak h with ⟨h10,h⟩|⟨h10,h⟩
   ·rcases Qak h with ⟨h11,h⟩|⟨h11,h⟩
    ·obtain ⟨h12,h⟩:=Qat h
     exact gn 20 [1,2,3,9,10,25,26,27] [4,1] [bT h2,cE Qav.enc h3,oO (h4),cC (Qfa h5),oO (h6),oO (zL 0),oO (lT 0 2),cC (Qcg h7),nF h8,nF h8,oO (zL 1),oO (lT 1 2),nF h8,nF h8,cC (Qcg h9),nF h8,nF h8,nF h10,oO (zL 0),oO (lT 0 2),rp 2 (nF h10),oO (zL 1),oO (lT 1 2),rp 3 (nF h10),bT h11,oO (Eq.refl ([(Qaa.mk 2 (catS (catS word Qa1) r))].map Qaa.enc).length),aO Qaa.enc h12] (hI _ (oJ h))
    ·obtain ⟨l3,h13,h⟩:=Qae h
     obtain ⟨e0,h19,h⟩:=Qae h
     refine gn 20 [1,2,3,9,10,12,13,25,26,27,63,64,65] [0,1,2] [bT h2,cE Qav.enc h3,oO (h4),cC (Qfa h5),oO (h6),oO (zL 0),oO (lT 0 2),cC (Qcg h7),nF h8,nF h8,oO (zL 1),oO (lT 1 2),nF h8,nF h8,cC (Qcg h9),nF h8,nF h8,nF h10,oO (zL 0),oO (lT 0 2),rp 2 (nF h10),oO (zL 1),oO (lT 1 2),rp 3 (nF h10),bF h11,hH (.rows (l3.map Qav.enc)),oO (sl1 h13),oO (sl2 h13),oO (sl3 Qav.enc h13),oO (Int.le_refl v),oO (sl3 Qav.enc h13),oO (sl6 Qav.enc h13),nL Qav.enc l3] (QoA Γ rv h19 ?_)
     obtain ⟨l4,rfl⟩:∃ x,x=e0:=⟨_,rfl⟩
     replace h:(some (.inl (l4,(addK .i64 v 1))):Option ((List Qaa×Int)⊕(List Qaa)))=some _:=h
     exact gn 3 [1,2,3,9,10,25,26,27] [0,1] [] (hI _ (oJ h))
   ·obtain ⟨h20,h⟩:=Qat h
    exact gn 20 [1,2,3,9,10,25,26,27] [4,1] [bT h2,cE Qav.enc h3,oO (h4),cC (Qfa h5),oO (h6),oO (zL 0),oO (lT 0 2),cC (Qcg h7),nF h8,nF h8,oO (zL 1),oO (lT 1 2),nF h8,nF h8,cC (Qcg h9),nF h8,nF h8,rp 6 (nT h10),tT,oO (Eq.refl ([(Qaa.mk 2 (catS (catS word Qa1) r))].map Qaa.enc).length),aO Qaa.enc h20] (hI _ (oJ h))
  ·obtain ⟨h21,h⟩:=Qat h
   exact gn 20 [1,2,3,9,10,25,26,27] [4,1] [bT h2,cE Qav.enc h3,oO (h4),cC (Qfa h5),oO (h6),oO (zL 0),oO (lT 0 2),cC (Qcg h7),rp 6 (nT h8),rp 7 tT,oO (Eq.refl ([(Qaa.mk 2 (catS (catS word Qa1) r))].map Qaa.enc).length),aO Qaa.enc h21] (hI _ (oJ h))
 ·exact gn 5 [9] [0] [bF h2] (hE _ (oJ h))
theorem QiK (Γ:Gam) (rv:List Qaa) {orders word l l1} (h:Qdp orders word l l1=some rv):QeK Γ rv ⟨[.c 15],⟨81,[vS 1 word,vL 2 2 l Qav.enc,(3,one (.fn (.func 121) [])),vP 4 0 1,vO 9 1 2 l1 Qaa.enc],[oX 1 3 [lI orders],oS 2 104 l1 Qaa.enc]⟩⟩:=by
 unfold Qdp at h
 obtain ⟨e1,h22,h⟩:=Qae h
 refine gn 7 [1,2,3,9,10,25,26,27] [1,0] [nL Qav.enc l] (Qoz Γ rv h22 ?_)
 obtain ⟨l5,rfl⟩:∃ x,x=e1:=⟨_,rfl⟩
 replace h:(some l5:Option (List Qaa))=some _:=h
 obtain rfl:=Option.some.inj h
 exact gr 2 [0] []
theorem QqP {orders word l} {rv:List Qaa} (h:Qfp orders word l=some rv):AFn Tryz.prog 120 [.one (lI orders),.one (.str word),.one (lL 2 l Qav.enc),.one (.fn (.func 121) [])] [] (one (lO 0 2 rv Qaa.enc)) [oS 2 104 rv Qaa.enc]:=by
 refine QaG Tryz.func120 (by kernel_rfl) (by kernel_rfl) (fun Γ=>?_)
 unfold Qfp at h
 rcases Qak h with ⟨h0,h⟩|⟨h0,h⟩
 ·obtain ⟨h1,h⟩:=Qat h
  exact gn 9 [1,2,3,4,9] [0,2] [nL Qav.enc l,bT h0,oO (Eq.refl ([(Qaa.mk 4 word)].map Qaa.enc).length),aN (l:=([(Qaa.mk 4 word)]:List Qaa)) Qaa.enc h1] (QiK Γ rv h)
 ·exact gn 9 [1,2,3,4,9] [0,1] [nL Qav.enc l,bF h0,hW 1,hH (.adopt 9 2 104)] (QiK Γ rv h)
theorem QyC {orders apart before} {rv:List Qaa} (h:Qqj orders apart before=some rv):AFn Tryz.prog 82 [.one (lI orders),.one (lL 2 apart Qav.enc),.one (lL 2 before Qav.enc)] [] (one (lL 2 rv Qaa.enc)) []:=by
 refine QaG Tryz.func82 (by kernel_rfl) (by kernel_rfl) (fun Γ=>?_)
 unfold Qqj at h
 obtain ⟨r,h0,h⟩:=Qae h
 obtain ⟨r1,h1,h⟩:=Qae h
 obtain ⟨h2,h⟩:=Qat h
 obtain rfl:=Option.some.inj h
 exact gr 4 [] [cC (QqP h0),cC (Qt6 h1),aO Qaa.enc h2,hW 1,hH (.frz 1),rp 2 (oO (Eq.refl ((r++r1).map Qaa.enc).length))]
theorem Qv7 {x0} {rv:List Qaa} (h:Qiq x0=some rv):AFn Tryz.prog 49 [.agg (Qab.enc x0)] [] (one (lL 2 rv Qaa.enc)) []:=by
 refine QaG Tryz.func49 (by kernel_rfl) (by kernel_rfl) (fun Γ=>?_)
 unfold Qiq at h
 obtain ⟨r,h0,h⟩:=Qae h
 obtain ⟨r1,h1,h⟩:=Qae h
 obtain ⟨r2,h2,h⟩:=Qae h
 obtain ⟨r3,h3,h⟩:=Qae h
 obtain ⟨r4,h4,h⟩:=Qae h
 obtain ⟨r5,h5,h⟩:=Qae h
 obtain ⟨r6,h6,h⟩:=Qae h
 obtain ⟨r7,h7,h⟩:=Qae h
 obtain ⟨r8,h8,h⟩:=Qae h
 obtain ⟨r9,h9,h⟩:=Qae h
 obtain rfl:=Option.some.inj h
 exact gr 4 [] [hH (.draw 32 []),cC (Qw1 h0),cC (Qja h1),cC (Qyj h2),cC (Qja h3),cC (QvS h4),nL Qaf.enc x0.types,cC (Qyt h5),cC (Qja h6),nL Qac.enc x0.orders,cC (QyC h7),cC (Qja h8),hH (.frz 1),oO (Eq.refl ([r1,r3,r6,r8].map es_T_api_Fault.enc).length),cC (QiF h9)]
theorem Qk7 {x0} {rv:Bool} (h:Qf4 x0=some rv):AFn Tryz.prog 25 [.agg (Qab.enc x0)] [] (one (.bool rv)) []:=by
 refine QaG Tryz.func25 (by kernel_rfl) (by kernel_rfl) (fun Γ=>?_)
 unfold Qf4 at h
 obtain ⟨r,h0,h⟩:=Qae h
 obtain rfl:=Option.some.inj h
 exact gr 4 [] [cC (Qv7 h0),nL Qaa.enc r]
theorem QtP {l} {rv:Bool} (h:Qos l=some rv):AFn Tryz.prog 164 [.one (lL 2 l Qal.enc)] [] (one (.bool rv)) []:=by
 refine QaG Tryz.func164 (by kernel_rfl) (by kernel_rfl) (fun Γ=>?_)
 unfold Qos at h
 obtain ⟨r,h0,h⟩:=Qae h
 obtain rfl:=Option.some.inj h
 exact gr 4 [] [cC (QpB h0),nL Qaa.enc r]
theorem Qk3 {p t} {rv:Int} (h:QgK p t=some rv):AFn Tryz.prog 186 [.agg (Qal.enc p),.one (lI t)] [] (one (lI rv)) []:=by
 refine QaG Tryz.func186 (by kernel_rfl) (by kernel_rfl) (fun Γ=>?_)
 unfold QgK at h
 obtain rfl:=Option.some.inj h
 exact gr 4 [] []
def Qcq (Γ:Gam) (rv:Int×Bool) (cf:Cf):Prop:=Go Tryz.prog Tryz.f185 [] Γ (.tup [.one (lI rv.1),.one (.bool rv.2)]) [] cf
def Qch (Γ:Gam) (rv:Int×Bool) (x0:List Qal) (target:Int) (i:Int) (j:Int):Prop:=Qcq Γ rv ⟨[.c 120,.l 120,.b 0,.c 31],⟨49,[vL 0 2 x0 Qal.enc,vI 1 target,(2,one (.fn (.func 186) [])),vI 8 (lenI x0),vI 9 i,vI 10 j],[]⟩⟩
def Qb9 (Γ:Gam) (rv:Int×Bool) (x0:List Qal) (target:Int) (i1:Int):Prop:=Qcq Γ rv ⟨[.c 31],⟨49,[vL 0 2 x0 Qal.enc,vI 1 target,(2,one (.fn (.func 186) [])),vI 8 (lenI x0),vI 9 i1],[]⟩⟩
theorem Qd8 (Γ:Gam) (rv:Int×Bool) {x0 target} {s:Int×Int} {e:Int} (h:QaX (fun s=>QaM x0 target s.1 s.2) s=some e) (hD:Qb9 Γ rv x0 target e):Qch Γ rv x0 target s.1 s.2:=by
 refine QaA (C:=fun (s:Int×Int)=>Qch Γ rv x0 target s.1 s.2) (D:=fun (e:Int)=>Qb9 Γ rv x0 target e) ?_ h hD
 clear h hD s e
 rintro ⟨i,j⟩ z_ h hI hE
 replace h:QaM x0 target i j=_:=h
 unfold QaM at h
 rcases Qak h with ⟨h0,h⟩|⟨h0,h⟩
 ·obtain ⟨x1,h1,h⟩:=Qae h
  obtain ⟨r,h2,h⟩:=Qae h
  rcases Qak h with ⟨h3,h⟩|⟨h3,h⟩
  ·exact gn 14 [0,1,2,8,9,10] [] [bT h0,oO (zL 1),cE Qal.enc h1,cC (Qk3 h2),bT h3] (hI _ (oJ h))
  ·exact gn 14 [0,1,2,8,9,10] [] [bT h0,oO (zL 1),cE Qal.enc h1,cC (Qk3 h2),bF h3] (hI _ (oJ h))
 ·exact gn 5 [0,1,2,8,9] [] [bF h0] (hE _ (oJ h))
theorem Qa4 {x0 target} {rv:Int×Bool} (h:Qa9 x0 target=some rv):AFn Tryz.prog 185 [.one (lL 2 x0 Qal.enc),.one (lI target),.one (.fn (.func 186) [])] [] (.tup [.one (lI rv.1),.one (.bool rv.2)]) []:=by
 refine QaG Tryz.func185 (by kernel_rfl) (by kernel_rfl) (fun Γ=>?_)
 unfold Qa9 at h
 obtain ⟨e0,h4,h⟩:=Qae h
 refine gn 9 [0,1,2,8,9,10] [] [nL Qal.enc x0] (Qd8 Γ rv h4 ?_)
 obtain ⟨i1,rfl⟩:∃ x,x=e0:=⟨_,rfl⟩
 replace h:(br (ltI i1 (lenI x0)) (bnd (getI x0 i1) fun x2=>bnd (QgK x2 target) fun r1=>some (i1,(eqI r1 0))) (some (i1,false)):Option (Int×Bool))=some _:=h
 rcases Qak h with ⟨h5,h⟩|⟨h5,h⟩
 ·obtain ⟨x2,h6,h⟩:=Qae h
  obtain ⟨r1,h7,h⟩:=Qae h
  obtain rfl:=Option.some.inj h
  exact gr 2 [] [rp 4 (bT h5),cE Qal.enc h6,rp 3 (bT h5),cC (Qk3 h7),bT h5,bT h5]
 ·obtain rfl:=Option.some.inj h
  exact gr 2 [] [rp 9 (bF h5)]
theorem Qxp {l t} {rv:Int} (h:Qme l t=some rv):AFn Tryz.prog 165 [.one (lL 2 l Qal.enc),.one (lI t)] [] (one (lI rv)) []:=by
 refine QaG Tryz.func165 (by kernel_rfl) (by kernel_rfl) (fun Γ=>?_)
 unfold Qme at h
 obtain ⟨r,h0,h⟩:=Qae h
 rcases Qak h with ⟨h1,h⟩|⟨h1,h⟩
 ·obtain ⟨x0,h2,h⟩:=Qae h
  obtain rfl:=Option.some.inj h
  exact gr 11 [] [cC (Qa4 h0),bT h1,cE Qal.enc h2]
 ·rcases Qak h with ⟨h3,h⟩|⟨h3,h⟩
  ·obtain ⟨x1,h4,h⟩:=Qae h
   obtain rfl:=Option.some.inj h
   exact gr 14 [] [cC (Qa4 h0),bF h1,bT h3,hH (.draw 12 []),rp 2 (cE Qal.enc h4)]
  ·rcases Qak h with ⟨h5,h⟩|⟨h5,h⟩
   ·obtain ⟨x2,h6,h⟩:=Qae h
    obtain rfl:=Option.some.inj h
    exact gr 17 [] [cC (Qa4 h0),bF h1,bF h3,nL Qal.enc l,bT h5,hH (.draw 16 []),rp 2 (cE Qal.enc h6)]
   ·obtain ⟨x3,h7,h⟩:=Qae h
    obtain ⟨x4,h8,h⟩:=Qae h
    obtain ⟨h9,h⟩:=Qat h
    obtain rfl:=Option.some.inj h
    exact gr 23 [] [cC (Qa4 h0),bF h1,bF h3,nL Qal.enc l,bF h5,hH (.draw 13 [(0,11),(1,12)]),cE Qal.enc h7,cE Qal.enc h8,hH (.draw 19 []),oO (h9)]
theorem Qxo {l t} {rv:Int} (h:Qmd l t=some rv):AFn Tryz.prog 123 [.one (lL 2 l Qal.enc),.one (lI t)] [] (one (lI rv)) []:=by
 refine QaG Tryz.func123 (by kernel_rfl) (by kernel_rfl) (fun Γ=>?_)
 unfold Qmd at h
 obtain ⟨r,h0,h⟩:=Qae h
 rcases Qak h with ⟨h1,h⟩|⟨h1,h⟩
 ·obtain ⟨r1,h2,h⟩:=Qae h
  rcases Qak h with ⟨h3,h⟩|⟨h3,h⟩
  ·obtain ⟨r2,h4,h⟩:=Qae h
   obtain rfl:=Option.some.inj h
   exact gr 9 [] [cC (Qif h0),nF h1,nF h1,cC (QtP h2),nF h1,nF h1,nF h3,cC (Qxp h4)]
  ·obtain rfl:=Option.some.inj h
   exact gr 8 [] [cC (Qif h0),nF h1,nF h1,cC (QtP h2),nF h1,nF h1,nT h3]
 ·obtain rfl:=Option.some.inj h
  exact gr 8 [] [cC (Qif h0),rp 4 (nT h1),tT]
def Qrp (Γ:Gam) (rv:Int) (cf:Cf):Prop:=Go Tryz.prog Tryz.f84 [] Γ (one (lI rv)) [] cf
def Qn3 (Γ:Gam) (rv:Int) (a:Qai) (t:Int) (out:Int) (v:Int):Prop:=Qrp Γ rv ⟨[.c 116,.l 116,.b 0,.c 15],⟨29,[vI 1 t,vI 5 out,vL 13 2 a.slow Qal.enc,vI 14 (lenI a.slow),vI 15 v],[]⟩⟩
def Qm2 (Γ:Gam) (rv:Int) (a:Qai) (t:Int) (out1:Int):Prop:=Qrp Γ rv ⟨[.c 15],⟨29,[vI 5 out1],[]⟩⟩
theorem Qtv (Γ:Gam) (rv:Int) {a t} {s:Int×Int} {e:Int} (h:QaX (fun s=>Qiu a t s.1 s.2) s=some e) (hD:Qm2 Γ rv a t e):Qn3 Γ rv a t s.1 s.2:=by
 refine QaA (C:=fun (s:Int×Int)=>Qn3 Γ rv a t s.1 s.2) (D:=fun (e:Int)=>Qm2 Γ rv a t e) ?_ h hD
 clear h hD s e
 rintro ⟨out,v⟩ z_ h hI hE
 replace h:Qiu a t out v=_:=h
 unfold Qiu at h
 rcases Qak h with ⟨h1,h⟩|⟨h1,h⟩
 ·obtain ⟨x0,h2,h⟩:=Qae h
  rcases Qak h with ⟨h3,h⟩|⟨h3,h⟩
  ·exact gn 16 [1,5,13,14,15] [] [bT h1,cE Qal.enc h2,bT h3] (hI _ (oJ h))
  ·exact gn 16 [1,5,13,14,15] [] [bT h1,cE Qal.enc h2,bF h3] (hI _ (oJ h))
 ·exact gn 5 [5] [] [bF h1] (hE _ (oJ h))
theorem Qiv {a t} {rv:Int} (h:QhJ a t=some rv):AFn Tryz.prog 84 [.agg (Qai.enc a),.one (lI t)] [] (one (lI rv)) []:=by
 refine QaG Tryz.func84 (by kernel_rfl) (by kernel_rfl) (fun Γ=>?_)
 unfold QhJ at h
 obtain ⟨r,h0,h⟩:=Qae h
 obtain ⟨e0,h4,h⟩:=Qae h
 refine gn 9 [1,5,13,14,15] [] [cC (Qxo h0),nL Qal.enc a.slow] (Qtv Γ rv h4 ?_)
 obtain ⟨out1,rfl⟩:∃ x,x=e0:=⟨_,rfl⟩
 replace h:(some out1:Option Int)=some _:=h
 obtain rfl:=Option.some.inj h
 exact gr 2 [] []
def QfM (Γ:Gam) (rv:List Int) (cf:Cf):Prop:=Go Tryz.prog Tryz.f50 [] Γ (one (lL 1 rv Qaw)) [] cf
def QmZ (Γ:Gam) (rv:List Int) (n:Qag) (profile:Int) (from_:Int) (t:Int) (l:List Int) (l1:List Int) (v:Int):Prop:=QfM Γ rv ⟨[.c 116,.l 116,.b 0,.c 15],⟨100,[vI 1 profile,vI 2 from_,vI 3 t,vP 4 0 2,vO 9 1 1 l1 Qaw,vI 20 (lenI l),vI 21 v],[oX 2 25 (Qag.enc n),oS 1 3 l1 Qaw]⟩⟩
def Ql2 (Γ:Gam) (rv:List Int) (n:Qag) (profile:Int) (from_:Int) (t:Int) (l:List Int) (l2:List Int):Prop:=QfM Γ rv ⟨[.c 15],⟨100,[vI 1 profile,vI 2 from_,vI 3 t,vP 4 0 2,vO 9 1 1 l2 Qaw],[oX 2 25 (Qag.enc n),oS 1 3 l2 Qaw]⟩⟩
def Qm1 (Γ:Gam) (rv:List Int) (n:Qag) (profile:Int) (from_:Int) (l:List Int) (l4:List Int) (better1:Bool) (v1:Int):Prop:=QfM Γ rv ⟨[.c 64812,.l 64812,.b 4,.b 3,.l 1012,.b 2,.c 127],⟨100,[vI 1 profile,vP 4 0 2,vO 9 1 1 l4 Qaw,vB 11 better1,vL 39 6 n.arcs Qai.enc,vI 40 (lenI n.arcs),vI 41 v1],[oX 2 25 (Qag.enc n),oS 1 3 l4 Qaw]⟩⟩
def Ql4 (Γ:Gam) (rv:List Int) (n:Qag) (profile:Int) (from_:Int) (l:List Int) (l5:List Int) (better2:Bool):Prop:=QfM Γ rv ⟨[.b 3,.l 1012,.b 2,.c 127],⟨100,[vI 1 profile,vP 4 0 2,vO 9 1 1 l5 Qaw,vB 11 better2],[oX 2 25 (Qag.enc n),oS 1 3 l5 Qaw]⟩⟩
def Qm0 (Γ:Gam) (rv:List Int) (n:Qag) (profile:Int) (from_:Int) (l:List Int) (l3:List Int) (better:Bool):Prop:=QfM Γ rv ⟨[.c 1012,.l 1012,.b 2,.c 127],⟨100,[vI 1 profile,vP 4 0 2,vO 9 1 1 l3 Qaw,vB 11 better],[oX 2 25 (Qag.enc n),oS 1 3 l3 Qaw]⟩⟩
def Ql3 (Γ:Gam) (rv:List Int) (n:Qag) (profile:Int) (from_:Int) (l:List Int) (l6:List Int):Prop:=QfM Γ rv ⟨[.c 127],⟨100,[vO 9 0 1 l6 Qaw],[oS 1 3 l6 Qaw]⟩⟩
theorem Qsy (Γ:Gam) (rv:List Int) {n profile from_ t l} {s:List Int×Int} {e:List Int} (h:QaX (fun s=>Qcy n profile from_ t l s.1 s.2) s=some e) (hD:Ql2 Γ rv n profile from_ t l e):QmZ Γ rv n profile from_ t l s.1 s.2:=by
 refine QaA (C:=fun (s:List Int×Int)=>QmZ Γ rv n profile from_ t l s.1 s.2) (D:=fun (e:List Int)=>Ql2 Γ rv n profile from_ t l e) ?_ h hD
 clear h hD s e
 rintro ⟨l1,v⟩ z_ h hI hE
 replace h:Qcy n profile from_ t l l1 v=_:=h
 unfold Qcy at h
 rcases Qak h with ⟨h1,h⟩|⟨h1,h⟩
 ·obtain ⟨x0,h2,h⟩:=Qae h
  exact gn 13 [1,2,3,4,9,20,21] [0,1] [bT h1,oO (QiR h2),oO (QiQ Qaw h2),rE Qaw h2,hH (.rows ((setI l1 v (-1)).map Qaw)),hH (.relen 1 ((setI l1 v (-1)).map Qaw).length),oO (setM Qaw l1 v (-1)),rp 2 (oO (QrM Qaw l1 v (-1)))] (hI _ (oJ h))
 ·exact gn 5 [1,2,3,4,9] [0,1] [bF h1] (hE _ (oJ h))
theorem QsA (Γ:Gam) (rv:List Int) {n profile from_ l} {s:List Int×Bool×Int} {e:List Int×Bool} (h:QaX (fun s=>Qcz n profile from_ l s.1 s.2.1 s.2.2) s=some e) (hD:Ql4 Γ rv n profile from_ l e.1 e.2):Qm1 Γ rv n profile from_ l s.1 s.2.1 s.2.2:=by
 refine QaA (C:=fun (s:List Int×Bool×Int)=>Qm1 Γ rv n profile from_ l s.1 s.2.1 s.2.2) (D:=fun (e:List Int×Bool)=>Ql4 Γ rv n profile from_ l e.1 e.2) ?_ h hD
 clear h hD s e
 rintro ⟨l4,better1,v1⟩ z_ h hI hE
 replace h:Qcz n profile from_ l l4 better1 v1=_:=h
 unfold Qcz at h
 rcases Qak h with ⟨h8,h⟩|⟨h8,h⟩
 ·obtain ⟨x2,h9,h⟩:=Qae h
  rcases Qak h with ⟨h10,h⟩|⟨h10,h⟩
  ·exact gn 16 [1,4,9,11,39,40,41] [0,1] [bT h8,cE Qai.enc h9,rp 6 (bT h10),rp 14 tT] (hI _ (oJ h))
  ·obtain ⟨r1,h11,h⟩:=Qae h
   rcases Qak h with ⟨h12,h⟩|⟨h12,h⟩
   ·obtain ⟨r2,h13,h⟩:=Qae h
    rcases Qak h with ⟨h14,h⟩|⟨h14,h⟩
    ·obtain ⟨x3,h15,h⟩:=Qae h
     rcases Qak h with ⟨h16,h⟩|⟨h16,h⟩
     ·exact gn 16 [1,4,9,11,39,40,41] [0,1] [bT h8,cE Qai.enc h9,rp 4 (bF h10),cC (QaW h11),rp 2 (bF h10),rp 4 (nF h12),cC (QaW h13),rp 2 (nF h12),rp 4 (nF h14),oO (QiR h15),oO (QiQ Qaw h15),nF h14,rE Qaw h15,rp 2 (nF h14),bT h16] (hI _ (oJ h))
     ·obtain ⟨r3,h17,h⟩:=Qae h
      obtain ⟨x4,h18,h⟩:=Qae h
      rcases Qak h with ⟨h19,h⟩|⟨h19,h⟩
      ·exact gn 25 [1,4,9,11,39,40,41] [0,1] [bT h8,cE Qai.enc h9,rp 4 (bF h10),cC (QaW h11),rp 2 (bF h10),rp 4 (nF h12),cC (QaW h13),rp 2 (nF h12),rp 4 (nF h14),oO (QiR h15),oO (QiQ Qaw h15),nF h14,rE Qaw h15,rp 2 (nF h14),bF h16,hH (.draw 8 []),oO (QiR h15),oO (QiQ Qaw h15),rE Qaw h15,cC (Qiv h17),oO (QiR h18),oO (QiQ Qaw h18),rE Qaw h18,rp 8 (bT h19),tT,oO (QiR h18),oO (QiQ Qaw h18),rE Qaw h18,hH (.rows ((setI l4 x2.to_ r3).map Qaw)),hH (.relen 1 ((setI l4 x2.to_ r3).map Qaw).length),oO (setM Qaw l4 x2.to_ r3),rp 5 (oO (QrM Qaw l4 x2.to_ r3))] (hI _ (oJ h))
      ·rcases Qak h with ⟨h20,h⟩|⟨h20,h⟩
       ·exact gn 25 [1,4,9,11,39,40,41] [0,1] [bT h8,cE Qai.enc h9,rp 4 (bF h10),cC (QaW h11),rp 2 (bF h10),rp 4 (nF h12),cC (QaW h13),rp 2 (nF h12),rp 4 (nF h14),oO (QiR h15),oO (QiQ Qaw h15),nF h14,rE Qaw h15,rp 2 (nF h14),bF h16,hH (.draw 8 []),oO (QiR h15),oO (QiQ Qaw h15),rE Qaw h15,cC (Qiv h17),oO (QiR h18),oO (QiQ Qaw h18),rE Qaw h18,rp 5 (bF h19),oO (QiR h18),oO (QiQ Qaw h18),bF h19,rE Qaw h18,rp 2 (bF h19),bT h20,oO (QiR h18),oO (QiQ Qaw h18),rE Qaw h18,hH (.rows ((setI l4 x2.to_ r3).map Qaw)),hH (.relen 1 ((setI l4 x2.to_ r3).map Qaw).length),oO (setM Qaw l4 x2.to_ r3),rp 6 (oO (QrM Qaw l4 x2.to_ r3))] (hI _ (oJ h))
       ·exact gn 23 [1,4,9,11,39,40,41] [0,1] [bT h8,cE Qai.enc h9,rp 4 (bF h10),cC (QaW h11),rp 2 (bF h10),rp 4 (nF h12),cC (QaW h13),rp 2 (nF h12),rp 4 (nF h14),oO (QiR h15),oO (QiQ Qaw h15),nF h14,rE Qaw h15,rp 2 (nF h14),bF h16,hH (.draw 8 []),oO (QiR h15),oO (QiQ Qaw h15),rE Qaw h15,cC (Qiv h17),oO (QiR h18),oO (QiQ Qaw h18),rE Qaw h18,rp 5 (bF h19),oO (QiR h18),oO (QiQ Qaw h18),bF h19,rE Qaw h18,rp 2 (bF h19),bF h20] (hI _ (oJ h))
    ·exact gn 16 [1,4,9,11,39,40,41] [0,1] [bT h8,cE Qai.enc h9,rp 4 (bF h10),cC (QaW h11),rp 2 (bF h10),rp 4 (nF h12),cC (QaW h13),rp 2 (nF h12),rp 7 (nT h14),tT] (hI _ (oJ h))
   ·exact gn 16 [1,4,9,11,39,40,41] [0,1] [bT h8,cE Qai.enc h9,rp 4 (bF h10),cC (QaW h11),rp 2 (bF h10),rp 6 (nT h12),rp 8 tT] (hI _ (oJ h))
 ·exact gn 5 [1,4,9,11] [0,1] [bF h8] (hE _ (oJ h))
theorem Qsz (Γ:Gam) (rv:List Int) {n profile from_ l} {s:List Int×Bool} {e:List Int} (h:QaX (fun s=>Qes n profile from_ l s.1 s.2) s=some e) (hD:Ql3 Γ rv n profile from_ l e):Qm0 Γ rv n profile from_ l s.1 s.2:=by
 refine QaA (C:=fun (s:List Int×Bool)=>Qm0 Γ rv n profile from_ l s.1 s.2) (D:=fun (e:List Int)=>Ql3 Γ rv n profile from_ l e) ?_ h hD
 clear h hD s e
 rintro ⟨l3,better⟩ z_ h hI hE
 replace h:Qes n profile from_ l l3 better=_:=h
 unfold Qes at h
 rcases Qak h with ⟨h7,h⟩|⟨h7,h⟩
 ·obtain ⟨e1,h21,h⟩:=Qae h
  refine gn 12 [1,4,9,11,39,40,41] [0,1] [bT h7,nL Qai.enc n.arcs] (QsA Γ rv h21 ?_)
  obtain ⟨l5,better2⟩:=e1
  replace h:(some (.inl (l5,better2)):Option ((List Int×Bool)⊕(List Int)))=some _:=h
  exact gn 2 [1,4,9,11] [0,1] [] (hI _ (oJ h))
 ·exact gn 5 [9] [1] [bF h7] (hE _ (oJ h))
theorem QoX {n profile from_ t} {rv:List Int} (h:Qg5 n profile from_ t=some rv):AFn Tryz.prog 50 [.agg (Qag.enc n),.one (lI profile),.one (lI from_),.one (lI t)] [] (one (lL 1 rv Qaw)) []:=by
 refine QaG Tryz.func50 (by kernel_rfl) (by kernel_rfl) (fun Γ=>?_)
 unfold Qg5 at h
 obtain ⟨l,h0,h⟩:=Qae h
 obtain ⟨e0,h3,h⟩:=Qae h
 refine gn 9 [1,2,3,4,9,20,21] [0,1] [nL QeA n.places,hH (.cells [lI 0]),hH (.rows (l.map Qaw)),oO (mk1 h0),oO (mk2 h0),oO (mk3 h0),oO (mk4 h0),oO (mk5 Qaw h0),nL Qaw l] (Qsy Γ rv h3 ?_)
 obtain ⟨l2,rfl⟩:∃ x,x=e0:=⟨_,rfl⟩
 replace h:(bnd (QeD n from_) fun r=>br r (bnd (getI l2 from_) fun x1=>bnd (QaX (fun s=>Qes n profile from_ l s.1 s.2) ((setI l2 from_ t),true)) (fun l6=>some l6)) (some l2):Option (List Int))=some _:=h
 obtain ⟨r,h4,h⟩:=Qae h
 rcases Qak h with ⟨h5,h⟩|⟨h5,h⟩
 ·obtain ⟨x1,h6,h⟩:=Qae h
  obtain ⟨e2,h22,h⟩:=Qae h
  refine gn 12 [1,4,9,11] [0,1] [cC (QaW h4),nF h5,oO (QiR h6),oO (QiQ Qaw h6),rE Qaw h6,hH (.rows ((setI l2 from_ t).map Qaw)),hH (.relen 1 ((setI l2 from_ t).map Qaw).length),oO (setM Qaw l2 from_ t),rp 2 (oO (QrM Qaw l2 from_ t))] (Qsz Γ rv h22 ?_)
  obtain ⟨l6,rfl⟩:∃ x,x=e2:=⟨_,rfl⟩
  replace h:(some l6:Option (List Int))=some _:=h
  obtain rfl:=Option.some.inj h
  exact gr 2 [] [hW 4,hH (.frz 0),rp 3 (eL l6 Qaw)]
 ·obtain rfl:=Option.some.inj h
  exact gr 6 [] [cC (QaW h4),nT h5,hW 4,hH (.frz 1),rp 3 (eL l2 Qaw)]
def QsK (Γ:Gam) (rv:Qaz) (cf:Cf):Prop:=Go Tryz.prog Tryz.f26 [] Γ (one (.ip [lL 1 rv.x.net.places QeA,lL 6 rv.x.net.arcs Qai.enc,lL 14 rv.x.types Qaf.enc,lL 16 rv.x.orders Qac.enc,lL 2 rv.x.apart Qav.enc,lL 2 rv.x.before Qav.enc,lL 1 rv.first_ QdN] 0)) [] cf
def Qo0 (Γ:Gam) (rv:Qaz) (x0:Qab) (l:List (List Int)) (v:Int):Prop:=QsK Γ rv ⟨[.c 116,.l 116,.b 0,.c 15],⟨36,[vP 1 0 6,vP 3 1 7,vL 10 14 x0.types Qaf.enc,vI 11 (lenI x0.types),vI 12 v],[oX 6 30 (Qab.enc x0),oX 7 89 [lL 1 x0.net.places QeA,lL 6 x0.net.arcs Qai.enc,lL 14 x0.types Qaf.enc,lL 16 x0.orders Qac.enc,lL 2 x0.apart Qav.enc,lL 2 x0.before Qav.enc,lO 2 1 l QdN],oS 1 52 l QdN]⟩⟩
def Qn8 (Γ:Gam) (rv:Qaz) (x0:Qab) (l1:List (List Int)):Prop:=QsK Γ rv ⟨[.c 15],⟨36,[vP 3 0 7],[oX 7 89 [lL 1 x0.net.places QeA,lL 6 x0.net.arcs Qai.enc,lL 14 x0.types Qaf.enc,lL 16 x0.orders Qac.enc,lL 2 x0.apart Qav.enc,lL 2 x0.before Qav.enc,lO 1 1 l1 QdN],oS 1 52 l1 QdN]⟩⟩
theorem Qt5 (Γ:Gam) (rv:Qaz) {x0} {s:List (List Int)×Int} {e:List (List Int)} (h:QaX (fun s=>Qdd x0 s.1 s.2) s=some e) (hD:Qn8 Γ rv x0 e):Qo0 Γ rv x0 s.1 s.2:=by
 refine QaA (C:=fun (s:List (List Int)×Int)=>Qo0 Γ rv x0 s.1 s.2) (D:=fun (e:List (List Int))=>Qn8 Γ rv x0 e) ?_ h hD
 clear h hD s e
 rintro ⟨l,v⟩ z_ h hI hE
 replace h:Qdd x0 l v=_:=h
 unfold Qdd at h
 rcases Qak h with ⟨h0,h⟩|⟨h0,h⟩
 ·obtain ⟨x1,h1,h⟩:=Qae h
  obtain ⟨r,h2,h⟩:=Qae h
  obtain ⟨h3,h⟩:=Qat h
  exact gn 13 [1,3,10,11,12] [0,1,5] [bT h0,cE Qaf.enc h1,hH (.draw 18 [(2,15)]),cC (QoX h2),oO (Eq.refl ([r].map QdN).length),aO QdN h3] (hI _ (oJ h))
 ·exact gn 5 [3] [1,2] [bF h0] (hE _ (oJ h))
theorem Qrz {x0} {rv:Qaz} (h:QiA x0=some rv):AFn Tryz.prog 26 [.agg (Qab.enc x0)] [] (one (.ip [lL 1 rv.x.net.places QeA,lL 6 rv.x.net.arcs Qai.enc,lL 14 rv.x.types Qaf.enc,lL 16 rv.x.orders Qac.enc,lL 2 rv.x.apart Qav.enc,lL 2 rv.x.before Qav.enc,lL 1 rv.first_ QdN] 0)) []:=by
 refine QaG Tryz.func26 (by kernel_rfl) (by kernel_rfl) (fun Γ=>?_)
 unfold QiA at h
 obtain ⟨e0,h4,h⟩:=Qae h
 refine gn 9 [1,3,10,11,12] [0,1,2] [nL Qaf.enc x0.types,hW 3,hH (.adoptB 1 6 1 52)] (Qt5 Γ rv h4 ?_)
 obtain ⟨l1,rfl⟩:∃ x,x=e0:=⟨_,rfl⟩
 replace h:(some (Qaz.mk x0 l1):Option Qaz)=some _:=h
 obtain rfl:=Option.some.inj h
 exact gr 2 [] [hW 4,hH (.frz 1),hH (.frzB 0),eL l1 QdN]
theorem Qjs {t skills} {rv:Bool} (h:QjM t skills=some rv):AFn Tryz.prog 85 [.agg (Qaf.enc t),.one (lI skills)] [] (one (.bool rv)) []:=by
 refine QaG Tryz.func85 (by kernel_rfl) (by kernel_rfl) (fun Γ=>?_)
 unfold QjM at h
 obtain rfl:=Option.some.inj h
 exact gr 4 [] [rp 9 hP,oI ((geI t.skills 0)=true),oR True ((geI t.skills 0)=true),rp 4 (oI (((geI t.skills 0)&&(geI skills 0))=true)),oR True (((geI t.skills 0)&&(geI skills 0))=true)]
def QkC (Γ:Gam) (rv:Int) (cf:Cf):Prop:=Go Tryz.prog Tryz.f51 [] Γ (one (lI rv)) [] cf
def Qi2 (Γ:Gam) (rv:Int) (r:Qaz) (o:Qac) (place:Int) (least:Int) (v:Int):Prop:=QkC Γ rv ⟨[.c 116,.l 116,.b 0,.c 15],⟨52,[(0,one (.ip (Qaz.enc r) 0)),vI 2 place,vP 4 0 16,vI 7 least,vL 15 14 r.x.types Qaf.enc,vI 16 (lenI r.x.types),vI 17 v],[oX 16 56 (Qac.enc o)]⟩⟩
def QiJ (Γ:Gam) (rv:Int) (r:Qaz) (o:Qac) (place:Int) (least1:Int):Prop:=QkC Γ rv ⟨[.c 15],⟨52,[vI 7 least1],[]⟩⟩
theorem Qox (Γ:Gam) (rv:Int) {r o place} {s:Int×Int} {e:Int} (h:QaX (fun s=>QbB r o place s.1 s.2) s=some e) (hD:QiJ Γ rv r o place e):Qi2 Γ rv r o place s.1 s.2:=by
 refine QaA (C:=fun (s:Int×Int)=>Qi2 Γ rv r o place s.1 s.2) (D:=fun (e:Int)=>QiJ Γ rv r o place e) ?_ h hD
 clear h hD s e
 rintro ⟨least,v⟩ z_ h hI hE
 replace h:QbB r o place least v=_:=h
 unfold QbB at h
 rcases Qak h with ⟨h0,h⟩|⟨h0,h⟩
 ·obtain ⟨x0,h1,h⟩:=Qae h
  obtain ⟨x1,h2,h⟩:=Qae h
  obtain ⟨x2,h3,h⟩:=Qae h
  obtain ⟨r1,h4,h⟩:=Qae h
  rcases Qak h with ⟨h5,h⟩|⟨h5,h⟩
  ·exact gn 18 [0,2,4,7,15,16,17] [0] [bT h0,cE Qaf.enc h1,cE QdN h2,cE Qaw h3,cC (Qjs h4),rp 12 hP,oI (r1=true),oR True (r1=true),rp 2 (oI ((r1&&(geI x2 0))=true)),rp 2 (oI (((r1&&(geI x2 0))=true)∧(ltI least 0)=false)),oI ((r1&&(geI x2 0))=true),oI (((r1&&(geI x2 0))=true)∧(ltI least 0)=false),oR True ((r1&&(geI x2 0))=true),bT h5] (hI _ (oJ h))
  ·exact gn 18 [0,2,4,7,15,16,17] [0] [bT h0,cE Qaf.enc h1,cE QdN h2,cE Qaw h3,cC (Qjs h4),rp 12 hP,oI (r1=true),oR True (r1=true),rp 2 (oI ((r1&&(geI x2 0))=true)),rp 2 (oI (((r1&&(geI x2 0))=true)∧(ltI least 0)=false)),oI ((r1&&(geI x2 0))=true),oI (((r1&&(geI x2 0))=true)∧(ltI least 0)=false),oR True ((r1&&(geI x2 0))=true),bF h5] (hI _ (oJ h))
 ·exact gn 5 [7] [] [bF h0] (hE _ (oJ h))
theorem Qhr {r o place} {rv:Int} (h:Qfo r o place=some rv):AFn Tryz.prog 51 [.one (.ip (Qaz.enc r) 0),.agg (Qac.enc o),.one (lI place)] [] (one (lI rv)) []:=by
 refine QaG Tryz.func51 (by kernel_rfl) (by kernel_rfl) (fun Γ=>?_)
 unfold Qfo at h
 obtain ⟨e0,h6,h⟩:=Qae h
 refine gn 9 [0,2,4,7,15,16,17] [0] [nL Qaf.enc r.x.types] (Qox Γ rv h6 ?_)
 obtain ⟨least1,rfl⟩:∃ x,x=e0:=⟨_,rfl⟩
 replace h:(some least1:Option Int)=some _:=h
 obtain rfl:=Option.some.inj h
 exact gr 2 [] []
theorem QjG {t c c1 c2 c3} {rv:Bool} (h:Qe8 t c c1 c2 c3=some rv):AFn Tryz.prog 87 [.agg (Qaf.enc t),.one (.ip (Qac.enc c) 0),.one (.ip [.ip (Qaz.enc c1) 0] 0),.one (.ip [lI c2] 0),.one (.ip [lI c3] 0)] [] (one (.bool rv)) []:=by
 refine QaG Tryz.func87 (by kernel_rfl) (by kernel_rfl) (fun Γ=>?_)
 unfold Qe8 at h
 obtain ⟨r,h0,h⟩:=Qae h
 rcases Qak h with ⟨h1,h⟩|⟨h1,h⟩
 ·obtain ⟨r1,h2,h⟩:=Qae h
  obtain ⟨x0,h3,h⟩:=Qae h
  obtain rfl:=Option.some.inj h
  exact gr 11 [] [cC (Qjs h0),nF h1,hH (.draw 15 []),cC (QoX h2),cE Qaw h3,rp 5 hP,rp 3 (oI ((geI x0 0)=true)),oR True ((geI x0 0)=true)]
 ·obtain rfl:=Option.some.inj h
  exact gr 8 [] [cC (Qjs h0),nT h1]
def QdK (Γ:Gam) (rv:Int) (cf:Cf):Prop:=Go Tryz.prog Tryz.f124 [] Γ (one (lI rv)) [] cf
def Qc8 (Γ:Gam) (rv:Int) (s0:List Qaf) (c:Qac) (c1:Qaz) (c2:Int) (c3:Int) (v:Int):Prop:=QdK Γ rv ⟨[.c 52,.l 52,.b 0,.c 7],⟨19,[vL 0 14 s0 Qaf.enc,(1,one (.fn (.func 87) [.ip (Qac.enc c) 0,.ip [.ip (Qaz.enc c1) 0] 0,.ip [lI c2] 0,.ip [lI c3] 0])),vI 7 (lenI s0),vI 8 v],[]⟩⟩
def Qc0 (Γ:Gam) (rv:Int) (s0:List Qaf) (c:Qac) (c1:Qaz) (c2:Int) (c3:Int):Prop:=QdK Γ rv ⟨[.c 7],⟨19,[],[]⟩⟩
theorem QfO (Γ:Gam) (rv:Int) {s0 c c1 c2 c3} {s:Int} {e:(Unit)⊕(Int)} (h:QaX (fun s=>QaC s0 c c1 c2 c3 s) s=some e) (hD:sel e (fun e=>Qc0 Γ rv s0 c c1 c2 c3) (fun e=>e=rv)):Qc8 Γ rv s0 c c1 c2 c3 s:=by
 refine QaA (C:=fun (s:Int)=>Qc8 Γ rv s0 c c1 c2 c3 s) (D:=fun (e:(Unit)⊕(Int))=>sel e (fun e=>Qc0 Γ rv s0 c c1 c2 c3) (fun e=>e=rv)) ?_ h hD
 clear h hD s e
 intro v z_ h hI hE
 replace h:QaC s0 c c1 c2 c3 v=_:=h
 unfold QaC at h
 rcases Qak h with ⟨h0,h⟩|⟨h0,h⟩
 ·obtain ⟨x0,h1,h⟩:=Qae h
  obtain ⟨r,h2,h⟩:=Qae h
  rcases Qak h with ⟨h3,h⟩|⟨h3,h⟩
  ·obtain rfl:=(hE _ (oJ h):_=rv)
   exact gr 14 [] [bT h0,cE Qaf.enc h1,cC (QjG h2),bT h3]
  ·exact gn 16 [0,1,7,8] [] [bT h0,cE Qaf.enc h1,cC (QjG h2),bF h3] (hI _ (oJ h))
 ·exact gn 5 [] [] [bF h0] (hE _ (oJ h))
theorem Qgc {s0 c c1 c2 c3} {rv:Int} (h:QbJ s0 c c1 c2 c3=some rv):AFn Tryz.prog 124 [.one (lL 14 s0 Qaf.enc),.one (.fn (.func 87) [.ip (Qac.enc c) 0,.ip [.ip (Qaz.enc c1) 0] 0,.ip [lI c2] 0,.ip [lI c3] 0])] [] (one (lI rv)) []:=by
 refine QaG Tryz.func124 (by kernel_rfl) (by kernel_rfl) (fun Γ=>?_)
 unfold QbJ at h
 obtain ⟨e0,h4,h⟩:=Qae h
 refine gn 7 [0,1,7,8] [] [nL Qaf.enc s0] (QfO Γ rv h4 ?_)
 rcases e0 with e0|e0
 ·replace h:(some (-1):Option Int)=some _:=h
  obtain rfl:=Option.some.inj h
  exact gr 2 [] []
 ·obtain ⟨r1,rfl⟩:∃ x,x=e0:=⟨_,rfl⟩
  replace h:(some r1:Option Int)=some _:=h
  exact Option.some.inj h
theorem QfN {s0 c c1 c2 c3} {rv:Bool} (h:Qbq s0 c c1 c2 c3=some rv):AFn Tryz.prog 86 [.one (lL 14 s0 Qaf.enc),.one (.fn (.func 87) [.ip (Qac.enc c) 0,.ip [.ip (Qaz.enc c1) 0] 0,.ip [lI c2] 0,.ip [lI c3] 0])] [] (one (.bool rv)) []:=by
 refine QaG Tryz.func86 (by kernel_rfl) (by kernel_rfl) (fun Γ=>?_)
 unfold Qbq at h
 obtain ⟨r,h0,h⟩:=Qae h
 obtain rfl:=Option.some.inj h
 exact gr 4 [] [cC (Qgc h0)]
theorem QrX {r o place depart} {rv:Bool} (h:Qf3 r o place depart=some rv):AFn Tryz.prog 54 [.one (.ip (Qaz.enc r) 0),.agg (Qac.enc o),.one (lI place),.one (lI depart)] [] (one (.bool rv)) []:=by
 refine QaG Tryz.func54 (by kernel_rfl) (by kernel_rfl) (fun Γ=>?_)
 unfold Qf3 at h
 obtain ⟨r1,h0,h⟩:=Qae h
 obtain rfl:=Option.some.inj h
 exact gr 4 [] [cC (QfN h0)]
theorem QkD {k c c1 c2 c3} {rv:Bool} (h:QeS k c c1 c2 c3=some rv):AFn Tryz.prog 53 [.one (lI k),.one (.ip [.ip (Qaz.enc c) 0] 0),.one (.ip (Qac.enc c1) 0),.one (.ip (Qap.enc c2) 0),.one (.ip [lI c3] 0)] [] (one (.bool rv)) []:=by
 refine QaG Tryz.func53 (by kernel_rfl) (by kernel_rfl) (fun Γ=>?_)
 unfold QeS at h
 obtain ⟨r,h0,h⟩:=Qae h
 obtain rfl:=Option.some.inj h
 exact gr 4 [] [cC (QrX h0)]
def Qm9 (Γ:Gam) (rv:Int) (cf:Cf):Prop:=Go Tryz.prog Tryz.f52 [] Γ (one (lI rv)) [] cf
def Qki (Γ:Gam) (rv:Int) (c:Qaz) (c1:Qac) (c2:Qap) (c3:Int) (i:Int) (j:Int):Prop:=Qm9 Γ rv ⟨[.c 56,.l 56,.b 0,.c 15],⟨26,[(1,one (.fn (.func 53) [.ip [.ip (Qaz.enc c) 0] 0,.ip (Qac.enc c1) 0,.ip (Qap.enc c2) 0,.ip [lI c3] 0])),vI 5 i,vI 6 j],[]⟩⟩
def QjH (Γ:Gam) (rv:Int) (c:Qaz) (c1:Qac) (c2:Qap) (c3:Int) (i1:Int):Prop:=Qm9 Γ rv ⟨[.c 15],⟨26,[vI 5 i1],[]⟩⟩
theorem Qqv (Γ:Gam) (rv:Int) {c c1 c2 c3} {s:Int×Int} {e:Int} (h:QaX (fun s=>Qd7 c c1 c2 c3 s.1 s.2) s=some e) (hD:QjH Γ rv c c1 c2 c3 e):Qki Γ rv c c1 c2 c3 s.1 s.2:=by
 refine QaA (C:=fun (s:Int×Int)=>Qki Γ rv c c1 c2 c3 s.1 s.2) (D:=fun (e:Int)=>QjH Γ rv c c1 c2 c3 e) ?_ h hD
 clear h hD s e
 rintro ⟨i,j⟩ z_ h hI hE
 replace h:Qd7 c c1 c2 c3 i j=_:=h
 unfold Qd7 at h
 rcases Qak h with ⟨h0,h⟩|⟨h0,h⟩
 ·obtain ⟨r,h1,h⟩:=Qae h
  rcases Qak h with ⟨h2,h⟩|⟨h2,h⟩
  ·exact gn 14 [1,5,6] [] [bT h0,oO (zL 1),cC (QkD h1),nF h2] (hI _ (oJ h))
  ·exact gn 14 [1,5,6] [] [bT h0,oO (zL 1),cC (QkD h1),nT h2] (hI _ (oJ h))
 ·exact gn 5 [5] [] [bF h0] (hE _ (oJ h))
theorem Qmc {n c c1 c2 c3} {rv:Int} (h:Qgz n c c1 c2 c3=some rv):AFn Tryz.prog 52 [.one (lI n),.one (.fn (.func 53) [.ip [.ip (Qaz.enc c) 0] 0,.ip (Qac.enc c1) 0,.ip (Qap.enc c2) 0,.ip [lI c3] 0])] [] (one (lI rv)) []:=by
 refine QaG Tryz.func52 (by kernel_rfl) (by kernel_rfl) (fun Γ=>?_)
 unfold Qgz at h
 obtain ⟨e0,h3,h⟩:=Qae h
 refine gn 7 [1,5,6] [] [] (Qqv Γ rv h3 ?_)
 obtain ⟨i1,rfl⟩:∃ x,x=e0:=⟨_,rfl⟩
 replace h:(some i1:Option Int)=some _:=h
 obtain rfl:=Option.some.inj h
 exact gr 2 [] []
theorem Qm4 {r o s0} {rv:Qap} (h:Qd5 r o s0=some rv):AFn Tryz.prog 28 [.one (.ip (Qaz.enc r) 0),.agg (Qac.enc o),.agg (Qap.enc s0)] [] (gG [lI rv.place,lI rv.open_,lI rv.close,lI rv.service]) []:=by
 refine QaG Tryz.func28 (by kernel_rfl) (by kernel_rfl) (fun Γ=>?_)
 unfold Qd5 at h
 rcases Qak h with ⟨h0,h⟩|⟨h0,h⟩
 ·obtain rfl:=Option.some.inj h
  exact gr 8 [] [bT h0]
 ·obtain ⟨r1,h1,h⟩:=Qae h
  rcases Qak h with ⟨h2,h⟩|⟨h2,h⟩
  ·obtain rfl:=Option.some.inj h
   exact gr 15 [] [bF h0,cC (Qhr h1),rp 5 hP,rp 3 (oI ((ltI r1 0)=false)),oR True ((ltI r1 0)=false),bT h2]
  ·obtain ⟨r2,h3,h⟩:=Qae h
   rcases Qak h with ⟨h4,h⟩|⟨h4,h⟩
   ·obtain rfl:=Option.some.inj h
    exact gr 24 [] [bF h0,cC (Qhr h1),rp 5 hP,rp 3 (oI ((ltI r1 0)=false)),oR True ((ltI r1 0)=false),bF h2,cC (Qmc h3),bT h4]
   ·obtain rfl:=Option.some.inj h
    exact gr 27 [] [bF h0,cC (Qhr h1),rp 5 hP,rp 3 (oI ((ltI r1 0)=false)),oR True ((ltI r1 0)=false),bF h2,cC (Qmc h3),bF h4,hH (.draw 8 [(2,6)])]
theorem QhS {s0} {rv:List Qac} (h:QbK s0=some rv):AFn Tryz.prog 27 [.one (lL 16 s0 Qac.enc)] [] (one (lO 0 16 rv Qac.enc)) [oS 16 56 rv Qac.enc]:=by
 refine QaG Tryz.func27 (by kernel_rfl) (by kernel_rfl) (fun Γ=>?_)
 unfold QbK at h
 rcases Qak h with ⟨h0,h⟩|⟨h0,h⟩
 ·obtain ⟨hx,h⟩:=QBK h
  refine gn 5 [0,4] [] [hH (.skip)] (cf':=⟨[.c 13,.c 7],⟨8,[vL 0 16 s0 Qac.enc,(4,.boo)],[]⟩⟩) (go_amb 4 rfl ?_ ?_)
  ·replace h:=hx
   obtain rfl:=Option.some.inj h
   exact gr 3 [0] [tT,hW 3,hH (.adopt 2 16 56)]
  ·obtain ⟨h1,h⟩:=Qat h
   obtain rfl:=Option.some.inj h
   exact gr 4 [0] [fF,aZ Qac.enc h1]
 ·obtain ⟨h2,h⟩:=Qat h
  obtain rfl:=Option.some.inj h
  exact gr 9 [0] [oO (neE Qac.enc h0),fF,hH (.bit false),aZ Qac.enc h2]
def QuG (Γ:Gam) (rv:Qab×Int) (cf:Cf):Prop:=Go Tryz.prog Tryz.f10 [] Γ (.tup [.agg [lL 1 rv.1.net.places QeA,lL 6 rv.1.net.arcs Qai.enc,lL 14 rv.1.types Qaf.enc,lL 16 rv.1.orders Qac.enc,lL 2 rv.1.apart Qav.enc,lL 2 rv.1.before Qav.enc],.one (lI rv.2)]) [] cf
def Qry (Γ:Gam) (rv:Qab×Int) (x0:Qab) (r1:Qaz) (r2:List Qac) (l:List Qac) (v:Int):Prop:=QuG Γ rv ⟨[.c 500,.l 500,.b 0,.c 63],⟨49,[vP 1 0 6,vP 2 1 6,(4,one (.ip (Qaz.enc r1) 0)),vO 18 2 16 l Qac.enc,vI 19 (lenI r2),vI 20 v],[oX 6 30 [lL 1 x0.net.places QeA,lL 6 x0.net.arcs Qai.enc,lL 14 x0.types Qaf.enc,lO 2 16 l Qac.enc,lL 2 x0.apart Qav.enc,lL 2 x0.before Qav.enc],oX 6 30 [.nils,.nils,.nils,.nils,.nils,.nils],oS 16 56 l Qac.enc]⟩⟩
def Qqc (Γ:Gam) (rv:Qab×Int) (x0:Qab) (r1:Qaz) (r2:List Qac) (l1:List Qac):Prop:=QuG Γ rv ⟨[.c 63],⟨49,[vP 1 0 6,vP 2 1 6],[oX 6 30 [lL 1 x0.net.places QeA,lL 6 x0.net.arcs Qai.enc,lL 14 x0.types Qaf.enc,lO 2 16 l1 Qac.enc,lL 2 x0.apart Qav.enc,lL 2 x0.before Qav.enc],oX 6 30 [.nils,.nils,.nils,.nils,.nils,.nils],oS 16 56 l1 Qac.enc]⟩⟩
theorem Qvt (Γ:Gam) (rv:Qab×Int) {x0 r1 r2} {s:List Qac×Int} {e:List Qac} (h:QaX (fun s=>Qe2 x0 r1 r2 s.1 s.2) s=some e) (hD:Qqc Γ rv x0 r1 r2 e):Qry Γ rv x0 r1 r2 s.1 s.2:=by
 refine QaA (C:=fun (s:List Qac×Int)=>Qry Γ rv x0 r1 r2 s.1 s.2) (D:=fun (e:List Qac)=>Qqc Γ rv x0 r1 r2 e) ?_ h hD
 clear h hD s e
 rintro ⟨l,v⟩ z_ h hI hE
 replace h:Qe2 x0 r1 r2 l v=_:=h
 unfold Qe2 at h
 rcases Qak h with ⟨h4,h⟩|⟨h4,h⟩
 ·obtain ⟨x1,h5,h⟩:=Qae h
  rcases Qak h with ⟨h6,h⟩|⟨h6,h⟩
  ·exact gn 16 [1,2,4,18,19,20] [0,1,2] [bT h4,oO (QiR h5),oO (QiQ Qac.enc h5),rE Qac.enc h5,bT h6] (hI _ (oJ h))
  ·obtain ⟨r3,h7,h⟩:=Qae h
   obtain ⟨r4,h8,h⟩:=Qae h
   exact gn 20 [1,2,4,18,19,20] [0,1,2] [bT h4,oO (QiR h5),oO (QiQ Qac.enc h5),rE Qac.enc h5,bF h6,hH (.draw 10 []),cC (Qm4 h7),oO (QiR h5),oO (QiQ Qac.enc h5),rE Qac.enc h5,hH (.rows ((setI l v (Qac.mk x1.name x1.load r3 x1.drop x1.skills x1.penalty x1.split x1.last_ x1.now x1.off)).map Qac.enc)),hH (.relen 2 ((setI l v (Qac.mk x1.name x1.load r3 x1.drop x1.skills x1.penalty x1.split x1.last_ x1.now x1.off)).map Qac.enc).length),hH (.draw 10 []),oO (setM Qac.enc l v (Qac.mk x1.name x1.load r3 x1.drop x1.skills x1.penalty x1.split x1.last_ x1.now x1.off)),rp 3 (oO (QrM Qac.enc l v (Qac.mk x1.name x1.load r3 x1.drop x1.skills x1.penalty x1.split x1.last_ x1.now x1.off))),cC (Qm4 h8),oO (QiR (Qyk h5 (Qac.mk x1.name x1.load r3 x1.drop x1.skills x1.penalty x1.split x1.last_ x1.now x1.off))),oO (QiQ Qac.enc (Qyk h5 (Qac.mk x1.name x1.load r3 x1.drop x1.skills x1.penalty x1.split x1.last_ x1.now x1.off))),rE Qac.enc (Qyk h5 (Qac.mk x1.name x1.load r3 x1.drop x1.skills x1.penalty x1.split x1.last_ x1.now x1.off)),hH (.rows ((setI (setI l v (Qac.mk x1.name x1.load r3 x1.drop x1.skills x1.penalty x1.split x1.last_ x1.now x1.off)) v (Qac.mk x1.name x1.load r3 r4 x1.skills x1.penalty x1.split x1.last_ x1.now x1.off)).map Qac.enc)),hH (.relen 2 ((setI (setI l v (Qac.mk x1.name x1.load r3 x1.drop x1.skills x1.penalty x1.split x1.last_ x1.now x1.off)) v (Qac.mk x1.name x1.load r3 r4 x1.skills x1.penalty x1.split x1.last_ x1.now x1.off)).map Qac.enc).length),oO (setM Qac.enc (setI l v (Qac.mk x1.name x1.load r3 x1.drop x1.skills x1.penalty x1.split x1.last_ x1.now x1.off)) v (Qac.mk x1.name x1.load r3 r4 x1.skills x1.penalty x1.split x1.last_ x1.now x1.off)),rp 4 (oO (QrM Qac.enc (setI l v (Qac.mk x1.name x1.load r3 x1.drop x1.skills x1.penalty x1.split x1.last_ x1.now x1.off)) v (Qac.mk x1.name x1.load r3 r4 x1.skills x1.penalty x1.split x1.last_ x1.now x1.off)))] (hI _ (oJ h))
 ·exact gn 5 [1,2] [0,1,2] [bF h4] (hE _ (oJ h))
theorem Qk6 {x0} {rv:Qab×Int} (h:QgF x0=some rv):AFn Tryz.prog 10 [.agg (Qab.enc x0)] [] (.tup [.agg [lL 1 rv.1.net.places QeA,lL 6 rv.1.net.arcs Qai.enc,lL 14 rv.1.types Qaf.enc,lL 16 rv.1.orders Qac.enc,lL 2 rv.1.apart Qav.enc,lL 2 rv.1.before Qav.enc],.one (lI rv.2)]) []:=by
 refine QaG Tryz.func10 (by kernel_rfl) (by kernel_rfl) (fun Γ=>?_)
 unfold QgF at h
 obtain ⟨r,h0,h⟩:=Qae h
 rcases Qak h with ⟨h1,h⟩|⟨h1,h⟩
 ·obtain ⟨r1,h2,h⟩:=Qae h
  obtain ⟨r2,h3,h⟩:=Qae h
  obtain ⟨e0,h9,h⟩:=Qae h
  refine gn 16 [1,2,4,18,19,20] [0,1,2] [cC (Qk7 h0),nF h1,cC (Qrz h2),cC (QhS h3),nL Qac.enc r2] (Qvt Γ rv h9 ?_)
  obtain ⟨l1,rfl⟩:∃ x,x=e0:=⟨_,rfl⟩
  replace h:(some ((Qab.mk x0.net x0.types l1 x0.apart x0.before),0):Option (Qab×Int))=some _:=h
  obtain rfl:=Option.some.inj h
  exact gr 2 [] [hW 5,hH (.frz 2),rp 3 (eL l1 Qac.enc)]
 ·obtain rfl:=Option.some.inj h
  exact gr 8 [] [cC (Qk7 h0),nT h1,hW 5,hH (.nilB 1 0 1),hH (.nilB 1 1 6),hH (.nilB 1 2 14),hH (.nilB 1 3 16),hH (.nilB 1 4 2),hH (.nilB 1 5 2)]
def QuC (Γ:Gam) (rv:Qai×Bool) (cf:Cf):Prop:=Go Tryz.prog Tryz.f89 [] Γ (.tup [.agg [lI rv.1.from_,lI rv.1.to_,lI rv.1.profile,lI rv.1.miles,lL 2 rv.1.travel Qal.enc,lL 2 rv.1.slow Qal.enc],.one (.bool rv.2)]) [] cf
def Qrh (Γ:Gam) (rv:Qai×Bool) (n:Qag) (profile:Int) (from_:Int) (to_:Int) (v:Int):Prop:=QuC Γ rv ⟨[.c 116,.l 116,.b 0,.c 15],⟨31,[vP 8 0 6,vP 10 1 3,vL 18 6 n.arcs Qai.enc,vI 19 (lenI n.arcs),vI 20 v],[oX 6 59 [lI 0,lI 0,lI 0,lI 0,.nils,.nils],oX 3 154 [lI from_,lI to_,lI profile]]⟩⟩
def Qp6 (Γ:Gam) (rv:Qai×Bool) (n:Qag) (profile:Int) (from_:Int) (to_:Int):Prop:=QuC Γ rv ⟨[.c 15],⟨31,[vP 8 0 6],[oX 6 59 [lI 0,lI 0,lI 0,lI 0,.nils,.nils]]⟩⟩
theorem Qvk (Γ:Gam) (rv:Qai×Bool) {n profile from_ to_} {s:Int} {e:(Unit)⊕(Qai×Bool)} (h:QaX (fun s=>QhI n profile from_ to_ s) s=some e) (hD:sel e (fun e=>Qp6 Γ rv n profile from_ to_) (fun e=>e=rv)):Qrh Γ rv n profile from_ to_ s:=by
 refine QaA (C:=fun (s:Int)=>Qrh Γ rv n profile from_ to_ s) (D:=fun (e:(Unit)⊕(Qai×Bool))=>sel e (fun e=>Qp6 Γ rv n profile from_ to_) (fun e=>e=rv)) ?_ h hD
 clear h hD s e
 intro v z_ h hI hE
 replace h:QhI n profile from_ to_ v=_:=h
 unfold QhI at h
 rcases Qak h with ⟨h0,h⟩|⟨h0,h⟩
 ·obtain ⟨x0,h1,h⟩:=Qae h
  obtain ⟨r,h2,h⟩:=Qae h
  rcases Qak h with ⟨h3,h⟩|⟨h3,h⟩
  ·obtain rfl:=(hE _ (oJ h):_=rv)
   exact gr 14 [] [bT h0,cE Qai.enc h1,hH (.draw 4 []),cC (Qf2 h2),bT h3]
  ·exact gn 16 [8,10,18,19,20] [0,1] [bT h0,cE Qai.enc h1,hH (.draw 4 []),cC (Qf2 h2),bF h3] (hI _ (oJ h))
 ·exact gn 5 [8] [0] [bF h0] (hE _ (oJ h))
theorem QtI {n profile from_ to_} {rv:Qai×Bool} (h:Qn1 n profile from_ to_=some rv):AFn Tryz.prog 89 [.agg (Qag.enc n),.one (lI profile),.one (lI from_),.one (lI to_)] [] (.tup [.agg [lI rv.1.from_,lI rv.1.to_,lI rv.1.profile,lI rv.1.miles,lL 2 rv.1.travel Qal.enc,lL 2 rv.1.slow Qal.enc],.one (.bool rv.2)]) []:=by
 refine QaG Tryz.func89 (by kernel_rfl) (by kernel_rfl) (fun Γ=>?_)
 unfold Qn1 at h
 obtain ⟨e0,h4,h⟩:=Qae h
 refine gn 9 [8,10,18,19,20] [1,2] [nL Qai.enc n.arcs] (Qvk Γ rv h4 ?_)
 rcases e0 with e0|e0
 ·replace h:(some ((Qai.mk 0 0 0 0 [] []),false):Option (Qai×Bool))=some _:=h
  obtain rfl:=Option.some.inj h
  exact gr 2 [] [hW 5,hH (.nilB 0 4 2),hH (.nilB 0 5 2)]
 ·obtain ⟨r1,rfl⟩:∃ x,x=e0:=⟨_,rfl⟩
  replace h:(some r1:Option (Qai×Bool))=some _:=h
  exact Option.some.inj h
theorem QfD {n profile from_ to_ t} {rv:Int×Int×Int} (h:Qn2 n profile from_ to_ t=some rv):AFn Tryz.prog 60 [.agg (Qag.enc n),.one (lI profile),.one (lI from_),.one (lI to_),.one (lI t)] [] (.tup [.one (lI rv.1),.one (lI rv.2.1),.one (lI rv.2.2)]) []:=by
 refine QaG Tryz.func60 (by kernel_rfl) (by kernel_rfl) (fun Γ=>?_)
 unfold Qn2 at h
 obtain ⟨r,h0,h⟩:=Qae h
 rcases Qak h with ⟨h1,h⟩|⟨h1,h⟩
 ·obtain ⟨r1,h2,h⟩:=Qae h
  rcases Qak h with ⟨h3,h⟩|⟨h3,h⟩
  ·rcases Qak h with ⟨h4,h⟩|⟨h4,h⟩
   ·obtain rfl:=Option.some.inj h
    exact gr 13 [] [cC (QaW h0),rp 3 (nF h1),cC (QaW h2),nF h1,nF h1,nF h3,bT h4]
   ·obtain ⟨r2,h5,h⟩:=Qae h
    rcases Qak h with ⟨h6,h⟩|⟨h6,h⟩
    ·obtain ⟨r3,h7,h⟩:=Qae h
     obtain rfl:=Option.some.inj h
     exact gr 21 [] [cC (QaW h0),rp 3 (nF h1),cC (QaW h2),nF h1,nF h1,nF h3,bF h4,cC (QtI h5),nF h6,hH (.draw 8 []),cC (Qiv h7)]
    ·obtain rfl:=Option.some.inj h
     exact gr 20 [] [cC (QaW h0),rp 3 (nF h1),cC (QaW h2),nF h1,nF h1,nF h3,bF h4,cC (QtI h5),nT h6]
  ·obtain rfl:=Option.some.inj h
   exact gr 8 [] [cC (QaW h0),rp 3 (nF h1),cC (QaW h2),nF h1,nF h1,nT h3]
 ·obtain rfl:=Option.some.inj h
  exact gr 8 [] [cC (QaW h0),rp 5 (nT h1),tT]
def Qo1 (Γ:Gam) (rv:Bool) (cf:Cf):Prop:=Go Tryz.prog Tryz.f35 [] Γ (one (.bool rv)) [] cf
def Ql8 (Γ:Gam) (rv:Bool) (r:Qaz) (a:Qai) (v:Int):Prop:=Qo1 Γ rv ⟨[.c 52,.l 52,.b 0,.c 7],⟨68,[(0,one (.ip (Qaz.enc r) 0)),vP 3 0 6,vL 15 14 r.x.types Qaf.enc,vI 16 (lenI r.x.types),vI 17 v],[oX 6 59 (Qai.enc a)]⟩⟩
def QkE (Γ:Gam) (rv:Bool) (r:Qaz) (a:Qai):Prop:=Qo1 Γ rv ⟨[.c 7],⟨68,[],[]⟩⟩
theorem QrY (Γ:Gam) (rv:Bool) {r a} {s:Int} {e:(Unit)⊕(Bool)} (h:QaX (fun s=>QcH r a s) s=some e) (hD:sel e (fun e=>QkE Γ rv r a) (fun e=>e=rv)):Ql8 Γ rv r a s:=by
 refine QaA (C:=fun (s:Int)=>Ql8 Γ rv r a s) (D:=fun (e:(Unit)⊕(Bool))=>sel e (fun e=>QkE Γ rv r a) (fun e=>e=rv)) ?_ h hD
 clear h hD s e
 intro v z_ h hI hE
 replace h:QcH r a v=_:=h
 unfold QcH at h
 rcases Qak h with ⟨h0,h⟩|⟨h0,h⟩
 ·obtain ⟨x0,h1,h⟩:=Qae h
  obtain ⟨x1,h2,h⟩:=Qae h
  obtain ⟨x2,h3,h⟩:=Qae h
  rcases Qak h with ⟨h4,h⟩|⟨h4,h⟩
  ·exact gn 18 [0,3,15,16,17] [0] [bT h0,cE Qaf.enc h1,hH (.draw 12 []),cE QdN h2,cE Qaw h3,hP,hP,hP,oI ((neI x0.profile a.profile)=false),oR True ((neI x0.profile a.profile)=false),bT h4] (hI _ (oJ h))
  ·obtain ⟨r1,h5,h⟩:=Qae h
   rcases Qak h with ⟨h6,h⟩|⟨h6,h⟩
   ·obtain rfl:=(hE _ (oJ h):_=rv)
    exact gr 23 [] [bT h0,cE Qaf.enc h1,hH (.draw 12 []),cE QdN h2,cE Qaw h3,hP,hP,hP,oI ((neI x0.profile a.profile)=false),oR True ((neI x0.profile a.profile)=false),bF h4,hH (.draw 20 []),cC (QfD h5),rp 5 hP,rp 3 (oI ((eqI r1.2.2 0)=true)),oR True ((eqI r1.2.2 0)=true),bT h6]
   ·exact gn 25 [0,3,15,16,17] [0] [bT h0,cE Qaf.enc h1,hH (.draw 12 []),cE QdN h2,cE Qaw h3,hP,hP,hP,oI ((neI x0.profile a.profile)=false),oR True ((neI x0.profile a.profile)=false),bF h4,hH (.draw 20 []),cC (QfD h5),rp 5 hP,rp 3 (oI ((eqI r1.2.2 0)=true)),oR True ((eqI r1.2.2 0)=true),bF h6] (hI _ (oJ h))
 ·exact gn 5 [] [] [bF h0] (hE _ (oJ h))
theorem Qn9 {r a} {rv:Bool} (h:QhC r a=some rv):AFn Tryz.prog 35 [.one (.ip (Qaz.enc r) 0),.agg (Qai.enc a)] [] (one (.bool rv)) []:=by
 refine QaG Tryz.func35 (by kernel_rfl) (by kernel_rfl) (fun Γ=>?_)
 unfold QhC at h
 obtain ⟨e0,h7,h⟩:=Qae h
 refine gn 7 [0,3,15,16,17] [0] [nL Qaf.enc r.x.types] (QrY Γ rv h7 ?_)
 rcases e0 with e0|e0
 ·replace h:(some false:Option Bool)=some _:=h
  obtain rfl:=Option.some.inj h
  exact gr 2 [] []
 ·obtain ⟨r2,rfl⟩:∃ x,x=e0:=⟨_,rfl⟩
  replace h:(some r2:Option Bool)=some _:=h
  exact Option.some.inj h
def QvW (Γ:Gam) (rv:Qab×Int) (cf:Cf):Prop:=Go Tryz.prog Tryz.f13 [] Γ (.tup [.agg [lL 1 rv.1.net.places QeA,lL 6 rv.1.net.arcs Qai.enc,lL 14 rv.1.types Qaf.enc,lL 16 rv.1.orders Qac.enc,lL 2 rv.1.apart Qav.enc,lL 2 rv.1.before Qav.enc],.one (lI rv.2)]) [] cf
def QsJ (Γ:Gam) (rv:Qab×Int) (x0:Qab) (r1:Qaz) (l:List Qai) (v:Int):Prop:=QvW Γ rv ⟨[.c 500,.l 500,.b 0,.c 63],⟨34,[vP 1 0 6,vP 2 1 6,(4,one (.ip (Qaz.enc r1) 0)),vO 5 2 6 l Qai.enc,vL 16 6 x0.net.arcs Qai.enc,vI 17 (lenI x0.net.arcs),vI 18 v],[oX 6 30 (Qab.enc x0),oX 6 30 [.nils,.nils,.nils,.nils,.nils,.nils],oS 6 59 l Qai.enc]⟩⟩
def Qrw (Γ:Gam) (rv:Qab×Int) (x0:Qab) (r1:Qaz) (l1:List Qai):Prop:=QvW Γ rv ⟨[.c 63],⟨34,[vP 1 0 6,vP 2 1 6,vO 5 2 6 l1 Qai.enc],[oX 6 30 (Qab.enc x0),oX 6 30 [.nils,.nils,.nils,.nils,.nils,.nils],oS 6 59 l1 Qai.enc]⟩⟩
theorem Qwe (Γ:Gam) (rv:Qab×Int) {x0 r1} {s:List Qai×Int} {e:List Qai} (h:QaX (fun s=>Qfx x0 r1 s.1 s.2) s=some e) (hD:Qrw Γ rv x0 r1 e):QsJ Γ rv x0 r1 s.1 s.2:=by
 refine QaA (C:=fun (s:List Qai×Int)=>QsJ Γ rv x0 r1 s.1 s.2) (D:=fun (e:List Qai)=>Qrw Γ rv x0 r1 e) ?_ h hD
 clear h hD s e
 rintro ⟨l,v⟩ z_ h hI hE
 replace h:Qfx x0 r1 l v=_:=h
 unfold Qfx at h
 rcases Qak h with ⟨h3,h⟩|⟨h3,h⟩
 ·obtain ⟨x1,h4,h⟩:=Qae h
  obtain ⟨r2,h5,h⟩:=Qae h
  rcases Qak h with ⟨h6,h⟩|⟨h6,h⟩
  ·obtain ⟨h7,h⟩:=Qat h
   exact gn 16 [1,2,4,5,16,17,18] [0,1,5] [bT h3,cE Qai.enc h4,cC (Qn9 h5),bT h6,oO (Eq.refl ([x1].map Qai.enc).length),aO Qai.enc h7] (hI _ (oJ h))
  ·exact gn 16 [1,2,4,5,16,17,18] [0,1,2] [bT h3,cE Qai.enc h4,cC (Qn9 h5),bF h6] (hI _ (oJ h))
 ·exact gn 5 [1,2,5] [0,1,2] [bF h3] (hE _ (oJ h))
theorem QqN {x0} {rv:Qab×Int} (h:QhM x0=some rv):AFn Tryz.prog 13 [.agg (Qab.enc x0)] [] (.tup [.agg [lL 1 rv.1.net.places QeA,lL 6 rv.1.net.arcs Qai.enc,lL 14 rv.1.types Qaf.enc,lL 16 rv.1.orders Qac.enc,lL 2 rv.1.apart Qav.enc,lL 2 rv.1.before Qav.enc],.one (lI rv.2)]) []:=by
 refine QaG Tryz.func13 (by kernel_rfl) (by kernel_rfl) (fun Γ=>?_)
 unfold QhM at h
 obtain ⟨r,h0,h⟩:=Qae h
 rcases Qak h with ⟨h1,h⟩|⟨h1,h⟩
 ·obtain ⟨r1,h2,h⟩:=Qae h
  obtain ⟨e0,h8,h⟩:=Qae h
  refine gn 16 [1,2,4,5,16,17,18] [0,1,2] [cC (Qk7 h0),nF h1,cC (Qrz h2),nL Qai.enc x0.net.arcs,hW 3,hH (.adopt 5 6 59)] (Qwe Γ rv h8 ?_)
  obtain ⟨l1,rfl⟩:∃ x,x=e0:=⟨_,rfl⟩
  replace h:(some ((Qab.mk (Qag.mk x0.net.places l1) x0.types x0.orders x0.apart x0.before),0):Option (Qab×Int))=some _:=h
  obtain rfl:=Option.some.inj h
  exact gr 4 [] [hW 11,hH (.frz 2),rp 5 (eL l1 Qai.enc)]
 ·obtain rfl:=Option.some.inj h
  exact gr 8 [] [cC (Qk7 h0),nT h1,hW 5,hH (.nilB 1 0 1),hH (.nilB 1 1 6),hH (.nilB 1 2 14),hH (.nilB 1 3 16),hH (.nilB 1 4 2),hH (.nilB 1 5 2)]
theorem Qe7 {x0} {rv:Qab×Int} (h:Qgw x0=some rv):AFn Tryz.prog 17 [.agg (Qab.enc x0)] [] (.tup [.agg [lL 1 rv.1.net.places QeA,lL 6 rv.1.net.arcs Qai.enc,lL 14 rv.1.types Qaf.enc,lL 16 rv.1.orders Qac.enc,lL 2 rv.1.apart Qav.enc,lL 2 rv.1.before Qav.enc],.one (lI rv.2)]) []:=by
 refine QaG Tryz.func17 (by kernel_rfl) (by kernel_rfl) (fun Γ=>?_)
 unfold Qgw at h
 obtain ⟨r,h0,h⟩:=Qae h
 rcases Qak h with ⟨h1,h⟩|⟨h1,h⟩
 ·obtain rfl:=Option.some.inj h
  exact gr 10 [] [cC (Qk6 h0),bT h1,hW 6,hH (.nilB 1 0 1),hH (.nilB 1 1 6),hH (.nilB 1 2 14),hH (.nilB 1 3 16),hH (.nilB 1 4 2),hH (.nilB 1 5 2)]
 ·obtain ⟨r1,h2,h⟩:=Qae h
  obtain rfl:=Option.some.inj h
  exact gr 11 [] [cC (Qk6 h0),bF h1,cC (QqN h2)]
def QuH (Γ:Gam) (rv:Int) (cf:Cf):Prop:=Go Tryz.prog Tryz.f37 [] Γ (one (lI rv)) [] cf
def QrA (Γ:Gam) (rv:Int) (l:List Qac) (sum:Int) (v:Int):Prop:=QuH Γ rv ⟨[.c 116,.l 116,.b 0,.c 15],⟨31,[vI 3 sum,vL 6 16 l Qac.enc,vI 7 (lenI l),vI 8 v],[]⟩⟩
def Qqd (Γ:Gam) (rv:Int) (l:List Qac) (sum1:Int):Prop:=QuH Γ rv ⟨[.c 15],⟨31,[vI 3 sum1],[]⟩⟩
theorem Qvu (Γ:Gam) (rv:Int) {l} {s:Int×Int} {e:Int} (h:QaX (fun s=>Qk8 l s.1 s.2) s=some e) (hD:Qqd Γ rv l e):QrA Γ rv l s.1 s.2:=by
 refine QaA (C:=fun (s:Int×Int)=>QrA Γ rv l s.1 s.2) (D:=fun (e:Int)=>Qqd Γ rv l e) ?_ h hD
 clear h hD s e
 rintro ⟨sum,v⟩ z_ h hI hE
 replace h:Qk8 l sum v=_:=h
 unfold Qk8 at h
 rcases Qak h with ⟨h0,h⟩|⟨h0,h⟩
 ·obtain ⟨x0,h1,h⟩:=Qae h
  exact gn 13 [3,6,7,8] [] [bT h0,cE Qac.enc h1] (hI _ (oJ h))
 ·exact gn 5 [3] [] [bF h0] (hE _ (oJ h))
theorem QtK {l} {rv:Int} (h:QkZ l=some rv):AFn Tryz.prog 37 [.one (lL 16 l Qac.enc)] [] (one (lI rv)) []:=by
 refine QaG Tryz.func37 (by kernel_rfl) (by kernel_rfl) (fun Γ=>?_)
 unfold QkZ at h
 obtain ⟨e0,h2,h⟩:=Qae h
 refine gn 9 [3,6,7,8] [] [nL Qac.enc l] (Qvu Γ rv h2 ?_)
 obtain ⟨sum1,rfl⟩:∃ x,x=e0:=⟨_,rfl⟩
 replace h:(some sum1:Option Int)=some _:=h
 obtain rfl:=Option.some.inj h
 exact gr 2 [] []
theorem QhN {x0} {rv:Int×Int×Int} (h:QkY x0=some rv):AFn Tryz.prog 15 [.agg (Qab.enc x0)] [] (.tup [.one (lI rv.1),.one (lI rv.2.1),.one (lI rv.2.2)]) []:=by
 refine QaG Tryz.func15 (by kernel_rfl) (by kernel_rfl) (fun Γ=>?_)
 unfold QkY at h
 obtain ⟨r,h0,h⟩:=Qae h
 rcases Qak h with ⟨h1,h⟩|⟨h1,h⟩
 ·obtain rfl:=Option.some.inj h
  exact gr 10 [] [cC (Qe7 h0),bT h1]
 ·obtain ⟨r1,h2,h⟩:=Qae h
  obtain ⟨r2,h3,h⟩:=Qae h
  obtain rfl:=Option.some.inj h
  exact gr 11 [] [cC (Qe7 h0),bF h1,hH (.draw 19 []),cC (QtK h2),cC (QtK h3),nL Qai.enc x0.net.arcs,nL Qai.enc r.1.net.arcs]
theorem Qfj {set_ i} {rv:Bool} (h:QsT set_ i=some rv):AFn Tryz.prog 135 [.one (lI set_),.one (lI i)] [] (one (.bool rv)) []:=by
 refine QaG Tryz.func135 (by kernel_rfl) (by kernel_rfl) (fun Γ=>?_)
 unfold QsT at h
 rcases Qak h with ⟨h0,h⟩|⟨h0,h⟩
 ·obtain ⟨h1,h⟩:=Qat h
  obtain rfl:=Option.some.inj h
  exact gr 4 [] [hP,hP,hP,oI ((geI i 0)=true),oR True ((geI i 0)=true),rp 3 (bT h0),oO (h1),rp 3 (bT h0)]
 ·obtain rfl:=Option.some.inj h
  exact gr 4 [] [hP,hP,hP,oI ((geI i 0)=true),oR True ((geI i 0)=true),rp 6 (bF h0)]
def QuY (Γ:Gam) (rv:List Int) (cf:Cf):Prop:=Go Tryz.prog Tryz.f108 [] Γ (one (lL 1 rv Qaw)) [] cf
def QrK (Γ:Gam) (rv:List Int) (set_:Int) (l:List Int) (v:Int):Prop:=QuY Γ rv ⟨[.c 116,.l 116,.b 0,.c 15],⟨17,[vI 0 set_,vO 3 0 1 l Qaw,vI 5 v],[oS 1 3 l Qaw]⟩⟩
def Qqu (Γ:Gam) (rv:List Int) (set_:Int) (l1:List Int):Prop:=QuY Γ rv ⟨[.c 15],⟨17,[vO 3 0 1 l1 Qaw],[oS 1 3 l1 Qaw]⟩⟩
theorem QvC (Γ:Gam) (rv:List Int) {set_} {s:List Int×Int} {e:List Int} (h:QaX (fun s=>Qlc set_ s.1 s.2) s=some e) (hD:Qqu Γ rv set_ e):QrK Γ rv set_ s.1 s.2:=by
 refine QaA (C:=fun (s:List Int×Int)=>QrK Γ rv set_ s.1 s.2) (D:=fun (e:List Int)=>Qqu Γ rv set_ e) ?_ h hD
 clear h hD s e
 rintro ⟨l,v⟩ z_ h hI hE
 replace h:Qlc set_ l v=_:=h
 unfold Qlc at h
 rcases Qak h with ⟨h0,h⟩|⟨h0,h⟩
 ·obtain ⟨r,h1,h⟩:=Qae h
  rcases Qak h with ⟨h2,h⟩|⟨h2,h⟩
  ·obtain ⟨h3,h⟩:=Qat h
   exact gn 16 [0,3,5] [2] [bT h0,cC (Qfj h1),bT h2,oO (Eq.refl ([v].map Qaw).length),aO Qaw h3] (hI _ (oJ h))
  ·exact gn 16 [0,3,5] [0] [bT h0,cC (Qfj h1),bF h2] (hI _ (oJ h))
 ·exact gn 5 [3] [0] [bF h0] (hE _ (oJ h))
theorem QpA {set_} {rv:List Int} (h:Qoq set_=some rv):AFn Tryz.prog 108 [.one (lI set_)] [] (one (lL 1 rv Qaw)) []:=by
 refine QaG Tryz.func108 (by kernel_rfl) (by kernel_rfl) (fun Γ=>?_)
 unfold Qoq at h
 obtain ⟨e0,h4,h⟩:=Qae h
 refine gn 9 [0,3,5] [0] [hW 12,hH (.adopt 3 1 3)] (QvC Γ rv h4 ?_)
 obtain ⟨l1,rfl⟩:∃ x,x=e0:=⟨_,rfl⟩
 replace h:(some l1:Option (List Int))=some _:=h
 obtain rfl:=Option.some.inj h
 exact gr 2 [] [hW 4,hH (.frz 0),rp 3 (eL l1 Qaw)]
def Qno (Γ:Gam) (rv:List Int) (cf:Cf):Prop:=Go Tryz.prog Tryz.f136 [] Γ (one (lL 1 rv Qaw)) [] cf
def QrD (Γ:Gam) (rv:List Int) (before:List Qav) (l:List Int) (l2:List Int) (more1:Bool) (v:Int):Prop:=Qno Γ rv ⟨[.c 7468,.l 7468,.b 2,.b 1,.l 116,.b 0,.c 15],⟨68,[vL 1 2 before Qav.enc,vO 5 0 1 l2 Qaw,vB 6 more1,vL 16 2 before Qav.enc,vI 17 (lenI before),vI 18 v],[oS 1 3 l2 Qaw]⟩⟩
def Qql (Γ:Gam) (rv:List Int) (before:List Qav) (l:List Int) (l3:List Int) (more2:Bool):Prop:=Qno Γ rv ⟨[.b 1,.l 116,.b 0,.c 15],⟨68,[vL 1 2 before Qav.enc,vO 5 0 1 l3 Qaw,vB 6 more2],[oS 1 3 l3 Qaw]⟩⟩
def QrC (Γ:Gam) (rv:List Int) (before:List Qav) (l:List Int) (l1:List Int) (more:Bool):Prop:=Qno Γ rv ⟨[.c 116,.l 116,.b 0,.c 15],⟨68,[vL 1 2 before Qav.enc,vO 5 0 1 l1 Qaw,vB 6 more],[oS 1 3 l1 Qaw]⟩⟩
def Qqk (Γ:Gam) (rv:List Int) (before:List Qav) (l:List Int) (l4:List Int):Prop:=Qno Γ rv ⟨[.c 15],⟨68,[vO 5 0 1 l4 Qaw],[oS 1 3 l4 Qaw]⟩⟩
theorem Qvx (Γ:Gam) (rv:List Int) {before l} {s:List Int×Bool×Int} {e:List Int×Bool} (h:QaX (fun s=>Qla before l s.1 s.2.1 s.2.2) s=some e) (hD:Qql Γ rv before l e.1 e.2):QrD Γ rv before l s.1 s.2.1 s.2.2:=by
 refine QaA (C:=fun (s:List Int×Bool×Int)=>QrD Γ rv before l s.1 s.2.1 s.2.2) (D:=fun (e:List Int×Bool)=>Qql Γ rv before l e.1 e.2) ?_ h hD
 clear h hD s e
 rintro ⟨l2,more1,v⟩ z_ h hI hE
 replace h:Qla before l l2 more1 v=_:=h
 unfold Qla at h
 rcases Qak h with ⟨h2,h⟩|⟨h2,h⟩
 ·obtain ⟨x0,h3,h⟩:=Qae h
  rcases Qak h with ⟨h4,h⟩|⟨h4,h⟩
  ·exact gn 18 [1,5,6,16,17,18] [0] [bT h2,cE Qav.enc h3,hH (.draw 6 []),rp 6 hP,oO (zL 0),oO (lT 0 2),oO (zL 1),oO (lT 1 2),oI ((ltI x0.x0 0)=false),oR True ((ltI x0.x0 0)=false),oI (((ltI x0.x0 0)||(ltI x0.x1 0))=false),nL Qaw l2,rp 5 hP,rp 2 (oI (((ltI x0.x0 0)||(ltI x0.x1 0))=false)),oR True (((ltI x0.x0 0)||(ltI x0.x1 0))=false),oI ((((ltI x0.x0 0)||(ltI x0.x1 0))||(geI x0.x0 (lenI l2)))=false),nL Qaw l2,hP,hP,rp 2 (oI ((((ltI x0.x0 0)||(ltI x0.x1 0))||(geI x0.x0 (lenI l2)))=false)),oR True ((((ltI x0.x0 0)||(ltI x0.x1 0))||(geI x0.x0 (lenI l2)))=false),bT h4] (hI _ (oJ h))
  ·obtain ⟨x1,h5,h⟩:=Qae h
   obtain ⟨x2,h6,h⟩:=Qae h
   obtain ⟨h7,h⟩:=Qat h
   rcases Qak h with ⟨h8,h⟩|⟨h8,h⟩
   ·exact gn 27 [1,5,6,16,17,18] [0] [bT h2,cE Qav.enc h3,hH (.draw 6 []),rp 6 hP,oO (zL 0),oO (lT 0 2),oO (zL 1),oO (lT 1 2),oI ((ltI x0.x0 0)=false),oR True ((ltI x0.x0 0)=false),oI (((ltI x0.x0 0)||(ltI x0.x1 0))=false),nL Qaw l2,rp 5 hP,rp 2 (oI (((ltI x0.x0 0)||(ltI x0.x1 0))=false)),oR True (((ltI x0.x0 0)||(ltI x0.x1 0))=false),oI ((((ltI x0.x0 0)||(ltI x0.x1 0))||(geI x0.x0 (lenI l2)))=false),nL Qaw l2,hP,hP,rp 2 (oI ((((ltI x0.x0 0)||(ltI x0.x1 0))||(geI x0.x0 (lenI l2)))=false)),oR True ((((ltI x0.x0 0)||(ltI x0.x1 0))||(geI x0.x0 (lenI l2)))=false),bF h4,hH (.draw 13 []),oO (QiR h5),oO (QiQ Qaw h5),rE Qaw h5,oO (QiR h6),oO (QiQ Qaw h6),rE Qaw h6,oO (h7),oO (QiR h5),oO (QiQ Qaw h5),rE Qaw h5,bT h8,oO (QiR h5),oO (QiQ Qaw h5),rE Qaw h5,hH (.rows ((setI l2 x0.x1 (orK .i64 (orK .i64 x1 x2) (shlK .i64 1 x0.x0))).map Qaw)),hH (.relen 0 ((setI l2 x0.x1 (orK .i64 (orK .i64 x1 x2) (shlK .i64 1 x0.x0))).map Qaw).length),oO (setM Qaw l2 x0.x1 (orK .i64 (orK .i64 x1 x2) (shlK .i64 1 x0.x0))),rp 5 (oO (QrM Qaw l2 x0.x1 (orK .i64 (orK .i64 x1 x2) (shlK .i64 1 x0.x0))))] (hI _ (oJ h))
   ·exact gn 25 [1,5,6,16,17,18] [0] [bT h2,cE Qav.enc h3,hH (.draw 6 []),rp 6 hP,oO (zL 0),oO (lT 0 2),oO (zL 1),oO (lT 1 2),oI ((ltI x0.x0 0)=false),oR True ((ltI x0.x0 0)=false),oI (((ltI x0.x0 0)||(ltI x0.x1 0))=false),nL Qaw l2,rp 5 hP,rp 2 (oI (((ltI x0.x0 0)||(ltI x0.x1 0))=false)),oR True (((ltI x0.x0 0)||(ltI x0.x1 0))=false),oI ((((ltI x0.x0 0)||(ltI x0.x1 0))||(geI x0.x0 (lenI l2)))=false),nL Qaw l2,hP,hP,rp 2 (oI ((((ltI x0.x0 0)||(ltI x0.x1 0))||(geI x0.x0 (lenI l2)))=false)),oR True ((((ltI x0.x0 0)||(ltI x0.x1 0))||(geI x0.x0 (lenI l2)))=false),bF h4,hH (.draw 13 []),oO (QiR h5),oO (QiQ Qaw h5),rE Qaw h5,oO (QiR h6),oO (QiQ Qaw h6),rE Qaw h6,oO (h7),oO (QiR h5),oO (QiQ Qaw h5),rE Qaw h5,bF h8] (hI _ (oJ h))
 ·exact gn 5 [1,5,6] [0] [bF h2] (hE _ (oJ h))
theorem Qvw (Γ:Gam) (rv:List Int) {before l} {s:List Int×Bool} {e:List Int} (h:QaX (fun s=>Qk9 before l s.1 s.2) s=some e) (hD:Qqk Γ rv before l e):QrC Γ rv before l s.1 s.2:=by
 refine QaA (C:=fun (s:List Int×Bool)=>QrC Γ rv before l s.1 s.2) (D:=fun (e:List Int)=>Qqk Γ rv before l e) ?_ h hD
 clear h hD s e
 rintro ⟨l1,more⟩ z_ h hI hE
 replace h:Qk9 before l l1 more=_:=h
 unfold Qk9 at h
 rcases Qak h with ⟨h1,h⟩|⟨h1,h⟩
 ·obtain ⟨e0,h9,h⟩:=Qae h
  refine gn 12 [1,5,6,16,17,18] [0] [bT h1,nL Qav.enc before] (Qvx Γ rv h9 ?_)
  obtain ⟨l3,more2⟩:=e0
  replace h:(some (.inl (l3,more2)):Option ((List Int×Bool)⊕(List Int)))=some _:=h
  exact gn 2 [1,5,6] [0] [] (hI _ (oJ h))
 ·exact gn 5 [5] [0] [bF h1] (hE _ (oJ h))
theorem QxC {orders before} {rv:List Int} (h:Qjo orders before=some rv):AFn Tryz.prog 136 [.one (lI orders),.one (lL 2 before Qav.enc)] [] (one (lL 1 rv Qaw)) []:=by
 refine QaG Tryz.func136 (by kernel_rfl) (by kernel_rfl) (fun Γ=>?_)
 unfold Qjo at h
 obtain ⟨l,h0,h⟩:=Qae h
 obtain ⟨e1,h10,h⟩:=Qae h
 refine gn 9 [1,5,6] [0] [hH (.cells [lI 0]),hH (.rows (l.map Qaw)),oO (mk1 h0),oO (mk2 h0),oO (mk3 h0),oO (mk4 h0),oO (mk5 Qaw h0)] (Qvw Γ rv h10 ?_)
 obtain ⟨l4,rfl⟩:∃ x,x=e1:=⟨_,rfl⟩
 replace h:(some l4:Option (List Int))=some _:=h
 obtain rfl:=Option.some.inj h
 exact gr 2 [] [hW 4,hH (.frz 0),rp 3 (eL l4 Qaw)]
def Qed (Γ:Gam) (rv:Int) (cf:Cf):Prop:=Go Tryz.prog Tryz.f107 [] Γ (one (lI rv)) [] cf
def Qqe (Γ:Gam) (rv:Int) (x0:Qab) (set_:Int) (r:List Int) (v:Int):Prop:=Qed Γ rv ⟨[.c 244,.l 244,.b 0,.c 31],⟨102,[vI 1 set_,vP 2 0 6,vL 5 1 r Qaw,vL 21 1 r Qaw,vI 22 (lenI r),vI 23 v],[oX 6 30 (Qab.enc x0)]⟩⟩
def Qo5 (Γ:Gam) (rv:Int) (x0:Qab) (set_:Int) (r:List Int):Prop:=Qed Γ rv ⟨[.c 31],⟨102,[vI 1 set_,vP 2 0 6,vL 5 1 r Qaw],[oX 6 30 (Qab.enc x0)]⟩⟩
def Qqf (Γ:Gam) (rv:Int) (x0:Qab) (set_:Int) (r:List Int) (v1:Int):Prop:=Qed Γ rv ⟨[.c 500,.l 500,.b 2,.c 63],⟨102,[vI 1 set_,vP 2 0 6,vL 5 1 r Qaw,vL 33 1 r Qaw,vI 34 (lenI r),vI 35 v1],[oX 6 30 (Qab.enc x0)]⟩⟩
def Qo6 (Γ:Gam) (rv:Int) (x0:Qab) (set_:Int) (r:List Int):Prop:=Qed Γ rv ⟨[.c 63],⟨102,[vI 1 set_,vP 2 0 6,vL 5 1 r Qaw],[oX 6 30 (Qab.enc x0)]⟩⟩
def Qqg (Γ:Gam) (rv:Int) (x0:Qab) (set_:Int) (r:List Int) (v2:Int):Prop:=Qed Γ rv ⟨[.c 1012,.l 1012,.b 4,.c 127],⟨102,[vI 1 set_,vP 2 0 6,vL 5 1 r Qaw,vL 47 2 x0.apart Qav.enc,vI 48 (lenI x0.apart),vI 49 v2],[oX 6 30 (Qab.enc x0)]⟩⟩
def Qo7 (Γ:Gam) (rv:Int) (x0:Qab) (set_:Int) (r:List Int):Prop:=Qed Γ rv ⟨[.c 127],⟨102,[vI 1 set_,vP 2 0 6,vL 5 1 r Qaw],[oX 6 30 (Qab.enc x0)]⟩⟩
def Qqh (Γ:Gam) (rv:Int) (x0:Qab) (set_:Int) (r:List Int) (v3:Int):Prop:=Qed Γ rv ⟨[.c 2036,.l 2036,.b 6,.c 255],⟨102,[vI 1 set_,vP 2 0 6,vL 5 1 r Qaw,vL 65 2 x0.before Qav.enc,vI 66 (lenI x0.before),vI 67 v3],[oX 6 30 (Qab.enc x0)]⟩⟩
def Qo8 (Γ:Gam) (rv:Int) (x0:Qab) (set_:Int) (r:List Int):Prop:=Qed Γ rv ⟨[.c 255],⟨102,[vP 2 0 6,vL 5 1 r Qaw],[oX 6 30 (Qab.enc x0)]⟩⟩
def Qqi (Γ:Gam) (rv:Int) (r:List Int) (r5:List Int) (v4:Int):Prop:=Qed Γ rv ⟨[.c 8180,.l 8180,.b 8,.c 1023],⟨102,[vL 14 1 r5 Qaw,vL 89 1 r Qaw,vI 90 (lenI r),vI 91 v4],[]⟩⟩
def Qo9 (Γ:Gam) (rv:Int) (r:List Int) (r5:List Int):Prop:=Qed Γ rv ⟨[.c 1023],⟨102,[],[]⟩⟩
theorem QuK (Γ:Gam) (rv:Int) {x0 set_ r} {s:Int} {e:(Unit)⊕(Int)} (h:QaX (fun s=>Qkd x0 set_ r s) s=some e) (hD:sel e (fun e=>Qo5 Γ rv x0 set_ r) (fun e=>e=rv)):Qqe Γ rv x0 set_ r s:=by
 refine QaA (C:=fun (s:Int)=>Qqe Γ rv x0 set_ r s) (D:=fun (e:(Unit)⊕(Int))=>sel e (fun e=>Qo5 Γ rv x0 set_ r) (fun e=>e=rv)) ?_ h hD
 clear h hD s e
 intro v z_ h hI hE
 replace h:Qkd x0 set_ r v=_:=h
 unfold Qkd at h
 rcases Qak h with ⟨h2,h⟩|⟨h2,h⟩
 ·obtain ⟨x1,h3,h⟩:=Qae h
  rcases Qak h with ⟨h4,h⟩|⟨h4,h⟩
  ·obtain rfl:=(hE _ (oJ h):_=rv)
   exact gr 14 [] [bT h2,cE Qaw h3,nL Qac.enc x0.orders,bT h4]
  ·exact gn 16 [1,2,5,21,22,23] [0] [bT h2,cE Qaw h3,nL Qac.enc x0.orders,bF h4] (hI _ (oJ h))
 ·exact gn 5 [1,2,5] [0] [bF h2] (hE _ (oJ h))
theorem QuL (Γ:Gam) (rv:Int) {x0 set_ r} {s:Int} {e:(Unit)⊕(Int)} (h:QaX (fun s=>Qid x0 set_ r s) s=some e) (hD:sel e (fun e=>Qo6 Γ rv x0 set_ r) (fun e=>e=rv)):Qqf Γ rv x0 set_ r s:=by
 refine QaA (C:=fun (s:Int)=>Qqf Γ rv x0 set_ r s) (D:=fun (e:(Unit)⊕(Int))=>sel e (fun e=>Qo6 Γ rv x0 set_ r) (fun e=>e=rv)) ?_ h hD
 clear h hD s e
 intro v1 z_ h hI hE
 replace h:Qid x0 set_ r v1=_:=h
 unfold Qid at h
 rcases Qak h with ⟨h6,h⟩|⟨h6,h⟩
 ·obtain ⟨x2,h7,h⟩:=Qae h
  obtain ⟨x3,h8,h⟩:=Qae h
  rcases Qak h with ⟨h9,h⟩|⟨h9,h⟩
  ·obtain rfl:=(hE _ (oJ h):_=rv)
   exact gr 14 [] [bT h6,cE Qaw h7,cE Qac.enc h8,bT h9]
  ·exact gn 16 [1,2,5,33,34,35] [0] [bT h6,cE Qaw h7,cE Qac.enc h8,bF h9] (hI _ (oJ h))
 ·exact gn 5 [1,2,5] [0] [bF h6] (hE _ (oJ h))
theorem QuM (Γ:Gam) (rv:Int) {x0 set_ r} {s:Int} {e:(Unit)⊕(Int)} (h:QaX (fun s=>Qg6 x0 set_ r s) s=some e) (hD:sel e (fun e=>Qo7 Γ rv x0 set_ r) (fun e=>e=rv)):Qqg Γ rv x0 set_ r s:=by
 refine QaA (C:=fun (s:Int)=>Qqg Γ rv x0 set_ r s) (D:=fun (e:(Unit)⊕(Int))=>sel e (fun e=>Qo7 Γ rv x0 set_ r) (fun e=>e=rv)) ?_ h hD
 clear h hD s e
 intro v2 z_ h hI hE
 replace h:Qg6 x0 set_ r v2=_:=h
 unfold Qg6 at h
 rcases Qak h with ⟨h11,h⟩|⟨h11,h⟩
 ·obtain ⟨x4,h12,h⟩:=Qae h
  obtain ⟨r1,h13,h⟩:=Qae h
  rcases Qak h with ⟨h14,h⟩|⟨h14,h⟩
  ·obtain ⟨r2,h15,h⟩:=Qae h
   rcases Qak h with ⟨h16,h⟩|⟨h16,h⟩
   ·obtain rfl:=(hE _ (oJ h):_=rv)
    exact gr 14 [] [bT h11,cE Qav.enc h12,oO (zL 0),oO (lT 0 2),cC (Qfj h13),rp 2 (bT h14),oO (zL 1),oO (lT 1 2),rp 2 (bT h14),cC (Qfj h15),bT h14,bT h16]
   ·exact gn 16 [1,2,5,47,48,49] [0] [bT h11,cE Qav.enc h12,oO (zL 0),oO (lT 0 2),cC (Qfj h13),rp 2 (bT h14),oO (zL 1),oO (lT 1 2),rp 2 (bT h14),cC (Qfj h15),bT h14,bF h16] (hI _ (oJ h))
  ·exact gn 16 [1,2,5,47,48,49] [0] [bT h11,cE Qav.enc h12,oO (zL 0),oO (lT 0 2),cC (Qfj h13),rp 5 (bF h14),fF] (hI _ (oJ h))
 ·exact gn 5 [1,2,5] [0] [bF h11] (hE _ (oJ h))
theorem QuN (Γ:Gam) (rv:Int) {x0 set_ r} {s:Int} {e:(Unit)⊕(Int)} (h:QaX (fun s=>Qf5 x0 set_ r s) s=some e) (hD:sel e (fun e=>Qo8 Γ rv x0 set_ r) (fun e=>e=rv)):Qqh Γ rv x0 set_ r s:=by
 refine QaA (C:=fun (s:Int)=>Qqh Γ rv x0 set_ r s) (D:=fun (e:(Unit)⊕(Int))=>sel e (fun e=>Qo8 Γ rv x0 set_ r) (fun e=>e=rv)) ?_ h hD
 clear h hD s e
 intro v3 z_ h hI hE
 replace h:Qf5 x0 set_ r v3=_:=h
 unfold Qf5 at h
 rcases Qak h with ⟨h18,h⟩|⟨h18,h⟩
 ·obtain ⟨x5,h19,h⟩:=Qae h
  obtain ⟨r3,h20,h⟩:=Qae h
  rcases Qak h with ⟨h21,h⟩|⟨h21,h⟩
  ·obtain ⟨r4,h22,h⟩:=Qae h
   rcases Qak h with ⟨h23,h⟩|⟨h23,h⟩
   ·exact gn 16 [1,2,5,65,66,67] [0] [bT h18,cE Qav.enc h19,oO (zL 1),oO (lT 1 2),cC (Qfj h20),rp 2 (bT h21),oO (zL 0),oO (lT 0 2),rp 2 (bT h21),cC (Qfj h22),rp 2 (bT h21),nF h23] (hI _ (oJ h))
   ·obtain rfl:=(hE _ (oJ h):_=rv)
    exact gr 14 [] [bT h18,cE Qav.enc h19,oO (zL 1),oO (lT 1 2),cC (Qfj h20),rp 2 (bT h21),oO (zL 0),oO (lT 0 2),rp 2 (bT h21),cC (Qfj h22),rp 2 (bT h21),nT h23]
  ·exact gn 16 [1,2,5,65,66,67] [0] [bT h18,cE Qav.enc h19,oO (zL 1),oO (lT 1 2),cC (Qfj h20),rp 6 (bF h21),fF] (hI _ (oJ h))
 ·exact gn 5 [2,5] [0] [bF h18] (hE _ (oJ h))
theorem QuO (Γ:Gam) (rv:Int) {r r5} {s:Int} {e:(Unit)⊕(Int)} (h:QaX (fun s=>Qe9 r r5 s) s=some e) (hD:sel e (fun e=>Qo9 Γ rv r r5) (fun e=>e=rv)):Qqi Γ rv r r5 s:=by
 refine QaA (C:=fun (s:Int)=>Qqi Γ rv r r5 s) (D:=fun (e:(Unit)⊕(Int))=>sel e (fun e=>Qo9 Γ rv r r5) (fun e=>e=rv)) ?_ h hD
 clear h hD s e
 intro v4 z_ h hI hE
 replace h:Qe9 r r5 v4=_:=h
 unfold Qe9 at h
 rcases Qak h with ⟨h26,h⟩|⟨h26,h⟩
 ·obtain ⟨x6,h27,h⟩:=Qae h
  obtain ⟨x7,h28,h⟩:=Qae h
  obtain ⟨r6,h29,h⟩:=Qae h
  rcases Qak h with ⟨h30,h⟩|⟨h30,h⟩
  ·obtain rfl:=(hE _ (oJ h):_=rv)
   exact gr 14 [] [bT h26,cE Qaw h27,cE Qaw h28,cC (Qfj h29),bT h30]
  ·exact gn 16 [14,89,90,91] [] [bT h26,cE Qaw h27,cE Qaw h28,cC (Qfj h29),bF h30] (hI _ (oJ h))
 ·exact gn 5 [] [] [bF h26] (hE _ (oJ h))
theorem QsO {x0 set_} {rv:Int} (h:QsN x0 set_=some rv):AFn Tryz.prog 107 [.agg (Qab.enc x0),.one (lI set_)] [] (one (lI rv)) []:=by
 refine QaG Tryz.func107 (by kernel_rfl) (by kernel_rfl) (fun Γ=>?_)
 unfold QsN at h
 rcases Qak h with ⟨h0,h⟩|⟨h0,h⟩
 ·obtain rfl:=Option.some.inj h
  exact gr 8 [] [bT h0]
 ·obtain ⟨r,h1,h⟩:=Qae h
  obtain ⟨e0,h5,h⟩:=Qae h
  refine gn 14 [1,2,5,21,22,23] [0] [bF h0,cC (QpA h1),nL Qaw r] (QuK Γ rv h5 ?_)
  rcases e0 with e0|e0
  ·replace h:(bnd (QaX (fun s=>Qid x0 set_ r s) 0) (fun e=>sel e (fun (_:Unit)=>bnd (QaX (fun s=>Qg6 x0 set_ r s) 0) (fun e=>sel e (fun (_:Unit)=>bnd (QaX (fun s=>Qf5 x0 set_ r s) 0) (fun e=>sel e (fun (_:Unit)=>bnd (Qjo (lenI x0.orders) x0.before) fun r5=>bnd (QaX (fun s=>Qe9 r r5 s) 0) (fun e=>sel e (fun (_:Unit)=>some 0) (fun r7=>some r7))) (fun r8=>some r8))) (fun r9=>some r9))) (fun r10=>some r10)):Option Int)=some _:=h
   obtain ⟨e1,h10,h⟩:=Qae h
   refine gn 5 [1,2,5,33,34,35] [0] [nL Qaw r] (QuL Γ rv h10 ?_)
   rcases e1 with e1|e1
   ·replace h:(bnd (QaX (fun s=>Qg6 x0 set_ r s) 0) (fun e=>sel e (fun (_:Unit)=>bnd (QaX (fun s=>Qf5 x0 set_ r s) 0) (fun e=>sel e (fun (_:Unit)=>bnd (Qjo (lenI x0.orders) x0.before) fun r5=>bnd (QaX (fun s=>Qe9 r r5 s) 0) (fun e=>sel e (fun (_:Unit)=>some 0) (fun r7=>some r7))) (fun r8=>some r8))) (fun r9=>some r9)):Option Int)=some _:=h
    obtain ⟨e2,h17,h⟩:=Qae h
    refine gn 5 [1,2,5,47,48,49] [0] [nL Qav.enc x0.apart] (QuM Γ rv h17 ?_)
    rcases e2 with e2|e2
    ·replace h:(bnd (QaX (fun s=>Qf5 x0 set_ r s) 0) (fun e=>sel e (fun (_:Unit)=>bnd (Qjo (lenI x0.orders) x0.before) fun r5=>bnd (QaX (fun s=>Qe9 r r5 s) 0) (fun e=>sel e (fun (_:Unit)=>some 0) (fun r7=>some r7))) (fun r8=>some r8)):Option Int)=some _:=h
     obtain ⟨e3,h24,h⟩:=Qae h
     refine gn 5 [1,2,5,65,66,67] [0] [nL Qav.enc x0.before] (QuN Γ rv h24 ?_)
     rcases e3 with e3|e3
     ·replace h:(bnd (Qjo (lenI x0.orders) x0.before) fun r5=>bnd (QaX (fun s=>Qe9 r r5 s) 0) (fun e=>sel e (fun (_:Unit)=>some 0) (fun r7=>some r7)):Option Int)=some _:=h
      obtain ⟨r5,h25,h⟩:=Qae h
      obtain ⟨e4,h31,h⟩:=Qae h
      refine gn 7 [14,89,90,91] [] [nL Qac.enc x0.orders,cC (QxC h25),nL Qaw r] (QuO Γ rv h31 ?_)
      rcases e4 with e4|e4
      ·replace h:(some 0:Option Int)=some _:=h
       obtain rfl:=Option.some.inj h
       exact gr 2 [] []
      ·obtain ⟨r7,rfl⟩:∃ x,x=e4:=⟨_,rfl⟩
       replace h:(some r7:Option Int)=some _:=h
       exact Option.some.inj h
     ·obtain ⟨r8,rfl⟩:∃ x,x=e3:=⟨_,rfl⟩
      replace h:(some r8:Option Int)=some _:=h
      exact Option.some.inj h
    ·obtain ⟨r9,rfl⟩:∃ x,x=e2:=⟨_,rfl⟩
     replace h:(some r9:Option Int)=some _:=h
     exact Option.some.inj h
   ·obtain ⟨r10,rfl⟩:∃ x,x=e1:=⟨_,rfl⟩
    replace h:(some r10:Option Int)=some _:=h
    exact Option.some.inj h
  ·obtain ⟨r11,rfl⟩:∃ x,x=e0:=⟨_,rfl⟩
   replace h:(some r11:Option Int)=some _:=h
   exact Option.some.inj h
theorem Qix {l at_} {rv:Bool} (h:Qtc l at_=some rv):AFn Tryz.prog 137 [.one (lL 16 l Qac.enc),.one (lI at_)] [] (one (.bool rv)) []:=by
 refine QaG Tryz.func137 (by kernel_rfl) (by kernel_rfl) (fun Γ=>?_)
 unfold Qtc at h
 obtain rfl:=Option.some.inj h
 exact gr 4 [] [hP,hP,hP,oI ((geI at_ 0)=true),nL Qac.enc l,hP,hP,rp 2 (oI ((geI at_ 0)=true)),oR True ((geI at_ 0)=true)]
def Qyu (Γ:Gam) (rv:List Qad) (cf:Cf):Prop:=Go Tryz.prog Tryz.f109 [] Γ (one (lL 2 rv Qad.enc)) [] cf
theorem Qqa (Γ:Gam) (rv:List Qad) {l at_ l1} (h:Qk5 l at_ l1=some rv):Qyu Γ rv ⟨[.c 31],⟨35,[vL 0 16 l Qac.enc,vI 1 at_,vO 5 0 2 l1 Qad.enc],[oS 2 138 l1 Qad.enc]⟩⟩:=by
 unfold Qk5 at h
 obtain ⟨x1,h5,h⟩:=Qae h
 rcases Qak h with ⟨h6,h⟩|⟨h6,h⟩
 ·obtain ⟨h7,h⟩:=Qat h
  obtain rfl:=Option.some.inj h
  exact gr 7 [] [cE Qac.enc h5,bT h6,oO (Eq.refl ([(Qad.mk at_ true)].map Qad.enc).length),aO Qad.enc h7,hW 5,hH (.frz 2),rp 4 (oO (Eq.refl ((l1++[(Qad.mk at_ true)]).map Qad.enc).length))]
 ·obtain rfl:=Option.some.inj h
  exact gr 7 [] [cE Qac.enc h5,bF h6,hW 5,hH (.frz 0),rp 3 (eL l1 Qad.enc)]
theorem QhL {l at_} {rv:List Qad} (h:Qjn l at_=some rv):AFn Tryz.prog 109 [.one (lL 16 l Qac.enc),.one (lI at_)] [] (one (lL 2 rv Qad.enc)) []:=by
 refine QaG Tryz.func109 (by kernel_rfl) (by kernel_rfl) (fun Γ=>?_)
 unfold Qjn at h
 obtain ⟨r,h0,h⟩:=Qae h
 rcases Qak h with ⟨h1,h⟩|⟨h1,h⟩
 ·obtain ⟨x0,h2,h⟩:=Qae h
  rcases Qak h with ⟨h3,h⟩|⟨h3,h⟩
  ·obtain ⟨h4,h⟩:=Qat h
   exact gn 14 [0,1,5] [1] [cC (Qix h0),nF h1,cE Qac.enc h2,bT h3,oO (Eq.refl ([(Qad.mk at_ false)].map Qad.enc).length),aN (l:=([(Qad.mk at_ false)]:List Qad)) Qad.enc h4] (Qqa Γ rv h)
  ·exact gn 14 [0,1,5] [0] [cC (Qix h0),nF h1,cE Qac.enc h2,bF h3,hW 1,hH (.adopt 5 2 138)] (Qqa Γ rv h)
 ·obtain rfl:=Option.some.inj h
  exact gr 10 [] [cC (Qix h0),nT h1,hW 3,hH (.nilS 4 0 2)]
end Go.Proofs.YtbilkblifgaflaaGreatDoor
