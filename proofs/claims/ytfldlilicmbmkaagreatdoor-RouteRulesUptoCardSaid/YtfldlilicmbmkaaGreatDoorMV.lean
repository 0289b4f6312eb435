/- Part MV of the proof: texts Z1. -/
import Derived.Test.YtfldlilicmbmkaaGreatDoorMU
import Derived.Test.YtfldlilicmbmkaaGreatDoorProg
namespace Go.Proofs.YtfldlilicmbmkaaGreatDoor
set_option linter.unusedVariables false
set_option linter.unusedSectionVars false
set_option linter.unusedSimpArgs false
set_option maxHeartbeats 4000000
set_option maxRecDepth 100000
def lorryref18_Same_G (Γ:Gam) (rv:Bool) (cf:Cf):Prop:=Go Tryz.prog Tryz.f24 [] Γ (one (.bool rv)) [] cf
def lorryref18_Same_L1_C (Γ:Gam) (rv:Bool) (a:T_api_Sheet) (b:T_api_Sheet) (i:Int):Prop:=lorryref18_Same_G Γ rv ⟨[.c 116,.l 116,.b 0,.c 15],⟨59,[vP 2 0 5,vP 3 1 5,vI 5 i],[oX 5 37 (T_api_Sheet.enc a),oX 5 37 (T_api_Sheet.enc b)]⟩⟩
def lorryref18_Same_L1_D0 (Γ:Gam) (rv:Bool) (a:T_api_Sheet) (b:T_api_Sheet):Prop:=lorryref18_Same_G Γ rv ⟨[.c 15],⟨59,[],[]⟩⟩
theorem lorryref18_Same_L1_ok (Γ:Gam) (rv:Bool) {a b} {s:Int} {e:(Unit) ⊕ (Bool)} (h:loopF (fun s=>lorryref18_Same_L1 a b s) s = some e) (hD:sel e (fun e=>lorryref18_Same_L1_D0 Γ rv a b) (fun e=>e = rv)):lorryref18_Same_L1_C Γ rv a b s:=by
 refine loop_ind (C:=fun (s:Int)=>lorryref18_Same_L1_C Γ rv a b s) (D:=fun (e:(Unit) ⊕ (Bool))=>sel e (fun e=>lorryref18_Same_L1_D0 Γ rv a b) (fun e=>e = rv)) ?_ h hD
 clear h hD s e
 intro i z_ h hI hE
 replace h:lorryref18_Same_L1 a b i = _:=h
 unfold lorryref18_Same_L1 at h
 rcases br_elim h with ⟨h1,h⟩|⟨h1,h⟩
 ·obtain ⟨x0,h2,h⟩:=bnd_elim h
  obtain ⟨x1,h3,h⟩:=bnd_elim h
  rcases br_elim h with ⟨h4,h⟩|⟨h4,h⟩
  ·exact gn 14 [2,3,5] [0,1] [nL T_api_Time.enc a.times,bT h1,hH (.draw 11 []),cE T_api_Time.enc h2,cE T_api_Time.enc h3,nF h4] (hI _ (oJ h))
  ·obtain rfl:=(hE _ (oJ h):_ = rv)
   exact gr 12 [] [nL T_api_Time.enc a.times,bT h1,hH (.draw 11 []),cE T_api_Time.enc h2,cE T_api_Time.enc h3,nT h4]
 ·exact gn 5 [] [] [nL T_api_Time.enc a.times,bF h1] (hE _ (oJ h))
theorem lorryref18_Same_ok {a b} {rv:Bool} (h:lorryref18_Same a b = some rv):AFn Tryz.prog 24 [.agg (T_api_Sheet.enc a),.agg (T_api_Sheet.enc b)] [] (one (.bool rv)) []:=by
 refine afn_of Tryz.func24 (by kernel_rfl) (by kernel_rfl) (fun Γ=>?_)
 unfold lorryref18_Same at h
 rcases br_elim h with ⟨h0,h⟩|⟨h0,h⟩
 ·obtain rfl:=Option.some.inj h
  exact gr 8 [] [rp 21 hP,rp 4 (oI ((!eqB a.rest_ b.rest_) = false)),oR True ((!eqB a.rest_ b.rest_) = false),rp 4 (oI (((!eqB a.rest_ b.rest_) || (neI a.depart b.depart)) = false)),oR True (((!eqB a.rest_ b.rest_) || (neI a.depart b.depart)) = false),rp 4 (oI ((((!eqB a.rest_ b.rest_) || (neI a.depart b.depart)) || (neI a.end_ b.end_)) = false)),oR True ((((!eqB a.rest_ b.rest_) || (neI a.depart b.depart)) || (neI a.end_ b.end_)) = false),rp 2 (oI (((((!eqB a.rest_ b.rest_) || (neI a.depart b.depart)) || (neI a.end_ b.end_)) || (neI a.miles b.miles)) = false)),nL T_api_Time.enc a.times,hP,hP,hP,rp 2 (oI (((((!eqB a.rest_ b.rest_) || (neI a.depart b.depart)) || (neI a.end_ b.end_)) || (neI a.miles b.miles)) = false)),nL T_api_Time.enc b.times,hP,hP,rp 2 (oI (((((!eqB a.rest_ b.rest_) || (neI a.depart b.depart)) || (neI a.end_ b.end_)) || (neI a.miles b.miles)) = false)),oR True (((((!eqB a.rest_ b.rest_) || (neI a.depart b.depart)) || (neI a.end_ b.end_)) || (neI a.miles b.miles)) = false),bT h0]
 ·obtain ⟨e0,h5,h⟩:=bnd_elim h
  refine gn 12 [2,3,5] [0,1] [rp 21 hP,rp 4 (oI ((!eqB a.rest_ b.rest_) = false)),oR True ((!eqB a.rest_ b.rest_) = false),rp 4 (oI (((!eqB a.rest_ b.rest_) || (neI a.depart b.depart)) = false)),oR True (((!eqB a.rest_ b.rest_) || (neI a.depart b.depart)) = false),rp 4 (oI ((((!eqB a.rest_ b.rest_) || (neI a.depart b.depart)) || (neI a.end_ b.end_)) = false)),oR True ((((!eqB a.rest_ b.rest_) || (neI a.depart b.depart)) || (neI a.end_ b.end_)) = false),rp 2 (oI (((((!eqB a.rest_ b.rest_) || (neI a.depart b.depart)) || (neI a.end_ b.end_)) || (neI a.miles b.miles)) = false)),nL T_api_Time.enc a.times,hP,hP,hP,rp 2 (oI (((((!eqB a.rest_ b.rest_) || (neI a.depart b.depart)) || (neI a.end_ b.end_)) || (neI a.miles b.miles)) = false)),nL T_api_Time.enc b.times,hP,hP,rp 2 (oI (((((!eqB a.rest_ b.rest_) || (neI a.depart b.depart)) || (neI a.end_ b.end_)) || (neI a.miles b.miles)) = false)),oR True (((((!eqB a.rest_ b.rest_) || (neI a.depart b.depart)) || (neI a.end_ b.end_)) || (neI a.miles b.miles)) = false),bF h0] (lorryref18_Same_L1_ok Γ rv h5 ?_)
  rcases e0 with e0|e0
  ·replace h:(some true:Option Bool) = some _:=h
   obtain rfl:=Option.some.inj h
   exact gr 2 [] []
  ·obtain ⟨r,rfl⟩:∃ x,x = e0:=⟨_,rfl⟩
   replace h:(some r:Option Bool) = some _:=h
   exact Option.some.inj h
theorem lorrylaw21_right_ok {x0 r} {rv:Bool} (h:lorrylaw21_right x0 r = some rv):AFn Tryz.prog 20 [.agg (T_api_Instance.enc x0),.agg (T_api_Route.enc r)] [] (one (.bool rv)) []:=by
 refine afn_of Tryz.func20 (by kernel_rfl) (by kernel_rfl) (fun Γ=>?_)
 unfold lorrylaw21_right at h
 obtain ⟨r1,h0,h⟩:=bnd_elim h
 obtain rfl:=Option.some.inj h
 exact gr 4 [] [cC (lorryref13_Check_ok h0),nL T_api_Fault.enc r1,hP,hP,hP,rp 2 (oI ((eqI (lenI r1) 0) = true)),nL T_api_Visit.enc r.visits,rp 5 hP,rp 2 (oI ((eqI (lenI r1) 0) = true)),rp 2 (oI (((eqI (lenI r1) 0) = true)∧(leI (lenI r.visits) 8) = false)),nL T_api_Visit.enc r.visits,rp 4 hP,oI (((eqI (lenI r1) 0) = true)∧(leI (lenI r.visits) 8) = false),oI ((eqI (lenI r1) 0) = true),oI (((eqI (lenI r1) 0) = true)∧(leI (lenI r.visits) 8) = false),oR True ((eqI (lenI r1) 0) = true)]
def sequence_Orders_G (Γ:Gam) (rv:Int × Int) (cf:Cf):Prop:=Go Tryz.prog Tryz.f32 [] Γ (.tup [.one (lI rv.1),.one (lI rv.2)]) [] cf
def sequence_Orders_L1_C (Γ:Gam) (rv:Int × Int) (r:T_api_Route) (set_:Int) (v:Int):Prop:=sequence_Orders_G Γ rv ⟨[.c 116,.l 116,.b 0,.c 15],⟨29,[vI 4 set_,vL 8 2 r.visits T_api_Visit.enc,vI 9 (lenI r.visits),vI 10 v],[]⟩⟩
def sequence_Orders_L1_D0 (Γ:Gam) (rv:Int × Int) (r:T_api_Route) (set_1:Int):Prop:=sequence_Orders_G Γ rv ⟨[.c 15],⟨29,[vI 4 set_1],[]⟩⟩
theorem sequence_Orders_L1_ok (Γ:Gam) (rv:Int × Int) {r} {s:Int × Int} {e:(Int) ⊕ (Int × Int)} (h:loopF (fun s=>sequence_Orders_L1 r s.1 s.2) s = some e) (hD:sel e (fun e=>sequence_Orders_L1_D0 Γ rv r e) (fun e=>e = rv)):sequence_Orders_L1_C Γ rv r s.1 s.2:=by
 refine loop_ind (C:=fun (s:Int × Int)=>sequence_Orders_L1_C Γ rv r s.1 s.2) (D:=fun (e:(Int) ⊕ (Int × Int))=>sel e (fun e=>sequence_Orders_L1_D0 Γ rv r e) (fun e=>e = rv)) ?_ h hD
 clear h hD s e
 rintro ⟨set_,v⟩ z_ h hI hE
 replace h:sequence_Orders_L1 r set_ v = _:=h
 unfold sequence_Orders_L1 at h
 rcases br_elim h with ⟨h0,h⟩|⟨h0,h⟩
 ·obtain ⟨x0,h1,h⟩:=bnd_elim h
  rcases br_elim h with ⟨h2,h⟩|⟨h2,h⟩
  ·obtain rfl:=(hE _ (oJ h):_ = rv)
   exact gr 15 [] [bT h0,cE T_api_Visit.enc h1,rp 4 hP,rp 2 (oI ((ltI x0.order 0) = false)),oR True ((ltI x0.order 0) = false),bT h2]
  ·obtain ⟨h3,h⟩:=chk_elim h
   exact gn 18 [4,8,9,10] [] [bT h0,cE T_api_Visit.enc h1,rp 4 hP,rp 2 (oI ((ltI x0.order 0) = false)),oR True ((ltI x0.order 0) = false),bF h2,oO (h3)] (hI _ (oJ h))
 ·exact gn 5 [4] [] [bF h0] (hE _ (oJ h))
theorem sequence_Orders_ok {r} {rv:Int × Int} (h:sequence_Orders r = some rv):AFn Tryz.prog 32 [.agg (T_api_Route.enc r)] [] (.tup [.one (lI rv.1),.one (lI rv.2)]) []:=by
 refine afn_of Tryz.func32 (by kernel_rfl) (by kernel_rfl) (fun Γ=>?_)
 unfold sequence_Orders at h
 obtain ⟨e0,h4,h⟩:=bnd_elim h
 refine gn 9 [4,8,9,10] [] [nL T_api_Visit.enc r.visits] (sequence_Orders_L1_ok Γ rv h4 ?_)
 rcases e0 with e0|e0
 ·obtain ⟨set_1,rfl⟩:∃ x,x = e0:=⟨_,rfl⟩
  replace h:(some (set_1,0):Option (Int × Int)) = some _:=h
  obtain rfl:=Option.some.inj h
  exact gr 2 [] []
 ·obtain ⟨r1,rfl⟩:∃ x,x = e0:=⟨_,rfl⟩
  replace h:(some r1:Option (Int × Int)) = some _:=h
  exact Option.some.inj h
def slices_Index___api_Visit_api_Visit__G (Γ:Gam) (rv:Int) (cf:Cf):Prop:=Go Tryz.prog Tryz.f167 [] Γ (one (lI rv)) [] cf
def slices_Index___api_Visit_api_Visit__L1_C (Γ:Gam) (rv:Int) (s0:List T_api_Visit) (v:T_api_Visit) (v1:Int):Prop:=slices_Index___api_Visit_api_Visit__G Γ rv ⟨[.c 52,.l 52,.b 0,.c 7],⟨19,[vL 0 2 s0 T_api_Visit.enc,vP 3 0 2,vI 7 (lenI s0),vI 8 v1],[oX 2 83 (T_api_Visit.enc v)]⟩⟩
def slices_Index___api_Visit_api_Visit__L1_D0 (Γ:Gam) (rv:Int) (s0:List T_api_Visit) (v:T_api_Visit):Prop:=slices_Index___api_Visit_api_Visit__G Γ rv ⟨[.c 7],⟨19,[],[]⟩⟩
theorem slices_Index___api_Visit_api_Visit__L1_ok (Γ:Gam) (rv:Int) {s0 v} {s:Int} {e:(Unit) ⊕ (Int)} (h:loopF (fun s=>slices_Index___api_Visit_api_Visit__L1 s0 v s) s = some e) (hD:sel e (fun e=>slices_Index___api_Visit_api_Visit__L1_D0 Γ rv s0 v) (fun e=>e = rv)):slices_Index___api_Visit_api_Visit__L1_C Γ rv s0 v s:=by
 refine loop_ind (C:=fun (s:Int)=>slices_Index___api_Visit_api_Visit__L1_C Γ rv s0 v s) (D:=fun (e:(Unit) ⊕ (Int))=>sel e (fun e=>slices_Index___api_Visit_api_Visit__L1_D0 Γ rv s0 v) (fun e=>e = rv)) ?_ h hD
 clear h hD s e
 intro v1 z_ h hI hE
 replace h:slices_Index___api_Visit_api_Visit__L1 s0 v v1 = _:=h
 unfold slices_Index___api_Visit_api_Visit__L1 at h
 rcases br_elim h with ⟨h0,h⟩|⟨h0,h⟩
 ·obtain ⟨x0,h1,h⟩:=bnd_elim h
  rcases br_elim h with ⟨h2,h⟩|⟨h2,h⟩
  ·obtain rfl:=(hE _ (oJ h):_ = rv)
   exact gr 14 [] [bT h0,hH (.draw 6 []),cE T_api_Visit.enc h1,bT h2]
  ·exact gn 16 [0,3,7,8] [0] [bT h0,hH (.draw 6 []),cE T_api_Visit.enc h1,bF h2] (hI _ (oJ h))
 ·exact gn 5 [] [] [bF h0] (hE _ (oJ h))
theorem slices_Index___api_Visit_api_Visit__ok {s0 v} {rv:Int} (h:slices_Index___api_Visit_api_Visit_ s0 v = some rv):AFn Tryz.prog 167 [.one (lL 2 s0 T_api_Visit.enc),.agg (T_api_Visit.enc v)] [] (one (lI rv)) []:=by
 refine afn_of Tryz.func167 (by kernel_rfl) (by kernel_rfl) (fun Γ=>?_)
 unfold slices_Index___api_Visit_api_Visit_ at h
 obtain ⟨e0,h3,h⟩:=bnd_elim h
 refine gn 7 [0,3,7,8] [0] [nL T_api_Visit.enc s0] (slices_Index___api_Visit_api_Visit__L1_ok Γ rv h3 ?_)
 rcases e0 with e0|e0
 ·replace h:(some (-1):Option Int) = some _:=h
  obtain rfl:=Option.some.inj h
  exact gr 2 [] []
 ·obtain ⟨r,rfl⟩:∃ x,x = e0:=⟨_,rfl⟩
  replace h:(some r:Option Int) = some _:=h
  exact Option.some.inj h
theorem sequence_place_ok {l v} {rv:Int} (h:sequence_place l v = some rv):AFn Tryz.prog 132 [.one (lL 2 l T_api_Visit.enc),.agg (T_api_Visit.enc v)] [] (one (lI rv)) []:=by
 refine afn_of Tryz.func132 (by kernel_rfl) (by kernel_rfl) (fun Γ=>?_)
 unfold sequence_place at h
 obtain ⟨r,h0,h⟩:=bnd_elim h
 obtain rfl:=Option.some.inj h
 exact gr 4 [] [cC (slices_Index___api_Visit_api_Visit__ok h0)]
def sequence_twice_G (Γ:Gam) (rv:Bool) (cf:Cf):Prop:=Go Tryz.prog Tryz.f84 [] Γ (one (.bool rv)) [] cf
def sequence_twice_L1_C (Γ:Gam) (rv:Bool) (l:List T_api_Visit) (v:Int):Prop:=sequence_twice_G Γ rv ⟨[.c 52,.l 52,.b 0,.c 7],⟨19,[vL 0 2 l T_api_Visit.enc,vL 5 2 l T_api_Visit.enc,vI 6 (lenI l),vI 7 v],[]⟩⟩
def sequence_twice_L1_D0 (Γ:Gam) (rv:Bool) (l:List T_api_Visit):Prop:=sequence_twice_G Γ rv ⟨[.c 7],⟨19,[],[]⟩⟩
theorem sequence_twice_L1_ok (Γ:Gam) (rv:Bool) {l} {s:Int} {e:(Unit) ⊕ (Bool)} (h:loopF (fun s=>sequence_twice_L1 l s) s = some e) (hD:sel e (fun e=>sequence_twice_L1_D0 Γ rv l) (fun e=>e = rv)):sequence_twice_L1_C Γ rv l s:=by
 refine loop_ind (C:=fun (s:Int)=>sequence_twice_L1_C Γ rv l s) (D:=fun (e:(Unit) ⊕ (Bool))=>sel e (fun e=>sequence_twice_L1_D0 Γ rv l) (fun e=>e = rv)) ?_ h hD
 clear h hD s e
 intro v z_ h hI hE
 replace h:sequence_twice_L1 l v = _:=h
 unfold sequence_twice_L1 at h
 rcases br_elim h with ⟨h0,h⟩|⟨h0,h⟩
 ·obtain ⟨x0,h1,h⟩:=bnd_elim h
  obtain ⟨l1,h2,h⟩:=bnd_elim h
  obtain ⟨r,h3,h⟩:=bnd_elim h
  rcases br_elim h with ⟨h4,h⟩|⟨h4,h⟩
  ·obtain rfl:=(hE _ (oJ h):_ = rv)
   exact gr 14 [] [bT h0,cE T_api_Visit.enc h1,hH (.draw 6 []),hH (.rows (l1.map T_api_Visit.enc)),oO (sl1 h2),oO (sl2 h2),oO (sl3 T_api_Visit.enc h2),oO (Int.le_refl v),oO (sl3 T_api_Visit.enc h2),oO (sl6 T_api_Visit.enc h2),cC (sequence_place_ok h3),bT h4]
  ·exact gn 16 [0,5,6,7] [] [bT h0,cE T_api_Visit.enc h1,hH (.draw 6 []),hH (.rows (l1.map T_api_Visit.enc)),oO (sl1 h2),oO (sl2 h2),oO (sl3 T_api_Visit.enc h2),oO (Int.le_refl v),oO (sl3 T_api_Visit.enc h2),oO (sl6 T_api_Visit.enc h2),cC (sequence_place_ok h3),bF h4] (hI _ (oJ h))
 ·exact gn 5 [] [] [bF h0] (hE _ (oJ h))
theorem sequence_twice_ok {l} {rv:Bool} (h:sequence_twice l = some rv):AFn Tryz.prog 84 [.one (lL 2 l T_api_Visit.enc)] [] (one (.bool rv)) []:=by
 refine afn_of Tryz.func84 (by kernel_rfl) (by kernel_rfl) (fun Γ=>?_)
 unfold sequence_twice at h
 obtain ⟨e0,h5,h⟩:=bnd_elim h
 refine gn 7 [0,5,6,7] [] [nL T_api_Visit.enc l] (sequence_twice_L1_ok Γ rv h5 ?_)
 rcases e0 with e0|e0
 ·replace h:(some false:Option Bool) = some _:=h
  obtain rfl:=Option.some.inj h
  exact gr 2 [] []
 ·obtain ⟨r1,rfl⟩:∃ x,x = e0:=⟨_,rfl⟩
  replace h:(some r1:Option Bool) = some _:=h
  exact Option.some.inj h
def order_Visits_G (Γ:Gam) (rv:List T_api_Visit) (cf:Cf):Prop:=Go Tryz.prog Tryz.f133 [] Γ (one (lL 2 rv T_api_Visit.enc)) [] cf
theorem order_Visits_J1_ok (Γ:Gam) (rv:List T_api_Visit) {l at_ l1} (h:order_Visits_J1 l at_ l1 = some rv):order_Visits_G Γ rv ⟨[.c 31],⟨35,[vL 0 16 l T_api_Order.enc,vI 1 at_,vO 5 0 2 l1 T_api_Visit.enc],[oS 2 83 l1 T_api_Visit.enc]⟩⟩:=by
 unfold order_Visits_J1 at h
 obtain ⟨x1,h5,h⟩:=bnd_elim h
 rcases br_elim h with ⟨h6,h⟩|⟨h6,h⟩
 ·obtain ⟨h7,h⟩:=chk_elim h
  obtain rfl:=Option.some.inj h
  exact gr 7 [] [cE T_api_Order.enc h5,bT h6,oO (Eq.refl ([(T_api_Visit.mk at_ true)].map T_api_Visit.enc).length),aO T_api_Visit.enc h7,hW 5,hH (.frz 2),rp 4 (oO (Eq.refl ((l1 ++ [(T_api_Visit.mk at_ true)]).map T_api_Visit.enc).length))]
 ·obtain rfl:=Option.some.inj h
  exact gr 7 [] [cE T_api_Order.enc h5,bF h6,hW 5,hH (.frz 0),rp 3 (eL l1 T_api_Visit.enc)]
theorem order_Visits_ok {l at_} {rv:List T_api_Visit} (h:order_Visits l at_ = some rv):AFn Tryz.prog 133 [.one (lL 16 l T_api_Order.enc),.one (lI at_)] [] (one (lL 2 rv T_api_Visit.enc)) []:=by
 refine afn_of Tryz.func133 (by kernel_rfl) (by kernel_rfl) (fun Γ=>?_)
 unfold order_Visits at h
 obtain ⟨r,h0,h⟩:=bnd_elim h
 rcases br_elim h with ⟨h1,h⟩|⟨h1,h⟩
 ·obtain ⟨x0,h2,h⟩:=bnd_elim h
  rcases br_elim h with ⟨h3,h⟩|⟨h3,h⟩
  ·obtain ⟨h4,h⟩:=chk_elim h
   exact gn 14 [0,1,5] [1] [cC (order_there_ok h0),nF h1,cE T_api_Order.enc h2,bT h3,oO (Eq.refl ([(T_api_Visit.mk at_ false)].map T_api_Visit.enc).length),aN (l:=([(T_api_Visit.mk at_ false)]:List T_api_Visit)) T_api_Visit.enc h4] (order_Visits_J1_ok Γ rv h)
  ·exact gn 14 [0,1,5] [0] [cC (order_there_ok h0),nF h1,cE T_api_Order.enc h2,bF h3,hW 1,hH (.adopt 5 2 83)] (order_Visits_J1_ok Γ rv h)
 ·obtain rfl:=Option.some.inj h
  exact gr 10 [] [cC (order_there_ok h0),nT h1,hW 3,hH (.nilS 4 0 2)]
theorem slices_Contains___api_Visit_api_Visit__ok {s0 v} {rv:Bool} (h:slices_Contains___api_Visit_api_Visit_ s0 v = some rv):AFn Tryz.prog 134 [.one (lL 2 s0 T_api_Visit.enc),.agg (T_api_Visit.enc v)] [] (one (.bool rv)) []:=by
 refine afn_of Tryz.func134 (by kernel_rfl) (by kernel_rfl) (fun Γ=>?_)
 unfold slices_Contains___api_Visit_api_Visit_ at h
 obtain ⟨r,h0,h⟩:=bnd_elim h
 obtain rfl:=Option.some.inj h
 exact gr 4 [] [cC (slices_Index___api_Visit_api_Visit__ok h0)]
def sequence_paired_G (Γ:Gam) (rv:Bool) (cf:Cf):Prop:=Go Tryz.prog Tryz.f85 [] Γ (one (.bool rv)) [] cf
def sequence_paired_L2_C (Γ:Gam) (rv:Bool) (x0:T_api_Instance) (l:List T_api_Visit) (v:Int) (r:List T_api_Visit) (last_:Int) (v1:Int):Prop:=sequence_paired_G Γ rv ⟨[.c 108156,.l 108156,.b 2,.b 1,.c 423,.l 52,.b 0,.c 7],⟨42,[vL 1 2 l T_api_Visit.enc,vP 2 0 6,vI 8 last_,vL 12 2 l T_api_Visit.enc,vI 13 (lenI l),vI 14 v,vL 27 2 r T_api_Visit.enc,vI 28 (lenI r),vI 29 v1],[oX 6 30 (T_api_Instance.enc x0)]⟩⟩
def sequence_paired_L2_D0 (Γ:Gam) (rv:Bool) (x0:T_api_Instance) (l:List T_api_Visit) (v:Int) (r:List T_api_Visit):Prop:=sequence_paired_G Γ rv ⟨[.b 1,.c 423,.l 52,.b 0,.c 7],⟨42,[vL 1 2 l T_api_Visit.enc,vP 2 0 6,vL 12 2 l T_api_Visit.enc,vI 13 (lenI l),vI 14 v],[oX 6 30 (T_api_Instance.enc x0)]⟩⟩
def sequence_paired_L1_C (Γ:Gam) (rv:Bool) (x0:T_api_Instance) (l:List T_api_Visit) (v:Int):Prop:=sequence_paired_G Γ rv ⟨[.c 52,.l 52,.b 0,.c 7],⟨42,[vL 1 2 l T_api_Visit.enc,vP 2 0 6,vL 12 2 l T_api_Visit.enc,vI 13 (lenI l),vI 14 v],[oX 6 30 (T_api_Instance.enc x0)]⟩⟩
def sequence_paired_L1_D0 (Γ:Gam) (rv:Bool) (x0:T_api_Instance) (l:List T_api_Visit):Prop:=sequence_paired_G Γ rv ⟨[.c 7],⟨42,[],[]⟩⟩
theorem sequence_paired_L2_ok (Γ:Gam) (rv:Bool) {x0 l v r} {s:Int × Int} {e:(Unit) ⊕ (Bool)} (h:loopF (fun s=>sequence_paired_L2 x0 l v r s.1 s.2) s = some e) (hD:sel e (fun e=>sequence_paired_L2_D0 Γ rv x0 l v r) (fun e=>e = rv)):sequence_paired_L2_C Γ rv x0 l v r s.1 s.2:=by
 refine loop_ind (C:=fun (s:Int × Int)=>sequence_paired_L2_C Γ rv x0 l v r s.1 s.2) (D:=fun (e:(Unit) ⊕ (Bool))=>sel e (fun e=>sequence_paired_L2_D0 Γ rv x0 l v r) (fun e=>e = rv)) ?_ h hD
 clear h hD s e
 rintro ⟨last_,v1⟩ z_ h hI hE
 replace h:sequence_paired_L2 x0 l v r last_ v1 = _:=h
 unfold sequence_paired_L2 at h
 rcases br_elim h with ⟨h5,h⟩|⟨h5,h⟩
 ·obtain ⟨x2,h6,h⟩:=bnd_elim h
  obtain ⟨r2,h7,h⟩:=bnd_elim h
  rcases br_elim h with ⟨h8,h⟩|⟨h8,h⟩
  ·obtain rfl:=(hE _ (oJ h):_ = rv)
   exact gr 17 [] [bT h5,cE T_api_Visit.enc h6,cC (sequence_place_ok h7),bT h8]
  ·exact gn 20 [1,2,8,12,13,14,27,28,29] [0] [bT h5,cE T_api_Visit.enc h6,cC (sequence_place_ok h7),bF h8] (hI _ (oJ h))
 ·exact gn 5 [1,2,12,13,14] [0] [bF h5] (hE _ (oJ h))
theorem sequence_paired_L1_ok (Γ:Gam) (rv:Bool) {x0 l} {s:Int} {e:(Unit) ⊕ (Bool)} (h:loopF (fun s=>sequence_paired_L1 x0 l s) s = some e) (hD:sel e (fun e=>sequence_paired_L1_D0 Γ rv x0 l) (fun e=>e = rv)):sequence_paired_L1_C Γ rv x0 l s:=by
 refine loop_ind (C:=fun (s:Int)=>sequence_paired_L1_C Γ rv x0 l s) (D:=fun (e:(Unit) ⊕ (Bool))=>sel e (fun e=>sequence_paired_L1_D0 Γ rv x0 l) (fun e=>e = rv)) ?_ h hD
 clear h hD s e
 intro v z_ h hI hE
 replace h:sequence_paired_L1 x0 l v = _:=h
 unfold sequence_paired_L1 at h
 rcases br_elim h with ⟨h0,h⟩|⟨h0,h⟩
 ·obtain ⟨x1,h1,h⟩:=bnd_elim h
  obtain ⟨r,h2,h⟩:=bnd_elim h
  obtain ⟨r1,h3,h⟩:=bnd_elim h
  rcases br_elim h with ⟨h4,h⟩|⟨h4,h⟩
  ·obtain ⟨e0,h9,h⟩:=bnd_elim h
   refine gn 22 [1,2,8,12,13,14,27,28,29] [0] [bT h0,cE T_api_Visit.enc h1,cC (order_Visits_ok h2),cC (slices_Contains___api_Visit_api_Visit__ok h3),nF h4,nL T_api_Visit.enc r] (sequence_paired_L2_ok Γ rv h9 ?_)
   rcases e0 with e0|e0
   ·replace h:(some (.inl (addK .i64 v 1)):Option ((Int) ⊕ ((Unit) ⊕ (Bool)))) = some _:=h
    exact gn 3 [1,2,12,13,14] [0] [] (hI _ (oJ h))
   ·obtain ⟨r3,rfl⟩:∃ x,x = e0:=⟨_,rfl⟩
    replace h:(some (.inr (.inr r3)):Option ((Int) ⊕ ((Unit) ⊕ (Bool)))) = some _:=h
    exact (hE _ (oJ h):_ = rv)
  ·obtain rfl:=(hE _ (oJ h):_ = rv)
   exact gr 17 [] [bT h0,cE T_api_Visit.enc h1,cC (order_Visits_ok h2),cC (slices_Contains___api_Visit_api_Visit__ok h3),nT h4]
 ·exact gn 5 [] [] [bF h0] (hE _ (oJ h))
theorem sequence_paired_ok {x0 l} {rv:Bool} (h:sequence_paired x0 l = some rv):AFn Tryz.prog 85 [.agg (T_api_Instance.enc x0),.one (lL 2 l T_api_Visit.enc)] [] (one (.bool rv)) []:=by
 refine afn_of Tryz.func85 (by kernel_rfl) (by kernel_rfl) (fun Γ=>?_)
 unfold sequence_paired at h
 obtain ⟨e1,h10,h⟩:=bnd_elim h
 refine gn 7 [1,2,12,13,14] [0] [nL T_api_Visit.enc l] (sequence_paired_L1_ok Γ rv h10 ?_)
 rcases e1 with e1|e1
 ·replace h:(some true:Option Bool) = some _:=h
  obtain rfl:=Option.some.inj h
  exact gr 2 [] []
 ·obtain ⟨r4,rfl⟩:∃ x,x = e1:=⟨_,rfl⟩
  replace h:(some r4:Option Bool) = some _:=h
  exact Option.some.inj h
theorem sequence_has_1_ok {v c} {rv:Bool} (h:sequence_has_1 v c = some rv):AFn Tryz.prog 135 [.agg (T_api_Visit.enc v),.one (.ip [lI c] 0)] [] (one (.bool rv)) []:=by
 refine afn_of Tryz.func135 (by kernel_rfl) (by kernel_rfl) (fun Γ=>?_)
 unfold sequence_has_1 at h
 obtain rfl:=Option.some.inj h
 exact gr 4 [] []
def slices_IndexFunc___api_Visit_api_Visit__has_1_G (Γ:Gam) (rv:Int) (cf:Cf):Prop:=Go Tryz.prog Tryz.f131 [] Γ (one (lI rv)) [] cf
def slices_IndexFunc___api_Visit_api_Visit__has_1_L1_C (Γ:Gam) (rv:Int) (s0:List T_api_Visit) (c:Int) (v:Int):Prop:=slices_IndexFunc___api_Visit_api_Visit__has_1_G Γ rv ⟨[.c 52,.l 52,.b 0,.c 7],⟨19,[vL 0 2 s0 T_api_Visit.enc,(1,one (.fn (.func 135) [.ip [lI c] 0])),vI 7 (lenI s0),vI 8 v],[]⟩⟩
def slices_IndexFunc___api_Visit_api_Visit__has_1_L1_D0 (Γ:Gam) (rv:Int) (s0:List T_api_Visit) (c:Int):Prop:=slices_IndexFunc___api_Visit_api_Visit__has_1_G Γ rv ⟨[.c 7],⟨19,[],[]⟩⟩
theorem slices_IndexFunc___api_Visit_api_Visit__has_1_L1_ok (Γ:Gam) (rv:Int) {s0 c} {s:Int} {e:(Unit) ⊕ (Int)} (h:loopF (fun s=>slices_IndexFunc___api_Visit_api_Visit__has_1_L1 s0 c s) s = some e) (hD:sel e (fun e=>slices_IndexFunc___api_Visit_api_Visit__has_1_L1_D0 Γ rv s0 c) (fun e=>e = rv)):slices_IndexFunc___api_Visit_api_Visit__has_1_L1_C Γ rv s0 c s:=by
 refine loop_ind (C:=fun (s:Int)=>slices_IndexFunc___api_Visit_api_Visit__has_1_L1_C Γ rv s0 c s) (D:=fun (e:(Unit) ⊕ (Int))=>sel e (fun e=>slices_IndexFunc___api_Visit_api_Visit__has_1_L1_D0 Γ rv s0 c) (fun e=>e = rv)) ?_ h hD
 clear h hD s e
 intro v z_ h hI hE
 replace h:slices_IndexFunc___api_Visit_api_Visit__has_1_L1 s0 c v = _:=h
 unfold slices_IndexFunc___api_Visit_api_Visit__has_1_L1 at h
 rcases br_elim h with ⟨h0,h⟩|⟨h0,h⟩
 ·obtain ⟨x0,h1,h⟩:=bnd_elim h
  obtain ⟨r,h2,h⟩:=bnd_elim h
  rcases br_elim h with ⟨h3,h⟩|⟨h3,h⟩
  ·obtain rfl:=(hE _ (oJ h):_ = rv)
   exact gr 14 [] [bT h0,cE T_api_Visit.enc h1,cC (sequence_has_1_ok h2),bT h3]
  ·exact gn 16 [0,1,7,8] [] [bT h0,cE T_api_Visit.enc h1,cC (sequence_has_1_ok h2),bF h3] (hI _ (oJ h))
 ·exact gn 5 [] [] [bF h0] (hE _ (oJ h))
theorem slices_IndexFunc___api_Visit_api_Visit__has_1_ok {s0 c} {rv:Int} (h:slices_IndexFunc___api_Visit_api_Visit__has_1 s0 c = some rv):AFn Tryz.prog 131 [.one (lL 2 s0 T_api_Visit.enc),.one (.fn (.func 135) [.ip [lI c] 0])] [] (one (lI rv)) []:=by
 refine afn_of Tryz.func131 (by kernel_rfl) (by kernel_rfl) (fun Γ=>?_)
 unfold slices_IndexFunc___api_Visit_api_Visit__has_1 at h
 obtain ⟨e0,h4,h⟩:=bnd_elim h
 refine gn 7 [0,1,7,8] [] [nL T_api_Visit.enc s0] (slices_IndexFunc___api_Visit_api_Visit__has_1_L1_ok Γ rv h4 ?_)
 rcases e0 with e0|e0
 ·replace h:(some (-1):Option Int) = some _:=h
  obtain rfl:=Option.some.inj h
  exact gr 2 [] []
 ·obtain ⟨r1,rfl⟩:∃ x,x = e0:=⟨_,rfl⟩
  replace h:(some r1:Option Int) = some _:=h
  exact Option.some.inj h
theorem slices_ContainsFunc___api_Visit_api_Visit__has_1_ok {s0 c} {rv:Bool} (h:slices_ContainsFunc___api_Visit_api_Visit__has_1 s0 c = some rv):AFn Tryz.prog 81 [.one (lL 2 s0 T_api_Visit.enc),.one (.fn (.func 135) [.ip [lI c] 0])] [] (one (.bool rv)) []:=by
 refine afn_of Tryz.func81 (by kernel_rfl) (by kernel_rfl) (fun Γ=>?_)
 unfold slices_ContainsFunc___api_Visit_api_Visit__has_1 at h
 obtain ⟨r,h0,h⟩:=bnd_elim h
 obtain rfl:=Option.some.inj h
 exact gr 4 [] [cC (slices_IndexFunc___api_Visit_api_Visit__has_1_ok h0)]
theorem sequence_has_ok {l o} {rv:Bool} (h:sequence_has l o = some rv):AFn Tryz.prog 86 [.one (lL 2 l T_api_Visit.enc),.one (lI o)] [] (one (.bool rv)) []:=by
 refine afn_of Tryz.func86 (by kernel_rfl) (by kernel_rfl) (fun Γ=>?_)
 unfold sequence_has at h
 obtain ⟨r,h0,h⟩:=bnd_elim h
 obtain rfl:=Option.some.inj h
 exact gr 4 [] [cC (slices_ContainsFunc___api_Visit_api_Visit__has_1_ok h0)]
theorem sequence_before_1_ok {v c} {rv:Bool} (h:sequence_before_1 v c = some rv):AFn Tryz.prog 136 [.agg (T_api_Visit.enc v),.one (.ip [lI c] 0)] [] (one (.bool rv)) []:=by
 refine afn_of Tryz.func136 (by kernel_rfl) (by kernel_rfl) (fun Γ=>?_)
 unfold sequence_before_1 at h
 obtain rfl:=Option.some.inj h
 exact gr 4 [] []
def slices_IndexFunc___api_Visit_api_Visit__before_1_G (Γ:Gam) (rv:Int) (cf:Cf):Prop:=Go Tryz.prog Tryz.f131 [] Γ (one (lI rv)) [] cf
def slices_IndexFunc___api_Visit_api_Visit__before_1_L1_C (Γ:Gam) (rv:Int) (s0:List T_api_Visit) (c:Int) (v:Int):Prop:=slices_IndexFunc___api_Visit_api_Visit__before_1_G Γ rv ⟨[.c 52,.l 52,.b 0,.c 7],⟨19,[vL 0 2 s0 T_api_Visit.enc,(1,one (.fn (.func 136) [.ip [lI c] 0])),vI 7 (lenI s0),vI 8 v],[]⟩⟩
def slices_IndexFunc___api_Visit_api_Visit__before_1_L1_D0 (Γ:Gam) (rv:Int) (s0:List T_api_Visit) (c:Int):Prop:=slices_IndexFunc___api_Visit_api_Visit__before_1_G Γ rv ⟨[.c 7],⟨19,[],[]⟩⟩
theorem slices_IndexFunc___api_Visit_api_Visit__before_1_L1_ok (Γ:Gam) (rv:Int) {s0 c} {s:Int} {e:(Unit) ⊕ (Int)} (h:loopF (fun s=>slices_IndexFunc___api_Visit_api_Visit__before_1_L1 s0 c s) s = some e) (hD:sel e (fun e=>slices_IndexFunc___api_Visit_api_Visit__before_1_L1_D0 Γ rv s0 c) (fun e=>e = rv)):slices_IndexFunc___api_Visit_api_Visit__before_1_L1_C Γ rv s0 c s:=by
 refine loop_ind (C:=fun (s:Int)=>slices_IndexFunc___api_Visit_api_Visit__before_1_L1_C Γ rv s0 c s) (D:=fun (e:(Unit) ⊕ (Int))=>sel e (fun e=>slices_IndexFunc___api_Visit_api_Visit__before_1_L1_D0 Γ rv s0 c) (fun e=>e = rv)) ?_ h hD
 clear h hD s e
 intro v z_ h hI hE
 replace h:slices_IndexFunc___api_Visit_api_Visit__before_1_L1 s0 c v = _:=h
 unfold slices_IndexFunc___api_Visit_api_Visit__before_1_L1 at h
 rcases br_elim h with ⟨h0,h⟩|⟨h0,h⟩
 ·obtain ⟨x0,h1,h⟩:=bnd_elim h
  obtain ⟨r,h2,h⟩:=bnd_elim h
  rcases br_elim h with ⟨h3,h⟩|⟨h3,h⟩
  ·obtain rfl:=(hE _ (oJ h):_ = rv)
   exact gr 14 [] [bT h0,cE T_api_Visit.enc h1,cC (sequence_before_1_ok h2),bT h3]
  ·exact gn 16 [0,1,7,8] [] [bT h0,cE T_api_Visit.enc h1,cC (sequence_before_1_ok h2),bF h3] (hI _ (oJ h))
 ·exact gn 5 [] [] [bF h0] (hE _ (oJ h))
theorem slices_IndexFunc___api_Visit_api_Visit__before_1_ok {s0 c} {rv:Int} (h:slices_IndexFunc___api_Visit_api_Visit__before_1 s0 c = some rv):AFn Tryz.prog 131 [.one (lL 2 s0 T_api_Visit.enc),.one (.fn (.func 136) [.ip [lI c] 0])] [] (one (lI rv)) []:=by
 refine afn_of Tryz.func131 (by kernel_rfl) (by kernel_rfl) (fun Γ=>?_)
 unfold slices_IndexFunc___api_Visit_api_Visit__before_1 at h
 obtain ⟨e0,h4,h⟩:=bnd_elim h
 refine gn 7 [0,1,7,8] [] [nL T_api_Visit.enc s0] (slices_IndexFunc___api_Visit_api_Visit__before_1_L1_ok Γ rv h4 ?_)
 rcases e0 with e0|e0
 ·replace h:(some (-1):Option Int) = some _:=h
  obtain rfl:=Option.some.inj h
  exact gr 2 [] []
 ·obtain ⟨r1,rfl⟩:∃ x,x = e0:=⟨_,rfl⟩
  replace h:(some r1:Option Int) = some _:=h
  exact Option.some.inj h
theorem sequence_before_ok {l a b} {rv:Bool} (h:sequence_before l a b = some rv):AFn Tryz.prog 87 [.one (lL 2 l T_api_Visit.enc),.one (lI a),.one (lI b)] [] (one (.bool rv)) []:=by
 refine afn_of Tryz.func87 (by kernel_rfl) (by kernel_rfl) (fun Γ=>?_)
 unfold sequence_before at h
 obtain ⟨r,h0,h⟩:=bnd_elim h
 rcases br_elim h with ⟨h1,h⟩|⟨h1,h⟩
 ·obtain rfl:=Option.some.inj h
  exact gr 10 [] [cC (slices_IndexFunc___api_Visit_api_Visit__before_1_ok h0),bT h1]
 ·obtain ⟨r1,h2,h⟩:=bnd_elim h
  rcases br_elim h with ⟨h3,h⟩|⟨h3,h⟩
  ·obtain ⟨l1,h4,h⟩:=bnd_elim h
   obtain ⟨r2,h5,h⟩:=bnd_elim h
   obtain rfl:=Option.some.inj h
   exact gr 11 [] [cC (slices_IndexFunc___api_Visit_api_Visit__before_1_ok h0),bF h1,cC (sequence_has_ok h2),rp 3 (bT h3),hH (.rows (l1.map T_api_Visit.enc)),oO (sl1 h4),oO (sl2h T_api_Visit.enc h4),rp 3 (oO (Int.le_refl ((l.map T_api_Visit.enc).length:Int))),oO (sl6h T_api_Visit.enc h4),bT h3,bT h3,cC (sequence_has_ok h5),bT h3,bT h3]
  ·obtain rfl:=Option.some.inj h
   exact gr 11 [] [cC (slices_IndexFunc___api_Visit_api_Visit__before_1_ok h0),bF h1,cC (sequence_has_ok h2),rp 7 (bF h3)]
theorem sequence_Check_1_ok {v c} {rv:Bool} (h:sequence_Check_1 v c = some rv):AFn Tryz.prog 82 [.agg (T_api_Visit.enc v),.one (.ip (T_api_Instance.enc c) 0)] [] (one (.bool rv)) []:=by
 refine afn_of Tryz.func82 (by kernel_rfl) (by kernel_rfl) (fun Γ=>?_)
 unfold sequence_Check_1 at h
 obtain rfl:=Option.some.inj h
 exact gr 4 [] [rp 5 hP,rp 3 (oI ((ltI v.order 0) = false)),nL T_api_Order.enc c.orders,hP,hP,rp 2 (oI ((ltI v.order 0) = false)),oR True ((ltI v.order 0) = false)]
def slices_IndexFunc___api_Visit_api_Visit__Check_1_G (Γ:Gam) (rv:Int) (cf:Cf):Prop:=Go Tryz.prog Tryz.f131 [] Γ (one (lI rv)) [] cf
def slices_IndexFunc___api_Visit_api_Visit__Check_1_L1_C (Γ:Gam) (rv:Int) (s0:List T_api_Visit) (c:T_api_Instance) (v:Int):Prop:=slices_IndexFunc___api_Visit_api_Visit__Check_1_G Γ rv ⟨[.c 52,.l 52,.b 0,.c 7],⟨19,[vL 0 2 s0 T_api_Visit.enc,(1,one (.fn (.func 82) [.ip (T_api_Instance.enc c) 0])),vI 7 (lenI s0),vI 8 v],[]⟩⟩
def slices_IndexFunc___api_Visit_api_Visit__Check_1_L1_D0 (Γ:Gam) (rv:Int) (s0:List T_api_Visit) (c:T_api_Instance):Prop:=slices_IndexFunc___api_Visit_api_Visit__Check_1_G Γ rv ⟨[.c 7],⟨19,[],[]⟩⟩
theorem slices_IndexFunc___api_Visit_api_Visit__Check_1_L1_ok (Γ:Gam) (rv:Int) {s0 c} {s:Int} {e:(Unit) ⊕ (Int)} (h:loopF (fun s=>slices_IndexFunc___api_Visit_api_Visit__Check_1_L1 s0 c s) s = some e) (hD:sel e (fun e=>slices_IndexFunc___api_Visit_api_Visit__Check_1_L1_D0 Γ rv s0 c) (fun e=>e = rv)):slices_IndexFunc___api_Visit_api_Visit__Check_1_L1_C Γ rv s0 c s:=by
 refine loop_ind (C:=fun (s:Int)=>slices_IndexFunc___api_Visit_api_Visit__Check_1_L1_C Γ rv s0 c s) (D:=fun (e:(Unit) ⊕ (Int))=>sel e (fun e=>slices_IndexFunc___api_Visit_api_Visit__Check_1_L1_D0 Γ rv s0 c) (fun e=>e = rv)) ?_ h hD
 clear h hD s e
 intro v z_ h hI hE
 replace h:slices_IndexFunc___api_Visit_api_Visit__Check_1_L1 s0 c v = _:=h
 unfold slices_IndexFunc___api_Visit_api_Visit__Check_1_L1 at h
 rcases br_elim h with ⟨h0,h⟩|⟨h0,h⟩
 ·obtain ⟨x0,h1,h⟩:=bnd_elim h
  obtain ⟨r,h2,h⟩:=bnd_elim h
  rcases br_elim h with ⟨h3,h⟩|⟨h3,h⟩
  ·obtain rfl:=(hE _ (oJ h):_ = rv)
   exact gr 14 [] [bT h0,cE T_api_Visit.enc h1,cC (sequence_Check_1_ok h2),bT h3]
  ·exact gn 16 [0,1,7,8] [] [bT h0,cE T_api_Visit.enc h1,cC (sequence_Check_1_ok h2),bF h3] (hI _ (oJ h))
 ·exact gn 5 [] [] [bF h0] (hE _ (oJ h))
theorem slices_IndexFunc___api_Visit_api_Visit__Check_1_ok {s0 c} {rv:Int} (h:slices_IndexFunc___api_Visit_api_Visit__Check_1 s0 c = some rv):AFn Tryz.prog 131 [.one (lL 2 s0 T_api_Visit.enc),.one (.fn (.func 82) [.ip (T_api_Instance.enc c) 0])] [] (one (lI rv)) []:=by
 refine afn_of Tryz.func131 (by kernel_rfl) (by kernel_rfl) (fun Γ=>?_)
 unfold slices_IndexFunc___api_Visit_api_Visit__Check_1 at h
 obtain ⟨e0,h4,h⟩:=bnd_elim h
 refine gn 7 [0,1,7,8] [] [nL T_api_Visit.enc s0] (slices_IndexFunc___api_Visit_api_Visit__Check_1_L1_ok Γ rv h4 ?_)
 rcases e0 with e0|e0
 ·replace h:(some (-1):Option Int) = some _:=h
  obtain rfl:=Option.some.inj h
  exact gr 2 [] []
 ·obtain ⟨r1,rfl⟩:∃ x,x = e0:=⟨_,rfl⟩
  replace h:(some r1:Option Int) = some _:=h
  exact Option.some.inj h
theorem slices_ContainsFunc___api_Visit_api_Visit__Check_1_ok {s0 c} {rv:Bool} (h:slices_ContainsFunc___api_Visit_api_Visit__Check_1 s0 c = some rv):AFn Tryz.prog 81 [.one (lL 2 s0 T_api_Visit.enc),.one (.fn (.func 82) [.ip (T_api_Instance.enc c) 0])] [] (one (.bool rv)) []:=by
 refine afn_of Tryz.func81 (by kernel_rfl) (by kernel_rfl) (fun Γ=>?_)
 unfold slices_ContainsFunc___api_Visit_api_Visit__Check_1 at h
 obtain ⟨r,h0,h⟩:=bnd_elim h
 obtain rfl:=Option.some.inj h
 exact gr 4 [] [cC (slices_IndexFunc___api_Visit_api_Visit__Check_1_ok h0)]
theorem sequence_Check_2_ok {v c} {rv:Bool} (h:sequence_Check_2 v c = some rv):AFn Tryz.prog 83 [.agg (T_api_Visit.enc v),.one (.ip (T_api_Instance.enc c) 0)] [] (one (.bool rv)) []:=by
 refine afn_of Tryz.func83 (by kernel_rfl) (by kernel_rfl) (fun Γ=>?_)
 unfold sequence_Check_2 at h
 obtain ⟨x0,h0,h⟩:=bnd_elim h
 obtain rfl:=Option.some.inj h
 exact gr 4 [] [cE T_api_Order.enc h0]
def slices_IndexFunc___api_Visit_api_Visit__Check_2_G (Γ:Gam) (rv:Int) (cf:Cf):Prop:=Go Tryz.prog Tryz.f131 [] Γ (one (lI rv)) [] cf
def slices_IndexFunc___api_Visit_api_Visit__Check_2_L1_C (Γ:Gam) (rv:Int) (s0:List T_api_Visit) (c:T_api_Instance) (v:Int):Prop:=slices_IndexFunc___api_Visit_api_Visit__Check_2_G Γ rv ⟨[.c 52,.l 52,.b 0,.c 7],⟨19,[vL 0 2 s0 T_api_Visit.enc,(1,one (.fn (.func 83) [.ip (T_api_Instance.enc c) 0])),vI 7 (lenI s0),vI 8 v],[]⟩⟩
def slices_IndexFunc___api_Visit_api_Visit__Check_2_L1_D0 (Γ:Gam) (rv:Int) (s0:List T_api_Visit) (c:T_api_Instance):Prop:=slices_IndexFunc___api_Visit_api_Visit__Check_2_G Γ rv ⟨[.c 7],⟨19,[],[]⟩⟩
theorem slices_IndexFunc___api_Visit_api_Visit__Check_2_L1_ok (Γ:Gam) (rv:Int) {s0 c} {s:Int} {e:(Unit) ⊕ (Int)} (h:loopF (fun s=>slices_IndexFunc___api_Visit_api_Visit__Check_2_L1 s0 c s) s = some e) (hD:sel e (fun e=>slices_IndexFunc___api_Visit_api_Visit__Check_2_L1_D0 Γ rv s0 c) (fun e=>e = rv)):slices_IndexFunc___api_Visit_api_Visit__Check_2_L1_C Γ rv s0 c s:=by
 refine loop_ind (C:=fun (s:Int)=>slices_IndexFunc___api_Visit_api_Visit__Check_2_L1_C Γ rv s0 c s) (D:=fun (e:(Unit) ⊕ (Int))=>sel e (fun e=>slices_IndexFunc___api_Visit_api_Visit__Check_2_L1_D0 Γ rv s0 c) (fun e=>e = rv)) ?_ h hD
 clear h hD s e
 intro v z_ h hI hE
 replace h:slices_IndexFunc___api_Visit_api_Visit__Check_2_L1 s0 c v = _:=h
 unfold slices_IndexFunc___api_Visit_api_Visit__Check_2_L1 at h
 rcases br_elim h with ⟨h0,h⟩|⟨h0,h⟩
 ·obtain ⟨x0,h1,h⟩:=bnd_elim h
  obtain ⟨r,h2,h⟩:=bnd_elim h
  rcases br_elim h with ⟨h3,h⟩|⟨h3,h⟩
  ·obtain rfl:=(hE _ (oJ h):_ = rv)
   exact gr 14 [] [bT h0,cE T_api_Visit.enc h1,cC (sequence_Check_2_ok h2),bT h3]
  ·exact gn 16 [0,1,7,8] [] [bT h0,cE T_api_Visit.enc h1,cC (sequence_Check_2_ok h2),bF h3] (hI _ (oJ h))
 ·exact gn 5 [] [] [bF h0] (hE _ (oJ h))
theorem slices_IndexFunc___api_Visit_api_Visit__Check_2_ok {s0 c} {rv:Int} (h:slices_IndexFunc___api_Visit_api_Visit__Check_2 s0 c = some rv):AFn Tryz.prog 131 [.one (lL 2 s0 T_api_Visit.enc),.one (.fn (.func 83) [.ip (T_api_Instance.enc c) 0])] [] (one (lI rv)) []:=by
 refine afn_of Tryz.func131 (by kernel_rfl) (by kernel_rfl) (fun Γ=>?_)
 unfold slices_IndexFunc___api_Visit_api_Visit__Check_2 at h
 obtain ⟨e0,h4,h⟩:=bnd_elim h
 refine gn 7 [0,1,7,8] [] [nL T_api_Visit.enc s0] (slices_IndexFunc___api_Visit_api_Visit__Check_2_L1_ok Γ rv h4 ?_)
 rcases e0 with e0|e0
 ·replace h:(some (-1):Option Int) = some _:=h
  obtain rfl:=Option.some.inj h
  exact gr 2 [] []
 ·obtain ⟨r1,rfl⟩:∃ x,x = e0:=⟨_,rfl⟩
  replace h:(some r1:Option Int) = some _:=h
  exact Option.some.inj h
theorem slices_ContainsFunc___api_Visit_api_Visit__Check_2_ok {s0 c} {rv:Bool} (h:slices_ContainsFunc___api_Visit_api_Visit__Check_2 s0 c = some rv):AFn Tryz.prog 81 [.one (lL 2 s0 T_api_Visit.enc),.one (.fn (.func 83) [.ip (T_api_Instance.enc c) 0])] [] (one (.bool rv)) []:=by
 refine afn_of Tryz.func81 (by kernel_rfl) (by kernel_rfl) (fun Γ=>?_)
 unfold slices_ContainsFunc___api_Visit_api_Visit__Check_2 at h
 obtain ⟨r,h0,h⟩:=bnd_elim h
 obtain rfl:=Option.some.inj h
 exact gr 4 [] [cC (slices_IndexFunc___api_Visit_api_Visit__Check_2_ok h0)]
def sequence_Check_G (Γ:Gam) (rv:Int) (cf:Cf):Prop:=Go Tryz.prog Tryz.f43 [] Γ (one (lI rv)) [] cf
def sequence_Check_L1_C (Γ:Gam) (rv:Int) (x0:T_api_Instance) (r:T_api_Route) (v:Int):Prop:=sequence_Check_G Γ rv ⟨[.c 500,.l 500,.b 1,.c 63],⟨65,[vP 2 0 6,vL 5 2 r.visits T_api_Visit.enc,vL 33 2 x0.apart A2_Int.enc,vI 34 (lenI x0.apart),vI 35 v],[oX 6 30 (T_api_Instance.enc x0)]⟩⟩
def sequence_Check_L1_D0 (Γ:Gam) (rv:Int) (x0:T_api_Instance) (r:T_api_Route):Prop:=sequence_Check_G Γ rv ⟨[.c 63],⟨65,[vP 2 0 6,vL 5 2 r.visits T_api_Visit.enc],[oX 6 30 (T_api_Instance.enc x0)]⟩⟩
def sequence_Check_L2_C (Γ:Gam) (rv:Int) (x0:T_api_Instance) (r:T_api_Route) (v1:Int):Prop:=sequence_Check_G Γ rv ⟨[.c 1012,.l 1012,.b 3,.c 127],⟨65,[vL 5 2 r.visits T_api_Visit.enc,vL 51 2 x0.before A2_Int.enc,vI 52 (lenI x0.before),vI 53 v1],[]⟩⟩
def sequence_Check_L2_D0 (Γ:Gam) (rv:Int) (x0:T_api_Instance) (r:T_api_Route):Prop:=sequence_Check_G Γ rv ⟨[.c 127],⟨65,[],[]⟩⟩
theorem sequence_Check_L1_ok (Γ:Gam) (rv:Int) {x0 r} {s:Int} {e:(Unit) ⊕ (Int)} (h:loopF (fun s=>sequence_Check_L1 x0 r s) s = some e) (hD:sel e (fun e=>sequence_Check_L1_D0 Γ rv x0 r) (fun e=>e = rv)):sequence_Check_L1_C Γ rv x0 r s:=by
 refine loop_ind (C:=fun (s:Int)=>sequence_Check_L1_C Γ rv x0 r s) (D:=fun (e:(Unit) ⊕ (Int))=>sel e (fun e=>sequence_Check_L1_D0 Γ rv x0 r) (fun e=>e = rv)) ?_ h hD
 clear h hD s e
 intro v z_ h hI hE
 replace h:sequence_Check_L1 x0 r v = _:=h
 unfold sequence_Check_L1 at h
 rcases br_elim h with ⟨h9,h⟩|⟨h9,h⟩
 ·obtain ⟨x1,h10,h⟩:=bnd_elim h
  obtain ⟨r5,h11,h⟩:=bnd_elim h
  rcases br_elim h with ⟨h12,h⟩|⟨h12,h⟩
  ·obtain ⟨r6,h13,h⟩:=bnd_elim h
   rcases br_elim h with ⟨h14,h⟩|⟨h14,h⟩
   ·obtain rfl:=(hE _ (oJ h):_ = rv)
    exact gr 14 [] [bT h9,cE A2_Int.enc h10,oO (zL 0),oO (lT 0 2),cC (sequence_has_ok h11),rp 2 (bT h12),oO (zL 1),oO (lT 1 2),rp 2 (bT h12),cC (sequence_has_ok h13),bT h12,bT h14]
   ·exact gn 16 [2,5,33,34,35] [0] [bT h9,cE A2_Int.enc h10,oO (zL 0),oO (lT 0 2),cC (sequence_has_ok h11),rp 2 (bT h12),oO (zL 1),oO (lT 1 2),rp 2 (bT h12),cC (sequence_has_ok h13),bT h12,bF h14] (hI _ (oJ h))
  ·exact gn 16 [2,5,33,34,35] [0] [bT h9,cE A2_Int.enc h10,oO (zL 0),oO (lT 0 2),cC (sequence_has_ok h11),rp 5 (bF h12),fF] (hI _ (oJ h))
 ·exact gn 5 [2,5] [0] [bF h9] (hE _ (oJ h))
theorem sequence_Check_L2_ok (Γ:Gam) (rv:Int) {x0 r} {s:Int} {e:(Unit) ⊕ (Int)} (h:loopF (fun s=>sequence_Check_L2 x0 r s) s = some e) (hD:sel e (fun e=>sequence_Check_L2_D0 Γ rv x0 r) (fun e=>e = rv)):sequence_Check_L2_C Γ rv x0 r s:=by
 refine loop_ind (C:=fun (s:Int)=>sequence_Check_L2_C Γ rv x0 r s) (D:=fun (e:(Unit) ⊕ (Int))=>sel e (fun e=>sequence_Check_L2_D0 Γ rv x0 r) (fun e=>e = rv)) ?_ h hD
 clear h hD s e
 intro v1 z_ h hI hE
 replace h:sequence_Check_L2 x0 r v1 = _:=h
 unfold sequence_Check_L2 at h
 rcases br_elim h with ⟨h16,h⟩|⟨h16,h⟩
 ·obtain ⟨x2,h17,h⟩:=bnd_elim h
  obtain ⟨r7,h18,h⟩:=bnd_elim h
  rcases br_elim h with ⟨h19,h⟩|⟨h19,h⟩
  ·exact gn 16 [5,51,52,53] [] [bT h16,cE A2_Int.enc h17,oO (zL 0),oO (lT 0 2),oO (zL 1),oO (lT 1 2),cC (sequence_before_ok h18),nF h19] (hI _ (oJ h))
  ·obtain rfl:=(hE _ (oJ h):_ = rv)
   exact gr 14 [] [bT h16,cE A2_Int.enc h17,oO (zL 0),oO (lT 0 2),oO (zL 1),oO (lT 1 2),cC (sequence_before_ok h18),nT h19]
 ·exact gn 5 [] [] [bF h16] (hE _ (oJ h))
theorem sequence_Check_ok {x0 r} {rv:Int} (h:sequence_Check x0 r = some rv):AFn Tryz.prog 43 [.agg (T_api_Instance.enc x0),.agg (T_api_Route.enc r)] [] (one (lI rv)) []:=by
 refine afn_of Tryz.func43 (by kernel_rfl) (by kernel_rfl) (fun Γ=>?_)
 unfold sequence_Check at h
 rcases br_elim h with ⟨h0,h⟩|⟨h0,h⟩
 ·obtain rfl:=Option.some.inj h
  exact gr 10 [] [nL T_api_Visit.enc r.visits,rp 4 (bT h0),tT]
 ·obtain ⟨r1,h1,h⟩:=bnd_elim h
  rcases br_elim h with ⟨h2,h⟩|⟨h2,h⟩
  ·obtain rfl:=Option.some.inj h
   exact gr 10 [] [nL T_api_Visit.enc r.visits,rp 3 (bF h0),cC (slices_ContainsFunc___api_Visit_api_Visit__Check_1_ok h1),bF h0,bT h2]
  ·obtain ⟨r2,h3,h⟩:=bnd_elim h
   rcases br_elim h with ⟨h4,h⟩|⟨h4,h⟩
   ·obtain rfl:=Option.some.inj h
    exact gr 16 [] [nL T_api_Visit.enc r.visits,rp 3 (bF h0),cC (slices_ContainsFunc___api_Visit_api_Visit__Check_1_ok h1),bF h0,bF h2,cC (slices_ContainsFunc___api_Visit_api_Visit__Check_2_ok h3),bT h4]
   ·obtain ⟨r3,h5,h⟩:=bnd_elim h
    rcases br_elim h with ⟨h6,h⟩|⟨h6,h⟩
    ·obtain rfl:=Option.some.inj h
     exact gr 19 [] [nL T_api_Visit.enc r.visits,rp 3 (bF h0),cC (slices_ContainsFunc___api_Visit_api_Visit__Check_1_ok h1),bF h0,bF h2,cC (slices_ContainsFunc___api_Visit_api_Visit__Check_2_ok h3),bF h4,cC (sequence_twice_ok h5),bT h6]
    ·obtain ⟨r4,h7,h⟩:=bnd_elim h
     rcases br_elim h with ⟨h8,h⟩|⟨h8,h⟩
     ·obtain ⟨e0,h15,h⟩:=bnd_elim h
      refine gn 27 [2,5,33,34,35] [0] [nL T_api_Visit.enc r.visits,rp 3 (bF h0),cC (slices_ContainsFunc___api_Visit_api_Visit__Check_1_ok h1),bF h0,bF h2,cC (slices_ContainsFunc___api_Visit_api_Visit__Check_2_ok h3),bF h4,cC (sequence_twice_ok h5),bF h6,cC (sequence_paired_ok h7),nF h8,nL A2_Int.enc x0.apart] (sequence_Check_L1_ok Γ rv h15 ?_)
      rcases e0 with e0|e0
      ·replace h:(bnd (loopF (fun s=>sequence_Check_L2 x0 r s) 0) (fun e=>sel e (fun (_:Unit)=>some 0) (fun r8=>some r8)):Option Int) = some _:=h
       obtain ⟨e1,h20,h⟩:=bnd_elim h
       refine gn 5 [5,51,52,53] [] [nL A2_Int.enc x0.before] (sequence_Check_L2_ok Γ rv h20 ?_)
       rcases e1 with e1|e1
       ·replace h:(some 0:Option Int) = some _:=h
        obtain rfl:=Option.some.inj h
        exact gr 2 [] []
       ·obtain ⟨r8,rfl⟩:∃ x,x = e1:=⟨_,rfl⟩
        replace h:(some r8:Option Int) = some _:=h
        exact Option.some.inj h
      ·obtain ⟨r9,rfl⟩:∃ x,x = e0:=⟨_,rfl⟩
       replace h:(some r9:Option Int) = some _:=h
       exact Option.some.inj h
     ·obtain rfl:=Option.some.inj h
      exact gr 22 [] [nL T_api_Visit.enc r.visits,rp 3 (bF h0),cC (slices_ContainsFunc___api_Visit_api_Visit__Check_1_ok h1),bF h0,bF h2,cC (slices_ContainsFunc___api_Visit_api_Visit__Check_2_ok h3),bF h4,cC (sequence_twice_ok h5),bF h6,cC (sequence_paired_ok h7),nT h8]
theorem sets_Has_ok {set_ i} {rv:Bool} (h:sets_Has set_ i = some rv):AFn Tryz.prog 56 [.one (lI set_),.one (lI i)] [] (one (.bool rv)) []:=by
 refine afn_of Tryz.func56 (by kernel_rfl) (by kernel_rfl) (fun Γ=>?_)
 unfold sets_Has at h
 rcases br_elim h with ⟨h0,h⟩|⟨h0,h⟩
 ·obtain ⟨h1,h⟩:=chk_elim h
  obtain rfl:=Option.some.inj h
  exact gr 4 [] [hP,hP,hP,oI ((geI i 0) = true),oR True ((geI i 0) = true),rp 3 (bT h0),oO (h1),rp 3 (bT h0)]
 ·obtain rfl:=Option.some.inj h
  exact gr 4 [] [hP,hP,hP,oI ((geI i 0) = true),oR True ((geI i 0) = true),rp 6 (bF h0)]
def sets_Members_G (Γ:Gam) (rv:List Int) (cf:Cf):Prop:=Go Tryz.prog Tryz.f55 [] Γ (one (lL 1 rv e_i64)) [] cf
def sets_Members_L1_C (Γ:Gam) (rv:List Int) (set_:Int) (l:List Int) (v:Int):Prop:=sets_Members_G Γ rv ⟨[.c 116,.l 116,.b 0,.c 15],⟨17,[vI 0 set_,vO 3 0 1 l e_i64,vI 5 v],[oS 1 3 l e_i64]⟩⟩
def sets_Members_L1_D0 (Γ:Gam) (rv:List Int) (set_:Int) (l1:List Int):Prop:=sets_Members_G Γ rv ⟨[.c 15],⟨17,[vO 3 0 1 l1 e_i64],[oS 1 3 l1 e_i64]⟩⟩
theorem sets_Members_L1_ok (Γ:Gam) (rv:List Int) {set_} {s:List Int × Int} {e:List Int} (h:loopF (fun s=>sets_Members_L1 set_ s.1 s.2) s = some e) (hD:sets_Members_L1_D0 Γ rv set_ e):sets_Members_L1_C Γ rv set_ s.1 s.2:=by
 refine loop_ind (C:=fun (s:List Int × Int)=>sets_Members_L1_C Γ rv set_ s.1 s.2) (D:=fun (e:List Int)=>sets_Members_L1_D0 Γ rv set_ e) ?_ h hD
 clear h hD s e
 rintro ⟨l,v⟩ z_ h hI hE
 replace h:sets_Members_L1 set_ l v = _:=h
 unfold sets_Members_L1 at h
 rcases br_elim h with ⟨h0,h⟩|⟨h0,h⟩
 ·obtain ⟨r,h1,h⟩:=bnd_elim h
  rcases br_elim h with ⟨h2,h⟩|⟨h2,h⟩
  ·obtain ⟨h3,h⟩:=chk_elim h
   exact gn 16 [0,3,5] [2] [bT h0,cC (sets_Has_ok h1),bT h2,oO (Eq.refl ([v].map e_i64).length),aO e_i64 h3] (hI _ (oJ h))
  ·exact gn 16 [0,3,5] [0] [bT h0,cC (sets_Has_ok h1),bF h2] (hI _ (oJ h))
 ·exact gn 5 [3] [0] [bF h0] (hE _ (oJ h))
theorem sets_Members_ok {set_} {rv:List Int} (h:sets_Members set_ = some rv):AFn Tryz.prog 55 [.one (lI set_)] [] (one (lL 1 rv e_i64)) []:=by
 refine afn_of Tryz.func55 (by kernel_rfl) (by kernel_rfl) (fun Γ=>?_)
 unfold sets_Members at h
 obtain ⟨e0,h4,h⟩:=bnd_elim h
 refine gn 9 [0,3,5] [0] [hW 12,hH (.adopt 3 1 3)] (sets_Members_L1_ok Γ rv h4 ?_)
 obtain ⟨l1,rfl⟩:∃ x,x = e0:=⟨_,rfl⟩
 replace h:(some l1:Option (List Int)) = some _:=h
 obtain rfl:=Option.some.inj h
 exact gr 2 [] [hW 4,hH (.frz 0),rp 3 (eL l1 e_i64)]
theorem loads_plus_ok {a b} {rv:Int} (h:loads_plus a b = some rv):AFn Tryz.prog 146 [.one (lI a),.one (lI b)] [] (one (lI rv)) []:=by
 refine afn_of Tryz.func146 (by kernel_rfl) (by kernel_rfl) (fun Γ=>?_)
 unfold loads_plus at h
 obtain rfl:=Option.some.inj h
 exact gr 4 [] []
def loads_combine_plus_G (Γ:Gam) (rv:List Int × Int) (cf:Cf):Prop:=Go Tryz.prog Tryz.f145 [] Γ (.tup [.one (lL 1 rv.1 e_i64),.one (lI rv.2)]) [] cf
def loads_combine_plus_L1_C (Γ:Gam) (rv:List Int × Int) (a:List Int) (b:List Int) (l:List Int) (l1:List Int) (v:Int):Prop:=loads_combine_plus_G Γ rv ⟨[.c 244,.l 244,.b 0,.c 31],⟨38,[vL 0 1 a e_i64,vL 1 1 b e_i64,(2,one (.fn (.func 146) [])),vO 8 0 1 l1 e_i64,vI 19 (lenI a),vI 20 v],[oS 1 3 l1 e_i64]⟩⟩
def loads_combine_plus_L1_D0 (Γ:Gam) (rv:List Int × Int) (a:List Int) (b:List Int) (l:List Int) (l2:List Int):Prop:=loads_combine_plus_G Γ rv ⟨[.c 31],⟨38,[vO 8 0 1 l2 e_i64],[oS 1 3 l2 e_i64]⟩⟩
theorem loads_combine_plus_L1_ok (Γ:Gam) (rv:List Int × Int) {a b l} {s:List Int × Int} {e:List Int} (h:loopF (fun s=>loads_combine_plus_L1 a b l s.1 s.2) s = some e) (hD:loads_combine_plus_L1_D0 Γ rv a b l e):loads_combine_plus_L1_C Γ rv a b l s.1 s.2:=by
 refine loop_ind (C:=fun (s:List Int × Int)=>loads_combine_plus_L1_C Γ rv a b l s.1 s.2) (D:=fun (e:List Int)=>loads_combine_plus_L1_D0 Γ rv a b l e) ?_ h hD
 clear h hD s e
 rintro ⟨l1,v⟩ z_ h hI hE
 replace h:loads_combine_plus_L1 a b l l1 v = _:=h
 unfold loads_combine_plus_L1 at h
 rcases br_elim h with ⟨h2,h⟩|⟨h2,h⟩
 ·obtain ⟨x0,h3,h⟩:=bnd_elim h
  obtain ⟨x1,h4,h⟩:=bnd_elim h
  obtain ⟨r,h5,h⟩:=bnd_elim h
  obtain ⟨x2,h6,h⟩:=bnd_elim h
  exact gn 13 [0,1,2,8,19,20] [0] [bT h2,hH (.draw 13 []),cE e_i64 h3,cE e_i64 h4,cC (loads_plus_ok h5),oO (getLo h6),oO (getHi e_i64 h6),rE e_i64 h6,hH (.rows ((setI l1 v r).map e_i64)),hH (.relen 0 ((setI l1 v r).map e_i64).length),oO (setM e_i64 l1 v r),rp 2 (oO (lenSet e_i64 l1 v r))] (hI _ (oJ h))
 ·exact gn 5 [8] [0] [bF h2] (hE _ (oJ h))
theorem loads_combine_plus_ok {a b} {rv:List Int × Int} (h:loads_combine_plus a b = some rv):AFn Tryz.prog 145 [.one (lL 1 a e_i64),.one (lL 1 b e_i64),.one (.fn (.func 146) [])] [] (.tup [.one (lL 1 rv.1 e_i64),.one (lI rv.2)]) []:=by
 refine afn_of Tryz.func145 (by kernel_rfl) (by kernel_rfl) (fun Γ=>?_)
 unfold loads_combine_plus at h
 rcases br_elim h with ⟨h0,h⟩|⟨h0,h⟩
 ·obtain rfl:=Option.some.inj h
  exact gr 8 [] [nL e_i64 a,nL e_i64 b,bT h0,hW 4,hH (.nilS 6 0 1)]
 ·obtain ⟨l,h1,h⟩:=bnd_elim h
  obtain ⟨e0,h7,h⟩:=bnd_elim h
  refine gn 14 [0,1,2,8,19,20] [0] [nL e_i64 a,nL e_i64 b,bF h0,nL e_i64 a,hH (.cells [lI 0]),hH (.rows (l.map e_i64)),oO (mk1 h1),oO (mk2 h1),oO (mk3 h1),oO (mk4 h1),oO (mk5 e_i64 h1),nL e_i64 a] (loads_combine_plus_L1_ok Γ rv h7 ?_)
  obtain ⟨l2,rfl⟩:∃ x,x = e0:=⟨_,rfl⟩
  replace h:(some (l2,0):Option (List Int × Int)) = some _:=h
  obtain rfl:=Option.some.inj h
  exact gr 2 [] [hW 5,hH (.frz 0),rp 3 (eL l2 e_i64)]
theorem loads_Add_ok {a b} {rv:List Int × Int} (h:loads_Add a b = some rv):AFn Tryz.prog 106 [.one (lL 1 a e_i64),.one (lL 1 b e_i64)] [] (.tup [.one (lL 1 rv.1 e_i64),.one (lI rv.2)]) []:=by
 refine afn_of Tryz.func106 (by kernel_rfl) (by kernel_rfl) (fun Γ=>?_)
 unfold loads_Add at h
 obtain ⟨r,h0,h⟩:=bnd_elim h
 obtain rfl:=Option.some.inj h
 exact gr 4 [] [cC (loads_combine_plus_ok h0)]
def carry_start_G (Γ:Gam) (rv:List Int) (cf:Cf):Prop:=Go Tryz.prog Tryz.f104 [] Γ (one (lL 1 rv e_i64)) [] cf
def carry_start_L1_C (Γ:Gam) (rv:List Int) (x0:T_api_Instance) (l:List Int) (r:List Int) (sum:List Int) (v:Int):Prop:=carry_start_G Γ rv ⟨[.c 116,.l 116,.b 0,.c 15],⟨40,[vP 3 0 6,vL 7 1 sum e_i64,vL 13 1 r e_i64,vI 14 (lenI r),vI 15 v],[oX 6 30 (T_api_Instance.enc x0)]⟩⟩
def carry_start_L1_D0 (Γ:Gam) (rv:List Int) (x0:T_api_Instance) (l:List Int) (r:List Int) (sum1:List Int):Prop:=carry_start_G Γ rv ⟨[.c 15],⟨40,[vL 7 1 sum1 e_i64],[]⟩⟩
theorem carry_start_L1_ok (Γ:Gam) (rv:List Int) {x0 l r} {s:List Int × Int} {e:List Int} (h:loopF (fun s=>carry_start_L1 x0 l r s.1 s.2) s = some e) (hD:carry_start_L1_D0 Γ rv x0 l r e):carry_start_L1_C Γ rv x0 l r s.1 s.2:=by
 refine loop_ind (C:=fun (s:List Int × Int)=>carry_start_L1_C Γ rv x0 l r s.1 s.2) (D:=fun (e:List Int)=>carry_start_L1_D0 Γ rv x0 l r e) ?_ h hD
 clear h hD s e
 rintro ⟨sum,v⟩ z_ h hI hE
 replace h:carry_start_L1 x0 l r sum v = _:=h
 unfold carry_start_L1 at h
 rcases br_elim h with ⟨h2,h⟩|⟨h2,h⟩
 ·obtain ⟨x1,h3,h⟩:=bnd_elim h
  obtain ⟨x2,h4,h⟩:=bnd_elim h
  rcases br_elim h with ⟨h5,h⟩|⟨h5,h⟩
  ·obtain ⟨r1,h6,h⟩:=bnd_elim h
   exact gn 16 [3,7,13,14,15] [0] [bT h2,cE e_i64 h3,cE T_api_Order.enc h4,bT h5,cE T_api_Order.enc h4,cC (loads_Add_ok h6)] (hI _ (oJ h))
  ·exact gn 16 [3,7,13,14,15] [0] [bT h2,cE e_i64 h3,cE T_api_Order.enc h4,bF h5] (hI _ (oJ h))
 ·exact gn 5 [7] [] [bF h2] (hE _ (oJ h))
theorem carry_start_ok {x0 set_ dims} {rv:List Int} (h:carry_start x0 set_ dims = some rv):AFn Tryz.prog 104 [.agg (T_api_Instance.enc x0),.one (lI set_),.one (lI dims)] [] (one (lL 1 rv e_i64)) []:=by
 refine afn_of Tryz.func104 (by kernel_rfl) (by kernel_rfl) (fun Γ=>?_)
 unfold carry_start at h
 obtain ⟨l,h0,h⟩:=bnd_elim h
 obtain ⟨r,h1,h⟩:=bnd_elim h
 obtain ⟨e0,h7,h⟩:=bnd_elim h
 refine gn 9 [3,7,13,14,15] [0] [hH (.cells [lI 0]),hH (.rows (l.map e_i64)),oO (mk1 h0),oO (mk2 h0),oO (mk3 h0),oO (mk4 h0),oO (mk5 e_i64 h0),cC (sets_Members_ok h1),nL e_i64 r,hW 3,hH (.frz 1),rp 2 (eL l e_i64)] (carry_start_L1_ok Γ rv h7 ?_)
 obtain ⟨sum1,rfl⟩:∃ x,x = e0:=⟨_,rfl⟩
 replace h:(some sum1:Option (List Int)) = some _:=h
 obtain rfl:=Option.some.inj h
 exact gr 2 [] []
theorem fleet_Dims_ok {l} {rv:Int} (h:fleet_Dims l = some rv):AFn Tryz.prog 105 [.one (lL 14 l T_api_Type.enc)] [] (one (lI rv)) []:=by
 refine afn_of Tryz.func105 (by kernel_rfl) (by kernel_rfl) (fun Γ=>?_)
 unfold fleet_Dims at h
 rcases br_elim h with ⟨h0,h⟩|⟨h0,h⟩
 ·obtain rfl:=Option.some.inj h
  exact gr 8 [] [nL T_api_Type.enc l,bT h0]
 ·obtain ⟨x0,h1,h⟩:=bnd_elim h
  obtain rfl:=Option.some.inj h
  exact gr 9 [] [nL T_api_Type.enc l,bF h0,cE T_api_Type.enc h1,nL e_i64 x0.cap]
theorem loads_minus_ok {a b} {rv:Int} (h:loads_minus a b = some rv):AFn Tryz.prog 147 [.one (lI a),.one (lI b)] [] (one (lI rv)) []:=by
 refine afn_of Tryz.func147 (by kernel_rfl) (by kernel_rfl) (fun Γ=>?_)
 unfold loads_minus at h
 obtain rfl:=Option.some.inj h
 exact gr 4 [] []
def loads_combine_minus_G (Γ:Gam) (rv:List Int × Int) (cf:Cf):Prop:=Go Tryz.prog Tryz.f145 [] Γ (.tup [.one (lL 1 rv.1 e_i64),.one (lI rv.2)]) [] cf
def loads_combine_minus_L1_C (Γ:Gam) (rv:List Int × Int) (a:List Int) (b:List Int) (l:List Int) (l1:List Int) (v:Int):Prop:=loads_combine_minus_G Γ rv ⟨[.c 244,.l 244,.b 0,.c 31],⟨38,[vL 0 1 a e_i64,vL 1 1 b e_i64,(2,one (.fn (.func 147) [])),vO 8 0 1 l1 e_i64,vI 19 (lenI a),vI 20 v],[oS 1 3 l1 e_i64]⟩⟩
def loads_combine_minus_L1_D0 (Γ:Gam) (rv:List Int × Int) (a:List Int) (b:List Int) (l:List Int) (l2:List Int):Prop:=loads_combine_minus_G Γ rv ⟨[.c 31],⟨38,[vO 8 0 1 l2 e_i64],[oS 1 3 l2 e_i64]⟩⟩
theorem loads_combine_minus_L1_ok (Γ:Gam) (rv:List Int × Int) {a b l} {s:List Int × Int} {e:List Int} (h:loopF (fun s=>loads_combine_minus_L1 a b l s.1 s.2) s = some e) (hD:loads_combine_minus_L1_D0 Γ rv a b l e):loads_combine_minus_L1_C Γ rv a b l s.1 s.2:=by
 refine loop_ind (C:=fun (s:List Int × Int)=>loads_combine_minus_L1_C Γ rv a b l s.1 s.2) (D:=fun (e:List Int)=>loads_combine_minus_L1_D0 Γ rv a b l e) ?_ h hD
 clear h hD s e
 rintro ⟨l1,v⟩ z_ h hI hE
 replace h:loads_combine_minus_L1 a b l l1 v = _:=h
 unfold loads_combine_minus_L1 at h
 rcases br_elim h with ⟨h2,h⟩|⟨h2,h⟩
 ·obtain ⟨x0,h3,h⟩:=bnd_elim h
  obtain ⟨x1,h4,h⟩:=bnd_elim h
  obtain ⟨r,h5,h⟩:=bnd_elim h
  obtain ⟨x2,h6,h⟩:=bnd_elim h
  exact gn 13 [0,1,2,8,19,20] [0] [bT h2,hH (.draw 13 []),cE e_i64 h3,cE e_i64 h4,cC (loads_minus_ok h5),oO (getLo h6),oO (getHi e_i64 h6),rE e_i64 h6,hH (.rows ((setI l1 v r).map e_i64)),hH (.relen 0 ((setI l1 v r).map e_i64).length),oO (setM e_i64 l1 v r),rp 2 (oO (lenSet e_i64 l1 v r))] (hI _ (oJ h))
 ·exact gn 5 [8] [0] [bF h2] (hE _ (oJ h))
theorem loads_combine_minus_ok {a b} {rv:List Int × Int} (h:loads_combine_minus a b = some rv):AFn Tryz.prog 145 [.one (lL 1 a e_i64),.one (lL 1 b e_i64),.one (.fn (.func 147) [])] [] (.tup [.one (lL 1 rv.1 e_i64),.one (lI rv.2)]) []:=by
 refine afn_of Tryz.func145 (by kernel_rfl) (by kernel_rfl) (fun Γ=>?_)
 unfold loads_combine_minus at h
 rcases br_elim h with ⟨h0,h⟩|⟨h0,h⟩
 ·obtain rfl:=Option.some.inj h
  exact gr 8 [] [nL e_i64 a,nL e_i64 b,bT h0,hW 4,hH (.nilS 6 0 1)]
 ·obtain ⟨l,h1,h⟩:=bnd_elim h
  obtain ⟨e0,h7,h⟩:=bnd_elim h
  refine gn 14 [0,1,2,8,19,20] [0] [nL e_i64 a,nL e_i64 b,bF h0,nL e_i64 a,hH (.cells [lI 0]),hH (.rows (l.map e_i64)),oO (mk1 h1),oO (mk2 h1),oO (mk3 h1),oO (mk4 h1),oO (mk5 e_i64 h1),nL e_i64 a] (loads_combine_minus_L1_ok Γ rv h7 ?_)
  obtain ⟨l2,rfl⟩:∃ x,x = e0:=⟨_,rfl⟩
  replace h:(some (l2,0):Option (List Int × Int)) = some _:=h
  obtain rfl:=Option.some.inj h
  exact gr 2 [] [hW 5,hH (.frz 0),rp 3 (eL l2 e_i64)]
theorem loads_Sub_ok {a b} {rv:List Int × Int} (h:loads_Sub a b = some rv):AFn Tryz.prog 107 [.one (lL 1 a e_i64),.one (lL 1 b e_i64)] [] (.tup [.one (lL 1 rv.1 e_i64),.one (lI rv.2)]) []:=by
 refine afn_of Tryz.func107 (by kernel_rfl) (by kernel_rfl) (fun Γ=>?_)
 unfold loads_Sub at h
 obtain ⟨r,h0,h⟩:=bnd_elim h
 obtain rfl:=Option.some.inj h
 exact gr 4 [] [cC (loads_combine_minus_ok h0)]
def carry_Loads_G (Γ:Gam) (rv:List (List Int) × Int) (cf:Cf):Prop:=Go Tryz.prog Tryz.f58 [] Γ (.tup [.one (lL 1 rv.1 es_e_i64),.one (lI rv.2)]) [] cf
def carry_Loads_L1_C (Γ:Gam) (rv:List (List Int) × Int) (x0:T_api_Instance) (r:T_api_Route) (l:List (List Int)) (now:List Int) (v:Int):Prop:=carry_Loads_G Γ rv ⟨[.c 2036,.l 2036,.b 0,.c 255],⟨67,[vP 2 0 6,vL 9 1 now e_i64,vO 10 1 1 l es_e_i64,vL 37 2 r.visits T_api_Visit.enc,vI 38 (lenI r.visits),vI 39 v],[oX 6 30 (T_api_Instance.enc x0),oS 1 42 l es_e_i64]⟩⟩
def carry_Loads_L1_D0 (Γ:Gam) (rv:List (List Int) × Int) (x0:T_api_Instance) (r:T_api_Route) (l1:List (List Int)):Prop:=carry_Loads_G Γ rv ⟨[.c 255],⟨67,[vO 10 0 1 l1 es_e_i64],[oS 1 42 l1 es_e_i64]⟩⟩
theorem carry_Loads_L1_ok (Γ:Gam) (rv:List (List Int) × Int) {x0 r} {s:List (List Int) × List Int × Int} {e:(List (List Int)) ⊕ (List (List Int) × Int)} (h:loopF (fun s=>carry_Loads_L1 x0 r s.1 s.2.1 s.2.2) s = some e) (hD:sel e (fun e=>carry_Loads_L1_D0 Γ rv x0 r e) (fun e=>e = rv)):carry_Loads_L1_C Γ rv x0 r s.1 s.2.1 s.2.2:=by
 refine loop_ind (C:=fun (s:List (List Int) × List Int × Int)=>carry_Loads_L1_C Γ rv x0 r s.1 s.2.1 s.2.2) (D:=fun (e:(List (List Int)) ⊕ (List (List Int) × Int))=>sel e (fun e=>carry_Loads_L1_D0 Γ rv x0 r e) (fun e=>e = rv)) ?_ h hD
 clear h hD s e
 rintro ⟨l,now,v⟩ z_ h hI hE
 replace h:carry_Loads_L1 x0 r l now v = _:=h
 unfold carry_Loads_L1 at h
 rcases br_elim h with ⟨h6,h⟩|⟨h6,h⟩
 ·obtain ⟨x1,h7,h⟩:=bnd_elim h
  rcases br_elim h with ⟨h8,h⟩|⟨h8,h⟩
  ·obtain ⟨x2,h9,h⟩:=bnd_elim h
   obtain ⟨r5,h10,h⟩:=bnd_elim h
   rcases br_elim h with ⟨h11,h⟩|⟨h11,h⟩
   ·obtain rfl:=(hE _ (oJ h):_ = rv)
    exact gr 24 [] [bT h6,cE T_api_Visit.enc h7,bT h8,cE T_api_Order.enc h9,cC (loads_Sub_ok h10),bT h11,hW 5,hH (.nilS 4 0 1)]
   ·obtain ⟨h12,h⟩:=chk_elim h
    exact gn 27 [2,9,10,37,38,39] [0,4] [bT h6,cE T_api_Visit.enc h7,bT h8,cE T_api_Order.enc h9,cC (loads_Sub_ok h10),bF h11,oO (Eq.refl ([r5.1].map es_e_i64).length),aO es_e_i64 h12] (hI _ (oJ h))
  ·obtain ⟨x3,h13,h⟩:=bnd_elim h
   obtain ⟨r6,h14,h⟩:=bnd_elim h
   rcases br_elim h with ⟨h15,h⟩|⟨h15,h⟩
   ·obtain rfl:=(hE _ (oJ h):_ = rv)
    exact gr 24 [] [bT h6,cE T_api_Visit.enc h7,bF h8,cE T_api_Order.enc h13,cC (loads_Add_ok h14),bT h15,hW 5,hH (.nilS 4 0 1)]
   ·obtain ⟨h16,h⟩:=chk_elim h
    exact gn 27 [2,9,10,37,38,39] [0,4] [bT h6,cE T_api_Visit.enc h7,bF h8,cE T_api_Order.enc h13,cC (loads_Add_ok h14),bF h15,oO (Eq.refl ([r6.1].map es_e_i64).length),aO es_e_i64 h16] (hI _ (oJ h))
 ·exact gn 5 [10] [1] [bF h6] (hE _ (oJ h))
theorem carry_Loads_ok {x0 r} {rv:List (List Int) × Int} (h:carry_Loads x0 r = some rv):AFn Tryz.prog 58 [.agg (T_api_Instance.enc x0),.agg (T_api_Route.enc r)] [] (.tup [.one (lL 1 rv.1 es_e_i64),.one (lI rv.2)]) []:=by
 refine afn_of Tryz.func58 (by kernel_rfl) (by kernel_rfl) (fun Γ=>?_)
 unfold carry_Loads at h
 obtain ⟨r1,h0,h⟩:=bnd_elim h
 rcases br_elim h with ⟨h1,h⟩|⟨h1,h⟩
 ·obtain rfl:=Option.some.inj h
  exact gr 10 [] [cC (sequence_Check_ok h0),bT h1,hW 5,hH (.nilS 4 0 1)]
 ·obtain ⟨r2,h2,h⟩:=bnd_elim h
  rcases br_elim h with ⟨h3,h⟩|⟨h3,h⟩
  ·obtain rfl:=Option.some.inj h
   exact gr 17 [] [cC (sequence_Check_ok h0),bF h1,cC (sequence_Orders_ok h2),bT h3,hW 5,hH (.nilS 4 0 1)]
  ·obtain ⟨r3,h4,h⟩:=bnd_elim h
   obtain ⟨r4,h5,h⟩:=bnd_elim h
   obtain ⟨e0,h17,h⟩:=bnd_elim h
   refine gn 25 [2,9,10,37,38,39] [0,2] [cC (sequence_Check_ok h0),bF h1,cC (sequence_Orders_ok h2),bF h3,hH (.draw 7 []),cC (fleet_Dims_ok h4),cC (carry_start_ok h5),nL T_api_Visit.enc r.visits] (carry_Loads_L1_ok Γ rv h17 ?_)
   rcases e0 with e0|e0
   ·obtain ⟨l1,rfl⟩:∃ x,x = e0:=⟨_,rfl⟩
    replace h:(some (l1,0):Option (List (List Int) × Int)) = some _:=h
    obtain rfl:=Option.some.inj h
    exact gr 2 [] [hW 5,hH (.frz 0),rp 3 (eL l1 es_e_i64)]
   ·obtain ⟨r7,rfl⟩:∃ x,x = e0:=⟨_,rfl⟩
    replace h:(some r7:Option (List (List Int) × Int)) = some _:=h
    exact Option.some.inj h
def loads_Fits_G (Γ:Gam) (rv:Bool) (cf:Cf):Prop:=Go Tryz.prog Tryz.f61 [] Γ (one (.bool rv)) [] cf
def loads_Fits_L1_C (Γ:Gam) (rv:Bool) (a:List Int) (capacity:List Int) (v:Int):Prop:=loads_Fits_G Γ rv ⟨[.c 116,.l 116,.b 0,.c 15],⟨26,[vL 1 1 capacity e_i64,vL 12 1 a e_i64,vI 13 (lenI a),vI 14 v],[]⟩⟩
def loads_Fits_L1_D0 (Γ:Gam) (rv:Bool) (a:List Int) (capacity:List Int):Prop:=loads_Fits_G Γ rv ⟨[.c 15],⟨26,[],[]⟩⟩
theorem loads_Fits_L1_ok (Γ:Gam) (rv:Bool) {a capacity} {s:Int} {e:(Unit) ⊕ (Bool)} (h:loopF (fun s=>loads_Fits_L1 a capacity s) s = some e) (hD:sel e (fun e=>loads_Fits_L1_D0 Γ rv a capacity) (fun e=>e = rv)):loads_Fits_L1_C Γ rv a capacity s:=by
 refine loop_ind (C:=fun (s:Int)=>loads_Fits_L1_C Γ rv a capacity s) (D:=fun (e:(Unit) ⊕ (Bool))=>sel e (fun e=>loads_Fits_L1_D0 Γ rv a capacity) (fun e=>e = rv)) ?_ h hD
 clear h hD s e
 intro v z_ h hI hE
 replace h:loads_Fits_L1 a capacity v = _:=h
 unfold loads_Fits_L1 at h
 rcases br_elim h with ⟨h1,h⟩|⟨h1,h⟩
 ·obtain ⟨x0,h2,h⟩:=bnd_elim h
  obtain ⟨x1,h3,h⟩:=bnd_elim h
  rcases br_elim h with ⟨h4,h⟩|⟨h4,h⟩
  ·obtain rfl:=(hE _ (oJ h):_ = rv)
   exact gr 14 [] [bT h1,cE e_i64 h2,cE e_i64 h3,bT h4]
  ·exact gn 16 [1,12,13,14] [] [bT h1,cE e_i64 h2,cE e_i64 h3,bF h4] (hI _ (oJ h))
 ·exact gn 5 [] [] [bF h1] (hE _ (oJ h))
theorem loads_Fits_ok {a capacity} {rv:Bool} (h:loads_Fits a capacity = some rv):AFn Tryz.prog 61 [.one (lL 1 a e_i64),.one (lL 1 capacity e_i64)] [] (one (.bool rv)) []:=by
 refine afn_of Tryz.func61 (by kernel_rfl) (by kernel_rfl) (fun Γ=>?_)
 unfold loads_Fits at h
 rcases br_elim h with ⟨h0,h⟩|⟨h0,h⟩
 ·obtain rfl:=Option.some.inj h
  exact gr 8 [] [nL e_i64 a,nL e_i64 capacity,bT h0]
 ·obtain ⟨e0,h5,h⟩:=bnd_elim h
  refine gn 12 [1,12,13,14] [] [nL e_i64 a,nL e_i64 capacity,bF h0,nL e_i64 a] (loads_Fits_L1_ok Γ rv h5 ?_)
  rcases e0 with e0|e0
  ·replace h:(some true:Option Bool) = some _:=h
   obtain rfl:=Option.some.inj h
   exact gr 2 [] []
  ·obtain ⟨r,rfl⟩:∃ x,x = e0:=⟨_,rfl⟩
   replace h:(some r:Option Bool) = some _:=h
   exact Option.some.inj h
theorem carry_Fits_1_ok {a c c1} {rv:Bool} (h:carry_Fits_1 a c c1 = some rv):AFn Tryz.prog 60 [.one (lL 1 a e_i64),.one (.ip (T_api_Instance.enc c) 0),.one (.ip (T_api_Route.enc c1) 0)] [] (one (.bool rv)) []:=by
 refine afn_of Tryz.func60 (by kernel_rfl) (by kernel_rfl) (fun Γ=>?_)
 unfold carry_Fits_1 at h
 obtain ⟨x0,h0,h⟩:=bnd_elim h
 obtain ⟨r,h1,h⟩:=bnd_elim h
 obtain rfl:=Option.some.inj h
 exact gr 4 [] [cE T_api_Type.enc h0,cC (loads_Fits_ok h1)]
def slices_IndexFunc_____int___int__Fits_1_G (Γ:Gam) (rv:Int) (cf:Cf):Prop:=Go Tryz.prog Tryz.f108 [] Γ (one (lI rv)) [] cf
def slices_IndexFunc_____int___int__Fits_1_L1_C (Γ:Gam) (rv:Int) (s0:List (List Int)) (c:T_api_Instance) (c1:T_api_Route) (v:Int):Prop:=slices_IndexFunc_____int___int__Fits_1_G Γ rv ⟨[.c 52,.l 52,.b 0,.c 7],⟨19,[vL 0 1 s0 es_e_i64,(1,one (.fn (.func 60) [.ip (T_api_Instance.enc c) 0,.ip (T_api_Route.enc c1) 0])),vI 7 (lenI s0),vI 8 v],[]⟩⟩
def slices_IndexFunc_____int___int__Fits_1_L1_D0 (Γ:Gam) (rv:Int) (s0:List (List Int)) (c:T_api_Instance) (c1:T_api_Route):Prop:=slices_IndexFunc_____int___int__Fits_1_G Γ rv ⟨[.c 7],⟨19,[],[]⟩⟩
theorem slices_IndexFunc_____int___int__Fits_1_L1_ok (Γ:Gam) (rv:Int) {s0 c c1} {s:Int} {e:(Unit) ⊕ (Int)} (h:loopF (fun s=>slices_IndexFunc_____int___int__Fits_1_L1 s0 c c1 s) s = some e) (hD:sel e (fun e=>slices_IndexFunc_____int___int__Fits_1_L1_D0 Γ rv s0 c c1) (fun e=>e = rv)):slices_IndexFunc_____int___int__Fits_1_L1_C Γ rv s0 c c1 s:=by
 refine loop_ind (C:=fun (s:Int)=>slices_IndexFunc_____int___int__Fits_1_L1_C Γ rv s0 c c1 s) (D:=fun (e:(Unit) ⊕ (Int))=>sel e (fun e=>slices_IndexFunc_____int___int__Fits_1_L1_D0 Γ rv s0 c c1) (fun e=>e = rv)) ?_ h hD
 clear h hD s e
 intro v z_ h hI hE
 replace h:slices_IndexFunc_____int___int__Fits_1_L1 s0 c c1 v = _:=h
 unfold slices_IndexFunc_____int___int__Fits_1_L1 at h
 rcases br_elim h with ⟨h0,h⟩|⟨h0,h⟩
 ·obtain ⟨x0,h1,h⟩:=bnd_elim h
  obtain ⟨r,h2,h⟩:=bnd_elim h
  rcases br_elim h with ⟨h3,h⟩|⟨h3,h⟩
  ·obtain rfl:=(hE _ (oJ h):_ = rv)
   exact gr 14 [] [bT h0,cE es_e_i64 h1,cC (carry_Fits_1_ok h2),bT h3]
  ·exact gn 16 [0,1,7,8] [] [bT h0,cE es_e_i64 h1,cC (carry_Fits_1_ok h2),bF h3] (hI _ (oJ h))
 ·exact gn 5 [] [] [bF h0] (hE _ (oJ h))
theorem slices_IndexFunc_____int___int__Fits_1_ok {s0 c c1} {rv:Int} (h:slices_IndexFunc_____int___int__Fits_1 s0 c c1 = some rv):AFn Tryz.prog 108 [.one (lL 1 s0 es_e_i64),.one (.fn (.func 60) [.ip (T_api_Instance.enc c) 0,.ip (T_api_Route.enc c1) 0])] [] (one (lI rv)) []:=by
 refine afn_of Tryz.func108 (by kernel_rfl) (by kernel_rfl) (fun Γ=>?_)
 unfold slices_IndexFunc_____int___int__Fits_1 at h
 obtain ⟨e0,h4,h⟩:=bnd_elim h
 refine gn 7 [0,1,7,8] [] [nL es_e_i64 s0] (slices_IndexFunc_____int___int__Fits_1_L1_ok Γ rv h4 ?_)
 rcases e0 with e0|e0
 ·replace h:(some (-1):Option Int) = some _:=h
  obtain rfl:=Option.some.inj h
  exact gr 2 [] []
 ·obtain ⟨r1,rfl⟩:∃ x,x = e0:=⟨_,rfl⟩
  replace h:(some r1:Option Int) = some _:=h
  exact Option.some.inj h
theorem slices_ContainsFunc_____int___int__Fits_1_ok {s0 c c1} {rv:Bool} (h:slices_ContainsFunc_____int___int__Fits_1 s0 c c1 = some rv):AFn Tryz.prog 59 [.one (lL 1 s0 es_e_i64),.one (.fn (.func 60) [.ip (T_api_Instance.enc c) 0,.ip (T_api_Route.enc c1) 0])] [] (one (.bool rv)) []:=by
 refine afn_of Tryz.func59 (by kernel_rfl) (by kernel_rfl) (fun Γ=>?_)
 unfold slices_ContainsFunc_____int___int__Fits_1 at h
 obtain ⟨r,h0,h⟩:=bnd_elim h
 obtain rfl:=Option.some.inj h
 exact gr 4 [] [cC (slices_IndexFunc_____int___int__Fits_1_ok h0)]
theorem carry_Fits_ok {x0 r} {rv:Int} (h:carry_Fits x0 r = some rv):AFn Tryz.prog 34 [.agg (T_api_Instance.enc x0),.agg (T_api_Route.enc r)] [] (one (lI rv)) []:=by
 refine afn_of Tryz.func34 (by kernel_rfl) (by kernel_rfl) (fun Γ=>?_)
 unfold carry_Fits at h
 rcases br_elim h with ⟨h0,h⟩|⟨h0,h⟩
 ·obtain rfl:=Option.some.inj h
  exact gr 8 [] [rp 5 hP,rp 3 (oI ((ltI r.type_ 0) = false)),nL T_api_Type.enc x0.types,hP,hP,rp 2 (oI ((ltI r.type_ 0) = false)),oR True ((ltI r.type_ 0) = false),bT h0]
 ·obtain ⟨r1,h1,h⟩:=bnd_elim h
  rcases br_elim h with ⟨h2,h⟩|⟨h2,h⟩
  ·obtain rfl:=Option.some.inj h
   exact gr 15 [] [rp 5 hP,rp 3 (oI ((ltI r.type_ 0) = false)),nL T_api_Type.enc x0.types,hP,hP,rp 2 (oI ((ltI r.type_ 0) = false)),oR True ((ltI r.type_ 0) = false),bF h0,cC (carry_Loads_ok h1),bT h2]
  ·obtain ⟨r2,h3,h⟩:=bnd_elim h
   rcases br_elim h with ⟨h4,h⟩|⟨h4,h⟩
   ·obtain rfl:=Option.some.inj h
    exact gr 20 [] [rp 5 hP,rp 3 (oI ((ltI r.type_ 0) = false)),nL T_api_Type.enc x0.types,hP,hP,rp 2 (oI ((ltI r.type_ 0) = false)),oR True ((ltI r.type_ 0) = false),bF h0,cC (carry_Loads_ok h1),bF h2,cC (slices_ContainsFunc_____int___int__Fits_1_ok h3),bT h4]
   ·obtain rfl:=Option.some.inj h
    exact gr 21 [] [rp 5 hP,rp 3 (oI ((ltI r.type_ 0) = false)),nL T_api_Type.enc x0.types,hP,hP,rp 2 (oI ((ltI r.type_ 0) = false)),oR True ((ltI r.type_ 0) = false),bF h0,cC (carry_Loads_ok h1),bF h2,cC (slices_ContainsFunc_____int___int__Fits_1_ok h3),bF h4]
theorem fleet_Able_ok {t skills} {rv:Bool} (h:fleet_Able t skills = some rv):AFn Tryz.prog 36 [.agg (T_api_Type.enc t),.one (lI skills)] [] (one (.bool rv)) []:=by
 refine afn_of Tryz.func36 (by kernel_rfl) (by kernel_rfl) (fun Γ=>?_)
 unfold fleet_Able at h
 obtain rfl:=Option.some.inj h
 exact gr 4 [] [rp 9 hP,oI ((geI t.skills 0) = true),oR True ((geI t.skills 0) = true),rp 4 (oI (((geI t.skills 0) && (geI skills 0)) = true)),oR True (((geI t.skills 0) && (geI skills 0)) = true)]
def route_able_G (Γ:Gam) (rv:Int) (cf:Cf):Prop:=Go Tryz.prog Tryz.f44 [] Γ (one (lI rv)) [] cf
def route_able_L1_C (Γ:Gam) (rv:Int) (x0:T_api_Instance) (r:T_api_Route) (v:Int):Prop:=route_able_G Γ rv ⟨[.c 52,.l 52,.b 0,.c 7],⟨30,[vP 2 0 6,vP 3 1 4,vL 8 2 r.visits T_api_Visit.enc,vI 9 (lenI r.visits),vI 10 v],[oX 6 30 (T_api_Instance.enc x0),oX 4 34 (T_api_Route.enc r)]⟩⟩
def route_able_L1_D0 (Γ:Gam) (rv:Int) (x0:T_api_Instance) (r:T_api_Route):Prop:=route_able_G Γ rv ⟨[.c 7],⟨30,[],[]⟩⟩
theorem route_able_L1_ok (Γ:Gam) (rv:Int) {x0 r} {s:Int} {e:(Unit) ⊕ (Int)} (h:loopF (fun s=>route_able_L1 x0 r s) s = some e) (hD:sel e (fun e=>route_able_L1_D0 Γ rv x0 r) (fun e=>e = rv)):route_able_L1_C Γ rv x0 r s:=by
 refine loop_ind (C:=fun (s:Int)=>route_able_L1_C Γ rv x0 r s) (D:=fun (e:(Unit) ⊕ (Int))=>sel e (fun e=>route_able_L1_D0 Γ rv x0 r) (fun e=>e = rv)) ?_ h hD
 clear h hD s e
 intro v z_ h hI hE
 replace h:route_able_L1 x0 r v = _:=h
 unfold route_able_L1 at h
 rcases br_elim h with ⟨h0,h⟩|⟨h0,h⟩
 ·obtain ⟨x1,h1,h⟩:=bnd_elim h
  obtain ⟨x2,h2,h⟩:=bnd_elim h
  obtain ⟨x3,h3,h⟩:=bnd_elim h
  obtain ⟨r1,h4,h⟩:=bnd_elim h
  rcases br_elim h with ⟨h5,h⟩|⟨h5,h⟩
  ·exact gn 16 [2,3,8,9,10] [0,1] [bT h0,cE T_api_Visit.enc h1,hH (.draw 15 []),cE T_api_Type.enc h2,cE T_api_Order.enc h3,cC (fleet_Able_ok h4),nF h5] (hI _ (oJ h))
  ·obtain rfl:=(hE _ (oJ h):_ = rv)
   exact gr 14 [] [bT h0,cE T_api_Visit.enc h1,hH (.draw 15 []),cE T_api_Type.enc h2,cE T_api_Order.enc h3,cC (fleet_Able_ok h4),nT h5]
 ·exact gn 5 [] [] [bF h0] (hE _ (oJ h))
theorem route_able_ok {x0 r} {rv:Int} (h:route_able x0 r = some rv):AFn Tryz.prog 44 [.agg (T_api_Instance.enc x0),.agg (T_api_Route.enc r)] [] (one (lI rv)) []:=by
 refine afn_of Tryz.func44 (by kernel_rfl) (by kernel_rfl) (fun Γ=>?_)
 unfold route_able at h
 obtain ⟨e0,h6,h⟩:=bnd_elim h
 refine gn 7 [2,3,8,9,10] [0,1] [nL T_api_Visit.enc r.visits] (route_able_L1_ok Γ rv h6 ?_)
 rcases e0 with e0|e0
 ·replace h:(some 0:Option Int) = some _:=h
  obtain rfl:=Option.some.inj h
  exact gr 2 [] []
 ·obtain ⟨r2,rfl⟩:∃ x,x = e0:=⟨_,rfl⟩
  replace h:(some r2:Option Int) = some _:=h
  exact Option.some.inj h
theorem drive_label_beats_ok {l m} {rv:Bool} (h:drive_label_beats l m = some rv):AFn Tryz.prog 139 [.agg (T_drive_label.enc l),.agg (T_drive_label.enc m)] [] (one (.bool rv)) []:=by
 refine afn_of Tryz.func139 (by kernel_rfl) (by kernel_rfl) (fun Γ=>?_)
 unfold drive_label_beats at h
 obtain rfl:=Option.some.inj h
 exact gr 4 [] [rp 6 hP,rp 4 (oI ((eqI l.ready m.ready) = true)),oR True ((eqI l.ready m.ready) = true)]
theorem drive_trip_grow_1_ok {m c} {rv:Bool} (h:drive_trip_grow_1 m c = some rv):AFn Tryz.prog 138 [.agg (T_drive_label.enc m),.one (.ip (T_drive_label.enc c) 0)] [] (one (.bool rv)) []:=by
 refine afn_of Tryz.func138 (by kernel_rfl) (by kernel_rfl) (fun Γ=>?_)
 unfold drive_trip_grow_1 at h
 obtain ⟨r,h0,h⟩:=bnd_elim h
 obtain rfl:=Option.some.inj h
 exact gr 4 [] [cC (drive_label_beats_ok h0)]
def slices_IndexFunc___drive_label_drive_label__grow_1_G (Γ:Gam) (rv:Int) (cf:Cf):Prop:=Go Tryz.prog Tryz.f168 [] Γ (one (lI rv)) [] cf
def slices_IndexFunc___drive_label_drive_label__grow_1_L1_C (Γ:Gam) (rv:Int) (s0:List T_drive_label) (c:T_drive_label) (v:Int):Prop:=slices_IndexFunc___drive_label_drive_label__grow_1_G Γ rv ⟨[.c 52,.l 52,.b 0,.c 7],⟨19,[vL 0 7 s0 T_drive_label.enc,(1,one (.fn (.func 138) [.ip (T_drive_label.enc c) 0])),vI 7 (lenI s0),vI 8 v],[]⟩⟩
def slices_IndexFunc___drive_label_drive_label__grow_1_L1_D0 (Γ:Gam) (rv:Int) (s0:List T_drive_label) (c:T_drive_label):Prop:=slices_IndexFunc___drive_label_drive_label__grow_1_G Γ rv ⟨[.c 7],⟨19,[],[]⟩⟩
theorem slices_IndexFunc___drive_label_drive_label__grow_1_L1_ok (Γ:Gam) (rv:Int) {s0 c} {s:Int} {e:(Unit) ⊕ (Int)} (h:loopF (fun s=>slices_IndexFunc___drive_label_drive_label__grow_1_L1 s0 c s) s = some e) (hD:sel e (fun e=>slices_IndexFunc___drive_label_drive_label__grow_1_L1_D0 Γ rv s0 c) (fun e=>e = rv)):slices_IndexFunc___drive_label_drive_label__grow_1_L1_C Γ rv s0 c s:=by
 refine loop_ind (C:=fun (s:Int)=>slices_IndexFunc___drive_label_drive_label__grow_1_L1_C Γ rv s0 c s) (D:=fun (e:(Unit) ⊕ (Int))=>sel e (fun e=>slices_IndexFunc___drive_label_drive_label__grow_1_L1_D0 Γ rv s0 c) (fun e=>e = rv)) ?_ h hD
 clear h hD s e
 intro v z_ h hI hE
 replace h:slices_IndexFunc___drive_label_drive_label__grow_1_L1 s0 c v = _:=h
 unfold slices_IndexFunc___drive_label_drive_label__grow_1_L1 at h
 rcases br_elim h with ⟨h0,h⟩|⟨h0,h⟩
 ·obtain ⟨x0,h1,h⟩:=bnd_elim h
  obtain ⟨r,h2,h⟩:=bnd_elim h
  rcases br_elim h with ⟨h3,h⟩|⟨h3,h⟩
  ·obtain rfl:=(hE _ (oJ h):_ = rv)
   exact gr 14 [] [bT h0,cE T_drive_label.enc h1,cC (drive_trip_grow_1_ok h2),bT h3]
  ·exact gn 16 [0,1,7,8] [] [bT h0,cE T_drive_label.enc h1,cC (drive_trip_grow_1_ok h2),bF h3] (hI _ (oJ h))
 ·exact gn 5 [] [] [bF h0] (hE _ (oJ h))
theorem slices_IndexFunc___drive_label_drive_label__grow_1_ok {s0 c} {rv:Int} (h:slices_IndexFunc___drive_label_drive_label__grow_1 s0 c = some rv):AFn Tryz.prog 168 [.one (lL 7 s0 T_drive_label.enc),.one (.fn (.func 138) [.ip (T_drive_label.enc c) 0])] [] (one (lI rv)) []:=by
 refine afn_of Tryz.func168 (by kernel_rfl) (by kernel_rfl) (fun Γ=>?_)
 unfold slices_IndexFunc___drive_label_drive_label__grow_1 at h
 obtain ⟨e0,h4,h⟩:=bnd_elim h
 refine gn 7 [0,1,7,8] [] [nL T_drive_label.enc s0] (slices_IndexFunc___drive_label_drive_label__grow_1_L1_ok Γ rv h4 ?_)
 rcases e0 with e0|e0
 ·replace h:(some (-1):Option Int) = some _:=h
  obtain rfl:=Option.some.inj h
  exact gr 2 [] []
 ·obtain ⟨r1,rfl⟩:∃ x,x = e0:=⟨_,rfl⟩
  replace h:(some r1:Option Int) = some _:=h
  exact Option.some.inj h
theorem slices_ContainsFunc___drive_label_drive_label__grow_1_ok {s0 c} {rv:Bool} (h:slices_ContainsFunc___drive_label_drive_label__grow_1 s0 c = some rv):AFn Tryz.prog 137 [.one (lL 7 s0 T_drive_label.enc),.one (.fn (.func 138) [.ip (T_drive_label.enc c) 0])] [] (one (.bool rv)) []:=by
 refine afn_of Tryz.func137 (by kernel_rfl) (by kernel_rfl) (fun Γ=>?_)
 unfold slices_ContainsFunc___drive_label_drive_label__grow_1 at h
 obtain ⟨r,h0,h⟩:=bnd_elim h
 obtain rfl:=Option.some.inj h
 exact gr 4 [] [cC (slices_IndexFunc___drive_label_drive_label__grow_1_ok h0)]
def drive_trip_grow_G (Γ:Gam) (rv:List T_drive_label) (cf:Cf):Prop:=Go Tryz.prog Tryz.f89 [] Γ (one (lL 7 rv T_drive_label.enc)) [] cf
def drive_trip_grow_L2_C (Γ:Gam) (rv:List T_drive_label) (p:T_drive_trip) (l:List T_drive_label) (done:Int) (choices:List Bool) (v:Int) (x0:T_drive_label) (l3:List T_drive_label) (v1:Int):Prop:=drive_trip_grow_G Γ rv ⟨[.c 128204,.l 128204,.b 2,.b 1,.c 4007,.l 500,.b 0,.c 63],⟨64,[vI 2 done,vP 3 0 25,vL 7 1 choices e_bool,vO 8 1 7 l3 T_drive_label.enc,vP 10 2 7,vL 29 7 l T_drive_label.enc,vI 30 (lenI l),vI 31 v,vL 35 1 choices e_bool,vI 36 (lenI choices),vI 37 v1],[oX 25 98 (T_drive_trip.enc p),oS 7 137 l3 T_drive_label.enc,oX 7 137 (T_drive_label.enc x0)]⟩⟩
def drive_trip_grow_L2_D0 (Γ:Gam) (rv:List T_drive_label) (p:T_drive_trip) (l:List T_drive_label) (done:Int) (choices:List Bool) (v:Int) (x0:T_drive_label) (l4:List T_drive_label):Prop:=drive_trip_grow_G Γ rv ⟨[.b 1,.c 4007,.l 500,.b 0,.c 63],⟨64,[vI 2 done,vP 3 0 25,vL 7 1 choices e_bool,vO 8 1 7 l4 T_drive_label.enc,vL 29 7 l T_drive_label.enc,vI 30 (lenI l),vI 31 v],[oX 25 98 (T_drive_trip.enc p),oS 7 137 l4 T_drive_label.enc]⟩⟩
def drive_trip_grow_L1_C (Γ:Gam) (rv:List T_drive_label) (p:T_drive_trip) (l:List T_drive_label) (done:Int) (choices:List Bool) (l2:List T_drive_label) (v:Int):Prop:=drive_trip_grow_G Γ rv ⟨[.c 500,.l 500,.b 0,.c 63],⟨64,[vI 2 done,vP 3 0 25,vL 7 1 choices e_bool,vO 8 1 7 l2 T_drive_label.enc,vL 29 7 l T_drive_label.enc,vI 30 (lenI l),vI 31 v],[oX 25 98 (T_drive_trip.enc p),oS 7 137 l2 T_drive_label.enc]⟩⟩
def drive_trip_grow_L1_D0 (Γ:Gam) (rv:List T_drive_label) (p:T_drive_trip) (l:List T_drive_label) (done:Int) (choices:List Bool) (l5:List T_drive_label):Prop:=drive_trip_grow_G Γ rv ⟨[.c 63],⟨64,[vO 8 0 7 l5 T_drive_label.enc],[oS 7 137 l5 T_drive_label.enc]⟩⟩
theorem drive_trip_grow_L2_ok (Γ:Gam) (rv:List T_drive_label) {p l done choices v x0} {s:List T_drive_label × Int} {e:List T_drive_label} (h:loopF (fun s=>drive_trip_grow_L2 p l done choices v x0 s.1 s.2) s = some e) (hD:drive_trip_grow_L2_D0 Γ rv p l done choices v x0 e):drive_trip_grow_L2_C Γ rv p l done choices v x0 s.1 s.2:=by
 refine loop_ind (C:=fun (s:List T_drive_label × Int)=>drive_trip_grow_L2_C Γ rv p l done choices v x0 s.1 s.2) (D:=fun (e:List T_drive_label)=>drive_trip_grow_L2_D0 Γ rv p l done choices v x0 e) ?_ h hD
 clear h hD s e
 rintro ⟨l3,v1⟩ z_ h hI hE
 replace h:drive_trip_grow_L2 p l done choices v x0 l3 v1 = _:=h
 unfold drive_trip_grow_L2 at h
 rcases br_elim h with ⟨h4,h⟩|⟨h4,h⟩
 ·obtain ⟨x1,h5,h⟩:=bnd_elim h
  obtain ⟨r,h6,h⟩:=bnd_elim h
  rcases br_elim h with ⟨h7,h⟩|⟨h7,h⟩
  ·obtain ⟨r1,h8,h⟩:=bnd_elim h
   rcases br_elim h with ⟨h9,h⟩|⟨h9,h⟩
   ·exact gn 18 [2,3,7,8,10,29,30,31,35,36,37] [0,1,2] [bT h4,cE e_bool h5,cC (drive_trip_next_ok h6),rp 3 (bT h7),eL l3 T_drive_label.enc,cC (slices_ContainsFunc___drive_label_drive_label__grow_1_ok h8),bT h7,bT h7,nF h9] (hI _ (oJ h))
   ·obtain ⟨h10,h⟩:=chk_elim h
    exact gn 18 [2,3,7,8,10,29,30,31,35,36,37] [0,5,2] [bT h4,cE e_bool h5,cC (drive_trip_next_ok h6),rp 3 (bT h7),eL l3 T_drive_label.enc,cC (slices_ContainsFunc___drive_label_drive_label__grow_1_ok h8),bT h7,bT h7,nT h9,oO (Eq.refl ([r.1].map T_drive_label.enc).length),aO T_drive_label.enc h10] (hI _ (oJ h))
  ·exact gn 18 [2,3,7,8,10,29,30,31,35,36,37] [0,1,2] [bT h4,cE e_bool h5,cC (drive_trip_next_ok h6),rp 5 (bF h7),fF] (hI _ (oJ h))
 ·exact gn 5 [2,3,7,8,29,30,31] [0,1] [bF h4] (hE _ (oJ h))
theorem drive_trip_grow_L1_ok (Γ:Gam) (rv:List T_drive_label) {p l done choices} {s:List T_drive_label × Int} {e:List T_drive_label} (h:loopF (fun s=>drive_trip_grow_L1 p l done choices s.1 s.2) s = some e) (hD:drive_trip_grow_L1_D0 Γ rv p l done choices e):drive_trip_grow_L1_C Γ rv p l done choices s.1 s.2:=by
 refine loop_ind (C:=fun (s:List T_drive_label × Int)=>drive_trip_grow_L1_C Γ rv p l done choices s.1 s.2) (D:=fun (e:List T_drive_label)=>drive_trip_grow_L1_D0 Γ rv p l done choices e) ?_ h hD
 clear h hD s e
 rintro ⟨l2,v⟩ z_ h hI hE
 replace h:drive_trip_grow_L1 p l done choices l2 v = _:=h
 unfold drive_trip_grow_L1 at h
 rcases br_elim h with ⟨h2,h⟩|⟨h2,h⟩
 ·obtain ⟨x0,h3,h⟩:=bnd_elim h
  obtain ⟨e0,h11,h⟩:=bnd_elim h
  refine gn 13 [2,3,7,8,10,29,30,31,35,36,37] [0,1,2] [bT h2,cE T_drive_label.enc h3,nL e_bool choices] (drive_trip_grow_L2_ok Γ rv h11 ?_)
  obtain ⟨l4,rfl⟩:∃ x,x = e0:=⟨_,rfl⟩
  replace h:(some (.inl (l4,(addK .i64 v 1))):Option ((List T_drive_label × Int) ⊕ (List T_drive_label))) = some _:=h
  exact gn 3 [2,3,7,8,29,30,31] [0,1] [] (hI _ (oJ h))
 ·exact gn 5 [8] [1] [bF h2] (hE _ (oJ h))
theorem drive_trip_grow_J1_ok (Γ:Gam) (rv:List T_drive_label) {p l done choices} (h:drive_trip_grow_J1 p l done choices = some rv):drive_trip_grow_G Γ rv ⟨[.c 15],⟨64,[vL 1 7 l T_drive_label.enc,vI 2 done,vP 3 0 25,vL 7 1 choices e_bool],[oX 25 98 (T_drive_trip.enc p)]⟩⟩:=by
 unfold drive_trip_grow_J1 at h
 obtain ⟨e1,h12,h⟩:=bnd_elim h
 refine gn 7 [2,3,7,8,29,30,31] [0,1] [nL T_drive_label.enc l,hW 3,hH (.adopt 8 7 137)] (drive_trip_grow_L1_ok Γ rv h12 ?_)
 obtain ⟨l5,rfl⟩:∃ x,x = e1:=⟨_,rfl⟩
 replace h:(some l5:Option (List T_drive_label)) = some _:=h
 obtain rfl:=Option.some.inj h
 exact gr 2 [] [hW 4,hH (.frz 0),rp 3 (eL l5 T_drive_label.enc)]
theorem drive_trip_grow_ok {p l done} {rv:List T_drive_label} (h:drive_trip_grow p l done = some rv):AFn Tryz.prog 89 [.agg (T_drive_trip.enc p),.one (lL 7 l T_drive_label.enc),.one (lI done)] [] (one (lL 7 rv T_drive_label.enc)) []:=by
 refine afn_of Tryz.func89 (by kernel_rfl) (by kernel_rfl) (fun Γ=>?_)
 unfold drive_trip_grow at h
 rcases br_elim h with ⟨h0,h⟩|⟨h0,h⟩
 ·obtain ⟨l1,h1,h⟩:=bnd_elim h
  exact gn 9 [1,2,3,7] [0] [nL e_bool p.r.rests,bT h0,hH (.rows (l1.map e_bool)),oO (sl1 h1),oO (sl2 h1),oO (sl3 e_bool h1),oO (Int.le_refl (addK .i64 done 1)),oO (sl3 e_bool h1),oO (sl6 e_bool h1)] (drive_trip_grow_J1_ok Γ rv h)
 ·exact gn 9 [1,2,3,7] [0] [nL e_bool p.r.rests,bF h0,hW 1,hH (.frz 1),rp 2 (oO (Eq.refl ([false,true].map e_bool).length))] (drive_trip_grow_J1_ok Γ rv h)
def drive_Best_G (Γ:Gam) (rv:T_api_Sheet × Int) (cf:Cf):Prop:=Go Tryz.prog Tryz.f45 [] Γ (.tup [.agg [.bool rv.1.rest_,lI rv.1.depart,lL 4 rv.1.times T_api_Time.enc,lI rv.1.end_,lI rv.1.miles],.one (lI rv.2)]) [] cf
def drive_Best_L1_C (Γ:Gam) (rv:T_api_Sheet × Int) (r:T_api_Route) (r1:T_drive_trip × Bool) (l:List T_drive_label) (v:Int):Prop:=drive_Best_G Γ rv ⟨[.c 1012,.l 1012,.b 0,.c 127],⟨82,[vP 3 0 4,vP 4 1 5,vP 6 2 25,vI 8 (addK .i64 (lenI r.visits) 1),vL 9 7 l T_drive_label.enc,vI 38 (addK .i64 (lenI r.visits) 1),vI 39 v],[oX 4 34 (T_api_Route.enc r),oX 5 37 [.bool false,lI 0,.nils,lI 0,lI 0],oX 25 98 (T_drive_trip.enc r1.1)]⟩⟩
def drive_Best_L1_D0 (Γ:Gam) (rv:T_api_Sheet × Int) (r:T_api_Route) (r1:T_drive_trip × Bool) (l1:List T_drive_label):Prop:=drive_Best_G Γ rv ⟨[.c 127],⟨82,[vP 3 0 4,vP 4 1 5,vP 6 2 25,vI 8 (addK .i64 (lenI r.visits) 1),vL 9 7 l1 T_drive_label.enc],[oX 4 34 (T_api_Route.enc r),oX 5 37 [.bool false,lI 0,.nils,lI 0,lI 0],oX 25 98 (T_drive_trip.enc r1.1)]⟩⟩
def drive_Best_L2_C (Γ:Gam) (rv:T_api_Sheet × Int) (l3:List T_drive_label) (x2:T_drive_label) (v1:Int):Prop:=drive_Best_G Γ rv ⟨[.c 8180,.l 8180,.b 2,.c 1023],⟨82,[vP 4 0 5,vP 12 1 7,vL 65 7 l3 T_drive_label.enc,vI 66 (lenI l3),vI 67 v1],[oX 5 37 [.bool false,lI 0,.nils,lI 0,lI 0],oX 7 137 (T_drive_label.enc x2)]⟩⟩
def drive_Best_L2_D0 (Γ:Gam) (rv:T_api_Sheet × Int) (l3:List T_drive_label) (x4:T_drive_label):Prop:=drive_Best_G Γ rv ⟨[.c 1023],⟨82,[vP 4 0 5,vP 12 1 7],[oX 5 37 [.bool false,lI 0,.nils,lI 0,lI 0],oX 7 137 (T_drive_label.enc x4)]⟩⟩
theorem drive_Best_L1_ok (Γ:Gam) (rv:T_api_Sheet × Int) {r r1} {s:List T_drive_label × Int} {e:List T_drive_label} (h:loopF (fun s=>drive_Best_L1 r r1 s.1 s.2) s = some e) (hD:drive_Best_L1_D0 Γ rv r r1 e):drive_Best_L1_C Γ rv r r1 s.1 s.2:=by
 refine loop_ind (C:=fun (s:List T_drive_label × Int)=>drive_Best_L1_C Γ rv r r1 s.1 s.2) (D:=fun (e:List T_drive_label)=>drive_Best_L1_D0 Γ rv r r1 e) ?_ h hD
 clear h hD s e
 rintro ⟨l,v⟩ z_ h hI hE
 replace h:drive_Best_L1 r r1 l v = _:=h
 unfold drive_Best_L1 at h
 rcases br_elim h with ⟨h3,h⟩|⟨h3,h⟩
 ·obtain ⟨r3,h4,h⟩:=bnd_elim h
  exact gn 13 [3,4,6,8,9,38,39] [0,1,2] [bT h3,cC (drive_trip_grow_ok h4)] (hI _ (oJ h))
 ·exact gn 5 [3,4,6,8,9] [0,1,2] [bF h3] (hE _ (oJ h))
theorem drive_Best_L2_ok (Γ:Gam) (rv:T_api_Sheet × Int) {l3} {s:T_drive_label × Int} {e:T_drive_label} (h:loopF (fun s=>drive_Best_L2 l3 s.1 s.2) s = some e) (hD:drive_Best_L2_D0 Γ rv l3 e):drive_Best_L2_C Γ rv l3 s.1 s.2:=by
 refine loop_ind (C:=fun (s:T_drive_label × Int)=>drive_Best_L2_C Γ rv l3 s.1 s.2) (D:=fun (e:T_drive_label)=>drive_Best_L2_D0 Γ rv l3 e) ?_ h hD
 clear h hD s e
 rintro ⟨x2,v1⟩ z_ h hI hE
 replace h:drive_Best_L2 l3 x2 v1 = _:=h
 unfold drive_Best_L2 at h
 rcases br_elim h with ⟨h11,h⟩|⟨h11,h⟩
 ·obtain ⟨x3,h12,h⟩:=bnd_elim h
  rcases br_elim h with ⟨h13,h⟩|⟨h13,h⟩
  ·exact gn 16 [4,12,65,66,67] [0,1] [bT h11,cE T_drive_label.enc h12,bT h13] (hI _ (oJ h))
  ·exact gn 16 [4,12,65,66,67] [0,1] [bT h11,cE T_drive_label.enc h12,bF h13] (hI _ (oJ h))
 ·exact gn 5 [4,12] [0,1] [bF h11] (hE _ (oJ h))
theorem drive_Best_ok {x0 r} {rv:T_api_Sheet × Int} (h:drive_Best x0 r = some rv):AFn Tryz.prog 45 [.agg (T_api_Instance.enc x0),.agg (T_api_Route.enc r)] [] (.tup [.agg [.bool rv.1.rest_,lI rv.1.depart,lL 4 rv.1.times T_api_Time.enc,lI rv.1.end_,lI rv.1.miles],.one (lI rv.2)]) []:=by
 refine afn_of Tryz.func45 (by kernel_rfl) (by kernel_rfl) (fun Γ=>?_)
 unfold drive_Best at h
 obtain ⟨r1,h0,h⟩:=bnd_elim h
 rcases br_elim h with ⟨h1,h⟩|⟨h1,h⟩
 ·obtain rfl:=Option.some.inj h
  exact gr 12 [] [cC (drive_plan_ok h0),nL T_api_Visit.enc r.visits,hP,hP,hP,rp 2 (oI ((!r1.2) = false)),nL e_bool r.rests,hP,hP,hP,rp 2 (oI ((!r1.2) = false)),oR True ((!r1.2) = false),bT h1,hW 5,hH (.nilB 2 2 4)]
 ·obtain ⟨r2,h2,h⟩:=bnd_elim h
  obtain ⟨e0,h5,h⟩:=bnd_elim h
  refine gn 18 [3,4,6,8,9,38,39] [1,2,3] [cC (drive_plan_ok h0),nL T_api_Visit.enc r.visits,hP,hP,hP,rp 2 (oI ((!r1.2) = false)),nL e_bool r.rests,hP,hP,hP,rp 2 (oI ((!r1.2) = false)),oR True ((!r1.2) = false),bF h1,cC (drive_trip_begin_ok h2),hW 9,hH (.frz 4),rp 2 (oO (Eq.refl ([r2].map T_drive_label.enc).length))] (drive_Best_L1_ok Γ rv h5 ?_)
  obtain ⟨l1,rfl⟩:∃ x,x = e0:=⟨_,rfl⟩
  replace h:(br (eqI (lenI l1) 0) (bnd (mkI (addK .i64 (lenI r.visits) 1) (addK .i64 (lenI r.visits) 1) 1 false) fun l2=>bnd (drive_trip_run r1.1 (cpyL l2 r.rests)) fun r4=>some (r4.1,r4.2)) (bnd (getI l1 0) fun x1=>bnd (slcI l1 1 (lenI l1)) fun l3=>bnd (loopF (fun s=>drive_Best_L2 l3 s.1 s.2) (x1,0)) (fun x4=>some (x4.sheet,0))):Option (T_api_Sheet × Int)) = some _:=h
  rcases br_elim h with ⟨h6,h⟩|⟨h6,h⟩
  ·obtain ⟨l2,h7,h⟩:=bnd_elim h
   obtain ⟨r4,h8,h⟩:=bnd_elim h
   obtain rfl:=Option.some.inj h
   exact gr 10 [] [nL T_drive_label.enc l1,bT h6,hH (.cells [.bool false]),hH (.rows (l2.map e_bool)),oO (mk1 h7),oO (mk2 h7),oO (mk3 h7),oO (mk4 h7),oO (mk5 e_bool h7),cY e_bool l2 r.rests,hH (.relen 3 ((cpyL l2 r.rests).map e_bool).length),hW 4,hH (.frz 3),rp 3 (oO (lenCpy e_bool l2 r.rests)),rp 4 (oO (Eq.refl ((cpyL l2 r.rests).map e_bool).length)),cC (drive_trip_run_ok h8)]
  ·obtain ⟨x1,h9,h⟩:=bnd_elim h
   obtain ⟨l3,h10,h⟩:=bnd_elim h
   obtain ⟨e1,h14,h⟩:=bnd_elim h
   refine gn 12 [4,12,65,66,67] [1,3] [nL T_drive_label.enc l1,bF h6,cE T_drive_label.enc h9,hH (.rows (l3.map T_drive_label.enc)),oO (sl1 h10),oO (sl2h T_drive_label.enc h10),rp 3 (oO (Int.le_refl ((l1.map T_drive_label.enc).length:Int))),oO (sl6h T_drive_label.enc h10),nL T_drive_label.enc l3] (drive_Best_L2_ok Γ rv h14 ?_)
   obtain ⟨x4,rfl⟩:∃ x,x = e1:=⟨_,rfl⟩
   replace h:(some (x4.sheet,0):Option (T_api_Sheet × Int)) = some _:=h
   obtain rfl:=Option.some.inj h
   exact gr 2 [] []
theorem price_foreign_ok {kind own} {rv:Bool} (h:price_foreign kind own = some rv):AFn Tryz.prog 90 [.one (lI kind),.one (lI own)] [] (one (.bool rv)) []:=by
 refine afn_of Tryz.func90 (by kernel_rfl) (by kernel_rfl) (fun Γ=>?_)
 unfold price_foreign at h
 obtain rfl:=Option.some.inj h
 exact gr 4 [] [rp 4 hP,rp 2 (oI ((neI kind (-1)) = true)),oR True ((neI kind (-1)) = true)]
def price_Route_G (Γ:Gam) (rv:T_api_Score) (cf:Cf):Prop:=Go Tryz.prog Tryz.f46 [] Γ (gG [lI rv.cost,lI rv.moved,lI rv.other,lI rv.work]) [] cf
def price_Route_L1_C (Γ:Gam) (rv:T_api_Score) (x0:T_api_Instance) (r:T_api_Route) (s0:T_api_Sheet) (x1:T_api_Type) (l:List (Int × Int)) (moved:Int) (other:Int) (v:Int):Prop:=price_Route_G Γ rv ⟨[.c 4084,.l 4084,.b 0,.c 511],⟨114,[vP 3 0 6,vP 4 1 4,vP 6 2 4,vP 10 3 4,(11,one (.mp 4)),vL 59 2 r.visits T_api_Visit.enc,vI 60 (lenI r.visits),vI 61 v],[oX 6 30 (T_api_Instance.enc x0),oX 4 34 (T_api_Route.enc r),oX 4 53 [lI 0,lI 0,lI 0,lI 0],oX 4 53 [lI (addK .i64 (addK .i64 x1.fixed (mulK .i64 x1.perMile s0.miles)) (mulK .i64 x1.perTick (subK .i64 s0.end_ x1.open_))),lI moved,lI other,lI (mulK .i64 (quoK .i64 (subK .i64 s0.end_ x1.open_) 64) (quoK .i64 (subK .i64 s0.end_ x1.open_) 64))],oM 141 l (mE lI lI)]⟩⟩
def price_Route_L1_D0 (Γ:Gam) (rv:T_api_Score) (x0:T_api_Instance) (r:T_api_Route) (s0:T_api_Sheet) (x1:T_api_Type) (moved2:Int) (other1:Int):Prop:=price_Route_G Γ rv ⟨[.c 511],⟨114,[vP 6 0 4,vP 10 1 4],[oX 4 53 [lI 0,lI 0,lI 0,lI 0],oX 4 53 [lI (addK .i64 (addK .i64 x1.fixed (mulK .i64 x1.perMile s0.miles)) (mulK .i64 x1.perTick (subK .i64 s0.end_ x1.open_))),lI moved2,lI other1,lI (mulK .i64 (quoK .i64 (subK .i64 s0.end_ x1.open_) 64) (quoK .i64 (subK .i64 s0.end_ x1.open_) 64))]]⟩⟩
theorem price_Route_J1_ok (Γ:Gam) (rv:T_api_Score) {x0 r s0 x1 l other v x2 x3 moved1} {x:(List (Int × Int) × Int × Int × Int) ⊕ (Int × Int)} (h:price_Route_J1 x0 r s0 x1 l other v x2 x3 moved1 = some x) (hI:∀ s:List (Int × Int) × Int × Int × Int,x = .inl s→price_Route_L1_C Γ rv x0 r s0 x1 s.1 s.2.1 s.2.2.1 s.2.2.2) (hE:∀ e:Int × Int,x = .inr e→price_Route_L1_D0 Γ rv x0 r s0 x1 e.1 e.2):price_Route_G Γ rv ⟨[.c 2091423,.b 1,.c 32679,.l 4084,.b 0,.c 511],⟨114,[vP 3 0 6,vP 4 1 4,vP 6 2 4,vP 10 3 4,(11,one (.mp 4)),vP 14 5 16,vL 59 2 r.visits T_api_Visit.enc,vI 60 (lenI r.visits),vI 61 v],[oX 6 30 (T_api_Instance.enc x0),oX 4 34 (T_api_Route.enc r),oX 4 53 [lI 0,lI 0,lI 0,lI 0],oX 4 53 [lI (addK .i64 (addK .i64 x1.fixed (mulK .i64 x1.perMile s0.miles)) (mulK .i64 x1.perTick (subK .i64 s0.end_ x1.open_))),lI moved1,lI other,lI (mulK .i64 (quoK .i64 (subK .i64 s0.end_ x1.open_) 64) (quoK .i64 (subK .i64 s0.end_ x1.open_) 64))],oM 141 (mPut eqI l x2.order (addK .i64 (mGet eqI l x2.order 0) 1)) (mE lI lI),oX 16 71 (T_api_Order.enc x3)]⟩⟩:=by
 unfold price_Route_J1 at h
 obtain ⟨r2,h9,h⟩:=bnd_elim h
 rcases br_elim h with ⟨h10,h⟩|⟨h10,h⟩
 ·exact gn 7 [3,4,6,10,11,59,60,61] [0,1,2,3,4] [cC (price_foreign_ok h9),bT h10] (hI _ (oJ h))
 ·exact gn 7 [3,4,6,10,11,59,60,61] [0,1,2,3,4] [cC (price_foreign_ok h9),bF h10] (hI _ (oJ h))
theorem price_Route_L1_ok (Γ:Gam) (rv:T_api_Score) {x0 r s0 x1} {s:List (Int × Int) × Int × Int × Int} {e:Int × Int} (h:loopF (fun s=>price_Route_L1 x0 r s0 x1 s.1 s.2.1 s.2.2.1 s.2.2.2) s = some e) (hD:price_Route_L1_D0 Γ rv x0 r s0 x1 e.1 e.2):price_Route_L1_C Γ rv x0 r s0 x1 s.1 s.2.1 s.2.2.1 s.2.2.2:=by
 refine loop_ind (C:=fun (s:List (Int × Int) × Int × Int × Int)=>price_Route_L1_C Γ rv x0 r s0 x1 s.1 s.2.1 s.2.2.1 s.2.2.2) (D:=fun (e:Int × Int)=>price_Route_L1_D0 Γ rv x0 r s0 x1 e.1 e.2) ?_ h hD
 clear h hD s e
 rintro ⟨l,moved,other,v⟩ z_ h hI hE
 replace h:price_Route_L1 x0 r s0 x1 l moved other v = _:=h
 unfold price_Route_L1 at h
 rcases br_elim h with ⟨h2,h⟩|⟨h2,h⟩
 ·obtain ⟨x2,h3,h⟩:=bnd_elim h
  rcases br_elim h with ⟨h4,h⟩|⟨h4,h⟩
  ·exact gn 18 [3,4,6,10,11,59,60,61] [0,1,2,3,4] [bT h2,cE T_api_Visit.enc h3,mG kqI lI l x2.order 0,mU kqI lI l x2.order (addK .i64 (mGet eqI l x2.order 0) 1),rp 5 hP,rp 3 (oI ((ltI x2.order 0) = false)),nL T_api_Order.enc x0.orders,hP,hP,rp 2 (oI ((ltI x2.order 0) = false)),oR True ((ltI x2.order 0) = false),rp 6 (bT h4),tT] (hI _ (oJ h))
  ·rcases br_elim h with ⟨h5,h⟩|⟨h5,h⟩
   ·exact gn 18 [3,4,6,10,11,59,60,61] [0,1,2,3,4] [bT h2,cE T_api_Visit.enc h3,mG kqI lI l x2.order 0,mU kqI lI l x2.order (addK .i64 (mGet eqI l x2.order 0) 1),rp 5 hP,rp 3 (oI ((ltI x2.order 0) = false)),nL T_api_Order.enc x0.orders,hP,hP,rp 2 (oI ((ltI x2.order 0) = false)),oR True ((ltI x2.order 0) = false),rp 4 (bF h4),mG kqI lI (mPut eqI l x2.order (addK .i64 (mGet eqI l x2.order 0) 1)) x2.order 0,bF h4,bF h4,bT h5] (hI _ (oJ h))
   ·obtain ⟨x3,h6,h⟩:=bnd_elim h
    obtain ⟨r1,h7,h⟩:=bnd_elim h
    rcases br_elim h with ⟨h8,h⟩|⟨h8,h⟩
    ·exact gn 23 [3,4,6,10,11,14,59,60,61] [0,1,2,3,4,6] [bT h2,cE T_api_Visit.enc h3,mG kqI lI l x2.order 0,mU kqI lI l x2.order (addK .i64 (mGet eqI l x2.order 0) 1),rp 5 hP,rp 3 (oI ((ltI x2.order 0) = false)),nL T_api_Order.enc x0.orders,hP,hP,rp 2 (oI ((ltI x2.order 0) = false)),oR True ((ltI x2.order 0) = false),rp 4 (bF h4),mG kqI lI (mPut eqI l x2.order (addK .i64 (mGet eqI l x2.order 0) 1)) x2.order 0,bF h4,bF h4,bF h5,cE T_api_Order.enc h6,cC (price_foreign_ok h7),bT h8] (price_Route_J1_ok Γ rv h hI hE)
    ·exact gn 23 [3,4,6,10,11,14,59,60,61] [0,1,2,3,4,6] [bT h2,cE T_api_Visit.enc h3,mG kqI lI l x2.order 0,mU kqI lI l x2.order (addK .i64 (mGet eqI l x2.order 0) 1),rp 5 hP,rp 3 (oI ((ltI x2.order 0) = false)),nL T_api_Order.enc x0.orders,hP,hP,rp 2 (oI ((ltI x2.order 0) = false)),oR True ((ltI x2.order 0) = false),rp 4 (bF h4),mG kqI lI (mPut eqI l x2.order (addK .i64 (mGet eqI l x2.order 0) 1)) x2.order 0,bF h4,bF h4,bF h5,cE T_api_Order.enc h6,cC (price_foreign_ok h7),bF h8] (price_Route_J1_ok Γ rv h hI hE)
 ·exact gn 5 [6,10] [2,3] [bF h2] (hE _ (oJ h))
theorem price_Route_ok {x0 r s0} {rv:T_api_Score} (h:price_Route x0 r s0 = some rv):AFn Tryz.prog 46 [.agg (T_api_Instance.enc x0),.agg (T_api_Route.enc r),.agg (T_api_Sheet.enc s0)] [] (gG [lI rv.cost,lI rv.moved,lI rv.other,lI rv.work]) []:=by
 refine afn_of Tryz.func46 (by kernel_rfl) (by kernel_rfl) (fun Γ=>?_)
 unfold price_Route at h
 rcases br_elim h with ⟨h0,h⟩|⟨h0,h⟩
 ·obtain rfl:=Option.some.inj h
  exact gr 8 [] [rp 5 hP,rp 3 (oI ((ltI r.type_ 0) = false)),nL T_api_Type.enc x0.types,hP,hP,rp 2 (oI ((ltI r.type_ 0) = false)),oR True ((ltI r.type_ 0) = false),bT h0]
 ·obtain ⟨x1,h1,h⟩:=bnd_elim h
  obtain ⟨e0,h11,h⟩:=bnd_elim h
  refine gn 22 [3,4,6,10,11,59,60,61] [0,1,3,5,6] [rp 5 hP,rp 3 (oI ((ltI r.type_ 0) = false)),nL T_api_Type.enc x0.types,hP,hP,rp 2 (oI ((ltI r.type_ 0) = false)),oR True ((ltI r.type_ 0) = false),bF h0,cE T_api_Type.enc h1,oO (oA (n:=64)),nL T_api_Visit.enc r.visits] (price_Route_L1_ok Γ rv h11 ?_)
  obtain ⟨moved2,other1⟩:=e0
  replace h:(some (T_api_Score.mk (addK .i64 (addK .i64 x1.fixed (mulK .i64 x1.perMile s0.miles)) (mulK .i64 x1.perTick (subK .i64 s0.end_ x1.open_))) moved2 other1 (mulK .i64 (quoK .i64 (subK .i64 s0.end_ x1.open_) 64) (quoK .i64 (subK .i64 s0.end_ x1.open_) 64))):Option T_api_Score) = some _:=h
  obtain rfl:=Option.some.inj h
  exact gr 2 [] []
theorem route_Evaluate_ok {x0 r} {rv:T_api_Sheet × T_api_Score × Int} (h:route_Evaluate x0 r = some rv):AFn Tryz.prog 22 [.agg (T_api_Instance.enc x0),.agg (T_api_Route.enc r)] [] (.tup [.agg [.bool rv.1.rest_,lI rv.1.depart,lL 4 rv.1.times T_api_Time.enc,lI rv.1.end_,lI rv.1.miles],.agg [lI rv.2.1.cost,lI rv.2.1.moved,lI rv.2.1.other,lI rv.2.1.work],.one (lI rv.2.2)]) []:=by
 refine afn_of Tryz.func22 (by kernel_rfl) (by kernel_rfl) (fun Γ=>?_)
 unfold route_Evaluate at h
 rcases br_elim h with ⟨h0,h⟩|⟨h0,h⟩
 ·obtain rfl:=Option.some.inj h
  exact gr 8 [] [rp 5 hP,rp 3 (oI ((ltI r.type_ 0) = false)),nL T_api_Type.enc x0.types,hP,hP,rp 2 (oI ((ltI r.type_ 0) = false)),oR True ((ltI r.type_ 0) = false),bT h0,hW 7,hH (.nilB 2 2 4)]
 ·obtain ⟨r1,h1,h⟩:=bnd_elim h
  rcases br_elim h with ⟨h2,h⟩|⟨h2,h⟩
  ·obtain rfl:=Option.some.inj h
   exact gr 28 [] [rp 5 hP,rp 3 (oI ((ltI r.type_ 0) = false)),nL T_api_Type.enc x0.types,hP,hP,rp 2 (oI ((ltI r.type_ 0) = false)),oR True ((ltI r.type_ 0) = false),bF h0,nL e_fn [43,44,34],tT,oO (getLo (rfl:getI ([43,44,34]:List Nat) 0 = some 43)),oO (getHi e_fn (rfl:getI ([43,44,34]:List Nat) 0 = some 43)),rE e_fn (rfl:getI ([43,44,34]:List Nat) 0 = some 43),cC (sequence_Check_ok h1),bT h2,hW 8,hH (.nilB 2 2 4)]
  ·obtain ⟨r2,h3,h⟩:=bnd_elim h
   rcases br_elim h with ⟨h4,h⟩|⟨h4,h⟩
   ·obtain rfl:=Option.some.inj h
    exact gr 46 [] [rp 5 hP,rp 3 (oI ((ltI r.type_ 0) = false)),nL T_api_Type.enc x0.types,hP,hP,rp 2 (oI ((ltI r.type_ 0) = false)),oR True ((ltI r.type_ 0) = false),bF h0,nL e_fn [43,44,34],tT,oO (getLo (rfl:getI ([43,44,34]:List Nat) 0 = some 43)),oO (getHi e_fn (rfl:getI ([43,44,34]:List Nat) 0 = some 43)),rE e_fn (rfl:getI ([43,44,34]:List Nat) 0 = some 43),cC (sequence_Check_ok h1),bF h2,tT,oO (getLo (rfl:getI ([43,44,34]:List Nat) 1 = some 44)),oO (getHi e_fn (rfl:getI ([43,44,34]:List Nat) 1 = some 44)),rE e_fn (rfl:getI ([43,44,34]:List Nat) 1 = some 44),cC (route_able_ok h3),bT h4,hW 8,hH (.nilB 2 2 4)]
   ·obtain ⟨r3,h5,h⟩:=bnd_elim h
    rcases br_elim h with ⟨h6,h⟩|⟨h6,h⟩
    ·obtain rfl:=Option.some.inj h
     exact gr 64 [] [rp 5 hP,rp 3 (oI ((ltI r.type_ 0) = false)),nL T_api_Type.enc x0.types,hP,hP,rp 2 (oI ((ltI r.type_ 0) = false)),oR True ((ltI r.type_ 0) = false),bF h0,nL e_fn [43,44,34],tT,oO (getLo (rfl:getI ([43,44,34]:List Nat) 0 = some 43)),oO (getHi e_fn (rfl:getI ([43,44,34]:List Nat) 0 = some 43)),rE e_fn (rfl:getI ([43,44,34]:List Nat) 0 = some 43),cC (sequence_Check_ok h1),bF h2,tT,oO (getLo (rfl:getI ([43,44,34]:List Nat) 1 = some 44)),oO (getHi e_fn (rfl:getI ([43,44,34]:List Nat) 1 = some 44)),rE e_fn (rfl:getI ([43,44,34]:List Nat) 1 = some 44),cC (route_able_ok h3),bF h4,tT,oO (getLo (rfl:getI ([43,44,34]:List Nat) 2 = some 34)),oO (getHi e_fn (rfl:getI ([43,44,34]:List Nat) 2 = some 34)),rE e_fn (rfl:getI ([43,44,34]:List Nat) 2 = some 34),cC (carry_Fits_ok h5),bT h6,hW 8,hH (.nilB 2 2 4)]
    ·obtain ⟨r4,h7,h⟩:=bnd_elim h
     rcases br_elim h with ⟨h8,h⟩|⟨h8,h⟩
     ·obtain rfl:=Option.some.inj h
      exact gr 79 [] [rp 5 hP,rp 3 (oI ((ltI r.type_ 0) = false)),nL T_api_Type.enc x0.types,hP,hP,rp 2 (oI ((ltI r.type_ 0) = false)),oR True ((ltI r.type_ 0) = false),bF h0,nL e_fn [43,44,34],tT,oO (getLo (rfl:getI ([43,44,34]:List Nat) 0 = some 43)),oO (getHi e_fn (rfl:getI ([43,44,34]:List Nat) 0 = some 43)),rE e_fn (rfl:getI ([43,44,34]:List Nat) 0 = some 43),cC (sequence_Check_ok h1),bF h2,tT,oO (getLo (rfl:getI ([43,44,34]:List Nat) 1 = some 44)),oO (getHi e_fn (rfl:getI ([43,44,34]:List Nat) 1 = some 44)),rE e_fn (rfl:getI ([43,44,34]:List Nat) 1 = some 44),cC (route_able_ok h3),bF h4,tT,oO (getLo (rfl:getI ([43,44,34]:List Nat) 2 = some 34)),oO (getHi e_fn (rfl:getI ([43,44,34]:List Nat) 2 = some 34)),rE e_fn (rfl:getI ([43,44,34]:List Nat) 2 = some 34),cC (carry_Fits_ok h5),bF h6,fF,cC (drive_Best_ok h7),bT h8,hW 8,hH (.nilB 2 2 4)]
     ·obtain ⟨r5,h9,h⟩:=bnd_elim h
      obtain rfl:=Option.some.inj h
      exact gr 80 [] [rp 5 hP,rp 3 (oI ((ltI r.type_ 0) = false)),nL T_api_Type.enc x0.types,hP,hP,rp 2 (oI ((ltI r.type_ 0) = false)),oR True ((ltI r.type_ 0) = false),bF h0,nL e_fn [43,44,34],tT,oO (getLo (rfl:getI ([43,44,34]:List Nat) 0 = some 43)),oO (getHi e_fn (rfl:getI ([43,44,34]:List Nat) 0 = some 43)),rE e_fn (rfl:getI ([43,44,34]:List Nat) 0 = some 43),cC (sequence_Check_ok h1),bF h2,tT,oO (getLo (rfl:getI ([43,44,34]:List Nat) 1 = some 44)),oO (getHi e_fn (rfl:getI ([43,44,34]:List Nat) 1 = some 44)),rE e_fn (rfl:getI ([43,44,34]:List Nat) 1 = some 44),cC (route_able_ok h3),bF h4,tT,oO (getLo (rfl:getI ([43,44,34]:List Nat) 2 = some 34)),oO (getHi e_fn (rfl:getI ([43,44,34]:List Nat) 2 = some 34)),rE e_fn (rfl:getI ([43,44,34]:List Nat) 2 = some 34),cC (carry_Fits_ok h5),bF h6,fF,cC (drive_Best_ok h7),bF h8,hH (.draw 5 []),cC (price_Route_ok h9)]
theorem price_split_ok {s0} {rv:A4_Int} (h:price_split s0 = some rv):AFn Tryz.prog 102 [.agg (T_api_Score.enc s0)] [] (gG [lI rv.x0,lI rv.x1,lI rv.x2,lI rv.x3]) []:=by
 refine afn_of Tryz.func102 (by kernel_rfl) (by kernel_rfl) (fun Γ=>?_)
 unfold price_split at h
 obtain rfl:=Option.some.inj h
 exact gr 4 [] []
theorem price_Weight_ok {s0} {rv:Int × Int} (h:price_Weight s0 = some rv):AFn Tryz.prog 52 [.agg (T_api_Score.enc s0)] [] (.tup [.one (lI rv.1),.one (lI rv.2)]) []:=by
 refine afn_of Tryz.func52 (by kernel_rfl) (by kernel_rfl) (fun Γ=>?_)
 unfold price_Weight at h
 obtain ⟨r,h0,h⟩:=bnd_elim h
 rcases br_elim h with ⟨h1,h⟩|⟨h1,h⟩
 ·obtain rfl:=Option.some.inj h
  exact gr 23 [] [cC (price_split_ok h0),tT,oO (zL 0),oO (lT 0 4),bT h1]
 ·rcases br_elim h with ⟨h2,h⟩|⟨h2,h⟩
  ·obtain rfl:=Option.some.inj h
   exact gr 39 [] [cC (price_split_ok h0),tT,oO (zL 0),oO (lT 0 4),bF h1,tT,oO (zL 1),oO (lT 1 4),bT h2]
  ·rcases br_elim h with ⟨h3,h⟩|⟨h3,h⟩
   ·obtain rfl:=Option.some.inj h
    exact gr 55 [] [cC (price_split_ok h0),tT,oO (zL 0),oO (lT 0 4),bF h1,tT,oO (zL 1),oO (lT 1 4),bF h2,tT,oO (zL 2),oO (lT 2 4),bT h3]
   ·rcases br_elim h with ⟨h4,h⟩|⟨h4,h⟩
    ·obtain rfl:=Option.some.inj h
     exact gr 71 [] [cC (price_split_ok h0),tT,oO (zL 0),oO (lT 0 4),bF h1,tT,oO (zL 1),oO (lT 1 4),bF h2,tT,oO (zL 2),oO (lT 2 4),bF h3,tT,oO (zL 3),oO (lT 3 4),bT h4]
    ·rcases br_elim h with ⟨h5,h⟩|⟨h5,h⟩
     ·obtain rfl:=Option.some.inj h
      exact gr 84 [] [cC (price_split_ok h0),tT,oO (zL 0),oO (lT 0 4),bF h1,tT,oO (zL 1),oO (lT 1 4),bF h2,tT,oO (zL 2),oO (lT 2 4),bF h3,tT,oO (zL 3),oO (lT 3 4),bF h4,fF,rp 12 hP,rp 2 (oI ((gtI s0.cost 1073741824) = false)),oR True ((gtI s0.cost 1073741824) = false),rp 2 (oI (((gtI s0.cost 1073741824) || (geI s0.moved 16)) = false)),oR True (((gtI s0.cost 1073741824) || (geI s0.moved 16)) = false),rp 2 (oI ((((gtI s0.cost 1073741824) || (geI s0.moved 16)) || (geI s0.other 16)) = false)),oR True ((((gtI s0.cost 1073741824) || (geI s0.moved 16)) || (geI s0.other 16)) = false),bT h5]
     ·obtain rfl:=Option.some.inj h
      exact gr 85 [] [cC (price_split_ok h0),tT,oO (zL 0),oO (lT 0 4),bF h1,tT,oO (zL 1),oO (lT 1 4),bF h2,tT,oO (zL 2),oO (lT 2 4),bF h3,tT,oO (zL 3),oO (lT 3 4),bF h4,fF,rp 12 hP,rp 2 (oI ((gtI s0.cost 1073741824) = false)),oR True ((gtI s0.cost 1073741824) = false),rp 2 (oI (((gtI s0.cost 1073741824) || (geI s0.moved 16)) = false)),oR True (((gtI s0.cost 1073741824) || (geI s0.moved 16)) = false),rp 2 (oI ((((gtI s0.cost 1073741824) || (geI s0.moved 16)) || (geI s0.other 16)) = false)),oR True ((((gtI s0.cost 1073741824) || (geI s0.moved 16)) || (geI s0.other 16)) = false),bF h5]
theorem route_Price_ok {x0 r} {rv:Int × Int} (h:route_Price x0 r = some rv):AFn Tryz.prog 25 [.agg (T_api_Instance.enc x0),.agg (T_api_Route.enc r)] [] (.tup [.one (lI rv.1),.one (lI rv.2)]) []:=by
 refine afn_of Tryz.func25 (by kernel_rfl) (by kernel_rfl) (fun Γ=>?_)
 unfold route_Price at h
 obtain ⟨r1,h0,h⟩:=bnd_elim h
 rcases br_elim h with ⟨h1,h⟩|⟨h1,h⟩
 ·obtain rfl:=Option.some.inj h
  exact gr 10 [] [cC (route_Evaluate_ok h0),bT h1]
 ·obtain ⟨r2,h2,h⟩:=bnd_elim h
  obtain rfl:=Option.some.inj h
  exact gr 11 [] [cC (route_Evaluate_ok h0),bF h1,cC (price_Weight_ok h2)]
theorem route_Works_ok {x0 r} {rv:Int × Int} (h:route_Works x0 r = some rv):AFn Tryz.prog 27 [.agg (T_api_Instance.enc x0),.agg (T_api_Route.enc r)] [] (.tup [.one (lI rv.1),.one (lI rv.2)]) []:=by
 refine afn_of Tryz.func27 (by kernel_rfl) (by kernel_rfl) (fun Γ=>?_)
 unfold route_Works at h
 obtain ⟨r1,h0,h⟩:=bnd_elim h
 rcases br_elim h with ⟨h1,h⟩|⟨h1,h⟩
 ·obtain rfl:=Option.some.inj h
  exact gr 10 [] [cC (route_Evaluate_ok h0),bT h1]
 ·obtain ⟨x1,h2,h⟩:=bnd_elim h
  obtain rfl:=Option.some.inj h
  exact gr 11 [] [cC (route_Evaluate_ok h0),bF h1,hH (.draw 12 []),cE T_api_Type.enc h2]
theorem route_Valid_ok {x0 r} {rv:Int} (h:route_Valid x0 r = some rv):AFn Tryz.prog 29 [.agg (T_api_Instance.enc x0),.agg (T_api_Route.enc r)] [] (one (lI rv)) []:=by
 refine afn_of Tryz.func29 (by kernel_rfl) (by kernel_rfl) (fun Γ=>?_)
 unfold route_Valid at h
 obtain ⟨r1,h0,h⟩:=bnd_elim h
 obtain rfl:=Option.some.inj h
 exact gr 6 [] [cC (route_Evaluate_ok h0)]
theorem lorrylaw21_sample_deep_ok:AFn Tryz.prog 42 [] [] (.tup [.agg [lL 1 [s_A_7fc5,s_B_9d5e] e_str,lL 6 [(T_api_Arc.mk 0 1 0 5 [(T_api_Point.mk 0 10)] []),(T_api_Arc.mk 1 0 0 5 [(T_api_Point.mk 0 10)] [])] T_api_Arc.enc,.os 0 14 0 1,.os 2 16 0 1,lL 2 ([]:List A2_Int) A2_Int.enc,lL 2 ([]:List A2_Int) A2_Int.enc],.agg [lI 0,lI 0,lL 1 ([]:List Bool) e_bool,lL 2 [(T_api_Visit.mk 0 true)] T_api_Visit.enc]]) [oX 14 64 [.str s_v_9e36,lI 1,lI 0,lI 0,lO 1 1 [1] e_i64,lI 0,lI 0,lI 0,lI 100,lI 100,lI 0,lI 20,lI 2,lI 1],oS 1 3 [1] e_i64,oX 16 71 [.str s_o_d956,lO 3 1 [1] e_i64,lI (-1),lI 0,lI 0,lI 0,lI 1,lI 30,lI 40,lI 2,lI 0,lI (-1),lI 1,lI (-1),lI (-1),.bool false],oS 1 3 [1] e_i64]:=by
 refine afn_of Tryz.func42 (by kernel_rfl) (by kernel_rfl) (fun Γ=>?_)
 exact gr 12 [8,7,10,9] [hW 19,hH (.frz 4),hH (.nilS 8 5 2),hH (.frz 5),hH (.nilS 11 5 2),rp 2 (hH (.num 1)),hW 10,hH (.frz 2),hH (.frz 6),hH (.nilB 0 4 2),hH (.nilB 0 5 2),hH (.nilB 1 2 1),hH (.frz 11),rp 4 (oO (Eq.refl ([(T_api_Point.mk 0 10)].map T_api_Point.enc).length)),rp 6 (oO (Eq.refl ([s_A_7fc5,s_B_9d5e].map e_str).length)),rp 4 (oO (Eq.refl ([(T_api_Arc.mk 0 1 0 5 [(T_api_Point.mk 0 10)] []),(T_api_Arc.mk 1 0 0 5 [(T_api_Point.mk 0 10)] [])].map T_api_Arc.enc).length)),rp 3 (oO (Eq.refl ([(T_api_Visit.mk 0 true)].map T_api_Visit.enc).length))]
theorem lorrylaw21_examples_ok {rv:Bool} (h:lorrylaw21_examples = some rv):AFn Tryz.prog 21 [] [] (one (.bool rv)) []:=by
 refine afn_of Tryz.func21 (by kernel_rfl) (by kernel_rfl) (fun Γ=>?_)
 unfold lorrylaw21_examples at h
 obtain ⟨r,h0,h⟩:=bnd_elim h
 obtain ⟨r1,h1,h⟩:=bnd_elim h
 obtain ⟨r2,h2,h⟩:=bnd_elim h
 rcases br_elim h with ⟨h3,h⟩|⟨h3,h⟩
 ·obtain rfl:=Option.some.inj h
  exact gr 16 [] [cC (lorrylaw21_sample_deep_ok),oO (Eq.refl 1),oO (Eq.refl ([1].map e_i64).length),oO (Eq.refl 1),oO (Eq.refl ([1].map e_i64).length),cC (AFn.weak [2] (route_Evaluate_ok h0)),oO (Eq.refl 1),oO (Eq.refl ([1].map e_i64).length),oO (Eq.refl 1),oO (Eq.refl ([1].map e_i64).length),cC (route_Works_ok h1),oO (Eq.refl 1),oO (Eq.refl ([1].map e_i64).length),oO (Eq.refl 1),oO (Eq.refl ([1].map e_i64).length),cC (route_Price_ok h2),rp 10 hP,oI ((neI r.2.2 0) = false),oR True ((neI r.2.2 0) = false),oI (((neI r.2.2 0) || (neI r1.2 0)) = false),oR True (((neI r.2.2 0) || (neI r1.2 0)) = false),rp 2 (oI ((((neI r.2.2 0) || (neI r1.2 0)) || (neI r2.2 0)) = false)),oR True ((((neI r.2.2 0) || (neI r1.2 0)) || (neI r2.2 0)) = false),rp 4 (bT h3),rp 7 tT]
 ·rcases br_elim h with ⟨h4,h⟩|⟨h4,h⟩
  ·obtain rfl:=Option.some.inj h
   exact gr 16 [] [cC (lorrylaw21_sample_deep_ok),oO (Eq.refl 1),oO (Eq.refl ([1].map e_i64).length),oO (Eq.refl 1),oO (Eq.refl ([1].map e_i64).length),cC (AFn.weak [2] (route_Evaluate_ok h0)),oO (Eq.refl 1),oO (Eq.refl ([1].map e_i64).length),oO (Eq.refl 1),oO (Eq.refl ([1].map e_i64).length),cC (route_Works_ok h1),oO (Eq.refl 1),oO (Eq.refl ([1].map e_i64).length),oO (Eq.refl 1),oO (Eq.refl ([1].map e_i64).length),cC (route_Price_ok h2),rp 10 hP,oI ((neI r.2.2 0) = false),oR True ((neI r.2.2 0) = false),oI (((neI r.2.2 0) || (neI r1.2 0)) = false),oR True (((neI r.2.2 0) || (neI r1.2 0)) = false),rp 2 (oI ((((neI r.2.2 0) || (neI r1.2 0)) || (neI r2.2 0)) = false)),oR True ((((neI r.2.2 0) || (neI r1.2 0)) || (neI r2.2 0)) = false),rp 4 (bF h3),rp 6 hP,oI ((!(eqI r.2.1.cost 82 && (eqI r.2.1.moved 0 && (eqI r.2.1.other 0 && (eqI r.2.1.work 0 && true))))) = false),oR True ((!(eqI r.2.1.cost 82 && (eqI r.2.1.moved 0 && (eqI r.2.1.other 0 && (eqI r.2.1.work 0 && true))))) = false),oI (((!(eqI r.2.1.cost 82 && (eqI r.2.1.moved 0 && (eqI r.2.1.other 0 && (eqI r.2.1.work 0 && true))))) || (neI r1.1 42)) = false),oR True (((!(eqI r.2.1.cost 82 && (eqI r.2.1.moved 0 && (eqI r.2.1.other 0 && (eqI r.2.1.work 0 && true))))) || (neI r1.1 42)) = false),bT h4]
  ·obtain ⟨r3,h5,h⟩:=bnd_elim h
   obtain ⟨x0,h6,h⟩:=bnd_elim h
   rcases br_elim h with ⟨h7,h⟩|⟨h7,h⟩
   ·obtain ⟨r4,h8,h⟩:=bnd_elim h
    rcases br_elim h with ⟨h9,h⟩|⟨h9,h⟩
    ·obtain ⟨r5,h10,h⟩:=bnd_elim h
     obtain rfl:=Option.some.inj h
     exact gr 25 [] [cC (lorrylaw21_sample_deep_ok),oO (Eq.refl 1),oO (Eq.refl ([1].map e_i64).length),oO (Eq.refl 1),oO (Eq.refl ([1].map e_i64).length),cC (AFn.weak [2] (route_Evaluate_ok h0)),oO (Eq.refl 1),oO (Eq.refl ([1].map e_i64).length),oO (Eq.refl 1),oO (Eq.refl ([1].map e_i64).length),cC (route_Works_ok h1),oO (Eq.refl 1),oO (Eq.refl ([1].map e_i64).length),oO (Eq.refl 1),oO (Eq.refl ([1].map e_i64).length),cC (route_Price_ok h2),rp 10 hP,oI ((neI r.2.2 0) = false),oR True ((neI r.2.2 0) = false),oI (((neI r.2.2 0) || (neI r1.2 0)) = false),oR True (((neI r.2.2 0) || (neI r1.2 0)) = false),rp 2 (oI ((((neI r.2.2 0) || (neI r1.2 0)) || (neI r2.2 0)) = false)),oR True ((((neI r.2.2 0) || (neI r1.2 0)) || (neI r2.2 0)) = false),rp 4 (bF h3),rp 6 hP,oI ((!(eqI r.2.1.cost 82 && (eqI r.2.1.moved 0 && (eqI r.2.1.other 0 && (eqI r.2.1.work 0 && true))))) = false),oR True ((!(eqI r.2.1.cost 82 && (eqI r.2.1.moved 0 && (eqI r.2.1.other 0 && (eqI r.2.1.work 0 && true))))) = false),oI (((!(eqI r.2.1.cost 82 && (eqI r.2.1.moved 0 && (eqI r.2.1.other 0 && (eqI r.2.1.work 0 && true))))) || (neI r1.1 42)) = false),oR True (((!(eqI r.2.1.cost 82 && (eqI r.2.1.moved 0 && (eqI r.2.1.other 0 && (eqI r.2.1.work 0 && true))))) || (neI r1.1 42)) = false),bF h4,oO (zL 0),oO (lT 0 1),oO (Eq.refl 1),oO (Eq.refl ([1].map e_i64).length),oO (Eq.refl 1),oO (Eq.refl ([1].map e_i64).length),cC (route_Valid_ok h5),oO (zL 0),oO (lT 0 1),oO (zL 0),oO (lT 0 1),oO (getLo h6),oO (getHi e_i64 h6),rE e_i64 h6,hH (.rows ((setI [1] 0 0).map e_i64)),hH (.relen 1 ((setI [1] 0 0).map e_i64).length),oO (setM e_i64 [1] 0 0),rp 2 (oO (lenSet e_i64 [1] 0 0)),rp 3 (bT h7),oO (Eq.refl 1),oO (Eq.refl ((setI [1] 0 0).map e_i64).length),oO (Eq.refl 1),oO (Eq.refl ([1].map e_i64).length),cC (route_Valid_ok h8),bT h7,bT h7,bT h9,bT h9,hH (.nilS 89 2 1),hH (.nilS 89 3 2),bT h9,oO (Eq.refl 1),oO (Eq.refl ((setI [1] 0 0).map e_i64).length),oO (Eq.refl 1),oO (Eq.refl ([1].map e_i64).length),cC (route_Valid_ok h10),bT h9,bT h9]
    ·obtain rfl:=Option.some.inj h
     exact gr 25 [] [cC (lorrylaw21_sample_deep_ok),oO (Eq.refl 1),oO (Eq.refl ([1].map e_i64).length),oO (Eq.refl 1),oO (Eq.refl ([1].map e_i64).length),cC (AFn.weak [2] (route_Evaluate_ok h0)),oO (Eq.refl 1),oO (Eq.refl ([1].map e_i64).length),oO (Eq.refl 1),oO (Eq.refl ([1].map e_i64).length),cC (route_Works_ok h1),oO (Eq.refl 1),oO (Eq.refl ([1].map e_i64).length),oO (Eq.refl 1),oO (Eq.refl ([1].map e_i64).length),cC (route_Price_ok h2),rp 10 hP,oI ((neI r.2.2 0) = false),oR True ((neI r.2.2 0) = false),oI (((neI r.2.2 0) || (neI r1.2 0)) = false),oR True (((neI r.2.2 0) || (neI r1.2 0)) = false),rp 2 (oI ((((neI r.2.2 0) || (neI r1.2 0)) || (neI r2.2 0)) = false)),oR True ((((neI r.2.2 0) || (neI r1.2 0)) || (neI r2.2 0)) = false),rp 4 (bF h3),rp 6 hP,oI ((!(eqI r.2.1.cost 82 && (eqI r.2.1.moved 0 && (eqI r.2.1.other 0 && (eqI r.2.1.work 0 && true))))) = false),oR True ((!(eqI r.2.1.cost 82 && (eqI r.2.1.moved 0 && (eqI r.2.1.other 0 && (eqI r.2.1.work 0 && true))))) = false),oI (((!(eqI r.2.1.cost 82 && (eqI r.2.1.moved 0 && (eqI r.2.1.other 0 && (eqI r.2.1.work 0 && true))))) || (neI r1.1 42)) = false),oR True (((!(eqI r.2.1.cost 82 && (eqI r.2.1.moved 0 && (eqI r.2.1.other 0 && (eqI r.2.1.work 0 && true))))) || (neI r1.1 42)) = false),bF h4,oO (zL 0),oO (lT 0 1),oO (Eq.refl 1),oO (Eq.refl ([1].map e_i64).length),oO (Eq.refl 1),oO (Eq.refl ([1].map e_i64).length),cC (route_Valid_ok h5),oO (zL 0),oO (lT 0 1),oO (zL 0),oO (lT 0 1),oO (getLo h6),oO (getHi e_i64 h6),rE e_i64 h6,hH (.rows ((setI [1] 0 0).map e_i64)),hH (.relen 1 ((setI [1] 0 0).map e_i64).length),oO (setM e_i64 [1] 0 0),rp 2 (oO (lenSet e_i64 [1] 0 0)),rp 3 (bT h7),oO (Eq.refl 1),oO (Eq.refl ((setI [1] 0 0).map e_i64).length),oO (Eq.refl 1),oO (Eq.refl ([1].map e_i64).length),cC (route_Valid_ok h8),bT h7,bT h7,rp 5 (bF h9)]
   ·obtain rfl:=Option.some.inj h
    exact gr 25 [] [cC (lorrylaw21_sample_deep_ok),oO (Eq.refl 1),oO (Eq.refl ([1].map e_i64).length),oO (Eq.refl 1),oO (Eq.refl ([1].map e_i64).length),cC (AFn.weak [2] (route_Evaluate_ok h0)),oO (Eq.refl 1),oO (Eq.refl ([1].map e_i64).length),oO (Eq.refl 1),oO (Eq.refl ([1].map e_i64).length),cC (route_Works_ok h1),oO (Eq.refl 1),oO (Eq.refl ([1].map e_i64).length),oO (Eq.refl 1),oO (Eq.refl ([1].map e_i64).length),cC (route_Price_ok h2),rp 10 hP,oI ((neI r.2.2 0) = false),oR True ((neI r.2.2 0) = false),oI (((neI r.2.2 0) || (neI r1.2 0)) = false),oR True (((neI r.2.2 0) || (neI r1.2 0)) = false),rp 2 (oI ((((neI r.2.2 0) || (neI r1.2 0)) || (neI r2.2 0)) = false)),oR True ((((neI r.2.2 0) || (neI r1.2 0)) || (neI r2.2 0)) = false),rp 4 (bF h3),rp 6 hP,oI ((!(eqI r.2.1.cost 82 && (eqI r.2.1.moved 0 && (eqI r.2.1.other 0 && (eqI r.2.1.work 0 && true))))) = false),oR True ((!(eqI r.2.1.cost 82 && (eqI r.2.1.moved 0 && (eqI r.2.1.other 0 && (eqI r.2.1.work 0 && true))))) = false),oI (((!(eqI r.2.1.cost 82 && (eqI r.2.1.moved 0 && (eqI r.2.1.other 0 && (eqI r.2.1.work 0 && true))))) || (neI r1.1 42)) = false),oR True (((!(eqI r.2.1.cost 82 && (eqI r.2.1.moved 0 && (eqI r.2.1.other 0 && (eqI r.2.1.work 0 && true))))) || (neI r1.1 42)) = false),bF h4,oO (zL 0),oO (lT 0 1),oO (Eq.refl 1),oO (Eq.refl ([1].map e_i64).length),oO (Eq.refl 1),oO (Eq.refl ([1].map e_i64).length),cC (route_Valid_ok h5),oO (zL 0),oO (lT 0 1),oO (zL 0),oO (lT 0 1),oO (getLo h6),oO (getHi e_i64 h6),rE e_i64 h6,hH (.rows ((setI [1] 0 0).map e_i64)),hH (.relen 1 ((setI [1] 0 0).map e_i64).length),oO (setM e_i64 [1] 0 0),rp 2 (oO (lenSet e_i64 [1] 0 0)),rp 5 (bF h7),rp 5 fF]
end Go.Proofs.YtfldlilicmbmkaaGreatDoor
