/- Part MV of the proof: texts V1. -/
import Derived.Test.YtfldlilicmbmkaaDoorMU
import Derived.Test.YtfldlilicmbmkaaDoorProg
namespace Go.Proofs.YtfldlilicmbmkaaDoor
set_option linter.unusedVariables false
set_option linter.unusedSectionVars false
set_option linter.unusedSimpArgs false
set_option maxHeartbeats 4000000
set_option maxRecDepth 100000
def slack_Slack_G (Γ:Gam) (rv:List Int × Int) (cf:Cf):Prop:=Go Tryd.prog Tryd.f7 [] Γ (.tup [.one (lL 1 rv.1 e_i64),.one (lI rv.2)]) [] cf
def slack_Slack_L2_C (Γ:Gam) (rv:List Int × Int) (x0:T_api_Instance) (r:T_api_Route) (s0:T_api_Sheet) (l:List Int) (v:Int) (n:Int):Prop:=slack_Slack_G Γ rv ⟨[.c 125336,.l 125336,.b 2,.c 31335,.b 1,.c 1959,.l 244,.b 0,.c 31],⟨48,[vP 3 0 6,vP 4 1 4,vP 5 2 5,vO 9 3 1 l e_i64,vI 10 v,vI 11 n,vI 24 (addK .i64 (lenI r.visits) 1),vI 25 v],[oX 6 30 (T_api_Instance.enc x0),oX 4 34 (T_api_Route.enc r),oX 5 37 (T_api_Sheet.enc s0),oS 1 3 l e_i64]⟩⟩
def slack_Slack_L2_D0 (Γ:Gam) (rv:List Int × Int) (x0:T_api_Instance) (r:T_api_Route) (s0:T_api_Sheet) (l:List Int) (v:Int) (n1:Int):Prop:=slack_Slack_G Γ rv ⟨[.c 31335,.b 1,.c 1959,.l 244,.b 0,.c 31],⟨48,[vP 3 0 6,vP 4 1 4,vP 5 2 5,vO 9 3 1 l e_i64,vI 11 n1,vI 24 (addK .i64 (lenI r.visits) 1),vI 25 v],[oX 6 30 (T_api_Instance.enc x0),oX 4 34 (T_api_Route.enc r),oX 5 37 (T_api_Sheet.enc s0),oS 1 3 l e_i64]⟩⟩
def slack_Slack_L1_C (Γ:Gam) (rv:List Int × Int) (x0:T_api_Instance) (r:T_api_Route) (s0:T_api_Sheet) (l:List Int) (v:Int):Prop:=slack_Slack_G Γ rv ⟨[.c 244,.l 244,.b 0,.c 31],⟨48,[vP 3 0 6,vP 4 1 4,vP 5 2 5,vO 9 3 1 l e_i64,vI 24 (addK .i64 (lenI r.visits) 1),vI 25 v],[oX 6 30 (T_api_Instance.enc x0),oX 4 34 (T_api_Route.enc r),oX 5 37 (T_api_Sheet.enc s0),oS 1 3 l e_i64]⟩⟩
def slack_Slack_L1_D0 (Γ:Gam) (rv:List Int × Int) (x0:T_api_Instance) (r:T_api_Route) (s0:T_api_Sheet) (l1:List Int):Prop:=slack_Slack_G Γ rv ⟨[.c 31],⟨48,[vO 9 0 1 l1 e_i64],[oS 1 3 l1 e_i64]⟩⟩
theorem slack_Slack_L2_ok (Γ:Gam) (rv:List Int × Int) {x0 r s0 l v} {s:Int} {e:Int} (h:loopF (fun s=>slack_Slack_L2 x0 r s0 l v s) s = some e) (hD:slack_Slack_L2_D0 Γ rv x0 r s0 l v e):slack_Slack_L2_C Γ rv x0 r s0 l v s:=by
 refine loop_ind (C:=fun (s:Int)=>slack_Slack_L2_C Γ rv x0 r s0 l v s) (D:=fun (e:Int)=>slack_Slack_L2_D0 Γ rv x0 r s0 l v e) ?_ h hD
 clear h hD s e
 intro n z_ h hI hE
 replace h:slack_Slack_L2 x0 r s0 l v n = _:=h
 unfold slack_Slack_L2 at h
 obtain ⟨r2,h3,h⟩:=bnd_elim h
 rcases br_elim h with ⟨h4,h⟩|⟨h4,h⟩
 ·exact gn 8 [3,4,5,9,11,24,25] [0,1,2,3] [cC (slack_late_ok h3),bT h4] (hE _ (oJ h))
 ·exact gn 11 [3,4,5,9,10,11,24,25] [0,1,2,3] [cC (slack_late_ok h3),bF h4] (hI _ (oJ h))
theorem slack_Slack_L1_ok (Γ:Gam) (rv:List Int × Int) {x0 r s0} {s:List Int × Int} {e:List Int} (h:loopF (fun s=>slack_Slack_L1 x0 r s0 s.1 s.2) s = some e) (hD:slack_Slack_L1_D0 Γ rv x0 r s0 e):slack_Slack_L1_C Γ rv x0 r s0 s.1 s.2:=by
 refine loop_ind (C:=fun (s:List Int × Int)=>slack_Slack_L1_C Γ rv x0 r s0 s.1 s.2) (D:=fun (e:List Int)=>slack_Slack_L1_D0 Γ rv x0 r s0 e) ?_ h hD
 clear h hD s e
 rintro ⟨l,v⟩ z_ h hI hE
 replace h:slack_Slack_L1 x0 r s0 l v = _:=h
 unfold slack_Slack_L1 at h
 rcases br_elim h with ⟨h2,h⟩|⟨h2,h⟩
 ·obtain ⟨e0,h5,h⟩:=bnd_elim h
  refine gn 14 [3,4,5,9,10,11,24,25] [0,1,2,3] [bT h2] (slack_Slack_L2_ok Γ rv h5 ?_)
  obtain ⟨n1,rfl⟩:∃ x,x = e0:=⟨_,rfl⟩
  replace h:(chk (okN (l ++ [n1]).length 8) (some (.inl ((l ++ [n1]),(addK .i64 v 1)))):Option ((List Int × Int) ⊕ (List Int))) = some _:=h
  obtain ⟨h6,h⟩:=chk_elim h
  exact gn 4 [3,4,5,9,24,25] [0,1,2,5] [oO (Eq.refl ([n1].map e_i64).length),aO e_i64 h6] (hI _ (oJ h))
 ·exact gn 5 [9] [3] [bF h2] (hE _ (oJ h))
theorem slack_Slack_ok {x0 r s0} {rv:List Int × Int} (h:slack_Slack x0 r s0 = some rv):AFn Tryd.prog 7 [.agg (T_api_Instance.enc x0),.agg (T_api_Route.enc r),.agg (T_api_Sheet.enc s0)] [] (.tup [.one (lL 1 rv.1 e_i64),.one (lI rv.2)]) []:=by
 refine afn_of Tryd.func7 (by kernel_rfl) (by kernel_rfl) (fun Γ=>?_)
 unfold slack_Slack at h
 obtain ⟨r1,h0,h⟩:=bnd_elim h
 rcases br_elim h with ⟨h1,h⟩|⟨h1,h⟩
 ·obtain rfl:=Option.some.inj h
  exact gr 10 [] [cC (drive_Valid_ok h0),bT h1,hW 5,hH (.nilS 6 0 1)]
 ·obtain ⟨e1,h7,h⟩:=bnd_elim h
  refine gn 16 [3,4,5,9,24,25] [0,1,2,3] [cC (drive_Valid_ok h0),bF h1,nL T_api_Visit.enc r.visits,hW 4,hH (.adopt 9 1 3)] (slack_Slack_L1_ok Γ rv h7 ?_)
  obtain ⟨l1,rfl⟩:∃ x,x = e1:=⟨_,rfl⟩
  replace h:(some (l1,0):Option (List Int × Int)) = some _:=h
  obtain rfl:=Option.some.inj h
  exact gr 2 [] [hW 5,hH (.frz 0),rp 3 (eL l1 e_i64)]
theorem slack_After_ok {x0 r s0 at_ ticks} {rv:T_api_Sheet × Int} (h:slack_After x0 r s0 at_ ticks = some rv):AFn Tryd.prog 8 [.agg (T_api_Instance.enc x0),.agg (T_api_Route.enc r),.agg (T_api_Sheet.enc s0),.one (lI at_),.one (lI ticks)] [] (.tup [.agg [.bool rv.1.rest_,lI rv.1.depart,lL 4 rv.1.times T_api_Time.enc,lI rv.1.end_,lI rv.1.miles],.one (lI rv.2)]) []:=by
 refine afn_of Tryd.func8 (by kernel_rfl) (by kernel_rfl) (fun Γ=>?_)
 unfold slack_After at h
 obtain ⟨r1,h0,h⟩:=bnd_elim h
 rcases br_elim h with ⟨h1,h⟩|⟨h1,h⟩
 ·obtain rfl:=Option.some.inj h
  exact gr 10 [] [cC (drive_Valid_ok h0),bT h1,hW 6,hH (.nilB 3 2 4)]
 ·rcases br_elim h with ⟨h2,h⟩|⟨h2,h⟩
  ·obtain rfl:=Option.some.inj h
   exact gr 15 [] [cC (drive_Valid_ok h0),bF h1,rp 4 hP,rp 2 (oI ((ltI at_ 0) = false)),nL T_api_Visit.enc r.visits,rp 8 hP,rp 2 (oI ((ltI at_ 0) = false)),oR True ((ltI at_ 0) = false),oI (((ltI at_ 0) || (gtI at_ (lenI r.visits))) = false),oR True (((ltI at_ 0) || (gtI at_ (lenI r.visits))) = false),oI ((((ltI at_ 0) || (gtI at_ (lenI r.visits))) || (ltI ticks 0)) = false),oR True ((((ltI at_ 0) || (gtI at_ (lenI r.visits))) || (ltI ticks 0)) = false),bT h2,hW 5,hH (.nilB 3 2 4)]
  ·obtain ⟨r2,h3,h⟩:=bnd_elim h
   obtain rfl:=Option.some.inj h
   exact gr 16 [] [cC (drive_Valid_ok h0),bF h1,rp 4 hP,rp 2 (oI ((ltI at_ 0) = false)),nL T_api_Visit.enc r.visits,rp 8 hP,rp 2 (oI ((ltI at_ 0) = false)),oR True ((ltI at_ 0) = false),oI (((ltI at_ 0) || (gtI at_ (lenI r.visits))) = false),oR True (((ltI at_ 0) || (gtI at_ (lenI r.visits))) = false),oI ((((ltI at_ 0) || (gtI at_ (lenI r.visits))) || (ltI ticks 0)) = false),oR True ((((ltI at_ 0) || (gtI at_ (lenI r.visits))) || (ltI ticks 0)) = false),bF h2,cC (slack_late_ok h3)]
theorem lorrylaw19_simple_ok {rv:T_lorrylaw19_Trip} (h:lorrylaw19_simple = some rv):AFn Tryd.prog 11 [] [] (gG [lL 1 rv.x.net.places e_str,lL 6 rv.x.net.arcs T_api_Arc.enc,lL 14 rv.x.types T_api_Type.enc,lL 16 rv.x.orders T_api_Order.enc,lL 2 rv.x.apart A2_Int.enc,lL 2 rv.x.before A2_Int.enc,lI rv.r.type_,lI rv.r.start,lL 1 rv.r.rests e_bool,lL 2 rv.r.visits T_api_Visit.enc,.bool rv.s.rest_,lI rv.s.depart,lL 4 rv.s.times T_api_Time.enc,lI rv.s.end_,lI rv.s.miles]) []:=by
 refine afn_of Tryd.func11 (by kernel_rfl) (by kernel_rfl) (fun Γ=>?_)
 unfold lorrylaw19_simple at h
 obtain rfl:=Option.some.inj h
 exact gr 14 [] [hW 15,hH (.frz 1),hH (.nilS 10 5 2),hH (.nilS 12 5 2),hW 22,hH (.frz 7),hW 2,hH (.frz 5),hW 15,hH (.frz 2),hH (.frz 3),hH (.frz 9),hH (.frz 10),hH (.frz 12),hH (.frz 13),hH (.nilB 0 4 2),hH (.nilB 0 5 2),hH (.nilB 0 8 1),rp 6 (oO (Eq.refl ([(T_api_Point.mk 0 20)].map T_api_Point.enc).length)),rp 4 (oO (Eq.refl ([5].map e_i64).length)),rp 4 (oO (Eq.refl ([1].map e_i64).length)),rp 9 (oO (Eq.refl ([s_hub_5261,s_ash_2852].map e_str).length)),rp 9 (oO (Eq.refl ([(T_api_Arc.mk 0 1 0 0 [(T_api_Point.mk 0 20)] []),(T_api_Arc.mk 1 0 0 0 [(T_api_Point.mk 0 20)] [])].map T_api_Arc.enc).length)),rp 6 (oO (Eq.refl ([(T_api_Type.mk s_van_957d 1 0 0 [5] 0 0 0 1000 1000 0 0 0 0)].map T_api_Type.enc).length)),rp 6 (oO (Eq.refl ([(T_api_Order.mk s_oa_bdcf [1] (T_api_Stop.mk (-1) 0 0 0) (T_api_Stop.mk 1 0 50 0) 0 0 1 (-1) (-1) false)].map T_api_Order.enc).length)),rp 4 (oO (Eq.refl ([(T_api_Visit.mk 0 true)].map T_api_Visit.enc).length)),rp 4 (oO (Eq.refl ([(T_api_Time.mk 20 20 20 false)].map T_api_Time.enc).length))]
def slack_Slack_own_G (Γ:Gam) (rv:List Int × Int) (cf:Cf):Prop:=Go Tryd.prog Tryd.f7 [] Γ (.tup [.one (lO 0 1 rv.1 e_i64),.one (lI rv.2)]) [oS 1 3 rv.1 e_i64] cf
def slack_Slack_own_L2_C (Γ:Gam) (rv:List Int × Int) (x0:T_api_Instance) (r:T_api_Route) (s0:T_api_Sheet) (l:List Int) (v:Int) (n:Int):Prop:=slack_Slack_own_G Γ rv ⟨[.c 125336,.l 125336,.b 2,.c 31335,.b 1,.c 1959,.l 244,.b 0,.c 31],⟨48,[vP 3 0 6,vP 4 1 4,vP 5 2 5,vO 9 3 1 l e_i64,vI 10 v,vI 11 n,vI 24 (addK .i64 (lenI r.visits) 1),vI 25 v],[oX 6 30 (T_api_Instance.enc x0),oX 4 34 (T_api_Route.enc r),oX 5 37 (T_api_Sheet.enc s0),oS 1 3 l e_i64]⟩⟩
def slack_Slack_own_L2_D0 (Γ:Gam) (rv:List Int × Int) (x0:T_api_Instance) (r:T_api_Route) (s0:T_api_Sheet) (l:List Int) (v:Int) (n1:Int):Prop:=slack_Slack_own_G Γ rv ⟨[.c 31335,.b 1,.c 1959,.l 244,.b 0,.c 31],⟨48,[vP 3 0 6,vP 4 1 4,vP 5 2 5,vO 9 3 1 l e_i64,vI 11 n1,vI 24 (addK .i64 (lenI r.visits) 1),vI 25 v],[oX 6 30 (T_api_Instance.enc x0),oX 4 34 (T_api_Route.enc r),oX 5 37 (T_api_Sheet.enc s0),oS 1 3 l e_i64]⟩⟩
def slack_Slack_own_L1_C (Γ:Gam) (rv:List Int × Int) (x0:T_api_Instance) (r:T_api_Route) (s0:T_api_Sheet) (l:List Int) (v:Int):Prop:=slack_Slack_own_G Γ rv ⟨[.c 244,.l 244,.b 0,.c 31],⟨48,[vP 3 0 6,vP 4 1 4,vP 5 2 5,vO 9 3 1 l e_i64,vI 24 (addK .i64 (lenI r.visits) 1),vI 25 v],[oX 6 30 (T_api_Instance.enc x0),oX 4 34 (T_api_Route.enc r),oX 5 37 (T_api_Sheet.enc s0),oS 1 3 l e_i64]⟩⟩
def slack_Slack_own_L1_D0 (Γ:Gam) (rv:List Int × Int) (x0:T_api_Instance) (r:T_api_Route) (s0:T_api_Sheet) (l1:List Int):Prop:=slack_Slack_own_G Γ rv ⟨[.c 31],⟨48,[vO 9 0 1 l1 e_i64],[oS 1 3 l1 e_i64]⟩⟩
theorem slack_Slack_own_L2_ok (Γ:Gam) (rv:List Int × Int) {x0 r s0 l v} {s:Int} {e:Int} (h:loopF (fun s=>slack_Slack_own_L2 x0 r s0 l v s) s = some e) (hD:slack_Slack_own_L2_D0 Γ rv x0 r s0 l v e):slack_Slack_own_L2_C Γ rv x0 r s0 l v s:=by
 refine loop_ind (C:=fun (s:Int)=>slack_Slack_own_L2_C Γ rv x0 r s0 l v s) (D:=fun (e:Int)=>slack_Slack_own_L2_D0 Γ rv x0 r s0 l v e) ?_ h hD
 clear h hD s e
 intro n z_ h hI hE
 replace h:slack_Slack_own_L2 x0 r s0 l v n = _:=h
 unfold slack_Slack_own_L2 at h
 obtain ⟨r2,h3,h⟩:=bnd_elim h
 rcases br_elim h with ⟨h4,h⟩|⟨h4,h⟩
 ·exact gn 8 [3,4,5,9,11,24,25] [0,1,2,3] [cC (slack_late_ok h3),bT h4] (hE _ (oJ h))
 ·exact gn 11 [3,4,5,9,10,11,24,25] [0,1,2,3] [cC (slack_late_ok h3),bF h4] (hI _ (oJ h))
theorem slack_Slack_own_L1_ok (Γ:Gam) (rv:List Int × Int) {x0 r s0} {s:List Int × Int} {e:List Int} (h:loopF (fun s=>slack_Slack_own_L1 x0 r s0 s.1 s.2) s = some e) (hD:slack_Slack_own_L1_D0 Γ rv x0 r s0 e):slack_Slack_own_L1_C Γ rv x0 r s0 s.1 s.2:=by
 refine loop_ind (C:=fun (s:List Int × Int)=>slack_Slack_own_L1_C Γ rv x0 r s0 s.1 s.2) (D:=fun (e:List Int)=>slack_Slack_own_L1_D0 Γ rv x0 r s0 e) ?_ h hD
 clear h hD s e
 rintro ⟨l,v⟩ z_ h hI hE
 replace h:slack_Slack_own_L1 x0 r s0 l v = _:=h
 unfold slack_Slack_own_L1 at h
 rcases br_elim h with ⟨h2,h⟩|⟨h2,h⟩
 ·obtain ⟨e0,h5,h⟩:=bnd_elim h
  refine gn 14 [3,4,5,9,10,11,24,25] [0,1,2,3] [bT h2] (slack_Slack_own_L2_ok Γ rv h5 ?_)
  obtain ⟨n1,rfl⟩:∃ x,x = e0:=⟨_,rfl⟩
  replace h:(chk (okN (l ++ [n1]).length 8) (some (.inl ((l ++ [n1]),(addK .i64 v 1)))):Option ((List Int × Int) ⊕ (List Int))) = some _:=h
  obtain ⟨h6,h⟩:=chk_elim h
  exact gn 4 [3,4,5,9,24,25] [0,1,2,5] [oO (Eq.refl ([n1].map e_i64).length),aO e_i64 h6] (hI _ (oJ h))
 ·exact gn 5 [9] [3] [bF h2] (hE _ (oJ h))
theorem slack_Slack_own_ok {x0 r s0} {rv:List Int × Int} (h:slack_Slack_own x0 r s0 = some rv):AFn Tryd.prog 7 [.agg (T_api_Instance.enc x0),.agg (T_api_Route.enc r),.agg (T_api_Sheet.enc s0)] [] (.tup [.one (lO 0 1 rv.1 e_i64),.one (lI rv.2)]) [oS 1 3 rv.1 e_i64]:=by
 refine afn_of Tryd.func7 (by kernel_rfl) (by kernel_rfl) (fun Γ=>?_)
 unfold slack_Slack_own at h
 obtain ⟨r1,h0,h⟩:=bnd_elim h
 rcases br_elim h with ⟨h1,h⟩|⟨h1,h⟩
 ·obtain rfl:=Option.some.inj h
  exact gr 10 [3] [cC (drive_Valid_ok h0),bT h1,hW 5,hH (.adopt 6 1 3)]
 ·obtain ⟨e1,h7,h⟩:=bnd_elim h
  refine gn 16 [3,4,5,9,24,25] [0,1,2,3] [cC (drive_Valid_ok h0),bF h1,nL T_api_Visit.enc r.visits,hW 4,hH (.adopt 9 1 3)] (slack_Slack_own_L1_ok Γ rv h7 ?_)
  obtain ⟨l1,rfl⟩:∃ x,x = e1:=⟨_,rfl⟩
  replace h:(some (l1,0):Option (List Int × Int)) = some _:=h
  obtain rfl:=Option.some.inj h
  exact gr 2 [0] []
def slack_Latest_G (Γ:Gam) (rv:List Int × Int) (cf:Cf):Prop:=Go Tryd.prog Tryd.f12 [] Γ (.tup [.one (lL 1 rv.1 e_i64),.one (lI rv.2)]) [] cf
def slack_Latest_L1_C (Γ:Gam) (rv:List Int × Int) (s0:T_api_Sheet) (r1:List Int × Int) (l:List Int) (v:Int):Prop:=slack_Latest_G Γ rv ⟨[.c 244,.l 244,.b 0,.c 31],⟨53,[vP 5 0 5,vO 8 1 1 l e_i64,vI 22 (lenI r1.1),vI 23 v],[oX 5 37 (T_api_Sheet.enc s0),oS 1 3 l e_i64]⟩⟩
def slack_Latest_L1_D0 (Γ:Gam) (rv:List Int × Int) (s0:T_api_Sheet) (r1:List Int × Int) (l1:List Int):Prop:=slack_Latest_G Γ rv ⟨[.c 31],⟨53,[vO 8 0 1 l1 e_i64],[oS 1 3 l1 e_i64]⟩⟩
theorem slack_Latest_L1_ok (Γ:Gam) (rv:List Int × Int) {s0 r1} {s:List Int × Int} {e:List Int} (h:loopF (fun s=>slack_Latest_L1 s0 r1 s.1 s.2) s = some e) (hD:slack_Latest_L1_D0 Γ rv s0 r1 e):slack_Latest_L1_C Γ rv s0 r1 s.1 s.2:=by
 refine loop_ind (C:=fun (s:List Int × Int)=>slack_Latest_L1_C Γ rv s0 r1 s.1 s.2) (D:=fun (e:List Int)=>slack_Latest_L1_D0 Γ rv s0 r1 e) ?_ h hD
 clear h hD s e
 rintro ⟨l,v⟩ z_ h hI hE
 replace h:slack_Latest_L1 s0 r1 l v = _:=h
 unfold slack_Latest_L1 at h
 rcases br_elim h with ⟨h2,h⟩|⟨h2,h⟩
 ·rcases br_elim h with ⟨h3,h⟩|⟨h3,h⟩
  ·obtain ⟨x1,h4,h⟩:=bnd_elim h
   obtain ⟨x2,h5,h⟩:=bnd_elim h
   exact gn 16 [5,8,22,23] [0,1] [bT h2,nL T_api_Time.enc s0.times,bT h3,hH (.draw 12 []),oO (getLo h4),oO (getHi e_i64 h4),rE e_i64 h4,cE T_api_Time.enc h5,oO (getLo h4),oO (getHi e_i64 h4),rE e_i64 h4,hH (.rows ((setI l v (addK .i64 x1 x2.arrive)).map e_i64)),hH (.relen 1 ((setI l v (addK .i64 x1 x2.arrive)).map e_i64).length),oO (setM e_i64 l v (addK .i64 x1 x2.arrive)),rp 2 (oO (lenSet e_i64 l v (addK .i64 x1 x2.arrive)))] (hI _ (oJ h))
  ·obtain ⟨x3,h6,h⟩:=bnd_elim h
   exact gn 16 [5,8,22,23] [0,1] [bT h2,nL T_api_Time.enc s0.times,bF h3,hH (.draw 8 []),oO (getLo h6),oO (getHi e_i64 h6),rE e_i64 h6,oO (getLo h6),oO (getHi e_i64 h6),rE e_i64 h6,hH (.rows ((setI l v (addK .i64 x3 s0.end_)).map e_i64)),hH (.relen 1 ((setI l v (addK .i64 x3 s0.end_)).map e_i64).length),oO (setM e_i64 l v (addK .i64 x3 s0.end_)),rp 2 (oO (lenSet e_i64 l v (addK .i64 x3 s0.end_)))] (hI _ (oJ h))
 ·exact gn 5 [8] [1] [bF h2] (hE _ (oJ h))
theorem slack_Latest_ok {x0 r s0} {rv:List Int × Int} (h:slack_Latest x0 r s0 = some rv):AFn Tryd.prog 12 [.agg (T_api_Instance.enc x0),.agg (T_api_Route.enc r),.agg (T_api_Sheet.enc s0)] [] (.tup [.one (lL 1 rv.1 e_i64),.one (lI rv.2)]) []:=by
 refine afn_of Tryd.func12 (by kernel_rfl) (by kernel_rfl) (fun Γ=>?_)
 unfold slack_Latest at h
 obtain ⟨r1,h0,h⟩:=bnd_elim h
 rcases br_elim h with ⟨h1,h⟩|⟨h1,h⟩
 ·obtain rfl:=Option.some.inj h
  exact gr 10 [] [cC (slack_Slack_own_ok h0),bT h1,hW 5,hH (.nilS 6 0 1)]
 ·obtain ⟨e0,h7,h⟩:=bnd_elim h
  refine gn 14 [5,8,22,23] [2,3] [cC (slack_Slack_own_ok h0),bF h1,nL e_i64 r1.1] (slack_Latest_L1_ok Γ rv h7 ?_)
  obtain ⟨l1,rfl⟩:∃ x,x = e0:=⟨_,rfl⟩
  replace h:(some (l1,0):Option (List Int × Int)) = some _:=h
  obtain rfl:=Option.some.inj h
  exact gr 2 [] [hW 5,hH (.frz 0),rp 3 (eL l1 e_i64)]
def lorrylaw19_numbers_G (Γ:Gam) (rv:Bool) (cf:Cf):Prop:=Go Tryd.prog Tryd.f13 [] Γ (one (.bool rv)) [] cf
def lorrylaw19_numbers_L1_C (Γ:Gam) (rv:Bool) (a:List Int) (b:List Int) (i:Int):Prop:=lorrylaw19_numbers_G Γ rv ⟨[.c 116,.l 116,.b 0,.c 15],⟨26,[vL 0 1 a e_i64,vL 1 1 b e_i64,vI 5 i],[]⟩⟩
def lorrylaw19_numbers_L1_D0 (Γ:Gam) (rv:Bool) (a:List Int) (b:List Int):Prop:=lorrylaw19_numbers_G Γ rv ⟨[.c 15],⟨26,[],[]⟩⟩
theorem lorrylaw19_numbers_L1_ok (Γ:Gam) (rv:Bool) {a b} {s:Int} {e:(Unit) ⊕ (Bool)} (h:loopF (fun s=>lorrylaw19_numbers_L1 a b s) s = some e) (hD:sel e (fun e=>lorrylaw19_numbers_L1_D0 Γ rv a b) (fun e=>e = rv)):lorrylaw19_numbers_L1_C Γ rv a b s:=by
 refine loop_ind (C:=fun (s:Int)=>lorrylaw19_numbers_L1_C Γ rv a b s) (D:=fun (e:(Unit) ⊕ (Bool))=>sel e (fun e=>lorrylaw19_numbers_L1_D0 Γ rv a b) (fun e=>e = rv)) ?_ h hD
 clear h hD s e
 intro i z_ h hI hE
 replace h:lorrylaw19_numbers_L1 a b i = _:=h
 unfold lorrylaw19_numbers_L1 at h
 rcases br_elim h with ⟨h1,h⟩|⟨h1,h⟩
 ·obtain ⟨x0,h2,h⟩:=bnd_elim h
  obtain ⟨x1,h3,h⟩:=bnd_elim h
  rcases br_elim h with ⟨h4,h⟩|⟨h4,h⟩
  ·obtain rfl:=(hE _ (oJ h):_ = rv)
   exact gr 12 [] [nL e_i64 a,bT h1,hH (.draw 9 []),cE e_i64 h2,cE e_i64 h3,bT h4]
  ·exact gn 14 [0,1,5] [] [nL e_i64 a,bT h1,hH (.draw 9 []),cE e_i64 h2,cE e_i64 h3,bF h4] (hI _ (oJ h))
 ·exact gn 5 [] [] [nL e_i64 a,bF h1] (hE _ (oJ h))
theorem lorrylaw19_numbers_ok {a b} {rv:Bool} (h:lorrylaw19_numbers a b = some rv):AFn Tryd.prog 13 [.one (lL 1 a e_i64),.one (lL 1 b e_i64)] [] (one (.bool rv)) []:=by
 refine afn_of Tryd.func13 (by kernel_rfl) (by kernel_rfl) (fun Γ=>?_)
 unfold lorrylaw19_numbers at h
 rcases br_elim h with ⟨h0,h⟩|⟨h0,h⟩
 ·obtain rfl:=Option.some.inj h
  exact gr 8 [] [nL e_i64 a,nL e_i64 b,bT h0]
 ·obtain ⟨e0,h5,h⟩:=bnd_elim h
  refine gn 12 [0,1,5] [] [nL e_i64 a,nL e_i64 b,bF h0] (lorrylaw19_numbers_L1_ok Γ rv h5 ?_)
  rcases e0 with e0|e0
  ·replace h:(some true:Option Bool) = some _:=h
   obtain rfl:=Option.some.inj h
   exact gr 2 [] []
  ·obtain ⟨r,rfl⟩:∃ x,x = e0:=⟨_,rfl⟩
   replace h:(some r:Option Bool) = some _:=h
   exact Option.some.inj h
theorem lorrylaw19_awake_ok {rv:Bool} (h:lorrylaw19_awake = some rv):AFn Tryd.prog 6 [] [] (one (.bool rv)) []:=by
 refine afn_of Tryd.func6 (by kernel_rfl) (by kernel_rfl) (fun Γ=>?_)
 unfold lorrylaw19_awake at h
 obtain ⟨r,h0,h⟩:=bnd_elim h
 obtain ⟨r1,h1,h⟩:=bnd_elim h
 obtain ⟨r2,h2,h⟩:=bnd_elim h
 obtain ⟨r3,h3,h⟩:=bnd_elim h
 obtain ⟨r4,h4,h⟩:=bnd_elim h
 rcases br_elim h with ⟨h5,h⟩|⟨h5,h⟩
 ·obtain ⟨r5,h6,h⟩:=bnd_elim h
  rcases br_elim h with ⟨h7,h⟩|⟨h7,h⟩
  ·obtain ⟨r6,h8,h⟩:=bnd_elim h
   obtain rfl:=Option.some.inj h
   exact gr 14 [] [cC (lorrylaw19_simple_ok h0),cC (slack_Slack_ok h1),cC (slack_Latest_ok h2),cC (slack_After_ok h3),cC (slack_After_ok h4),rp 3 (bT h5),oO (Eq.refl ([30,960].map e_i64).length),cC (lorrylaw19_numbers_ok h6),bT h5,hP,hP,hP,oI (r5 = true),oR True (r5 = true),rp 3 (bT h7),oO (Eq.refl ([50,1000].map e_i64).length),cC (lorrylaw19_numbers_ok h8),bT h7,rp 10 hP,oI (r6 = true),oR True (r6 = true),rp 2 (oI ((r6 && (eqI r3.2 0)) = true)),oR True ((r6 && (eqI r3.2 0)) = true),oI (((r6 && (eqI r3.2 0)) && (eqI r3.1.end_ 70)) = true),oR True (((r6 && (eqI r3.2 0)) && (eqI r3.1.end_ 70)) = true)]
  ·obtain rfl:=Option.some.inj h
   exact gr 14 [] [cC (lorrylaw19_simple_ok h0),cC (slack_Slack_ok h1),cC (slack_Latest_ok h2),cC (slack_After_ok h3),cC (slack_After_ok h4),rp 3 (bT h5),oO (Eq.refl ([30,960].map e_i64).length),cC (lorrylaw19_numbers_ok h6),bT h5,hP,hP,hP,oI (r5 = true),oR True (r5 = true),rp 4 (bF h7),rp 10 fF]
 ·obtain rfl:=Option.some.inj h
  exact gr 14 [] [cC (lorrylaw19_simple_ok h0),cC (slack_Slack_ok h1),cC (slack_Latest_ok h2),cC (slack_After_ok h3),cC (slack_After_ok h4),rp 4 (bF h5),rp 17 fF]
def lorrylaw19_SlackExact_G (Γ:Gam) (rv:Bool) (cf:Cf):Prop:=Go Tryd.prog Tryd.f3 [] Γ (one (.bool rv)) [] cf
def lorrylaw19_SlackExact_L1_C (Γ:Gam) (rv:Bool) (t:T_lorrylaw19_Trip) (late:Int) (r:Bool) (r1:List Int × Int) (i:Int):Prop:=lorrylaw19_SlackExact_G Γ rv ⟨[.c 1012,.l 1012,.b 0,.c 127],⟨126,[vI 1 late,vP 2 0 15,vL 5 1 r1.1 e_i64,vI 7 i],[oX 15 39 (T_lorrylaw19_Trip.enc t)]⟩⟩
def lorrylaw19_SlackExact_L1_D0 (Γ:Gam) (rv:Bool) (t:T_lorrylaw19_Trip) (late:Int) (r:Bool) (r1:List Int × Int):Prop:=lorrylaw19_SlackExact_G Γ rv ⟨[.c 127],⟨126,[],[]⟩⟩
theorem lorrylaw19_SlackExact_L1_ok (Γ:Gam) (rv:Bool) {t late r r1} {s:Int} {e:(Unit) ⊕ (Bool)} (h:loopF (fun s=>lorrylaw19_SlackExact_L1 t late r r1 s) s = some e) (hD:sel e (fun e=>lorrylaw19_SlackExact_L1_D0 Γ rv t late r r1) (fun e=>e = rv)):lorrylaw19_SlackExact_L1_C Γ rv t late r r1 s:=by
 refine loop_ind (C:=fun (s:Int)=>lorrylaw19_SlackExact_L1_C Γ rv t late r r1 s) (D:=fun (e:(Unit) ⊕ (Bool))=>sel e (fun e=>lorrylaw19_SlackExact_L1_D0 Γ rv t late r r1) (fun e=>e = rv)) ?_ h hD
 clear h hD s e
 intro i z_ h hI hE
 replace h:lorrylaw19_SlackExact_L1 t late r r1 i = _:=h
 unfold lorrylaw19_SlackExact_L1 at h
 rcases br_elim h with ⟨h7,h⟩|⟨h7,h⟩
 ·obtain ⟨x0,h8,h⟩:=bnd_elim h
  obtain ⟨r3,h9,h⟩:=bnd_elim h
  obtain ⟨r4,h10,h⟩:=bnd_elim h
  rcases br_elim h with ⟨h11,h⟩|⟨h11,h⟩
  ·obtain rfl:=(hE _ (oJ h):_ = rv)
   exact gr 17 [] [nL e_i64 r1.1,bT h7,hH (.draw 18 [(1,16)]),cE e_i64 h8,cC (slack_After_ok h9),hH (.draw 19 [(2,17)]),cE e_i64 h8,cC (slack_After_ok h10),cE e_i64 h8,hP,hP,hP,oI ((ltI x0 0) = false),oR True ((ltI x0 0) = false),rp 6 (bT h11),kF,kF,rp 2 (bT h11),tT]
  ·rcases br_elim h with ⟨h12,h⟩|⟨h12,h⟩
   ·obtain rfl:=(hE _ (oJ h):_ = rv)
    exact gr 17 [] [nL e_i64 r1.1,bT h7,hH (.draw 18 [(1,16)]),cE e_i64 h8,cC (slack_After_ok h9),hH (.draw 19 [(2,17)]),cE e_i64 h8,cC (slack_After_ok h10),cE e_i64 h8,hP,hP,hP,oI ((ltI x0 0) = false),oR True ((ltI x0 0) = false),rp 3 (bF h11),cE e_i64 h8,rp 3 (bF h11),hP,hP,oI ((ltI x0 4096) = true),bF h11,hP,oR True ((ltI x0 4096) = true),bF h11,bT h12]
   ·rcases br_elim h with ⟨h13,h⟩|⟨h13,h⟩
    ·rcases br_elim h with ⟨h14,h⟩|⟨h14,h⟩
     ·obtain ⟨r5,h15,h⟩:=bnd_elim h
      rcases br_elim h with ⟨h16,h⟩|⟨h16,h⟩
      ·obtain rfl:=(hE _ (oJ h):_ = rv)
       exact gr 26 [] [nL e_i64 r1.1,bT h7,hH (.draw 18 [(1,16)]),cE e_i64 h8,cC (slack_After_ok h9),hH (.draw 19 [(2,17)]),cE e_i64 h8,cC (slack_After_ok h10),cE e_i64 h8,hP,hP,hP,oI ((ltI x0 0) = false),oR True ((ltI x0 0) = false),rp 3 (bF h11),cE e_i64 h8,rp 3 (bF h11),hP,hP,oI ((ltI x0 4096) = true),bF h11,hP,oR True ((ltI x0 4096) = true),bF h11,bF h12,rp 4 (bT h13),cE e_i64 h8,rp 3 (bT h13),bT h14,cC (slack_After_ok h15),bT h16]
      ·exact gn 28 [1,2,5,7] [0] [nL e_i64 r1.1,bT h7,hH (.draw 18 [(1,16)]),cE e_i64 h8,cC (slack_After_ok h9),hH (.draw 19 [(2,17)]),cE e_i64 h8,cC (slack_After_ok h10),cE e_i64 h8,hP,hP,hP,oI ((ltI x0 0) = false),oR True ((ltI x0 0) = false),rp 3 (bF h11),cE e_i64 h8,rp 3 (bF h11),hP,hP,oI ((ltI x0 4096) = true),bF h11,hP,oR True ((ltI x0 4096) = true),bF h11,bF h12,rp 4 (bT h13),cE e_i64 h8,rp 3 (bT h13),bT h14,cC (slack_After_ok h15),bF h16] (hI _ (oJ h))
     ·exact gn 23 [1,2,5,7] [0] [nL e_i64 r1.1,bT h7,hH (.draw 18 [(1,16)]),cE e_i64 h8,cC (slack_After_ok h9),hH (.draw 19 [(2,17)]),cE e_i64 h8,cC (slack_After_ok h10),cE e_i64 h8,hP,hP,hP,oI ((ltI x0 0) = false),oR True ((ltI x0 0) = false),rp 3 (bF h11),cE e_i64 h8,rp 3 (bF h11),hP,hP,oI ((ltI x0 4096) = true),bF h11,hP,oR True ((ltI x0 4096) = true),bF h11,bF h12,rp 4 (bT h13),cE e_i64 h8,rp 3 (bT h13),bF h14] (hI _ (oJ h))
    ·exact gn 23 [1,2,5,7] [0] [nL e_i64 r1.1,bT h7,hH (.draw 18 [(1,16)]),cE e_i64 h8,cC (slack_After_ok h9),hH (.draw 19 [(2,17)]),cE e_i64 h8,cC (slack_After_ok h10),cE e_i64 h8,hP,hP,hP,oI ((ltI x0 0) = false),oR True ((ltI x0 0) = false),rp 3 (bF h11),cE e_i64 h8,rp 3 (bF h11),hP,hP,oI ((ltI x0 4096) = true),bF h11,hP,oR True ((ltI x0 4096) = true),bF h11,bF h12,rp 7 (bF h13),fF] (hI _ (oJ h))
 ·exact gn 5 [] [] [nL e_i64 r1.1,bF h7] (hE _ (oJ h))
theorem lorrylaw19_SlackExact_ok {t late} {rv:Bool} (h:lorrylaw19_SlackExact t late = some rv):AFn Tryd.prog 3 [.agg (T_lorrylaw19_Trip.enc t),.one (lI late)] [] (one (.bool rv)) []:=by
 refine afn_of Tryd.func3 (by kernel_rfl) (by kernel_rfl) (fun Γ=>?_)
 unfold lorrylaw19_SlackExact at h
 obtain ⟨r,h0,h⟩:=bnd_elim h
 rcases br_elim h with ⟨h1,h⟩|⟨h1,h⟩
 ·obtain ⟨r1,h2,h⟩:=bnd_elim h
  rcases br_elim h with ⟨h3,h⟩|⟨h3,h⟩
  ·rcases br_elim h with ⟨h4,h⟩|⟨h4,h⟩
   ·obtain ⟨r2,h5,h⟩:=bnd_elim h
    obtain rfl:=Option.some.inj h
    exact gr 15 [] [cC (lorrylaw19_few_ok h0),nF h1,cC (slack_Slack_ok h2),bT h3,nL e_i64 r1.1,bT h4,cC (lorrylaw19_awake_ok h5),bT h4]
   ·obtain rfl:=Option.some.inj h
    exact gr 15 [] [cC (lorrylaw19_few_ok h0),nF h1,cC (slack_Slack_ok h2),bT h3,nL e_i64 r1.1,bF h4,bF h4]
  ·rcases br_elim h with ⟨h6,h⟩|⟨h6,h⟩
   ·obtain rfl:=Option.some.inj h
    exact gr 20 [] [cC (lorrylaw19_few_ok h0),nF h1,cC (slack_Slack_ok h2),bF h3,nL e_i64 r1.1,nL T_api_Visit.enc t.r.visits,bT h6]
   ·obtain ⟨e0,h17,h⟩:=bnd_elim h
    refine gn 24 [1,2,5,7] [0] [cC (lorrylaw19_few_ok h0),nF h1,cC (slack_Slack_ok h2),bF h3,nL e_i64 r1.1,nL T_api_Visit.enc t.r.visits,bF h6] (lorrylaw19_SlackExact_L1_ok Γ rv h17 ?_)
    rcases e0 with e0|e0
    ·replace h:(bnd (lorrylaw19_awake) fun r6=>some r6:Option Bool) = some _:=h
     obtain ⟨r6,h18,h⟩:=bnd_elim h
     obtain rfl:=Option.some.inj h
     exact gr 2 [] [cC (lorrylaw19_awake_ok h18)]
    ·obtain ⟨r7,rfl⟩:∃ x,x = e0:=⟨_,rfl⟩
     replace h:(some r7:Option Bool) = some _:=h
     exact Option.some.inj h
 ·obtain ⟨r8,h19,h⟩:=bnd_elim h
  obtain rfl:=Option.some.inj h
  exact gr 8 [] [cC (lorrylaw19_few_ok h0),nT h1,cC (lorrylaw19_awake_ok h19)]
def lorrylaw19_sheets_G (Γ:Gam) (rv:Bool) (cf:Cf):Prop:=Go Tryd.prog Tryd.f9 [] Γ (one (.bool rv)) [] cf
def lorrylaw19_sheets_L1_C (Γ:Gam) (rv:Bool) (a:T_api_Sheet) (b:T_api_Sheet) (i:Int):Prop:=lorrylaw19_sheets_G Γ rv ⟨[.c 116,.l 116,.b 0,.c 15],⟨59,[vP 2 0 5,vP 3 1 5,vI 5 i],[oX 5 37 (T_api_Sheet.enc a),oX 5 37 (T_api_Sheet.enc b)]⟩⟩
def lorrylaw19_sheets_L1_D0 (Γ:Gam) (rv:Bool) (a:T_api_Sheet) (b:T_api_Sheet):Prop:=lorrylaw19_sheets_G Γ rv ⟨[.c 15],⟨59,[],[]⟩⟩
theorem lorrylaw19_sheets_L1_ok (Γ:Gam) (rv:Bool) {a b} {s:Int} {e:(Unit) ⊕ (Bool)} (h:loopF (fun s=>lorrylaw19_sheets_L1 a b s) s = some e) (hD:sel e (fun e=>lorrylaw19_sheets_L1_D0 Γ rv a b) (fun e=>e = rv)):lorrylaw19_sheets_L1_C Γ rv a b s:=by
 refine loop_ind (C:=fun (s:Int)=>lorrylaw19_sheets_L1_C Γ rv a b s) (D:=fun (e:(Unit) ⊕ (Bool))=>sel e (fun e=>lorrylaw19_sheets_L1_D0 Γ rv a b) (fun e=>e = rv)) ?_ h hD
 clear h hD s e
 intro i z_ h hI hE
 replace h:lorrylaw19_sheets_L1 a b i = _:=h
 unfold lorrylaw19_sheets_L1 at h
 rcases br_elim h with ⟨h1,h⟩|⟨h1,h⟩
 ·obtain ⟨x0,h2,h⟩:=bnd_elim h
  obtain ⟨x1,h3,h⟩:=bnd_elim h
  rcases br_elim h with ⟨h4,h⟩|⟨h4,h⟩
  ·exact gn 14 [2,3,5] [0,1] [nL T_api_Time.enc a.times,bT h1,hH (.draw 11 []),cE T_api_Time.enc h2,cE T_api_Time.enc h3,nF h4] (hI _ (oJ h))
  ·obtain rfl:=(hE _ (oJ h):_ = rv)
   exact gr 12 [] [nL T_api_Time.enc a.times,bT h1,hH (.draw 11 []),cE T_api_Time.enc h2,cE T_api_Time.enc h3,nT h4]
 ·exact gn 5 [] [] [nL T_api_Time.enc a.times,bF h1] (hE _ (oJ h))
theorem lorrylaw19_sheets_ok {a b} {rv:Bool} (h:lorrylaw19_sheets a b = some rv):AFn Tryd.prog 9 [.agg (T_api_Sheet.enc a),.agg (T_api_Sheet.enc b)] [] (one (.bool rv)) []:=by
 refine afn_of Tryd.func9 (by kernel_rfl) (by kernel_rfl) (fun Γ=>?_)
 unfold lorrylaw19_sheets at h
 rcases br_elim h with ⟨h0,h⟩|⟨h0,h⟩
 ·obtain rfl:=Option.some.inj h
  exact gr 8 [] [rp 21 hP,rp 4 (oI ((!eqB a.rest_ b.rest_) = false)),oR True ((!eqB a.rest_ b.rest_) = false),rp 4 (oI (((!eqB a.rest_ b.rest_) || (neI a.depart b.depart)) = false)),oR True (((!eqB a.rest_ b.rest_) || (neI a.depart b.depart)) = false),rp 4 (oI ((((!eqB a.rest_ b.rest_) || (neI a.depart b.depart)) || (neI a.end_ b.end_)) = false)),oR True ((((!eqB a.rest_ b.rest_) || (neI a.depart b.depart)) || (neI a.end_ b.end_)) = false),rp 2 (oI (((((!eqB a.rest_ b.rest_) || (neI a.depart b.depart)) || (neI a.end_ b.end_)) || (neI a.miles b.miles)) = false)),nL T_api_Time.enc a.times,hP,hP,hP,rp 2 (oI (((((!eqB a.rest_ b.rest_) || (neI a.depart b.depart)) || (neI a.end_ b.end_)) || (neI a.miles b.miles)) = false)),nL T_api_Time.enc b.times,hP,hP,rp 2 (oI (((((!eqB a.rest_ b.rest_) || (neI a.depart b.depart)) || (neI a.end_ b.end_)) || (neI a.miles b.miles)) = false)),oR True (((((!eqB a.rest_ b.rest_) || (neI a.depart b.depart)) || (neI a.end_ b.end_)) || (neI a.miles b.miles)) = false),bT h0]
 ·obtain ⟨e0,h5,h⟩:=bnd_elim h
  refine gn 12 [2,3,5] [0,1] [rp 21 hP,rp 4 (oI ((!eqB a.rest_ b.rest_) = false)),oR True ((!eqB a.rest_ b.rest_) = false),rp 4 (oI (((!eqB a.rest_ b.rest_) || (neI a.depart b.depart)) = false)),oR True (((!eqB a.rest_ b.rest_) || (neI a.depart b.depart)) = false),rp 4 (oI ((((!eqB a.rest_ b.rest_) || (neI a.depart b.depart)) || (neI a.end_ b.end_)) = false)),oR True ((((!eqB a.rest_ b.rest_) || (neI a.depart b.depart)) || (neI a.end_ b.end_)) = false),rp 2 (oI (((((!eqB a.rest_ b.rest_) || (neI a.depart b.depart)) || (neI a.end_ b.end_)) || (neI a.miles b.miles)) = false)),nL T_api_Time.enc a.times,hP,hP,hP,rp 2 (oI (((((!eqB a.rest_ b.rest_) || (neI a.depart b.depart)) || (neI a.end_ b.end_)) || (neI a.miles b.miles)) = false)),nL T_api_Time.enc b.times,hP,hP,rp 2 (oI (((((!eqB a.rest_ b.rest_) || (neI a.depart b.depart)) || (neI a.end_ b.end_)) || (neI a.miles b.miles)) = false)),oR True (((((!eqB a.rest_ b.rest_) || (neI a.depart b.depart)) || (neI a.end_ b.end_)) || (neI a.miles b.miles)) = false),bF h0] (lorrylaw19_sheets_L1_ok Γ rv h5 ?_)
  rcases e0 with e0|e0
  ·replace h:(some true:Option Bool) = some _:=h
   obtain rfl:=Option.some.inj h
   exact gr 2 [] []
  ·obtain ⟨r,rfl⟩:∃ x,x = e0:=⟨_,rfl⟩
   replace h:(some r:Option Bool) = some _:=h
   exact Option.some.inj h
def lorrylaw19_SlackKeeps_G (Γ:Gam) (rv:Bool) (cf:Cf):Prop:=Go Tryd.prog Tryd.f4 [] Γ (one (.bool rv)) [] cf
def lorrylaw19_SlackKeeps_L1_C (Γ:Gam) (rv:Bool) (t:T_lorrylaw19_Trip) (at_:Int) (r3:T_api_Sheet × Int) (i:Int):Prop:=lorrylaw19_SlackKeeps_G Γ rv ⟨[.c 4084,.l 4084,.b 0,.c 511],⟨147,[vI 1 at_,vP 3 0 15,vP 9 1 5,vI 11 i],[oX 15 39 (T_lorrylaw19_Trip.enc t),oX 5 37 (T_api_Sheet.enc r3.1)]⟩⟩
def lorrylaw19_SlackKeeps_L1_D0 (Γ:Gam) (rv:Bool) (t:T_lorrylaw19_Trip) (at_:Int) (r3:T_api_Sheet × Int):Prop:=lorrylaw19_SlackKeeps_G Γ rv ⟨[.c 511],⟨147,[],[]⟩⟩
def lorrylaw19_SlackKeeps_L2_C (Γ:Gam) (rv:Bool) (t:T_lorrylaw19_Trip) (at_:Int) (r7:T_api_Sheet × Int) (i1:Int):Prop:=lorrylaw19_SlackKeeps_G Γ rv ⟨[.c 4084,.l 4084,.b 0,.c 511],⟨147,[vI 1 at_,vP 3 0 15,vP 9 1 5,vI 11 i1],[oX 15 39 (T_lorrylaw19_Trip.enc t),oX 5 37 (T_api_Sheet.enc r7.1)]⟩⟩
def lorrylaw19_SlackKeeps_L2_D0 (Γ:Gam) (rv:Bool) (t:T_lorrylaw19_Trip) (at_:Int) (r7:T_api_Sheet × Int):Prop:=lorrylaw19_SlackKeeps_G Γ rv ⟨[.c 511],⟨147,[],[]⟩⟩
theorem lorrylaw19_SlackKeeps_L1_ok (Γ:Gam) (rv:Bool) {t at_ r3} {s:Int} {e:(Unit) ⊕ (Bool)} (h:loopF (fun s=>lorrylaw19_SlackKeeps_L1 t at_ r3 s) s = some e) (hD:sel e (fun e=>lorrylaw19_SlackKeeps_L1_D0 Γ rv t at_ r3) (fun e=>e = rv)):lorrylaw19_SlackKeeps_L1_C Γ rv t at_ r3 s:=by
 refine loop_ind (C:=fun (s:Int)=>lorrylaw19_SlackKeeps_L1_C Γ rv t at_ r3 s) (D:=fun (e:(Unit) ⊕ (Bool))=>sel e (fun e=>lorrylaw19_SlackKeeps_L1_D0 Γ rv t at_ r3) (fun e=>e = rv)) ?_ h hD
 clear h hD s e
 intro i z_ h hI hE
 replace h:lorrylaw19_SlackKeeps_L1 t at_ r3 i = _:=h
 unfold lorrylaw19_SlackKeeps_L1 at h
 rcases br_elim h with ⟨h11,h⟩|⟨h11,h⟩
 ·obtain ⟨x0,h12,h⟩:=bnd_elim h
  obtain ⟨x1,h13,h⟩:=bnd_elim h
  rcases br_elim h with ⟨h14,h⟩|⟨h14,h⟩
  ·obtain rfl:=(hE _ (oJ h):_ = rv)
   exact gr 16 [] [nL T_api_Time.enc r3.1.times,bT h11,cE T_api_Time.enc h12,cE T_api_Time.enc h13,rp 28 hP,rp 4 (oI ((ltI x1.arrive x0.arrive) = false)),oR True ((ltI x1.arrive x0.arrive) = false),rp 4 (oI (((ltI x1.arrive x0.arrive) || (ltI x1.begin x0.begin)) = false)),oR True (((ltI x1.arrive x0.arrive) || (ltI x1.begin x0.begin)) = false),rp 4 (oI ((((ltI x1.arrive x0.arrive) || (ltI x1.begin x0.begin)) || (ltI x1.depart x0.depart)) = false)),oR True ((((ltI x1.arrive x0.arrive) || (ltI x1.begin x0.begin)) || (ltI x1.depart x0.depart)) = false),rp 3 (oI (((((ltI x1.arrive x0.arrive) || (ltI x1.begin x0.begin)) || (ltI x1.depart x0.depart)) || (!eqB x1.rest_ x0.rest_)) = false)),rp 2 (oI ((((((ltI x1.arrive x0.arrive) || (ltI x1.begin x0.begin)) || (ltI x1.depart x0.depart)) || (!eqB x1.rest_ x0.rest_)) = false)∧(ltI i at_) = true)),oI (((((ltI x1.arrive x0.arrive) || (ltI x1.begin x0.begin)) || (ltI x1.depart x0.depart)) || (!eqB x1.rest_ x0.rest_)) = false),oI ((((((ltI x1.arrive x0.arrive) || (ltI x1.begin x0.begin)) || (ltI x1.depart x0.depart)) || (!eqB x1.rest_ x0.rest_)) = false)∧(ltI i at_) = true),oR True (((((ltI x1.arrive x0.arrive) || (ltI x1.begin x0.begin)) || (ltI x1.depart x0.depart)) || (!eqB x1.rest_ x0.rest_)) = false),bT h14]
  ·exact gn 18 [1,3,9,11] [0,1] [nL T_api_Time.enc r3.1.times,bT h11,cE T_api_Time.enc h12,cE T_api_Time.enc h13,rp 28 hP,rp 4 (oI ((ltI x1.arrive x0.arrive) = false)),oR True ((ltI x1.arrive x0.arrive) = false),rp 4 (oI (((ltI x1.arrive x0.arrive) || (ltI x1.begin x0.begin)) = false)),oR True (((ltI x1.arrive x0.arrive) || (ltI x1.begin x0.begin)) = false),rp 4 (oI ((((ltI x1.arrive x0.arrive) || (ltI x1.begin x0.begin)) || (ltI x1.depart x0.depart)) = false)),oR True ((((ltI x1.arrive x0.arrive) || (ltI x1.begin x0.begin)) || (ltI x1.depart x0.depart)) = false),rp 3 (oI (((((ltI x1.arrive x0.arrive) || (ltI x1.begin x0.begin)) || (ltI x1.depart x0.depart)) || (!eqB x1.rest_ x0.rest_)) = false)),rp 2 (oI ((((((ltI x1.arrive x0.arrive) || (ltI x1.begin x0.begin)) || (ltI x1.depart x0.depart)) || (!eqB x1.rest_ x0.rest_)) = false)∧(ltI i at_) = true)),oI (((((ltI x1.arrive x0.arrive) || (ltI x1.begin x0.begin)) || (ltI x1.depart x0.depart)) || (!eqB x1.rest_ x0.rest_)) = false),oI ((((((ltI x1.arrive x0.arrive) || (ltI x1.begin x0.begin)) || (ltI x1.depart x0.depart)) || (!eqB x1.rest_ x0.rest_)) = false)∧(ltI i at_) = true),oR True (((((ltI x1.arrive x0.arrive) || (ltI x1.begin x0.begin)) || (ltI x1.depart x0.depart)) || (!eqB x1.rest_ x0.rest_)) = false),bF h14] (hI _ (oJ h))
 ·exact gn 5 [] [] [nL T_api_Time.enc r3.1.times,bF h11] (hE _ (oJ h))
theorem lorrylaw19_SlackKeeps_L2_ok (Γ:Gam) (rv:Bool) {t at_ r7} {s:Int} {e:(Unit) ⊕ (Bool)} (h:loopF (fun s=>lorrylaw19_SlackKeeps_L2 t at_ r7 s) s = some e) (hD:sel e (fun e=>lorrylaw19_SlackKeeps_L2_D0 Γ rv t at_ r7) (fun e=>e = rv)):lorrylaw19_SlackKeeps_L2_C Γ rv t at_ r7 s:=by
 refine loop_ind (C:=fun (s:Int)=>lorrylaw19_SlackKeeps_L2_C Γ rv t at_ r7 s) (D:=fun (e:(Unit) ⊕ (Bool))=>sel e (fun e=>lorrylaw19_SlackKeeps_L2_D0 Γ rv t at_ r7) (fun e=>e = rv)) ?_ h hD
 clear h hD s e
 intro i1 z_ h hI hE
 replace h:lorrylaw19_SlackKeeps_L2 t at_ r7 i1 = _:=h
 unfold lorrylaw19_SlackKeeps_L2 at h
 rcases br_elim h with ⟨h22,h⟩|⟨h22,h⟩
 ·obtain ⟨x2,h23,h⟩:=bnd_elim h
  obtain ⟨x3,h24,h⟩:=bnd_elim h
  rcases br_elim h with ⟨h25,h⟩|⟨h25,h⟩
  ·obtain rfl:=(hE _ (oJ h):_ = rv)
   exact gr 16 [] [nL T_api_Time.enc r7.1.times,bT h22,cE T_api_Time.enc h23,cE T_api_Time.enc h24,rp 28 hP,rp 4 (oI ((ltI x3.arrive x2.arrive) = false)),oR True ((ltI x3.arrive x2.arrive) = false),rp 4 (oI (((ltI x3.arrive x2.arrive) || (ltI x3.begin x2.begin)) = false)),oR True (((ltI x3.arrive x2.arrive) || (ltI x3.begin x2.begin)) = false),rp 4 (oI ((((ltI x3.arrive x2.arrive) || (ltI x3.begin x2.begin)) || (ltI x3.depart x2.depart)) = false)),oR True ((((ltI x3.arrive x2.arrive) || (ltI x3.begin x2.begin)) || (ltI x3.depart x2.depart)) = false),rp 3 (oI (((((ltI x3.arrive x2.arrive) || (ltI x3.begin x2.begin)) || (ltI x3.depart x2.depart)) || (!eqB x3.rest_ x2.rest_)) = false)),rp 2 (oI ((((((ltI x3.arrive x2.arrive) || (ltI x3.begin x2.begin)) || (ltI x3.depart x2.depart)) || (!eqB x3.rest_ x2.rest_)) = false)∧(ltI i1 at_) = true)),oI (((((ltI x3.arrive x2.arrive) || (ltI x3.begin x2.begin)) || (ltI x3.depart x2.depart)) || (!eqB x3.rest_ x2.rest_)) = false),oI ((((((ltI x3.arrive x2.arrive) || (ltI x3.begin x2.begin)) || (ltI x3.depart x2.depart)) || (!eqB x3.rest_ x2.rest_)) = false)∧(ltI i1 at_) = true),oR True (((((ltI x3.arrive x2.arrive) || (ltI x3.begin x2.begin)) || (ltI x3.depart x2.depart)) || (!eqB x3.rest_ x2.rest_)) = false),bT h25]
  ·exact gn 18 [1,3,9,11] [0,1] [nL T_api_Time.enc r7.1.times,bT h22,cE T_api_Time.enc h23,cE T_api_Time.enc h24,rp 28 hP,rp 4 (oI ((ltI x3.arrive x2.arrive) = false)),oR True ((ltI x3.arrive x2.arrive) = false),rp 4 (oI (((ltI x3.arrive x2.arrive) || (ltI x3.begin x2.begin)) = false)),oR True (((ltI x3.arrive x2.arrive) || (ltI x3.begin x2.begin)) = false),rp 4 (oI ((((ltI x3.arrive x2.arrive) || (ltI x3.begin x2.begin)) || (ltI x3.depart x2.depart)) = false)),oR True ((((ltI x3.arrive x2.arrive) || (ltI x3.begin x2.begin)) || (ltI x3.depart x2.depart)) = false),rp 3 (oI (((((ltI x3.arrive x2.arrive) || (ltI x3.begin x2.begin)) || (ltI x3.depart x2.depart)) || (!eqB x3.rest_ x2.rest_)) = false)),rp 2 (oI ((((((ltI x3.arrive x2.arrive) || (ltI x3.begin x2.begin)) || (ltI x3.depart x2.depart)) || (!eqB x3.rest_ x2.rest_)) = false)∧(ltI i1 at_) = true)),oI (((((ltI x3.arrive x2.arrive) || (ltI x3.begin x2.begin)) || (ltI x3.depart x2.depart)) || (!eqB x3.rest_ x2.rest_)) = false),oI ((((((ltI x3.arrive x2.arrive) || (ltI x3.begin x2.begin)) || (ltI x3.depart x2.depart)) || (!eqB x3.rest_ x2.rest_)) = false)∧(ltI i1 at_) = true),oR True (((((ltI x3.arrive x2.arrive) || (ltI x3.begin x2.begin)) || (ltI x3.depart x2.depart)) || (!eqB x3.rest_ x2.rest_)) = false),bF h25] (hI _ (oJ h))
 ·exact gn 5 [] [] [nL T_api_Time.enc r7.1.times,bF h22] (hE _ (oJ h))
theorem lorrylaw19_SlackKeeps_ok {t at_ late} {rv:Bool} (h:lorrylaw19_SlackKeeps t at_ late = some rv):AFn Tryd.prog 4 [.agg (T_lorrylaw19_Trip.enc t),.one (lI at_),.one (lI late)] [] (one (.bool rv)) []:=by
 refine afn_of Tryd.func4 (by kernel_rfl) (by kernel_rfl) (fun Γ=>?_)
 unfold lorrylaw19_SlackKeeps at h
 obtain ⟨r,h0,h⟩:=bnd_elim h
 rcases br_elim h with ⟨h1,h⟩|⟨h1,h⟩
 ·obtain ⟨r1,h2,h⟩:=bnd_elim h
  rcases br_elim h with ⟨h3,h⟩|⟨h3,h⟩
  ·obtain ⟨r2,h4,h⟩:=bnd_elim h
   rcases br_elim h with ⟨h5,h⟩|⟨h5,h⟩
   ·obtain ⟨r3,h6,h⟩:=bnd_elim h
    rcases br_elim h with ⟨h7,h⟩|⟨h7,h⟩
    ·rcases br_elim h with ⟨h8,h⟩|⟨h8,h⟩
     ·obtain ⟨r4,h9,h⟩:=bnd_elim h
      obtain rfl:=Option.some.inj h
      exact gr 22 [] [cC (lorrylaw19_few_ok h0),nF h1,cC (slack_After_ok h2),rp 4 (bT h3),cC (lorrylaw19_sheets_ok h4),bT h3,bT h3,nF h5,cC (slack_After_ok h6),bT h7,nL T_api_Time.enc r3.1.times,rp 4 hP,rp 2 (oI ((eqI (lenI r3.1.times) 0) = true)),oR True ((eqI (lenI r3.1.times) 0) = true),bT h8,cC (lorrylaw19_awake_ok h9),bT h8]
     ·obtain rfl:=Option.some.inj h
      exact gr 22 [] [cC (lorrylaw19_few_ok h0),nF h1,cC (slack_After_ok h2),rp 4 (bT h3),cC (lorrylaw19_sheets_ok h4),bT h3,bT h3,nF h5,cC (slack_After_ok h6),bT h7,nL T_api_Time.enc r3.1.times,rp 4 hP,rp 2 (oI ((eqI (lenI r3.1.times) 0) = true)),oR True ((eqI (lenI r3.1.times) 0) = true),bF h8,bF h8]
    ·rcases br_elim h with ⟨h10,h⟩|⟨h10,h⟩
     ·obtain rfl:=Option.some.inj h
      exact gr 27 [] [cC (lorrylaw19_few_ok h0),nF h1,cC (slack_After_ok h2),rp 4 (bT h3),cC (lorrylaw19_sheets_ok h4),bT h3,bT h3,nF h5,cC (slack_After_ok h6),bF h7,hP,hP,hP,rp 2 (oI ((neI r1.2 0) = false)),nL T_api_Time.enc r3.1.times,rp 4 hP,rp 3 (oI ((neI r1.2 0) = false)),nL T_api_Time.enc t.s.times,rp 16 hP,rp 2 (oI ((neI r1.2 0) = false)),oR True ((neI r1.2 0) = false),rp 5 (oI (((neI r1.2 0) || (neI (lenI r3.1.times) (lenI t.s.times))) = false)),oR True (((neI r1.2 0) || (neI (lenI r3.1.times) (lenI t.s.times))) = false),rp 5 (oI ((((neI r1.2 0) || (neI (lenI r3.1.times) (lenI t.s.times))) || (ltI r3.1.end_ t.s.end_)) = false)),oR True ((((neI r1.2 0) || (neI (lenI r3.1.times) (lenI t.s.times))) || (ltI r3.1.end_ t.s.end_)) = false),bT h10]
     ·obtain ⟨e0,h15,h⟩:=bnd_elim h
      refine gn 31 [1,3,9,11] [0,2] [cC (lorrylaw19_few_ok h0),nF h1,cC (slack_After_ok h2),rp 4 (bT h3),cC (lorrylaw19_sheets_ok h4),bT h3,bT h3,nF h5,cC (slack_After_ok h6),bF h7,hP,hP,hP,rp 2 (oI ((neI r1.2 0) = false)),nL T_api_Time.enc r3.1.times,rp 4 hP,rp 3 (oI ((neI r1.2 0) = false)),nL T_api_Time.enc t.s.times,rp 16 hP,rp 2 (oI ((neI r1.2 0) = false)),oR True ((neI r1.2 0) = false),rp 5 (oI (((neI r1.2 0) || (neI (lenI r3.1.times) (lenI t.s.times))) = false)),oR True (((neI r1.2 0) || (neI (lenI r3.1.times) (lenI t.s.times))) = false),rp 5 (oI ((((neI r1.2 0) || (neI (lenI r3.1.times) (lenI t.s.times))) || (ltI r3.1.end_ t.s.end_)) = false)),oR True ((((neI r1.2 0) || (neI (lenI r3.1.times) (lenI t.s.times))) || (ltI r3.1.end_ t.s.end_)) = false),bF h10] (lorrylaw19_SlackKeeps_L1_ok Γ rv h15 ?_)
      rcases e0 with e0|e0
      ·replace h:(bnd (lorrylaw19_awake) fun r5=>some r5:Option Bool) = some _:=h
       obtain ⟨r5,h16,h⟩:=bnd_elim h
       obtain rfl:=Option.some.inj h
       exact gr 2 [] [cC (lorrylaw19_awake_ok h16)]
      ·obtain ⟨r6,rfl⟩:∃ x,x = e0:=⟨_,rfl⟩
       replace h:(some r6:Option Bool) = some _:=h
       exact Option.some.inj h
   ·obtain rfl:=Option.some.inj h
    exact gr 15 [] [cC (lorrylaw19_few_ok h0),nF h1,cC (slack_After_ok h2),rp 4 (bT h3),cC (lorrylaw19_sheets_ok h4),bT h3,bT h3,nT h5]
  ·obtain ⟨r7,h17,h⟩:=bnd_elim h
   rcases br_elim h with ⟨h18,h⟩|⟨h18,h⟩
   ·rcases br_elim h with ⟨h19,h⟩|⟨h19,h⟩
    ·obtain ⟨r8,h20,h⟩:=bnd_elim h
     obtain rfl:=Option.some.inj h
     exact gr 22 [] [cC (lorrylaw19_few_ok h0),nF h1,cC (slack_After_ok h2),rp 6 (bF h3),fF,cC (slack_After_ok h17),bT h18,nL T_api_Time.enc r7.1.times,rp 4 hP,rp 2 (oI ((eqI (lenI r7.1.times) 0) = true)),oR True ((eqI (lenI r7.1.times) 0) = true),bT h19,cC (lorrylaw19_awake_ok h20),bT h19]
    ·obtain rfl:=Option.some.inj h
     exact gr 22 [] [cC (lorrylaw19_few_ok h0),nF h1,cC (slack_After_ok h2),rp 6 (bF h3),fF,cC (slack_After_ok h17),bT h18,nL T_api_Time.enc r7.1.times,rp 4 hP,rp 2 (oI ((eqI (lenI r7.1.times) 0) = true)),oR True ((eqI (lenI r7.1.times) 0) = true),rp 2 (bF h19)]
   ·rcases br_elim h with ⟨h21,h⟩|⟨h21,h⟩
    ·obtain rfl:=Option.some.inj h
     exact gr 27 [] [cC (lorrylaw19_few_ok h0),nF h1,cC (slack_After_ok h2),rp 6 (bF h3),fF,cC (slack_After_ok h17),bF h18,hP,hP,hP,rp 2 (oI ((neI r1.2 0) = false)),nL T_api_Time.enc r7.1.times,rp 4 hP,rp 3 (oI ((neI r1.2 0) = false)),nL T_api_Time.enc t.s.times,rp 16 hP,rp 2 (oI ((neI r1.2 0) = false)),oR True ((neI r1.2 0) = false),rp 5 (oI (((neI r1.2 0) || (neI (lenI r7.1.times) (lenI t.s.times))) = false)),oR True (((neI r1.2 0) || (neI (lenI r7.1.times) (lenI t.s.times))) = false),rp 5 (oI ((((neI r1.2 0) || (neI (lenI r7.1.times) (lenI t.s.times))) || (ltI r7.1.end_ t.s.end_)) = false)),oR True ((((neI r1.2 0) || (neI (lenI r7.1.times) (lenI t.s.times))) || (ltI r7.1.end_ t.s.end_)) = false),bT h21]
    ·obtain ⟨e1,h26,h⟩:=bnd_elim h
     refine gn 31 [1,3,9,11] [0,2] [cC (lorrylaw19_few_ok h0),nF h1,cC (slack_After_ok h2),rp 6 (bF h3),fF,cC (slack_After_ok h17),bF h18,hP,hP,hP,rp 2 (oI ((neI r1.2 0) = false)),nL T_api_Time.enc r7.1.times,rp 4 hP,rp 3 (oI ((neI r1.2 0) = false)),nL T_api_Time.enc t.s.times,rp 16 hP,rp 2 (oI ((neI r1.2 0) = false)),oR True ((neI r1.2 0) = false),rp 5 (oI (((neI r1.2 0) || (neI (lenI r7.1.times) (lenI t.s.times))) = false)),oR True (((neI r1.2 0) || (neI (lenI r7.1.times) (lenI t.s.times))) = false),rp 5 (oI ((((neI r1.2 0) || (neI (lenI r7.1.times) (lenI t.s.times))) || (ltI r7.1.end_ t.s.end_)) = false)),oR True ((((neI r1.2 0) || (neI (lenI r7.1.times) (lenI t.s.times))) || (ltI r7.1.end_ t.s.end_)) = false),bF h21] (lorrylaw19_SlackKeeps_L2_ok Γ rv h26 ?_)
     rcases e1 with e1|e1
     ·replace h:(bnd (lorrylaw19_awake) fun r9=>some r9:Option Bool) = some _:=h
      obtain ⟨r9,h27,h⟩:=bnd_elim h
      obtain rfl:=Option.some.inj h
      exact gr 2 [] [cC (lorrylaw19_awake_ok h27)]
     ·obtain ⟨r10,rfl⟩:∃ x,x = e1:=⟨_,rfl⟩
      replace h:(some r10:Option Bool) = some _:=h
      exact Option.some.inj h
 ·obtain ⟨r11,h28,h⟩:=bnd_elim h
  obtain rfl:=Option.some.inj h
  exact gr 8 [] [cC (lorrylaw19_few_ok h0),nT h1,cC (lorrylaw19_awake_ok h28)]
end Go.Proofs.YtfldlilicmbmkaaDoor
