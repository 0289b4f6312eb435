/- Part MW of the proof: texts Z2. -/
import Derived.Test.YtfldlilicmbmkaaGreatDoorMV
import Derived.Test.YtfldlilicmbmkaaGreatDoorProg
namespace Go.Proofs.YtfldlilicmbmkaaGreatDoor
set_option linter.unusedVariables false
set_option linter.unusedSectionVars false
set_option linter.unusedSimpArgs false
set_option maxHeartbeats 4000000
set_option maxRecDepth 100000
def lorrylaw21_RouteRests_G (Γ:Gam) (rv:Bool) (cf:Cf):Prop:=Go Tryz.prog Tryz.f7 [] Γ (one (.bool rv)) [] cf
def lorrylaw21_RouteRests_L1_C (Γ:Gam) (rv:Bool) (x0:T_api_Instance) (r:T_api_Route) (r2:T_api_Sheet × T_api_Score × Int) (l:List Bool) (v:Int):Prop:=lorrylaw21_RouteRests_G Γ rv ⟨[.c 2036,.l 2036,.b 0,.c 255],⟨71,[vP 2 0 6,vP 5 1 5,vP 6 2 4,vP 8 3 4,vL 35 4 r2.1.times T_api_Time.enc,vI 36 (lenI r2.1.times),vI 37 v],[oX 6 30 (T_api_Instance.enc x0),oX 5 37 (T_api_Sheet.enc r2.1),oX 4 53 (T_api_Score.enc r2.2.1),oX 4 34 [lI r.type_,lI r.start,lO 4 1 l e_bool,lL 2 r.visits T_api_Visit.enc],oS 1 4 l e_bool]⟩⟩
def lorrylaw21_RouteRests_L1_D0 (Γ:Gam) (rv:Bool) (x0:T_api_Instance) (r:T_api_Route) (r2:T_api_Sheet × T_api_Score × Int) (l1:List Bool):Prop:=lorrylaw21_RouteRests_G Γ rv ⟨[.c 255],⟨71,[vP 2 0 6,vP 5 1 5,vP 6 2 4,vP 8 3 4],[oX 6 30 (T_api_Instance.enc x0),oX 5 37 (T_api_Sheet.enc r2.1),oX 4 53 (T_api_Score.enc r2.2.1),oX 4 34 [lI r.type_,lI r.start,lO 4 1 l1 e_bool,lL 2 r.visits T_api_Visit.enc],oS 1 4 l1 e_bool]⟩⟩
theorem lorrylaw21_RouteRests_L1_ok (Γ:Gam) (rv:Bool) {x0 r r2} {s:List Bool × Int} {e:List Bool} (h:loopF (fun s=>lorrylaw21_RouteRests_L1 x0 r r2 s.1 s.2) s = some e) (hD:lorrylaw21_RouteRests_L1_D0 Γ rv x0 r r2 e):lorrylaw21_RouteRests_L1_C Γ rv x0 r r2 s.1 s.2:=by
 refine loop_ind (C:=fun (s:List Bool × Int)=>lorrylaw21_RouteRests_L1_C Γ rv x0 r r2 s.1 s.2) (D:=fun (e:List Bool)=>lorrylaw21_RouteRests_L1_D0 Γ rv x0 r r2 e) ?_ h hD
 clear h hD s e
 rintro ⟨l,v⟩ z_ h hI hE
 replace h:lorrylaw21_RouteRests_L1 x0 r r2 l v = _:=h
 unfold lorrylaw21_RouteRests_L1 at h
 rcases br_elim h with ⟨h5,h⟩|⟨h5,h⟩
 ·obtain ⟨x1,h6,h⟩:=bnd_elim h
  obtain ⟨h7,h⟩:=chk_elim h
  exact gn 13 [2,5,6,8,35,36,37] [0,1,2,3,7] [bT h5,cE T_api_Time.enc h6,oO (Eq.refl ([x1.rest_].map e_bool).length),aO e_bool h7] (hI _ (oJ h))
 ·exact gn 5 [2,5,6,8] [0,1,2,3,4] [bF h5] (hE _ (oJ h))
theorem lorrylaw21_RouteRests_ok {x0 r} {rv:Bool} (h:lorrylaw21_RouteRests x0 r = some rv):AFn Tryz.prog 7 [.agg (T_api_Instance.enc x0),.agg (T_api_Route.enc r)] [] (one (.bool rv)) []:=by
 refine afn_of Tryz.func7 (by kernel_rfl) (by kernel_rfl) (fun Γ=>?_)
 unfold lorrylaw21_RouteRests at h
 obtain ⟨r1,h0,h⟩:=bnd_elim h
 rcases br_elim h with ⟨h1,h⟩|⟨h1,h⟩
 ·obtain ⟨r2,h2,h⟩:=bnd_elim h
  rcases br_elim h with ⟨h3,h⟩|⟨h3,h⟩
  ·obtain ⟨r3,h4,h⟩:=bnd_elim h
   obtain rfl:=Option.some.inj h
   exact gr 15 [] [cC (lorrylaw21_right_ok h0),nF h1,cC (route_Evaluate_ok h2),bT h3,cC (lorrylaw21_examples_ok h4)]
  ·obtain ⟨e0,h8,h⟩:=bnd_elim h
   refine gn 23 [2,5,6,8,35,36,37] [0,2,3,4,5] [cC (lorrylaw21_right_ok h0),nF h1,cC (route_Evaluate_ok h2),bF h3,nL T_api_Time.enc r2.1.times] (lorrylaw21_RouteRests_L1_ok Γ rv h8 ?_)
   obtain ⟨l1,rfl⟩:∃ x,x = e0:=⟨_,rfl⟩
   replace h:(bnd (route_Evaluate x0 (T_api_Route.mk r.type_ r.start l1 r.visits)) fun r4=>br ((eqI r4.2.2 0) && (eqI r2.2.1.cost r4.2.1.cost && (eqI r2.2.1.moved r4.2.1.moved && (eqI r2.2.1.other r4.2.1.other && (eqI r2.2.1.work r4.2.1.work && true))))) (bnd (lorryref18_Same r2.1 r4.1) fun r5=>br r5 (bnd (lorrylaw21_examples) fun r6=>some r6) (some false)) (some false):Option Bool) = some _:=h
   obtain ⟨r4,h9,h⟩:=bnd_elim h
   rcases br_elim h with ⟨h10,h⟩|⟨h10,h⟩
   ·obtain ⟨r5,h11,h⟩:=bnd_elim h
    rcases br_elim h with ⟨h12,h⟩|⟨h12,h⟩
    ·obtain ⟨r6,h13,h⟩:=bnd_elim h
     obtain rfl:=Option.some.inj h
     exact gr 4 [] [hW 4,hH (.frz 4),rp 2 (eL l1 e_bool),cC (route_Evaluate_ok h9),rp 4 hP,rp 2 (oI ((eqI r4.2.2 0) = true)),oR True ((eqI r4.2.2 0) = true),rp 3 (bT h10),cC (lorryref18_Same_ok h11),bT h10,bT h12,cC (lorrylaw21_examples_ok h13),bT h12]
    ·obtain rfl:=Option.some.inj h
     exact gr 4 [] [hW 4,hH (.frz 4),rp 2 (eL l1 e_bool),cC (route_Evaluate_ok h9),rp 4 hP,rp 2 (oI ((eqI r4.2.2 0) = true)),oR True ((eqI r4.2.2 0) = true),rp 3 (bT h10),cC (lorryref18_Same_ok h11),bT h10,rp 2 (bF h12)]
   ·obtain rfl:=Option.some.inj h
    exact gr 4 [] [hW 4,hH (.frz 4),rp 2 (eL l1 e_bool),cC (route_Evaluate_ok h9),rp 4 hP,rp 2 (oI ((eqI r4.2.2 0) = true)),oR True ((eqI r4.2.2 0) = true),rp 4 (bF h10),fF,fF]
 ·obtain ⟨r7,h14,h⟩:=bnd_elim h
  obtain rfl:=Option.some.inj h
  exact gr 8 [] [cC (lorrylaw21_right_ok h0),nT h1,cC (lorrylaw21_examples_ok h14)]
theorem price_join_ok {l} {rv:T_api_Score} (h:price_join l = some rv):AFn Tryz.prog 54 [.agg (A4_Int.enc l)] [] (gG [lI rv.cost,lI rv.moved,lI rv.other,lI rv.work]) []:=by
 refine afn_of Tryz.func54 (by kernel_rfl) (by kernel_rfl) (fun Γ=>?_)
 unfold price_join at h
 obtain rfl:=Option.some.inj h
 exact gr 4 [] [oO (zL 0),oO (lT 0 4),oO (zL 1),oO (lT 1 4),oO (zL 2),oO (lT 2 4),oO (zL 3),oO (lT 3 4)]
theorem price_Split_ok {price} {rv:T_api_Score × Int} (h:price_Split price = some rv):AFn Tryz.prog 31 [.one (lI price)] [] (.tup [.agg [lI rv.1.cost,lI rv.1.moved,lI rv.1.other,lI rv.1.work],.one (lI rv.2)]) []:=by
 refine afn_of Tryz.func31 (by kernel_rfl) (by kernel_rfl) (fun Γ=>?_)
 unfold price_Split at h
 rcases br_elim h with ⟨h0,h⟩|⟨h0,h⟩
 ·obtain rfl:=Option.some.inj h
  exact gr 8 [] [bT h0]
 ·rcases br_elim h with ⟨h1,h⟩|⟨h1,h⟩
  ·obtain rfl:=Option.some.inj h
   exact gr 21 [] [bF h0,rp 2 (oO (oA (n:=65536))),oO (zL 3),oO (lT 3 4),rp 2 (oO (oA (n:=16))),oO (zL 2),oO (lT 2 4),rp 2 (oO (oA (n:=16))),oO (zL 0),oO (lT 0 4),oO (zL 1),oO (lT 1 4),oO (zL 0),oO (lT 0 4),bT h1]
  ·obtain ⟨r,h2,h⟩:=bnd_elim h
   obtain rfl:=Option.some.inj h
   exact gr 22 [] [bF h0,rp 2 (oO (oA (n:=65536))),oO (zL 3),oO (lT 3 4),rp 2 (oO (oA (n:=16))),oO (zL 2),oO (lT 2 4),rp 2 (oO (oA (n:=16))),oO (zL 0),oO (lT 0 4),oO (zL 1),oO (lT 1 4),oO (zL 0),oO (lT 0 4),bF h1,cC (price_join_ok h2)]
theorem lorrylaw21_RouteParts_ok {x0 r} {rv:Bool} (h:lorrylaw21_RouteParts x0 r = some rv):AFn Tryz.prog 8 [.agg (T_api_Instance.enc x0),.agg (T_api_Route.enc r)] [] (one (.bool rv)) []:=by
 refine afn_of Tryz.func8 (by kernel_rfl) (by kernel_rfl) (fun Γ=>?_)
 unfold lorrylaw21_RouteParts at h
 obtain ⟨r1,h0,h⟩:=bnd_elim h
 rcases br_elim h with ⟨h1,h⟩|⟨h1,h⟩
 ·obtain ⟨r2,h2,h⟩:=bnd_elim h
  obtain ⟨r3,h3,h⟩:=bnd_elim h
  obtain ⟨r4,h4,h⟩:=bnd_elim h
  rcases br_elim h with ⟨h5,h⟩|⟨h5,h⟩
  ·rcases br_elim h with ⟨h6,h⟩|⟨h6,h⟩
   ·rcases br_elim h with ⟨h7,h⟩|⟨h7,h⟩
    ·obtain ⟨r5,h8,h⟩:=bnd_elim h
     obtain rfl:=Option.some.inj h
     exact gr 19 [] [cC (lorrylaw21_right_ok h0),nF h1,cC (route_Evaluate_ok h2),cC (route_Price_ok h3),cC (route_Works_ok h4),bT h5,rp 10 hP,rp 2 (oI ((eqI r3.2 r2.2.2) = true)),oR True ((eqI r3.2 r2.2.2) = true),oI (((eqI r3.2 r2.2.2) && (eqI r4.2 r2.2.2)) = true),oR True (((eqI r3.2 r2.2.2) && (eqI r4.2 r2.2.2)) = true),oI ((((eqI r3.2 r2.2.2) && (eqI r4.2 r2.2.2)) && (eqI r3.1 0)) = true),oR True ((((eqI r3.2 r2.2.2) && (eqI r4.2 r2.2.2)) && (eqI r3.1 0)) = true),rp 4 (bT h6),bT h7,cC (lorrylaw21_examples_ok h8),bT h7]
    ·obtain rfl:=Option.some.inj h
     exact gr 19 [] [cC (lorrylaw21_right_ok h0),nF h1,cC (route_Evaluate_ok h2),cC (route_Price_ok h3),cC (route_Works_ok h4),bT h5,rp 10 hP,rp 2 (oI ((eqI r3.2 r2.2.2) = true)),oR True ((eqI r3.2 r2.2.2) = true),oI (((eqI r3.2 r2.2.2) && (eqI r4.2 r2.2.2)) = true),oR True (((eqI r3.2 r2.2.2) && (eqI r4.2 r2.2.2)) = true),oI ((((eqI r3.2 r2.2.2) && (eqI r4.2 r2.2.2)) && (eqI r3.1 0)) = true),oR True ((((eqI r3.2 r2.2.2) && (eqI r4.2 r2.2.2)) && (eqI r3.1 0)) = true),rp 4 (bT h6),bF h7,bF h7]
   ·obtain rfl:=Option.some.inj h
    exact gr 19 [] [cC (lorrylaw21_right_ok h0),nF h1,cC (route_Evaluate_ok h2),cC (route_Price_ok h3),cC (route_Works_ok h4),bT h5,rp 10 hP,rp 2 (oI ((eqI r3.2 r2.2.2) = true)),oR True ((eqI r3.2 r2.2.2) = true),oI (((eqI r3.2 r2.2.2) && (eqI r4.2 r2.2.2)) = true),oR True (((eqI r3.2 r2.2.2) && (eqI r4.2 r2.2.2)) = true),oI ((((eqI r3.2 r2.2.2) && (eqI r4.2 r2.2.2)) && (eqI r3.1 0)) = true),oR True ((((eqI r3.2 r2.2.2) && (eqI r4.2 r2.2.2)) && (eqI r3.1 0)) = true),rp 4 (bF h6),fF,fF]
  ·obtain ⟨r6,h9,h⟩:=bnd_elim h
   rcases br_elim h with ⟨h10,h⟩|⟨h10,h⟩
   ·obtain rfl:=Option.some.inj h
    exact gr 26 [] [cC (lorrylaw21_right_ok h0),nF h1,cC (route_Evaluate_ok h2),cC (route_Price_ok h3),cC (route_Works_ok h4),bF h5,cC (price_Split_ok h9),rp 15 hP,oI ((neI r3.2 0) = false),oR True ((neI r3.2 0) = false),oI (((neI r3.2 0) || (neI r4.2 0)) = false),oR True (((neI r3.2 0) || (neI r4.2 0)) = false),rp 2 (oI ((((neI r3.2 0) || (neI r4.2 0)) || (neI r6.2 0)) = false)),oR True ((((neI r3.2 0) || (neI r4.2 0)) || (neI r6.2 0)) = false),rp 3 (oI (((((neI r3.2 0) || (neI r4.2 0)) || (neI r6.2 0)) || (ltI r.type_ 0)) = false)),nL T_api_Type.enc x0.types,hP,hP,rp 2 (oI (((((neI r3.2 0) || (neI r4.2 0)) || (neI r6.2 0)) || (ltI r.type_ 0)) = false)),oR True (((((neI r3.2 0) || (neI r4.2 0)) || (neI r6.2 0)) || (ltI r.type_ 0)) = false),bT h10]
   ·rcases br_elim h with ⟨h11,h⟩|⟨h11,h⟩
    ·obtain ⟨x1,h12,h⟩:=bnd_elim h
     rcases br_elim h with ⟨h13,h⟩|⟨h13,h⟩
     ·rcases br_elim h with ⟨h14,h⟩|⟨h14,h⟩
      ·obtain ⟨r7,h15,h⟩:=bnd_elim h
       obtain rfl:=Option.some.inj h
       exact gr 27 [] [cC (lorrylaw21_right_ok h0),nF h1,cC (route_Evaluate_ok h2),cC (route_Price_ok h3),cC (route_Works_ok h4),bF h5,cC (price_Split_ok h9),rp 15 hP,oI ((neI r3.2 0) = false),oR True ((neI r3.2 0) = false),oI (((neI r3.2 0) || (neI r4.2 0)) = false),oR True (((neI r3.2 0) || (neI r4.2 0)) = false),rp 2 (oI ((((neI r3.2 0) || (neI r4.2 0)) || (neI r6.2 0)) = false)),oR True ((((neI r3.2 0) || (neI r4.2 0)) || (neI r6.2 0)) = false),rp 3 (oI (((((neI r3.2 0) || (neI r4.2 0)) || (neI r6.2 0)) || (ltI r.type_ 0)) = false)),nL T_api_Type.enc x0.types,hP,hP,rp 2 (oI (((((neI r3.2 0) || (neI r4.2 0)) || (neI r6.2 0)) || (ltI r.type_ 0)) = false)),oR True (((((neI r3.2 0) || (neI r4.2 0)) || (neI r6.2 0)) || (ltI r.type_ 0)) = false),bF h10,hH (.draw 29 []),rp 7 (bT h11),cE T_api_Type.enc h12,rp 4 (bT h11),rp 4 (bT h13),oO (oA (n:=64)),rp 2 (bT h13),oO (oA (n:=64)),rp 3 (bT h13),bT h14,cC (lorrylaw21_examples_ok h15),bT h14]
      ·obtain rfl:=Option.some.inj h
       exact gr 27 [] [cC (lorrylaw21_right_ok h0),nF h1,cC (route_Evaluate_ok h2),cC (route_Price_ok h3),cC (route_Works_ok h4),bF h5,cC (price_Split_ok h9),rp 15 hP,oI ((neI r3.2 0) = false),oR True ((neI r3.2 0) = false),oI (((neI r3.2 0) || (neI r4.2 0)) = false),oR True (((neI r3.2 0) || (neI r4.2 0)) = false),rp 2 (oI ((((neI r3.2 0) || (neI r4.2 0)) || (neI r6.2 0)) = false)),oR True ((((neI r3.2 0) || (neI r4.2 0)) || (neI r6.2 0)) = false),rp 3 (oI (((((neI r3.2 0) || (neI r4.2 0)) || (neI r6.2 0)) || (ltI r.type_ 0)) = false)),nL T_api_Type.enc x0.types,hP,hP,rp 2 (oI (((((neI r3.2 0) || (neI r4.2 0)) || (neI r6.2 0)) || (ltI r.type_ 0)) = false)),oR True (((((neI r3.2 0) || (neI r4.2 0)) || (neI r6.2 0)) || (ltI r.type_ 0)) = false),bF h10,hH (.draw 29 []),rp 7 (bT h11),cE T_api_Type.enc h12,rp 4 (bT h11),rp 4 (bT h13),oO (oA (n:=64)),rp 2 (bT h13),oO (oA (n:=64)),rp 3 (bT h13),rp 2 (bF h14)]
     ·obtain rfl:=Option.some.inj h
      exact gr 27 [] [cC (lorrylaw21_right_ok h0),nF h1,cC (route_Evaluate_ok h2),cC (route_Price_ok h3),cC (route_Works_ok h4),bF h5,cC (price_Split_ok h9),rp 15 hP,oI ((neI r3.2 0) = false),oR True ((neI r3.2 0) = false),oI (((neI r3.2 0) || (neI r4.2 0)) = false),oR True (((neI r3.2 0) || (neI r4.2 0)) = false),rp 2 (oI ((((neI r3.2 0) || (neI r4.2 0)) || (neI r6.2 0)) = false)),oR True ((((neI r3.2 0) || (neI r4.2 0)) || (neI r6.2 0)) = false),rp 3 (oI (((((neI r3.2 0) || (neI r4.2 0)) || (neI r6.2 0)) || (ltI r.type_ 0)) = false)),nL T_api_Type.enc x0.types,hP,hP,rp 2 (oI (((((neI r3.2 0) || (neI r4.2 0)) || (neI r6.2 0)) || (ltI r.type_ 0)) = false)),oR True (((((neI r3.2 0) || (neI r4.2 0)) || (neI r6.2 0)) || (ltI r.type_ 0)) = false),bF h10,hH (.draw 29 []),rp 7 (bT h11),cE T_api_Type.enc h12,rp 4 (bT h11),rp 9 (bF h13),fF,fF]
    ·obtain rfl:=Option.some.inj h
     exact gr 27 [] [cC (lorrylaw21_right_ok h0),nF h1,cC (route_Evaluate_ok h2),cC (route_Price_ok h3),cC (route_Works_ok h4),bF h5,cC (price_Split_ok h9),rp 15 hP,oI ((neI r3.2 0) = false),oR True ((neI r3.2 0) = false),oI (((neI r3.2 0) || (neI r4.2 0)) = false),oR True (((neI r3.2 0) || (neI r4.2 0)) = false),rp 2 (oI ((((neI r3.2 0) || (neI r4.2 0)) || (neI r6.2 0)) = false)),oR True ((((neI r3.2 0) || (neI r4.2 0)) || (neI r6.2 0)) = false),rp 3 (oI (((((neI r3.2 0) || (neI r4.2 0)) || (neI r6.2 0)) || (ltI r.type_ 0)) = false)),nL T_api_Type.enc x0.types,hP,hP,rp 2 (oI (((((neI r3.2 0) || (neI r4.2 0)) || (neI r6.2 0)) || (ltI r.type_ 0)) = false)),oR True (((((neI r3.2 0) || (neI r4.2 0)) || (neI r6.2 0)) || (ltI r.type_ 0)) = false),bF h10,hH (.draw 29 []),rp 11 (bF h11),rp 11 fF]
 ·obtain ⟨r8,h16,h⟩:=bnd_elim h
  obtain rfl:=Option.some.inj h
  exact gr 8 [] [cC (lorrylaw21_right_ok h0),nT h1,cC (lorrylaw21_examples_ok h16)]
def rules_chains_G (Γ:Gam) (rv:List Int) (cf:Cf):Prop:=Go Tryz.prog Tryz.f57 [] Γ (one (lL 1 rv e_i64)) [] cf
def rules_chains_L2_C (Γ:Gam) (rv:List Int) (before:List A2_Int) (l:List Int) (l2:List Int) (more1:Bool) (v:Int):Prop:=rules_chains_G Γ rv ⟨[.c 7468,.l 7468,.b 2,.b 1,.l 116,.b 0,.c 15],⟨68,[vL 1 2 before A2_Int.enc,vO 5 0 1 l2 e_i64,vB 6 more1,vL 16 2 before A2_Int.enc,vI 17 (lenI before),vI 18 v],[oS 1 3 l2 e_i64]⟩⟩
def rules_chains_L2_D0 (Γ:Gam) (rv:List Int) (before:List A2_Int) (l:List Int) (l3:List Int) (more2:Bool):Prop:=rules_chains_G Γ rv ⟨[.b 1,.l 116,.b 0,.c 15],⟨68,[vL 1 2 before A2_Int.enc,vO 5 0 1 l3 e_i64,vB 6 more2],[oS 1 3 l3 e_i64]⟩⟩
def rules_chains_L1_C (Γ:Gam) (rv:List Int) (before:List A2_Int) (l:List Int) (l1:List Int) (more:Bool):Prop:=rules_chains_G Γ rv ⟨[.c 116,.l 116,.b 0,.c 15],⟨68,[vL 1 2 before A2_Int.enc,vO 5 0 1 l1 e_i64,vB 6 more],[oS 1 3 l1 e_i64]⟩⟩
def rules_chains_L1_D0 (Γ:Gam) (rv:List Int) (before:List A2_Int) (l:List Int) (l4:List Int):Prop:=rules_chains_G Γ rv ⟨[.c 15],⟨68,[vO 5 0 1 l4 e_i64],[oS 1 3 l4 e_i64]⟩⟩
theorem rules_chains_L2_ok (Γ:Gam) (rv:List Int) {before l} {s:List Int × Bool × Int} {e:List Int × Bool} (h:loopF (fun s=>rules_chains_L2 before l s.1 s.2.1 s.2.2) s = some e) (hD:rules_chains_L2_D0 Γ rv before l e.1 e.2):rules_chains_L2_C Γ rv before l s.1 s.2.1 s.2.2:=by
 refine loop_ind (C:=fun (s:List Int × Bool × Int)=>rules_chains_L2_C Γ rv before l s.1 s.2.1 s.2.2) (D:=fun (e:List Int × Bool)=>rules_chains_L2_D0 Γ rv before l e.1 e.2) ?_ h hD
 clear h hD s e
 rintro ⟨l2,more1,v⟩ z_ h hI hE
 replace h:rules_chains_L2 before l l2 more1 v = _:=h
 unfold rules_chains_L2 at h
 rcases br_elim h with ⟨h2,h⟩|⟨h2,h⟩
 ·obtain ⟨x0,h3,h⟩:=bnd_elim h
  rcases br_elim h with ⟨h4,h⟩|⟨h4,h⟩
  ·exact gn 18 [1,5,6,16,17,18] [0] [bT h2,cE A2_Int.enc h3,hH (.draw 6 []),rp 6 hP,oO (zL 0),oO (lT 0 2),oO (zL 1),oO (lT 1 2),oI ((ltI x0.x0 0) = false),oR True ((ltI x0.x0 0) = false),oI (((ltI x0.x0 0) || (ltI x0.x1 0)) = false),nL e_i64 l2,rp 5 hP,rp 2 (oI (((ltI x0.x0 0) || (ltI x0.x1 0)) = false)),oR True (((ltI x0.x0 0) || (ltI x0.x1 0)) = false),oI ((((ltI x0.x0 0) || (ltI x0.x1 0)) || (geI x0.x0 (lenI l2))) = false),nL e_i64 l2,hP,hP,rp 2 (oI ((((ltI x0.x0 0) || (ltI x0.x1 0)) || (geI x0.x0 (lenI l2))) = false)),oR True ((((ltI x0.x0 0) || (ltI x0.x1 0)) || (geI x0.x0 (lenI l2))) = false),bT h4] (hI _ (oJ h))
  ·obtain ⟨x1,h5,h⟩:=bnd_elim h
   obtain ⟨x2,h6,h⟩:=bnd_elim h
   obtain ⟨h7,h⟩:=chk_elim h
   rcases br_elim h with ⟨h8,h⟩|⟨h8,h⟩
   ·exact gn 27 [1,5,6,16,17,18] [0] [bT h2,cE A2_Int.enc h3,hH (.draw 6 []),rp 6 hP,oO (zL 0),oO (lT 0 2),oO (zL 1),oO (lT 1 2),oI ((ltI x0.x0 0) = false),oR True ((ltI x0.x0 0) = false),oI (((ltI x0.x0 0) || (ltI x0.x1 0)) = false),nL e_i64 l2,rp 5 hP,rp 2 (oI (((ltI x0.x0 0) || (ltI x0.x1 0)) = false)),oR True (((ltI x0.x0 0) || (ltI x0.x1 0)) = false),oI ((((ltI x0.x0 0) || (ltI x0.x1 0)) || (geI x0.x0 (lenI l2))) = false),nL e_i64 l2,hP,hP,rp 2 (oI ((((ltI x0.x0 0) || (ltI x0.x1 0)) || (geI x0.x0 (lenI l2))) = false)),oR True ((((ltI x0.x0 0) || (ltI x0.x1 0)) || (geI x0.x0 (lenI l2))) = false),bF h4,hH (.draw 13 []),oO (getLo h5),oO (getHi e_i64 h5),rE e_i64 h5,oO (getLo h6),oO (getHi e_i64 h6),rE e_i64 h6,oO (h7),oO (getLo h5),oO (getHi e_i64 h5),rE e_i64 h5,bT h8,oO (getLo h5),oO (getHi e_i64 h5),rE e_i64 h5,hH (.rows ((setI l2 x0.x1 (orK .i64 (orK .i64 x1 x2) (shlK .i64 1 x0.x0))).map e_i64)),hH (.relen 0 ((setI l2 x0.x1 (orK .i64 (orK .i64 x1 x2) (shlK .i64 1 x0.x0))).map e_i64).length),oO (setM e_i64 l2 x0.x1 (orK .i64 (orK .i64 x1 x2) (shlK .i64 1 x0.x0))),rp 5 (oO (lenSet e_i64 l2 x0.x1 (orK .i64 (orK .i64 x1 x2) (shlK .i64 1 x0.x0))))] (hI _ (oJ h))
   ·exact gn 25 [1,5,6,16,17,18] [0] [bT h2,cE A2_Int.enc h3,hH (.draw 6 []),rp 6 hP,oO (zL 0),oO (lT 0 2),oO (zL 1),oO (lT 1 2),oI ((ltI x0.x0 0) = false),oR True ((ltI x0.x0 0) = false),oI (((ltI x0.x0 0) || (ltI x0.x1 0)) = false),nL e_i64 l2,rp 5 hP,rp 2 (oI (((ltI x0.x0 0) || (ltI x0.x1 0)) = false)),oR True (((ltI x0.x0 0) || (ltI x0.x1 0)) = false),oI ((((ltI x0.x0 0) || (ltI x0.x1 0)) || (geI x0.x0 (lenI l2))) = false),nL e_i64 l2,hP,hP,rp 2 (oI ((((ltI x0.x0 0) || (ltI x0.x1 0)) || (geI x0.x0 (lenI l2))) = false)),oR True ((((ltI x0.x0 0) || (ltI x0.x1 0)) || (geI x0.x0 (lenI l2))) = false),bF h4,hH (.draw 13 []),oO (getLo h5),oO (getHi e_i64 h5),rE e_i64 h5,oO (getLo h6),oO (getHi e_i64 h6),rE e_i64 h6,oO (h7),oO (getLo h5),oO (getHi e_i64 h5),rE e_i64 h5,bF h8] (hI _ (oJ h))
 ·exact gn 5 [1,5,6] [0] [bF h2] (hE _ (oJ h))
theorem rules_chains_L1_ok (Γ:Gam) (rv:List Int) {before l} {s:List Int × Bool} {e:List Int} (h:loopF (fun s=>rules_chains_L1 before l s.1 s.2) s = some e) (hD:rules_chains_L1_D0 Γ rv before l e):rules_chains_L1_C Γ rv before l s.1 s.2:=by
 refine loop_ind (C:=fun (s:List Int × Bool)=>rules_chains_L1_C Γ rv before l s.1 s.2) (D:=fun (e:List Int)=>rules_chains_L1_D0 Γ rv before l e) ?_ h hD
 clear h hD s e
 rintro ⟨l1,more⟩ z_ h hI hE
 replace h:rules_chains_L1 before l l1 more = _:=h
 unfold rules_chains_L1 at h
 rcases br_elim h with ⟨h1,h⟩|⟨h1,h⟩
 ·obtain ⟨e0,h9,h⟩:=bnd_elim h
  refine gn 12 [1,5,6,16,17,18] [0] [bT h1,nL A2_Int.enc before] (rules_chains_L2_ok Γ rv h9 ?_)
  obtain ⟨l3,more2⟩:=e0
  replace h:(some (.inl (l3,more2)):Option ((List Int × Bool) ⊕ (List Int))) = some _:=h
  exact gn 2 [1,5,6] [0] [] (hI _ (oJ h))
 ·exact gn 5 [5] [0] [bF h1] (hE _ (oJ h))
theorem rules_chains_ok {orders before} {rv:List Int} (h:rules_chains orders before = some rv):AFn Tryz.prog 57 [.one (lI orders),.one (lL 2 before A2_Int.enc)] [] (one (lL 1 rv e_i64)) []:=by
 refine afn_of Tryz.func57 (by kernel_rfl) (by kernel_rfl) (fun Γ=>?_)
 unfold rules_chains at h
 obtain ⟨l,h0,h⟩:=bnd_elim h
 obtain ⟨e1,h10,h⟩:=bnd_elim h
 refine gn 9 [1,5,6] [0] [hH (.cells [lI 0]),hH (.rows (l.map e_i64)),oO (mk1 h0),oO (mk2 h0),oO (mk3 h0),oO (mk4 h0),oO (mk5 e_i64 h0)] (rules_chains_L1_ok Γ rv h10 ?_)
 obtain ⟨l4,rfl⟩:∃ x,x = e1:=⟨_,rfl⟩
 replace h:(some l4:Option (List Int)) = some _:=h
 obtain rfl:=Option.some.inj h
 exact gr 2 [] [hW 4,hH (.frz 0),rp 3 (eL l4 e_i64)]
def rules_Allowed_G (Γ:Gam) (rv:Int) (cf:Cf):Prop:=Go Tryz.prog Tryz.f33 [] Γ (one (lI rv)) [] cf
def rules_Allowed_L1_C (Γ:Gam) (rv:Int) (x0:T_api_Instance) (set_:Int) (r:List Int) (v:Int):Prop:=rules_Allowed_G Γ rv ⟨[.c 244,.l 244,.b 0,.c 31],⟨102,[vI 1 set_,vP 2 0 6,vL 5 1 r e_i64,vL 21 1 r e_i64,vI 22 (lenI r),vI 23 v],[oX 6 30 (T_api_Instance.enc x0)]⟩⟩
def rules_Allowed_L1_D0 (Γ:Gam) (rv:Int) (x0:T_api_Instance) (set_:Int) (r:List Int):Prop:=rules_Allowed_G Γ rv ⟨[.c 31],⟨102,[vI 1 set_,vP 2 0 6,vL 5 1 r e_i64],[oX 6 30 (T_api_Instance.enc x0)]⟩⟩
def rules_Allowed_L2_C (Γ:Gam) (rv:Int) (x0:T_api_Instance) (set_:Int) (r:List Int) (v1:Int):Prop:=rules_Allowed_G Γ rv ⟨[.c 500,.l 500,.b 2,.c 63],⟨102,[vI 1 set_,vP 2 0 6,vL 5 1 r e_i64,vL 33 1 r e_i64,vI 34 (lenI r),vI 35 v1],[oX 6 30 (T_api_Instance.enc x0)]⟩⟩
def rules_Allowed_L2_D0 (Γ:Gam) (rv:Int) (x0:T_api_Instance) (set_:Int) (r:List Int):Prop:=rules_Allowed_G Γ rv ⟨[.c 63],⟨102,[vI 1 set_,vP 2 0 6,vL 5 1 r e_i64],[oX 6 30 (T_api_Instance.enc x0)]⟩⟩
def rules_Allowed_L3_C (Γ:Gam) (rv:Int) (x0:T_api_Instance) (set_:Int) (r:List Int) (v2:Int):Prop:=rules_Allowed_G Γ rv ⟨[.c 1012,.l 1012,.b 4,.c 127],⟨102,[vI 1 set_,vP 2 0 6,vL 5 1 r e_i64,vL 47 2 x0.apart A2_Int.enc,vI 48 (lenI x0.apart),vI 49 v2],[oX 6 30 (T_api_Instance.enc x0)]⟩⟩
def rules_Allowed_L3_D0 (Γ:Gam) (rv:Int) (x0:T_api_Instance) (set_:Int) (r:List Int):Prop:=rules_Allowed_G Γ rv ⟨[.c 127],⟨102,[vI 1 set_,vP 2 0 6,vL 5 1 r e_i64],[oX 6 30 (T_api_Instance.enc x0)]⟩⟩
def rules_Allowed_L4_C (Γ:Gam) (rv:Int) (x0:T_api_Instance) (set_:Int) (r:List Int) (v3:Int):Prop:=rules_Allowed_G Γ rv ⟨[.c 2036,.l 2036,.b 6,.c 255],⟨102,[vI 1 set_,vP 2 0 6,vL 5 1 r e_i64,vL 65 2 x0.before A2_Int.enc,vI 66 (lenI x0.before),vI 67 v3],[oX 6 30 (T_api_Instance.enc x0)]⟩⟩
def rules_Allowed_L4_D0 (Γ:Gam) (rv:Int) (x0:T_api_Instance) (set_:Int) (r:List Int):Prop:=rules_Allowed_G Γ rv ⟨[.c 255],⟨102,[vP 2 0 6,vL 5 1 r e_i64],[oX 6 30 (T_api_Instance.enc x0)]⟩⟩
def rules_Allowed_L5_C (Γ:Gam) (rv:Int) (r:List Int) (r5:List Int) (v4:Int):Prop:=rules_Allowed_G Γ rv ⟨[.c 8180,.l 8180,.b 8,.c 1023],⟨102,[vL 14 1 r5 e_i64,vL 89 1 r e_i64,vI 90 (lenI r),vI 91 v4],[]⟩⟩
def rules_Allowed_L5_D0 (Γ:Gam) (rv:Int) (r:List Int) (r5:List Int):Prop:=rules_Allowed_G Γ rv ⟨[.c 1023],⟨102,[],[]⟩⟩
theorem rules_Allowed_L1_ok (Γ:Gam) (rv:Int) {x0 set_ r} {s:Int} {e:(Unit) ⊕ (Int)} (h:loopF (fun s=>rules_Allowed_L1 x0 set_ r s) s = some e) (hD:sel e (fun e=>rules_Allowed_L1_D0 Γ rv x0 set_ r) (fun e=>e = rv)):rules_Allowed_L1_C Γ rv x0 set_ r s:=by
 refine loop_ind (C:=fun (s:Int)=>rules_Allowed_L1_C Γ rv x0 set_ r s) (D:=fun (e:(Unit) ⊕ (Int))=>sel e (fun e=>rules_Allowed_L1_D0 Γ rv x0 set_ r) (fun e=>e = rv)) ?_ h hD
 clear h hD s e
 intro v z_ h hI hE
 replace h:rules_Allowed_L1 x0 set_ r v = _:=h
 unfold rules_Allowed_L1 at h
 rcases br_elim h with ⟨h2,h⟩|⟨h2,h⟩
 ·obtain ⟨x1,h3,h⟩:=bnd_elim h
  rcases br_elim h with ⟨h4,h⟩|⟨h4,h⟩
  ·obtain rfl:=(hE _ (oJ h):_ = rv)
   exact gr 14 [] [bT h2,cE e_i64 h3,nL T_api_Order.enc x0.orders,bT h4]
  ·exact gn 16 [1,2,5,21,22,23] [0] [bT h2,cE e_i64 h3,nL T_api_Order.enc x0.orders,bF h4] (hI _ (oJ h))
 ·exact gn 5 [1,2,5] [0] [bF h2] (hE _ (oJ h))
theorem rules_Allowed_L2_ok (Γ:Gam) (rv:Int) {x0 set_ r} {s:Int} {e:(Unit) ⊕ (Int)} (h:loopF (fun s=>rules_Allowed_L2 x0 set_ r s) s = some e) (hD:sel e (fun e=>rules_Allowed_L2_D0 Γ rv x0 set_ r) (fun e=>e = rv)):rules_Allowed_L2_C Γ rv x0 set_ r s:=by
 refine loop_ind (C:=fun (s:Int)=>rules_Allowed_L2_C Γ rv x0 set_ r s) (D:=fun (e:(Unit) ⊕ (Int))=>sel e (fun e=>rules_Allowed_L2_D0 Γ rv x0 set_ r) (fun e=>e = rv)) ?_ h hD
 clear h hD s e
 intro v1 z_ h hI hE
 replace h:rules_Allowed_L2 x0 set_ r v1 = _:=h
 unfold rules_Allowed_L2 at h
 rcases br_elim h with ⟨h6,h⟩|⟨h6,h⟩
 ·obtain ⟨x2,h7,h⟩:=bnd_elim h
  obtain ⟨x3,h8,h⟩:=bnd_elim h
  rcases br_elim h with ⟨h9,h⟩|⟨h9,h⟩
  ·obtain rfl:=(hE _ (oJ h):_ = rv)
   exact gr 14 [] [bT h6,cE e_i64 h7,cE T_api_Order.enc h8,bT h9]
  ·exact gn 16 [1,2,5,33,34,35] [0] [bT h6,cE e_i64 h7,cE T_api_Order.enc h8,bF h9] (hI _ (oJ h))
 ·exact gn 5 [1,2,5] [0] [bF h6] (hE _ (oJ h))
theorem rules_Allowed_L3_ok (Γ:Gam) (rv:Int) {x0 set_ r} {s:Int} {e:(Unit) ⊕ (Int)} (h:loopF (fun s=>rules_Allowed_L3 x0 set_ r s) s = some e) (hD:sel e (fun e=>rules_Allowed_L3_D0 Γ rv x0 set_ r) (fun e=>e = rv)):rules_Allowed_L3_C Γ rv x0 set_ r s:=by
 refine loop_ind (C:=fun (s:Int)=>rules_Allowed_L3_C Γ rv x0 set_ r s) (D:=fun (e:(Unit) ⊕ (Int))=>sel e (fun e=>rules_Allowed_L3_D0 Γ rv x0 set_ r) (fun e=>e = rv)) ?_ h hD
 clear h hD s e
 intro v2 z_ h hI hE
 replace h:rules_Allowed_L3 x0 set_ r v2 = _:=h
 unfold rules_Allowed_L3 at h
 rcases br_elim h with ⟨h11,h⟩|⟨h11,h⟩
 ·obtain ⟨x4,h12,h⟩:=bnd_elim h
  obtain ⟨r1,h13,h⟩:=bnd_elim h
  rcases br_elim h with ⟨h14,h⟩|⟨h14,h⟩
  ·obtain ⟨r2,h15,h⟩:=bnd_elim h
   rcases br_elim h with ⟨h16,h⟩|⟨h16,h⟩
   ·obtain rfl:=(hE _ (oJ h):_ = rv)
    exact gr 14 [] [bT h11,cE A2_Int.enc h12,oO (zL 0),oO (lT 0 2),cC (sets_Has_ok h13),rp 2 (bT h14),oO (zL 1),oO (lT 1 2),rp 2 (bT h14),cC (sets_Has_ok h15),bT h14,bT h16]
   ·exact gn 16 [1,2,5,47,48,49] [0] [bT h11,cE A2_Int.enc h12,oO (zL 0),oO (lT 0 2),cC (sets_Has_ok h13),rp 2 (bT h14),oO (zL 1),oO (lT 1 2),rp 2 (bT h14),cC (sets_Has_ok h15),bT h14,bF h16] (hI _ (oJ h))
  ·exact gn 16 [1,2,5,47,48,49] [0] [bT h11,cE A2_Int.enc h12,oO (zL 0),oO (lT 0 2),cC (sets_Has_ok h13),rp 5 (bF h14),fF] (hI _ (oJ h))
 ·exact gn 5 [1,2,5] [0] [bF h11] (hE _ (oJ h))
theorem rules_Allowed_L4_ok (Γ:Gam) (rv:Int) {x0 set_ r} {s:Int} {e:(Unit) ⊕ (Int)} (h:loopF (fun s=>rules_Allowed_L4 x0 set_ r s) s = some e) (hD:sel e (fun e=>rules_Allowed_L4_D0 Γ rv x0 set_ r) (fun e=>e = rv)):rules_Allowed_L4_C Γ rv x0 set_ r s:=by
 refine loop_ind (C:=fun (s:Int)=>rules_Allowed_L4_C Γ rv x0 set_ r s) (D:=fun (e:(Unit) ⊕ (Int))=>sel e (fun e=>rules_Allowed_L4_D0 Γ rv x0 set_ r) (fun e=>e = rv)) ?_ h hD
 clear h hD s e
 intro v3 z_ h hI hE
 replace h:rules_Allowed_L4 x0 set_ r v3 = _:=h
 unfold rules_Allowed_L4 at h
 rcases br_elim h with ⟨h18,h⟩|⟨h18,h⟩
 ·obtain ⟨x5,h19,h⟩:=bnd_elim h
  obtain ⟨r3,h20,h⟩:=bnd_elim h
  rcases br_elim h with ⟨h21,h⟩|⟨h21,h⟩
  ·obtain ⟨r4,h22,h⟩:=bnd_elim h
   rcases br_elim h with ⟨h23,h⟩|⟨h23,h⟩
   ·exact gn 16 [1,2,5,65,66,67] [0] [bT h18,cE A2_Int.enc h19,oO (zL 1),oO (lT 1 2),cC (sets_Has_ok h20),rp 2 (bT h21),oO (zL 0),oO (lT 0 2),rp 2 (bT h21),cC (sets_Has_ok h22),rp 2 (bT h21),nF h23] (hI _ (oJ h))
   ·obtain rfl:=(hE _ (oJ h):_ = rv)
    exact gr 14 [] [bT h18,cE A2_Int.enc h19,oO (zL 1),oO (lT 1 2),cC (sets_Has_ok h20),rp 2 (bT h21),oO (zL 0),oO (lT 0 2),rp 2 (bT h21),cC (sets_Has_ok h22),rp 2 (bT h21),nT h23]
  ·exact gn 16 [1,2,5,65,66,67] [0] [bT h18,cE A2_Int.enc h19,oO (zL 1),oO (lT 1 2),cC (sets_Has_ok h20),rp 6 (bF h21),fF] (hI _ (oJ h))
 ·exact gn 5 [2,5] [0] [bF h18] (hE _ (oJ h))
theorem rules_Allowed_L5_ok (Γ:Gam) (rv:Int) {r r5} {s:Int} {e:(Unit) ⊕ (Int)} (h:loopF (fun s=>rules_Allowed_L5 r r5 s) s = some e) (hD:sel e (fun e=>rules_Allowed_L5_D0 Γ rv r r5) (fun e=>e = rv)):rules_Allowed_L5_C Γ rv r r5 s:=by
 refine loop_ind (C:=fun (s:Int)=>rules_Allowed_L5_C Γ rv r r5 s) (D:=fun (e:(Unit) ⊕ (Int))=>sel e (fun e=>rules_Allowed_L5_D0 Γ rv r r5) (fun e=>e = rv)) ?_ h hD
 clear h hD s e
 intro v4 z_ h hI hE
 replace h:rules_Allowed_L5 r r5 v4 = _:=h
 unfold rules_Allowed_L5 at h
 rcases br_elim h with ⟨h26,h⟩|⟨h26,h⟩
 ·obtain ⟨x6,h27,h⟩:=bnd_elim h
  obtain ⟨x7,h28,h⟩:=bnd_elim h
  obtain ⟨r6,h29,h⟩:=bnd_elim h
  rcases br_elim h with ⟨h30,h⟩|⟨h30,h⟩
  ·obtain rfl:=(hE _ (oJ h):_ = rv)
   exact gr 14 [] [bT h26,cE e_i64 h27,cE e_i64 h28,cC (sets_Has_ok h29),bT h30]
  ·exact gn 16 [14,89,90,91] [] [bT h26,cE e_i64 h27,cE e_i64 h28,cC (sets_Has_ok h29),bF h30] (hI _ (oJ h))
 ·exact gn 5 [] [] [bF h26] (hE _ (oJ h))
theorem rules_Allowed_ok {x0 set_} {rv:Int} (h:rules_Allowed x0 set_ = some rv):AFn Tryz.prog 33 [.agg (T_api_Instance.enc x0),.one (lI set_)] [] (one (lI rv)) []:=by
 refine afn_of Tryz.func33 (by kernel_rfl) (by kernel_rfl) (fun Γ=>?_)
 unfold rules_Allowed at h
 rcases br_elim h with ⟨h0,h⟩|⟨h0,h⟩
 ·obtain rfl:=Option.some.inj h
  exact gr 8 [] [bT h0]
 ·obtain ⟨r,h1,h⟩:=bnd_elim h
  obtain ⟨e0,h5,h⟩:=bnd_elim h
  refine gn 14 [1,2,5,21,22,23] [0] [bF h0,cC (sets_Members_ok h1),nL e_i64 r] (rules_Allowed_L1_ok Γ rv h5 ?_)
  rcases e0 with e0|e0
  ·replace h:(bnd (loopF (fun s=>rules_Allowed_L2 x0 set_ r s) 0) (fun e=>sel e (fun (_:Unit)=>bnd (loopF (fun s=>rules_Allowed_L3 x0 set_ r s) 0) (fun e=>sel e (fun (_:Unit)=>bnd (loopF (fun s=>rules_Allowed_L4 x0 set_ r s) 0) (fun e=>sel e (fun (_:Unit)=>bnd (rules_chains (lenI x0.orders) x0.before) fun r5=>bnd (loopF (fun s=>rules_Allowed_L5 r r5 s) 0) (fun e=>sel e (fun (_:Unit)=>some 0) (fun r7=>some r7))) (fun r8=>some r8))) (fun r9=>some r9))) (fun r10=>some r10)):Option Int) = some _:=h
   obtain ⟨e1,h10,h⟩:=bnd_elim h
   refine gn 5 [1,2,5,33,34,35] [0] [nL e_i64 r] (rules_Allowed_L2_ok Γ rv h10 ?_)
   rcases e1 with e1|e1
   ·replace h:(bnd (loopF (fun s=>rules_Allowed_L3 x0 set_ r s) 0) (fun e=>sel e (fun (_:Unit)=>bnd (loopF (fun s=>rules_Allowed_L4 x0 set_ r s) 0) (fun e=>sel e (fun (_:Unit)=>bnd (rules_chains (lenI x0.orders) x0.before) fun r5=>bnd (loopF (fun s=>rules_Allowed_L5 r r5 s) 0) (fun e=>sel e (fun (_:Unit)=>some 0) (fun r7=>some r7))) (fun r8=>some r8))) (fun r9=>some r9)):Option Int) = some _:=h
    obtain ⟨e2,h17,h⟩:=bnd_elim h
    refine gn 5 [1,2,5,47,48,49] [0] [nL A2_Int.enc x0.apart] (rules_Allowed_L3_ok Γ rv h17 ?_)
    rcases e2 with e2|e2
    ·replace h:(bnd (loopF (fun s=>rules_Allowed_L4 x0 set_ r s) 0) (fun e=>sel e (fun (_:Unit)=>bnd (rules_chains (lenI x0.orders) x0.before) fun r5=>bnd (loopF (fun s=>rules_Allowed_L5 r r5 s) 0) (fun e=>sel e (fun (_:Unit)=>some 0) (fun r7=>some r7))) (fun r8=>some r8)):Option Int) = some _:=h
     obtain ⟨e3,h24,h⟩:=bnd_elim h
     refine gn 5 [1,2,5,65,66,67] [0] [nL A2_Int.enc x0.before] (rules_Allowed_L4_ok Γ rv h24 ?_)
     rcases e3 with e3|e3
     ·replace h:(bnd (rules_chains (lenI x0.orders) x0.before) fun r5=>bnd (loopF (fun s=>rules_Allowed_L5 r r5 s) 0) (fun e=>sel e (fun (_:Unit)=>some 0) (fun r7=>some r7)):Option Int) = some _:=h
      obtain ⟨r5,h25,h⟩:=bnd_elim h
      obtain ⟨e4,h31,h⟩:=bnd_elim h
      refine gn 7 [14,89,90,91] [] [nL T_api_Order.enc x0.orders,cC (rules_chains_ok h25),nL e_i64 r] (rules_Allowed_L5_ok Γ rv h31 ?_)
      rcases e4 with e4|e4
      ·replace h:(some 0:Option Int) = some _:=h
       obtain rfl:=Option.some.inj h
       exact gr 2 [] []
      ·obtain ⟨r7,rfl⟩:∃ x,x = e4:=⟨_,rfl⟩
       replace h:(some r7:Option Int) = some _:=h
       exact Option.some.inj h
     ·obtain ⟨r8,rfl⟩:∃ x,x = e3:=⟨_,rfl⟩
      replace h:(some r8:Option Int) = some _:=h
      exact Option.some.inj h
    ·obtain ⟨r9,rfl⟩:∃ x,x = e2:=⟨_,rfl⟩
     replace h:(some r9:Option Int) = some _:=h
     exact Option.some.inj h
   ·obtain ⟨r10,rfl⟩:∃ x,x = e1:=⟨_,rfl⟩
    replace h:(some r10:Option Int) = some _:=h
    exact Option.some.inj h
  ·obtain ⟨r11,rfl⟩:∃ x,x = e0:=⟨_,rfl⟩
   replace h:(some r11:Option Int) = some _:=h
   exact Option.some.inj h
def lorrylaw21_RouteRules_G (Γ:Gam) (rv:Bool) (cf:Cf):Prop:=Go Tryz.prog Tryz.f9 [] Γ (one (.bool rv)) [] cf
def lorrylaw21_RouteRules_L1_C (Γ:Gam) (rv:Bool) (x0:T_api_Instance) (x1:T_api_Type) (r4:Int × Int) (v:Int):Prop:=lorrylaw21_RouteRules_G Γ rv ⟨[.c 8180,.l 8180,.b 0,.c 1023],⟨119,[vP 8 0 14,vI 9 r4.1,vL 97 16 x0.orders T_api_Order.enc,vI 98 (lenI x0.orders),vI 99 v],[oX 14 64 (T_api_Type.enc x1)]⟩⟩
def lorrylaw21_RouteRules_L1_D0 (Γ:Gam) (rv:Bool) (x0:T_api_Instance) (x1:T_api_Type) (r4:Int × Int):Prop:=lorrylaw21_RouteRules_G Γ rv ⟨[.c 1023],⟨119,[],[]⟩⟩
theorem lorrylaw21_RouteRules_L1_ok (Γ:Gam) (rv:Bool) {x0 x1 r4} {s:Int} {e:(Unit) ⊕ (Bool)} (h:loopF (fun s=>lorrylaw21_RouteRules_L1 x0 x1 r4 s) s = some e) (hD:sel e (fun e=>lorrylaw21_RouteRules_L1_D0 Γ rv x0 x1 r4) (fun e=>e = rv)):lorrylaw21_RouteRules_L1_C Γ rv x0 x1 r4 s:=by
 refine loop_ind (C:=fun (s:Int)=>lorrylaw21_RouteRules_L1_C Γ rv x0 x1 r4 s) (D:=fun (e:(Unit) ⊕ (Bool))=>sel e (fun e=>lorrylaw21_RouteRules_L1_D0 Γ rv x0 x1 r4) (fun e=>e = rv)) ?_ h hD
 clear h hD s e
 intro v z_ h hI hE
 replace h:lorrylaw21_RouteRules_L1 x0 x1 r4 v = _:=h
 unfold lorrylaw21_RouteRules_L1 at h
 rcases br_elim h with ⟨h16,h⟩|⟨h16,h⟩
 ·obtain ⟨x2,h17,h⟩:=bnd_elim h
  obtain ⟨h18,h⟩:=chk_elim h
  rcases br_elim h with ⟨h19,h⟩|⟨h19,h⟩
  ·obtain ⟨r8,h20,h⟩:=bnd_elim h
   rcases br_elim h with ⟨h21,h⟩|⟨h21,h⟩
   ·exact gn 16 [8,9,97,98,99] [0] [bT h16,cE T_api_Order.enc h17,oO (h18),rp 4 (bT h19),cC (fleet_Able_ok h20),rp 2 (bT h19),nF h21] (hI _ (oJ h))
   ·obtain rfl:=(hE _ (oJ h):_ = rv)
    exact gr 14 [] [bT h16,cE T_api_Order.enc h17,oO (h18),rp 4 (bT h19),cC (fleet_Able_ok h20),rp 2 (bT h19),nT h21]
  ·exact gn 16 [8,9,97,98,99] [0] [bT h16,cE T_api_Order.enc h17,oO (h18),rp 6 (bF h19),fF] (hI _ (oJ h))
 ·exact gn 5 [] [] [bF h16] (hE _ (oJ h))
theorem lorrylaw21_RouteRules_ok {x0 r} {rv:Bool} (h:lorrylaw21_RouteRules x0 r = some rv):AFn Tryz.prog 9 [.agg (T_api_Instance.enc x0),.agg (T_api_Route.enc r)] [] (one (.bool rv)) []:=by
 refine afn_of Tryz.func9 (by kernel_rfl) (by kernel_rfl) (fun Γ=>?_)
 unfold lorrylaw21_RouteRules at h
 obtain ⟨r1,h0,h⟩:=bnd_elim h
 rcases br_elim h with ⟨h1,h⟩|⟨h1,h⟩
 ·obtain ⟨r2,h2,h⟩:=bnd_elim h
  rcases br_elim h with ⟨h3,h⟩|⟨h3,h⟩
  ·rcases br_elim h with ⟨h4,h⟩|⟨h4,h⟩
   ·obtain ⟨r3,h5,h⟩:=bnd_elim h
    obtain rfl:=Option.some.inj h
    exact gr 15 [] [cC (lorrylaw21_right_ok h0),nF h1,cC (route_Evaluate_ok h2),bT h3,hP,hP,hP,rp 2 (oI ((eqI r2.1.end_ 0) = true)),nL T_api_Time.enc r2.1.times,hP,hP,oI ((eqI r2.1.end_ 0) = true),oR True ((eqI r2.1.end_ 0) = true),bT h4,cC (lorrylaw21_examples_ok h5),bT h4]
   ·obtain rfl:=Option.some.inj h
    exact gr 15 [] [cC (lorrylaw21_right_ok h0),nF h1,cC (route_Evaluate_ok h2),bT h3,hP,hP,hP,rp 2 (oI ((eqI r2.1.end_ 0) = true)),nL T_api_Time.enc r2.1.times,hP,hP,oI ((eqI r2.1.end_ 0) = true),oR True ((eqI r2.1.end_ 0) = true),bF h4,bF h4]
  ·rcases br_elim h with ⟨h6,h⟩|⟨h6,h⟩
   ·obtain rfl:=Option.some.inj h
    exact gr 20 [] [cC (lorrylaw21_right_ok h0),nF h1,cC (route_Evaluate_ok h2),bF h3,rp 5 hP,rp 3 (oI ((ltI r.type_ 0) = false)),nL T_api_Type.enc x0.types,hP,hP,rp 2 (oI ((ltI r.type_ 0) = false)),oR True ((ltI r.type_ 0) = false),bT h6]
   ·obtain ⟨x1,h7,h⟩:=bnd_elim h
    obtain ⟨r4,h8,h⟩:=bnd_elim h
    rcases br_elim h with ⟨h9,h⟩|⟨h9,h⟩
    ·obtain rfl:=Option.some.inj h
     exact gr 29 [] [cC (lorrylaw21_right_ok h0),nF h1,cC (route_Evaluate_ok h2),bF h3,rp 5 hP,rp 3 (oI ((ltI r.type_ 0) = false)),nL T_api_Type.enc x0.types,hP,hP,rp 2 (oI ((ltI r.type_ 0) = false)),oR True ((ltI r.type_ 0) = false),bF h6,cE T_api_Type.enc h7,cC (sequence_Orders_ok h8),rp 5 (bT h9),rp 24 tT]
    ·obtain ⟨r5,h10,h⟩:=bnd_elim h
     rcases br_elim h with ⟨h11,h⟩|⟨h11,h⟩
     ·obtain rfl:=Option.some.inj h
      exact gr 29 [] [cC (lorrylaw21_right_ok h0),nF h1,cC (route_Evaluate_ok h2),bF h3,rp 5 hP,rp 3 (oI ((ltI r.type_ 0) = false)),nL T_api_Type.enc x0.types,hP,hP,rp 2 (oI ((ltI r.type_ 0) = false)),oR True ((ltI r.type_ 0) = false),bF h6,cE T_api_Type.enc h7,cC (sequence_Orders_ok h8),rp 3 (bF h9),cC (rules_Allowed_ok h10),bF h9,bF h9,rp 5 (bT h11),rp 19 tT]
     ·obtain ⟨r6,h12,h⟩:=bnd_elim h
      rcases br_elim h with ⟨h13,h⟩|⟨h13,h⟩
      ·obtain rfl:=Option.some.inj h
       exact gr 29 [] [cC (lorrylaw21_right_ok h0),nF h1,cC (route_Evaluate_ok h2),bF h3,rp 5 hP,rp 3 (oI ((ltI r.type_ 0) = false)),nL T_api_Type.enc x0.types,hP,hP,rp 2 (oI ((ltI r.type_ 0) = false)),oR True ((ltI r.type_ 0) = false),bF h6,cE T_api_Type.enc h7,cC (sequence_Orders_ok h8),rp 3 (bF h9),cC (rules_Allowed_ok h10),bF h9,bF h9,rp 3 (bF h11),cC (carry_Fits_ok h12),rp 2 (bF h11),rp 6 (bT h13),rp 13 tT]
      ·obtain ⟨r7,h14,h⟩:=bnd_elim h
       rcases br_elim h with ⟨h15,h⟩|⟨h15,h⟩
       ·obtain rfl:=Option.some.inj h
        exact gr 29 [] [cC (lorrylaw21_right_ok h0),nF h1,cC (route_Evaluate_ok h2),bF h3,rp 5 hP,rp 3 (oI ((ltI r.type_ 0) = false)),nL T_api_Type.enc x0.types,hP,hP,rp 2 (oI ((ltI r.type_ 0) = false)),oR True ((ltI r.type_ 0) = false),bF h6,cE T_api_Type.enc h7,cC (sequence_Orders_ok h8),rp 3 (bF h9),cC (rules_Allowed_ok h10),bF h9,bF h9,rp 3 (bF h11),cC (carry_Fits_ok h12),rp 2 (bF h11),rp 4 (bF h13),cC (drive_Valid_ok h14),rp 2 (bF h13),rp 12 hP,rp 4 (oI ((neI r7 0) = false)),oR True ((neI r7 0) = false),rp 4 (oI (((neI r7 0) || (ltI r2.1.end_ x1.open_)) = false)),oR True (((neI r7 0) || (ltI r2.1.end_ x1.open_)) = false),bT h15]
       ·obtain ⟨e0,h22,h⟩:=bnd_elim h
        refine gn 33 [8,9,97,98,99] [4] [cC (lorrylaw21_right_ok h0),nF h1,cC (route_Evaluate_ok h2),bF h3,rp 5 hP,rp 3 (oI ((ltI r.type_ 0) = false)),nL T_api_Type.enc x0.types,hP,hP,rp 2 (oI ((ltI r.type_ 0) = false)),oR True ((ltI r.type_ 0) = false),bF h6,cE T_api_Type.enc h7,cC (sequence_Orders_ok h8),rp 3 (bF h9),cC (rules_Allowed_ok h10),bF h9,bF h9,rp 3 (bF h11),cC (carry_Fits_ok h12),rp 2 (bF h11),rp 4 (bF h13),cC (drive_Valid_ok h14),rp 2 (bF h13),rp 12 hP,rp 4 (oI ((neI r7 0) = false)),oR True ((neI r7 0) = false),rp 4 (oI (((neI r7 0) || (ltI r2.1.end_ x1.open_)) = false)),oR True (((neI r7 0) || (ltI r2.1.end_ x1.open_)) = false),bF h15,nL T_api_Order.enc x0.orders] (lorrylaw21_RouteRules_L1_ok Γ rv h22 ?_)
        rcases e0 with e0|e0
        ·replace h:(bnd (lorrylaw21_examples) fun r9=>some r9:Option Bool) = some _:=h
         obtain ⟨r9,h23,h⟩:=bnd_elim h
         obtain rfl:=Option.some.inj h
         exact gr 2 [] [cC (lorrylaw21_examples_ok h23)]
        ·obtain ⟨r10,rfl⟩:∃ x,x = e0:=⟨_,rfl⟩
         replace h:(some r10:Option Bool) = some _:=h
         exact Option.some.inj h
 ·obtain ⟨r11,h24,h⟩:=bnd_elim h
  obtain rfl:=Option.some.inj h
  exact gr 8 [] [cC (lorrylaw21_right_ok h0),nT h1,cC (lorrylaw21_examples_ok h24)]
end Go.Proofs.YtfldlilicmbmkaaGreatDoor
