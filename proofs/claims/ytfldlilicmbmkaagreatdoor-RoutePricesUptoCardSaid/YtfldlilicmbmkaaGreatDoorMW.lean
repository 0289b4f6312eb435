/- Part MW of the proof: texts Z2. -/
import Derived.Test.YtfldlilicmbmkaaGreatDoorMV
import Derived.Test.YtfldlilicmbmkaaGreatDoorProg
namespace Go.Proofs.YtfldlilicmbmkaaGreatDoor
set_option linter.unusedVariables false
set_option linter.unusedSectionVars false
set_option linter.unusedSimpArgs false
set_option maxHeartbeats 4000000
set_option maxRecDepth 100000
def lorryref16_Check_G (Γ:Gam) (rv:Int) (cf:Cf):Prop:=Go Tryz.prog Tryz.f47 [] Γ (one (lI rv)) [] cf
def lorryref16_Check_L1_C (Γ:Gam) (rv:Int) (x0:T_api_Instance) (r:T_api_Route) (i:Int):Prop:=lorryref16_Check_G Γ rv ⟨[.c 116,.l 116,.b 0,.c 15],⟨91,[vP 2 0 6,vP 3 1 4,vL 5 2 r.visits T_api_Visit.enc,vI 6 i],[oX 6 30 (T_api_Instance.enc x0),oX 4 34 (T_api_Route.enc r)]⟩⟩
def lorryref16_Check_L1_D0 (Γ:Gam) (rv:Int) (x0:T_api_Instance) (r:T_api_Route):Prop:=lorryref16_Check_G Γ rv ⟨[.c 15],⟨91,[vP 2 0 6,vP 3 1 4,vL 5 2 r.visits T_api_Visit.enc],[oX 6 30 (T_api_Instance.enc x0),oX 4 34 (T_api_Route.enc r)]⟩⟩
def lorryref16_Check_L2_C (Γ:Gam) (rv:Int) (x0:T_api_Instance) (r:T_api_Route) (r1:Int × Int) (i1:Int):Prop:=lorryref16_Check_G Γ rv ⟨[.c 1012,.l 1012,.b 2,.c 127],⟨91,[vP 2 0 6,vL 5 2 r.visits T_api_Visit.enc,vI 7 r1.1,vI 9 i1],[oX 6 30 (T_api_Instance.enc x0)]⟩⟩
def lorryref16_Check_L2_D0 (Γ:Gam) (rv:Int) (x0:T_api_Instance) (r:T_api_Route) (r1:Int × Int):Prop:=lorryref16_Check_G Γ rv ⟨[.c 127],⟨91,[vP 2 0 6,vL 5 2 r.visits T_api_Visit.enc,vI 7 r1.1],[oX 6 30 (T_api_Instance.enc x0)]⟩⟩
def lorryref16_Check_L3_C (Γ:Gam) (rv:Int) (x0:T_api_Instance) (r:T_api_Route) (r1:Int × Int) (i2:Int):Prop:=lorryref16_Check_G Γ rv ⟨[.c 2036,.l 2036,.b 4,.c 255],⟨91,[vP 2 0 6,vL 5 2 r.visits T_api_Visit.enc,vI 7 r1.1,vI 10 i2],[oX 6 30 (T_api_Instance.enc x0)]⟩⟩
def lorryref16_Check_L3_D0 (Γ:Gam) (rv:Int) (x0:T_api_Instance) (r:T_api_Route) (r1:Int × Int):Prop:=lorryref16_Check_G Γ rv ⟨[.c 255],⟨91,[vP 2 0 6,vL 5 2 r.visits T_api_Visit.enc,vI 7 r1.1],[oX 6 30 (T_api_Instance.enc x0)]⟩⟩
theorem lorryref16_Check_L1_ok (Γ:Gam) (rv:Int) {x0 r} {s:Int} {e:(Unit) ⊕ (Int)} (h:loopF (fun s=>lorryref16_Check_L1 x0 r s) s = some e) (hD:sel e (fun e=>lorryref16_Check_L1_D0 Γ rv x0 r) (fun e=>e = rv)):lorryref16_Check_L1_C Γ rv x0 r s:=by
 refine loop_ind (C:=fun (s:Int)=>lorryref16_Check_L1_C Γ rv x0 r s) (D:=fun (e:(Unit) ⊕ (Int))=>sel e (fun e=>lorryref16_Check_L1_D0 Γ rv x0 r) (fun e=>e = rv)) ?_ h hD
 clear h hD s e
 intro i z_ h hI hE
 replace h:lorryref16_Check_L1 x0 r i = _:=h
 unfold lorryref16_Check_L1 at h
 rcases br_elim h with ⟨h0,h⟩|⟨h0,h⟩
 ·obtain ⟨x1,h1,h⟩:=bnd_elim h
  rcases br_elim h with ⟨h2,h⟩|⟨h2,h⟩
  ·obtain rfl:=(hE _ (oJ h):_ = rv)
   exact gr 12 [] [nL T_api_Visit.enc r.visits,bT h0,hH (.draw 17 []),cE T_api_Visit.enc h1,rp 10 (bT h2),tT]
  ·rcases br_elim h with ⟨h3,h⟩|⟨h3,h⟩
   ·obtain rfl:=(hE _ (oJ h):_ = rv)
    exact gr 12 [] [nL T_api_Visit.enc r.visits,bT h0,hH (.draw 17 []),cE T_api_Visit.enc h1,rp 3 (bF h2),cE T_api_Visit.enc h1,rp 5 (bF h2),nL T_api_Order.enc x0.orders,bF h2,bF h2,bT h3]
   ·exact gn 14 [2,3,5,6] [0,1] [nL T_api_Visit.enc r.visits,bT h0,hH (.draw 17 []),cE T_api_Visit.enc h1,rp 3 (bF h2),cE T_api_Visit.enc h1,rp 5 (bF h2),nL T_api_Order.enc x0.orders,bF h2,bF h2,bF h3] (hI _ (oJ h))
 ·exact gn 5 [2,3,5] [0,1] [nL T_api_Visit.enc r.visits,bF h0] (hE _ (oJ h))
theorem lorryref16_Check_L2_ok (Γ:Gam) (rv:Int) {x0 r r1} {s:Int} {e:(Unit) ⊕ (Int)} (h:loopF (fun s=>lorryref16_Check_L2 x0 r r1 s) s = some e) (hD:sel e (fun e=>lorryref16_Check_L2_D0 Γ rv x0 r r1) (fun e=>e = rv)):lorryref16_Check_L2_C Γ rv x0 r r1 s:=by
 refine loop_ind (C:=fun (s:Int)=>lorryref16_Check_L2_C Γ rv x0 r r1 s) (D:=fun (e:(Unit) ⊕ (Int))=>sel e (fun e=>lorryref16_Check_L2_D0 Γ rv x0 r r1) (fun e=>e = rv)) ?_ h hD
 clear h hD s e
 intro i1 z_ h hI hE
 replace h:lorryref16_Check_L2 x0 r r1 i1 = _:=h
 unfold lorryref16_Check_L2 at h
 rcases br_elim h with ⟨h7,h⟩|⟨h7,h⟩
 ·obtain ⟨x2,h8,h⟩:=bnd_elim h
  obtain ⟨x3,h9,h⟩:=bnd_elim h
  rcases br_elim h with ⟨h10,h⟩|⟨h10,h⟩
  ·obtain rfl:=(hE _ (oJ h):_ = rv)
   exact gr 12 [] [nL T_api_Visit.enc r.visits,bT h7,hH (.draw 10 []),cE T_api_Visit.enc h8,cE T_api_Order.enc h9,bT h10]
  ·exact gn 14 [2,5,7,9] [0] [nL T_api_Visit.enc r.visits,bT h7,hH (.draw 10 []),cE T_api_Visit.enc h8,cE T_api_Order.enc h9,bF h10] (hI _ (oJ h))
 ·exact gn 5 [2,5,7] [0] [nL T_api_Visit.enc r.visits,bF h7] (hE _ (oJ h))
theorem lorryref16_Check_L3_ok (Γ:Gam) (rv:Int) {x0 r r1} {s:Int} {e:(Unit) ⊕ (Int)} (h:loopF (fun s=>lorryref16_Check_L3 x0 r r1 s) s = some e) (hD:sel e (fun e=>lorryref16_Check_L3_D0 Γ rv x0 r r1) (fun e=>e = rv)):lorryref16_Check_L3_C Γ rv x0 r r1 s:=by
 refine loop_ind (C:=fun (s:Int)=>lorryref16_Check_L3_C Γ rv x0 r r1 s) (D:=fun (e:(Unit) ⊕ (Int))=>sel e (fun e=>lorryref16_Check_L3_D0 Γ rv x0 r r1) (fun e=>e = rv)) ?_ h hD
 clear h hD s e
 intro i2 z_ h hI hE
 replace h:lorryref16_Check_L3 x0 r r1 i2 = _:=h
 unfold lorryref16_Check_L3 at h
 rcases br_elim h with ⟨h12,h⟩|⟨h12,h⟩
 ·obtain ⟨x4,h13,h⟩:=bnd_elim h
  obtain ⟨r2,h14,h⟩:=bnd_elim h
  rcases br_elim h with ⟨h15,h⟩|⟨h15,h⟩
  ·obtain rfl:=(hE _ (oJ h):_ = rv)
   exact gr 12 [] [nL T_api_Visit.enc r.visits,bT h12,cE T_api_Visit.enc h13,cC (lorryref16_Index_ok h14),bT h15]
  ·exact gn 14 [2,5,7,10] [0] [nL T_api_Visit.enc r.visits,bT h12,cE T_api_Visit.enc h13,cC (lorryref16_Index_ok h14),bF h15] (hI _ (oJ h))
 ·exact gn 5 [2,5,7] [0] [nL T_api_Visit.enc r.visits,bF h12] (hE _ (oJ h))
theorem lorryref16_Check_ok {x0 r} {rv:Int} (h:lorryref16_Check x0 r = some rv):AFn Tryz.prog 47 [.agg (T_api_Instance.enc x0),.agg (T_api_Route.enc r)] [] (one (lI rv)) []:=by
 refine afn_of Tryz.func47 (by kernel_rfl) (by kernel_rfl) (fun Γ=>?_)
 unfold lorryref16_Check at h
 obtain ⟨e0,h4,h⟩:=bnd_elim h
 refine gn 9 [2,3,5,6] [0,1] [] (lorryref16_Check_L1_ok Γ rv h4 ?_)
 rcases e0 with e0|e0
 ·replace h:(bnd (lorryref16_Orders r) fun r1=>br ((neI r1.2 0) || (eqI (lenI r.visits) 0)) (some 2) (bnd (loopF (fun s=>lorryref16_Check_L2 x0 r r1 s) 0) (fun e=>sel e (fun (_:Unit)=>bnd (loopF (fun s=>lorryref16_Check_L3 x0 r r1 s) 0) (fun e=>sel e (fun (_:Unit)=>bnd (lorryref16_paired x0 r.visits) fun r3=>br r3 (bnd (lorryref16_apart x0 r1.1) fun r4=>br r4 (bnd (lorryref16_before x0 r1.1 r.visits) fun r5=>br r5 (some 0) (some 21)) (some 20)) (some 19)) (fun r6=>some r6))) (fun r7=>some r7))):Option Int) = some _:=h
  obtain ⟨r1,h5,h⟩:=bnd_elim h
  rcases br_elim h with ⟨h6,h⟩|⟨h6,h⟩
  ·obtain rfl:=Option.some.inj h
   exact gr 8 [] [cC (lorryref16_Orders_ok h5),hP,hP,oI ((neI r1.2 0) = false),nL T_api_Visit.enc r.visits,hP,hP,oI ((neI r1.2 0) = false),oR True ((neI r1.2 0) = false),bT h6]
  ·obtain ⟨e1,h11,h⟩:=bnd_elim h
   refine gn 12 [2,5,7,9] [0] [cC (lorryref16_Orders_ok h5),hP,hP,oI ((neI r1.2 0) = false),nL T_api_Visit.enc r.visits,hP,hP,oI ((neI r1.2 0) = false),oR True ((neI r1.2 0) = false),bF h6] (lorryref16_Check_L2_ok Γ rv h11 ?_)
   rcases e1 with e1|e1
   ·replace h:(bnd (loopF (fun s=>lorryref16_Check_L3 x0 r r1 s) 0) (fun e=>sel e (fun (_:Unit)=>bnd (lorryref16_paired x0 r.visits) fun r3=>br r3 (bnd (lorryref16_apart x0 r1.1) fun r4=>br r4 (bnd (lorryref16_before x0 r1.1 r.visits) fun r5=>br r5 (some 0) (some 21)) (some 20)) (some 19)) (fun r6=>some r6)):Option Int) = some _:=h
    obtain ⟨e2,h16,h⟩:=bnd_elim h
    refine gn 5 [2,5,7,10] [0] [] (lorryref16_Check_L3_ok Γ rv h16 ?_)
    rcases e2 with e2|e2
    ·replace h:(bnd (lorryref16_paired x0 r.visits) fun r3=>br r3 (bnd (lorryref16_apart x0 r1.1) fun r4=>br r4 (bnd (lorryref16_before x0 r1.1 r.visits) fun r5=>br r5 (some 0) (some 21)) (some 20)) (some 19):Option Int) = some _:=h
     obtain ⟨r3,h17,h⟩:=bnd_elim h
     rcases br_elim h with ⟨h18,h⟩|⟨h18,h⟩
     ·obtain ⟨r4,h19,h⟩:=bnd_elim h
      rcases br_elim h with ⟨h20,h⟩|⟨h20,h⟩
      ·obtain ⟨r5,h21,h⟩:=bnd_elim h
       rcases br_elim h with ⟨h22,h⟩|⟨h22,h⟩
       ·obtain rfl:=Option.some.inj h
        exact gr 17 [] [cC (lorryref16_paired_ok h17),nF h18,cC (lorryref16_apart_ok h19),nF h20,cC (lorryref16_before_ok h21),nF h22]
       ·obtain rfl:=Option.some.inj h
        exact gr 16 [] [cC (lorryref16_paired_ok h17),nF h18,cC (lorryref16_apart_ok h19),nF h20,cC (lorryref16_before_ok h21),nT h22]
      ·obtain rfl:=Option.some.inj h
       exact gr 11 [] [cC (lorryref16_paired_ok h17),nF h18,cC (lorryref16_apart_ok h19),nT h20]
     ·obtain rfl:=Option.some.inj h
      exact gr 6 [] [cC (lorryref16_paired_ok h17),nT h18]
    ·obtain ⟨r6,rfl⟩:∃ x,x = e2:=⟨_,rfl⟩
     replace h:(some r6:Option Int) = some _:=h
     exact Option.some.inj h
   ·obtain ⟨r7,rfl⟩:∃ x,x = e1:=⟨_,rfl⟩
    replace h:(some r7:Option Int) = some _:=h
    exact Option.some.inj h
 ·obtain ⟨r8,rfl⟩:∃ x,x = e0:=⟨_,rfl⟩
  replace h:(some r8:Option Int) = some _:=h
  exact Option.some.inj h
def lorryref10_Able_G (Γ:Gam) (rv:Bool) (cf:Cf):Prop:=Go Tryz.prog Tryz.f48 [] Γ (one (.bool rv)) [] cf
def lorryref10_Able_L1_C (Γ:Gam) (rv:Bool) (t:T_api_Type) (skills:Int) (bit:Int):Prop:=lorryref10_Able_G Γ rv ⟨[.c 116,.l 116,.b 0,.c 15],⟨30,[vI 1 skills,vP 2 0 14,vI 5 bit],[oX 14 64 (T_api_Type.enc t)]⟩⟩
def lorryref10_Able_L1_D0 (Γ:Gam) (rv:Bool) (t:T_api_Type) (skills:Int):Prop:=lorryref10_Able_G Γ rv ⟨[.c 15],⟨30,[],[]⟩⟩
theorem lorryref10_Able_L1_ok (Γ:Gam) (rv:Bool) {t skills} {s:Int} {e:(Unit) ⊕ (Bool)} (h:loopF (fun s=>lorryref10_Able_L1 t skills s) s = some e) (hD:sel e (fun e=>lorryref10_Able_L1_D0 Γ rv t skills) (fun e=>e = rv)):lorryref10_Able_L1_C Γ rv t skills s:=by
 refine loop_ind (C:=fun (s:Int)=>lorryref10_Able_L1_C Γ rv t skills s) (D:=fun (e:(Unit) ⊕ (Bool))=>sel e (fun e=>lorryref10_Able_L1_D0 Γ rv t skills) (fun e=>e = rv)) ?_ h hD
 clear h hD s e
 intro bit z_ h hI hE
 replace h:lorryref10_Able_L1 t skills bit = _:=h
 unfold lorryref10_Able_L1 at h
 rcases br_elim h with ⟨h1,h⟩|⟨h1,h⟩
 ·obtain ⟨h2,h⟩:=chk_elim h
  rcases br_elim h with ⟨h3,h⟩|⟨h3,h⟩
  ·obtain ⟨h4,h⟩:=chk_elim h
   rcases br_elim h with ⟨h5,h⟩|⟨h5,h⟩
   ·obtain rfl:=(hE _ (oJ h):_ = rv)
    exact gr 12 [] [bT h1,oO (h2),oO (oA (n:=2)),rp 4 (bT h3),oO (h4),bT h3,oO (oA (n:=2)),bT h3,bT h3,bT h5]
   ·exact gn 14 [1,2,5] [0] [bT h1,oO (h2),oO (oA (n:=2)),rp 4 (bT h3),oO (h4),bT h3,oO (oA (n:=2)),bT h3,bT h3,bF h5] (hI _ (oJ h))
  ·exact gn 14 [1,2,5] [0] [bT h1,oO (h2),oO (oA (n:=2)),rp 7 (bF h3),fF] (hI _ (oJ h))
 ·exact gn 5 [] [] [bF h1] (hE _ (oJ h))
theorem lorryref10_Able_ok {t skills} {rv:Bool} (h:lorryref10_Able t skills = some rv):AFn Tryz.prog 48 [.agg (T_api_Type.enc t),.one (lI skills)] [] (one (.bool rv)) []:=by
 refine afn_of Tryz.func48 (by kernel_rfl) (by kernel_rfl) (fun Γ=>?_)
 unfold lorryref10_Able at h
 rcases br_elim h with ⟨h0,h⟩|⟨h0,h⟩
 ·obtain rfl:=Option.some.inj h
  exact gr 8 [] [hP,hP,hP,oI ((ltI t.skills 0) = false),oR True ((ltI t.skills 0) = false),bT h0]
 ·obtain ⟨e0,h6,h⟩:=bnd_elim h
  refine gn 12 [1,2,5] [0] [hP,hP,hP,oI ((ltI t.skills 0) = false),oR True ((ltI t.skills 0) = false),bF h0] (lorryref10_Able_L1_ok Γ rv h6 ?_)
  rcases e0 with e0|e0
  ·replace h:(some true:Option Bool) = some _:=h
   obtain rfl:=Option.some.inj h
   exact gr 2 [] []
  ·obtain ⟨r,rfl⟩:∃ x,x = e0:=⟨_,rfl⟩
   replace h:(some r:Option Bool) = some _:=h
   exact Option.some.inj h
def lorryref06_even_G (Γ:Gam) (rv:Bool) (cf:Cf):Prop:=Go Tryz.prog Tryz.f178 [] Γ (one (.bool rv)) [] cf
def lorryref06_even_L1_C (Γ:Gam) (rv:Bool) (l:List (List Int)) (dims:Int) (i:Int):Prop:=lorryref06_even_G Γ rv ⟨[.c 116,.l 116,.b 0,.c 15],⟨25,[vL 0 1 l es_e_i64,vI 1 dims,vI 5 i],[]⟩⟩
def lorryref06_even_L1_D0 (Γ:Gam) (rv:Bool) (l:List (List Int)) (dims:Int):Prop:=lorryref06_even_G Γ rv ⟨[.c 15],⟨25,[],[]⟩⟩
theorem lorryref06_even_L1_ok (Γ:Gam) (rv:Bool) {l dims} {s:Int} {e:(Unit) ⊕ (Bool)} (h:loopF (fun s=>lorryref06_even_L1 l dims s) s = some e) (hD:sel e (fun e=>lorryref06_even_L1_D0 Γ rv l dims) (fun e=>e = rv)):lorryref06_even_L1_C Γ rv l dims s:=by
 refine loop_ind (C:=fun (s:Int)=>lorryref06_even_L1_C Γ rv l dims s) (D:=fun (e:(Unit) ⊕ (Bool))=>sel e (fun e=>lorryref06_even_L1_D0 Γ rv l dims) (fun e=>e = rv)) ?_ h hD
 clear h hD s e
 intro i z_ h hI hE
 replace h:lorryref06_even_L1 l dims i = _:=h
 unfold lorryref06_even_L1 at h
 rcases br_elim h with ⟨h1,h⟩|⟨h1,h⟩
 ·obtain ⟨x0,h2,h⟩:=bnd_elim h
  rcases br_elim h with ⟨h3,h⟩|⟨h3,h⟩
  ·obtain rfl:=(hE _ (oJ h):_ = rv)
   exact gr 12 [] [nL es_e_i64 l,bT h1,cE es_e_i64 h2,nL e_i64 x0,bT h3]
  ·exact gn 14 [0,1,5] [] [nL es_e_i64 l,bT h1,cE es_e_i64 h2,nL e_i64 x0,bF h3] (hI _ (oJ h))
 ·exact gn 5 [] [] [nL es_e_i64 l,bF h1] (hE _ (oJ h))
theorem lorryref06_even_ok {l dims} {rv:Bool} (h:lorryref06_even l dims = some rv):AFn Tryz.prog 178 [.one (lL 1 l es_e_i64),.one (lI dims)] [] (one (.bool rv)) []:=by
 refine afn_of Tryz.func178 (by kernel_rfl) (by kernel_rfl) (fun Γ=>?_)
 unfold lorryref06_even at h
 rcases br_elim h with ⟨h0,h⟩|⟨h0,h⟩
 ·obtain rfl:=Option.some.inj h
  exact gr 8 [] [hP,hP,hP,oI ((ltI dims 0) = false),oR True ((ltI dims 0) = false),bT h0]
 ·obtain ⟨e0,h4,h⟩:=bnd_elim h
  refine gn 12 [0,1,5] [] [hP,hP,hP,oI ((ltI dims 0) = false),oR True ((ltI dims 0) = false),bF h0] (lorryref06_even_L1_ok Γ rv h4 ?_)
  rcases e0 with e0|e0
  ·replace h:(some true:Option Bool) = some _:=h
   obtain rfl:=Option.some.inj h
   exact gr 2 [] []
  ·obtain ⟨r,rfl⟩:∃ x,x = e0:=⟨_,rfl⟩
   replace h:(some r:Option Bool) = some _:=h
   exact Option.some.inj h
def lorryref06_Sum_G (Γ:Gam) (rv:List Int × Int) (cf:Cf):Prop:=Go Tryz.prog Tryz.f169 [] Γ (.tup [.one (lL 1 rv.1 e_i64),.one (lI rv.2)]) [] cf
def lorryref06_Sum_L2_C (Γ:Gam) (rv:List Int × Int) (l:List (List Int)) (dims:Int) (l1:List Int) (d:Int) (n:Int) (i:Int):Prop:=lorryref06_Sum_G Γ rv ⟨[.c 62612,.l 62612,.b 2,.c 7827,.b 1,.c 979,.l 244,.b 0,.c 31],⟨39,[vL 0 1 l es_e_i64,vI 1 dims,vO 6 0 1 l1 e_i64,vI 7 d,vI 8 n,vI 9 i],[oS 1 3 l1 e_i64]⟩⟩
def lorryref06_Sum_L2_D0 (Γ:Gam) (rv:List Int × Int) (l:List (List Int)) (dims:Int) (l1:List Int) (d:Int) (n1:Int):Prop:=lorryref06_Sum_G Γ rv ⟨[.c 7827,.b 1,.c 979,.l 244,.b 0,.c 31],⟨39,[vL 0 1 l es_e_i64,vI 1 dims,vO 6 0 1 l1 e_i64,vI 7 d,vI 8 n1],[oS 1 3 l1 e_i64]⟩⟩
def lorryref06_Sum_L1_C (Γ:Gam) (rv:List Int × Int) (l:List (List Int)) (dims:Int) (l1:List Int) (d:Int):Prop:=lorryref06_Sum_G Γ rv ⟨[.c 244,.l 244,.b 0,.c 31],⟨39,[vL 0 1 l es_e_i64,vI 1 dims,vO 6 0 1 l1 e_i64,vI 7 d],[oS 1 3 l1 e_i64]⟩⟩
def lorryref06_Sum_L1_D0 (Γ:Gam) (rv:List Int × Int) (l:List (List Int)) (dims:Int) (l2:List Int):Prop:=lorryref06_Sum_G Γ rv ⟨[.c 31],⟨39,[vO 6 0 1 l2 e_i64],[oS 1 3 l2 e_i64]⟩⟩
theorem lorryref06_Sum_L2_ok (Γ:Gam) (rv:List Int × Int) {l dims l1 d} {s:Int × Int} {e:Int} (h:loopF (fun s=>lorryref06_Sum_L2 l dims l1 d s.1 s.2) s = some e) (hD:lorryref06_Sum_L2_D0 Γ rv l dims l1 d e):lorryref06_Sum_L2_C Γ rv l dims l1 d s.1 s.2:=by
 refine loop_ind (C:=fun (s:Int × Int)=>lorryref06_Sum_L2_C Γ rv l dims l1 d s.1 s.2) (D:=fun (e:Int)=>lorryref06_Sum_L2_D0 Γ rv l dims l1 d e) ?_ h hD
 clear h hD s e
 rintro ⟨n,i⟩ z_ h hI hE
 replace h:lorryref06_Sum_L2 l dims l1 d n i = _:=h
 unfold lorryref06_Sum_L2 at h
 rcases br_elim h with ⟨h3,h⟩|⟨h3,h⟩
 ·obtain ⟨x0,h4,h⟩:=bnd_elim h
  obtain ⟨x1,h5,h⟩:=bnd_elim h
  exact gn 11 [0,1,6,7,8,9] [0] [nL es_e_i64 l,bT h3,cE es_e_i64 h4,cE e_i64 h5] (hI _ (oJ h))
 ·exact gn 5 [0,1,6,7,8] [0] [nL es_e_i64 l,bF h3] (hE _ (oJ h))
theorem lorryref06_Sum_L1_ok (Γ:Gam) (rv:List Int × Int) {l dims} {s:List Int × Int} {e:List Int} (h:loopF (fun s=>lorryref06_Sum_L1 l dims s.1 s.2) s = some e) (hD:lorryref06_Sum_L1_D0 Γ rv l dims e):lorryref06_Sum_L1_C Γ rv l dims s.1 s.2:=by
 refine loop_ind (C:=fun (s:List Int × Int)=>lorryref06_Sum_L1_C Γ rv l dims s.1 s.2) (D:=fun (e:List Int)=>lorryref06_Sum_L1_D0 Γ rv l dims e) ?_ h hD
 clear h hD s e
 rintro ⟨l1,d⟩ z_ h hI hE
 replace h:lorryref06_Sum_L1 l dims l1 d = _:=h
 unfold lorryref06_Sum_L1 at h
 rcases br_elim h with ⟨h2,h⟩|⟨h2,h⟩
 ·obtain ⟨e0,h6,h⟩:=bnd_elim h
  refine gn 14 [0,1,6,7,8,9] [0] [bT h2] (lorryref06_Sum_L2_ok Γ rv h6 ?_)
  obtain ⟨n1,rfl⟩:∃ x,x = e0:=⟨_,rfl⟩
  replace h:(chk (okN (l1 ++ [n1]).length 8) (some (.inl ((l1 ++ [n1]),(addK .i64 d 1)))):Option ((List Int × Int) ⊕ (List Int))) = some _:=h
  obtain ⟨h7,h⟩:=chk_elim h
  exact gn 4 [0,1,6,7] [2] [oO (Eq.refl ([n1].map e_i64).length),aO e_i64 h7] (hI _ (oJ h))
 ·exact gn 5 [6] [0] [bF h2] (hE _ (oJ h))
theorem lorryref06_Sum_ok {l dims} {rv:List Int × Int} (h:lorryref06_Sum l dims = some rv):AFn Tryz.prog 169 [.one (lL 1 l es_e_i64),.one (lI dims)] [] (.tup [.one (lL 1 rv.1 e_i64),.one (lI rv.2)]) []:=by
 refine afn_of Tryz.func169 (by kernel_rfl) (by kernel_rfl) (fun Γ=>?_)
 unfold lorryref06_Sum at h
 obtain ⟨r,h0,h⟩:=bnd_elim h
 rcases br_elim h with ⟨h1,h⟩|⟨h1,h⟩
 ·obtain ⟨e1,h8,h⟩:=bnd_elim h
  refine gn 14 [0,1,6,7] [0] [cC (lorryref06_even_ok h0),nF h1,hW 10,hH (.adopt 6 1 3)] (lorryref06_Sum_L1_ok Γ rv h8 ?_)
  obtain ⟨l2,rfl⟩:∃ x,x = e1:=⟨_,rfl⟩
  replace h:(some (l2,0):Option (List Int × Int)) = some _:=h
  obtain rfl:=Option.some.inj h
  exact gr 2 [] [hW 5,hH (.frz 0),rp 3 (eL l2 e_i64)]
 ·obtain rfl:=Option.some.inj h
  exact gr 8 [] [cC (lorryref06_even_ok h0),nT h1,hW 4,hH (.nilS 4 0 1)]
theorem lorryref17_dims_ok {x0} {rv:Int} (h:lorryref17_dims x0 = some rv):AFn Tryz.prog 170 [.agg (T_api_Instance.enc x0)] [] (one (lI rv)) []:=by
 refine afn_of Tryz.func170 (by kernel_rfl) (by kernel_rfl) (fun Γ=>?_)
 unfold lorryref17_dims at h
 rcases br_elim h with ⟨h0,h⟩|⟨h0,h⟩
 ·obtain rfl:=Option.some.inj h
  exact gr 8 [] [nL T_api_Type.enc x0.types,bT h0]
 ·obtain ⟨x1,h1,h⟩:=bnd_elim h
  obtain rfl:=Option.some.inj h
  exact gr 9 [] [nL T_api_Type.enc x0.types,bF h0,cE T_api_Type.enc h1,nL e_i64 x1.cap]
def lorryref17_after_G (Γ:Gam) (rv:List Int × Int) (cf:Cf):Prop:=Go Tryz.prog Tryz.f143 [] Γ (.tup [.one (lL 1 rv.1 e_i64),.one (lI rv.2)]) [] cf
def lorryref17_after_L2_C (Γ:Gam) (rv:List Int × Int) (x0:T_api_Instance) (l:List T_api_Visit) (n:Int) (l1:List (List Int)) (i:Int) (on_:Bool) (there:Bool) (k:Int):Prop:=lorryref17_after_G Γ rv ⟨[.c 29844,.l 29844,.b 2,.c 3731,.b 1,.c 467,.l 116,.b 0,.c 15],⟨69,[vL 1 2 l T_api_Visit.enc,vI 2 n,vP 3 0 6,vO 8 1 1 l1 es_e_i64,vI 9 i,vB 10 on_,vB 11 there,vI 12 k],[oX 6 30 (T_api_Instance.enc x0),oS 1 42 l1 es_e_i64]⟩⟩
def lorryref17_after_L2_D0 (Γ:Gam) (rv:List Int × Int) (x0:T_api_Instance) (l:List T_api_Visit) (n:Int) (l1:List (List Int)) (i:Int) (on_1:Bool) (there1:Bool):Prop:=lorryref17_after_G Γ rv ⟨[.c 3731,.b 1,.c 467,.l 116,.b 0,.c 15],⟨69,[vL 1 2 l T_api_Visit.enc,vI 2 n,vP 3 0 6,vO 8 1 1 l1 es_e_i64,vI 9 i,vB 10 on_1,vB 11 there1],[oX 6 30 (T_api_Instance.enc x0),oS 1 42 l1 es_e_i64]⟩⟩
def lorryref17_after_L1_C (Γ:Gam) (rv:List Int × Int) (x0:T_api_Instance) (l:List T_api_Visit) (n:Int) (l1:List (List Int)) (i:Int):Prop:=lorryref17_after_G Γ rv ⟨[.c 116,.l 116,.b 0,.c 15],⟨69,[vL 1 2 l T_api_Visit.enc,vI 2 n,vP 3 0 6,vO 8 1 1 l1 es_e_i64,vI 9 i],[oX 6 30 (T_api_Instance.enc x0),oS 1 42 l1 es_e_i64]⟩⟩
def lorryref17_after_L1_D0 (Γ:Gam) (rv:List Int × Int) (x0:T_api_Instance) (l:List T_api_Visit) (n:Int) (l2:List (List Int)):Prop:=lorryref17_after_G Γ rv ⟨[.c 15],⟨69,[vP 3 0 6,vO 8 1 1 l2 es_e_i64],[oX 6 30 (T_api_Instance.enc x0),oS 1 42 l2 es_e_i64]⟩⟩
theorem lorryref17_after_L2_ok (Γ:Gam) (rv:List Int × Int) {x0 l n l1 i} {s:Bool × Bool × Int} {e:Bool × Bool} (h:loopF (fun s=>lorryref17_after_L2 x0 l n l1 i s.1 s.2.1 s.2.2) s = some e) (hD:lorryref17_after_L2_D0 Γ rv x0 l n l1 i e.1 e.2):lorryref17_after_L2_C Γ rv x0 l n l1 i s.1 s.2.1 s.2.2:=by
 refine loop_ind (C:=fun (s:Bool × Bool × Int)=>lorryref17_after_L2_C Γ rv x0 l n l1 i s.1 s.2.1 s.2.2) (D:=fun (e:Bool × Bool)=>lorryref17_after_L2_D0 Γ rv x0 l n l1 i e.1 e.2) ?_ h hD
 clear h hD s e
 rintro ⟨on_,there,k⟩ z_ h hI hE
 replace h:lorryref17_after_L2 x0 l n l1 i on_ there k = _:=h
 unfold lorryref17_after_L2 at h
 rcases br_elim h with ⟨h2,h⟩|⟨h2,h⟩
 ·obtain ⟨x2,h3,h⟩:=bnd_elim h
  rcases br_elim h with ⟨h4,h⟩|⟨h4,h⟩
  ·exact gn 14 [1,2,3,8,9,10,11,12] [0,1] [nL T_api_Visit.enc l,bT h2,cE T_api_Visit.enc h3,bT h4] (hI _ (oJ h))
  ·rcases br_elim h with ⟨h5,h⟩|⟨h5,h⟩
   ·exact gn 21 [1,2,3,8,9,10,11,12] [0,1] [nL T_api_Visit.enc l,bT h2,cE T_api_Visit.enc h3,bF h4,bT h5,cE T_api_Visit.enc h3] (hI _ (oJ h))
   ·exact gn 21 [1,2,3,8,9,10,11,12] [0,1] [nL T_api_Visit.enc l,bT h2,cE T_api_Visit.enc h3,bF h4,bF h5] (hI _ (oJ h))
 ·exact gn 5 [1,2,3,8,9,10,11] [0,1] [nL T_api_Visit.enc l,bF h2] (hE _ (oJ h))
theorem lorryref17_after_L1_ok (Γ:Gam) (rv:List Int × Int) {x0 l n} {s:List (List Int) × Int} {e:List (List Int)} (h:loopF (fun s=>lorryref17_after_L1 x0 l n s.1 s.2) s = some e) (hD:lorryref17_after_L1_D0 Γ rv x0 l n e):lorryref17_after_L1_C Γ rv x0 l n s.1 s.2:=by
 refine loop_ind (C:=fun (s:List (List Int) × Int)=>lorryref17_after_L1_C Γ rv x0 l n s.1 s.2) (D:=fun (e:List (List Int))=>lorryref17_after_L1_D0 Γ rv x0 l n e) ?_ h hD
 clear h hD s e
 rintro ⟨l1,i⟩ z_ h hI hE
 replace h:lorryref17_after_L1 x0 l n l1 i = _:=h
 unfold lorryref17_after_L1 at h
 rcases br_elim h with ⟨h0,h⟩|⟨h0,h⟩
 ·obtain ⟨x1,h1,h⟩:=bnd_elim h
  obtain ⟨e0,h6,h⟩:=bnd_elim h
  refine gn 14 [1,2,3,8,9,10,11,12] [0,1] [nL T_api_Order.enc x0.orders,bT h0,cE T_api_Order.enc h1] (lorryref17_after_L2_ok Γ rv h6 ?_)
  obtain ⟨on_1,there1⟩:=e0
  replace h:(br (on_1 && there1) (bnd (getI x0.orders i) fun x3=>chk (okN (l1 ++ [x3.load]).length 24) (some (.inl ((l1 ++ [x3.load]),(addK .i64 i 1))))) (some (.inl (l1,(addK .i64 i 1)))):Option ((List (List Int) × Int) ⊕ (List (List Int)))) = some _:=h
  rcases br_elim h with ⟨h7,h⟩|⟨h7,h⟩
  ·obtain ⟨x3,h8,h⟩:=bnd_elim h
   obtain ⟨h9,h⟩:=chk_elim h
   exact gn 7 [1,2,3,8,9] [0,3] [hP,hP,oR True (on_1 = true),bT h7,cE T_api_Order.enc h8,oO (Eq.refl ([x3.load].map es_e_i64).length),aO es_e_i64 h9] (hI _ (oJ h))
  ·exact gn 7 [1,2,3,8,9] [0,1] [hP,hP,oR True (on_1 = true),bF h7] (hI _ (oJ h))
 ·exact gn 5 [3,8] [0,1] [nL T_api_Order.enc x0.orders,bF h0] (hE _ (oJ h))
theorem lorryref17_after_ok {x0 l n} {rv:List Int × Int} (h:lorryref17_after x0 l n = some rv):AFn Tryz.prog 143 [.agg (T_api_Instance.enc x0),.one (lL 2 l T_api_Visit.enc),.one (lI n)] [] (.tup [.one (lL 1 rv.1 e_i64),.one (lI rv.2)]) []:=by
 refine afn_of Tryz.func143 (by kernel_rfl) (by kernel_rfl) (fun Γ=>?_)
 unfold lorryref17_after at h
 obtain ⟨e1,h10,h⟩:=bnd_elim h
 refine gn 9 [1,2,3,8,9] [0,1] [hW 14,hH (.adopt 8 1 42)] (lorryref17_after_L1_ok Γ rv h10 ?_)
 obtain ⟨l2,rfl⟩:∃ x,x = e1:=⟨_,rfl⟩
 replace h:(bnd (lorryref17_dims x0) fun r=>bnd (lorryref06_Sum l2 r) fun r1=>some (r1.1,r1.2):Option (List Int × Int)) = some _:=h
 obtain ⟨r,h11,h⟩:=bnd_elim h
 obtain ⟨r1,h12,h⟩:=bnd_elim h
 obtain rfl:=Option.some.inj h
 exact gr 2 [] [cC (lorryref17_dims_ok h11),hH (.frz 1),rp 2 (eL l2 es_e_i64),cC (lorryref06_Sum_ok h12)]
def lorryref17_Loads_G (Γ:Gam) (rv:List (List Int) × Int) (cf:Cf):Prop:=Go Tryz.prog Tryz.f96 [] Γ (.tup [.one (lL 1 rv.1 es_e_i64),.one (lI rv.2)]) [] cf
def lorryref17_Loads_L1_C (Γ:Gam) (rv:List (List Int) × Int) (x0:T_api_Instance) (r:T_api_Route) (l:List (List Int)) (n:Int):Prop:=lorryref17_Loads_G Γ rv ⟨[.c 244,.l 244,.b 0,.c 31],⟨40,[vP 2 0 6,vP 3 1 4,vO 7 2 1 l es_e_i64,vI 8 n],[oX 6 30 (T_api_Instance.enc x0),oX 4 34 (T_api_Route.enc r),oS 1 42 l es_e_i64]⟩⟩
def lorryref17_Loads_L1_D0 (Γ:Gam) (rv:List (List Int) × Int) (x0:T_api_Instance) (r:T_api_Route) (l1:List (List Int)):Prop:=lorryref17_Loads_G Γ rv ⟨[.c 31],⟨40,[vO 7 0 1 l1 es_e_i64],[oS 1 42 l1 es_e_i64]⟩⟩
theorem lorryref17_Loads_L1_ok (Γ:Gam) (rv:List (List Int) × Int) {x0 r} {s:List (List Int) × Int} {e:(List (List Int)) ⊕ (List (List Int) × Int)} (h:loopF (fun s=>lorryref17_Loads_L1 x0 r s.1 s.2) s = some e) (hD:sel e (fun e=>lorryref17_Loads_L1_D0 Γ rv x0 r e) (fun e=>e = rv)):lorryref17_Loads_L1_C Γ rv x0 r s.1 s.2:=by
 refine loop_ind (C:=fun (s:List (List Int) × Int)=>lorryref17_Loads_L1_C Γ rv x0 r s.1 s.2) (D:=fun (e:(List (List Int)) ⊕ (List (List Int) × Int))=>sel e (fun e=>lorryref17_Loads_L1_D0 Γ rv x0 r e) (fun e=>e = rv)) ?_ h hD
 clear h hD s e
 rintro ⟨l,n⟩ z_ h hI hE
 replace h:lorryref17_Loads_L1 x0 r l n = _:=h
 unfold lorryref17_Loads_L1 at h
 rcases br_elim h with ⟨h2,h⟩|⟨h2,h⟩
 ·obtain ⟨r2,h3,h⟩:=bnd_elim h
  rcases br_elim h with ⟨h4,h⟩|⟨h4,h⟩
  ·obtain rfl:=(hE _ (oJ h):_ = rv)
   exact gr 15 [] [nL T_api_Visit.enc r.visits,bT h2,cC (lorryref17_after_ok h3),bT h4,hW 5,hH (.nilS 4 0 1)]
  ·obtain ⟨h5,h⟩:=chk_elim h
   exact gn 18 [2,3,7,8] [0,1,4] [nL T_api_Visit.enc r.visits,bT h2,cC (lorryref17_after_ok h3),bF h4,oO (Eq.refl ([r2.1].map es_e_i64).length),aO es_e_i64 h5] (hI _ (oJ h))
 ·exact gn 5 [7] [2] [nL T_api_Visit.enc r.visits,bF h2] (hE _ (oJ h))
theorem lorryref17_Loads_ok {x0 r} {rv:List (List Int) × Int} (h:lorryref17_Loads x0 r = some rv):AFn Tryz.prog 96 [.agg (T_api_Instance.enc x0),.agg (T_api_Route.enc r)] [] (.tup [.one (lL 1 rv.1 es_e_i64),.one (lI rv.2)]) []:=by
 refine afn_of Tryz.func96 (by kernel_rfl) (by kernel_rfl) (fun Γ=>?_)
 unfold lorryref17_Loads at h
 obtain ⟨r1,h0,h⟩:=bnd_elim h
 rcases br_elim h with ⟨h1,h⟩|⟨h1,h⟩
 ·obtain rfl:=Option.some.inj h
  exact gr 10 [] [cC (lorryref16_Check_ok h0),bT h1,hW 5,hH (.nilS 4 0 1)]
 ·obtain ⟨e0,h6,h⟩:=bnd_elim h
  refine gn 16 [2,3,7,8] [0,1,2] [cC (lorryref16_Check_ok h0),bF h1,hW 10,hH (.adopt 7 1 42)] (lorryref17_Loads_L1_ok Γ rv h6 ?_)
  rcases e0 with e0|e0
  ·obtain ⟨l1,rfl⟩:∃ x,x = e0:=⟨_,rfl⟩
   replace h:(some (l1,0):Option (List (List Int) × Int)) = some _:=h
   obtain rfl:=Option.some.inj h
   exact gr 2 [] [hW 5,hH (.frz 0),rp 3 (eL l1 es_e_i64)]
  ·obtain ⟨r3,rfl⟩:∃ x,x = e0:=⟨_,rfl⟩
   replace h:(some r3:Option (List (List Int) × Int)) = some _:=h
   exact Option.some.inj h
def lorryref06_Fits_G (Γ:Gam) (rv:Bool) (cf:Cf):Prop:=Go Tryz.prog Tryz.f97 [] Γ (one (.bool rv)) [] cf
def lorryref06_Fits_L1_C (Γ:Gam) (rv:Bool) (a:List Int) (capacity:List Int) (i:Int):Prop:=lorryref06_Fits_G Γ rv ⟨[.c 116,.l 116,.b 0,.c 15],⟨26,[vL 0 1 a e_i64,vL 1 1 capacity e_i64,vI 5 i],[]⟩⟩
def lorryref06_Fits_L1_D0 (Γ:Gam) (rv:Bool) (a:List Int) (capacity:List Int):Prop:=lorryref06_Fits_G Γ rv ⟨[.c 15],⟨26,[],[]⟩⟩
theorem lorryref06_Fits_L1_ok (Γ:Gam) (rv:Bool) {a capacity} {s:Int} {e:(Unit) ⊕ (Bool)} (h:loopF (fun s=>lorryref06_Fits_L1 a capacity s) s = some e) (hD:sel e (fun e=>lorryref06_Fits_L1_D0 Γ rv a capacity) (fun e=>e = rv)):lorryref06_Fits_L1_C Γ rv a capacity s:=by
 refine loop_ind (C:=fun (s:Int)=>lorryref06_Fits_L1_C Γ rv a capacity s) (D:=fun (e:(Unit) ⊕ (Bool))=>sel e (fun e=>lorryref06_Fits_L1_D0 Γ rv a capacity) (fun e=>e = rv)) ?_ h hD
 clear h hD s e
 intro i z_ h hI hE
 replace h:lorryref06_Fits_L1 a capacity i = _:=h
 unfold lorryref06_Fits_L1 at h
 rcases br_elim h with ⟨h1,h⟩|⟨h1,h⟩
 ·obtain ⟨x0,h2,h⟩:=bnd_elim h
  obtain ⟨x1,h3,h⟩:=bnd_elim h
  rcases br_elim h with ⟨h4,h⟩|⟨h4,h⟩
  ·obtain rfl:=(hE _ (oJ h):_ = rv)
   exact gr 12 [] [nL e_i64 a,bT h1,hH (.draw 9 []),cE e_i64 h2,cE e_i64 h3,bT h4]
  ·exact gn 14 [0,1,5] [] [nL e_i64 a,bT h1,hH (.draw 9 []),cE e_i64 h2,cE e_i64 h3,bF h4] (hI _ (oJ h))
 ·exact gn 5 [] [] [nL e_i64 a,bF h1] (hE _ (oJ h))
theorem lorryref06_Fits_ok {a capacity} {rv:Bool} (h:lorryref06_Fits a capacity = some rv):AFn Tryz.prog 97 [.one (lL 1 a e_i64),.one (lL 1 capacity e_i64)] [] (one (.bool rv)) []:=by
 refine afn_of Tryz.func97 (by kernel_rfl) (by kernel_rfl) (fun Γ=>?_)
 unfold lorryref06_Fits at h
 rcases br_elim h with ⟨h0,h⟩|⟨h0,h⟩
 ·obtain rfl:=Option.some.inj h
  exact gr 8 [] [nL e_i64 a,nL e_i64 capacity,bT h0]
 ·obtain ⟨e0,h5,h⟩:=bnd_elim h
  refine gn 12 [0,1,5] [] [nL e_i64 a,nL e_i64 capacity,bF h0] (lorryref06_Fits_L1_ok Γ rv h5 ?_)
  rcases e0 with e0|e0
  ·replace h:(some true:Option Bool) = some _:=h
   obtain rfl:=Option.some.inj h
   exact gr 2 [] []
  ·obtain ⟨r,rfl⟩:∃ x,x = e0:=⟨_,rfl⟩
   replace h:(some r:Option Bool) = some _:=h
   exact Option.some.inj h
def lorryref17_Fits_G (Γ:Gam) (rv:Int) (cf:Cf):Prop:=Go Tryz.prog Tryz.f49 [] Γ (one (lI rv)) [] cf
def lorryref17_Fits_L1_C (Γ:Gam) (rv:Int) (x0:T_api_Instance) (r:T_api_Route) (r1:List (List Int) × Int) (i:Int):Prop:=lorryref17_Fits_G Γ rv ⟨[.c 500,.l 500,.b 0,.c 63],⟨47,[vP 2 0 6,vP 3 1 4,vL 5 1 r1.1 es_e_i64,vI 7 i],[oX 6 30 (T_api_Instance.enc x0),oX 4 34 (T_api_Route.enc r)]⟩⟩
def lorryref17_Fits_L1_D0 (Γ:Gam) (rv:Int) (x0:T_api_Instance) (r:T_api_Route) (r1:List (List Int) × Int):Prop:=lorryref17_Fits_G Γ rv ⟨[.c 63],⟨47,[],[]⟩⟩
theorem lorryref17_Fits_L1_ok (Γ:Gam) (rv:Int) {x0 r r1} {s:Int} {e:(Unit) ⊕ (Int)} (h:loopF (fun s=>lorryref17_Fits_L1 x0 r r1 s) s = some e) (hD:sel e (fun e=>lorryref17_Fits_L1_D0 Γ rv x0 r r1) (fun e=>e = rv)):lorryref17_Fits_L1_C Γ rv x0 r r1 s:=by
 refine loop_ind (C:=fun (s:Int)=>lorryref17_Fits_L1_C Γ rv x0 r r1 s) (D:=fun (e:(Unit) ⊕ (Int))=>sel e (fun e=>lorryref17_Fits_L1_D0 Γ rv x0 r r1) (fun e=>e = rv)) ?_ h hD
 clear h hD s e
 intro i z_ h hI hE
 replace h:lorryref17_Fits_L1 x0 r r1 i = _:=h
 unfold lorryref17_Fits_L1 at h
 rcases br_elim h with ⟨h3,h⟩|⟨h3,h⟩
 ·obtain ⟨x1,h4,h⟩:=bnd_elim h
  obtain ⟨x2,h5,h⟩:=bnd_elim h
  obtain ⟨r2,h6,h⟩:=bnd_elim h
  rcases br_elim h with ⟨h7,h⟩|⟨h7,h⟩
  ·exact gn 14 [2,3,5,7] [0,1] [nL es_e_i64 r1.1,bT h3,hH (.draw 13 []),cE es_e_i64 h4,cE T_api_Type.enc h5,cC (lorryref06_Fits_ok h6),nF h7] (hI _ (oJ h))
  ·obtain rfl:=(hE _ (oJ h):_ = rv)
   exact gr 12 [] [nL es_e_i64 r1.1,bT h3,hH (.draw 13 []),cE es_e_i64 h4,cE T_api_Type.enc h5,cC (lorryref06_Fits_ok h6),nT h7]
 ·exact gn 5 [] [] [nL es_e_i64 r1.1,bF h3] (hE _ (oJ h))
theorem lorryref17_Fits_ok {x0 r} {rv:Int} (h:lorryref17_Fits x0 r = some rv):AFn Tryz.prog 49 [.agg (T_api_Instance.enc x0),.agg (T_api_Route.enc r)] [] (one (lI rv)) []:=by
 refine afn_of Tryz.func49 (by kernel_rfl) (by kernel_rfl) (fun Γ=>?_)
 unfold lorryref17_Fits at h
 rcases br_elim h with ⟨h0,h⟩|⟨h0,h⟩
 ·obtain rfl:=Option.some.inj h
  exact gr 8 [] [rp 5 hP,rp 3 (oI ((ltI r.type_ 0) = false)),nL T_api_Type.enc x0.types,hP,hP,rp 2 (oI ((ltI r.type_ 0) = false)),oR True ((ltI r.type_ 0) = false),bT h0]
 ·obtain ⟨r1,h1,h⟩:=bnd_elim h
  rcases br_elim h with ⟨h2,h⟩|⟨h2,h⟩
  ·obtain rfl:=Option.some.inj h
   exact gr 15 [] [rp 5 hP,rp 3 (oI ((ltI r.type_ 0) = false)),nL T_api_Type.enc x0.types,hP,hP,rp 2 (oI ((ltI r.type_ 0) = false)),oR True ((ltI r.type_ 0) = false),bF h0,cC (lorryref17_Loads_ok h1),bT h2]
  ·obtain ⟨e0,h8,h⟩:=bnd_elim h
   refine gn 19 [2,3,5,7] [0,1] [rp 5 hP,rp 3 (oI ((ltI r.type_ 0) = false)),nL T_api_Type.enc x0.types,hP,hP,rp 2 (oI ((ltI r.type_ 0) = false)),oR True ((ltI r.type_ 0) = false),bF h0,cC (lorryref17_Loads_ok h1),bF h2] (lorryref17_Fits_L1_ok Γ rv h8 ?_)
   rcases e0 with e0|e0
   ·replace h:(some 0:Option Int) = some _:=h
    obtain rfl:=Option.some.inj h
    exact gr 2 [] []
   ·obtain ⟨r3,rfl⟩:∃ x,x = e0:=⟨_,rfl⟩
    replace h:(some r3:Option Int) = some _:=h
    exact Option.some.inj h
theorem lorryref18_Run_ok {x0 r rests} {rv:T_api_Sheet × Int} (h:lorryref18_Run x0 r rests = some rv):AFn Tryz.prog 99 [.agg (T_api_Instance.enc x0),.agg (T_api_Route.enc r),.one (lL 1 rests e_bool)] [] (.tup [.agg [.bool rv.1.rest_,lI rv.1.depart,lL 4 rv.1.times T_api_Time.enc,lI rv.1.end_,lI rv.1.miles],.one (lI rv.2)]) []:=by
 refine afn_of Tryz.func99 (by kernel_rfl) (by kernel_rfl) (fun Γ=>?_)
 unfold lorryref18_Run at h
 obtain ⟨r1,h0,h⟩:=bnd_elim h
 obtain rfl:=Option.some.inj h
 exact gr 6 [] [cC (lorryref18_run_ok h0)]
def lorryref18_next_G (Γ:Gam) (rv:List Bool × Bool) (cf:Cf):Prop:=Go Tryz.prog Tryz.f100 [] Γ (.tup [.one (lL 1 rv.1 e_bool),.one (.bool rv.2)]) [] cf
def lorryref18_next_L1_C (Γ:Gam) (rv:List Bool × Bool) (n:Int) (l:List Bool) (i:Int):Prop:=lorryref18_next_G Γ rv ⟨[.c 244,.l 244,.b 0,.c 31],⟨31,[vI 1 n,vO 6 0 1 l e_bool,vI 7 i],[oS 1 4 l e_bool]⟩⟩
def lorryref18_next_L1_D0 (Γ:Gam) (rv:List Bool × Bool) (n:Int):Prop:=lorryref18_next_G Γ rv ⟨[.c 31],⟨31,[],[]⟩⟩
theorem lorryref18_next_L1_ok (Γ:Gam) (rv:List Bool × Bool) {n} {s:List Bool × Int} {e:(Unit) ⊕ (List Bool × Bool)} (h:loopF (fun s=>lorryref18_next_L1 n s.1 s.2) s = some e) (hD:sel e (fun e=>lorryref18_next_L1_D0 Γ rv n) (fun e=>e = rv)):lorryref18_next_L1_C Γ rv n s.1 s.2:=by
 refine loop_ind (C:=fun (s:List Bool × Int)=>lorryref18_next_L1_C Γ rv n s.1 s.2) (D:=fun (e:(Unit) ⊕ (List Bool × Bool))=>sel e (fun e=>lorryref18_next_L1_D0 Γ rv n) (fun e=>e = rv)) ?_ h hD
 clear h hD s e
 rintro ⟨l,i⟩ z_ h hI hE
 replace h:lorryref18_next_L1 n l i = _:=h
 unfold lorryref18_next_L1 at h
 rcases br_elim h with ⟨h1,h⟩|⟨h1,h⟩
 ·obtain ⟨x0,h2,h⟩:=bnd_elim h
  rcases br_elim h with ⟨h3,h⟩|⟨h3,h⟩
  ·exact gn 16 [1,6,7] [0] [bT h1,oO (getLo h2),oO (getHi e_bool h2),rE e_bool h2,nF h3,oO (getLo h2),oO (getHi e_bool h2),rE e_bool h2,hH (.rows ((setI l i false).map e_bool)),hH (.relen 0 ((setI l i false).map e_bool).length),oO (setM e_bool l i false),rp 3 (oO (lenSet e_bool l i false))] (hI _ (oJ h))
  ·obtain rfl:=(hE _ (oJ h):_ = rv)
   exact gr 15 [] [bT h1,oO (getLo h2),oO (getHi e_bool h2),rE e_bool h2,nT h3,oO (getLo h2),oO (getHi e_bool h2),rE e_bool h2,hH (.rows ((setI l i true).map e_bool)),hH (.relen 0 ((setI l i true).map e_bool).length),hW 5,hH (.frz 0),oO (setM e_bool l i true),rp 3 (oO (lenSet e_bool l i true)),rp 5 (oO (Eq.refl ((setI l i true).map e_bool).length))]
 ·exact gn 5 [] [] [bF h1] (hE _ (oJ h))
theorem lorryref18_next_ok {rests n} {rv:List Bool × Bool} (h:lorryref18_next rests n = some rv):AFn Tryz.prog 100 [.one (lL 1 rests e_bool),.one (lI n)] [] (.tup [.one (lL 1 rv.1 e_bool),.one (.bool rv.2)]) []:=by
 refine afn_of Tryz.func100 (by kernel_rfl) (by kernel_rfl) (fun Γ=>?_)
 unfold lorryref18_next at h
 obtain ⟨h0,h⟩:=chk_elim h
 obtain ⟨e0,h4,h⟩:=bnd_elim h
 refine gn 11 [1,6,7] [0] [aN e_bool h0,nL e_bool rests] (lorryref18_next_L1_ok Γ rv h4 ?_)
 rcases e0 with e0|e0
 ·replace h:(some ([],false):Option (List Bool × Bool)) = some _:=h
  obtain rfl:=Option.some.inj h
  exact gr 2 [] [hW 4,hH (.nilS 4 0 1)]
 ·obtain ⟨r,rfl⟩:∃ x,x = e0:=⟨_,rfl⟩
  replace h:(some r:Option (List Bool × Bool)) = some _:=h
  exact Option.some.inj h
def lorryref18_Best_G (Γ:Gam) (rv:T_api_Sheet × Int) (cf:Cf):Prop:=Go Tryz.prog Tryz.f50 [] Γ (.tup [.agg [.bool rv.1.rest_,lI rv.1.depart,lL 4 rv.1.times T_api_Time.enc,lI rv.1.end_,lI rv.1.miles],.one (lI rv.2)]) [] cf
def lorryref18_Best_L1_C (Γ:Gam) (rv:T_api_Sheet × Int) (x0:T_api_Instance) (r:T_api_Route) (l:List Bool) (r2:T_api_Sheet × Int) (rests:List Bool) (x1:T_api_Sheet) (rests1:List Bool) (found:Bool) (more:Bool):Prop:=lorryref18_Best_G Γ rv ⟨[.c 4088,.l 4088,.b 0,.c 1023],⟨88,[vP 2 0 6,vP 3 1 4,vP 4 2 5,vL 7 1 rests1 e_bool,vP 8 3 5,vI 9 r2.2,vB 10 found,vB 11 more],[oX 6 30 (T_api_Instance.enc x0),oX 4 34 [lI r.type_,lI r.start,lL 1 rests e_bool,lL 2 r.visits T_api_Visit.enc],oX 5 37 [.bool false,lI 0,.nils,lI 0,lI 0],oX 5 37 (T_api_Sheet.enc x1)]⟩⟩
def lorryref18_Best_L1_D0 (Γ:Gam) (rv:T_api_Sheet × Int) (x0:T_api_Instance) (r:T_api_Route) (l:List Bool) (r2:T_api_Sheet × Int) (x3:T_api_Sheet) (found2:Bool):Prop:=lorryref18_Best_G Γ rv ⟨[.c 1023],⟨88,[vP 4 0 5,vP 8 1 5,vI 9 r2.2,vB 10 found2],[oX 5 37 [.bool false,lI 0,.nils,lI 0,lI 0],oX 5 37 (T_api_Sheet.enc x3)]⟩⟩
theorem lorryref18_Best_J1_ok (Γ:Gam) (rv:T_api_Sheet × Int) {x0 r l r2 rests rests1 x2 found1} {x:(List Bool × T_api_Sheet × List Bool × Bool × Bool) ⊕ (T_api_Sheet × Bool)} (h:lorryref18_Best_J1 x0 r l r2 rests rests1 x2 found1 = some x) (hI:∀ s:List Bool × T_api_Sheet × List Bool × Bool × Bool,x = .inl s→lorryref18_Best_L1_C Γ rv x0 r l r2 s.1 s.2.1 s.2.2.1 s.2.2.2.1 s.2.2.2.2) (hE:∀ e:T_api_Sheet × Bool,x = .inr e→lorryref18_Best_L1_D0 Γ rv x0 r l r2 e.1 e.2):lorryref18_Best_G Γ rv ⟨[.c 65419,.b 1,.l 4088,.b 0,.c 1023],⟨88,[vP 2 0 6,vP 3 1 4,vP 4 2 5,vL 7 1 rests1 e_bool,vP 8 3 5,vI 9 r2.2,vB 10 found1],[oX 6 30 (T_api_Instance.enc x0),oX 4 34 [lI r.type_,lI r.start,lL 1 rests e_bool,lL 2 r.visits T_api_Visit.enc],oX 5 37 [.bool false,lI 0,.nils,lI 0,lI 0],oX 5 37 (T_api_Sheet.enc x2)]⟩⟩:=by
 unfold lorryref18_Best_J1 at h
 obtain ⟨r5,h8,h⟩:=bnd_elim h
 exact gn 3 [2,3,4,7,8,9,10,11] [0,1,2,3] [nL e_bool rests,cC (lorryref18_next_ok h8)] (hI _ (oJ h))
theorem lorryref18_Best_L1_ok (Γ:Gam) (rv:T_api_Sheet × Int) {x0 r l r2} {s:List Bool × T_api_Sheet × List Bool × Bool × Bool} {e:T_api_Sheet × Bool} (h:loopF (fun s=>lorryref18_Best_L1 x0 r l r2 s.1 s.2.1 s.2.2.1 s.2.2.2.1 s.2.2.2.2) s = some e) (hD:lorryref18_Best_L1_D0 Γ rv x0 r l r2 e.1 e.2):lorryref18_Best_L1_C Γ rv x0 r l r2 s.1 s.2.1 s.2.2.1 s.2.2.2.1 s.2.2.2.2:=by
 refine loop_ind (C:=fun (s:List Bool × T_api_Sheet × List Bool × Bool × Bool)=>lorryref18_Best_L1_C Γ rv x0 r l r2 s.1 s.2.1 s.2.2.1 s.2.2.2.1 s.2.2.2.2) (D:=fun (e:T_api_Sheet × Bool)=>lorryref18_Best_L1_D0 Γ rv x0 r l r2 e.1 e.2) ?_ h hD
 clear h hD s e
 rintro ⟨rests,x1,rests1,found,more⟩ z_ h hI hE
 replace h:lorryref18_Best_L1 x0 r l r2 rests x1 rests1 found more = _:=h
 unfold lorryref18_Best_L1 at h
 rcases br_elim h with ⟨h5,h⟩|⟨h5,h⟩
 ·obtain ⟨r4,h6,h⟩:=bnd_elim h
  rcases br_elim h with ⟨h7,h⟩|⟨h7,h⟩
  ·exact gn 15 [2,3,4,7,8,9,10] [0,1,2,3] [bT h5,cC (lorryref18_Run_ok h6),rp 11 hP,rp 2 (oI ((eqI r4.2 0) = true)),rp 4 (oI (((eqI r4.2 0) = true)∧(!found) = false)),oI ((eqI r4.2 0) = true),oI (((eqI r4.2 0) = true)∧(!found) = false),oR True ((eqI r4.2 0) = true),bT h7] (lorryref18_Best_J1_ok Γ rv h hI hE)
  ·exact gn 13 [2,3,4,7,8,9,10] [0,1,2,3] [bT h5,cC (lorryref18_Run_ok h6),rp 11 hP,rp 2 (oI ((eqI r4.2 0) = true)),rp 4 (oI (((eqI r4.2 0) = true)∧(!found) = false)),oI ((eqI r4.2 0) = true),oI (((eqI r4.2 0) = true)∧(!found) = false),oR True ((eqI r4.2 0) = true),bF h7] (lorryref18_Best_J1_ok Γ rv h hI hE)
 ·exact gn 5 [4,8,9,10] [2,3] [bF h5] (hE _ (oJ h))
theorem lorryref18_Best_ok {x0 r} {rv:T_api_Sheet × Int} (h:lorryref18_Best x0 r = some rv):AFn Tryz.prog 50 [.agg (T_api_Instance.enc x0),.agg (T_api_Route.enc r)] [] (.tup [.agg [.bool rv.1.rest_,lI rv.1.depart,lL 4 rv.1.times T_api_Time.enc,lI rv.1.end_,lI rv.1.miles],.one (lI rv.2)]) []:=by
 refine afn_of Tryz.func50 (by kernel_rfl) (by kernel_rfl) (fun Γ=>?_)
 unfold lorryref18_Best at h
 obtain ⟨r1,h0,h⟩:=bnd_elim h
 rcases br_elim h with ⟨h1,h⟩|⟨h1,h⟩
 ·obtain rfl:=Option.some.inj h
  exact gr 10 [] [nL T_api_Visit.enc r.visits,cC (lorryref18_Possible_ok h0),hP,hP,hP,rp 2 (oI ((!r1) = false)),nL e_bool r.rests,hP,hP,hP,rp 2 (oI ((!r1) = false)),oR True ((!r1) = false),bT h1,hW 5,hH (.nilB 2 2 4)]
 ·obtain ⟨l,h2,h⟩:=bnd_elim h
  obtain ⟨r2,h3,h⟩:=bnd_elim h
  obtain ⟨r3,h4,h⟩:=bnd_elim h
  obtain ⟨e0,h9,h⟩:=bnd_elim h
  refine gn 22 [2,3,4,7,8,9,10,11] [0,1,2,4] [nL T_api_Visit.enc r.visits,cC (lorryref18_Possible_ok h0),hP,hP,hP,rp 2 (oI ((!r1) = false)),nL e_bool r.rests,hP,hP,hP,rp 2 (oI ((!r1) = false)),oR True ((!r1) = false),bF h1,hH (.cells [.bool false]),hH (.rows (l.map e_bool)),oO (mk1 h2),oO (mk2 h2),oO (mk3 h2),oO (mk4 h2),oO (mk5 e_bool h2),cY e_bool l r.rests,hH (.relen 3 ((cpyL l r.rests).map e_bool).length),hW 5,hH (.frz 3),rp 3 (oO (lenCpy e_bool l r.rests)),rp 4 (oO (Eq.refl ((cpyL l r.rests).map e_bool).length)),cC (lorryref18_Run_ok h3),nL e_bool r.rests,cC (lorryref18_next_ok h4)] (lorryref18_Best_L1_ok Γ rv h9 ?_)
  obtain ⟨x3,found2⟩:=e0
  replace h:(br found2 (some (x3,0)) (some ((T_api_Sheet.mk false 0 [] 0 0),r2.2)):Option (T_api_Sheet × Int)) = some _:=h
  rcases br_elim h with ⟨h10,h⟩|⟨h10,h⟩
  ·obtain rfl:=Option.some.inj h
   exact gr 7 [] [nF h10]
  ·obtain rfl:=Option.some.inj h
   exact gr 6 [] [nT h10,hW 6,hH (.nilB 0 2 4)]
def lorryref20_begins_G (Γ:Gam) (rv:Bool) (cf:Cf):Prop:=Go Tryz.prog Tryz.f101 [] Γ (one (.bool rv)) [] cf
def lorryref20_begins_L1_C (Γ:Gam) (rv:Bool) (l:List T_api_Visit) (at_:Int) (i:Int):Prop:=lorryref20_begins_G Γ rv ⟨[.c 52,.l 52,.b 0,.c 7],⟨22,[vL 0 2 l T_api_Visit.enc,vI 1 at_,vI 5 i],[]⟩⟩
def lorryref20_begins_L1_D0 (Γ:Gam) (rv:Bool) (l:List T_api_Visit) (at_:Int):Prop:=lorryref20_begins_G Γ rv ⟨[.c 7],⟨22,[],[]⟩⟩
theorem lorryref20_begins_L1_ok (Γ:Gam) (rv:Bool) {l at_} {s:Int} {e:(Unit) ⊕ (Bool)} (h:loopF (fun s=>lorryref20_begins_L1 l at_ s) s = some e) (hD:sel e (fun e=>lorryref20_begins_L1_D0 Γ rv l at_) (fun e=>e = rv)):lorryref20_begins_L1_C Γ rv l at_ s:=by
 refine loop_ind (C:=fun (s:Int)=>lorryref20_begins_L1_C Γ rv l at_ s) (D:=fun (e:(Unit) ⊕ (Bool))=>sel e (fun e=>lorryref20_begins_L1_D0 Γ rv l at_) (fun e=>e = rv)) ?_ h hD
 clear h hD s e
 intro i z_ h hI hE
 replace h:lorryref20_begins_L1 l at_ i = _:=h
 unfold lorryref20_begins_L1 at h
 rcases br_elim h with ⟨h0,h⟩|⟨h0,h⟩
 ·obtain ⟨x0,h1,h⟩:=bnd_elim h
  obtain ⟨x1,h2,h⟩:=bnd_elim h
  rcases br_elim h with ⟨h3,h⟩|⟨h3,h⟩
  ·obtain rfl:=(hE _ (oJ h):_ = rv)
   exact gr 12 [] [bT h0,hH (.draw 11 []),cE T_api_Visit.enc h1,cE T_api_Visit.enc h2,bT h3]
  ·exact gn 14 [0,1,5] [] [bT h0,hH (.draw 11 []),cE T_api_Visit.enc h1,cE T_api_Visit.enc h2,bF h3] (hI _ (oJ h))
 ·exact gn 5 [] [] [bF h0] (hE _ (oJ h))
theorem lorryref20_begins_ok {l at_} {rv:Bool} (h:lorryref20_begins l at_ = some rv):AFn Tryz.prog 101 [.one (lL 2 l T_api_Visit.enc),.one (lI at_)] [] (one (.bool rv)) []:=by
 refine afn_of Tryz.func101 (by kernel_rfl) (by kernel_rfl) (fun Γ=>?_)
 unfold lorryref20_begins at h
 obtain ⟨e0,h4,h⟩:=bnd_elim h
 refine gn 7 [0,1,5] [] [] (lorryref20_begins_L1_ok Γ rv h4 ?_)
 rcases e0 with e0|e0
 ·replace h:(some true:Option Bool) = some _:=h
  obtain rfl:=Option.some.inj h
  exact gr 2 [] []
 ·obtain ⟨r,rfl⟩:∃ x,x = e0:=⟨_,rfl⟩
  replace h:(some r:Option Bool) = some _:=h
  exact Option.some.inj h
def lorryref20_Route_G (Γ:Gam) (rv:T_api_Score) (cf:Cf):Prop:=Go Tryz.prog Tryz.f51 [] Γ (gG [lI rv.cost,lI rv.moved,lI rv.other,lI rv.work]) [] cf
def lorryref20_Route_L1_C (Γ:Gam) (rv:T_api_Score) (x0:T_api_Instance) (r:T_api_Route) (s0:T_api_Sheet) (x1:T_api_Type) (moved:Int) (other:Int) (i:Int):Prop:=lorryref20_Route_G Γ rv ⟨[.c 1012,.l 1012,.b 0,.c 127],⟨128,[vP 3 0 6,vP 4 1 4,vP 6 2 4,vP 9 3 4,vI 10 i],[oX 6 30 (T_api_Instance.enc x0),oX 4 34 (T_api_Route.enc r),oX 4 53 [lI 0,lI 0,lI 0,lI 0],oX 4 53 [lI (addK .i64 (addK .i64 x1.fixed (mulK .i64 x1.perMile s0.miles)) (mulK .i64 x1.perTick (subK .i64 s0.end_ x1.open_))),lI moved,lI other,lI (mulK .i64 (quoK .i64 (subK .i64 s0.end_ x1.open_) 64) (quoK .i64 (subK .i64 s0.end_ x1.open_) 64))]]⟩⟩
def lorryref20_Route_L1_D0 (Γ:Gam) (rv:T_api_Score) (x0:T_api_Instance) (r:T_api_Route) (s0:T_api_Sheet) (x1:T_api_Type) (moved2:Int) (other1:Int):Prop:=lorryref20_Route_G Γ rv ⟨[.c 127],⟨128,[vP 6 0 4,vP 9 1 4],[oX 4 53 [lI 0,lI 0,lI 0,lI 0],oX 4 53 [lI (addK .i64 (addK .i64 x1.fixed (mulK .i64 x1.perMile s0.miles)) (mulK .i64 x1.perTick (subK .i64 s0.end_ x1.open_))),lI moved2,lI other1,lI (mulK .i64 (quoK .i64 (subK .i64 s0.end_ x1.open_) 64) (quoK .i64 (subK .i64 s0.end_ x1.open_) 64))]]⟩⟩
theorem lorryref20_Route_J1_ok (Γ:Gam) (rv:T_api_Score) {x0 r s0 x1 other i x2 moved1} {x:(Int × Int × Int) ⊕ (Int × Int)} (h:lorryref20_Route_J1 x0 r s0 x1 other i x2 moved1 = some x) (hI:∀ s:Int × Int × Int,x = .inl s→lorryref20_Route_L1_C Γ rv x0 r s0 x1 s.1 s.2.1 s.2.2) (hE:∀ e:Int × Int,x = .inr e→lorryref20_Route_L1_D0 Γ rv x0 r s0 x1 e.1 e.2):lorryref20_Route_G Γ rv ⟨[.c 64807,.b 1,.c 4051,.l 1012,.b 0,.c 127],⟨128,[vP 3 0 6,vP 4 1 4,vP 6 2 4,vP 9 3 4,vI 10 i,vI 11 x2.order],[oX 6 30 (T_api_Instance.enc x0),oX 4 34 (T_api_Route.enc r),oX 4 53 [lI 0,lI 0,lI 0,lI 0],oX 4 53 [lI (addK .i64 (addK .i64 x1.fixed (mulK .i64 x1.perMile s0.miles)) (mulK .i64 x1.perTick (subK .i64 s0.end_ x1.open_))),lI moved1,lI other,lI (mulK .i64 (quoK .i64 (subK .i64 s0.end_ x1.open_) 64) (quoK .i64 (subK .i64 s0.end_ x1.open_) 64))]]⟩⟩:=by
 unfold lorryref20_Route_J1 at h
 obtain ⟨x4,h10,h⟩:=bnd_elim h
 rcases br_elim h with ⟨h11,h⟩|⟨h11,h⟩
 ·rcases br_elim h with ⟨h12,h⟩|⟨h12,h⟩
  ·exact gn 7 [3,4,6,9,10] [0,1,2,3] [hH (.draw 18 []),cE T_api_Order.enc h10,rp 4 (bT h11),cE T_api_Order.enc h10,rp 6 (bT h11),bT h12] (hI _ (oJ h))
  ·exact gn 7 [3,4,6,9,10] [0,1,2,3] [hH (.draw 18 []),cE T_api_Order.enc h10,rp 4 (bT h11),cE T_api_Order.enc h10,rp 6 (bT h11),bF h12] (hI _ (oJ h))
 ·exact gn 7 [3,4,6,9,10] [0,1,2,3] [hH (.draw 18 []),cE T_api_Order.enc h10,rp 10 (bF h11),fF] (hI _ (oJ h))
theorem lorryref20_Route_L1_ok (Γ:Gam) (rv:T_api_Score) {x0 r s0 x1} {s:Int × Int × Int} {e:Int × Int} (h:loopF (fun s=>lorryref20_Route_L1 x0 r s0 x1 s.1 s.2.1 s.2.2) s = some e) (hD:lorryref20_Route_L1_D0 Γ rv x0 r s0 x1 e.1 e.2):lorryref20_Route_L1_C Γ rv x0 r s0 x1 s.1 s.2.1 s.2.2:=by
 refine loop_ind (C:=fun (s:Int × Int × Int)=>lorryref20_Route_L1_C Γ rv x0 r s0 x1 s.1 s.2.1 s.2.2) (D:=fun (e:Int × Int)=>lorryref20_Route_L1_D0 Γ rv x0 r s0 x1 e.1 e.2) ?_ h hD
 clear h hD s e
 rintro ⟨moved,other,i⟩ z_ h hI hE
 replace h:lorryref20_Route_L1 x0 r s0 x1 moved other i = _:=h
 unfold lorryref20_Route_L1 at h
 rcases br_elim h with ⟨h2,h⟩|⟨h2,h⟩
 ·obtain ⟨x2,h3,h⟩:=bnd_elim h
  rcases br_elim h with ⟨h4,h⟩|⟨h4,h⟩
  ·exact gn 16 [3,4,6,9,10] [0,1,2,3] [nL T_api_Visit.enc r.visits,bT h2,cE T_api_Visit.enc h3,rp 4 hP,rp 2 (oI ((ltI x2.order 0) = false)),nL T_api_Order.enc x0.orders,hP,hP,rp 2 (oI ((ltI x2.order 0) = false)),oR True ((ltI x2.order 0) = false),rp 6 (bT h4),tT] (hI _ (oJ h))
  ·obtain ⟨r1,h5,h⟩:=bnd_elim h
   rcases br_elim h with ⟨h6,h⟩|⟨h6,h⟩
   ·obtain ⟨x3,h7,h⟩:=bnd_elim h
    rcases br_elim h with ⟨h8,h⟩|⟨h8,h⟩
    ·rcases br_elim h with ⟨h9,h⟩|⟨h9,h⟩
     ·exact gn 19 [3,4,6,9,10,11] [0,1,2,3] [nL T_api_Visit.enc r.visits,bT h2,cE T_api_Visit.enc h3,rp 4 hP,rp 2 (oI ((ltI x2.order 0) = false)),nL T_api_Order.enc x0.orders,hP,hP,rp 2 (oI ((ltI x2.order 0) = false)),oR True ((ltI x2.order 0) = false),rp 4 (bF h4),cC (lorryref20_begins_ok h5),bF h4,bF h4,nF h6,hH (.draw 18 []),cE T_api_Order.enc h7,rp 4 (bT h8),cE T_api_Order.enc h7,rp 6 (bT h8),bT h9] (lorryref20_Route_J1_ok Γ rv h hI hE)
     ·exact gn 19 [3,4,6,9,10,11] [0,1,2,3] [nL T_api_Visit.enc r.visits,bT h2,cE T_api_Visit.enc h3,rp 4 hP,rp 2 (oI ((ltI x2.order 0) = false)),nL T_api_Order.enc x0.orders,hP,hP,rp 2 (oI ((ltI x2.order 0) = false)),oR True ((ltI x2.order 0) = false),rp 4 (bF h4),cC (lorryref20_begins_ok h5),bF h4,bF h4,nF h6,hH (.draw 18 []),cE T_api_Order.enc h7,rp 4 (bT h8),cE T_api_Order.enc h7,rp 6 (bT h8),bF h9] (lorryref20_Route_J1_ok Γ rv h hI hE)
    ·rcases br_elim h with ⟨h13,h⟩|⟨h13,h⟩
     ·rcases br_elim h with ⟨h14,h⟩|⟨h14,h⟩
      ·exact gn 26 [3,4,6,9,10] [0,1,2,3] [nL T_api_Visit.enc r.visits,bT h2,cE T_api_Visit.enc h3,rp 4 hP,rp 2 (oI ((ltI x2.order 0) = false)),nL T_api_Order.enc x0.orders,hP,hP,rp 2 (oI ((ltI x2.order 0) = false)),oR True ((ltI x2.order 0) = false),rp 4 (bF h4),cC (lorryref20_begins_ok h5),bF h4,bF h4,nF h6,hH (.draw 18 []),cE T_api_Order.enc h7,rp 10 (bF h8),fF,hH (.draw 18 []),cE T_api_Order.enc h7,rp 4 (bT h13),cE T_api_Order.enc h7,rp 6 (bT h13),bT h14] (hI _ (oJ h))
      ·exact gn 26 [3,4,6,9,10] [0,1,2,3] [nL T_api_Visit.enc r.visits,bT h2,cE T_api_Visit.enc h3,rp 4 hP,rp 2 (oI ((ltI x2.order 0) = false)),nL T_api_Order.enc x0.orders,hP,hP,rp 2 (oI ((ltI x2.order 0) = false)),oR True ((ltI x2.order 0) = false),rp 4 (bF h4),cC (lorryref20_begins_ok h5),bF h4,bF h4,nF h6,hH (.draw 18 []),cE T_api_Order.enc h7,rp 10 (bF h8),fF,hH (.draw 18 []),cE T_api_Order.enc h7,rp 4 (bT h13),cE T_api_Order.enc h7,rp 6 (bT h13),bF h14] (hI _ (oJ h))
     ·exact gn 26 [3,4,6,9,10] [0,1,2,3] [nL T_api_Visit.enc r.visits,bT h2,cE T_api_Visit.enc h3,rp 4 hP,rp 2 (oI ((ltI x2.order 0) = false)),nL T_api_Order.enc x0.orders,hP,hP,rp 2 (oI ((ltI x2.order 0) = false)),oR True ((ltI x2.order 0) = false),rp 4 (bF h4),cC (lorryref20_begins_ok h5),bF h4,bF h4,nF h6,hH (.draw 18 []),cE T_api_Order.enc h7,rp 10 (bF h8),fF,hH (.draw 18 []),cE T_api_Order.enc h7,rp 10 (bF h13),fF] (hI _ (oJ h))
   ·exact gn 16 [3,4,6,9,10] [0,1,2,3] [nL T_api_Visit.enc r.visits,bT h2,cE T_api_Visit.enc h3,rp 4 hP,rp 2 (oI ((ltI x2.order 0) = false)),nL T_api_Order.enc x0.orders,hP,hP,rp 2 (oI ((ltI x2.order 0) = false)),oR True ((ltI x2.order 0) = false),rp 4 (bF h4),cC (lorryref20_begins_ok h5),bF h4,bF h4,nT h6] (hI _ (oJ h))
 ·exact gn 5 [6,9] [2,3] [nL T_api_Visit.enc r.visits,bF h2] (hE _ (oJ h))
theorem lorryref20_Route_ok {x0 r s0} {rv:T_api_Score} (h:lorryref20_Route x0 r s0 = some rv):AFn Tryz.prog 51 [.agg (T_api_Instance.enc x0),.agg (T_api_Route.enc r),.agg (T_api_Sheet.enc s0)] [] (gG [lI rv.cost,lI rv.moved,lI rv.other,lI rv.work]) []:=by
 refine afn_of Tryz.func51 (by kernel_rfl) (by kernel_rfl) (fun Γ=>?_)
 unfold lorryref20_Route at h
 rcases br_elim h with ⟨h0,h⟩|⟨h0,h⟩
 ·obtain rfl:=Option.some.inj h
  exact gr 8 [] [rp 5 hP,rp 3 (oI ((ltI r.type_ 0) = false)),nL T_api_Type.enc x0.types,hP,hP,rp 2 (oI ((ltI r.type_ 0) = false)),oR True ((ltI r.type_ 0) = false),bT h0]
 ·obtain ⟨x1,h1,h⟩:=bnd_elim h
  obtain ⟨e0,h15,h⟩:=bnd_elim h
  refine gn 18 [3,4,6,9,10] [0,1,3,5] [rp 5 hP,rp 3 (oI ((ltI r.type_ 0) = false)),nL T_api_Type.enc x0.types,hP,hP,rp 2 (oI ((ltI r.type_ 0) = false)),oR True ((ltI r.type_ 0) = false),bF h0,cE T_api_Type.enc h1,rp 2 (oO (oA (n:=64)))] (lorryref20_Route_L1_ok Γ rv h15 ?_)
  obtain ⟨moved2,other1⟩:=e0
  replace h:(some (T_api_Score.mk (addK .i64 (addK .i64 x1.fixed (mulK .i64 x1.perMile s0.miles)) (mulK .i64 x1.perTick (subK .i64 s0.end_ x1.open_))) moved2 other1 (mulK .i64 (quoK .i64 (subK .i64 s0.end_ x1.open_) 64) (quoK .i64 (subK .i64 s0.end_ x1.open_) 64))):Option T_api_Score) = some _:=h
  obtain rfl:=Option.some.inj h
  exact gr 2 [] []
def lorryref21_Evaluate_G (Γ:Gam) (rv:T_api_Sheet × T_api_Score × Int) (cf:Cf):Prop:=Go Tryz.prog Tryz.f23 [] Γ (.tup [.agg [.bool rv.1.rest_,lI rv.1.depart,lL 4 rv.1.times T_api_Time.enc,lI rv.1.end_,lI rv.1.miles],.agg [lI rv.2.1.cost,lI rv.2.1.moved,lI rv.2.1.other,lI rv.2.1.work],.one (lI rv.2.2)]) [] cf
def lorryref21_Evaluate_L1_C (Γ:Gam) (rv:T_api_Sheet × T_api_Score × Int) (x0:T_api_Instance) (r:T_api_Route) (i:Int):Prop:=lorryref21_Evaluate_G Γ rv ⟨[.c 244,.l 244,.b 0,.c 31],⟨85,[vP 2 0 6,vP 3 1 4,vP 4 2 5,vP 5 3 4,vI 8 i],[oX 6 30 (T_api_Instance.enc x0),oX 4 34 (T_api_Route.enc r),oX 5 37 [.bool false,lI 0,.nils,lI 0,lI 0],oX 4 53 [lI 0,lI 0,lI 0,lI 0]]⟩⟩
def lorryref21_Evaluate_L1_D0 (Γ:Gam) (rv:T_api_Sheet × T_api_Score × Int) (x0:T_api_Instance) (r:T_api_Route):Prop:=lorryref21_Evaluate_G Γ rv ⟨[.c 31],⟨85,[vP 2 0 6,vP 3 1 4,vP 4 2 5,vP 5 3 4],[oX 6 30 (T_api_Instance.enc x0),oX 4 34 (T_api_Route.enc r),oX 5 37 [.bool false,lI 0,.nils,lI 0,lI 0],oX 4 53 [lI 0,lI 0,lI 0,lI 0]]⟩⟩
theorem lorryref21_Evaluate_L1_ok (Γ:Gam) (rv:T_api_Sheet × T_api_Score × Int) {x0 r} {s:Int} {e:(Unit) ⊕ (T_api_Sheet × T_api_Score × Int)} (h:loopF (fun s=>lorryref21_Evaluate_L1 x0 r s) s = some e) (hD:sel e (fun e=>lorryref21_Evaluate_L1_D0 Γ rv x0 r) (fun e=>e = rv)):lorryref21_Evaluate_L1_C Γ rv x0 r s:=by
 refine loop_ind (C:=fun (s:Int)=>lorryref21_Evaluate_L1_C Γ rv x0 r s) (D:=fun (e:(Unit) ⊕ (T_api_Sheet × T_api_Score × Int))=>sel e (fun e=>lorryref21_Evaluate_L1_D0 Γ rv x0 r) (fun e=>e = rv)) ?_ h hD
 clear h hD s e
 intro i z_ h hI hE
 replace h:lorryref21_Evaluate_L1 x0 r i = _:=h
 unfold lorryref21_Evaluate_L1 at h
 rcases br_elim h with ⟨h3,h⟩|⟨h3,h⟩
 ·obtain ⟨x1,h4,h⟩:=bnd_elim h
  obtain ⟨x2,h5,h⟩:=bnd_elim h
  obtain ⟨x3,h6,h⟩:=bnd_elim h
  obtain ⟨r2,h7,h⟩:=bnd_elim h
  rcases br_elim h with ⟨h8,h⟩|⟨h8,h⟩
  ·exact gn 14 [2,3,4,5,8] [0,1,2,3] [nL T_api_Visit.enc r.visits,bT h3,hH (.draw 19 []),cE T_api_Type.enc h4,cE T_api_Visit.enc h5,cE T_api_Order.enc h6,cC (lorryref10_Able_ok h7),nF h8] (hI _ (oJ h))
  ·obtain rfl:=(hE _ (oJ h):_ = rv)
   exact gr 12 [] [nL T_api_Visit.enc r.visits,bT h3,hH (.draw 19 []),cE T_api_Type.enc h4,cE T_api_Visit.enc h5,cE T_api_Order.enc h6,cC (lorryref10_Able_ok h7),nT h8,hW 7,hH (.nilB 2 2 4)]
 ·exact gn 5 [2,3,4,5] [0,1,2,3] [nL T_api_Visit.enc r.visits,bF h3] (hE _ (oJ h))
theorem lorryref21_Evaluate_ok {x0 r} {rv:T_api_Sheet × T_api_Score × Int} (h:lorryref21_Evaluate x0 r = some rv):AFn Tryz.prog 23 [.agg (T_api_Instance.enc x0),.agg (T_api_Route.enc r)] [] (.tup [.agg [.bool rv.1.rest_,lI rv.1.depart,lL 4 rv.1.times T_api_Time.enc,lI rv.1.end_,lI rv.1.miles],.agg [lI rv.2.1.cost,lI rv.2.1.moved,lI rv.2.1.other,lI rv.2.1.work],.one (lI rv.2.2)]) []:=by
 refine afn_of Tryz.func23 (by kernel_rfl) (by kernel_rfl) (fun Γ=>?_)
 unfold lorryref21_Evaluate at h
 rcases br_elim h with ⟨h0,h⟩|⟨h0,h⟩
 ·obtain rfl:=Option.some.inj h
  exact gr 8 [] [rp 5 hP,rp 3 (oI ((ltI r.type_ 0) = false)),nL T_api_Type.enc x0.types,hP,hP,rp 2 (oI ((ltI r.type_ 0) = false)),oR True ((ltI r.type_ 0) = false),bT h0,hW 7,hH (.nilB 2 2 4)]
 ·obtain ⟨r1,h1,h⟩:=bnd_elim h
  rcases br_elim h with ⟨h2,h⟩|⟨h2,h⟩
  ·obtain rfl:=Option.some.inj h
   exact gr 15 [] [rp 5 hP,rp 3 (oI ((ltI r.type_ 0) = false)),nL T_api_Type.enc x0.types,hP,hP,rp 2 (oI ((ltI r.type_ 0) = false)),oR True ((ltI r.type_ 0) = false),bF h0,cC (lorryref16_Check_ok h1),bT h2,hW 8,hH (.nilB 2 2 4)]
  ·obtain ⟨e0,h9,h⟩:=bnd_elim h
   refine gn 19 [2,3,4,5,8] [0,1,2,3] [rp 5 hP,rp 3 (oI ((ltI r.type_ 0) = false)),nL T_api_Type.enc x0.types,hP,hP,rp 2 (oI ((ltI r.type_ 0) = false)),oR True ((ltI r.type_ 0) = false),bF h0,cC (lorryref16_Check_ok h1),bF h2] (lorryref21_Evaluate_L1_ok Γ rv h9 ?_)
   rcases e0 with e0|e0
   ·replace h:(bnd (lorryref17_Fits x0 r) fun r3=>br (neI r3 0) (some ((T_api_Sheet.mk false 0 [] 0 0),(T_api_Score.mk 0 0 0 0),r3)) (bnd (lorryref18_Best x0 r) fun r4=>br (neI r4.2 0) (some ((T_api_Sheet.mk false 0 [] 0 0),(T_api_Score.mk 0 0 0 0),r4.2)) (bnd (lorryref20_Route x0 r r4.1) fun r5=>some (r4.1,r5,0))):Option (T_api_Sheet × T_api_Score × Int)) = some _:=h
    obtain ⟨r3,h10,h⟩:=bnd_elim h
    rcases br_elim h with ⟨h11,h⟩|⟨h11,h⟩
    ·obtain rfl:=Option.some.inj h
     exact gr 8 [] [cC (lorryref17_Fits_ok h10),bT h11,hW 8,hH (.nilB 2 2 4)]
    ·obtain ⟨r4,h12,h⟩:=bnd_elim h
     rcases br_elim h with ⟨h13,h⟩|⟨h13,h⟩
     ·obtain rfl:=Option.some.inj h
      exact gr 15 [] [cC (lorryref17_Fits_ok h10),bF h11,cC (lorryref18_Best_ok h12),bT h13,hW 8,hH (.nilB 2 2 4)]
     ·obtain ⟨r5,h14,h⟩:=bnd_elim h
      obtain rfl:=Option.some.inj h
      exact gr 16 [] [cC (lorryref17_Fits_ok h10),bF h11,cC (lorryref18_Best_ok h12),bF h13,hH (.draw 5 []),cC (lorryref20_Route_ok h14)]
   ·obtain ⟨r6,rfl⟩:∃ x,x = e0:=⟨_,rfl⟩
    replace h:(some r6:Option (T_api_Sheet × T_api_Score × Int)) = some _:=h
    exact Option.some.inj h
theorem lorrylaw21_RouteEvaluates_ok {x0 r} {rv:Bool} (h:lorrylaw21_RouteEvaluates x0 r = some rv):AFn Tryz.prog 5 [.agg (T_api_Instance.enc x0),.agg (T_api_Route.enc r)] [] (one (.bool rv)) []:=by
 refine afn_of Tryz.func5 (by kernel_rfl) (by kernel_rfl) (fun Γ=>?_)
 unfold lorrylaw21_RouteEvaluates at h
 obtain ⟨r1,h0,h⟩:=bnd_elim h
 rcases br_elim h with ⟨h1,h⟩|⟨h1,h⟩
 ·obtain ⟨r2,h2,h⟩:=bnd_elim h
  obtain ⟨r3,h3,h⟩:=bnd_elim h
  rcases br_elim h with ⟨h4,h⟩|⟨h4,h⟩
  ·obtain ⟨r4,h5,h⟩:=bnd_elim h
   rcases br_elim h with ⟨h6,h⟩|⟨h6,h⟩
   ·obtain ⟨r5,h7,h⟩:=bnd_elim h
    obtain rfl:=Option.some.inj h
    exact gr 13 [] [cC (lorrylaw21_right_ok h0),nF h1,cC (route_Evaluate_ok h2),cC (lorryref21_Evaluate_ok h3),rp 4 hP,rp 2 (oI ((eqI r2.2.2 r3.2.2) = true)),oR True ((eqI r2.2.2 r3.2.2) = true),rp 3 (bT h4),cC (lorryref18_Same_ok h5),bT h4,bT h6,cC (lorrylaw21_examples_ok h7),bT h6]
   ·obtain rfl:=Option.some.inj h
    exact gr 13 [] [cC (lorrylaw21_right_ok h0),nF h1,cC (route_Evaluate_ok h2),cC (lorryref21_Evaluate_ok h3),rp 4 hP,rp 2 (oI ((eqI r2.2.2 r3.2.2) = true)),oR True ((eqI r2.2.2 r3.2.2) = true),rp 3 (bT h4),cC (lorryref18_Same_ok h5),bT h4,bF h6,bF h6]
  ·obtain rfl:=Option.some.inj h
   exact gr 13 [] [cC (lorrylaw21_right_ok h0),nF h1,cC (route_Evaluate_ok h2),cC (lorryref21_Evaluate_ok h3),rp 4 hP,rp 2 (oI ((eqI r2.2.2 r3.2.2) = true)),oR True ((eqI r2.2.2 r3.2.2) = true),rp 4 (bF h4),fF,fF]
 ·obtain ⟨r6,h8,h⟩:=bnd_elim h
  obtain rfl:=Option.some.inj h
  exact gr 8 [] [cC (lorrylaw21_right_ok h0),nT h1,cC (lorrylaw21_examples_ok h8)]
theorem lorryref20_Right_ok {s0} {rv:Bool} (h:lorryref20_Right s0 = some rv):AFn Tryz.prog 103 [.agg (T_api_Score.enc s0)] [] (one (.bool rv)) []:=by
 refine afn_of Tryz.func103 (by kernel_rfl) (by kernel_rfl) (fun Γ=>?_)
 unfold lorryref20_Right at h
 obtain rfl:=Option.some.inj h
 exact gr 4 [] [rp 28 hP,rp 2 (oI ((geI s0.cost 0) = true)),oR True ((geI s0.cost 0) = true),rp 2 (oI (((geI s0.cost 0) && (leI s0.cost 1073741824)) = true)),oR True (((geI s0.cost 0) && (leI s0.cost 1073741824)) = true),rp 2 (oI ((((geI s0.cost 0) && (leI s0.cost 1073741824)) && (geI s0.moved 0)) = true)),oR True ((((geI s0.cost 0) && (leI s0.cost 1073741824)) && (geI s0.moved 0)) = true),rp 2 (oI (((((geI s0.cost 0) && (leI s0.cost 1073741824)) && (geI s0.moved 0)) && (leI s0.moved 15)) = true)),oR True (((((geI s0.cost 0) && (leI s0.cost 1073741824)) && (geI s0.moved 0)) && (leI s0.moved 15)) = true),rp 2 (oI ((((((geI s0.cost 0) && (leI s0.cost 1073741824)) && (geI s0.moved 0)) && (leI s0.moved 15)) && (geI s0.other 0)) = true)),oR True ((((((geI s0.cost 0) && (leI s0.cost 1073741824)) && (geI s0.moved 0)) && (leI s0.moved 15)) && (geI s0.other 0)) = true),rp 2 (oI (((((((geI s0.cost 0) && (leI s0.cost 1073741824)) && (geI s0.moved 0)) && (leI s0.moved 15)) && (geI s0.other 0)) && (leI s0.other 15)) = true)),oR True (((((((geI s0.cost 0) && (leI s0.cost 1073741824)) && (geI s0.moved 0)) && (leI s0.moved 15)) && (geI s0.other 0)) && (leI s0.other 15)) = true),rp 2 (oI ((((((((geI s0.cost 0) && (leI s0.cost 1073741824)) && (geI s0.moved 0)) && (leI s0.moved 15)) && (geI s0.other 0)) && (leI s0.other 15)) && (geI s0.work 0)) = true)),oR True ((((((((geI s0.cost 0) && (leI s0.cost 1073741824)) && (geI s0.moved 0)) && (leI s0.moved 15)) && (geI s0.other 0)) && (leI s0.other 15)) && (geI s0.work 0)) = true)]
theorem lorryref20_Weight_ok {s0} {rv:Int × Int} (h:lorryref20_Weight s0 = some rv):AFn Tryz.prog 53 [.agg (T_api_Score.enc s0)] [] (.tup [.one (lI rv.1),.one (lI rv.2)]) []:=by
 refine afn_of Tryz.func53 (by kernel_rfl) (by kernel_rfl) (fun Γ=>?_)
 unfold lorryref20_Weight at h
 rcases br_elim h with ⟨h0,h⟩|⟨h0,h⟩
 ·obtain rfl:=Option.some.inj h
  exact gr 8 [] [rp 12 hP,rp 2 (oI ((ltI s0.cost 0) = false)),oR True ((ltI s0.cost 0) = false),rp 2 (oI (((ltI s0.cost 0) || (ltI s0.moved 0)) = false)),oR True (((ltI s0.cost 0) || (ltI s0.moved 0)) = false),rp 2 (oI ((((ltI s0.cost 0) || (ltI s0.moved 0)) || (ltI s0.other 0)) = false)),oR True ((((ltI s0.cost 0) || (ltI s0.moved 0)) || (ltI s0.other 0)) = false),bT h0]
 ·obtain ⟨r,h1,h⟩:=bnd_elim h
  rcases br_elim h with ⟨h2,h⟩|⟨h2,h⟩
  ·obtain rfl:=Option.some.inj h
   exact gr 14 [] [rp 12 hP,rp 2 (oI ((ltI s0.cost 0) = false)),oR True ((ltI s0.cost 0) = false),rp 2 (oI (((ltI s0.cost 0) || (ltI s0.moved 0)) = false)),oR True (((ltI s0.cost 0) || (ltI s0.moved 0)) = false),rp 2 (oI ((((ltI s0.cost 0) || (ltI s0.moved 0)) || (ltI s0.other 0)) = false)),oR True ((((ltI s0.cost 0) || (ltI s0.moved 0)) || (ltI s0.other 0)) = false),bF h0,cC (lorryref20_Right_ok h1),nF h2]
  ·obtain rfl:=Option.some.inj h
   exact gr 13 [] [rp 12 hP,rp 2 (oI ((ltI s0.cost 0) = false)),oR True ((ltI s0.cost 0) = false),rp 2 (oI (((ltI s0.cost 0) || (ltI s0.moved 0)) = false)),oR True (((ltI s0.cost 0) || (ltI s0.moved 0)) = false),rp 2 (oI ((((ltI s0.cost 0) || (ltI s0.moved 0)) || (ltI s0.other 0)) = false)),oR True ((((ltI s0.cost 0) || (ltI s0.moved 0)) || (ltI s0.other 0)) = false),bF h0,cC (lorryref20_Right_ok h1),nT h2]
theorem lorryref21_Price_ok {x0 r} {rv:Int × Int} (h:lorryref21_Price x0 r = some rv):AFn Tryz.prog 26 [.agg (T_api_Instance.enc x0),.agg (T_api_Route.enc r)] [] (.tup [.one (lI rv.1),.one (lI rv.2)]) []:=by
 refine afn_of Tryz.func26 (by kernel_rfl) (by kernel_rfl) (fun Γ=>?_)
 unfold lorryref21_Price at h
 obtain ⟨r1,h0,h⟩:=bnd_elim h
 rcases br_elim h with ⟨h1,h⟩|⟨h1,h⟩
 ·obtain rfl:=Option.some.inj h
  exact gr 10 [] [cC (lorryref21_Evaluate_ok h0),bT h1]
 ·obtain ⟨r2,h2,h⟩:=bnd_elim h
  obtain rfl:=Option.some.inj h
  exact gr 11 [] [cC (lorryref21_Evaluate_ok h0),bF h1,cC (lorryref20_Weight_ok h2)]
theorem lorryref21_Works_ok {x0 r} {rv:Int × Int} (h:lorryref21_Works x0 r = some rv):AFn Tryz.prog 28 [.agg (T_api_Instance.enc x0),.agg (T_api_Route.enc r)] [] (.tup [.one (lI rv.1),.one (lI rv.2)]) []:=by
 refine afn_of Tryz.func28 (by kernel_rfl) (by kernel_rfl) (fun Γ=>?_)
 unfold lorryref21_Works at h
 obtain ⟨r1,h0,h⟩:=bnd_elim h
 rcases br_elim h with ⟨h1,h⟩|⟨h1,h⟩
 ·obtain rfl:=Option.some.inj h
  exact gr 10 [] [cC (lorryref21_Evaluate_ok h0),bT h1]
 ·obtain ⟨x1,h2,h⟩:=bnd_elim h
  obtain rfl:=Option.some.inj h
  exact gr 11 [] [cC (lorryref21_Evaluate_ok h0),bF h1,hH (.draw 12 []),cE T_api_Type.enc h2]
theorem lorryref21_Valid_ok {x0 r} {rv:Int} (h:lorryref21_Valid x0 r = some rv):AFn Tryz.prog 30 [.agg (T_api_Instance.enc x0),.agg (T_api_Route.enc r)] [] (one (lI rv)) []:=by
 refine afn_of Tryz.func30 (by kernel_rfl) (by kernel_rfl) (fun Γ=>?_)
 unfold lorryref21_Valid at h
 obtain ⟨r1,h0,h⟩:=bnd_elim h
 obtain rfl:=Option.some.inj h
 exact gr 6 [] [cC (lorryref21_Evaluate_ok h0)]
theorem lorrylaw21_RoutePrices_ok {x0 r} {rv:Bool} (h:lorrylaw21_RoutePrices x0 r = some rv):AFn Tryz.prog 6 [.agg (T_api_Instance.enc x0),.agg (T_api_Route.enc r)] [] (one (.bool rv)) []:=by
 refine afn_of Tryz.func6 (by kernel_rfl) (by kernel_rfl) (fun Γ=>?_)
 unfold lorrylaw21_RoutePrices at h
 obtain ⟨r1,h0,h⟩:=bnd_elim h
 rcases br_elim h with ⟨h1,h⟩|⟨h1,h⟩
 ·obtain ⟨r2,h2,h⟩:=bnd_elim h
  obtain ⟨r3,h3,h⟩:=bnd_elim h
  obtain ⟨r4,h4,h⟩:=bnd_elim h
  obtain ⟨r5,h5,h⟩:=bnd_elim h
  rcases br_elim h with ⟨h6,h⟩|⟨h6,h⟩
  ·obtain ⟨r6,h7,h⟩:=bnd_elim h
   obtain ⟨r7,h8,h⟩:=bnd_elim h
   rcases br_elim h with ⟨h9,h⟩|⟨h9,h⟩
   ·obtain ⟨r8,h10,h⟩:=bnd_elim h
    obtain rfl:=Option.some.inj h
    exact gr 17 [] [cC (lorrylaw21_right_ok h0),nF h1,cC (route_Price_ok h2),cC (lorryref21_Price_ok h3),cC (route_Works_ok h4),cC (lorryref21_Works_ok h5),hH (.draw 31 []),rp 12 hP,rp 2 (oI ((eqI r2.1 r3.1) = true)),oR True ((eqI r2.1 r3.1) = true),rp 2 (oI (((eqI r2.1 r3.1) && (eqI r2.2 r3.2)) = true)),oR True (((eqI r2.1 r3.1) && (eqI r2.2 r3.2)) = true),rp 2 (oI ((((eqI r2.1 r3.1) && (eqI r2.2 r3.2)) && (eqI r4.1 r5.1)) = true)),oR True ((((eqI r2.1 r3.1) && (eqI r2.2 r3.2)) && (eqI r4.1 r5.1)) = true),rp 3 (bT h6),cC (route_Valid_ok h7),rp 3 (bT h6),cC (lorryref21_Valid_ok h8),bT h6,bT h6,bT h9,cC (lorrylaw21_examples_ok h10),bT h9]
   ·obtain rfl:=Option.some.inj h
    exact gr 17 [] [cC (lorrylaw21_right_ok h0),nF h1,cC (route_Price_ok h2),cC (lorryref21_Price_ok h3),cC (route_Works_ok h4),cC (lorryref21_Works_ok h5),hH (.draw 31 []),rp 12 hP,rp 2 (oI ((eqI r2.1 r3.1) = true)),oR True ((eqI r2.1 r3.1) = true),rp 2 (oI (((eqI r2.1 r3.1) && (eqI r2.2 r3.2)) = true)),oR True (((eqI r2.1 r3.1) && (eqI r2.2 r3.2)) = true),rp 2 (oI ((((eqI r2.1 r3.1) && (eqI r2.2 r3.2)) && (eqI r4.1 r5.1)) = true)),oR True ((((eqI r2.1 r3.1) && (eqI r2.2 r3.2)) && (eqI r4.1 r5.1)) = true),rp 3 (bT h6),cC (route_Valid_ok h7),rp 3 (bT h6),cC (lorryref21_Valid_ok h8),bT h6,bT h6,bF h9,bF h9]
  ·obtain rfl:=Option.some.inj h
   exact gr 17 [] [cC (lorrylaw21_right_ok h0),nF h1,cC (route_Price_ok h2),cC (lorryref21_Price_ok h3),cC (route_Works_ok h4),cC (lorryref21_Works_ok h5),hH (.draw 31 []),rp 12 hP,rp 2 (oI ((eqI r2.1 r3.1) = true)),oR True ((eqI r2.1 r3.1) = true),rp 2 (oI (((eqI r2.1 r3.1) && (eqI r2.2 r3.2)) = true)),oR True (((eqI r2.1 r3.1) && (eqI r2.2 r3.2)) = true),rp 2 (oI ((((eqI r2.1 r3.1) && (eqI r2.2 r3.2)) && (eqI r4.1 r5.1)) = true)),oR True ((((eqI r2.1 r3.1) && (eqI r2.2 r3.2)) && (eqI r4.1 r5.1)) = true),rp 8 (bF h6),fF,fF]
 ·obtain ⟨r9,h11,h⟩:=bnd_elim h
  obtain rfl:=Option.some.inj h
  exact gr 8 [] [cC (lorrylaw21_right_ok h0),nT h1,cC (lorrylaw21_examples_ok h11)]
end Go.Proofs.YtfldlilicmbmkaaGreatDoor
