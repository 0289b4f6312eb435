/- Part MV of the proof: texts Z1. -/
import Derived.Test.YtfldlilicmbmkaaGreatDoorMU
import Derived.Test.YtfldlilicmbmkaaGreatDoorProg
namespace Go.Proofs.YtfldlilicmbmkaaGreatDoor
set_option linter.unusedVariables false
set_option linter.unusedSectionVars false
set_option linter.unusedSimpArgs false
set_option maxHeartbeats 4000000
set_option maxRecDepth 100000
def slack_Slack_G (Γ:Gam) (rv:List Int × Int) (cf:Cf):Prop:=Go Tryz.prog Tryz.f12 [] Γ (.tup [.one (lL 1 rv.1 e_i64),.one (lI rv.2)]) [] cf
def slack_Slack_L2_C (Γ:Gam) (rv:List Int × Int) (x0:T_api_Instance) (r:T_api_Route) (s0:T_api_Sheet) (l:List Int) (v:Int) (n:Int):Prop:=slack_Slack_G Γ rv ⟨[.c 125336,.l 125336,.b 2,.c 31335,.b 1,.c 1959,.l 244,.b 0,.c 31],⟨48,[vP 3 0 6,vP 4 1 4,vP 5 2 5,vO 9 3 1 l e_i64,vI 10 v,vI 11 n,vI 24 (addK .i64 (lenI r.visits) 1),vI 25 v],[oX 6 30 (T_api_Instance.enc x0),oX 4 34 (T_api_Route.enc r),oX 5 37 (T_api_Sheet.enc s0),oS 1 3 l e_i64]⟩⟩
def slack_Slack_L2_D0 (Γ:Gam) (rv:List Int × Int) (x0:T_api_Instance) (r:T_api_Route) (s0:T_api_Sheet) (l:List Int) (v:Int) (n1:Int):Prop:=slack_Slack_G Γ rv ⟨[.c 31335,.b 1,.c 1959,.l 244,.b 0,.c 31],⟨48,[vP 3 0 6,vP 4 1 4,vP 5 2 5,vO 9 3 1 l e_i64,vI 11 n1,vI 24 (addK .i64 (lenI r.visits) 1),vI 25 v],[oX 6 30 (T_api_Instance.enc x0),oX 4 34 (T_api_Route.enc r),oX 5 37 (T_api_Sheet.enc s0),oS 1 3 l e_i64]⟩⟩
def slack_Slack_L1_C (Γ:Gam) (rv:List Int × Int) (x0:T_api_Instance) (r:T_api_Route) (s0:T_api_Sheet) (l:List Int) (v:Int):Prop:=slack_Slack_G Γ rv ⟨[.c 244,.l 244,.b 0,.c 31],⟨48,[vP 3 0 6,vP 4 1 4,vP 5 2 5,vO 9 3 1 l e_i64,vI 24 (addK .i64 (lenI r.visits) 1),vI 25 v],[oX 6 30 (T_api_Instance.enc x0),oX 4 34 (T_api_Route.enc r),oX 5 37 (T_api_Sheet.enc s0),oS 1 3 l e_i64]⟩⟩
def slack_Slack_L1_D0 (Γ:Gam) (rv:List Int × Int) (x0:T_api_Instance) (r:T_api_Route) (s0:T_api_Sheet) (l1:List Int):Prop:=slack_Slack_G Γ rv ⟨[.c 31],⟨48,[vO 9 0 1 l1 e_i64],[oS 1 3 l1 e_i64]⟩⟩
theorem slack_Slack_L2_ok (Γ:Gam) (rv:List Int × Int) {x0 r s0 l v} {s:Int} {e:Int} (h:loopF (fun s=>slack_Slack_L2 x0 r s0 l v s) s = some e) (hD:slack_Slack_L2_D0 Γ rv x0 r s0 l v e):slack_Slack_L2_C Γ rv x0 r s0 l v s:=by
 refine loop_ind (C:=fun (s:Int)=>slack_Slack_L2_C Γ rv x0 r s0 l v s) (D:=fun (e:Int)=>slack_Slack_L2_D0 Γ rv x0 r s0 l v e) ?_ h hD
 clear h hD s e
 intro n z_ h hI hE
 replace h:slack_Slack_L2 x0 r s0 l v n = _:=h
 unfold slack_Slack_L2 at h
 obtain ⟨r2,h3,h⟩:=bnd_elim h
 rcases br_elim h with ⟨h4,h⟩|⟨h4,h⟩
 ·exact gn 8 [3,4,5,9,11,24,25] [0,1,2,3] [cC (slack_late_ok h3),bT h4] (hE _ (oJ h))
 ·exact gn 11 [3,4,5,9,10,11,24,25] [0,1,2,3] [cC (slack_late_ok h3),bF h4] (hI _ (oJ h))
theorem slack_Slack_L1_ok (Γ:Gam) (rv:List Int × Int) {x0 r s0} {s:List Int × Int} {e:List Int} (h:loopF (fun s=>slack_Slack_L1 x0 r s0 s.1 s.2) s = some e) (hD:slack_Slack_L1_D0 Γ rv x0 r s0 e):slack_Slack_L1_C Γ rv x0 r s0 s.1 s.2:=by
 refine loop_ind (C:=fun (s:List Int × Int)=>slack_Slack_L1_C Γ rv x0 r s0 s.1 s.2) (D:=fun (e:List Int)=>slack_Slack_L1_D0 Γ rv x0 r s0 e) ?_ h hD
 clear h hD s e
 rintro ⟨l,v⟩ z_ h hI hE
 replace h:slack_Slack_L1 x0 r s0 l v = _:=h
 unfold slack_Slack_L1 at h
 rcases br_elim h with ⟨h2,h⟩|⟨h2,h⟩
 ·obtain ⟨e0,h5,h⟩:=bnd_elim h
  refine gn 14 [3,4,5,9,10,11,24,25] [0,1,2,3] [bT h2] (slack_Slack_L2_ok Γ rv h5 ?_)
  obtain ⟨n1,rfl⟩:∃ x,x = e0:=⟨_,rfl⟩
  replace h:(chk (okN (l ++ [n1]).length 8) (some (.inl ((l ++ [n1]),(addK .i64 v 1)))):Option ((List Int × Int) ⊕ (List Int))) = some _:=h
  obtain ⟨h6,h⟩:=chk_elim h
  exact gn 4 [3,4,5,9,24,25] [0,1,2,5] [oO (Eq.refl ([n1].map e_i64).length),aO e_i64 h6] (hI _ (oJ h))
 ·exact gn 5 [9] [3] [bF h2] (hE _ (oJ h))
theorem slack_Slack_ok {x0 r s0} {rv:List Int × Int} (h:slack_Slack x0 r s0 = some rv):AFn Tryz.prog 12 [.agg (T_api_Instance.enc x0),.agg (T_api_Route.enc r),.agg (T_api_Sheet.enc s0)] [] (.tup [.one (lL 1 rv.1 e_i64),.one (lI rv.2)]) []:=by
 refine afn_of Tryz.func12 (by kernel_rfl) (by kernel_rfl) (fun Γ=>?_)
 unfold slack_Slack at h
 obtain ⟨r1,h0,h⟩:=bnd_elim h
 rcases br_elim h with ⟨h1,h⟩|⟨h1,h⟩
 ·obtain rfl:=Option.some.inj h
  exact gr 10 [] [cC (drive_Valid_ok h0),bT h1,hW 5,hH (.nilS 6 0 1)]
 ·obtain ⟨e1,h7,h⟩:=bnd_elim h
  refine gn 16 [3,4,5,9,24,25] [0,1,2,3] [cC (drive_Valid_ok h0),bF h1,nL T_api_Visit.enc r.visits,hW 4,hH (.adopt 9 1 3)] (slack_Slack_L1_ok Γ rv h7 ?_)
  obtain ⟨l1,rfl⟩:∃ x,x = e1:=⟨_,rfl⟩
  replace h:(some (l1,0):Option (List Int × Int)) = some _:=h
  obtain rfl:=Option.some.inj h
  exact gr 2 [] [hW 5,hH (.frz 0),rp 3 (eL l1 e_i64)]
def slack_Slack_own_G (Γ:Gam) (rv:List Int × Int) (cf:Cf):Prop:=Go Tryz.prog Tryz.f12 [] Γ (.tup [.one (lO 0 1 rv.1 e_i64),.one (lI rv.2)]) [oS 1 3 rv.1 e_i64] cf
def slack_Slack_own_L2_C (Γ:Gam) (rv:List Int × Int) (x0:T_api_Instance) (r:T_api_Route) (s0:T_api_Sheet) (l:List Int) (v:Int) (n:Int):Prop:=slack_Slack_own_G Γ rv ⟨[.c 125336,.l 125336,.b 2,.c 31335,.b 1,.c 1959,.l 244,.b 0,.c 31],⟨48,[vP 3 0 6,vP 4 1 4,vP 5 2 5,vO 9 3 1 l e_i64,vI 10 v,vI 11 n,vI 24 (addK .i64 (lenI r.visits) 1),vI 25 v],[oX 6 30 (T_api_Instance.enc x0),oX 4 34 (T_api_Route.enc r),oX 5 37 (T_api_Sheet.enc s0),oS 1 3 l e_i64]⟩⟩
def slack_Slack_own_L2_D0 (Γ:Gam) (rv:List Int × Int) (x0:T_api_Instance) (r:T_api_Route) (s0:T_api_Sheet) (l:List Int) (v:Int) (n1:Int):Prop:=slack_Slack_own_G Γ rv ⟨[.c 31335,.b 1,.c 1959,.l 244,.b 0,.c 31],⟨48,[vP 3 0 6,vP 4 1 4,vP 5 2 5,vO 9 3 1 l e_i64,vI 11 n1,vI 24 (addK .i64 (lenI r.visits) 1),vI 25 v],[oX 6 30 (T_api_Instance.enc x0),oX 4 34 (T_api_Route.enc r),oX 5 37 (T_api_Sheet.enc s0),oS 1 3 l e_i64]⟩⟩
def slack_Slack_own_L1_C (Γ:Gam) (rv:List Int × Int) (x0:T_api_Instance) (r:T_api_Route) (s0:T_api_Sheet) (l:List Int) (v:Int):Prop:=slack_Slack_own_G Γ rv ⟨[.c 244,.l 244,.b 0,.c 31],⟨48,[vP 3 0 6,vP 4 1 4,vP 5 2 5,vO 9 3 1 l e_i64,vI 24 (addK .i64 (lenI r.visits) 1),vI 25 v],[oX 6 30 (T_api_Instance.enc x0),oX 4 34 (T_api_Route.enc r),oX 5 37 (T_api_Sheet.enc s0),oS 1 3 l e_i64]⟩⟩
def slack_Slack_own_L1_D0 (Γ:Gam) (rv:List Int × Int) (x0:T_api_Instance) (r:T_api_Route) (s0:T_api_Sheet) (l1:List Int):Prop:=slack_Slack_own_G Γ rv ⟨[.c 31],⟨48,[vO 9 0 1 l1 e_i64],[oS 1 3 l1 e_i64]⟩⟩
theorem slack_Slack_own_L2_ok (Γ:Gam) (rv:List Int × Int) {x0 r s0 l v} {s:Int} {e:Int} (h:loopF (fun s=>slack_Slack_own_L2 x0 r s0 l v s) s = some e) (hD:slack_Slack_own_L2_D0 Γ rv x0 r s0 l v e):slack_Slack_own_L2_C Γ rv x0 r s0 l v s:=by
 refine loop_ind (C:=fun (s:Int)=>slack_Slack_own_L2_C Γ rv x0 r s0 l v s) (D:=fun (e:Int)=>slack_Slack_own_L2_D0 Γ rv x0 r s0 l v e) ?_ h hD
 clear h hD s e
 intro n z_ h hI hE
 replace h:slack_Slack_own_L2 x0 r s0 l v n = _:=h
 unfold slack_Slack_own_L2 at h
 obtain ⟨r2,h3,h⟩:=bnd_elim h
 rcases br_elim h with ⟨h4,h⟩|⟨h4,h⟩
 ·exact gn 8 [3,4,5,9,11,24,25] [0,1,2,3] [cC (slack_late_ok h3),bT h4] (hE _ (oJ h))
 ·exact gn 11 [3,4,5,9,10,11,24,25] [0,1,2,3] [cC (slack_late_ok h3),bF h4] (hI _ (oJ h))
theorem slack_Slack_own_L1_ok (Γ:Gam) (rv:List Int × Int) {x0 r s0} {s:List Int × Int} {e:List Int} (h:loopF (fun s=>slack_Slack_own_L1 x0 r s0 s.1 s.2) s = some e) (hD:slack_Slack_own_L1_D0 Γ rv x0 r s0 e):slack_Slack_own_L1_C Γ rv x0 r s0 s.1 s.2:=by
 refine loop_ind (C:=fun (s:List Int × Int)=>slack_Slack_own_L1_C Γ rv x0 r s0 s.1 s.2) (D:=fun (e:List Int)=>slack_Slack_own_L1_D0 Γ rv x0 r s0 e) ?_ h hD
 clear h hD s e
 rintro ⟨l,v⟩ z_ h hI hE
 replace h:slack_Slack_own_L1 x0 r s0 l v = _:=h
 unfold slack_Slack_own_L1 at h
 rcases br_elim h with ⟨h2,h⟩|⟨h2,h⟩
 ·obtain ⟨e0,h5,h⟩:=bnd_elim h
  refine gn 14 [3,4,5,9,10,11,24,25] [0,1,2,3] [bT h2] (slack_Slack_own_L2_ok Γ rv h5 ?_)
  obtain ⟨n1,rfl⟩:∃ x,x = e0:=⟨_,rfl⟩
  replace h:(chk (okN (l ++ [n1]).length 8) (some (.inl ((l ++ [n1]),(addK .i64 v 1)))):Option ((List Int × Int) ⊕ (List Int))) = some _:=h
  obtain ⟨h6,h⟩:=chk_elim h
  exact gn 4 [3,4,5,9,24,25] [0,1,2,5] [oO (Eq.refl ([n1].map e_i64).length),aO e_i64 h6] (hI _ (oJ h))
 ·exact gn 5 [9] [3] [bF h2] (hE _ (oJ h))
theorem slack_Slack_own_ok {x0 r s0} {rv:List Int × Int} (h:slack_Slack_own x0 r s0 = some rv):AFn Tryz.prog 12 [.agg (T_api_Instance.enc x0),.agg (T_api_Route.enc r),.agg (T_api_Sheet.enc s0)] [] (.tup [.one (lO 0 1 rv.1 e_i64),.one (lI rv.2)]) [oS 1 3 rv.1 e_i64]:=by
 refine afn_of Tryz.func12 (by kernel_rfl) (by kernel_rfl) (fun Γ=>?_)
 unfold slack_Slack_own at h
 obtain ⟨r1,h0,h⟩:=bnd_elim h
 rcases br_elim h with ⟨h1,h⟩|⟨h1,h⟩
 ·obtain rfl:=Option.some.inj h
  exact gr 10 [3] [cC (drive_Valid_ok h0),bT h1,hW 5,hH (.adopt 6 1 3)]
 ·obtain ⟨e1,h7,h⟩:=bnd_elim h
  refine gn 16 [3,4,5,9,24,25] [0,1,2,3] [cC (drive_Valid_ok h0),bF h1,nL T_api_Visit.enc r.visits,hW 4,hH (.adopt 9 1 3)] (slack_Slack_own_L1_ok Γ rv h7 ?_)
  obtain ⟨l1,rfl⟩:∃ x,x = e1:=⟨_,rfl⟩
  replace h:(some (l1,0):Option (List Int × Int)) = some _:=h
  obtain rfl:=Option.some.inj h
  exact gr 2 [0] []
def slack_Latest_G (Γ:Gam) (rv:List Int × Int) (cf:Cf):Prop:=Go Tryz.prog Tryz.f14 [] Γ (.tup [.one (lL 1 rv.1 e_i64),.one (lI rv.2)]) [] cf
def slack_Latest_L1_C (Γ:Gam) (rv:List Int × Int) (s0:T_api_Sheet) (r1:List Int × Int) (l:List Int) (v:Int):Prop:=slack_Latest_G Γ rv ⟨[.c 244,.l 244,.b 0,.c 31],⟨53,[vP 5 0 5,vO 8 1 1 l e_i64,vI 22 (lenI r1.1),vI 23 v],[oX 5 37 (T_api_Sheet.enc s0),oS 1 3 l e_i64]⟩⟩
def slack_Latest_L1_D0 (Γ:Gam) (rv:List Int × Int) (s0:T_api_Sheet) (r1:List Int × Int) (l1:List Int):Prop:=slack_Latest_G Γ rv ⟨[.c 31],⟨53,[vO 8 0 1 l1 e_i64],[oS 1 3 l1 e_i64]⟩⟩
theorem slack_Latest_L1_ok (Γ:Gam) (rv:List Int × Int) {s0 r1} {s:List Int × Int} {e:List Int} (h:loopF (fun s=>slack_Latest_L1 s0 r1 s.1 s.2) s = some e) (hD:slack_Latest_L1_D0 Γ rv s0 r1 e):slack_Latest_L1_C Γ rv s0 r1 s.1 s.2:=by
 refine loop_ind (C:=fun (s:List Int × Int)=>slack_Latest_L1_C Γ rv s0 r1 s.1 s.2) (D:=fun (e:List Int)=>slack_Latest_L1_D0 Γ rv s0 r1 e) ?_ h hD
 clear h hD s e
 rintro ⟨l,v⟩ z_ h hI hE
 replace h:slack_Latest_L1 s0 r1 l v = _:=h
 unfold slack_Latest_L1 at h
 rcases br_elim h with ⟨h2,h⟩|⟨h2,h⟩
 ·rcases br_elim h with ⟨h3,h⟩|⟨h3,h⟩
  ·obtain ⟨x1,h4,h⟩:=bnd_elim h
   obtain ⟨x2,h5,h⟩:=bnd_elim h
   exact gn 16 [5,8,22,23] [0,1] [bT h2,nL T_api_Time.enc s0.times,bT h3,hH (.draw 12 []),oO (getLo h4),oO (getHi e_i64 h4),rE e_i64 h4,cE T_api_Time.enc h5,oO (getLo h4),oO (getHi e_i64 h4),rE e_i64 h4,hH (.rows ((setI l v (addK .i64 x1 x2.arrive)).map e_i64)),hH (.relen 1 ((setI l v (addK .i64 x1 x2.arrive)).map e_i64).length),oO (setM e_i64 l v (addK .i64 x1 x2.arrive)),rp 2 (oO (lenSet e_i64 l v (addK .i64 x1 x2.arrive)))] (hI _ (oJ h))
  ·obtain ⟨x3,h6,h⟩:=bnd_elim h
   exact gn 16 [5,8,22,23] [0,1] [bT h2,nL T_api_Time.enc s0.times,bF h3,hH (.draw 8 []),oO (getLo h6),oO (getHi e_i64 h6),rE e_i64 h6,oO (getLo h6),oO (getHi e_i64 h6),rE e_i64 h6,hH (.rows ((setI l v (addK .i64 x3 s0.end_)).map e_i64)),hH (.relen 1 ((setI l v (addK .i64 x3 s0.end_)).map e_i64).length),oO (setM e_i64 l v (addK .i64 x3 s0.end_)),rp 2 (oO (lenSet e_i64 l v (addK .i64 x3 s0.end_)))] (hI _ (oJ h))
 ·exact gn 5 [8] [1] [bF h2] (hE _ (oJ h))
theorem slack_Latest_ok {x0 r s0} {rv:List Int × Int} (h:slack_Latest x0 r s0 = some rv):AFn Tryz.prog 14 [.agg (T_api_Instance.enc x0),.agg (T_api_Route.enc r),.agg (T_api_Sheet.enc s0)] [] (.tup [.one (lL 1 rv.1 e_i64),.one (lI rv.2)]) []:=by
 refine afn_of Tryz.func14 (by kernel_rfl) (by kernel_rfl) (fun Γ=>?_)
 unfold slack_Latest at h
 obtain ⟨r1,h0,h⟩:=bnd_elim h
 rcases br_elim h with ⟨h1,h⟩|⟨h1,h⟩
 ·obtain rfl:=Option.some.inj h
  exact gr 10 [] [cC (slack_Slack_own_ok h0),bT h1,hW 5,hH (.nilS 6 0 1)]
 ·obtain ⟨e0,h7,h⟩:=bnd_elim h
  refine gn 14 [5,8,22,23] [2,3] [cC (slack_Slack_own_ok h0),bF h1,nL e_i64 r1.1] (slack_Latest_L1_ok Γ rv h7 ?_)
  obtain ⟨l1,rfl⟩:∃ x,x = e0:=⟨_,rfl⟩
  replace h:(some (l1,0):Option (List Int × Int)) = some _:=h
  obtain rfl:=Option.some.inj h
  exact gr 2 [] [hW 5,hH (.frz 0),rp 3 (eL l1 e_i64)]
def lorrylaw19_numbers_G (Γ:Gam) (rv:Bool) (cf:Cf):Prop:=Go Tryz.prog Tryz.f16 [] Γ (one (.bool rv)) [] cf
def lorrylaw19_numbers_L1_C (Γ:Gam) (rv:Bool) (a:List Int) (b:List Int) (i:Int):Prop:=lorrylaw19_numbers_G Γ rv ⟨[.c 116,.l 116,.b 0,.c 15],⟨26,[vL 0 1 a e_i64,vL 1 1 b e_i64,vI 5 i],[]⟩⟩
def lorrylaw19_numbers_L1_D0 (Γ:Gam) (rv:Bool) (a:List Int) (b:List Int):Prop:=lorrylaw19_numbers_G Γ rv ⟨[.c 15],⟨26,[],[]⟩⟩
theorem lorrylaw19_numbers_L1_ok (Γ:Gam) (rv:Bool) {a b} {s:Int} {e:(Unit) ⊕ (Bool)} (h:loopF (fun s=>lorrylaw19_numbers_L1 a b s) s = some e) (hD:sel e (fun e=>lorrylaw19_numbers_L1_D0 Γ rv a b) (fun e=>e = rv)):lorrylaw19_numbers_L1_C Γ rv a b s:=by
 refine loop_ind (C:=fun (s:Int)=>lorrylaw19_numbers_L1_C Γ rv a b s) (D:=fun (e:(Unit) ⊕ (Bool))=>sel e (fun e=>lorrylaw19_numbers_L1_D0 Γ rv a b) (fun e=>e = rv)) ?_ h hD
 clear h hD s e
 intro i z_ h hI hE
 replace h:lorrylaw19_numbers_L1 a b i = _:=h
 unfold lorrylaw19_numbers_L1 at h
 rcases br_elim h with ⟨h1,h⟩|⟨h1,h⟩
 ·obtain ⟨x0,h2,h⟩:=bnd_elim h
  obtain ⟨x1,h3,h⟩:=bnd_elim h
  rcases br_elim h with ⟨h4,h⟩|⟨h4,h⟩
  ·obtain rfl:=(hE _ (oJ h):_ = rv)
   exact gr 12 [] [nL e_i64 a,bT h1,hH (.draw 9 []),cE e_i64 h2,cE e_i64 h3,bT h4]
  ·exact gn 14 [0,1,5] [] [nL e_i64 a,bT h1,hH (.draw 9 []),cE e_i64 h2,cE e_i64 h3,bF h4] (hI _ (oJ h))
 ·exact gn 5 [] [] [nL e_i64 a,bF h1] (hE _ (oJ h))
theorem lorrylaw19_numbers_ok {a b} {rv:Bool} (h:lorrylaw19_numbers a b = some rv):AFn Tryz.prog 16 [.one (lL 1 a e_i64),.one (lL 1 b e_i64)] [] (one (.bool rv)) []:=by
 refine afn_of Tryz.func16 (by kernel_rfl) (by kernel_rfl) (fun Γ=>?_)
 unfold lorrylaw19_numbers at h
 rcases br_elim h with ⟨h0,h⟩|⟨h0,h⟩
 ·obtain rfl:=Option.some.inj h
  exact gr 8 [] [nL e_i64 a,nL e_i64 b,bT h0]
 ·obtain ⟨e0,h5,h⟩:=bnd_elim h
  refine gn 12 [0,1,5] [] [nL e_i64 a,nL e_i64 b,bF h0] (lorrylaw19_numbers_L1_ok Γ rv h5 ?_)
  rcases e0 with e0|e0
  ·replace h:(some true:Option Bool) = some _:=h
   obtain rfl:=Option.some.inj h
   exact gr 2 [] []
  ·obtain ⟨r,rfl⟩:∃ x,x = e0:=⟨_,rfl⟩
   replace h:(some r:Option Bool) = some _:=h
   exact Option.some.inj h
theorem slack_After_ok {x0 r s0 at_ ticks} {rv:T_api_Sheet × Int} (h:slack_After x0 r s0 at_ ticks = some rv):AFn Tryz.prog 17 [.agg (T_api_Instance.enc x0),.agg (T_api_Route.enc r),.agg (T_api_Sheet.enc s0),.one (lI at_),.one (lI ticks)] [] (.tup [.agg [.bool rv.1.rest_,lI rv.1.depart,lL 4 rv.1.times T_api_Time.enc,lI rv.1.end_,lI rv.1.miles],.one (lI rv.2)]) []:=by
 refine afn_of Tryz.func17 (by kernel_rfl) (by kernel_rfl) (fun Γ=>?_)
 unfold slack_After at h
 obtain ⟨r1,h0,h⟩:=bnd_elim h
 rcases br_elim h with ⟨h1,h⟩|⟨h1,h⟩
 ·obtain rfl:=Option.some.inj h
  exact gr 10 [] [cC (drive_Valid_ok h0),bT h1,hW 6,hH (.nilB 3 2 4)]
 ·rcases br_elim h with ⟨h2,h⟩|⟨h2,h⟩
  ·obtain rfl:=Option.some.inj h
   exact gr 15 [] [cC (drive_Valid_ok h0),bF h1,rp 4 hP,rp 2 (oI ((ltI at_ 0) = false)),nL T_api_Visit.enc r.visits,rp 8 hP,rp 2 (oI ((ltI at_ 0) = false)),oR True ((ltI at_ 0) = false),oI (((ltI at_ 0) || (gtI at_ (lenI r.visits))) = false),oR True (((ltI at_ 0) || (gtI at_ (lenI r.visits))) = false),oI ((((ltI at_ 0) || (gtI at_ (lenI r.visits))) || (ltI ticks 0)) = false),oR True ((((ltI at_ 0) || (gtI at_ (lenI r.visits))) || (ltI ticks 0)) = false),bT h2,hW 5,hH (.nilB 3 2 4)]
  ·obtain ⟨r2,h3,h⟩:=bnd_elim h
   obtain rfl:=Option.some.inj h
   exact gr 16 [] [cC (drive_Valid_ok h0),bF h1,rp 4 hP,rp 2 (oI ((ltI at_ 0) = false)),nL T_api_Visit.enc r.visits,rp 8 hP,rp 2 (oI ((ltI at_ 0) = false)),oR True ((ltI at_ 0) = false),oI (((ltI at_ 0) || (gtI at_ (lenI r.visits))) = false),oR True (((ltI at_ 0) || (gtI at_ (lenI r.visits))) = false),oI ((((ltI at_ 0) || (gtI at_ (lenI r.visits))) || (ltI ticks 0)) = false),oR True ((((ltI at_ 0) || (gtI at_ (lenI r.visits))) || (ltI ticks 0)) = false),bF h2,cC (slack_late_ok h3)]
theorem lorrylaw19_simple_ok {rv:T_lorrylaw19_Trip} (h:lorrylaw19_simple = some rv):AFn Tryz.prog 38 [] [] (gG [lL 1 rv.x.net.places e_str,lL 6 rv.x.net.arcs T_api_Arc.enc,lL 14 rv.x.types T_api_Type.enc,lL 16 rv.x.orders T_api_Order.enc,lL 2 rv.x.apart A2_Int.enc,lL 2 rv.x.before A2_Int.enc,lI rv.r.type_,lI rv.r.start,lL 1 rv.r.rests e_bool,lL 2 rv.r.visits T_api_Visit.enc,.bool rv.s.rest_,lI rv.s.depart,lL 4 rv.s.times T_api_Time.enc,lI rv.s.end_,lI rv.s.miles]) []:=by
 refine afn_of Tryz.func38 (by kernel_rfl) (by kernel_rfl) (fun Γ=>?_)
 unfold lorrylaw19_simple at h
 obtain rfl:=Option.some.inj h
 exact gr 14 [] [hW 15,hH (.frz 1),hH (.nilS 10 5 2),hH (.nilS 12 5 2),hW 22,hH (.frz 7),hW 2,hH (.frz 5),hW 15,hH (.frz 2),hH (.frz 3),hH (.frz 9),hH (.frz 10),hH (.frz 12),hH (.frz 13),hH (.nilB 0 4 2),hH (.nilB 0 5 2),hH (.nilB 0 8 1),rp 6 (oO (Eq.refl ([(T_api_Point.mk 0 20)].map T_api_Point.enc).length)),rp 4 (oO (Eq.refl ([5].map e_i64).length)),rp 4 (oO (Eq.refl ([1].map e_i64).length)),rp 9 (oO (Eq.refl ([s_hub_5261,s_ash_2852].map e_str).length)),rp 9 (oO (Eq.refl ([(T_api_Arc.mk 0 1 0 0 [(T_api_Point.mk 0 20)] []),(T_api_Arc.mk 1 0 0 0 [(T_api_Point.mk 0 20)] [])].map T_api_Arc.enc).length)),rp 6 (oO (Eq.refl ([(T_api_Type.mk s_van_957d 1 0 0 [5] 0 0 0 1000 1000 0 0 0 0)].map T_api_Type.enc).length)),rp 6 (oO (Eq.refl ([(T_api_Order.mk s_oa_bdcf [1] (T_api_Stop.mk (-1) 0 0 0) (T_api_Stop.mk 1 0 50 0) 0 0 1 (-1) (-1) false)].map T_api_Order.enc).length)),rp 4 (oO (Eq.refl ([(T_api_Visit.mk 0 true)].map T_api_Visit.enc).length)),rp 4 (oO (Eq.refl ([(T_api_Time.mk 20 20 20 false)].map T_api_Time.enc).length))]
theorem lorrylaw19_awake_ok {rv:Bool} (h:lorrylaw19_awake = some rv):AFn Tryz.prog 11 [] [] (one (.bool rv)) []:=by
 refine afn_of Tryz.func11 (by kernel_rfl) (by kernel_rfl) (fun Γ=>?_)
 unfold lorrylaw19_awake at h
 obtain ⟨r,h0,h⟩:=bnd_elim h
 obtain ⟨r1,h1,h⟩:=bnd_elim h
 obtain ⟨r2,h2,h⟩:=bnd_elim h
 obtain ⟨r3,h3,h⟩:=bnd_elim h
 obtain ⟨r4,h4,h⟩:=bnd_elim h
 rcases br_elim h with ⟨h5,h⟩|⟨h5,h⟩
 ·obtain ⟨r5,h6,h⟩:=bnd_elim h
  rcases br_elim h with ⟨h7,h⟩|⟨h7,h⟩
  ·obtain ⟨r6,h8,h⟩:=bnd_elim h
   obtain rfl:=Option.some.inj h
   exact gr 14 [] [cC (lorrylaw19_simple_ok h0),cC (slack_Slack_ok h1),cC (slack_Latest_ok h2),cC (slack_After_ok h3),cC (slack_After_ok h4),rp 3 (bT h5),oO (Eq.refl ([30,960].map e_i64).length),cC (lorrylaw19_numbers_ok h6),bT h5,hP,hP,hP,oI (r5 = true),oR True (r5 = true),rp 3 (bT h7),oO (Eq.refl ([50,1000].map e_i64).length),cC (lorrylaw19_numbers_ok h8),bT h7,rp 10 hP,oI (r6 = true),oR True (r6 = true),rp 2 (oI ((r6 && (eqI r3.2 0)) = true)),oR True ((r6 && (eqI r3.2 0)) = true),oI (((r6 && (eqI r3.2 0)) && (eqI r3.1.end_ 70)) = true),oR True (((r6 && (eqI r3.2 0)) && (eqI r3.1.end_ 70)) = true)]
  ·obtain rfl:=Option.some.inj h
   exact gr 14 [] [cC (lorrylaw19_simple_ok h0),cC (slack_Slack_ok h1),cC (slack_Latest_ok h2),cC (slack_After_ok h3),cC (slack_After_ok h4),rp 3 (bT h5),oO (Eq.refl ([30,960].map e_i64).length),cC (lorrylaw19_numbers_ok h6),bT h5,hP,hP,hP,oI (r5 = true),oR True (r5 = true),rp 4 (bF h7),rp 10 fF]
 ·obtain rfl:=Option.some.inj h
  exact gr 14 [] [cC (lorrylaw19_simple_ok h0),cC (slack_Slack_ok h1),cC (slack_Latest_ok h2),cC (slack_After_ok h3),cC (slack_After_ok h4),rp 4 (bF h5),rp 17 fF]
def lorryref18_Same_G (Γ:Gam) (rv:Bool) (cf:Cf):Prop:=Go Tryz.prog Tryz.f24 [] Γ (one (.bool rv)) [] cf
def lorryref18_Same_L1_C (Γ:Gam) (rv:Bool) (a:T_api_Sheet) (b:T_api_Sheet) (i:Int):Prop:=lorryref18_Same_G Γ rv ⟨[.c 116,.l 116,.b 0,.c 15],⟨59,[vP 2 0 5,vP 3 1 5,vI 5 i],[oX 5 37 (T_api_Sheet.enc a),oX 5 37 (T_api_Sheet.enc b)]⟩⟩
def lorryref18_Same_L1_D0 (Γ:Gam) (rv:Bool) (a:T_api_Sheet) (b:T_api_Sheet):Prop:=lorryref18_Same_G Γ rv ⟨[.c 15],⟨59,[],[]⟩⟩
theorem lorryref18_Same_L1_ok (Γ:Gam) (rv:Bool) {a b} {s:Int} {e:(Unit) ⊕ (Bool)} (h:loopF (fun s=>lorryref18_Same_L1 a b s) s = some e) (hD:sel e (fun e=>lorryref18_Same_L1_D0 Γ rv a b) (fun e=>e = rv)):lorryref18_Same_L1_C Γ rv a b s:=by
 refine loop_ind (C:=fun (s:Int)=>lorryref18_Same_L1_C Γ rv a b s) (D:=fun (e:(Unit) ⊕ (Bool))=>sel e (fun e=>lorryref18_Same_L1_D0 Γ rv a b) (fun e=>e = rv)) ?_ h hD
 clear h hD s e
 intro i z_ h hI hE
 replace h:lorryref18_Same_L1 a b i = _:=h
 unfold lorryref18_Same_L1 at h
 rcases br_elim h with ⟨h1,h⟩|⟨h1,h⟩
 ·obtain ⟨x0,h2,h⟩:=bnd_elim h
  obtain ⟨x1,h3,h⟩:=bnd_elim h
  rcases br_elim h with ⟨h4,h⟩|⟨h4,h⟩
  ·exact gn 14 [2,3,5] [0,1] [nL T_api_Time.enc a.times,bT h1,hH (.draw 11 []),cE T_api_Time.enc h2,cE T_api_Time.enc h3,nF h4] (hI _ (oJ h))
  ·obtain rfl:=(hE _ (oJ h):_ = rv)
   exact gr 12 [] [nL T_api_Time.enc a.times,bT h1,hH (.draw 11 []),cE T_api_Time.enc h2,cE T_api_Time.enc h3,nT h4]
 ·exact gn 5 [] [] [nL T_api_Time.enc a.times,bF h1] (hE _ (oJ h))
theorem lorryref18_Same_ok {a b} {rv:Bool} (h:lorryref18_Same a b = some rv):AFn Tryz.prog 24 [.agg (T_api_Sheet.enc a),.agg (T_api_Sheet.enc b)] [] (one (.bool rv)) []:=by
 refine afn_of Tryz.func24 (by kernel_rfl) (by kernel_rfl) (fun Γ=>?_)
 unfold lorryref18_Same at h
 rcases br_elim h with ⟨h0,h⟩|⟨h0,h⟩
 ·obtain rfl:=Option.some.inj h
  exact gr 8 [] [rp 21 hP,rp 4 (oI ((!eqB a.rest_ b.rest_) = false)),oR True ((!eqB a.rest_ b.rest_) = false),rp 4 (oI (((!eqB a.rest_ b.rest_) || (neI a.depart b.depart)) = false)),oR True (((!eqB a.rest_ b.rest_) || (neI a.depart b.depart)) = false),rp 4 (oI ((((!eqB a.rest_ b.rest_) || (neI a.depart b.depart)) || (neI a.end_ b.end_)) = false)),oR True ((((!eqB a.rest_ b.rest_) || (neI a.depart b.depart)) || (neI a.end_ b.end_)) = false),rp 2 (oI (((((!eqB a.rest_ b.rest_) || (neI a.depart b.depart)) || (neI a.end_ b.end_)) || (neI a.miles b.miles)) = false)),nL T_api_Time.enc a.times,hP,hP,hP,rp 2 (oI (((((!eqB a.rest_ b.rest_) || (neI a.depart b.depart)) || (neI a.end_ b.end_)) || (neI a.miles b.miles)) = false)),nL T_api_Time.enc b.times,hP,hP,rp 2 (oI (((((!eqB a.rest_ b.rest_) || (neI a.depart b.depart)) || (neI a.end_ b.end_)) || (neI a.miles b.miles)) = false)),oR True (((((!eqB a.rest_ b.rest_) || (neI a.depart b.depart)) || (neI a.end_ b.end_)) || (neI a.miles b.miles)) = false),bT h0]
 ·obtain ⟨e0,h5,h⟩:=bnd_elim h
  refine gn 12 [2,3,5] [0,1] [rp 21 hP,rp 4 (oI ((!eqB a.rest_ b.rest_) = false)),oR True ((!eqB a.rest_ b.rest_) = false),rp 4 (oI (((!eqB a.rest_ b.rest_) || (neI a.depart b.depart)) = false)),oR True (((!eqB a.rest_ b.rest_) || (neI a.depart b.depart)) = false),rp 4 (oI ((((!eqB a.rest_ b.rest_) || (neI a.depart b.depart)) || (neI a.end_ b.end_)) = false)),oR True ((((!eqB a.rest_ b.rest_) || (neI a.depart b.depart)) || (neI a.end_ b.end_)) = false),rp 2 (oI (((((!eqB a.rest_ b.rest_) || (neI a.depart b.depart)) || (neI a.end_ b.end_)) || (neI a.miles b.miles)) = false)),nL T_api_Time.enc a.times,hP,hP,hP,rp 2 (oI (((((!eqB a.rest_ b.rest_) || (neI a.depart b.depart)) || (neI a.end_ b.end_)) || (neI a.miles b.miles)) = false)),nL T_api_Time.enc b.times,hP,hP,rp 2 (oI (((((!eqB a.rest_ b.rest_) || (neI a.depart b.depart)) || (neI a.end_ b.end_)) || (neI a.miles b.miles)) = false)),oR True (((((!eqB a.rest_ b.rest_) || (neI a.depart b.depart)) || (neI a.end_ b.end_)) || (neI a.miles b.miles)) = false),bF h0] (lorryref18_Same_L1_ok Γ rv h5 ?_)
  rcases e0 with e0|e0
  ·replace h:(some true:Option Bool) = some _:=h
   obtain rfl:=Option.some.inj h
   exact gr 2 [] []
  ·obtain ⟨r,rfl⟩:∃ x,x = e0:=⟨_,rfl⟩
   replace h:(some r:Option Bool) = some _:=h
   exact Option.some.inj h
theorem lorryref18_stop_ok {x0 v} {rv:T_api_Stop × Bool} (h:lorryref18_stop x0 v = some rv):AFn Tryz.prog 144 [.agg (T_api_Instance.enc x0),.agg (T_api_Visit.enc v)] [] (.tup [.agg [lI rv.1.place,lI rv.1.open_,lI rv.1.close,lI rv.1.service],.one (.bool rv.2)]) []:=by
 refine afn_of Tryz.func144 (by kernel_rfl) (by kernel_rfl) (fun Γ=>?_)
 unfold lorryref18_stop at h
 rcases br_elim h with ⟨h0,h⟩|⟨h0,h⟩
 ·obtain rfl:=Option.some.inj h
  exact gr 8 [] [rp 5 hP,rp 3 (oI ((ltI v.order 0) = false)),nL T_api_Order.enc x0.orders,hP,hP,rp 2 (oI ((ltI v.order 0) = false)),oR True ((ltI v.order 0) = false),bT h0]
 ·obtain ⟨x1,h1,h⟩:=bnd_elim h
  rcases br_elim h with ⟨h2,h⟩|⟨h2,h⟩
  ·obtain rfl:=Option.some.inj h
   exact gr 16 [] [rp 5 hP,rp 3 (oI ((ltI v.order 0) = false)),nL T_api_Order.enc x0.orders,hP,hP,rp 2 (oI ((ltI v.order 0) = false)),oR True ((ltI v.order 0) = false),bF h0,cE T_api_Order.enc h1,bT h2,cE T_api_Order.enc h1,hH (.draw 6 [(2,4)])]
  ·obtain rfl:=Option.some.inj h
   exact gr 16 [] [rp 5 hP,rp 3 (oI ((ltI v.order 0) = false)),nL T_api_Order.enc x0.orders,hP,hP,rp 2 (oI ((ltI v.order 0) = false)),oR True ((ltI v.order 0) = false),bF h0,cE T_api_Order.enc h1,bF h2,hH (.draw 6 [(2,4)])]
def lorryref18_Possible_G (Γ:Gam) (rv:Bool) (cf:Cf):Prop:=Go Tryz.prog Tryz.f98 [] Γ (one (.bool rv)) [] cf
def lorryref18_Possible_L1_C (Γ:Gam) (rv:Bool) (x0:T_api_Instance) (r:T_api_Route) (i:Int):Prop:=lorryref18_Possible_G Γ rv ⟨[.c 116,.l 116,.b 0,.c 15],⟨54,[vP 2 0 6,vP 3 1 4,vI 5 i],[oX 6 30 (T_api_Instance.enc x0),oX 4 34 (T_api_Route.enc r)]⟩⟩
def lorryref18_Possible_L1_D0 (Γ:Gam) (rv:Bool) (x0:T_api_Instance) (r:T_api_Route):Prop:=lorryref18_Possible_G Γ rv ⟨[.c 15],⟨54,[],[]⟩⟩
theorem lorryref18_Possible_L1_ok (Γ:Gam) (rv:Bool) {x0 r} {s:Int} {e:(Unit) ⊕ (Bool)} (h:loopF (fun s=>lorryref18_Possible_L1 x0 r s) s = some e) (hD:sel e (fun e=>lorryref18_Possible_L1_D0 Γ rv x0 r) (fun e=>e = rv)):lorryref18_Possible_L1_C Γ rv x0 r s:=by
 refine loop_ind (C:=fun (s:Int)=>lorryref18_Possible_L1_C Γ rv x0 r s) (D:=fun (e:(Unit) ⊕ (Bool))=>sel e (fun e=>lorryref18_Possible_L1_D0 Γ rv x0 r) (fun e=>e = rv)) ?_ h hD
 clear h hD s e
 intro i z_ h hI hE
 replace h:lorryref18_Possible_L1 x0 r i = _:=h
 unfold lorryref18_Possible_L1 at h
 rcases br_elim h with ⟨h1,h⟩|⟨h1,h⟩
 ·obtain ⟨x1,h2,h⟩:=bnd_elim h
  obtain ⟨r1,h3,h⟩:=bnd_elim h
  rcases br_elim h with ⟨h4,h⟩|⟨h4,h⟩
  ·exact gn 16 [2,3,5] [0,1] [nL T_api_Visit.enc r.visits,bT h1,hH (.draw 13 [(2,11)]),cE T_api_Visit.enc h2,cC (lorryref18_stop_ok h3),nF h4] (hI _ (oJ h))
  ·obtain rfl:=(hE _ (oJ h):_ = rv)
   exact gr 14 [] [nL T_api_Visit.enc r.visits,bT h1,hH (.draw 13 [(2,11)]),cE T_api_Visit.enc h2,cC (lorryref18_stop_ok h3),nT h4]
 ·exact gn 5 [] [] [nL T_api_Visit.enc r.visits,bF h1] (hE _ (oJ h))
theorem lorryref18_Possible_ok {x0 r} {rv:Bool} (h:lorryref18_Possible x0 r = some rv):AFn Tryz.prog 98 [.agg (T_api_Instance.enc x0),.agg (T_api_Route.enc r)] [] (one (.bool rv)) []:=by
 refine afn_of Tryz.func98 (by kernel_rfl) (by kernel_rfl) (fun Γ=>?_)
 unfold lorryref18_Possible at h
 rcases br_elim h with ⟨h0,h⟩|⟨h0,h⟩
 ·obtain rfl:=Option.some.inj h
  exact gr 8 [] [rp 5 hP,rp 3 (oI ((ltI r.type_ 0) = false)),nL T_api_Type.enc x0.types,rp 13 hP,rp 2 (oI ((ltI r.type_ 0) = false)),oR True ((ltI r.type_ 0) = false),rp 2 (oI (((ltI r.type_ 0) || (geI r.type_ (lenI x0.types))) = false)),oR True (((ltI r.type_ 0) || (geI r.type_ (lenI x0.types))) = false),rp 2 (oI ((((ltI r.type_ 0) || (geI r.type_ (lenI x0.types))) || (ltI r.start 0)) = false)),oR True ((((ltI r.type_ 0) || (geI r.type_ (lenI x0.types))) || (ltI r.start 0)) = false),rp 2 (oI (((((ltI r.type_ 0) || (geI r.type_ (lenI x0.types))) || (ltI r.start 0)) || (gtI r.start 4096)) = false)),nL T_api_Visit.enc r.visits,hP,hP,oI (((((ltI r.type_ 0) || (geI r.type_ (lenI x0.types))) || (ltI r.start 0)) || (gtI r.start 4096)) = false),oR True (((((ltI r.type_ 0) || (geI r.type_ (lenI x0.types))) || (ltI r.start 0)) || (gtI r.start 4096)) = false),bT h0]
 ·obtain ⟨e0,h5,h⟩:=bnd_elim h
  refine gn 12 [2,3,5] [0,1] [rp 5 hP,rp 3 (oI ((ltI r.type_ 0) = false)),nL T_api_Type.enc x0.types,rp 13 hP,rp 2 (oI ((ltI r.type_ 0) = false)),oR True ((ltI r.type_ 0) = false),rp 2 (oI (((ltI r.type_ 0) || (geI r.type_ (lenI x0.types))) = false)),oR True (((ltI r.type_ 0) || (geI r.type_ (lenI x0.types))) = false),rp 2 (oI ((((ltI r.type_ 0) || (geI r.type_ (lenI x0.types))) || (ltI r.start 0)) = false)),oR True ((((ltI r.type_ 0) || (geI r.type_ (lenI x0.types))) || (ltI r.start 0)) = false),rp 2 (oI (((((ltI r.type_ 0) || (geI r.type_ (lenI x0.types))) || (ltI r.start 0)) || (gtI r.start 4096)) = false)),nL T_api_Visit.enc r.visits,hP,hP,oI (((((ltI r.type_ 0) || (geI r.type_ (lenI x0.types))) || (ltI r.start 0)) || (gtI r.start 4096)) = false),oR True (((((ltI r.type_ 0) || (geI r.type_ (lenI x0.types))) || (ltI r.start 0)) || (gtI r.start 4096)) = false),bF h0] (lorryref18_Possible_L1_ok Γ rv h5 ?_)
  rcases e0 with e0|e0
  ·replace h:(some true:Option Bool) = some _:=h
   obtain rfl:=Option.some.inj h
   exact gr 2 [] []
  ·obtain ⟨r2,rfl⟩:∃ x,x = e0:=⟨_,rfl⟩
   replace h:(some r2:Option Bool) = some _:=h
   exact Option.some.inj h
def lorryref18_Rests_G (Γ:Gam) (rv:List Bool) (cf:Cf):Prop:=Go Tryz.prog Tryz.f125 [] Γ (one (lL 1 rv e_bool)) [] cf
def lorryref18_Rests_L1_C (Γ:Gam) (rv:List Bool) (s0:T_api_Sheet) (l:List Bool) (i:Int):Prop:=lorryref18_Rests_G Γ rv ⟨[.c 116,.l 116,.b 0,.c 15],⟨25,[vP 1 0 5,vO 3 1 1 l e_bool,vI 4 i],[oX 5 37 (T_api_Sheet.enc s0),oS 1 4 l e_bool]⟩⟩
def lorryref18_Rests_L1_D0 (Γ:Gam) (rv:List Bool) (s0:T_api_Sheet) (l1:List Bool):Prop:=lorryref18_Rests_G Γ rv ⟨[.c 15],⟨25,[vO 3 0 1 l1 e_bool],[oS 1 4 l1 e_bool]⟩⟩
theorem lorryref18_Rests_L1_ok (Γ:Gam) (rv:List Bool) {s0} {s:List Bool × Int} {e:List Bool} (h:loopF (fun s=>lorryref18_Rests_L1 s0 s.1 s.2) s = some e) (hD:lorryref18_Rests_L1_D0 Γ rv s0 e):lorryref18_Rests_L1_C Γ rv s0 s.1 s.2:=by
 refine loop_ind (C:=fun (s:List Bool × Int)=>lorryref18_Rests_L1_C Γ rv s0 s.1 s.2) (D:=fun (e:List Bool)=>lorryref18_Rests_L1_D0 Γ rv s0 e) ?_ h hD
 clear h hD s e
 rintro ⟨l,i⟩ z_ h hI hE
 replace h:lorryref18_Rests_L1 s0 l i = _:=h
 unfold lorryref18_Rests_L1 at h
 rcases br_elim h with ⟨h0,h⟩|⟨h0,h⟩
 ·obtain ⟨x0,h1,h⟩:=bnd_elim h
  obtain ⟨h2,h⟩:=chk_elim h
  exact gn 11 [1,3,4] [0,3] [nL T_api_Time.enc s0.times,bT h0,cE T_api_Time.enc h1,oO (Eq.refl ([x0.rest_].map e_bool).length),aO e_bool h2] (hI _ (oJ h))
 ·exact gn 5 [3] [1] [nL T_api_Time.enc s0.times,bF h0] (hE _ (oJ h))
theorem lorryref18_Rests_ok {s0} {rv:List Bool} (h:lorryref18_Rests s0 = some rv):AFn Tryz.prog 125 [.agg (T_api_Sheet.enc s0)] [] (one (lL 1 rv e_bool)) []:=by
 refine afn_of Tryz.func125 (by kernel_rfl) (by kernel_rfl) (fun Γ=>?_)
 unfold lorryref18_Rests at h
 obtain ⟨e0,h3,h⟩:=bnd_elim h
 refine gn 9 [1,3,4] [0,1] [] (lorryref18_Rests_L1_ok Γ rv h3 ?_)
 obtain ⟨l1,rfl⟩:∃ x,x = e0:=⟨_,rfl⟩
 replace h:(some l1:Option (List Bool)) = some _:=h
 obtain rfl:=Option.some.inj h
 exact gr 2 [] [hW 4,hH (.frz 0),rp 3 (eL l1 e_bool)]
theorem lorryref18_rest_ok {t s0 yes} {rv:T_lorryref18_state} (h:lorryref18_rest t s0 yes = some rv):AFn Tryz.prog 162 [.agg (T_api_Type.enc t),.agg (T_lorryref18_state.enc s0),.one (.bool yes)] [] (gG [lI rv.place,lI rv.time,lI rv.driven,lI rv.miles]) []:=by
 refine afn_of Tryz.func162 (by kernel_rfl) (by kernel_rfl) (fun Γ=>?_)
 unfold lorryref18_rest at h
 rcases br_elim h with ⟨h0,h⟩|⟨h0,h⟩
 ·obtain rfl:=Option.some.inj h
  exact gr 11 [] [bT h0]
 ·obtain rfl:=Option.some.inj h
  exact gr 9 [] [bF h0]
theorem lorryref09_Place_ok {n p} {rv:Bool} (h:lorryref09_Place n p = some rv):AFn Tryz.prog 164 [.agg (T_api_Network.enc n),.one (lI p)] [] (one (.bool rv)) []:=by
 refine afn_of Tryz.func164 (by kernel_rfl) (by kernel_rfl) (fun Γ=>?_)
 unfold lorryref09_Place at h
 obtain rfl:=Option.some.inj h
 exact gr 4 [] [rp 4 hP,rp 2 (oI ((geI p 0) = true)),nL e_str n.places,hP,hP,rp 2 (oI ((geI p 0) = true)),oR True ((geI p 0) = true)]
def lorryref09_Find_G (Γ:Gam) (rv:T_api_Arc × Bool) (cf:Cf):Prop:=Go Tryz.prog Tryz.f165 [] Γ (.tup [.agg [lI rv.1.from_,lI rv.1.to_,lI rv.1.profile,lI rv.1.miles,lL 2 rv.1.travel T_api_Point.enc,lL 2 rv.1.slow T_api_Point.enc],.one (.bool rv.2)]) [] cf
def lorryref09_Find_L1_C (Γ:Gam) (rv:T_api_Arc × Bool) (n:T_api_Network) (profile:Int) (from_:Int) (to_:Int) (i:Int):Prop:=lorryref09_Find_G Γ rv ⟨[.c 52,.l 52,.b 0,.c 7],⟨42,[vI 1 profile,vI 2 from_,vI 3 to_,vP 4 0 2,vP 8 1 6,vI 10 i],[oX 2 25 (T_api_Network.enc n),oX 6 114 [lI 0,lI 0,lI 0,lI 0,.nils,.nils]]⟩⟩
def lorryref09_Find_L1_D0 (Γ:Gam) (rv:T_api_Arc × Bool) (n:T_api_Network) (profile:Int) (from_:Int) (to_:Int):Prop:=lorryref09_Find_G Γ rv ⟨[.c 7],⟨42,[vP 8 0 6],[oX 6 114 [lI 0,lI 0,lI 0,lI 0,.nils,.nils]]⟩⟩
theorem lorryref09_Find_L1_ok (Γ:Gam) (rv:T_api_Arc × Bool) {n profile from_ to_} {s:Int} {e:(Unit) ⊕ (T_api_Arc × Bool)} (h:loopF (fun s=>lorryref09_Find_L1 n profile from_ to_ s) s = some e) (hD:sel e (fun e=>lorryref09_Find_L1_D0 Γ rv n profile from_ to_) (fun e=>e = rv)):lorryref09_Find_L1_C Γ rv n profile from_ to_ s:=by
 refine loop_ind (C:=fun (s:Int)=>lorryref09_Find_L1_C Γ rv n profile from_ to_ s) (D:=fun (e:(Unit) ⊕ (T_api_Arc × Bool))=>sel e (fun e=>lorryref09_Find_L1_D0 Γ rv n profile from_ to_) (fun e=>e = rv)) ?_ h hD
 clear h hD s e
 intro i z_ h hI hE
 replace h:lorryref09_Find_L1 n profile from_ to_ i = _:=h
 unfold lorryref09_Find_L1 at h
 rcases br_elim h with ⟨h0,h⟩|⟨h0,h⟩
 ·obtain ⟨x0,h1,h⟩:=bnd_elim h
  rcases br_elim h with ⟨h2,h⟩|⟨h2,h⟩
  ·obtain rfl:=(hE _ (oJ h):_ = rv)
   exact gr 14 [] [nL T_api_Arc.enc n.arcs,bT h0,cE T_api_Arc.enc h1,rp 10 hP,rp 3 (oI ((eqI x0.from_ from_) = true)),oR True ((eqI x0.from_ from_) = true),rp 3 (oI (((eqI x0.from_ from_) && (eqI x0.to_ to_)) = true)),oR True (((eqI x0.from_ from_) && (eqI x0.to_ to_)) = true),bT h2]
  ·exact gn 16 [1,2,3,4,8,10] [0,1] [nL T_api_Arc.enc n.arcs,bT h0,cE T_api_Arc.enc h1,rp 10 hP,rp 3 (oI ((eqI x0.from_ from_) = true)),oR True ((eqI x0.from_ from_) = true),rp 3 (oI (((eqI x0.from_ from_) && (eqI x0.to_ to_)) = true)),oR True (((eqI x0.from_ from_) && (eqI x0.to_ to_)) = true),bF h2] (hI _ (oJ h))
 ·exact gn 5 [8] [1] [nL T_api_Arc.enc n.arcs,bF h0] (hE _ (oJ h))
theorem lorryref09_Find_ok {n profile from_ to_} {rv:T_api_Arc × Bool} (h:lorryref09_Find n profile from_ to_ = some rv):AFn Tryz.prog 165 [.agg (T_api_Network.enc n),.one (lI profile),.one (lI from_),.one (lI to_)] [] (.tup [.agg [lI rv.1.from_,lI rv.1.to_,lI rv.1.profile,lI rv.1.miles,lL 2 rv.1.travel T_api_Point.enc,lL 2 rv.1.slow T_api_Point.enc],.one (.bool rv.2)]) []:=by
 refine afn_of Tryz.func165 (by kernel_rfl) (by kernel_rfl) (fun Γ=>?_)
 unfold lorryref09_Find at h
 obtain ⟨e0,h3,h⟩:=bnd_elim h
 refine gn 7 [1,2,3,4,8,10] [0,1] [] (lorryref09_Find_L1_ok Γ rv h3 ?_)
 rcases e0 with e0|e0
 ·replace h:(some ((T_api_Arc.mk 0 0 0 0 [] []),false):Option (T_api_Arc × Bool)) = some _:=h
  obtain rfl:=Option.some.inj h
  exact gr 2 [] [hW 5,hH (.nilB 0 4 2),hH (.nilB 0 5 2)]
 ·obtain ⟨r,rfl⟩:∃ x,x = e0:=⟨_,rfl⟩
  replace h:(some r:Option (T_api_Arc × Bool)) = some _:=h
  exact Option.some.inj h
def lorryref07_Arrive_G (Γ:Gam) (rv:Int) (cf:Cf):Prop:=Go Tryz.prog Tryz.f177 [] Γ (one (lI rv)) [] cf
def lorryref07_Arrive_L1_C (Γ:Gam) (rv:Int) (l:List T_api_Point) (t:Int) (i:Int):Prop:=lorryref07_Arrive_G Γ rv ⟨[.c 116,.l 116,.b 0,.c 15],⟨93,[vL 0 2 l T_api_Point.enc,vI 1 t,vI 5 i],[]⟩⟩
def lorryref07_Arrive_L1_D0 (Γ:Gam) (rv:Int) (l:List T_api_Point) (t:Int):Prop:=lorryref07_Arrive_G Γ rv ⟨[.c 15],⟨93,[vL 0 2 l T_api_Point.enc,vI 1 t],[]⟩⟩
theorem lorryref07_Arrive_L1_ok (Γ:Gam) (rv:Int) {l t} {s:Int} {e:(Unit) ⊕ (Int)} (h:loopF (fun s=>lorryref07_Arrive_L1 l t s) s = some e) (hD:sel e (fun e=>lorryref07_Arrive_L1_D0 Γ rv l t) (fun e=>e = rv)):lorryref07_Arrive_L1_C Γ rv l t s:=by
 refine loop_ind (C:=fun (s:Int)=>lorryref07_Arrive_L1_C Γ rv l t s) (D:=fun (e:(Unit) ⊕ (Int))=>sel e (fun e=>lorryref07_Arrive_L1_D0 Γ rv l t) (fun e=>e = rv)) ?_ h hD
 clear h hD s e
 intro i z_ h hI hE
 replace h:lorryref07_Arrive_L1 l t i = _:=h
 unfold lorryref07_Arrive_L1 at h
 rcases br_elim h with ⟨h2,h⟩|⟨h2,h⟩
 ·obtain ⟨x0,h3,h⟩:=bnd_elim h
  obtain ⟨x1,h4,h⟩:=bnd_elim h
  rcases br_elim h with ⟨h5,h⟩|⟨h5,h⟩
  ·obtain ⟨h6,h⟩:=chk_elim h
   obtain rfl:=(hE _ (oJ h):_ = rv)
   exact gr 16 [] [nL T_api_Point.enc l,bT h2,cE T_api_Point.enc h3,cE T_api_Point.enc h4,rp 5 hP,rp 3 (oI ((leI x0.t t) = true)),oR True ((leI x0.t t) = true),bT h5,hH (.draw 27 []),oO (h6)]
  ·exact gn 18 [0,1,5] [] [nL T_api_Point.enc l,bT h2,cE T_api_Point.enc h3,cE T_api_Point.enc h4,rp 5 hP,rp 3 (oI ((leI x0.t t) = true)),oR True ((leI x0.t t) = true),bF h5] (hI _ (oJ h))
 ·exact gn 5 [0,1] [] [nL T_api_Point.enc l,bF h2] (hE _ (oJ h))
theorem lorryref07_Arrive_ok {l t} {rv:Int} (h:lorryref07_Arrive l t = some rv):AFn Tryz.prog 177 [.one (lL 2 l T_api_Point.enc),.one (lI t)] [] (one (lI rv)) []:=by
 refine afn_of Tryz.func177 (by kernel_rfl) (by kernel_rfl) (fun Γ=>?_)
 unfold lorryref07_Arrive at h
 obtain ⟨r,h0,h⟩:=bnd_elim h
 rcases br_elim h with ⟨h1,h⟩|⟨h1,h⟩
 ·obtain rfl:=Option.some.inj h
  exact gr 8 [] [cC (lorryref07_Check_ok h0),nL T_api_Fault.enc r,rp 6 hP,oI ((gtI (lenI r) 0) = false),oR True ((gtI (lenI r) 0) = false),oI (((gtI (lenI r) 0) || (ltI t 0)) = false),oR True (((gtI (lenI r) 0) || (ltI t 0)) = false),bT h1]
 ·obtain ⟨e0,h7,h⟩:=bnd_elim h
  refine gn 12 [0,1,5] [] [cC (lorryref07_Check_ok h0),nL T_api_Fault.enc r,rp 6 hP,oI ((gtI (lenI r) 0) = false),oR True ((gtI (lenI r) 0) = false),oI (((gtI (lenI r) 0) || (ltI t 0)) = false),oR True (((gtI (lenI r) 0) || (ltI t 0)) = false),bF h1] (lorryref07_Arrive_L1_ok Γ rv h7 ?_)
  rcases e0 with e0|e0
  ·replace h:(bnd (getI l 0) fun x2=>br (gtI t x2.t) (bnd (getI l (subK .i64 (lenI l) 1)) fun x3=>some (subK .i64 (addK .i64 t x3.a) x3.t)) (some (subK .i64 (addK .i64 t x2.a) x2.t)):Option Int) = some _:=h
   obtain ⟨x2,h8,h⟩:=bnd_elim h
   rcases br_elim h with ⟨h9,h⟩|⟨h9,h⟩
   ·obtain ⟨x3,h10,h⟩:=bnd_elim h
    obtain rfl:=Option.some.inj h
    exact gr 9 [] [cE T_api_Point.enc h8,bT h9,nL T_api_Point.enc l,cE T_api_Point.enc h10]
   ·obtain rfl:=Option.some.inj h
    exact gr 9 [] [cE T_api_Point.enc h8,bF h9]
  ·obtain ⟨r1,rfl⟩:∃ x,x = e0:=⟨_,rfl⟩
   replace h:(some r1:Option Int) = some _:=h
   exact Option.some.inj h
def lorryref09_Arrive_G (Γ:Gam) (rv:Int) (cf:Cf):Prop:=Go Tryz.prog Tryz.f166 [] Γ (one (lI rv)) [] cf
def lorryref09_Arrive_L1_C (Γ:Gam) (rv:Int) (a:T_api_Arc) (t:Int) (n:Int) (i:Int):Prop:=lorryref09_Arrive_G Γ rv ⟨[.c 116,.l 116,.b 0,.c 15],⟨35,[vI 1 t,vP 2 0 6,vI 5 n,vI 6 i],[oX 6 114 (T_api_Arc.enc a)]⟩⟩
def lorryref09_Arrive_L1_D0 (Γ:Gam) (rv:Int) (a:T_api_Arc) (t:Int) (n1:Int):Prop:=lorryref09_Arrive_G Γ rv ⟨[.c 15],⟨35,[vI 5 n1],[]⟩⟩
theorem lorryref09_Arrive_L1_ok (Γ:Gam) (rv:Int) {a t} {s:Int × Int} {e:Int} (h:loopF (fun s=>lorryref09_Arrive_L1 a t s.1 s.2) s = some e) (hD:lorryref09_Arrive_L1_D0 Γ rv a t e):lorryref09_Arrive_L1_C Γ rv a t s.1 s.2:=by
 refine loop_ind (C:=fun (s:Int × Int)=>lorryref09_Arrive_L1_C Γ rv a t s.1 s.2) (D:=fun (e:Int)=>lorryref09_Arrive_L1_D0 Γ rv a t e) ?_ h hD
 clear h hD s e
 rintro ⟨n,i⟩ z_ h hI hE
 replace h:lorryref09_Arrive_L1 a t n i = _:=h
 unfold lorryref09_Arrive_L1 at h
 rcases br_elim h with ⟨h1,h⟩|⟨h1,h⟩
 ·obtain ⟨x0,h2,h⟩:=bnd_elim h
  rcases br_elim h with ⟨h3,h⟩|⟨h3,h⟩
  ·exact gn 14 [1,2,5,6] [0] [nL T_api_Point.enc a.slow,bT h1,cE T_api_Point.enc h2,bT h3,cE T_api_Point.enc h2] (hI _ (oJ h))
  ·exact gn 14 [1,2,5,6] [0] [nL T_api_Point.enc a.slow,bT h1,cE T_api_Point.enc h2,bF h3] (hI _ (oJ h))
 ·exact gn 5 [5] [] [nL T_api_Point.enc a.slow,bF h1] (hE _ (oJ h))
theorem lorryref09_Arrive_ok {a t} {rv:Int} (h:lorryref09_Arrive a t = some rv):AFn Tryz.prog 166 [.agg (T_api_Arc.enc a),.one (lI t)] [] (one (lI rv)) []:=by
 refine afn_of Tryz.func166 (by kernel_rfl) (by kernel_rfl) (fun Γ=>?_)
 unfold lorryref09_Arrive at h
 obtain ⟨r,h0,h⟩:=bnd_elim h
 obtain ⟨e0,h4,h⟩:=bnd_elim h
 refine gn 9 [1,2,5,6] [0] [cC (lorryref07_Arrive_ok h0)] (lorryref09_Arrive_L1_ok Γ rv h4 ?_)
 obtain ⟨n1,rfl⟩:∃ x,x = e0:=⟨_,rfl⟩
 replace h:(some n1:Option Int) = some _:=h
 obtain rfl:=Option.some.inj h
 exact gr 2 [] []
theorem lorryref09_Go_ok {n profile from_ to_ t} {rv:Int × Int × Int} (h:lorryref09_Go n profile from_ to_ t = some rv):AFn Tryz.prog 130 [.agg (T_api_Network.enc n),.one (lI profile),.one (lI from_),.one (lI to_),.one (lI t)] [] (.tup [.one (lI rv.1),.one (lI rv.2.1),.one (lI rv.2.2)]) []:=by
 refine afn_of Tryz.func130 (by kernel_rfl) (by kernel_rfl) (fun Γ=>?_)
 unfold lorryref09_Go at h
 obtain ⟨r,h0,h⟩:=bnd_elim h
 rcases br_elim h with ⟨h1,h⟩|⟨h1,h⟩
 ·obtain ⟨r1,h2,h⟩:=bnd_elim h
  rcases br_elim h with ⟨h3,h⟩|⟨h3,h⟩
  ·rcases br_elim h with ⟨h4,h⟩|⟨h4,h⟩
   ·obtain rfl:=Option.some.inj h
    exact gr 13 [] [cC (lorryref09_Place_ok h0),rp 3 (nF h1),cC (lorryref09_Place_ok h2),nF h1,nF h1,nF h3,bT h4]
   ·obtain ⟨r2,h5,h⟩:=bnd_elim h
    rcases br_elim h with ⟨h6,h⟩|⟨h6,h⟩
    ·obtain ⟨r3,h7,h⟩:=bnd_elim h
     obtain rfl:=Option.some.inj h
     exact gr 21 [] [cC (lorryref09_Place_ok h0),rp 3 (nF h1),cC (lorryref09_Place_ok h2),nF h1,nF h1,nF h3,bF h4,cC (lorryref09_Find_ok h5),nF h6,hH (.draw 8 []),cC (lorryref09_Arrive_ok h7)]
    ·obtain rfl:=Option.some.inj h
     exact gr 20 [] [cC (lorryref09_Place_ok h0),rp 3 (nF h1),cC (lorryref09_Place_ok h2),nF h1,nF h1,nF h3,bF h4,cC (lorryref09_Find_ok h5),nT h6]
  ·obtain rfl:=Option.some.inj h
   exact gr 8 [] [cC (lorryref09_Place_ok h0),rp 3 (nF h1),cC (lorryref09_Place_ok h2),nF h1,nF h1,nT h3]
 ·obtain rfl:=Option.some.inj h
  exact gr 8 [] [cC (lorryref09_Place_ok h0),rp 5 (nT h1),tT]
theorem lorryref18_Way_ok {x0 profile from_ to_ t} {rv:Int × Int × Bool} (h:lorryref18_Way x0 profile from_ to_ t = some rv):AFn Tryz.prog 176 [.agg (T_api_Instance.enc x0),.one (lI profile),.one (lI from_),.one (lI to_),.one (lI t)] [] (.tup [.one (lI rv.1),.one (lI rv.2.1),.one (.bool rv.2.2)]) []:=by
 refine afn_of Tryz.func176 (by kernel_rfl) (by kernel_rfl) (fun Γ=>?_)
 unfold lorryref18_Way at h
 obtain ⟨r,h0,h⟩:=bnd_elim h
 obtain rfl:=Option.some.inj h
 exact gr 6 [] [cC (lorryref09_Go_ok h0)]
theorem lorryref18_step_ok {x0 t s0 to_ close late} {rv:T_lorryref18_state × Int} (h:lorryref18_step x0 t s0 to_ close late = some rv):AFn Tryz.prog 163 [.agg (T_api_Instance.enc x0),.agg (T_api_Type.enc t),.agg (T_lorryref18_state.enc s0),.one (lI to_),.one (lI close),.one (lI late)] [] (.tup [.agg [lI rv.1.place,lI rv.1.time,lI rv.1.driven,lI rv.1.miles],.one (lI rv.2)]) []:=by
 refine afn_of Tryz.func163 (by kernel_rfl) (by kernel_rfl) (fun Γ=>?_)
 unfold lorryref18_step at h
 obtain ⟨r,h0,h⟩:=bnd_elim h
 rcases br_elim h with ⟨h1,h⟩|⟨h1,h⟩
 ·rcases br_elim h with ⟨h2,h⟩|⟨h2,h⟩
  ·obtain rfl:=Option.some.inj h
   exact gr 15 [] [cC (lorryref18_Way_ok h0),nF h1,bT h2]
  ·rcases br_elim h with ⟨h3,h⟩|⟨h3,h⟩
   ·obtain rfl:=Option.some.inj h
    exact gr 22 [] [cC (lorryref18_Way_ok h0),nF h1,bF h2,bT h3]
   ·obtain rfl:=Option.some.inj h
    exact gr 23 [] [cC (lorryref18_Way_ok h0),nF h1,bF h2,bF h3]
 ·obtain rfl:=Option.some.inj h
  exact gr 10 [] [cC (lorryref18_Way_ok h0),nT h1]
def lorryref18_run_G (Γ:Gam) (rv:T_api_Sheet × List Int × Int) (cf:Cf):Prop:=Go Tryz.prog Tryz.f126 [] Γ (.tup [.agg [.bool rv.1.rest_,lI rv.1.depart,lL 4 rv.1.times T_api_Time.enc,lI rv.1.end_,lI rv.1.miles],.one (lL 1 rv.2.1 e_i64),.one (lI rv.2.2)]) [] cf
def lorryref18_run_L1_C (Γ:Gam) (rv:T_api_Sheet × List Int × Int) (x0:T_api_Instance) (r:T_api_Route) (rests:List Bool) (x1:T_api_Type) (x2:Bool) (l:List Int) (l1:List T_api_Time) (x3:T_lorryref18_state) (depart:Int) (i:Int):Prop:=lorryref18_run_G Γ rv ⟨[.c 2036,.l 2036,.b 0,.c 255],⟨161,[vL 2 1 rests e_bool,vP 3 0 6,vP 4 1 4,vP 6 2 5,vP 9 3 14,vP 10 4 4,vP 11 5 5,vO 12 6 1 l e_i64,vI 13 i],[oX 6 30 (T_api_Instance.enc x0),oX 4 34 (T_api_Route.enc r),oX 5 37 [.bool false,lI 0,.nils,lI 0,lI 0],oX 14 64 (T_api_Type.enc x1),oX 4 202 (T_lorryref18_state.enc x3),oX 5 37 [.bool x2,lI depart,lO 7 4 l1 T_api_Time.enc,lI 0,lI 0],oS 1 3 l e_i64,oS 4 60 l1 T_api_Time.enc]⟩⟩
def lorryref18_run_L1_D0 (Γ:Gam) (rv:T_api_Sheet × List Int × Int) (x0:T_api_Instance) (r:T_api_Route) (rests:List Bool) (x1:T_api_Type) (x2:Bool) (l2:List Int) (l3:List T_api_Time) (x6:T_lorryref18_state) (depart1:Int):Prop:=lorryref18_run_G Γ rv ⟨[.c 255],⟨161,[vP 3 0 6,vP 6 1 5,vP 9 2 14,vP 10 3 4,vP 11 4 5,vO 12 5 1 l2 e_i64],[oX 6 30 (T_api_Instance.enc x0),oX 5 37 [.bool false,lI 0,.nils,lI 0,lI 0],oX 14 64 (T_api_Type.enc x1),oX 4 202 (T_lorryref18_state.enc x6),oX 5 37 [.bool x2,lI depart1,lO 6 4 l3 T_api_Time.enc,lI 0,lI 0],oS 1 3 l2 e_i64,oS 4 60 l3 T_api_Time.enc]⟩⟩
theorem lorryref18_run_L1_ok (Γ:Gam) (rv:T_api_Sheet × List Int × Int) {x0 r rests x1 x2} {s:List Int × List T_api_Time × T_lorryref18_state × Int × Int} {e:(List Int × List T_api_Time × T_lorryref18_state × Int) ⊕ (T_api_Sheet × List Int × Int)} (h:loopF (fun s=>lorryref18_run_L1 x0 r rests x1 x2 s.1 s.2.1 s.2.2.1 s.2.2.2.1 s.2.2.2.2) s = some e) (hD:sel e (fun e=>lorryref18_run_L1_D0 Γ rv x0 r rests x1 x2 e.1 e.2.1 e.2.2.1 e.2.2.2) (fun e=>e = rv)):lorryref18_run_L1_C Γ rv x0 r rests x1 x2 s.1 s.2.1 s.2.2.1 s.2.2.2.1 s.2.2.2.2:=by
 refine loop_ind (C:=fun (s:List Int × List T_api_Time × T_lorryref18_state × Int × Int)=>lorryref18_run_L1_C Γ rv x0 r rests x1 x2 s.1 s.2.1 s.2.2.1 s.2.2.2.1 s.2.2.2.2) (D:=fun (e:(List Int × List T_api_Time × T_lorryref18_state × Int) ⊕ (T_api_Sheet × List Int × Int))=>sel e (fun e=>lorryref18_run_L1_D0 Γ rv x0 r rests x1 x2 e.1 e.2.1 e.2.2.1 e.2.2.2) (fun e=>e = rv)) ?_ h hD
 clear h hD s e
 rintro ⟨l,l1,x3,depart,i⟩ z_ h hI hE
 replace h:lorryref18_run_L1 x0 r rests x1 x2 l l1 x3 depart i = _:=h
 unfold lorryref18_run_L1 at h
 rcases br_elim h with ⟨h5,h⟩|⟨h5,h⟩
 ·obtain ⟨x4,h6,h⟩:=bnd_elim h
  obtain ⟨r3,h7,h⟩:=bnd_elim h
  obtain ⟨r4,h8,h⟩:=bnd_elim h
  rcases br_elim h with ⟨h9,h⟩|⟨h9,h⟩
  ·obtain rfl:=(hE _ (oJ h):_ = rv)
   exact gr 17 [] [nL T_api_Visit.enc r.visits,bT h5,hH (.draw 13 [(8,11)]),cE T_api_Visit.enc h6,cC (lorryref18_stop_ok h7),cC (lorryref18_step_ok h8),bT h9,hW 7,hH (.nilB 2 2 4),hH (.nilS 7 0 1)]
  ·obtain ⟨h10,h⟩:=chk_elim h
   obtain ⟨x5,h11,h⟩:=bnd_elim h
   obtain ⟨r5,h12,h⟩:=bnd_elim h
   obtain ⟨h13,h⟩:=chk_elim h
   exact gn 30 [2,3,4,6,9,10,11,12,13] [0,1,2,3,4,5,11,14] [nL T_api_Visit.enc r.visits,bT h5,hH (.draw 13 [(8,11)]),cE T_api_Visit.enc h6,cC (lorryref18_stop_ok h7),cC (lorryref18_step_ok h8),bF h9,oO (Eq.refl ([r4.1.driven].map e_i64).length),aO e_i64 h10,hH (.draw 14 []),cE e_bool h11,hH (.draw 8 []),cE e_bool h11,cC (lorryref18_rest_ok h12),oO (Eq.refl ([(T_api_Time.mk r4.1.time (maxI r4.1.time r3.1.open_) r5.time x5)].map T_api_Time.enc).length),aO T_api_Time.enc h13] (hI _ (oJ h))
 ·exact gn 5 [3,6,9,10,11,12] [0,2,3,4,5,6,7] [nL T_api_Visit.enc r.visits,bF h5] (hE _ (oJ h))
theorem lorryref18_run_ok {x0 r rests} {rv:T_api_Sheet × List Int × Int} (h:lorryref18_run x0 r rests = some rv):AFn Tryz.prog 126 [.agg (T_api_Instance.enc x0),.agg (T_api_Route.enc r),.one (lL 1 rests e_bool)] [] (.tup [.agg [.bool rv.1.rest_,lI rv.1.depart,lL 4 rv.1.times T_api_Time.enc,lI rv.1.end_,lI rv.1.miles],.one (lL 1 rv.2.1 e_i64),.one (lI rv.2.2)]) []:=by
 refine afn_of Tryz.func126 (by kernel_rfl) (by kernel_rfl) (fun Γ=>?_)
 unfold lorryref18_run at h
 obtain ⟨r1,h0,h⟩:=bnd_elim h
 rcases br_elim h with ⟨h1,h⟩|⟨h1,h⟩
 ·obtain rfl:=Option.some.inj h
  exact gr 8 [] [cC (lorryref18_Possible_ok h0),hP,hP,oI ((!r1) = false),nL e_bool rests,hP,hP,hP,rp 2 (oI ((!r1) = false)),nL T_api_Visit.enc r.visits,hP,hP,hP,rp 3 (oI ((!r1) = false)),oR True ((!r1) = false),bT h1,hW 6,hH (.nilB 2 2 4),hH (.nilS 7 0 1)]
 ·obtain ⟨x1,h2,h⟩:=bnd_elim h
  obtain ⟨x2,h3,h⟩:=bnd_elim h
  obtain ⟨r2,h4,h⟩:=bnd_elim h
  obtain ⟨e0,h14,h⟩:=bnd_elim h
  refine gn 20 [2,3,4,6,9,10,11,12,13] [0,1,2,3,4,5,6,7] [cC (lorryref18_Possible_ok h0),hP,hP,oI ((!r1) = false),nL e_bool rests,hP,hP,hP,rp 2 (oI ((!r1) = false)),nL T_api_Visit.enc r.visits,hP,hP,hP,rp 3 (oI ((!r1) = false)),oR True ((!r1) = false),bF h1,cE T_api_Type.enc h2,hH (.draw 14 []),cE e_bool h3,cC (lorryref18_rest_ok h4),hH (.draw 7 []),cE e_bool h3,hW 10,hH (.adopt 12 1 3),hH (.adoptB 5 2 4 60)] (lorryref18_run_L1_ok Γ rv h14 ?_)
  rcases e0 with e0|e0
  ·obtain ⟨l2,l3,x6,depart1⟩:=e0
   replace h:(bnd (lorryref18_step x0 x1 x6 x1.to_ x1.close 15) fun r6=>br (neI r6.2 0) (some ((T_api_Sheet.mk false 0 [] 0 0),[],r6.2)) (chk (okN (l2 ++ [r6.1.driven]).length 8) (some ((T_api_Sheet.mk x2 depart1 l3 r6.1.time r6.1.miles),(l2 ++ [r6.1.driven]),0))):Option (T_api_Sheet × List Int × Int)) = some _:=h
   obtain ⟨r6,h15,h⟩:=bnd_elim h
   rcases br_elim h with ⟨h16,h⟩|⟨h16,h⟩
   ·obtain rfl:=Option.some.inj h
    exact gr 8 [] [cC (lorryref18_step_ok h15),bT h16,hW 7,hH (.nilB 1 2 4),hH (.nilS 7 0 1)]
   ·obtain ⟨h17,h⟩:=chk_elim h
    obtain rfl:=Option.some.inj h
    exact gr 15 [] [cC (lorryref18_step_ok h15),bF h16,oO (Eq.refl ([r6.1.driven].map e_i64).length),aO e_i64 h17,hW 20,hH (.frz 6),hH (.frz 9),rp 3 (eL l3 T_api_Time.enc),rp 4 (oO (Eq.refl ((l2 ++ [r6.1.driven]).map e_i64).length))]
  ·obtain ⟨r7,rfl⟩:∃ x,x = e0:=⟨_,rfl⟩
   replace h:(some r7:Option (T_api_Sheet × List Int × Int)) = some _:=h
   exact Option.some.inj h
def lorryref18_check_G (Γ:Gam) (rv:List Int × Int) (cf:Cf):Prop:=Go Tryz.prog Tryz.f77 [] Γ (.tup [.one (lL 1 rv.1 e_i64),.one (lI rv.2)]) [] cf
def lorryref18_check_L1_C (Γ:Gam) (rv:List Int × Int) (x0:T_api_Instance) (r:T_api_Route) (s0:T_api_Sheet) (r2:List Bool) (i:Int):Prop:=lorryref18_check_G Γ rv ⟨[.c 244,.l 244,.b 0,.c 31],⟨71,[vP 3 0 6,vP 4 1 4,vP 5 2 5,vL 8 1 r2 e_bool,vI 9 i],[oX 6 30 (T_api_Instance.enc x0),oX 4 34 (T_api_Route.enc r),oX 5 37 (T_api_Sheet.enc s0)]⟩⟩
def lorryref18_check_L1_D0 (Γ:Gam) (rv:List Int × Int) (x0:T_api_Instance) (r:T_api_Route) (s0:T_api_Sheet) (r2:List Bool):Prop:=lorryref18_check_G Γ rv ⟨[.c 31],⟨71,[vP 3 0 6,vP 4 1 4,vP 5 2 5,vL 8 1 r2 e_bool],[oX 6 30 (T_api_Instance.enc x0),oX 4 34 (T_api_Route.enc r),oX 5 37 (T_api_Sheet.enc s0)]⟩⟩
theorem lorryref18_check_L1_ok (Γ:Gam) (rv:List Int × Int) {x0 r s0 r2} {s:Int} {e:(Unit) ⊕ (List Int × Int)} (h:loopF (fun s=>lorryref18_check_L1 x0 r s0 r2 s) s = some e) (hD:sel e (fun e=>lorryref18_check_L1_D0 Γ rv x0 r s0 r2) (fun e=>e = rv)):lorryref18_check_L1_C Γ rv x0 r s0 r2 s:=by
 refine loop_ind (C:=fun (s:Int)=>lorryref18_check_L1_C Γ rv x0 r s0 r2 s) (D:=fun (e:(Unit) ⊕ (List Int × Int))=>sel e (fun e=>lorryref18_check_L1_D0 Γ rv x0 r s0 r2) (fun e=>e = rv)) ?_ h hD
 clear h hD s e
 intro i z_ h hI hE
 replace h:lorryref18_check_L1 x0 r s0 r2 i = _:=h
 unfold lorryref18_check_L1 at h
 rcases br_elim h with ⟨h3,h⟩|⟨h3,h⟩
 ·obtain ⟨x1,h4,h⟩:=bnd_elim h
  obtain ⟨x2,h5,h⟩:=bnd_elim h
  rcases br_elim h with ⟨h6,h⟩|⟨h6,h⟩
  ·exact gn 14 [3,4,5,8,9] [0,1,2] [nL e_bool r.rests,bT h3,hH (.draw 10 []),cE e_bool h4,cE e_bool h5,nF h6] (hI _ (oJ h))
  ·obtain rfl:=(hE _ (oJ h):_ = rv)
   exact gr 12 [] [nL e_bool r.rests,bT h3,hH (.draw 10 []),cE e_bool h4,cE e_bool h5,nT h6,hW 4,hH (.nilS 6 0 1)]
 ·exact gn 5 [3,4,5,8] [0,1,2] [nL e_bool r.rests,bF h3] (hE _ (oJ h))
theorem lorryref18_check_ok {x0 r s0} {rv:List Int × Int} (h:lorryref18_check x0 r s0 = some rv):AFn Tryz.prog 77 [.agg (T_api_Instance.enc x0),.agg (T_api_Route.enc r),.agg (T_api_Sheet.enc s0)] [] (.tup [.one (lL 1 rv.1 e_i64),.one (lI rv.2)]) []:=by
 refine afn_of Tryz.func77 (by kernel_rfl) (by kernel_rfl) (fun Γ=>?_)
 unfold lorryref18_check at h
 obtain ⟨r1,h0,h⟩:=bnd_elim h
 rcases br_elim h with ⟨h1,h⟩|⟨h1,h⟩
 ·obtain rfl:=Option.some.inj h
  exact gr 8 [] [cC (lorryref18_Possible_ok h0),hP,hP,hP,rp 2 (oI ((!r1) = false)),nL e_bool r.rests,hP,hP,hP,rp 2 (oI ((!r1) = false)),nL T_api_Visit.enc r.visits,rp 6 hP,rp 3 (oI ((!r1) = false)),oR True ((!r1) = false),rp 2 (oI (((!r1) || (gtI (lenI r.rests) (addK .i64 (lenI r.visits) 1))) = false)),nL T_api_Time.enc s0.times,hP,hP,hP,rp 2 (oI (((!r1) || (gtI (lenI r.rests) (addK .i64 (lenI r.visits) 1))) = false)),nL T_api_Visit.enc r.visits,hP,hP,rp 2 (oI (((!r1) || (gtI (lenI r.rests) (addK .i64 (lenI r.visits) 1))) = false)),oR True (((!r1) || (gtI (lenI r.rests) (addK .i64 (lenI r.visits) 1))) = false),bT h1,hW 4,hH (.nilS 6 0 1)]
 ·obtain ⟨r2,h2,h⟩:=bnd_elim h
  obtain ⟨e0,h7,h⟩:=bnd_elim h
  refine gn 14 [3,4,5,8,9] [0,1,2] [cC (lorryref18_Possible_ok h0),hP,hP,hP,rp 2 (oI ((!r1) = false)),nL e_bool r.rests,hP,hP,hP,rp 2 (oI ((!r1) = false)),nL T_api_Visit.enc r.visits,rp 6 hP,rp 3 (oI ((!r1) = false)),oR True ((!r1) = false),rp 2 (oI (((!r1) || (gtI (lenI r.rests) (addK .i64 (lenI r.visits) 1))) = false)),nL T_api_Time.enc s0.times,hP,hP,hP,rp 2 (oI (((!r1) || (gtI (lenI r.rests) (addK .i64 (lenI r.visits) 1))) = false)),nL T_api_Visit.enc r.visits,hP,hP,rp 2 (oI (((!r1) || (gtI (lenI r.rests) (addK .i64 (lenI r.visits) 1))) = false)),oR True (((!r1) || (gtI (lenI r.rests) (addK .i64 (lenI r.visits) 1))) = false),bF h1,cC (lorryref18_Rests_ok h2)] (lorryref18_check_L1_ok Γ rv h7 ?_)
  rcases e0 with e0|e0
  ·replace h:(bnd (lorryref18_run x0 r r2) fun r3=>br (neI r3.2.2 0) (some ([],r3.2.2)) (bnd (lorryref18_Same s0 r3.1) fun r4=>br r4 (some (r3.2.1,0)) (some ([],9))):Option (List Int × Int)) = some _:=h
   obtain ⟨r3,h8,h⟩:=bnd_elim h
   rcases br_elim h with ⟨h9,h⟩|⟨h9,h⟩
   ·obtain rfl:=Option.some.inj h
    exact gr 8 [] [cC (lorryref18_run_ok h8),bT h9,hW 5,hH (.nilS 6 0 1)]
   ·obtain ⟨r4,h10,h⟩:=bnd_elim h
    rcases br_elim h with ⟨h11,h⟩|⟨h11,h⟩
    ·obtain rfl:=Option.some.inj h
     exact gr 14 [] [cC (lorryref18_run_ok h8),bF h9,cC (lorryref18_Same_ok h10),nF h11]
    ·obtain rfl:=Option.some.inj h
     exact gr 13 [] [cC (lorryref18_run_ok h8),bF h9,cC (lorryref18_Same_ok h10),nT h11,hW 4,hH (.nilS 6 0 1)]
  ·obtain ⟨r5,rfl⟩:∃ x,x = e0:=⟨_,rfl⟩
   replace h:(some r5:Option (List Int × Int)) = some _:=h
   exact Option.some.inj h
theorem lorryref18_Valid_ok {x0 r s0} {rv:Int} (h:lorryref18_Valid x0 r s0 = some rv):AFn Tryz.prog 40 [.agg (T_api_Instance.enc x0),.agg (T_api_Route.enc r),.agg (T_api_Sheet.enc s0)] [] (one (lI rv)) []:=by
 refine afn_of Tryz.func40 (by kernel_rfl) (by kernel_rfl) (fun Γ=>?_)
 unfold lorryref18_Valid at h
 obtain ⟨r1,h0,h⟩:=bnd_elim h
 obtain rfl:=Option.some.inj h
 exact gr 6 [] [cC (lorryref18_check_ok h0)]
def lorryref11_Stop_G (Γ:Gam) (rv:T_api_Stop × Int) (cf:Cf):Prop:=Go Tryz.prog Tryz.f128 [] Γ (.tup [.agg [lI rv.1.place,lI rv.1.open_,lI rv.1.close,lI rv.1.service],.one (lI rv.2)]) [] cf
theorem lorryref11_Stop_J1_ok (Γ:Gam) (rv:T_api_Stop × Int) {x1} (h:lorryref11_Stop_J1 x1 = some rv):lorryref11_Stop_G Γ rv ⟨[.c 31],⟨34,[vP 4 0 4,vP 6 1 4],[oX 4 69 [lI 0,lI 0,lI 0,lI 0],oX 4 69 (T_api_Stop.enc x1)]⟩⟩:=by
 unfold lorryref11_Stop_J1 at h
 rcases br_elim h with ⟨h4,h⟩|⟨h4,h⟩
 ·obtain rfl:=Option.some.inj h
  exact gr 6 [] [bT h4]
 ·obtain rfl:=Option.some.inj h
  exact gr 7 [] [bF h4]
theorem lorryref11_Stop_ok {l v} {rv:T_api_Stop × Int} (h:lorryref11_Stop l v = some rv):AFn Tryz.prog 128 [.one (lL 16 l T_api_Order.enc),.agg (T_api_Visit.enc v)] [] (.tup [.agg [lI rv.1.place,lI rv.1.open_,lI rv.1.close,lI rv.1.service],.one (lI rv.2)]) []:=by
 refine afn_of Tryz.func128 (by kernel_rfl) (by kernel_rfl) (fun Γ=>?_)
 unfold lorryref11_Stop at h
 obtain ⟨r,h0,h⟩:=bnd_elim h
 rcases br_elim h with ⟨h1,h⟩|⟨h1,h⟩
 ·obtain ⟨x0,h2,h⟩:=bnd_elim h
  rcases br_elim h with ⟨h3,h⟩|⟨h3,h⟩
  ·exact gn 14 [4,6] [1,2] [nL T_api_Order.enc l,cC (lorryref11_in_ok h0),nF h1,cE T_api_Order.enc h2,bT h3,cE T_api_Order.enc h2] (lorryref11_Stop_J1_ok Γ rv h)
  ·exact gn 14 [4,6] [1,2] [nL T_api_Order.enc l,cC (lorryref11_in_ok h0),nF h1,cE T_api_Order.enc h2,bF h3] (lorryref11_Stop_J1_ok Γ rv h)
 ·obtain rfl:=Option.some.inj h
  exact gr 8 [] [nL T_api_Order.enc l,cC (lorryref11_in_ok h0),nT h1]
theorem lorryref19_place_ok {x0 v} {rv:Int} (h:lorryref19_place x0 v = some rv):AFn Tryz.prog 127 [.agg (T_api_Instance.enc x0),.agg (T_api_Visit.enc v)] [] (one (lI rv)) []:=by
 refine afn_of Tryz.func127 (by kernel_rfl) (by kernel_rfl) (fun Γ=>?_)
 unfold lorryref19_place at h
 obtain ⟨r,h0,h⟩:=bnd_elim h
 obtain rfl:=Option.some.inj h
 exact gr 6 [] [cC (lorryref11_Stop_ok h0)]
def lorryref19_ahead_G (Γ:Gam) (rv:T_lorryref19_state) (cf:Cf):Prop:=Go Tryz.prog Tryz.f78 [] Γ (gG [lI rv.place,lI rv.depart,lI rv.since]) [] cf
def lorryref19_ahead_L1_C (Γ:Gam) (rv:T_lorryref19_state) (x0:T_api_Instance) (r:T_api_Route) (s0:T_api_Sheet) (at_:Int) (depart:Int) (place:Int) (depart1:Int) (since:Int) (i:Int):Prop:=lorryref19_ahead_G Γ rv ⟨[.c 244,.l 244,.b 0,.c 31],⟨64,[vI 3 at_,vP 4 0 6,vP 5 1 4,vP 6 2 5,vP 8 3 3,vP 10 4 3,vI 11 i],[oX 6 30 (T_api_Instance.enc x0),oX 4 34 (T_api_Route.enc r),oX 5 37 [.bool s0.rest_,lI depart,lL 4 s0.times T_api_Time.enc,lI s0.end_,lI s0.miles],oX 3 125 [lI 0,lI 0,lI 0],oX 3 125 [lI place,lI depart1,lI since]]⟩⟩
def lorryref19_ahead_L1_D0 (Γ:Gam) (rv:T_lorryref19_state) (x0:T_api_Instance) (r:T_api_Route) (s0:T_api_Sheet) (at_:Int) (place1:Int) (depart2:Int) (since2:Int):Prop:=lorryref19_ahead_G Γ rv ⟨[.c 31],⟨64,[vP 8 0 3,vP 10 1 3],[oX 3 125 [lI 0,lI 0,lI 0],oX 3 125 [lI place1,lI depart2,lI since2]]⟩⟩
theorem lorryref19_ahead_J1_ok (Γ:Gam) (rv:T_lorryref19_state) {x0 r s0 at_ depart place depart1 i since1} {x:(Int × Int × Int × Int × Int) ⊕ (Int × Int × Int)} (h:lorryref19_ahead_J1 x0 r s0 at_ depart place depart1 i since1 = some x) (hI:∀ s:Int × Int × Int × Int × Int,x = .inl s→lorryref19_ahead_L1_C Γ rv x0 r s0 at_ s.1 s.2.1 s.2.2.1 s.2.2.2.1 s.2.2.2.2) (hE:∀ e:Int × Int × Int,x = .inr e→lorryref19_ahead_L1_D0 Γ rv x0 r s0 at_ e.1 e.2.1 e.2.2):lorryref19_ahead_G Γ rv ⟨[.c 7827,.b 1,.c 979,.l 244,.b 0,.c 31],⟨64,[vI 3 at_,vP 4 0 6,vP 5 1 4,vP 6 2 5,vP 8 3 3,vP 10 4 3,vI 11 i],[oX 6 30 (T_api_Instance.enc x0),oX 4 34 (T_api_Route.enc r),oX 5 37 [.bool s0.rest_,lI depart,lL 4 s0.times T_api_Time.enc,lI s0.end_,lI s0.miles],oX 3 125 [lI 0,lI 0,lI 0],oX 3 125 [lI place,lI depart1,lI since1]]⟩⟩:=by
 unfold lorryref19_ahead_J1 at h
 obtain ⟨x3,h4,h⟩:=bnd_elim h
 obtain ⟨r1,h5,h⟩:=bnd_elim h
 obtain ⟨x4,h6,h⟩:=bnd_elim h
 exact gn 6 [3,4,5,6,8,10,11] [0,1,2,3,4] [hH (.draw 8 []),cE T_api_Visit.enc h4,cC (lorryref19_place_ok h5),cE T_api_Time.enc h6] (hI _ (oJ h))
theorem lorryref19_ahead_L1_ok (Γ:Gam) (rv:T_lorryref19_state) {x0 r s0 at_} {s:Int × Int × Int × Int × Int} {e:Int × Int × Int} (h:loopF (fun s=>lorryref19_ahead_L1 x0 r s0 at_ s.1 s.2.1 s.2.2.1 s.2.2.2.1 s.2.2.2.2) s = some e) (hD:lorryref19_ahead_L1_D0 Γ rv x0 r s0 at_ e.1 e.2.1 e.2.2):lorryref19_ahead_L1_C Γ rv x0 r s0 at_ s.1 s.2.1 s.2.2.1 s.2.2.2.1 s.2.2.2.2:=by
 refine loop_ind (C:=fun (s:Int × Int × Int × Int × Int)=>lorryref19_ahead_L1_C Γ rv x0 r s0 at_ s.1 s.2.1 s.2.2.1 s.2.2.2.1 s.2.2.2.2) (D:=fun (e:Int × Int × Int)=>lorryref19_ahead_L1_D0 Γ rv x0 r s0 at_ e.1 e.2.1 e.2.2) ?_ h hD
 clear h hD s e
 rintro ⟨depart,place,depart1,since,i⟩ z_ h hI hE
 replace h:lorryref19_ahead_L1 x0 r s0 at_ depart place depart1 since i = _:=h
 unfold lorryref19_ahead_L1 at h
 rcases br_elim h with ⟨h1,h⟩|⟨h1,h⟩
 ·obtain ⟨x2,h2,h⟩:=bnd_elim h
  rcases br_elim h with ⟨h3,h⟩|⟨h3,h⟩
  ·exact gn 14 [3,4,5,6,8,10,11] [0,1,2,3,4] [bT h1,hH (.draw 13 []),rp 2 (cE T_api_Time.enc h2),bT h3] (lorryref19_ahead_J1_ok Γ rv h hI hE)
  ·exact gn 14 [3,4,5,6,8,10,11] [0,1,2,3,4] [bT h1,hH (.draw 13 []),rp 2 (cE T_api_Time.enc h2),bF h3] (lorryref19_ahead_J1_ok Γ rv h hI hE)
 ·exact gn 5 [8,10] [3,4] [bF h1] (hE _ (oJ h))
theorem lorryref19_ahead_ok {x0 r s0 at_} {rv:T_lorryref19_state} (h:lorryref19_ahead x0 r s0 at_ = some rv):AFn Tryz.prog 78 [.agg (T_api_Instance.enc x0),.agg (T_api_Route.enc r),.agg (T_api_Sheet.enc s0),.one (lI at_)] [] (gG [lI rv.place,lI rv.depart,lI rv.since]) []:=by
 refine afn_of Tryz.func78 (by kernel_rfl) (by kernel_rfl) (fun Γ=>?_)
 unfold lorryref19_ahead at h
 obtain ⟨x1,h0,h⟩:=bnd_elim h
 obtain ⟨e0,h7,h⟩:=bnd_elim h
 refine gn 11 [3,4,5,6,8,10,11] [0,1,2,3,5] [cE T_api_Type.enc h0] (lorryref19_ahead_L1_ok Γ rv h7 ?_)
 obtain ⟨place1,depart2,since2⟩:=e0
 replace h:(some (T_lorryref19_state.mk place1 depart2 since2):Option T_lorryref19_state) = some _:=h
 obtain rfl:=Option.some.inj h
 exact gr 2 [] []
theorem lorryref08_Begin_ok {s0 arrive} {rv:Int × Int} (h:lorryref08_Begin s0 arrive = some rv):AFn Tryz.prog 129 [.agg (T_api_Stop.enc s0),.one (lI arrive)] [] (.tup [.one (lI rv.1),.one (lI rv.2)]) []:=by
 refine afn_of Tryz.func129 (by kernel_rfl) (by kernel_rfl) (fun Γ=>?_)
 unfold lorryref08_Begin at h
 rcases br_elim h with ⟨h0,h⟩|⟨h0,h⟩
 ·obtain rfl:=Option.some.inj h
  exact gr 8 [] [bT h0]
 ·rcases br_elim h with ⟨h1,h⟩|⟨h1,h⟩
  ·obtain rfl:=Option.some.inj h
   exact gr 13 [] [bF h0,bT h1]
  ·obtain rfl:=Option.some.inj h
   exact gr 14 [] [bF h0,bF h1]
def lorryref19_visited_G (Γ:Gam) (rv:T_api_Time × T_lorryref19_state × Int) (cf:Cf):Prop:=Go Tryz.prog Tryz.f79 [] Γ (.tup [.agg [lI rv.1.arrive,lI rv.1.begin,lI rv.1.depart,.bool rv.1.rest_],.agg [lI rv.2.1.place,lI rv.2.1.depart,lI rv.2.1.since],.one (lI rv.2.2)]) [] cf
theorem lorryref19_visited_J1_ok (Γ:Gam) (rv:T_api_Time × T_lorryref19_state × Int) {s0 at_ arrive r1 r2 since depart} (h:lorryref19_visited_J1 s0 at_ arrive r1 r2 since depart = some rv):lorryref19_visited_G Γ rv ⟨[.c 1023],⟨92,[vI 3 at_,vI 5 arrive,vP 8 0 5,vP 12 1 4,vP 13 2 3,vP 16 3 4,vI 18 r2.1,vI 20 since,vI 21 depart],[oX 5 37 (T_api_Sheet.enc s0),oX 4 60 [lI 0,lI 0,lI 0,.bool false],oX 3 125 [lI 0,lI 0,lI 0],oX 4 69 (T_api_Stop.enc r1.1)]⟩⟩:=by
 unfold lorryref19_visited_J1 at h
 obtain ⟨x4,h8,h⟩:=bnd_elim h
 obtain rfl:=Option.some.inj h
 exact gr 2 [] [hH (.draw 18 [(1,15),(2,16)]),cE T_api_Time.enc h8]
theorem lorryref19_visited_ok {x0 r s0 at_ now arrive} {rv:T_api_Time × T_lorryref19_state × Int} (h:lorryref19_visited x0 r s0 at_ now arrive = some rv):AFn Tryz.prog 79 [.agg (T_api_Instance.enc x0),.agg (T_api_Route.enc r),.agg (T_api_Sheet.enc s0),.one (lI at_),.agg (T_lorryref19_state.enc now),.one (lI arrive)] [] (.tup [.agg [lI rv.1.arrive,lI rv.1.begin,lI rv.1.depart,.bool rv.1.rest_],.agg [lI rv.2.1.place,lI rv.2.1.depart,lI rv.2.1.since],.one (lI rv.2.2)]) []:=by
 refine afn_of Tryz.func79 (by kernel_rfl) (by kernel_rfl) (fun Γ=>?_)
 unfold lorryref19_visited at h
 obtain ⟨x1,h0,h⟩:=bnd_elim h
 obtain ⟨x2,h1,h⟩:=bnd_elim h
 obtain ⟨r1,h2,h⟩:=bnd_elim h
 obtain ⟨r2,h3,h⟩:=bnd_elim h
 rcases br_elim h with ⟨h4,h⟩|⟨h4,h⟩
 ·obtain rfl:=Option.some.inj h
  exact gr 14 [] [cE T_api_Type.enc h0,hH (.draw 14 [(7,12)]),cE T_api_Visit.enc h1,cC (lorryref11_Stop_ok h2),cC (lorryref08_Begin_ok h3),bT h4]
 ·rcases br_elim h with ⟨h5,h⟩|⟨h5,h⟩
  ·obtain rfl:=Option.some.inj h
   exact gr 21 [] [cE T_api_Type.enc h0,hH (.draw 14 [(7,12)]),cE T_api_Visit.enc h1,cC (lorryref11_Stop_ok h2),cC (lorryref08_Begin_ok h3),bF h4,bT h5]
  ·obtain ⟨x3,h6,h⟩:=bnd_elim h
   rcases br_elim h with ⟨h7,h⟩|⟨h7,h⟩
   ·exact gn 29 [3,5,8,12,13,16,18,20,21] [2,4,5,7] [cE T_api_Type.enc h0,hH (.draw 14 [(7,12)]),cE T_api_Visit.enc h1,cC (lorryref11_Stop_ok h2),cC (lorryref08_Begin_ok h3),bF h4,bF h5,cE T_api_Time.enc h6,bT h7] (lorryref19_visited_J1_ok Γ rv h)
   ·exact gn 27 [3,5,8,12,13,16,18,20,21] [2,4,5,7] [cE T_api_Type.enc h0,hH (.draw 14 [(7,12)]),cE T_api_Visit.enc h1,cC (lorryref11_Stop_ok h2),cC (lorryref08_Begin_ok h3),bF h4,bF h5,cE T_api_Time.enc h6,bF h7] (lorryref19_visited_J1_ok Γ rv h)
def lorryref19_arrival_G (Γ:Gam) (rv:Int × Int) (cf:Cf):Prop:=Go Tryz.prog Tryz.f80 [] Γ (.tup [.one (lI rv.1),.one (lI rv.2)]) [] cf
theorem lorryref19_arrival_J1_ok (Γ:Gam) (rv:Int × Int) {x0 now x1 to_} (h:lorryref19_arrival_J1 x0 now x1 to_ = some rv):lorryref19_arrival_G Γ rv ⟨[.c 31],⟨51,[vP 4 0 6,vP 6 1 3,vP 10 2 14,vI 11 to_],[oX 6 30 (T_api_Instance.enc x0),oX 3 125 (T_lorryref19_state.enc now),oX 14 64 (T_api_Type.enc x1)]⟩⟩:=by
 unfold lorryref19_arrival_J1 at h
 obtain ⟨r2,h4,h⟩:=bnd_elim h
 obtain rfl:=Option.some.inj h
 exact gr 4 [] [cC (lorryref09_Go_ok h4)]
theorem lorryref19_arrival_ok {x0 r now at_} {rv:Int × Int} (h:lorryref19_arrival x0 r now at_ = some rv):AFn Tryz.prog 80 [.agg (T_api_Instance.enc x0),.agg (T_api_Route.enc r),.agg (T_lorryref19_state.enc now),.one (lI at_)] [] (.tup [.one (lI rv.1),.one (lI rv.2)]) []:=by
 refine afn_of Tryz.func80 (by kernel_rfl) (by kernel_rfl) (fun Γ=>?_)
 unfold lorryref19_arrival at h
 obtain ⟨x1,h0,h⟩:=bnd_elim h
 rcases br_elim h with ⟨h1,h⟩|⟨h1,h⟩
 ·obtain ⟨x2,h2,h⟩:=bnd_elim h
  obtain ⟨r1,h3,h⟩:=bnd_elim h
  exact gn 11 [4,6,10,11] [0,2,3] [cE T_api_Type.enc h0,nL T_api_Visit.enc r.visits,bT h1,hH (.draw 8 []),cE T_api_Visit.enc h2,cC (lorryref19_place_ok h3)] (lorryref19_arrival_J1_ok Γ rv h)
 ·exact gn 11 [4,6,10,11] [0,2,3] [cE T_api_Type.enc h0,nL T_api_Visit.enc r.visits,bF h1] (lorryref19_arrival_J1_ok Γ rv h)
def lorryref19_later_G (Γ:Gam) (rv:T_api_Sheet × Int) (cf:Cf):Prop:=Go Tryz.prog Tryz.f41 [] Γ (.tup [.agg [.bool rv.1.rest_,lI rv.1.depart,lL 4 rv.1.times T_api_Time.enc,lI rv.1.end_,lI rv.1.miles],.one (lI rv.2)]) [] cf
def lorryref19_later_L1_C (Γ:Gam) (rv:T_api_Sheet × Int) (x0:T_api_Instance) (r:T_api_Route) (s0:T_api_Sheet) (x1:T_api_Type) (l:List T_api_Time) (l1:List T_api_Time) (depart:Int) (depart1:Int) (x3:T_lorryref19_state) (arrive1:Int) (i:Int):Prop:=lorryref19_later_G Γ rv ⟨[.c 8180,.l 8180,.b 0,.c 1023],⟨127,[vP 5 0 6,vP 6 1 4,vP 7 2 5,vP 10 3 5,vP 12 4 14,vI 13 (lenI r.visits),vP 14 5 5,vP 15 6 3,vI 16 arrive1,vI 17 i],[oX 6 30 (T_api_Instance.enc x0),oX 4 34 (T_api_Route.enc r),oX 5 37 [.bool s0.rest_,lI depart,lL 4 s0.times T_api_Time.enc,lI s0.end_,lI s0.miles],oX 5 37 [.bool false,lI 0,.nils,lI 0,lI 0],oX 14 64 (T_api_Type.enc x1),oX 5 37 [.bool s0.rest_,lI depart1,lO 7 4 l1 T_api_Time.enc,lI 0,lI s0.miles],oX 3 125 (T_lorryref19_state.enc x3),oS 4 60 l1 T_api_Time.enc]⟩⟩
def lorryref19_later_L1_D0 (Γ:Gam) (rv:T_api_Sheet × Int) (x0:T_api_Instance) (r:T_api_Route) (s0:T_api_Sheet) (x1:T_api_Type) (l:List T_api_Time) (l2:List T_api_Time) (depart2:Int) (x4:T_lorryref19_state) (arrive2:Int):Prop:=lorryref19_later_G Γ rv ⟨[.c 1023],⟨127,[vP 10 0 5,vP 12 1 14,vP 14 2 5,vP 15 3 3,vI 16 arrive2],[oX 5 37 [.bool false,lI 0,.nils,lI 0,lI 0],oX 14 64 (T_api_Type.enc x1),oX 5 37 [.bool s0.rest_,lI depart2,lO 4 4 l2 T_api_Time.enc,lI 0,lI s0.miles],oX 3 125 (T_lorryref19_state.enc x4),oS 4 60 l2 T_api_Time.enc]⟩⟩
theorem lorryref19_later_L1_ok (Γ:Gam) (rv:T_api_Sheet × Int) {x0 r s0 x1 l} {s:List T_api_Time × Int × Int × T_lorryref19_state × Int × Int} {e:(List T_api_Time × Int × T_lorryref19_state × Int) ⊕ (T_api_Sheet × Int)} (h:loopF (fun s=>lorryref19_later_L1 x0 r s0 x1 l s.1 s.2.1 s.2.2.1 s.2.2.2.1 s.2.2.2.2.1 s.2.2.2.2.2) s = some e) (hD:sel e (fun e=>lorryref19_later_L1_D0 Γ rv x0 r s0 x1 l e.1 e.2.1 e.2.2.1 e.2.2.2) (fun e=>e = rv)):lorryref19_later_L1_C Γ rv x0 r s0 x1 l s.1 s.2.1 s.2.2.1 s.2.2.2.1 s.2.2.2.2.1 s.2.2.2.2.2:=by
 refine loop_ind (C:=fun (s:List T_api_Time × Int × Int × T_lorryref19_state × Int × Int)=>lorryref19_later_L1_C Γ rv x0 r s0 x1 l s.1 s.2.1 s.2.2.1 s.2.2.2.1 s.2.2.2.2.1 s.2.2.2.2.2) (D:=fun (e:(List T_api_Time × Int × T_lorryref19_state × Int) ⊕ (T_api_Sheet × Int))=>sel e (fun e=>lorryref19_later_L1_D0 Γ rv x0 r s0 x1 l e.1 e.2.1 e.2.2.1 e.2.2.2) (fun e=>e = rv)) ?_ h hD
 clear h hD s e
 rintro ⟨l1,depart,depart1,x3,arrive1,i⟩ z_ h hI hE
 replace h:lorryref19_later_L1 x0 r s0 x1 l l1 depart depart1 x3 arrive1 i = _:=h
 unfold lorryref19_later_L1 at h
 rcases br_elim h with ⟨h6,h⟩|⟨h6,h⟩
 ·obtain ⟨r2,h7,h⟩:=bnd_elim h
  rcases br_elim h with ⟨h8,h⟩|⟨h8,h⟩
  ·obtain rfl:=(hE _ (oJ h):_ = rv)
   exact gr 15 [] [bT h6,cC (lorryref19_visited_ok h7),bT h8,hW 6,hH (.nilB 3 2 4)]
  ·obtain ⟨h9,h⟩:=chk_elim h
   obtain ⟨r3,h10,h⟩:=bnd_elim h
   rcases br_elim h with ⟨h11,h⟩|⟨h11,h⟩
   ·obtain rfl:=(hE _ (oJ h):_ = rv)
    exact gr 26 [] [bT h6,cC (lorryref19_visited_ok h7),bF h8,oO (Eq.refl ([r2.1].map T_api_Time.enc).length),aO T_api_Time.enc h9,cC (lorryref19_arrival_ok h10),bT h11,hW 6,hH (.nilB 3 2 4)]
   ·exact gn 29 [5,6,7,10,12,13,14,15,16,17] [0,1,2,3,4,5,6,11] [bT h6,cC (lorryref19_visited_ok h7),bF h8,oO (Eq.refl ([r2.1].map T_api_Time.enc).length),aO T_api_Time.enc h9,cC (lorryref19_arrival_ok h10),bF h11] (hI _ (oJ h))
 ·exact gn 5 [10,12,14,15,16] [3,4,5,6,7] [bF h6] (hE _ (oJ h))
theorem lorryref19_later_J1_ok (Γ:Gam) (rv:T_api_Sheet × Int) {x0 r s0 at_ x1 l r1 arrive} (h:lorryref19_later_J1 x0 r s0 at_ x1 l r1 arrive = some rv):lorryref19_later_G Γ rv ⟨[.c 511],⟨127,[vI 3 at_,vP 5 0 6,vP 6 1 4,vP 7 2 5,vP 10 3 5,vP 12 4 14,vI 13 (lenI r.visits),vP 14 5 5,vP 15 6 3,vI 16 arrive],[oX 6 30 (T_api_Instance.enc x0),oX 4 34 (T_api_Route.enc r),oX 5 37 (T_api_Sheet.enc s0),oX 5 37 [.bool false,lI 0,.nils,lI 0,lI 0],oX 14 64 (T_api_Type.enc x1),oX 5 37 [.bool s0.rest_,lI s0.depart,lO 7 4 l T_api_Time.enc,lI 0,lI s0.miles],oX 3 125 (T_lorryref19_state.enc r1),oS 4 60 l T_api_Time.enc]⟩⟩:=by
 unfold lorryref19_later_J1 at h
 obtain ⟨e0,h12,h⟩:=bnd_elim h
 refine gn 5 [5,6,7,10,12,13,14,15,16,17] [0,1,2,3,4,5,6,7] [] (lorryref19_later_L1_ok Γ rv h12 ?_)
 rcases e0 with e0|e0
 ·obtain ⟨l2,depart2,x4,arrive2⟩:=e0
  replace h:(br (gtI arrive2 x1.close) (some ((T_api_Sheet.mk false 0 [] 0 0),15)) (br (gtI (subK .i64 (addK .i64 x4.since arrive2) x4.depart) x1.drive) (some ((T_api_Sheet.mk false 0 [] 0 0),16)) (some ((T_api_Sheet.mk s0.rest_ depart2 l2 arrive2 s0.miles),0))):Option (T_api_Sheet × Int)) = some _:=h
  rcases br_elim h with ⟨h13,h⟩|⟨h13,h⟩
  ·obtain rfl:=Option.some.inj h
   exact gr 6 [] [bT h13,hW 5,hH (.nilB 0 2 4)]
  ·rcases br_elim h with ⟨h14,h⟩|⟨h14,h⟩
   ·obtain rfl:=Option.some.inj h
    exact gr 11 [] [bF h13,bT h14,hW 5,hH (.nilB 0 2 4)]
   ·obtain rfl:=Option.some.inj h
    exact gr 14 [] [bF h13,bF h14,hW 11,hH (.frz 4),rp 3 (eL l2 T_api_Time.enc)]
 ·obtain ⟨r4,rfl⟩:∃ x,x = e0:=⟨_,rfl⟩
  replace h:(some r4:Option (T_api_Sheet × Int)) = some _:=h
  exact Option.some.inj h
theorem lorryref19_later_ok {x0 r s0 at_ late} {rv:T_api_Sheet × Int} (h:lorryref19_later x0 r s0 at_ late = some rv):AFn Tryz.prog 41 [.agg (T_api_Instance.enc x0),.agg (T_api_Route.enc r),.agg (T_api_Sheet.enc s0),.one (lI at_),.one (lI late)] [] (.tup [.agg [.bool rv.1.rest_,lI rv.1.depart,lL 4 rv.1.times T_api_Time.enc,lI rv.1.end_,lI rv.1.miles],.one (lI rv.2)]) []:=by
 refine afn_of Tryz.func41 (by kernel_rfl) (by kernel_rfl) (fun Γ=>?_)
 unfold lorryref19_later at h
 obtain ⟨x1,h0,h⟩:=bnd_elim h
 obtain ⟨l,h1,h⟩:=bnd_elim h
 obtain ⟨h2,h⟩:=chk_elim h
 obtain ⟨r1,h3,h⟩:=bnd_elim h
 rcases br_elim h with ⟨h4,h⟩|⟨h4,h⟩
 ·obtain ⟨x2,h5,h⟩:=bnd_elim h
  exact gn 19 [3,5,6,7,10,12,13,14,15,16] [0,1,2,3,4,5,7,6] [cE T_api_Type.enc h0,nL T_api_Visit.enc r.visits,hH (.draw 6 []),rp 2 (hH (.rows (l.map T_api_Time.enc))),oO (sl1 h1),oO (sl2 h1),oO (sl3 T_api_Time.enc h1),oO (Int.le_refl at_),oO (sl3 T_api_Time.enc h1),oO (sl6 T_api_Time.enc h1),oO (Eq.refl (l.map T_api_Time.enc)),oO (okLe (l:=(l:List T_api_Time)) T_api_Time.enc h2),oO (okLe2 (l:=(l:List T_api_Time)) (b:=32) T_api_Time.enc (by decide) h2),cC (lorryref19_ahead_ok h3),bT h4,cE T_api_Time.enc h5] (lorryref19_later_J1_ok Γ rv h)
 ·exact gn 19 [3,5,6,7,10,12,13,14,15,16] [0,1,2,3,4,5,7,6] [cE T_api_Type.enc h0,nL T_api_Visit.enc r.visits,hH (.draw 6 []),rp 2 (hH (.rows (l.map T_api_Time.enc))),oO (sl1 h1),oO (sl2 h1),oO (sl3 T_api_Time.enc h1),oO (Int.le_refl at_),oO (sl3 T_api_Time.enc h1),oO (sl6 T_api_Time.enc h1),oO (Eq.refl (l.map T_api_Time.enc)),oO (okLe (l:=(l:List T_api_Time)) T_api_Time.enc h2),oO (okLe2 (l:=(l:List T_api_Time)) (b:=32) T_api_Time.enc (by decide) h2),cC (lorryref19_ahead_ok h3),bF h4] (lorryref19_later_J1_ok Γ rv h)
def lorryref19_Slack_G (Γ:Gam) (rv:List Int × Int) (cf:Cf):Prop:=Go Tryz.prog Tryz.f13 [] Γ (.tup [.one (lL 1 rv.1 e_i64),.one (lI rv.2)]) [] cf
def lorryref19_Slack_L2_C (Γ:Gam) (rv:List Int × Int) (x0:T_api_Instance) (r:T_api_Route) (s0:T_api_Sheet) (l:List Int) (at_:Int) (late:Int):Prop:=lorryref19_Slack_G Γ rv ⟨[.c 64072,.l 64072,.b 2,.c 16019,.b 1,.c 2003,.l 500,.b 0,.c 63],⟨49,[vP 3 0 6,vP 4 1 4,vP 5 2 5,vO 9 3 1 l e_i64,vI 10 at_,vI 11 late],[oX 6 30 (T_api_Instance.enc x0),oX 4 34 (T_api_Route.enc r),oX 5 37 (T_api_Sheet.enc s0),oS 1 3 l e_i64]⟩⟩
def lorryref19_Slack_L2_D0 (Γ:Gam) (rv:List Int × Int) (x0:T_api_Instance) (r:T_api_Route) (s0:T_api_Sheet) (l:List Int) (at_:Int) (late1:Int):Prop:=lorryref19_Slack_G Γ rv ⟨[.c 16019,.b 1,.c 2003,.l 500,.b 0,.c 63],⟨49,[vP 3 0 6,vP 4 1 4,vP 5 2 5,vO 9 3 1 l e_i64,vI 10 at_,vI 11 late1],[oX 6 30 (T_api_Instance.enc x0),oX 4 34 (T_api_Route.enc r),oX 5 37 (T_api_Sheet.enc s0),oS 1 3 l e_i64]⟩⟩
def lorryref19_Slack_L1_C (Γ:Gam) (rv:List Int × Int) (x0:T_api_Instance) (r:T_api_Route) (s0:T_api_Sheet) (l:List Int) (at_:Int):Prop:=lorryref19_Slack_G Γ rv ⟨[.c 500,.l 500,.b 0,.c 63],⟨49,[vP 3 0 6,vP 4 1 4,vP 5 2 5,vO 9 3 1 l e_i64,vI 10 at_],[oX 6 30 (T_api_Instance.enc x0),oX 4 34 (T_api_Route.enc r),oX 5 37 (T_api_Sheet.enc s0),oS 1 3 l e_i64]⟩⟩
def lorryref19_Slack_L1_D0 (Γ:Gam) (rv:List Int × Int) (x0:T_api_Instance) (r:T_api_Route) (s0:T_api_Sheet) (l1:List Int):Prop:=lorryref19_Slack_G Γ rv ⟨[.c 63],⟨49,[vO 9 0 1 l1 e_i64],[oS 1 3 l1 e_i64]⟩⟩
theorem lorryref19_Slack_L2_ok (Γ:Gam) (rv:List Int × Int) {x0 r s0 l at_} {s:Int} {e:Int} (h:loopF (fun s=>lorryref19_Slack_L2 x0 r s0 l at_ s) s = some e) (hD:lorryref19_Slack_L2_D0 Γ rv x0 r s0 l at_ e):lorryref19_Slack_L2_C Γ rv x0 r s0 l at_ s:=by
 refine loop_ind (C:=fun (s:Int)=>lorryref19_Slack_L2_C Γ rv x0 r s0 l at_ s) (D:=fun (e:Int)=>lorryref19_Slack_L2_D0 Γ rv x0 r s0 l at_ e) ?_ h hD
 clear h hD s e
 intro late z_ h hI hE
 replace h:lorryref19_Slack_L2 x0 r s0 l at_ late = _:=h
 unfold lorryref19_Slack_L2 at h
 rcases br_elim h with ⟨h3,h⟩|⟨h3,h⟩
 ·obtain ⟨r2,h4,h⟩:=bnd_elim h
  rcases br_elim h with ⟨h5,h⟩|⟨h5,h⟩
  ·exact gn 13 [3,4,5,9,10,11] [0,1,2,3] [bT h3,cC (lorryref19_later_ok h4),bT h5] (hE _ (oJ h))
  ·exact gn 16 [3,4,5,9,10,11] [0,1,2,3] [bT h3,cC (lorryref19_later_ok h4),bF h5] (hI _ (oJ h))
 ·exact gn 5 [3,4,5,9,10,11] [0,1,2,3] [bF h3] (hE _ (oJ h))
theorem lorryref19_Slack_L1_ok (Γ:Gam) (rv:List Int × Int) {x0 r s0} {s:List Int × Int} {e:List Int} (h:loopF (fun s=>lorryref19_Slack_L1 x0 r s0 s.1 s.2) s = some e) (hD:lorryref19_Slack_L1_D0 Γ rv x0 r s0 e):lorryref19_Slack_L1_C Γ rv x0 r s0 s.1 s.2:=by
 refine loop_ind (C:=fun (s:List Int × Int)=>lorryref19_Slack_L1_C Γ rv x0 r s0 s.1 s.2) (D:=fun (e:List Int)=>lorryref19_Slack_L1_D0 Γ rv x0 r s0 e) ?_ h hD
 clear h hD s e
 rintro ⟨l,at_⟩ z_ h hI hE
 replace h:lorryref19_Slack_L1 x0 r s0 l at_ = _:=h
 unfold lorryref19_Slack_L1 at h
 rcases br_elim h with ⟨h2,h⟩|⟨h2,h⟩
 ·obtain ⟨e0,h6,h⟩:=bnd_elim h
  refine gn 12 [3,4,5,9,10,11] [0,1,2,3] [nL T_api_Visit.enc r.visits,bT h2] (lorryref19_Slack_L2_ok Γ rv h6 ?_)
  obtain ⟨late1,rfl⟩:∃ x,x = e0:=⟨_,rfl⟩
  replace h:(chk (okN (l ++ [late1]).length 8) (some (.inl ((l ++ [late1]),(addK .i64 at_ 1)))):Option ((List Int × Int) ⊕ (List Int))) = some _:=h
  obtain ⟨h7,h⟩:=chk_elim h
  exact gn 4 [3,4,5,9,10] [0,1,2,5] [oO (Eq.refl ([late1].map e_i64).length),aO e_i64 h7] (hI _ (oJ h))
 ·exact gn 5 [9] [3] [nL T_api_Visit.enc r.visits,bF h2] (hE _ (oJ h))
theorem lorryref19_Slack_ok {x0 r s0} {rv:List Int × Int} (h:lorryref19_Slack x0 r s0 = some rv):AFn Tryz.prog 13 [.agg (T_api_Instance.enc x0),.agg (T_api_Route.enc r),.agg (T_api_Sheet.enc s0)] [] (.tup [.one (lL 1 rv.1 e_i64),.one (lI rv.2)]) []:=by
 refine afn_of Tryz.func13 (by kernel_rfl) (by kernel_rfl) (fun Γ=>?_)
 unfold lorryref19_Slack at h
 obtain ⟨r1,h0,h⟩:=bnd_elim h
 rcases br_elim h with ⟨h1,h⟩|⟨h1,h⟩
 ·obtain rfl:=Option.some.inj h
  exact gr 10 [] [cC (lorryref18_Valid_ok h0),bT h1,hW 5,hH (.nilS 6 0 1)]
 ·obtain ⟨e1,h8,h⟩:=bnd_elim h
  refine gn 16 [3,4,5,9,10] [0,1,2,3] [cC (lorryref18_Valid_ok h0),bF h1,hW 10,hH (.adopt 9 1 3)] (lorryref19_Slack_L1_ok Γ rv h8 ?_)
  obtain ⟨l1,rfl⟩:∃ x,x = e1:=⟨_,rfl⟩
  replace h:(some (l1,0):Option (List Int × Int)) = some _:=h
  obtain rfl:=Option.some.inj h
  exact gr 2 [] [hW 5,hH (.frz 0),rp 3 (eL l1 e_i64)]
def lorryref19_Latest_G (Γ:Gam) (rv:List Int × Int) (cf:Cf):Prop:=Go Tryz.prog Tryz.f15 [] Γ (.tup [.one (lL 1 rv.1 e_i64),.one (lI rv.2)]) [] cf
def lorryref19_Latest_L1_C (Γ:Gam) (rv:List Int × Int) (s0:T_api_Sheet) (r1:List Int × Int) (l:List Int) (i:Int):Prop:=lorryref19_Latest_G Γ rv ⟨[.c 500,.l 500,.b 0,.c 63],⟨52,[vP 5 0 5,vL 8 1 r1.1 e_i64,vO 10 1 1 l e_i64,vI 11 i],[oX 5 37 (T_api_Sheet.enc s0),oS 1 3 l e_i64]⟩⟩
def lorryref19_Latest_L1_D0 (Γ:Gam) (rv:List Int × Int) (s0:T_api_Sheet) (r1:List Int × Int) (l1:List Int):Prop:=lorryref19_Latest_G Γ rv ⟨[.c 63],⟨52,[vO 10 0 1 l1 e_i64],[oS 1 3 l1 e_i64]⟩⟩
theorem lorryref19_Latest_J1_ok (Γ:Gam) (rv:List Int × Int) {s0 r1 l i a} {x:(List Int × Int) ⊕ (List Int)} (h:lorryref19_Latest_J1 s0 r1 l i a = some x) (hI:∀ s:List Int × Int,x = .inl s→lorryref19_Latest_L1_C Γ rv s0 r1 s.1 s.2) (hE:∀ e:List Int,x = .inr e→lorryref19_Latest_L1_D0 Γ rv s0 r1 e):lorryref19_Latest_G Γ rv ⟨[.c 16019,.b 1,.c 2003,.l 500,.b 0,.c 63],⟨52,[vP 5 0 5,vL 8 1 r1.1 e_i64,vO 10 1 1 l e_i64,vI 11 i,vI 12 a],[oX 5 37 (T_api_Sheet.enc s0),oS 1 3 l e_i64]⟩⟩:=by
 unfold lorryref19_Latest_J1 at h
 obtain ⟨x2,h5,h⟩:=bnd_elim h
 obtain ⟨h6,h⟩:=chk_elim h
 exact gn 4 [5,8,10,11] [0,3] [cE e_i64 h5,oO (Eq.refl ([(addK .i64 a x2)].map e_i64).length),aO e_i64 h6] (hI _ (oJ h))
theorem lorryref19_Latest_L1_ok (Γ:Gam) (rv:List Int × Int) {s0 r1} {s:List Int × Int} {e:List Int} (h:loopF (fun s=>lorryref19_Latest_L1 s0 r1 s.1 s.2) s = some e) (hD:lorryref19_Latest_L1_D0 Γ rv s0 r1 e):lorryref19_Latest_L1_C Γ rv s0 r1 s.1 s.2:=by
 refine loop_ind (C:=fun (s:List Int × Int)=>lorryref19_Latest_L1_C Γ rv s0 r1 s.1 s.2) (D:=fun (e:List Int)=>lorryref19_Latest_L1_D0 Γ rv s0 r1 e) ?_ h hD
 clear h hD s e
 rintro ⟨l,i⟩ z_ h hI hE
 replace h:lorryref19_Latest_L1 s0 r1 l i = _:=h
 unfold lorryref19_Latest_L1 at h
 rcases br_elim h with ⟨h2,h⟩|⟨h2,h⟩
 ·rcases br_elim h with ⟨h3,h⟩|⟨h3,h⟩
  ·obtain ⟨x1,h4,h⟩:=bnd_elim h
   exact gn 14 [5,8,10,11,12] [0,1] [nL e_i64 r1.1,bT h2,nL T_api_Time.enc s0.times,bT h3,cE T_api_Time.enc h4] (lorryref19_Latest_J1_ok Γ rv h hI hE)
  ·exact gn 14 [5,8,10,11,12] [0,1] [nL e_i64 r1.1,bT h2,nL T_api_Time.enc s0.times,bF h3] (lorryref19_Latest_J1_ok Γ rv h hI hE)
 ·exact gn 5 [10] [1] [nL e_i64 r1.1,bF h2] (hE _ (oJ h))
theorem lorryref19_Latest_ok {x0 r s0} {rv:List Int × Int} (h:lorryref19_Latest x0 r s0 = some rv):AFn Tryz.prog 15 [.agg (T_api_Instance.enc x0),.agg (T_api_Route.enc r),.agg (T_api_Sheet.enc s0)] [] (.tup [.one (lL 1 rv.1 e_i64),.one (lI rv.2)]) []:=by
 refine afn_of Tryz.func15 (by kernel_rfl) (by kernel_rfl) (fun Γ=>?_)
 unfold lorryref19_Latest at h
 obtain ⟨r1,h0,h⟩:=bnd_elim h
 rcases br_elim h with ⟨h1,h⟩|⟨h1,h⟩
 ·obtain rfl:=Option.some.inj h
  exact gr 10 [] [cC (lorryref19_Slack_ok h0),bT h1,hW 5,hH (.nilS 6 0 1)]
 ·obtain ⟨e0,h7,h⟩:=bnd_elim h
  refine gn 16 [5,8,10,11] [2,3] [cC (lorryref19_Slack_ok h0),bF h1,hW 10,hH (.adopt 10 1 3)] (lorryref19_Latest_L1_ok Γ rv h7 ?_)
  obtain ⟨l1,rfl⟩:∃ x,x = e0:=⟨_,rfl⟩
  replace h:(some (l1,0):Option (List Int × Int)) = some _:=h
  obtain rfl:=Option.some.inj h
  exact gr 2 [] [hW 5,hH (.frz 0),rp 3 (eL l1 e_i64)]
theorem lorrylaw19_SlackFinds_ok {t} {rv:Bool} (h:lorrylaw19_SlackFinds t = some rv):AFn Tryz.prog 3 [.agg (T_lorrylaw19_Trip.enc t)] [] (one (.bool rv)) []:=by
 refine afn_of Tryz.func3 (by kernel_rfl) (by kernel_rfl) (fun Γ=>?_)
 unfold lorrylaw19_SlackFinds at h
 obtain ⟨r,h0,h⟩:=bnd_elim h
 rcases br_elim h with ⟨h1,h⟩|⟨h1,h⟩
 ·obtain ⟨r1,h2,h⟩:=bnd_elim h
  obtain ⟨r2,h3,h⟩:=bnd_elim h
  obtain ⟨r3,h4,h⟩:=bnd_elim h
  obtain ⟨r4,h5,h⟩:=bnd_elim h
  obtain ⟨r5,h6,h⟩:=bnd_elim h
  rcases br_elim h with ⟨h7,h⟩|⟨h7,h⟩
  ·obtain ⟨r6,h8,h⟩:=bnd_elim h
   rcases br_elim h with ⟨h9,h⟩|⟨h9,h⟩
   ·obtain ⟨r7,h10,h⟩:=bnd_elim h
    obtain rfl:=Option.some.inj h
    exact gr 17 [] [cC (lorrylaw19_few_ok h0),nF h1,cC (slack_Slack_ok h2),cC (lorryref19_Slack_ok h3),cC (slack_Latest_ok h4),cC (lorryref19_Latest_ok h5),cC (lorrylaw19_numbers_ok h6),rp 4 hP,rp 2 (oI (r5 = true)),oR True (r5 = true),rp 3 (bT h7),cC (lorrylaw19_numbers_ok h8),bT h7,rp 4 hP,rp 2 (oI (r6 = true)),oR True (r6 = true),bT h9,cC (lorrylaw19_awake_ok h10),bT h9]
   ·obtain rfl:=Option.some.inj h
    exact gr 17 [] [cC (lorrylaw19_few_ok h0),nF h1,cC (slack_Slack_ok h2),cC (lorryref19_Slack_ok h3),cC (slack_Latest_ok h4),cC (lorryref19_Latest_ok h5),cC (lorrylaw19_numbers_ok h6),rp 4 hP,rp 2 (oI (r5 = true)),oR True (r5 = true),rp 3 (bT h7),cC (lorrylaw19_numbers_ok h8),bT h7,rp 4 hP,rp 2 (oI (r6 = true)),oR True (r6 = true),bF h9,bF h9]
  ·obtain rfl:=Option.some.inj h
   exact gr 17 [] [cC (lorrylaw19_few_ok h0),nF h1,cC (slack_Slack_ok h2),cC (lorryref19_Slack_ok h3),cC (slack_Latest_ok h4),cC (lorryref19_Latest_ok h5),cC (lorrylaw19_numbers_ok h6),rp 4 hP,rp 2 (oI (r5 = true)),oR True (r5 = true),rp 4 (bF h7),rp 6 fF]
 ·obtain ⟨r8,h11,h⟩:=bnd_elim h
  obtain rfl:=Option.some.inj h
  exact gr 8 [] [cC (lorrylaw19_few_ok h0),nT h1,cC (lorrylaw19_awake_ok h11)]
theorem lorryref19_After_ok {x0 r s0 at_ late} {rv:T_api_Sheet × Int} (h:lorryref19_After x0 r s0 at_ late = some rv):AFn Tryz.prog 18 [.agg (T_api_Instance.enc x0),.agg (T_api_Route.enc r),.agg (T_api_Sheet.enc s0),.one (lI at_),.one (lI late)] [] (.tup [.agg [.bool rv.1.rest_,lI rv.1.depart,lL 4 rv.1.times T_api_Time.enc,lI rv.1.end_,lI rv.1.miles],.one (lI rv.2)]) []:=by
 refine afn_of Tryz.func18 (by kernel_rfl) (by kernel_rfl) (fun Γ=>?_)
 unfold lorryref19_After at h
 obtain ⟨r1,h0,h⟩:=bnd_elim h
 rcases br_elim h with ⟨h1,h⟩|⟨h1,h⟩
 ·obtain rfl:=Option.some.inj h
  exact gr 10 [] [cC (lorryref18_Valid_ok h0),bT h1,hW 6,hH (.nilB 3 2 4)]
 ·rcases br_elim h with ⟨h2,h⟩|⟨h2,h⟩
  ·obtain rfl:=Option.some.inj h
   exact gr 15 [] [cC (lorryref18_Valid_ok h0),bF h1,rp 4 hP,rp 2 (oI ((ltI at_ 0) = false)),nL T_api_Visit.enc r.visits,rp 8 hP,rp 2 (oI ((ltI at_ 0) = false)),oR True ((ltI at_ 0) = false),oI (((ltI at_ 0) || (gtI at_ (lenI r.visits))) = false),oR True (((ltI at_ 0) || (gtI at_ (lenI r.visits))) = false),oI ((((ltI at_ 0) || (gtI at_ (lenI r.visits))) || (ltI late 0)) = false),oR True ((((ltI at_ 0) || (gtI at_ (lenI r.visits))) || (ltI late 0)) = false),bT h2,hW 5,hH (.nilB 3 2 4)]
  ·obtain ⟨r2,h3,h⟩:=bnd_elim h
   obtain rfl:=Option.some.inj h
   exact gr 16 [] [cC (lorryref18_Valid_ok h0),bF h1,rp 4 hP,rp 2 (oI ((ltI at_ 0) = false)),nL T_api_Visit.enc r.visits,rp 8 hP,rp 2 (oI ((ltI at_ 0) = false)),oR True ((ltI at_ 0) = false),oI (((ltI at_ 0) || (gtI at_ (lenI r.visits))) = false),oR True (((ltI at_ 0) || (gtI at_ (lenI r.visits))) = false),oI ((((ltI at_ 0) || (gtI at_ (lenI r.visits))) || (ltI late 0)) = false),oR True ((((ltI at_ 0) || (gtI at_ (lenI r.visits))) || (ltI late 0)) = false),bF h2,cC (lorryref19_later_ok h3)]
def lorrylaw19_sheets_G (Γ:Gam) (rv:Bool) (cf:Cf):Prop:=Go Tryz.prog Tryz.f19 [] Γ (one (.bool rv)) [] cf
def lorrylaw19_sheets_L1_C (Γ:Gam) (rv:Bool) (a:T_api_Sheet) (b:T_api_Sheet) (i:Int):Prop:=lorrylaw19_sheets_G Γ rv ⟨[.c 116,.l 116,.b 0,.c 15],⟨59,[vP 2 0 5,vP 3 1 5,vI 5 i],[oX 5 37 (T_api_Sheet.enc a),oX 5 37 (T_api_Sheet.enc b)]⟩⟩
def lorrylaw19_sheets_L1_D0 (Γ:Gam) (rv:Bool) (a:T_api_Sheet) (b:T_api_Sheet):Prop:=lorrylaw19_sheets_G Γ rv ⟨[.c 15],⟨59,[],[]⟩⟩
theorem lorrylaw19_sheets_L1_ok (Γ:Gam) (rv:Bool) {a b} {s:Int} {e:(Unit) ⊕ (Bool)} (h:loopF (fun s=>lorrylaw19_sheets_L1 a b s) s = some e) (hD:sel e (fun e=>lorrylaw19_sheets_L1_D0 Γ rv a b) (fun e=>e = rv)):lorrylaw19_sheets_L1_C Γ rv a b s:=by
 refine loop_ind (C:=fun (s:Int)=>lorrylaw19_sheets_L1_C Γ rv a b s) (D:=fun (e:(Unit) ⊕ (Bool))=>sel e (fun e=>lorrylaw19_sheets_L1_D0 Γ rv a b) (fun e=>e = rv)) ?_ h hD
 clear h hD s e
 intro i z_ h hI hE
 replace h:lorrylaw19_sheets_L1 a b i = _:=h
 unfold lorrylaw19_sheets_L1 at h
 rcases br_elim h with ⟨h1,h⟩|⟨h1,h⟩
 ·obtain ⟨x0,h2,h⟩:=bnd_elim h
  obtain ⟨x1,h3,h⟩:=bnd_elim h
  rcases br_elim h with ⟨h4,h⟩|⟨h4,h⟩
  ·exact gn 14 [2,3,5] [0,1] [nL T_api_Time.enc a.times,bT h1,hH (.draw 11 []),cE T_api_Time.enc h2,cE T_api_Time.enc h3,nF h4] (hI _ (oJ h))
  ·obtain rfl:=(hE _ (oJ h):_ = rv)
   exact gr 12 [] [nL T_api_Time.enc a.times,bT h1,hH (.draw 11 []),cE T_api_Time.enc h2,cE T_api_Time.enc h3,nT h4]
 ·exact gn 5 [] [] [nL T_api_Time.enc a.times,bF h1] (hE _ (oJ h))
theorem lorrylaw19_sheets_ok {a b} {rv:Bool} (h:lorrylaw19_sheets a b = some rv):AFn Tryz.prog 19 [.agg (T_api_Sheet.enc a),.agg (T_api_Sheet.enc b)] [] (one (.bool rv)) []:=by
 refine afn_of Tryz.func19 (by kernel_rfl) (by kernel_rfl) (fun Γ=>?_)
 unfold lorrylaw19_sheets at h
 rcases br_elim h with ⟨h0,h⟩|⟨h0,h⟩
 ·obtain rfl:=Option.some.inj h
  exact gr 8 [] [rp 21 hP,rp 4 (oI ((!eqB a.rest_ b.rest_) = false)),oR True ((!eqB a.rest_ b.rest_) = false),rp 4 (oI (((!eqB a.rest_ b.rest_) || (neI a.depart b.depart)) = false)),oR True (((!eqB a.rest_ b.rest_) || (neI a.depart b.depart)) = false),rp 4 (oI ((((!eqB a.rest_ b.rest_) || (neI a.depart b.depart)) || (neI a.end_ b.end_)) = false)),oR True ((((!eqB a.rest_ b.rest_) || (neI a.depart b.depart)) || (neI a.end_ b.end_)) = false),rp 2 (oI (((((!eqB a.rest_ b.rest_) || (neI a.depart b.depart)) || (neI a.end_ b.end_)) || (neI a.miles b.miles)) = false)),nL T_api_Time.enc a.times,hP,hP,hP,rp 2 (oI (((((!eqB a.rest_ b.rest_) || (neI a.depart b.depart)) || (neI a.end_ b.end_)) || (neI a.miles b.miles)) = false)),nL T_api_Time.enc b.times,hP,hP,rp 2 (oI (((((!eqB a.rest_ b.rest_) || (neI a.depart b.depart)) || (neI a.end_ b.end_)) || (neI a.miles b.miles)) = false)),oR True (((((!eqB a.rest_ b.rest_) || (neI a.depart b.depart)) || (neI a.end_ b.end_)) || (neI a.miles b.miles)) = false),bT h0]
 ·obtain ⟨e0,h5,h⟩:=bnd_elim h
  refine gn 12 [2,3,5] [0,1] [rp 21 hP,rp 4 (oI ((!eqB a.rest_ b.rest_) = false)),oR True ((!eqB a.rest_ b.rest_) = false),rp 4 (oI (((!eqB a.rest_ b.rest_) || (neI a.depart b.depart)) = false)),oR True (((!eqB a.rest_ b.rest_) || (neI a.depart b.depart)) = false),rp 4 (oI ((((!eqB a.rest_ b.rest_) || (neI a.depart b.depart)) || (neI a.end_ b.end_)) = false)),oR True ((((!eqB a.rest_ b.rest_) || (neI a.depart b.depart)) || (neI a.end_ b.end_)) = false),rp 2 (oI (((((!eqB a.rest_ b.rest_) || (neI a.depart b.depart)) || (neI a.end_ b.end_)) || (neI a.miles b.miles)) = false)),nL T_api_Time.enc a.times,hP,hP,hP,rp 2 (oI (((((!eqB a.rest_ b.rest_) || (neI a.depart b.depart)) || (neI a.end_ b.end_)) || (neI a.miles b.miles)) = false)),nL T_api_Time.enc b.times,hP,hP,rp 2 (oI (((((!eqB a.rest_ b.rest_) || (neI a.depart b.depart)) || (neI a.end_ b.end_)) || (neI a.miles b.miles)) = false)),oR True (((((!eqB a.rest_ b.rest_) || (neI a.depart b.depart)) || (neI a.end_ b.end_)) || (neI a.miles b.miles)) = false),bF h0] (lorrylaw19_sheets_L1_ok Γ rv h5 ?_)
  rcases e0 with e0|e0
  ·replace h:(some true:Option Bool) = some _:=h
   obtain rfl:=Option.some.inj h
   exact gr 2 [] []
  ·obtain ⟨r,rfl⟩:∃ x,x = e0:=⟨_,rfl⟩
   replace h:(some r:Option Bool) = some _:=h
   exact Option.some.inj h
theorem lorrylaw19_SlackDelays_ok {t at_ late} {rv:Bool} (h:lorrylaw19_SlackDelays t at_ late = some rv):AFn Tryz.prog 4 [.agg (T_lorrylaw19_Trip.enc t),.one (lI at_),.one (lI late)] [] (one (.bool rv)) []:=by
 refine afn_of Tryz.func4 (by kernel_rfl) (by kernel_rfl) (fun Γ=>?_)
 unfold lorrylaw19_SlackDelays at h
 obtain ⟨r,h0,h⟩:=bnd_elim h
 rcases br_elim h with ⟨h1,h⟩|⟨h1,h⟩
 ·obtain ⟨r1,h2,h⟩:=bnd_elim h
  obtain ⟨r2,h3,h⟩:=bnd_elim h
  obtain ⟨r3,h4,h⟩:=bnd_elim h
  rcases br_elim h with ⟨h5,h⟩|⟨h5,h⟩
  ·obtain ⟨r4,h6,h⟩:=bnd_elim h
   obtain rfl:=Option.some.inj h
   exact gr 13 [] [cC (lorrylaw19_few_ok h0),nF h1,cC (slack_After_ok h2),cC (lorryref19_After_ok h3),cC (lorrylaw19_sheets_ok h4),rp 4 hP,rp 2 (oI (r3 = true)),oR True (r3 = true),bT h5,cC (lorrylaw19_awake_ok h6),bT h5]
  ·obtain rfl:=Option.some.inj h
   exact gr 13 [] [cC (lorrylaw19_few_ok h0),nF h1,cC (slack_After_ok h2),cC (lorryref19_After_ok h3),cC (lorrylaw19_sheets_ok h4),rp 4 hP,rp 2 (oI (r3 = true)),oR True (r3 = true),bF h5,bF h5]
 ·obtain ⟨r5,h7,h⟩:=bnd_elim h
  obtain rfl:=Option.some.inj h
  exact gr 8 [] [cC (lorrylaw19_few_ok h0),nT h1,cC (lorrylaw19_awake_ok h7)]
end Go.Proofs.YtfldlilicmbmkaaGreatDoor
