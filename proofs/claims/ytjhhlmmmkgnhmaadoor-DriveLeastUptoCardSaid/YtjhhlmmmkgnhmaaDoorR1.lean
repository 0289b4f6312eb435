/- Made by gen.py: the contracts of the functions. -/
import Derived.Test.YtjhhlmmmkgnhmaaDoorR0
import Derived.Test.YtjhhlmmmkgnhmaaDoorProg
namespace Go.Proofs.YtjhhlmmmkgnhmaaDoor
set_option linter.unusedVariables false
set_option linter.unusedSectionVars false
set_option linter.unusedSimpArgs false
set_option maxHeartbeats 4000000
set_option maxRecDepth 100000
def lorryref12_faults_L2_C (Γ:Gam) (rv:List T_api_Fault) (orders:Int) (l:List A2_Int) (word:ByteArray) (turned:Bool) (l2:List T_api_Fault) (i:Int) (x0:A2_Int) (r:ByteArray) (twice:Bool) (k:Int):Prop:=Go Tryd.prog Tryd.f104 [] Γ (one (.sl false 2 (rv.map T_api_Fault.enc))) [] ⟨[.c 1001972,.l 1001972,.b 2,.c 125247,.b 1,.c 979,.l 244,.b 0,.c 31],⟨123,[(0,one (.int .i64 orders)),(1,one (.sl false 2 (l.map A2_Int.enc))),(2,one (.str word)),(3,one (.bool turned)),(9,one (.os 0 2 0 (l2.map T_api_Fault.enc).length)),(10,one (.int .i64 i)),(11,one (.int .i64 x0.x0)),(12,one (.int .i64 x0.x1)),(13,one (.str (catS (catS word s___7215) r))),(14,one (.bool twice)),(15,one (.int .i64 k))],[some ⟨false,2,49,(l2.map T_api_Fault.enc)⟩]⟩⟩
def lorryref12_faults_L2_D0 (Γ:Gam) (rv:List T_api_Fault) (orders:Int) (l:List A2_Int) (word:ByteArray) (turned:Bool) (l2:List T_api_Fault) (i:Int) (x0:A2_Int) (r:ByteArray) (twice1:Bool):Prop:=Go Tryd.prog Tryd.f104 [] Γ (one (.sl false 2 (rv.map T_api_Fault.enc))) [] ⟨[.c 125247,.b 1,.c 979,.l 244,.b 0,.c 31],⟨123,[(0,one (.int .i64 orders)),(1,one (.sl false 2 (l.map A2_Int.enc))),(2,one (.str word)),(3,one (.bool turned)),(9,one (.os 0 2 0 (l2.map T_api_Fault.enc).length)),(10,one (.int .i64 i)),(13,one (.str (catS (catS word s___7215) r))),(14,one (.bool twice1))],[some ⟨false,2,49,(l2.map T_api_Fault.enc)⟩]⟩⟩
def lorryref12_faults_L1_C (Γ:Gam) (rv:List T_api_Fault) (orders:Int) (l:List A2_Int) (word:ByteArray) (turned:Bool) (l2:List T_api_Fault) (i:Int):Prop:=Go Tryd.prog Tryd.f104 [] Γ (one (.sl false 2 (rv.map T_api_Fault.enc))) [] ⟨[.c 244,.l 244,.b 0,.c 31],⟨123,[(0,one (.int .i64 orders)),(1,one (.sl false 2 (l.map A2_Int.enc))),(2,one (.str word)),(3,one (.bool turned)),(9,one (.os 0 2 0 (l2.map T_api_Fault.enc).length)),(10,one (.int .i64 i))],[some ⟨false,2,49,(l2.map T_api_Fault.enc)⟩]⟩⟩
def lorryref12_faults_L1_D0 (Γ:Gam) (rv:List T_api_Fault) (orders:Int) (l:List A2_Int) (word:ByteArray) (turned:Bool) (l3:List T_api_Fault):Prop:=Go Tryd.prog Tryd.f104 [] Γ (one (.sl false 2 (rv.map T_api_Fault.enc))) [] ⟨[.c 31],⟨123,[(9,one (.os 0 2 0 (l3.map T_api_Fault.enc).length))],[some ⟨false,2,49,(l3.map T_api_Fault.enc)⟩]⟩⟩
theorem lorryref12_faults_L2_ok (Γ:Gam) (rv:List T_api_Fault) (orders:Int) (l:List A2_Int) (word:ByteArray) (turned:Bool) (l2:List T_api_Fault) (i:Int) (x0:A2_Int) (r:ByteArray) (s:Bool × Int) (e:Bool) (h:loopF (fun s=>lorryref12_faults_L2 orders l word turned l2 i x0 r s.1 s.2) s = some e) (hD:lorryref12_faults_L2_D0 Γ rv orders l word turned l2 i x0 r e):lorryref12_faults_L2_C Γ rv orders l word turned l2 i x0 r s.1 s.2:=by
 refine loop_ind (C:=fun (s:Bool × Int)=>lorryref12_faults_L2_C Γ rv orders l word turned l2 i x0 r s.1 s.2) (D:=fun (e:Bool)=>lorryref12_faults_L2_D0 Γ rv orders l word turned l2 i x0 r e) ?_ h hD
 clear h hD s e
 rintro ⟨twice,k⟩ z_ h hI hE
 replace h:lorryref12_faults_L2 orders l word turned l2 i x0 r twice k = _:=h
 unfold lorryref12_faults_L2 at h
 rcases br_elim h with ⟨h9,h⟩|⟨h9,h⟩
 ·rcases br_elim h with ⟨h10,h⟩|⟨h10,h⟩
  ·exact gn 11 [0,1,2,3,9,10,11,12,13,14,15] [0] [bT,bT,bT,bT,bT,bT,bT,bT,bT,kS,kS,kS,kS,kS,kS,kS,bT,bT,bT,bT,kS,kS,kS,kS,kS,kS,kS,bT,bT,kS,kS,kS,kS,kS,kS,kS,bT,bT] (A2 h9 h10 (A4 h10 h10 h10 h10 (A8 h10 h10 h10 fZ fZ fZ fZ fZ (A8 fZ fZ h10 h10 rT rT fZ fZ (A8 fZ fZ fZ fZ fZ rT rT fZ (A8 fZ fZ fZ fZ fZ fZ rT rT T1)))))) (hI _ (oJ h))
  ·obtain ⟨x1,h11,h⟩:=bnd_elim h
   rcases br_elim h with ⟨h12,h⟩|⟨h12,h⟩
   ·rcases br_elim h with ⟨h13,h⟩|⟨h13,h⟩
    ·exact gn 11 [0,1,2,3,9,10,11,12,13,14,15] [0] [bT,bF,bF,bF,.cells (A2_Int.enc x1),bF,bF,bF,bF,bF,bT,bT,bT,.cells (A2_Int.enc x1),bT,bT,bT,bT,bF,bT,bF,bT,bT,kS,kS,kS,kS,kS,kS,kS,bT,bT,kS,kS,kS,kS,kS,kS,kS,bT,bT] (A1 h9 (A4 h10 h10 h10 (getM A2_Int.enc h11) (A8 h10 (by decide:(0:Int) ≤ 0) (by decide:(0:Int) < 2) h10 h10 h10 h10 h12 (A8 h12 h12 (getM A2_Int.enc h11) h12 (by decide:(0:Int) ≤ 1) (by decide:(1:Int) < 2) h12 h12 (A8 h12 h10 h12 h10 h13 h13 fZ fZ (A8 fZ fZ fZ fZ fZ h13 h13 fZ (A8 fZ fZ fZ fZ fZ fZ h13 h13 T1))))))) (hI _ (oJ h))
    ·rcases br_elim h with ⟨h14,h⟩|⟨h14,h⟩
     ·rcases br_elim h with ⟨h15,h⟩|⟨h15,h⟩
      ·exact gn 11 [0,1,2,3,9,10,11,12,13,14,15] [0] [bT,bF,bF,bF,.cells (A2_Int.enc x1),bF,bF,bF,bF,bF,bT,bT,bT,.cells (A2_Int.enc x1),bT,bT,bT,bT,bF,bT,bF,bF,bF,bT,bT,bT,.cells (A2_Int.enc x1),bT,bT,bT,bT,bF,bT,bF,bT,bT,bT,.cells (A2_Int.enc x1),bT,bT,bT,bT,bF,bT,bF] (A1 h9 (A4 h10 h10 h10 (getM A2_Int.enc h11) (A8 h10 (by decide:(0:Int) ≤ 0) (by decide:(0:Int) < 2) h10 h10 h10 h10 h12 (A8 h12 h12 (getM A2_Int.enc h11) h12 (by decide:(0:Int) ≤ 1) (by decide:(1:Int) < 2) h12 h12 (A8 h12 h10 h12 h10 h13 h13 h14 h14 (A8 h14 (getM A2_Int.enc h11) h14 (by decide:(0:Int) ≤ 0) (by decide:(0:Int) < 2) h14 h14 h14 (A8 h13 h14 h13 h15 h15 h15 (getM A2_Int.enc h11) h15 (A8 (by decide:(0:Int) ≤ 1) (by decide:(1:Int) < 2) h15 h15 h15 h13 h15 h13 T1)))))))) (hI _ (oJ h))
      ·exact gn 11 [0,1,2,3,9,10,11,12,13,14,15] [0] [bT,bF,bF,bF,.cells (A2_Int.enc x1),bF,bF,bF,bF,bF,bT,bT,bT,.cells (A2_Int.enc x1),bT,bT,bT,bT,bF,bT,bF,bF,bF,bT,bT,bT,.cells (A2_Int.enc x1),bT,bT,bT,bT,bF,bT,bF,bF,bF,bF,bF,bF,bF,bF,bF,bF,bF] (A2 h9 h10 (A8 h10 h10 (getM A2_Int.enc h11) h10 (by decide:(0:Int) ≤ 0) (by decide:(0:Int) < 2) h10 h10 (A8 h10 h10 h12 h12 h12 (getM A2_Int.enc h11) h12 (by decide:(0:Int) ≤ 1) (A8 (by decide:(1:Int) < 2) h12 h12 h12 h10 h12 h10 h13 (A8 h13 h14 h14 h14 (getM A2_Int.enc h11) h14 (by decide:(0:Int) ≤ 0) (by decide:(0:Int) < 2) (A8 h14 h14 h14 h13 h14 h13 h15 h15 (A8 h15 h15 h15 h15 h15 h13 h15 h13 T1))))))) (hI _ (oJ h))
     ·exact gn 11 [0,1,2,3,9,10,11,12,13,14,15] [0] [bT,bF,bF,bF,.cells (A2_Int.enc x1),bF,bF,bF,bF,bF,bT,bT,bT,.cells (A2_Int.enc x1),bT,bT,bT,bT,bF,bT,bF,bF,bF,bF,bF,bF,bF,bF,bF,bF,bF,bF,bF,bF,bF,bF,bF,bF,bF,bF,bF,bF,bF] (A1 h9 (A2 h10 h10 (A4 h10 (getM A2_Int.enc h11) h10 (by decide:(0:Int) ≤ 0) (A8 (by decide:(0:Int) < 2) h10 h10 h10 h10 h12 h12 h12 (A8 (getM A2_Int.enc h11) h12 (by decide:(0:Int) ≤ 1) (by decide:(1:Int) < 2) h12 h12 h12 h10 (A8 h12 h10 h13 h13 h14 h14 h14 h14 (A8 h14 h14 h14 h13 h14 h13 rF rF (A8 rF rF rF rF rF h13 rF h13 T1)))))))) (hI _ (oJ h))
   ·rcases br_elim h with ⟨h16,h⟩|⟨h16,h⟩
    ·rcases br_elim h with ⟨h17,h⟩|⟨h17,h⟩
     ·exact gn 11 [0,1,2,3,9,10,11,12,13,14,15] [0] [bT,bF,bF,bF,.cells (A2_Int.enc x1),bF,bF,bF,bF,bF,bF,bF,bF,bF,bF,bF,bF,bF,bF,bF,bF,bF,bT,bT,bT,.cells (A2_Int.enc x1),bT,bT,bT,bT,bF,bT,bF,bT,bT,bT,.cells (A2_Int.enc x1),bT,bT,bT,bT,bF,bT,bF] (A2 h9 h10 (A8 h10 h10 (getM A2_Int.enc h11) h10 (by decide:(0:Int) ≤ 0) (by decide:(0:Int) < 2) h10 h10 (A8 h10 h10 h12 h12 h12 h12 h12 h12 (A8 h12 h10 h12 h10 rF rF h16 h16 (A8 h16 (getM A2_Int.enc h11) h16 (by decide:(0:Int) ≤ 0) (by decide:(0:Int) < 2) h16 h16 h16 (A8 rF h16 rF h17 h17 h17 (getM A2_Int.enc h11) h17 (A8 (by decide:(0:Int) ≤ 1) (by decide:(1:Int) < 2) h17 h17 h17 rF h17 rF T1))))))) (hI _ (oJ h))
     ·exact gn 11 [0,1,2,3,9,10,11,12,13,14,15] [0] [bT,bF,bF,bF,.cells (A2_Int.enc x1),bF,bF,bF,bF,bF,bF,bF,bF,bF,bF,bF,bF,bF,bF,bF,bF,bF,bT,bT,bT,.cells (A2_Int.enc x1),bT,bT,bT,bT,bF,bT,bF,bF,bF,bF,bF,bF,bF,bF,bF,bF,bF] (A1 h9 (A2 h10 h10 (A4 h10 (getM A2_Int.enc h11) h10 (by decide:(0:Int) ≤ 0) (A8 (by decide:(0:Int) < 2) h10 h10 h10 h10 h12 h12 h12 (A8 h12 h12 h12 h12 h10 h12 h10 rF (A8 rF h16 h16 h16 (getM A2_Int.enc h11) h16 (by decide:(0:Int) ≤ 0) (by decide:(0:Int) < 2) (A8 h16 h16 h16 rF h16 rF h17 h17 (A8 h17 h17 h17 h17 h17 rF h17 rF T1)))))))) (hI _ (oJ h))
    ·exact gn 11 [0,1,2,3,9,10,11,12,13,14,15] [0] [bT,bF,bF,bF,.cells (A2_Int.enc x1),bF,bF,bF,bF,bF,bF,bF,bF,bF,bF,bF,bF,bF,bF,bF,bF,bF,bF,bF,bF,bF,bF,bF,bF,bF,bF,bF,bF,bF,bF,bF,bF,bF,bF,bF,bF,bF] (A4 h9 h10 h10 h10 (A8 (getM A2_Int.enc h11) h10 (by decide:(0:Int) ≤ 0) (by decide:(0:Int) < 2) h10 h10 h10 h10 (A8 h12 h12 h12 h12 h12 h12 h12 h10 (A8 h12 h10 rF rF h16 h16 h16 h16 (A8 h16 h16 h16 rF h16 rF rF rF (A8 rF rF rF rF rF rF rF rF T1)))))) (hI _ (oJ h))
 ·exact gn 5 [0,1,2,3,9,10,13,14] [0] [bF] (A1 h9 T1) (hE _ (oJ h))
theorem lorryref12_faults_L1_ok (Γ:Gam) (rv:List T_api_Fault) (orders:Int) (l:List A2_Int) (word:ByteArray) (turned:Bool) (s:List T_api_Fault × Int) (e:List T_api_Fault) (h:loopF (fun s=>lorryref12_faults_L1 orders l word turned s.1 s.2) s = some e) (hD:lorryref12_faults_L1_D0 Γ rv orders l word turned e):lorryref12_faults_L1_C Γ rv orders l word turned s.1 s.2:=by
 refine loop_ind (C:=fun (s:List T_api_Fault × Int)=>lorryref12_faults_L1_C Γ rv orders l word turned s.1 s.2) (D:=fun (e:List T_api_Fault)=>lorryref12_faults_L1_D0 Γ rv orders l word turned e) ?_ h hD
 clear h hD s e
 rintro ⟨l2,i⟩ z_ h hI hE
 replace h:lorryref12_faults_L1 orders l word turned l2 i = _:=h
 unfold lorryref12_faults_L1 at h
 rcases br_elim h with ⟨h2,h⟩|⟨h2,h⟩
 ·obtain ⟨x0,h3,h⟩:=bnd_elim h
  obtain ⟨h4,h⟩:=chk_elim h
  obtain ⟨r,h5,h⟩:=bnd_elim h
  obtain ⟨h6,h⟩:=chk_elim h
  rcases br_elim h with ⟨h7,h⟩|⟨h7,h⟩
  ·obtain ⟨h8,h⟩:=chk_elim h
   exact gn 22 [0,1,2,3,9,10] [2] [.num l.length,bT,.cells (A2_Int.enc x0),.cells (A2_Int.enc x0),.call [] (one (.str r)) [],kP,kP,kP,kP,kP,kP,kP,kP,kP,kP,kP,kP,kP,kP,kP,bT,.rows ((l2 ++ [(T_api_Fault.mk 2 (catS (catS word s___7215) r))]).map T_api_Fault.enc)] (A4 (lenM A2_Int.enc l) h2 (getM A2_Int.enc h3) (by decide:(0:Int) ≤ 0) (A8 (by decide:(0:Int) < 2) (getM A2_Int.enc h3) (by decide:(0:Int) ≤ 1) (by decide:(1:Int) < 2) h4 (lorryref12_decimal_ok i r h5) h6 (fun (h0:(ltI x0.x0 0) = false)=>h0) (A8 (fun (h0:(ltI x0.x0 0) = false)=>h0) (fun (h0:True∧(ltI x0.x0 0) = false)=>h0.2) (fun (h0:((ltI x0.x0 0) || (geI x0.x0 orders)) = false)=>h0) (fun (h0:True∧((ltI x0.x0 0) || (geI x0.x0 orders)) = false)=>h0.2) (fun (h0:(((ltI x0.x0 0) || (geI x0.x0 orders)) || (ltI x0.x1 0)) = false)=>h0) (fun (h0:(((ltI x0.x0 0) || (geI x0.x0 orders)) || (ltI x0.x1 0)) = false)=>h0) (fun (h0:True∧(((ltI x0.x0 0) || (geI x0.x0 orders)) || (ltI x0.x1 0)) = false)=>h0.2) (fun (h0:((((ltI x0.x0 0) || (geI x0.x0 orders)) || (ltI x0.x1 0)) || (geI x0.x1 orders)) = false)=>h0) (A8 (fun (h0:((((ltI x0.x0 0) || (geI x0.x0 orders)) || (ltI x0.x1 0)) || (geI x0.x1 orders)) = false)=>h0) (fun (h0:True∧((((ltI x0.x0 0) || (geI x0.x0 orders)) || (ltI x0.x1 0)) || (geI x0.x1 orders)) = false)=>h0.2) h7 (Eq.refl ([(T_api_Fault.mk 2 (catS (catS word s___7215) r))].map T_api_Fault.enc).length) (eL l2 T_api_Fault.enc) (appM T_api_Fault.enc l2 [(T_api_Fault.mk 2 (catS (catS word s___7215) r))]) (okLe (l:=((l2 ++ [(T_api_Fault.mk 2 (catS (catS word s___7215) r))]):List T_api_Fault)) T_api_Fault.enc h8) (okLe2 (l:=((l2 ++ [(T_api_Fault.mk 2 (catS (catS word s___7215) r))]):List T_api_Fault)) (b:=24) T_api_Fault.enc (by decide) h8) T1)))) (hI _ (oJ h))
  ·obtain ⟨e0,h18,h⟩:=bnd_elim h
   refine gn 25 [0,1,2,3,9,10,11,12,13,14,15] [0] [.num l.length,bT,.cells (A2_Int.enc x0),.cells (A2_Int.enc x0),.call [] (one (.str r)) [],kP,kP,kP,kP,kP,kP,kP,kP,kP,kP,kP,kP,kP,kP,kP,bF] (A1 (lenM A2_Int.enc l) (A2 h2 (getM A2_Int.enc h3) (A4 (by decide:(0:Int) ≤ 0) (by decide:(0:Int) < 2) (getM A2_Int.enc h3) (by decide:(0:Int) ≤ 1) (A8 (by decide:(1:Int) < 2) h4 (lorryref12_decimal_ok i r h5) h6 (fun (h0:(ltI x0.x0 0) = false)=>h0) (fun (h0:(ltI x0.x0 0) = false)=>h0) (fun (h0:True∧(ltI x0.x0 0) = false)=>h0.2) (fun (h0:((ltI x0.x0 0) || (geI x0.x0 orders)) = false)=>h0) (A8 (fun (h0:True∧((ltI x0.x0 0) || (geI x0.x0 orders)) = false)=>h0.2) (fun (h0:(((ltI x0.x0 0) || (geI x0.x0 orders)) || (ltI x0.x1 0)) = false)=>h0) (fun (h0:(((ltI x0.x0 0) || (geI x0.x0 orders)) || (ltI x0.x1 0)) = false)=>h0) (fun (h0:True∧(((ltI x0.x0 0) || (geI x0.x0 orders)) || (ltI x0.x1 0)) = false)=>h0.2) (fun (h0:((((ltI x0.x0 0) || (geI x0.x0 orders)) || (ltI x0.x1 0)) || (geI x0.x1 orders)) = false)=>h0) (fun (h0:((((ltI x0.x0 0) || (geI x0.x0 orders)) || (ltI x0.x1 0)) || (geI x0.x1 orders)) = false)=>h0) (fun (h0:True∧((((ltI x0.x0 0) || (geI x0.x0 orders)) || (ltI x0.x1 0)) || (geI x0.x1 orders)) = false)=>h0.2) h7 T1))))) (lorryref12_faults_L2_ok Γ rv orders l word turned l2 i x0 r _ _ h18 ?_)
   obtain ⟨twice1,rfl⟩:∃ x,x = e0:=⟨_,rfl⟩
   replace h:(br twice1 (chk (okN (l2 ++ [(T_api_Fault.mk 6 (catS (catS word s___7215) r))]).length 24) (some (.inl ((l2 ++ [(T_api_Fault.mk 6 (catS (catS word s___7215) r))]),(addK .i64 i 1))))) (some (.inl (l2,(addK .i64 i 1)))):Option ((List T_api_Fault × Int) ⊕ (List T_api_Fault))) = some _:=h
   rcases br_elim h with ⟨h19,h⟩|⟨h19,h⟩
   ·obtain ⟨h20,h⟩:=chk_elim h
    exact gn 7 [0,1,2,3,9,10] [2] [bT,.rows ((l2 ++ [(T_api_Fault.mk 6 (catS (catS word s___7215) r))]).map T_api_Fault.enc)] (A2 h19 (Eq.refl ([(T_api_Fault.mk 6 (catS (catS word s___7215) r))].map T_api_Fault.enc).length) (A4 (eL l2 T_api_Fault.enc) (appM T_api_Fault.enc l2 [(T_api_Fault.mk 6 (catS (catS word s___7215) r))]) (okLe (l:=((l2 ++ [(T_api_Fault.mk 6 (catS (catS word s___7215) r))]):List T_api_Fault)) T_api_Fault.enc h20) (okLe2 (l:=((l2 ++ [(T_api_Fault.mk 6 (catS (catS word s___7215) r))]):List T_api_Fault)) (b:=24) T_api_Fault.enc (by decide) h20) T1)) (hI _ (oJ h))
   ·exact gn 7 [0,1,2,3,9,10] [0] [bF] (A1 h19 T1) (hI _ (oJ h))
 ·exact gn 5 [9] [0] [.num l.length,bF] (A2 (lenM A2_Int.enc l) h2 T1) (hE _ (oJ h))
theorem lorryref12_faults_J1_ok (Γ:Gam) (rv:List T_api_Fault) (orders:Int) (l:List A2_Int) (word:ByteArray) (turned:Bool) (l1:List T_api_Fault) (h:lorryref12_faults_J1 orders l word turned l1 = some rv):Go Tryd.prog Tryd.f104 [] Γ (one (.sl false 2 (rv.map T_api_Fault.enc))) [] ⟨[.c 15],⟨123,[(0,one (.int .i64 orders)),(1,one (.sl false 2 (l.map A2_Int.enc))),(2,one (.str word)),(3,one (.bool turned)),(9,one (.os 0 2 0 (l1.map T_api_Fault.enc).length))],[some ⟨false,2,49,(l1.map T_api_Fault.enc)⟩]⟩⟩:=by
 unfold lorryref12_faults_J1 at h
 obtain ⟨e1,h21,h⟩:=bnd_elim h
 refine gn 5 [0,1,2,3,9,10] [0] [] T1 (lorryref12_faults_L1_ok Γ rv orders l word turned _ _ h21 ?_)
 obtain ⟨l3,rfl⟩:∃ x,x = e1:=⟨_,rfl⟩
 replace h:(some l3:Option (List T_api_Fault)) = some _:=h
 obtain rfl:=Option.some.inj h
 exact gr 2 [] [.wait 4,.frz 0] (A1 (eL l3 T_api_Fault.enc) (A2 (eL l3 T_api_Fault.enc) (eL l3 T_api_Fault.enc) T1))
theorem lorryref12_faults_ok (orders:Int) (l:List A2_Int) (word:ByteArray) (turned:Bool) (rv:List T_api_Fault) (h:lorryref12_faults orders l word turned = some rv):AFn Tryd.prog 104 [.one (.int .i64 orders),.one (.sl false 2 (l.map A2_Int.enc)),.one (.str word),.one (.bool turned)] [] (one (.sl false 2 (rv.map T_api_Fault.enc))) []:=by
 refine afn_of Tryd.func104 (by kernel_rfl) (by kernel_rfl) (fun Γ=>?_)
 unfold lorryref12_faults at h
 rcases br_elim h with ⟨h0,h⟩|⟨h0,h⟩
 ·obtain ⟨h1,h⟩:=chk_elim h
  exact gn 9 [0,1,2,3,9] [1] [.num l.length,bT,.rows ([(T_api_Fault.mk 4 word)].map T_api_Fault.enc)] (A2 (lenM A2_Int.enc l) h0 (A4 (Eq.refl ([(T_api_Fault.mk 4 word)].map T_api_Fault.enc).length) (Eq.refl ([(T_api_Fault.mk 4 word)].map T_api_Fault.enc)) (okLe (l:=([(T_api_Fault.mk 4 word)]:List T_api_Fault)) T_api_Fault.enc h1) (okLe2 (l:=([(T_api_Fault.mk 4 word)]:List T_api_Fault)) (b:=24) T_api_Fault.enc (by decide) h1) T1)) (lorryref12_faults_J1_ok Γ rv orders l word turned [(T_api_Fault.mk 4 word)] h)
 ·exact gn 9 [0,1,2,3,9] [0] [.num l.length,bF,.wait 1,.adopt 9 2 49] (A2 (lenM A2_Int.enc l) h0 T1) (lorryref12_faults_J1_ok Γ rv orders l word turned [] h)
def lorryref12_faults_own_L2_C (Γ:Gam) (rv:List T_api_Fault) (orders:Int) (l:List A2_Int) (word:ByteArray) (turned:Bool) (l2:List T_api_Fault) (i:Int) (x0:A2_Int) (r:ByteArray) (twice:Bool) (k:Int):Prop:=Go Tryd.prog Tryd.f104 [] Γ (one (.os 0 2 0 (rv.map T_api_Fault.enc).length)) [some ⟨false,2,49,(rv.map T_api_Fault.enc)⟩] ⟨[.c 1001972,.l 1001972,.b 2,.c 125247,.b 1,.c 979,.l 244,.b 0,.c 31],⟨123,[(0,one (.int .i64 orders)),(1,one (.sl false 2 (l.map A2_Int.enc))),(2,one (.str word)),(3,one (.bool turned)),(9,one (.os 0 2 0 (l2.map T_api_Fault.enc).length)),(10,one (.int .i64 i)),(11,one (.int .i64 x0.x0)),(12,one (.int .i64 x0.x1)),(13,one (.str (catS (catS word s___7215) r))),(14,one (.bool twice)),(15,one (.int .i64 k))],[some ⟨false,2,49,(l2.map T_api_Fault.enc)⟩]⟩⟩
def lorryref12_faults_own_L2_D0 (Γ:Gam) (rv:List T_api_Fault) (orders:Int) (l:List A2_Int) (word:ByteArray) (turned:Bool) (l2:List T_api_Fault) (i:Int) (x0:A2_Int) (r:ByteArray) (twice1:Bool):Prop:=Go Tryd.prog Tryd.f104 [] Γ (one (.os 0 2 0 (rv.map T_api_Fault.enc).length)) [some ⟨false,2,49,(rv.map T_api_Fault.enc)⟩] ⟨[.c 125247,.b 1,.c 979,.l 244,.b 0,.c 31],⟨123,[(0,one (.int .i64 orders)),(1,one (.sl false 2 (l.map A2_Int.enc))),(2,one (.str word)),(3,one (.bool turned)),(9,one (.os 0 2 0 (l2.map T_api_Fault.enc).length)),(10,one (.int .i64 i)),(13,one (.str (catS (catS word s___7215) r))),(14,one (.bool twice1))],[some ⟨false,2,49,(l2.map T_api_Fault.enc)⟩]⟩⟩
def lorryref12_faults_own_L1_C (Γ:Gam) (rv:List T_api_Fault) (orders:Int) (l:List A2_Int) (word:ByteArray) (turned:Bool) (l2:List T_api_Fault) (i:Int):Prop:=Go Tryd.prog Tryd.f104 [] Γ (one (.os 0 2 0 (rv.map T_api_Fault.enc).length)) [some ⟨false,2,49,(rv.map T_api_Fault.enc)⟩] ⟨[.c 244,.l 244,.b 0,.c 31],⟨123,[(0,one (.int .i64 orders)),(1,one (.sl false 2 (l.map A2_Int.enc))),(2,one (.str word)),(3,one (.bool turned)),(9,one (.os 0 2 0 (l2.map T_api_Fault.enc).length)),(10,one (.int .i64 i))],[some ⟨false,2,49,(l2.map T_api_Fault.enc)⟩]⟩⟩
def lorryref12_faults_own_L1_D0 (Γ:Gam) (rv:List T_api_Fault) (orders:Int) (l:List A2_Int) (word:ByteArray) (turned:Bool) (l3:List T_api_Fault):Prop:=Go Tryd.prog Tryd.f104 [] Γ (one (.os 0 2 0 (rv.map T_api_Fault.enc).length)) [some ⟨false,2,49,(rv.map T_api_Fault.enc)⟩] ⟨[.c 31],⟨123,[(9,one (.os 0 2 0 (l3.map T_api_Fault.enc).length))],[some ⟨false,2,49,(l3.map T_api_Fault.enc)⟩]⟩⟩
theorem lorryref12_faults_own_L2_ok (Γ:Gam) (rv:List T_api_Fault) (orders:Int) (l:List A2_Int) (word:ByteArray) (turned:Bool) (l2:List T_api_Fault) (i:Int) (x0:A2_Int) (r:ByteArray) (s:Bool × Int) (e:Bool) (h:loopF (fun s=>lorryref12_faults_own_L2 orders l word turned l2 i x0 r s.1 s.2) s = some e) (hD:lorryref12_faults_own_L2_D0 Γ rv orders l word turned l2 i x0 r e):lorryref12_faults_own_L2_C Γ rv orders l word turned l2 i x0 r s.1 s.2:=by
 refine loop_ind (C:=fun (s:Bool × Int)=>lorryref12_faults_own_L2_C Γ rv orders l word turned l2 i x0 r s.1 s.2) (D:=fun (e:Bool)=>lorryref12_faults_own_L2_D0 Γ rv orders l word turned l2 i x0 r e) ?_ h hD
 clear h hD s e
 rintro ⟨twice,k⟩ z_ h hI hE
 replace h:lorryref12_faults_own_L2 orders l word turned l2 i x0 r twice k = _:=h
 unfold lorryref12_faults_own_L2 at h
 rcases br_elim h with ⟨h9,h⟩|⟨h9,h⟩
 ·rcases br_elim h with ⟨h10,h⟩|⟨h10,h⟩
  ·exact gn 11 [0,1,2,3,9,10,11,12,13,14,15] [0] [bT,bT,bT,bT,bT,bT,bT,bT,bT,kS,kS,kS,kS,kS,kS,kS,bT,bT,bT,bT,kS,kS,kS,kS,kS,kS,kS,bT,bT,kS,kS,kS,kS,kS,kS,kS,bT,bT] (A2 h9 h10 (A4 h10 h10 h10 h10 (A8 h10 h10 h10 fZ fZ fZ fZ fZ (A8 fZ fZ h10 h10 rT rT fZ fZ (A8 fZ fZ fZ fZ fZ rT rT fZ (A8 fZ fZ fZ fZ fZ fZ rT rT T1)))))) (hI _ (oJ h))
  ·obtain ⟨x1,h11,h⟩:=bnd_elim h
   rcases br_elim h with ⟨h12,h⟩|⟨h12,h⟩
   ·rcases br_elim h with ⟨h13,h⟩|⟨h13,h⟩
    ·exact gn 11 [0,1,2,3,9,10,11,12,13,14,15] [0] [bT,bF,bF,bF,.cells (A2_Int.enc x1),bF,bF,bF,bF,bF,bT,bT,bT,.cells (A2_Int.enc x1),bT,bT,bT,bT,bF,bT,bF,bT,bT,kS,kS,kS,kS,kS,kS,kS,bT,bT,kS,kS,kS,kS,kS,kS,kS,bT,bT] (A1 h9 (A4 h10 h10 h10 (getM A2_Int.enc h11) (A8 h10 (by decide:(0:Int) ≤ 0) (by decide:(0:Int) < 2) h10 h10 h10 h10 h12 (A8 h12 h12 (getM A2_Int.enc h11) h12 (by decide:(0:Int) ≤ 1) (by decide:(1:Int) < 2) h12 h12 (A8 h12 h10 h12 h10 h13 h13 fZ fZ (A8 fZ fZ fZ fZ fZ h13 h13 fZ (A8 fZ fZ fZ fZ fZ fZ h13 h13 T1))))))) (hI _ (oJ h))
    ·rcases br_elim h with ⟨h14,h⟩|⟨h14,h⟩
     ·rcases br_elim h with ⟨h15,h⟩|⟨h15,h⟩
      ·exact gn 11 [0,1,2,3,9,10,11,12,13,14,15] [0] [bT,bF,bF,bF,.cells (A2_Int.enc x1),bF,bF,bF,bF,bF,bT,bT,bT,.cells (A2_Int.enc x1),bT,bT,bT,bT,bF,bT,bF,bF,bF,bT,bT,bT,.cells (A2_Int.enc x1),bT,bT,bT,bT,bF,bT,bF,bT,bT,bT,.cells (A2_Int.enc x1),bT,bT,bT,bT,bF,bT,bF] (A1 h9 (A4 h10 h10 h10 (getM A2_Int.enc h11) (A8 h10 (by decide:(0:Int) ≤ 0) (by decide:(0:Int) < 2) h10 h10 h10 h10 h12 (A8 h12 h12 (getM A2_Int.enc h11) h12 (by decide:(0:Int) ≤ 1) (by decide:(1:Int) < 2) h12 h12 (A8 h12 h10 h12 h10 h13 h13 h14 h14 (A8 h14 (getM A2_Int.enc h11) h14 (by decide:(0:Int) ≤ 0) (by decide:(0:Int) < 2) h14 h14 h14 (A8 h13 h14 h13 h15 h15 h15 (getM A2_Int.enc h11) h15 (A8 (by decide:(0:Int) ≤ 1) (by decide:(1:Int) < 2) h15 h15 h15 h13 h15 h13 T1)))))))) (hI _ (oJ h))
      ·exact gn 11 [0,1,2,3,9,10,11,12,13,14,15] [0] [bT,bF,bF,bF,.cells (A2_Int.enc x1),bF,bF,bF,bF,bF,bT,bT,bT,.cells (A2_Int.enc x1),bT,bT,bT,bT,bF,bT,bF,bF,bF,bT,bT,bT,.cells (A2_Int.enc x1),bT,bT,bT,bT,bF,bT,bF,bF,bF,bF,bF,bF,bF,bF,bF,bF,bF] (A2 h9 h10 (A8 h10 h10 (getM A2_Int.enc h11) h10 (by decide:(0:Int) ≤ 0) (by decide:(0:Int) < 2) h10 h10 (A8 h10 h10 h12 h12 h12 (getM A2_Int.enc h11) h12 (by decide:(0:Int) ≤ 1) (A8 (by decide:(1:Int) < 2) h12 h12 h12 h10 h12 h10 h13 (A8 h13 h14 h14 h14 (getM A2_Int.enc h11) h14 (by decide:(0:Int) ≤ 0) (by decide:(0:Int) < 2) (A8 h14 h14 h14 h13 h14 h13 h15 h15 (A8 h15 h15 h15 h15 h15 h13 h15 h13 T1))))))) (hI _ (oJ h))
     ·exact gn 11 [0,1,2,3,9,10,11,12,13,14,15] [0] [bT,bF,bF,bF,.cells (A2_Int.enc x1),bF,bF,bF,bF,bF,bT,bT,bT,.cells (A2_Int.enc x1),bT,bT,bT,bT,bF,bT,bF,bF,bF,bF,bF,bF,bF,bF,bF,bF,bF,bF,bF,bF,bF,bF,bF,bF,bF,bF,bF,bF,bF] (A1 h9 (A2 h10 h10 (A4 h10 (getM A2_Int.enc h11) h10 (by decide:(0:Int) ≤ 0) (A8 (by decide:(0:Int) < 2) h10 h10 h10 h10 h12 h12 h12 (A8 (getM A2_Int.enc h11) h12 (by decide:(0:Int) ≤ 1) (by decide:(1:Int) < 2) h12 h12 h12 h10 (A8 h12 h10 h13 h13 h14 h14 h14 h14 (A8 h14 h14 h14 h13 h14 h13 rF rF (A8 rF rF rF rF rF h13 rF h13 T1)))))))) (hI _ (oJ h))
   ·rcases br_elim h with ⟨h16,h⟩|⟨h16,h⟩
    ·rcases br_elim h with ⟨h17,h⟩|⟨h17,h⟩
     ·exact gn 11 [0,1,2,3,9,10,11,12,13,14,15] [0] [bT,bF,bF,bF,.cells (A2_Int.enc x1),bF,bF,bF,bF,bF,bF,bF,bF,bF,bF,bF,bF,bF,bF,bF,bF,bF,bT,bT,bT,.cells (A2_Int.enc x1),bT,bT,bT,bT,bF,bT,bF,bT,bT,bT,.cells (A2_Int.enc x1),bT,bT,bT,bT,bF,bT,bF] (A2 h9 h10 (A8 h10 h10 (getM A2_Int.enc h11) h10 (by decide:(0:Int) ≤ 0) (by decide:(0:Int) < 2) h10 h10 (A8 h10 h10 h12 h12 h12 h12 h12 h12 (A8 h12 h10 h12 h10 rF rF h16 h16 (A8 h16 (getM A2_Int.enc h11) h16 (by decide:(0:Int) ≤ 0) (by decide:(0:Int) < 2) h16 h16 h16 (A8 rF h16 rF h17 h17 h17 (getM A2_Int.enc h11) h17 (A8 (by decide:(0:Int) ≤ 1) (by decide:(1:Int) < 2) h17 h17 h17 rF h17 rF T1))))))) (hI _ (oJ h))
     ·exact gn 11 [0,1,2,3,9,10,11,12,13,14,15] [0] [bT,bF,bF,bF,.cells (A2_Int.enc x1),bF,bF,bF,bF,bF,bF,bF,bF,bF,bF,bF,bF,bF,bF,bF,bF,bF,bT,bT,bT,.cells (A2_Int.enc x1),bT,bT,bT,bT,bF,bT,bF,bF,bF,bF,bF,bF,bF,bF,bF,bF,bF] (A1 h9 (A2 h10 h10 (A4 h10 (getM A2_Int.enc h11) h10 (by decide:(0:Int) ≤ 0) (A8 (by decide:(0:Int) < 2) h10 h10 h10 h10 h12 h12 h12 (A8 h12 h12 h12 h12 h10 h12 h10 rF (A8 rF h16 h16 h16 (getM A2_Int.enc h11) h16 (by decide:(0:Int) ≤ 0) (by decide:(0:Int) < 2) (A8 h16 h16 h16 rF h16 rF h17 h17 (A8 h17 h17 h17 h17 h17 rF h17 rF T1)))))))) (hI _ (oJ h))
    ·exact gn 11 [0,1,2,3,9,10,11,12,13,14,15] [0] [bT,bF,bF,bF,.cells (A2_Int.enc x1),bF,bF,bF,bF,bF,bF,bF,bF,bF,bF,bF,bF,bF,bF,bF,bF,bF,bF,bF,bF,bF,bF,bF,bF,bF,bF,bF,bF,bF,bF,bF,bF,bF,bF,bF,bF,bF] (A4 h9 h10 h10 h10 (A8 (getM A2_Int.enc h11) h10 (by decide:(0:Int) ≤ 0) (by decide:(0:Int) < 2) h10 h10 h10 h10 (A8 h12 h12 h12 h12 h12 h12 h12 h10 (A8 h12 h10 rF rF h16 h16 h16 h16 (A8 h16 h16 h16 rF h16 rF rF rF (A8 rF rF rF rF rF rF rF rF T1)))))) (hI _ (oJ h))
 ·exact gn 5 [0,1,2,3,9,10,13,14] [0] [bF] (A1 h9 T1) (hE _ (oJ h))
theorem lorryref12_faults_own_L1_ok (Γ:Gam) (rv:List T_api_Fault) (orders:Int) (l:List A2_Int) (word:ByteArray) (turned:Bool) (s:List T_api_Fault × Int) (e:List T_api_Fault) (h:loopF (fun s=>lorryref12_faults_own_L1 orders l word turned s.1 s.2) s = some e) (hD:lorryref12_faults_own_L1_D0 Γ rv orders l word turned e):lorryref12_faults_own_L1_C Γ rv orders l word turned s.1 s.2:=by
 refine loop_ind (C:=fun (s:List T_api_Fault × Int)=>lorryref12_faults_own_L1_C Γ rv orders l word turned s.1 s.2) (D:=fun (e:List T_api_Fault)=>lorryref12_faults_own_L1_D0 Γ rv orders l word turned e) ?_ h hD
 clear h hD s e
 rintro ⟨l2,i⟩ z_ h hI hE
 replace h:lorryref12_faults_own_L1 orders l word turned l2 i = _:=h
 unfold lorryref12_faults_own_L1 at h
 rcases br_elim h with ⟨h2,h⟩|⟨h2,h⟩
 ·obtain ⟨x0,h3,h⟩:=bnd_elim h
  obtain ⟨h4,h⟩:=chk_elim h
  obtain ⟨r,h5,h⟩:=bnd_elim h
  obtain ⟨h6,h⟩:=chk_elim h
  rcases br_elim h with ⟨h7,h⟩|⟨h7,h⟩
  ·obtain ⟨h8,h⟩:=chk_elim h
   exact gn 22 [0,1,2,3,9,10] [2] [.num l.length,bT,.cells (A2_Int.enc x0),.cells (A2_Int.enc x0),.call [] (one (.str r)) [],kP,kP,kP,kP,kP,kP,kP,kP,kP,kP,kP,kP,kP,kP,kP,bT,.rows ((l2 ++ [(T_api_Fault.mk 2 (catS (catS word s___7215) r))]).map T_api_Fault.enc)] (A4 (lenM A2_Int.enc l) h2 (getM A2_Int.enc h3) (by decide:(0:Int) ≤ 0) (A8 (by decide:(0:Int) < 2) (getM A2_Int.enc h3) (by decide:(0:Int) ≤ 1) (by decide:(1:Int) < 2) h4 (lorryref12_decimal_ok i r h5) h6 (fun (h0:(ltI x0.x0 0) = false)=>h0) (A8 (fun (h0:(ltI x0.x0 0) = false)=>h0) (fun (h0:True∧(ltI x0.x0 0) = false)=>h0.2) (fun (h0:((ltI x0.x0 0) || (geI x0.x0 orders)) = false)=>h0) (fun (h0:True∧((ltI x0.x0 0) || (geI x0.x0 orders)) = false)=>h0.2) (fun (h0:(((ltI x0.x0 0) || (geI x0.x0 orders)) || (ltI x0.x1 0)) = false)=>h0) (fun (h0:(((ltI x0.x0 0) || (geI x0.x0 orders)) || (ltI x0.x1 0)) = false)=>h0) (fun (h0:True∧(((ltI x0.x0 0) || (geI x0.x0 orders)) || (ltI x0.x1 0)) = false)=>h0.2) (fun (h0:((((ltI x0.x0 0) || (geI x0.x0 orders)) || (ltI x0.x1 0)) || (geI x0.x1 orders)) = false)=>h0) (A8 (fun (h0:((((ltI x0.x0 0) || (geI x0.x0 orders)) || (ltI x0.x1 0)) || (geI x0.x1 orders)) = false)=>h0) (fun (h0:True∧((((ltI x0.x0 0) || (geI x0.x0 orders)) || (ltI x0.x1 0)) || (geI x0.x1 orders)) = false)=>h0.2) h7 (Eq.refl ([(T_api_Fault.mk 2 (catS (catS word s___7215) r))].map T_api_Fault.enc).length) (eL l2 T_api_Fault.enc) (appM T_api_Fault.enc l2 [(T_api_Fault.mk 2 (catS (catS word s___7215) r))]) (okLe (l:=((l2 ++ [(T_api_Fault.mk 2 (catS (catS word s___7215) r))]):List T_api_Fault)) T_api_Fault.enc h8) (okLe2 (l:=((l2 ++ [(T_api_Fault.mk 2 (catS (catS word s___7215) r))]):List T_api_Fault)) (b:=24) T_api_Fault.enc (by decide) h8) T1)))) (hI _ (oJ h))
  ·obtain ⟨e0,h18,h⟩:=bnd_elim h
   refine gn 25 [0,1,2,3,9,10,11,12,13,14,15] [0] [.num l.length,bT,.cells (A2_Int.enc x0),.cells (A2_Int.enc x0),.call [] (one (.str r)) [],kP,kP,kP,kP,kP,kP,kP,kP,kP,kP,kP,kP,kP,kP,kP,bF] (A1 (lenM A2_Int.enc l) (A2 h2 (getM A2_Int.enc h3) (A4 (by decide:(0:Int) ≤ 0) (by decide:(0:Int) < 2) (getM A2_Int.enc h3) (by decide:(0:Int) ≤ 1) (A8 (by decide:(1:Int) < 2) h4 (lorryref12_decimal_ok i r h5) h6 (fun (h0:(ltI x0.x0 0) = false)=>h0) (fun (h0:(ltI x0.x0 0) = false)=>h0) (fun (h0:True∧(ltI x0.x0 0) = false)=>h0.2) (fun (h0:((ltI x0.x0 0) || (geI x0.x0 orders)) = false)=>h0) (A8 (fun (h0:True∧((ltI x0.x0 0) || (geI x0.x0 orders)) = false)=>h0.2) (fun (h0:(((ltI x0.x0 0) || (geI x0.x0 orders)) || (ltI x0.x1 0)) = false)=>h0) (fun (h0:(((ltI x0.x0 0) || (geI x0.x0 orders)) || (ltI x0.x1 0)) = false)=>h0) (fun (h0:True∧(((ltI x0.x0 0) || (geI x0.x0 orders)) || (ltI x0.x1 0)) = false)=>h0.2) (fun (h0:((((ltI x0.x0 0) || (geI x0.x0 orders)) || (ltI x0.x1 0)) || (geI x0.x1 orders)) = false)=>h0) (fun (h0:((((ltI x0.x0 0) || (geI x0.x0 orders)) || (ltI x0.x1 0)) || (geI x0.x1 orders)) = false)=>h0) (fun (h0:True∧((((ltI x0.x0 0) || (geI x0.x0 orders)) || (ltI x0.x1 0)) || (geI x0.x1 orders)) = false)=>h0.2) h7 T1))))) (lorryref12_faults_own_L2_ok Γ rv orders l word turned l2 i x0 r _ _ h18 ?_)
   obtain ⟨twice1,rfl⟩:∃ x,x = e0:=⟨_,rfl⟩
   replace h:(br twice1 (chk (okN (l2 ++ [(T_api_Fault.mk 6 (catS (catS word s___7215) r))]).length 24) (some (.inl ((l2 ++ [(T_api_Fault.mk 6 (catS (catS word s___7215) r))]),(addK .i64 i 1))))) (some (.inl (l2,(addK .i64 i 1)))):Option ((List T_api_Fault × Int) ⊕ (List T_api_Fault))) = some _:=h
   rcases br_elim h with ⟨h19,h⟩|⟨h19,h⟩
   ·obtain ⟨h20,h⟩:=chk_elim h
    exact gn 7 [0,1,2,3,9,10] [2] [bT,.rows ((l2 ++ [(T_api_Fault.mk 6 (catS (catS word s___7215) r))]).map T_api_Fault.enc)] (A2 h19 (Eq.refl ([(T_api_Fault.mk 6 (catS (catS word s___7215) r))].map T_api_Fault.enc).length) (A4 (eL l2 T_api_Fault.enc) (appM T_api_Fault.enc l2 [(T_api_Fault.mk 6 (catS (catS word s___7215) r))]) (okLe (l:=((l2 ++ [(T_api_Fault.mk 6 (catS (catS word s___7215) r))]):List T_api_Fault)) T_api_Fault.enc h20) (okLe2 (l:=((l2 ++ [(T_api_Fault.mk 6 (catS (catS word s___7215) r))]):List T_api_Fault)) (b:=24) T_api_Fault.enc (by decide) h20) T1)) (hI _ (oJ h))
   ·exact gn 7 [0,1,2,3,9,10] [0] [bF] (A1 h19 T1) (hI _ (oJ h))
 ·exact gn 5 [9] [0] [.num l.length,bF] (A2 (lenM A2_Int.enc l) h2 T1) (hE _ (oJ h))
theorem lorryref12_faults_own_J1_ok (Γ:Gam) (rv:List T_api_Fault) (orders:Int) (l:List A2_Int) (word:ByteArray) (turned:Bool) (l1:List T_api_Fault) (h:lorryref12_faults_own_J1 orders l word turned l1 = some rv):Go Tryd.prog Tryd.f104 [] Γ (one (.os 0 2 0 (rv.map T_api_Fault.enc).length)) [some ⟨false,2,49,(rv.map T_api_Fault.enc)⟩] ⟨[.c 15],⟨123,[(0,one (.int .i64 orders)),(1,one (.sl false 2 (l.map A2_Int.enc))),(2,one (.str word)),(3,one (.bool turned)),(9,one (.os 0 2 0 (l1.map T_api_Fault.enc).length))],[some ⟨false,2,49,(l1.map T_api_Fault.enc)⟩]⟩⟩:=by
 unfold lorryref12_faults_own_J1 at h
 obtain ⟨e1,h21,h⟩:=bnd_elim h
 refine gn 5 [0,1,2,3,9,10] [0] [] T1 (lorryref12_faults_own_L1_ok Γ rv orders l word turned _ _ h21 ?_)
 obtain ⟨l3,rfl⟩:∃ x,x = e1:=⟨_,rfl⟩
 replace h:(some l3:Option (List T_api_Fault)) = some _:=h
 obtain rfl:=Option.some.inj h
 exact gr 2 [0] [] T1
theorem lorryref12_faults_own_ok (orders:Int) (l:List A2_Int) (word:ByteArray) (turned:Bool) (rv:List T_api_Fault) (h:lorryref12_faults_own orders l word turned = some rv):AFn Tryd.prog 104 [.one (.int .i64 orders),.one (.sl false 2 (l.map A2_Int.enc)),.one (.str word),.one (.bool turned)] [] (one (.os 0 2 0 (rv.map T_api_Fault.enc).length)) [some ⟨false,2,49,(rv.map T_api_Fault.enc)⟩]:=by
 refine afn_of Tryd.func104 (by kernel_rfl) (by kernel_rfl) (fun Γ=>?_)
 unfold lorryref12_faults_own at h
 rcases br_elim h with ⟨h0,h⟩|⟨h0,h⟩
 ·obtain ⟨h1,h⟩:=chk_elim h
  exact gn 9 [0,1,2,3,9] [1] [.num l.length,bT,.rows ([(T_api_Fault.mk 4 word)].map T_api_Fault.enc)] (A2 (lenM A2_Int.enc l) h0 (A4 (Eq.refl ([(T_api_Fault.mk 4 word)].map T_api_Fault.enc).length) (Eq.refl ([(T_api_Fault.mk 4 word)].map T_api_Fault.enc)) (okLe (l:=([(T_api_Fault.mk 4 word)]:List T_api_Fault)) T_api_Fault.enc h1) (okLe2 (l:=([(T_api_Fault.mk 4 word)]:List T_api_Fault)) (b:=24) T_api_Fault.enc (by decide) h1) T1)) (lorryref12_faults_own_J1_ok Γ rv orders l word turned [(T_api_Fault.mk 4 word)] h)
 ·exact gn 9 [0,1,2,3,9] [0] [.num l.length,bF,.wait 1,.adopt 9 2 49] (A2 (lenM A2_Int.enc l) h0 T1) (lorryref12_faults_own_J1_ok Γ rv orders l word turned [] h)
theorem lorryref12_Check_ok (orders:Int) (apart:List A2_Int) (before:List A2_Int) (rv:List T_api_Fault) (h:lorryref12_Check orders apart before = some rv):AFn Tryd.prog 85 [.one (.int .i64 orders),.one (.sl false 2 (apart.map A2_Int.enc)),.one (.sl false 2 (before.map A2_Int.enc))] [] (one (.sl false 2 (rv.map T_api_Fault.enc))) []:=by
 refine afn_of Tryd.func85 (by kernel_rfl) (by kernel_rfl) (fun Γ=>?_)
 unfold lorryref12_Check at h
 obtain ⟨r,h0,h⟩:=bnd_elim h
 obtain ⟨r1,h1,h⟩:=bnd_elim h
 obtain ⟨h2,h⟩:=chk_elim h
 obtain rfl:=Option.some.inj h
 exact gr 6 [] [.call [] (one (.os 0 2 0 (r.map T_api_Fault.enc).length)) [some ⟨false,2,49,(r.map T_api_Fault.enc)⟩],.call [] (one (.sl false 2 (r1.map T_api_Fault.enc))) [],.rows ((r ++ r1).map T_api_Fault.enc),.wait 1,.frz 1] (A8 (lorryref12_faults_own_ok orders apart s_apart_bce1 true r h0) (lorryref12_faults_ok orders before s_before_2f44 false r1 h1) (eL r T_api_Fault.enc) (appM T_api_Fault.enc r r1) (okLe (l:=((r ++ r1):List T_api_Fault)) T_api_Fault.enc h2) (okLe2 (l:=((r ++ r1):List T_api_Fault)) (b:=24) T_api_Fault.enc (by decide) h2) (Eq.refl ((r ++ r1).map T_api_Fault.enc).length) (Eq.refl ((r ++ r1).map T_api_Fault.enc).length) T1)
def lorryref13_under_own_L1_C (Γ:Gam) (rv:List T_api_Fault) (word:ByteArray) (l:List T_api_Fault) (l1:List T_api_Fault) (i:Int):Prop:=Go Tryd.prog Tryd.f81 [] Γ (one (.os 0 2 0 (rv.map T_api_Fault.enc).length)) [some ⟨false,2,49,(rv.map T_api_Fault.enc)⟩] ⟨[.c 116,.l 116,.b 0,.c 15],⟨40,[(0,one (.str word)),(1,one (.sl false 2 (l.map T_api_Fault.enc))),(5,one (.os 0 2 0 (l1.map T_api_Fault.enc).length)),(6,one (.int .i64 i))],[some ⟨false,2,49,(l1.map T_api_Fault.enc)⟩]⟩⟩
def lorryref13_under_own_L1_D0 (Γ:Gam) (rv:List T_api_Fault) (word:ByteArray) (l:List T_api_Fault) (l2:List T_api_Fault):Prop:=Go Tryd.prog Tryd.f81 [] Γ (one (.os 0 2 0 (rv.map T_api_Fault.enc).length)) [some ⟨false,2,49,(rv.map T_api_Fault.enc)⟩] ⟨[.c 15],⟨40,[(5,one (.os 0 2 0 (l2.map T_api_Fault.enc).length))],[some ⟨false,2,49,(l2.map T_api_Fault.enc)⟩]⟩⟩
theorem lorryref13_under_own_J1_ok (Γ:Gam) (rv:List T_api_Fault) (word:ByteArray) (l:List T_api_Fault) (l1:List T_api_Fault) (i:Int) (at_:ByteArray) (x:(List T_api_Fault × Int) ⊕ (List T_api_Fault)) (h:lorryref13_under_own_J1 word l l1 i at_ = some x) (hI:∀ s:List T_api_Fault × Int,x = .inl s→lorryref13_under_own_L1_C Γ rv word l s.1 s.2) (hE:∀ e:List T_api_Fault,x = .inr e→lorryref13_under_own_L1_D0 Γ rv word l e):Go Tryd.prog Tryd.f81 [] Γ (one (.os 0 2 0 (rv.map T_api_Fault.enc).length)) [some ⟨false,2,49,(rv.map T_api_Fault.enc)⟩] ⟨[.c 3731,.b 1,.c 467,.l 116,.b 0,.c 15],⟨40,[(0,one (.str word)),(1,one (.sl false 2 (l.map T_api_Fault.enc))),(5,one (.os 0 2 0 (l1.map T_api_Fault.enc).length)),(6,one (.int .i64 i)),(7,one (.str at_))],[some ⟨false,2,49,(l1.map T_api_Fault.enc)⟩]⟩⟩:=by
 unfold lorryref13_under_own_J1 at h
 obtain ⟨x1,h5,h⟩:=bnd_elim h
 obtain ⟨h6,h⟩:=chk_elim h
 exact gn 4 [0,1,5,6] [2] [.cells (T_api_Fault.enc x1),.rows ((l1 ++ [(T_api_Fault.mk x1.err at_)]).map T_api_Fault.enc)] (A2 (getM T_api_Fault.enc h5) (Eq.refl ([(T_api_Fault.mk x1.err at_)].map T_api_Fault.enc).length) (A4 (eL l1 T_api_Fault.enc) (appM T_api_Fault.enc l1 [(T_api_Fault.mk x1.err at_)]) (okLe (l:=((l1 ++ [(T_api_Fault.mk x1.err at_)]):List T_api_Fault)) T_api_Fault.enc h6) (okLe2 (l:=((l1 ++ [(T_api_Fault.mk x1.err at_)]):List T_api_Fault)) (b:=24) T_api_Fault.enc (by decide) h6) T1)) (hI _ (oJ h))
theorem lorryref13_under_own_L1_ok (Γ:Gam) (rv:List T_api_Fault) (word:ByteArray) (l:List T_api_Fault) (s:List T_api_Fault × Int) (e:List T_api_Fault) (h:loopF (fun s=>lorryref13_under_own_L1 word l s.1 s.2) s = some e) (hD:lorryref13_under_own_L1_D0 Γ rv word l e):lorryref13_under_own_L1_C Γ rv word l s.1 s.2:=by
 refine loop_ind (C:=fun (s:List T_api_Fault × Int)=>lorryref13_under_own_L1_C Γ rv word l s.1 s.2) (D:=fun (e:List T_api_Fault)=>lorryref13_under_own_L1_D0 Γ rv word l e) ?_ h hD
 clear h hD s e
 rintro ⟨l1,i⟩ z_ h hI hE
 replace h:lorryref13_under_own_L1 word l l1 i = _:=h
 unfold lorryref13_under_own_L1 at h
 rcases br_elim h with ⟨h0,h⟩|⟨h0,h⟩
 ·obtain ⟨x0,h1,h⟩:=bnd_elim h
  rcases br_elim h with ⟨h2,h⟩|⟨h2,h⟩
  ·exact gn 14 [0,1,5,6,7] [0] [.num l.length,bT,.cells (T_api_Fault.enc x0),bF] (A4 (lenM T_api_Fault.enc l) h0 (getM T_api_Fault.enc h1) (notF h2) T1) (lorryref13_under_own_J1_ok Γ rv word l l1 i word _ h hI hE)
  ·obtain ⟨h3,h⟩:=chk_elim h
   obtain ⟨h4,h⟩:=chk_elim h
   exact gn 14 [0,1,5,6,7] [0] [.num l.length,bT,.cells (T_api_Fault.enc x0),bT,.cells (T_api_Fault.enc x0)] (A1 (lenM T_api_Fault.enc l) (A2 h0 (getM T_api_Fault.enc h1) (A4 (notT h2) h3 (getM T_api_Fault.enc h1) h4 T1))) (lorryref13_under_own_J1_ok Γ rv word l l1 i (catS (catS word s___7215) x0.at_) _ h hI hE)
 ·exact gn 5 [5] [0] [.num l.length,bF] (A2 (lenM T_api_Fault.enc l) h0 T1) (hE _ (oJ h))
theorem lorryref13_under_own_ok (word:ByteArray) (l:List T_api_Fault) (rv:List T_api_Fault) (h:lorryref13_under_own word l = some rv):AFn Tryd.prog 81 [.one (.str word),.one (.sl false 2 (l.map T_api_Fault.enc))] [] (one (.os 0 2 0 (rv.map T_api_Fault.enc).length)) [some ⟨false,2,49,(rv.map T_api_Fault.enc)⟩]:=by
 refine afn_of Tryd.func81 (by kernel_rfl) (by kernel_rfl) (fun Γ=>?_)
 unfold lorryref13_under_own at h
 obtain ⟨e0,h7,h⟩:=bnd_elim h
 refine gn 9 [0,1,5,6] [0] [.wait 12,.adopt 5 2 49] T1 (lorryref13_under_own_L1_ok Γ rv word l _ _ h7 ?_)
 obtain ⟨l2,rfl⟩:∃ x,x = e0:=⟨_,rfl⟩
 replace h:(some l2:Option (List T_api_Fault)) = some _:=h
 obtain rfl:=Option.some.inj h
 exact gr 2 [0] [] T1
theorem lorryref13_Check_ok (x0:T_api_Instance) (rv:List T_api_Fault) (h:lorryref13_Check x0 = some rv):AFn Tryd.prog 58 [.agg [.sl false 1 (x0.net.places.map e_str),.sl false 6 (x0.net.arcs.map T_api_Arc.enc),.sl false 14 (x0.types.map T_api_Type.enc),.sl false 16 (x0.orders.map T_api_Order.enc),.sl false 2 (x0.apart.map A2_Int.enc),.sl false 2 (x0.before.map A2_Int.enc)]] [] (one (.sl false 2 (rv.map T_api_Fault.enc))) []:=by
 refine afn_of Tryd.func58 (by kernel_rfl) (by kernel_rfl) (fun Γ=>?_)
 unfold lorryref13_Check at h
 obtain ⟨r,h0,h⟩:=bnd_elim h
 obtain ⟨r1,h1,h⟩:=bnd_elim h
 obtain ⟨r2,h2,h⟩:=bnd_elim h
 obtain ⟨r3,h3,h⟩:=bnd_elim h
 obtain ⟨h4,h⟩:=chk_elim h
 obtain ⟨r4,h5,h⟩:=bnd_elim h
 obtain ⟨r5,h6,h⟩:=bnd_elim h
 obtain ⟨r6,h7,h⟩:=bnd_elim h
 obtain ⟨h8,h⟩:=chk_elim h
 obtain ⟨r7,h9,h⟩:=bnd_elim h
 obtain ⟨r8,h10,h⟩:=bnd_elim h
 obtain ⟨h11,h⟩:=chk_elim h
 obtain rfl:=Option.some.inj h
 exact gr 12 [] [.call [] (one (.sl false 2 (r.map T_api_Fault.enc))) [],.call [] (one (.os 0 2 0 (r1.map T_api_Fault.enc).length)) [some ⟨false,2,49,(r1.map T_api_Fault.enc)⟩],.call [] (one (.sl false 2 (r2.map T_api_Fault.enc))) [],.call [] (one (.sl false 2 (r3.map T_api_Fault.enc))) [],.rows ((r1 ++ r3).map T_api_Fault.enc),.draw 13 [],.call [] (one (.int .i64 r4)) [],.num x0.types.length,.call [] (one (.sl false 2 (r5.map T_api_Fault.enc))) [],.call [] (one (.sl false 2 (r6.map T_api_Fault.enc))) [],.rows (((r1 ++ r3) ++ r6).map T_api_Fault.enc),.num x0.orders.length,.call [] (one (.sl false 2 (r7.map T_api_Fault.enc))) [],.call [] (one (.sl false 2 (r8.map T_api_Fault.enc))) [],.rows ((((r1 ++ r3) ++ r6) ++ r8).map T_api_Fault.enc),.wait 5,.frz 4] (A1 (lorryref09_Check_ok (T_api_Network.mk x0.net.places x0.net.arcs) r h0) (A2 (lorryref13_under_own_ok s_net_40fa r r1 h1) (lorryref10_Check_ok (T_api_Network.mk x0.net.places x0.net.arcs) x0.types r2 h2) (A8 (lorryref13_under_ok s_types_d14a r2 r3 h3) (eL r1 T_api_Fault.enc) (appM T_api_Fault.enc r1 r3) (okLe (l:=((r1 ++ r3):List T_api_Fault)) T_api_Fault.enc h4) (okLe2 (l:=((r1 ++ r3):List T_api_Fault)) (b:=24) T_api_Fault.enc (by decide) h4) (lorryref10_Dims_ok x0.types r4 h5) (lenM T_api_Type.enc x0.types) (lorryref11_Check_ok (T_api_Network.mk x0.net.places x0.net.arcs) r4 (lenI x0.types) x0.orders r5 h6) (A8 (lorryref13_under_ok s_orders_12c5 r5 r6 h7) (Eq.refl ((r1 ++ r3).map T_api_Fault.enc).length) (appM T_api_Fault.enc (r1 ++ r3) r6) (okLe (l:=(((r1 ++ r3) ++ r6):List T_api_Fault)) T_api_Fault.enc h8) (okLe2 (l:=(((r1 ++ r3) ++ r6):List T_api_Fault)) (b:=24) T_api_Fault.enc (by decide) h8) (lenM T_api_Order.enc x0.orders) (lorryref12_Check_ok (lenI x0.orders) x0.apart x0.before r7 h9) (lorryref13_under_ok s_rules_a4f8 r7 r8 h10) (A8 (Eq.refl (((r1 ++ r3) ++ r6).map T_api_Fault.enc).length) (appM T_api_Fault.enc ((r1 ++ r3) ++ r6) r8) (okLe (l:=((((r1 ++ r3) ++ r6) ++ r8):List T_api_Fault)) T_api_Fault.enc h11) (okLe2 (l:=((((r1 ++ r3) ++ r6) ++ r8):List T_api_Fault)) (b:=24) T_api_Fault.enc (by decide) h11) (Eq.refl ((((r1 ++ r3) ++ r6) ++ r8).map T_api_Fault.enc).length) (Eq.refl ((((r1 ++ r3) ++ r6) ++ r8).map T_api_Fault.enc).length) (Eq.refl ((((r1 ++ r3) ++ r6) ++ r8).map T_api_Fault.enc).length) (Eq.refl ((((r1 ++ r3) ++ r6) ++ r8).map T_api_Fault.enc).length) T1)))))
theorem lorrylaw18_right_ok (x0:T_api_Instance) (rv:Bool) (h:lorrylaw18_right x0 = some rv):AFn Tryd.prog 30 [.agg [.sl false 1 (x0.net.places.map e_str),.sl false 6 (x0.net.arcs.map T_api_Arc.enc),.sl false 14 (x0.types.map T_api_Type.enc),.sl false 16 (x0.orders.map T_api_Order.enc),.sl false 2 (x0.apart.map A2_Int.enc),.sl false 2 (x0.before.map A2_Int.enc)]] [] (one (.bool rv)) []:=by
 refine afn_of Tryd.func30 (by kernel_rfl) (by kernel_rfl) (fun Γ=>?_)
 unfold lorrylaw18_right at h
 obtain ⟨r,h0,h⟩:=bnd_elim h
 obtain rfl:=Option.some.inj h
 exact gr 4 [] [.call [] (one (.sl false 2 (r.map T_api_Fault.enc))) [],.num r.length] (A2 (lorryref13_Check_ok (T_api_Instance.mk (T_api_Network.mk x0.net.places x0.net.arcs) x0.types x0.orders x0.apart x0.before) r h0) (lenM T_api_Fault.enc r) T1)
theorem order_there_ok (l:List T_api_Order) (at_:Int) (rv:Bool) (h:order_there l at_ = some rv):AFn Tryd.prog 105 [.one (.sl false 16 (l.map T_api_Order.enc)),.one (.int .i64 at_)] [] (one (.bool rv)) []:=by
 refine afn_of Tryd.func105 (by kernel_rfl) (by kernel_rfl) (fun Γ=>?_)
 unfold order_there at h
 obtain rfl:=Option.some.inj h
 exact gr 4 [] [kP,kP,kP,.num l.length,kP,kP] (A1 (fun (h0:(geI at_ 0) = true)=>h0) (A4 (lenM T_api_Order.enc l) (fun (h0:(geI at_ 0) = true)=>h0) (fun (h0:(geI at_ 0) = true)=>h0) (fun (h0:True∧(geI at_ 0) = true)=>h0.2) T1))
theorem order_Stop_J1_ok (Γ:Gam) (rv:T_api_Stop × Int) (x1:T_api_Stop) (h:order_Stop_J1 x1 = some rv):Go Tryd.prog Tryd.f86 [] Γ (.tup [.agg [.int .i64 rv.1.place,.int .i64 rv.1.open_,.int .i64 rv.1.close,.int .i64 rv.1.service],.one (.int .i64 rv.2)]) [] ⟨[.c 31],⟨32,[(4,one (.op 0 4 0 0)),(6,one (.op 1 4 0 0))],[some ⟨true,4,83,[[.int .i64 0,.int .i64 0,.int .i64 0,.int .i64 0]]⟩,some ⟨true,4,83,[[.int .i64 x1.place,.int .i64 x1.open_,.int .i64 x1.close,.int .i64 x1.service]]⟩]⟩⟩:=by
 unfold order_Stop_J1 at h
 rcases br_elim h with ⟨h4,h⟩|⟨h4,h⟩
 ·obtain rfl:=Option.some.inj h
  exact gr 6 [] [bT] (A1 h4 T1)
 ·obtain rfl:=Option.some.inj h
  exact gr 7 [] [bF] (A1 h4 T1)
theorem order_Stop_ok (l:List T_api_Order) (v:T_api_Visit) (rv:T_api_Stop × Int) (h:order_Stop l v = some rv):AFn Tryd.prog 86 [.one (.sl false 16 (l.map T_api_Order.enc)),.agg [.int .i64 v.order,.bool v.drop]] [] (.tup [.agg [.int .i64 rv.1.place,.int .i64 rv.1.open_,.int .i64 rv.1.close,.int .i64 rv.1.service],.one (.int .i64 rv.2)]) []:=by
 refine afn_of Tryd.func86 (by kernel_rfl) (by kernel_rfl) (fun Γ=>?_)
 unfold order_Stop at h
 obtain ⟨r,h0,h⟩:=bnd_elim h
 rcases br_elim h with ⟨h1,h⟩|⟨h1,h⟩
 ·obtain ⟨x0,h2,h⟩:=bnd_elim h
  rcases br_elim h with ⟨h3,h⟩|⟨h3,h⟩
  ·exact gn 14 [4,6] [1,2] [.call [] (one (.bool r)) [],bF,.cells (T_api_Order.enc x0),bT,.cells (T_api_Order.enc x0)] (A1 (order_there_ok l v.order r h0) (A4 (notF h1) (getM T_api_Order.enc h2) h3 (getM T_api_Order.enc h2) T1)) (order_Stop_J1_ok Γ rv (T_api_Stop.mk x0.drop.place x0.drop.open_ x0.drop.close x0.drop.service) h)
  ·exact gn 14 [4,6] [1,2] [.call [] (one (.bool r)) [],bF,.cells (T_api_Order.enc x0),bF] (A4 (order_there_ok l v.order r h0) (notF h1) (getM T_api_Order.enc h2) h3 T1) (order_Stop_J1_ok Γ rv (T_api_Stop.mk x0.pick.place x0.pick.open_ x0.pick.close x0.pick.service) h)
 ·obtain rfl:=Option.some.inj h
  exact gr 8 [] [.call [] (one (.bool r)) [],bT] (A2 (order_there_ok l v.order r h0) (notT h1) T1)
def drive_plan_L1_C (Γ:Gam) (rv:T_drive_trip × Bool) (x0:T_api_Instance) (r:T_api_Route) (x1:T_api_Type) (l:List T_api_Stop) (v:Int):Prop:=Go Tryd.prog Tryd.f60 [] Γ (.tup [.agg [.sl false 1 (rv.1.x.net.places.map e_str),.sl false 6 (rv.1.x.net.arcs.map T_api_Arc.enc),.sl false 14 (rv.1.x.types.map T_api_Type.enc),.sl false 16 (rv.1.x.orders.map T_api_Order.enc),.sl false 2 (rv.1.x.apart.map A2_Int.enc),.sl false 2 (rv.1.x.before.map A2_Int.enc),.str rv.1.t.name,.int .i64 rv.1.t.count,.int .i64 rv.1.t.from_,.int .i64 rv.1.t.to_,.sl false 1 (rv.1.t.cap.map e_i64),.int .i64 rv.1.t.skills,.int .i64 rv.1.t.profile,.int .i64 rv.1.t.open_,.int .i64 rv.1.t.close,.int .i64 rv.1.t.drive,.int .i64 rv.1.t.rest_,.int .i64 rv.1.t.fixed,.int .i64 rv.1.t.perMile,.int .i64 rv.1.t.perTick,.int .i64 rv.1.r.type_,.int .i64 rv.1.r.start,.sl false 1 (rv.1.r.rests.map e_bool),.sl false 2 (rv.1.r.visits.map T_api_Visit.enc),.sl false 4 (rv.1.stops.map T_api_Stop.enc)],.one (.bool rv.2)]) [] ⟨[.c 244,.l 244,.b 0,.c 31],⟨78,[(2,one (.op 0 6 0 0)),(4,one (.op 1 25 0 0)),(6,one (.op 2 25 0 0)),(49,one (.sl false 2 (r.visits.map T_api_Visit.enc))),(50,one (.int .i64 (lenI r.visits))),(51,one (.int .i64 v))],[some ⟨true,6,56,[[.sl false 1 (x0.net.places.map e_str),.sl false 6 (x0.net.arcs.map T_api_Arc.enc),.sl false 14 (x0.types.map T_api_Type.enc),.sl false 16 (x0.orders.map T_api_Order.enc),.sl false 2 (x0.apart.map A2_Int.enc),.sl false 2 (x0.before.map A2_Int.enc)]]⟩,some ⟨true,25,107,[[.nils,.nils,.nils,.nils,.nils,.nils,.str ByteArray.empty,.int .i64 0,.int .i64 0,.int .i64 0,.nils,.int .i64 0,.int .i64 0,.int .i64 0,.int .i64 0,.int .i64 0,.int .i64 0,.int .i64 0,.int .i64 0,.int .i64 0,.int .i64 0,.int .i64 0,.nils,.nils,.nils]]⟩,some ⟨true,25,107,[[.sl false 1 (x0.net.places.map e_str),.sl false 6 (x0.net.arcs.map T_api_Arc.enc),.sl false 14 (x0.types.map T_api_Type.enc),.sl false 16 (x0.orders.map T_api_Order.enc),.sl false 2 (x0.apart.map A2_Int.enc),.sl false 2 (x0.before.map A2_Int.enc),.str x1.name,.int .i64 x1.count,.int .i64 x1.from_,.int .i64 x1.to_,.sl false 1 (x1.cap.map e_i64),.int .i64 x1.skills,.int .i64 x1.profile,.int .i64 x1.open_,.int .i64 x1.close,.int .i64 x1.drive,.int .i64 x1.rest_,.int .i64 x1.fixed,.int .i64 x1.perMile,.int .i64 x1.perTick,.int .i64 r.type_,.int .i64 r.start,.sl false 1 (r.rests.map e_bool),.sl false 2 (r.visits.map T_api_Visit.enc),.os 3 4 0 (l.map T_api_Stop.enc).length]]⟩,some ⟨false,4,83,(l.map T_api_Stop.enc)⟩]⟩⟩
def drive_plan_L1_D0 (Γ:Gam) (rv:T_drive_trip × Bool) (x0:T_api_Instance) (r:T_api_Route) (x1:T_api_Type) (l1:List T_api_Stop):Prop:=Go Tryd.prog Tryd.f60 [] Γ (.tup [.agg [.sl false 1 (rv.1.x.net.places.map e_str),.sl false 6 (rv.1.x.net.arcs.map T_api_Arc.enc),.sl false 14 (rv.1.x.types.map T_api_Type.enc),.sl false 16 (rv.1.x.orders.map T_api_Order.enc),.sl false 2 (rv.1.x.apart.map A2_Int.enc),.sl false 2 (rv.1.x.before.map A2_Int.enc),.str rv.1.t.name,.int .i64 rv.1.t.count,.int .i64 rv.1.t.from_,.int .i64 rv.1.t.to_,.sl false 1 (rv.1.t.cap.map e_i64),.int .i64 rv.1.t.skills,.int .i64 rv.1.t.profile,.int .i64 rv.1.t.open_,.int .i64 rv.1.t.close,.int .i64 rv.1.t.drive,.int .i64 rv.1.t.rest_,.int .i64 rv.1.t.fixed,.int .i64 rv.1.t.perMile,.int .i64 rv.1.t.perTick,.int .i64 rv.1.r.type_,.int .i64 rv.1.r.start,.sl false 1 (rv.1.r.rests.map e_bool),.sl false 2 (rv.1.r.visits.map T_api_Visit.enc),.sl false 4 (rv.1.stops.map T_api_Stop.enc)],.one (.bool rv.2)]) [] ⟨[.c 31],⟨78,[(4,one (.op 0 25 0 0)),(6,one (.op 1 25 0 0))],[some ⟨true,25,107,[[.nils,.nils,.nils,.nils,.nils,.nils,.str ByteArray.empty,.int .i64 0,.int .i64 0,.int .i64 0,.nils,.int .i64 0,.int .i64 0,.int .i64 0,.int .i64 0,.int .i64 0,.int .i64 0,.int .i64 0,.int .i64 0,.int .i64 0,.int .i64 0,.int .i64 0,.nils,.nils,.nils]]⟩,some ⟨true,25,107,[[.sl false 1 (x0.net.places.map e_str),.sl false 6 (x0.net.arcs.map T_api_Arc.enc),.sl false 14 (x0.types.map T_api_Type.enc),.sl false 16 (x0.orders.map T_api_Order.enc),.sl false 2 (x0.apart.map A2_Int.enc),.sl false 2 (x0.before.map A2_Int.enc),.str x1.name,.int .i64 x1.count,.int .i64 x1.from_,.int .i64 x1.to_,.sl false 1 (x1.cap.map e_i64),.int .i64 x1.skills,.int .i64 x1.profile,.int .i64 x1.open_,.int .i64 x1.close,.int .i64 x1.drive,.int .i64 x1.rest_,.int .i64 x1.fixed,.int .i64 x1.perMile,.int .i64 x1.perTick,.int .i64 r.type_,.int .i64 r.start,.sl false 1 (r.rests.map e_bool),.sl false 2 (r.visits.map T_api_Visit.enc),.os 2 4 0 (l1.map T_api_Stop.enc).length]]⟩,some ⟨false,4,83,(l1.map T_api_Stop.enc)⟩]⟩⟩
theorem drive_plan_L1_ok (Γ:Gam) (rv:T_drive_trip × Bool) (x0:T_api_Instance) (r:T_api_Route) (x1:T_api_Type) (s:List T_api_Stop × Int) (e:(List T_api_Stop) ⊕ (T_drive_trip × Bool)) (h:loopF (fun s=>drive_plan_L1 x0 r x1 s.1 s.2) s = some e) (hD:sel e (fun e=>drive_plan_L1_D0 Γ rv x0 r x1 e) (fun e=>e = rv)):drive_plan_L1_C Γ rv x0 r x1 s.1 s.2:=by
 refine loop_ind (C:=fun (s:List T_api_Stop × Int)=>drive_plan_L1_C Γ rv x0 r x1 s.1 s.2) (D:=fun (e:(List T_api_Stop) ⊕ (T_drive_trip × Bool))=>sel e (fun e=>drive_plan_L1_D0 Γ rv x0 r x1 e) (fun e=>e = rv)) ?_ h hD
 clear h hD s e
 rintro ⟨l,v⟩ z_ h hI hE
 replace h:drive_plan_L1 x0 r x1 l v = _:=h
 unfold drive_plan_L1 at h
 rcases br_elim h with ⟨h2,h⟩|⟨h2,h⟩
 ·obtain ⟨x2,h3,h⟩:=bnd_elim h
  obtain ⟨r1,h4,h⟩:=bnd_elim h
  rcases br_elim h with ⟨h5,h⟩|⟨h5,h⟩
  ·obtain rfl:=(hE _ (oJ h):_ = rv)
   exact gr 17 [] [bT,.cells (T_api_Visit.enc x2),.call [] (.tup [.agg [.int .i64 r1.1.place,.int .i64 r1.1.open_,.int .i64 r1.1.close,.int .i64 r1.1.service],.one (.int .i64 r1.2)]) [],kP,kP,kP,kP,bT,.wait 5,.nilB 1 0 1,.nilB 1 1 6,.nilB 1 2 14,.nilB 1 3 16,.nilB 1 4 2,.nilB 1 5 2,.nilB 1 10 1,.nilB 1 22 1,.nilB 1 23 2,.nilB 1 24 4] (A1 h2 (A2 (getM T_api_Visit.enc h3) (order_Stop_ok x0.orders x2 r1 h4) (A4 (fun (h0:(neI r1.2 0) = false)=>h0) (fun (h0:(neI r1.2 0) = false)=>h0) (fun (h0:True∧(neI r1.2 0) = false)=>h0.2) h5 T1)))
  ·obtain ⟨h6,h⟩:=chk_elim h
   exact gn 20 [2,4,6,49,50,51] [0,1,2,7] [bT,.cells (T_api_Visit.enc x2),.call [] (.tup [.agg [.int .i64 r1.1.place,.int .i64 r1.1.open_,.int .i64 r1.1.close,.int .i64 r1.1.service],.one (.int .i64 r1.2)]) [],kP,kP,kP,kP,bF,.rows ((l ++ [r1.1]).map T_api_Stop.enc)] (A4 h2 (getM T_api_Visit.enc h3) (order_Stop_ok x0.orders x2 r1 h4) (fun (h0:(neI r1.2 0) = false)=>h0) (A8 (fun (h0:(neI r1.2 0) = false)=>h0) (fun (h0:True∧(neI r1.2 0) = false)=>h0.2) h5 (Eq.refl ([r1.1].map T_api_Stop.enc).length) (eL l T_api_Stop.enc) (appM T_api_Stop.enc l [r1.1]) (okLe (l:=((l ++ [r1.1]):List T_api_Stop)) T_api_Stop.enc h6) (okLe2 (l:=((l ++ [r1.1]):List T_api_Stop)) (b:=32) T_api_Stop.enc (by decide) h6) T1)) (hI _ (oJ h))
 ·exact gn 5 [4,6] [1,2,3] [bF] (A1 h2 T1) (hE _ (oJ h))
theorem drive_plan_ok (x0:T_api_Instance) (r:T_api_Route) (rv:T_drive_trip × Bool) (h:drive_plan x0 r = some rv):AFn Tryd.prog 60 [.agg [.sl false 1 (x0.net.places.map e_str),.sl false 6 (x0.net.arcs.map T_api_Arc.enc),.sl false 14 (x0.types.map T_api_Type.enc),.sl false 16 (x0.orders.map T_api_Order.enc),.sl false 2 (x0.apart.map A2_Int.enc),.sl false 2 (x0.before.map A2_Int.enc)],.agg [.int .i64 r.type_,.int .i64 r.start,.sl false 1 (r.rests.map e_bool),.sl false 2 (r.visits.map T_api_Visit.enc)]] [] (.tup [.agg [.sl false 1 (rv.1.x.net.places.map e_str),.sl false 6 (rv.1.x.net.arcs.map T_api_Arc.enc),.sl false 14 (rv.1.x.types.map T_api_Type.enc),.sl false 16 (rv.1.x.orders.map T_api_Order.enc),.sl false 2 (rv.1.x.apart.map A2_Int.enc),.sl false 2 (rv.1.x.before.map A2_Int.enc),.str rv.1.t.name,.int .i64 rv.1.t.count,.int .i64 rv.1.t.from_,.int .i64 rv.1.t.to_,.sl false 1 (rv.1.t.cap.map e_i64),.int .i64 rv.1.t.skills,.int .i64 rv.1.t.profile,.int .i64 rv.1.t.open_,.int .i64 rv.1.t.close,.int .i64 rv.1.t.drive,.int .i64 rv.1.t.rest_,.int .i64 rv.1.t.fixed,.int .i64 rv.1.t.perMile,.int .i64 rv.1.t.perTick,.int .i64 rv.1.r.type_,.int .i64 rv.1.r.start,.sl false 1 (rv.1.r.rests.map e_bool),.sl false 2 (rv.1.r.visits.map T_api_Visit.enc),.sl false 4 (rv.1.stops.map T_api_Stop.enc)],.one (.bool rv.2)]) []:=by
 refine afn_of Tryd.func60 (by kernel_rfl) (by kernel_rfl) (fun Γ=>?_)
 unfold drive_plan at h
 rcases br_elim h with ⟨h0,h⟩|⟨h0,h⟩
 ·obtain rfl:=Option.some.inj h
  exact gr 8 [] [kP,kP,kP,kP,kP,.num x0.types.length,kP,kP,kP,kP,kP,kP,kP,kP,kP,kP,kP,kP,kP,.num r.visits.length,kP,kP,bT,.wait 5,.nilB 2 0 1,.nilB 2 1 6,.nilB 2 2 14,.nilB 2 3 16,.nilB 2 4 2,.nilB 2 5 2,.nilB 2 10 1,.nilB 2 22 1,.nilB 2 23 2,.nilB 2 24 4] (A1 (fun (h0:(ltI r.type_ 0) = false)=>h0) (A2 (fun (h0:(ltI r.type_ 0) = false)=>h0) (fun (h0:(ltI r.type_ 0) = false)=>h0) (A8 (lenM T_api_Type.enc x0.types) (fun (h0:(ltI r.type_ 0) = false)=>h0) (fun (h0:(ltI r.type_ 0) = false)=>h0) (fun (h0:True∧(ltI r.type_ 0) = false)=>h0.2) (fun (h0:((ltI r.type_ 0) || (geI r.type_ (lenI x0.types))) = false)=>h0) (fun (h0:((ltI r.type_ 0) || (geI r.type_ (lenI x0.types))) = false)=>h0) (fun (h0:True∧((ltI r.type_ 0) || (geI r.type_ (lenI x0.types))) = false)=>h0.2) (fun (h0:(((ltI r.type_ 0) || (geI r.type_ (lenI x0.types))) || (ltI r.start 0)) = false)=>h0) (A8 (fun (h0:(((ltI r.type_ 0) || (geI r.type_ (lenI x0.types))) || (ltI r.start 0)) = false)=>h0) (fun (h0:True∧(((ltI r.type_ 0) || (geI r.type_ (lenI x0.types))) || (ltI r.start 0)) = false)=>h0.2) (fun (h0:((((ltI r.type_ 0) || (geI r.type_ (lenI x0.types))) || (ltI r.start 0)) || (gtI r.start 4096)) = false)=>h0) (fun (h0:((((ltI r.type_ 0) || (geI r.type_ (lenI x0.types))) || (ltI r.start 0)) || (gtI r.start 4096)) = false)=>h0) (lenM T_api_Visit.enc r.visits) (fun (h0:((((ltI r.type_ 0) || (geI r.type_ (lenI x0.types))) || (ltI r.start 0)) || (gtI r.start 4096)) = false)=>h0) (fun (h0:True∧((((ltI r.type_ 0) || (geI r.type_ (lenI x0.types))) || (ltI r.start 0)) || (gtI r.start 4096)) = false)=>h0.2) h0 T1))))
 ·obtain ⟨x1,h1,h⟩:=bnd_elim h
  obtain ⟨e0,h7,h⟩:=bnd_elim h
  refine gn 14 [2,4,6,49,50,51] [0,2,3,4] [kP,kP,kP,kP,kP,.num x0.types.length,kP,kP,kP,kP,kP,kP,kP,kP,kP,kP,kP,kP,kP,.num r.visits.length,kP,kP,bF,.draw 10 [],.cells (T_api_Type.enc x1),.num r.visits.length,.wait 3,.adoptB 3 24 4 83] (A1 (fun (h0:(ltI r.type_ 0) = false)=>h0) (A4 (fun (h0:(ltI r.type_ 0) = false)=>h0) (fun (h0:(ltI r.type_ 0) = false)=>h0) (lenM T_api_Type.enc x0.types) (fun (h0:(ltI r.type_ 0) = false)=>h0) (A8 (fun (h0:(ltI r.type_ 0) = false)=>h0) (fun (h0:True∧(ltI r.type_ 0) = false)=>h0.2) (fun (h0:((ltI r.type_ 0) || (geI r.type_ (lenI x0.types))) = false)=>h0) (fun (h0:((ltI r.type_ 0) || (geI r.type_ (lenI x0.types))) = false)=>h0) (fun (h0:True∧((ltI r.type_ 0) || (geI r.type_ (lenI x0.types))) = false)=>h0.2) (fun (h0:(((ltI r.type_ 0) || (geI r.type_ (lenI x0.types))) || (ltI r.start 0)) = false)=>h0) (fun (h0:(((ltI r.type_ 0) || (geI r.type_ (lenI x0.types))) || (ltI r.start 0)) = false)=>h0) (fun (h0:True∧(((ltI r.type_ 0) || (geI r.type_ (lenI x0.types))) || (ltI r.start 0)) = false)=>h0.2) (A8 (fun (h0:((((ltI r.type_ 0) || (geI r.type_ (lenI x0.types))) || (ltI r.start 0)) || (gtI r.start 4096)) = false)=>h0) (fun (h0:((((ltI r.type_ 0) || (geI r.type_ (lenI x0.types))) || (ltI r.start 0)) || (gtI r.start 4096)) = false)=>h0) (lenM T_api_Visit.enc r.visits) (fun (h0:((((ltI r.type_ 0) || (geI r.type_ (lenI x0.types))) || (ltI r.start 0)) || (gtI r.start 4096)) = false)=>h0) (fun (h0:True∧((((ltI r.type_ 0) || (geI r.type_ (lenI x0.types))) || (ltI r.start 0)) || (gtI r.start 4096)) = false)=>h0.2) h0 (getM T_api_Type.enc h1) (lenM T_api_Visit.enc r.visits) T1)))) (drive_plan_L1_ok Γ rv x0 r x1 _ _ h7 ?_)
  rcases e0 with e0|e0
  ·obtain ⟨l1,rfl⟩:∃ x,x = e0:=⟨_,rfl⟩
   replace h:(some ((T_drive_trip.mk (T_api_Instance.mk (T_api_Network.mk x0.net.places x0.net.arcs) x0.types x0.orders x0.apart x0.before) x1 r l1),true):Option (T_drive_trip × Bool)) = some _:=h
   obtain rfl:=Option.some.inj h
   exact gr 2 [] [.wait 5,.frz 2] (A1 (eL l1 T_api_Stop.enc) (A2 (eL l1 T_api_Stop.enc) (eL l1 T_api_Stop.enc) T1))
  ·obtain ⟨r2,rfl⟩:∃ x,x = e0:=⟨_,rfl⟩
   replace h:(some r2:Option (T_drive_trip × Bool)) = some _:=h
   exact Option.some.inj h
theorem drive_trip_begin_ok (p:T_drive_trip) (rv:T_drive_label) (h:drive_trip_begin p = some rv):AFn Tryd.prog 63 [.agg [.sl false 1 (p.x.net.places.map e_str),.sl false 6 (p.x.net.arcs.map T_api_Arc.enc),.sl false 14 (p.x.types.map T_api_Type.enc),.sl false 16 (p.x.orders.map T_api_Order.enc),.sl false 2 (p.x.apart.map A2_Int.enc),.sl false 2 (p.x.before.map A2_Int.enc),.str p.t.name,.int .i64 p.t.count,.int .i64 p.t.from_,.int .i64 p.t.to_,.sl false 1 (p.t.cap.map e_i64),.int .i64 p.t.skills,.int .i64 p.t.profile,.int .i64 p.t.open_,.int .i64 p.t.close,.int .i64 p.t.drive,.int .i64 p.t.rest_,.int .i64 p.t.fixed,.int .i64 p.t.perMile,.int .i64 p.t.perTick,.int .i64 p.r.type_,.int .i64 p.r.start,.sl false 1 (p.r.rests.map e_bool),.sl false 2 (p.r.visits.map T_api_Visit.enc),.sl false 4 (p.stops.map T_api_Stop.enc)]] [] (.cm (.agg [.int .i64 rv.ready,.int .i64 rv.since,.bool rv.sheet.rest_,.int .i64 rv.sheet.depart,.sl false 4 (rv.sheet.times.map T_api_Time.enc),.int .i64 rv.sheet.end_,.int .i64 rv.sheet.miles])) []:=by
 refine afn_of Tryd.func63 (by kernel_rfl) (by kernel_rfl) (fun Γ=>?_)
 unfold drive_trip_begin at h
 obtain rfl:=Option.some.inj h
 exact gr 4 [] [.wait 15,.nilB 1 4 4] T1
theorem network_wayOf_ok (a:T_api_Arc) (rv:T_network_way) (h:network_wayOf a = some rv):AFn Tryd.prog 43 [.agg [.int .i64 a.from_,.int .i64 a.to_,.int .i64 a.profile,.int .i64 a.miles,.sl false 2 (a.travel.map T_api_Point.enc),.sl false 2 (a.slow.map T_api_Point.enc)]] [] (.cm (.agg [.int .i64 rv.from_,.int .i64 rv.to_,.int .i64 rv.profile])) []:=by
 refine afn_of Tryd.func43 (by kernel_rfl) (by kernel_rfl) (fun Γ=>?_)
 unfold network_wayOf at h
 obtain rfl:=Option.some.inj h
 exact gr 4 [] [] T1
def network_Find_L1_C (Γ:Gam) (rv:T_api_Arc × Bool) (n:T_api_Network) (profile:Int) (from_:Int) (to_:Int) (v:Int):Prop:=Go Tryd.prog Tryd.f17 [] Γ (.tup [.agg [.int .i64 rv.1.from_,.int .i64 rv.1.to_,.int .i64 rv.1.profile,.int .i64 rv.1.miles,.sl false 2 (rv.1.travel.map T_api_Point.enc),.sl false 2 (rv.1.slow.map T_api_Point.enc)],.one (.bool rv.2)]) [] ⟨[.c 116,.l 116,.b 0,.c 15],⟨31,[(8,one (.op 0 6 0 0)),(10,one (.op 1 3 0 0)),(18,one (.sl false 6 (n.arcs.map T_api_Arc.enc))),(19,one (.int .i64 (lenI n.arcs))),(20,one (.int .i64 v))],[some ⟨true,6,31,[[.int .i64 0,.int .i64 0,.int .i64 0,.int .i64 0,.nils,.nils]]⟩,some ⟨true,3,88,[[.int .i64 from_,.int .i64 to_,.int .i64 profile]]⟩]⟩⟩
def network_Find_L1_D0 (Γ:Gam) (rv:T_api_Arc × Bool) (n:T_api_Network) (profile:Int) (from_:Int) (to_:Int):Prop:=Go Tryd.prog Tryd.f17 [] Γ (.tup [.agg [.int .i64 rv.1.from_,.int .i64 rv.1.to_,.int .i64 rv.1.profile,.int .i64 rv.1.miles,.sl false 2 (rv.1.travel.map T_api_Point.enc),.sl false 2 (rv.1.slow.map T_api_Point.enc)],.one (.bool rv.2)]) [] ⟨[.c 15],⟨31,[(8,one (.op 0 6 0 0))],[some ⟨true,6,31,[[.int .i64 0,.int .i64 0,.int .i64 0,.int .i64 0,.nils,.nils]]⟩]⟩⟩
theorem network_Find_L1_ok (Γ:Gam) (rv:T_api_Arc × Bool) (n:T_api_Network) (profile:Int) (from_:Int) (to_:Int) (s:Int) (e:(Unit) ⊕ (T_api_Arc × Bool)) (h:loopF (fun s=>network_Find_L1 n profile from_ to_ s) s = some e) (hD:sel e (fun e=>network_Find_L1_D0 Γ rv n profile from_ to_) (fun e=>e = rv)):network_Find_L1_C Γ rv n profile from_ to_ s:=by
 refine loop_ind (C:=fun (s:Int)=>network_Find_L1_C Γ rv n profile from_ to_ s) (D:=fun (e:(Unit) ⊕ (T_api_Arc × Bool))=>sel e (fun e=>network_Find_L1_D0 Γ rv n profile from_ to_) (fun e=>e = rv)) ?_ h hD
 clear h hD s e
 intro v z_ h hI hE
 replace h:network_Find_L1 n profile from_ to_ v = _:=h
 unfold network_Find_L1 at h
 rcases br_elim h with ⟨h0,h⟩|⟨h0,h⟩
 ·obtain ⟨x0,h1,h⟩:=bnd_elim h
  obtain ⟨r,h2,h⟩:=bnd_elim h
  rcases br_elim h with ⟨h3,h⟩|⟨h3,h⟩
  ·obtain rfl:=(hE _ (oJ h):_ = rv)
   exact gr 14 [] [bT,.cells (T_api_Arc.enc x0),.draw 4 [],.call [] (.cm (.agg [.int .i64 r.from_,.int .i64 r.to_,.int .i64 r.profile])) [],bT] (A4 h0 (getM T_api_Arc.enc h1) (network_wayOf_ok x0 r h2) h3 T1)
  ·exact gn 16 [8,10,18,19,20] [0,1] [bT,.cells (T_api_Arc.enc x0),.draw 4 [],.call [] (.cm (.agg [.int .i64 r.from_,.int .i64 r.to_,.int .i64 r.profile])) [],bF] (A4 h0 (getM T_api_Arc.enc h1) (network_wayOf_ok x0 r h2) h3 T1) (hI _ (oJ h))
 ·exact gn 5 [8] [0] [bF] (A1 h0 T1) (hE _ (oJ h))
theorem network_Find_ok (n:T_api_Network) (profile:Int) (from_:Int) (to_:Int) (rv:T_api_Arc × Bool) (h:network_Find n profile from_ to_ = some rv):AFn Tryd.prog 17 [.agg [.sl false 1 (n.places.map e_str),.sl false 6 (n.arcs.map T_api_Arc.enc)],.one (.int .i64 profile),.one (.int .i64 from_),.one (.int .i64 to_)] [] (.tup [.agg [.int .i64 rv.1.from_,.int .i64 rv.1.to_,.int .i64 rv.1.profile,.int .i64 rv.1.miles,.sl false 2 (rv.1.travel.map T_api_Point.enc),.sl false 2 (rv.1.slow.map T_api_Point.enc)],.one (.bool rv.2)]) []:=by
 refine afn_of Tryd.func17 (by kernel_rfl) (by kernel_rfl) (fun Γ=>?_)
 unfold network_Find at h
 obtain ⟨e0,h4,h⟩:=bnd_elim h
 refine gn 9 [8,10,18,19,20] [1,2] [.num n.arcs.length] (A1 (lenM T_api_Arc.enc n.arcs) T1) (network_Find_L1_ok Γ rv n profile from_ to_ _ _ h4 ?_)
 rcases e0 with e0|e0
 ·replace h:(some ((T_api_Arc.mk 0 0 0 0 [] []),false):Option (T_api_Arc × Bool)) = some _:=h
  obtain rfl:=Option.some.inj h
  exact gr 2 [] [.wait 5,.nilB 0 4 2,.nilB 0 5 2] T1
 ·obtain ⟨r1,rfl⟩:∃ x,x = e0:=⟨_,rfl⟩
  replace h:(some r1:Option (T_api_Arc × Bool)) = some _:=h
  exact Option.some.inj h
theorem network_place_ok (n:T_api_Network) (i:Int) (rv:Bool) (h:network_place n i = some rv):AFn Tryd.prog 44 [.agg [.sl false 1 (n.places.map e_str),.sl false 6 (n.arcs.map T_api_Arc.enc)],.one (.int .i64 i)] [] (one (.bool rv)) []:=by
 refine afn_of Tryd.func44 (by kernel_rfl) (by kernel_rfl) (fun Γ=>?_)
 unfold network_place at h
 obtain rfl:=Option.some.inj h
 exact gr 4 [] [kP,kP,kP,kP,.num n.places.length,kP,kP] (A2 (fun (h0:(geI i 0) = true)=>h0) (fun (h0:(geI i 0) = true)=>h0) (A4 (lenM e_str n.places) (fun (h0:(geI i 0) = true)=>h0) (fun (h0:(geI i 0) = true)=>h0) (fun (h0:True∧(geI i 0) = true)=>h0.2) T1))
theorem travel_within_ok (n:Int) (least:Int) (most:Int) (rv:Bool) (h:travel_within n least most = some rv):AFn Tryd.prog 95 [.one (.int .i64 n),.one (.int .i64 least),.one (.int .i64 most)] [] (one (.bool rv)) []:=by
 refine afn_of Tryd.func95 (by kernel_rfl) (by kernel_rfl) (fun Γ=>?_)
 unfold travel_within at h
 obtain rfl:=Option.some.inj h
 exact gr 4 [] [kP,kP,kP,kP] (A1 (fun (h0:(geI n least) = true)=>h0) (A2 (fun (h0:(geI n least) = true)=>h0) (fun (h0:True∧(geI n least) = true)=>h0.2) T1))
theorem strconv_small_ok (i:Int) (rv:ByteArray) (h:strconv_small i = some rv):AFn Tryd.prog 120 [.one (.int .i64 i)] [] (one (.str rv)) []:=by
 refine afn_of Tryd.func120 (by kernel_rfl) (by kernel_rfl) (fun Γ=>?_)
 unfold strconv_small at h
 rcases br_elim h with ⟨h0,h⟩|⟨h0,h⟩
 ·obtain ⟨s0,h1,h⟩:=bnd_elim h
  obtain rfl:=Option.some.inj h
  exact gr 8 [] [bT] (A4 h0 (ss1 h1) (ss2 h1) (ss3 h1) T1)
 ·obtain ⟨s1,h2,h⟩:=bnd_elim h
  obtain rfl:=Option.some.inj h
  exact gr 9 [] [bF] (A4 h0 (ss1 h2) (ss2 h2) (ss3 h2) T1)
theorem strconv_log10Pow2_ok (x0:Int) (rv:Int) (h:strconv_log10Pow2 x0 = some rv):AFn Tryd.prog 124 [.one (.int .i64 x0)] [] (one (.int .i64 rv)) []:=by
 refine afn_of Tryd.func124 (by kernel_rfl) (by kernel_rfl) (fun Γ=>?_)
 unfold strconv_log10Pow2 at h
 obtain rfl:=Option.some.inj h
 exact gr 4 [] [] (A1 (by decide:(0:Int) ≤ 18) T1)
theorem bits_Len64_J2_ok (Γ:Gam) (rv:Int) (x2:Int) (n1:Int) (h:bits_Len64_J2 x2 n1 = some rv):Go Tryd.prog Tryd.f125 [] Γ (one (.int .i64 rv)) [] ⟨[.c 15],⟨25,[(0,one (.int .u64 x2)),(2,one (.int .i64 n1))],[]⟩⟩:=by
 unfold bits_Len64_J2 at h
 rcases br_elim h with ⟨h2,h⟩|⟨h2,h⟩
 ·obtain ⟨b,h3,h⟩:=bnd_elim h
  obtain rfl:=Option.some.inj h
  exact gr 9 [] [bT,.byte b] (A1 h2 (A2 (by decide:(0:Int) ≤ 8) h3 T1))
 ·obtain ⟨b1,h4,h⟩:=bnd_elim h
  obtain rfl:=Option.some.inj h
  exact gr 7 [] [bF,.byte b1] (A2 h2 h4 T1)
theorem bits_Len64_J1_ok (Γ:Gam) (rv:Int) (x1:Int) (n:Int) (h:bits_Len64_J1 x1 n = some rv):Go Tryd.prog Tryd.f125 [] Γ (one (.int .i64 rv)) [] ⟨[.c 7],⟨25,[(0,one (.int .u64 x1)),(2,one (.int .i64 n))],[]⟩⟩:=by
 unfold bits_Len64_J1 at h
 rcases br_elim h with ⟨h1,h⟩|⟨h1,h⟩
 ·exact gn 7 [0,2] [] [bT] (A2 h1 (by decide:(0:Int) ≤ 16) T1) (bits_Len64_J2_ok Γ rv (shrK .u64 x1 16) (addK .i64 n 16) h)
 ·exact gn 5 [0,2] [] [bF] (A1 h1 T1) (bits_Len64_J2_ok Γ rv x1 n h)
theorem bits_Len64_ok (x0:Int) (rv:Int) (h:bits_Len64 x0 = some rv):AFn Tryd.prog 125 [.one (.int .u64 x0)] [] (one (.int .i64 rv)) []:=by
 refine afn_of Tryd.func125 (by kernel_rfl) (by kernel_rfl) (fun Γ=>?_)
 unfold bits_Len64 at h
 rcases br_elim h with ⟨h0,h⟩|⟨h0,h⟩
 ·exact gn 9 [0,2] [] [bT] (A2 h0 (by decide:(0:Int) ≤ 32) T1) (bits_Len64_J1_ok Γ rv (shrK .u64 x0 32) 32 h)
 ·exact gn 7 [0,2] [] [bF] (A1 h0 T1) (bits_Len64_J1_ok Γ rv x0 0 h)
theorem strconv_bool2_int__ok (b:Bool) (rv:Int) (h:strconv_bool2_int_ b = some rv):AFn Tryd.prog 126 [.one (.bool b)] [] (one (.int .i64 rv)) []:=by
 refine afn_of Tryd.func126 (by kernel_rfl) (by kernel_rfl) (fun Γ=>?_)
 unfold strconv_bool2_int_ at h
 rcases br_elim h with ⟨h0,h⟩|⟨h0,h⟩
 ·obtain rfl:=Option.some.inj h
  exact gr 8 [] [bT] (A1 h0 T1)
 ·obtain rfl:=Option.some.inj h
  exact gr 9 [] [bF] (A1 h0 T1)
theorem strconv_numDigits_ok (d:Int) (rv:Int) (h:strconv_numDigits d = some rv):AFn Tryd.prog 121 [.one (.int .u64 d)] [] (one (.int .i64 rv)) []:=by
 refine afn_of Tryd.func121 (by kernel_rfl) (by kernel_rfl) (fun Γ=>?_)
 unfold strconv_numDigits at h
 obtain ⟨r,h0,h⟩:=bnd_elim h
 obtain ⟨r1,h1,h⟩:=bnd_elim h
 cases h
def strconv_formatBase10_L1_C (Γ:Gam) (rv:Unit) (a:List Int) (u:Int):Prop:=Go Tryd.prog Tryd.f122 [] Γ (.tup []) [] ⟨[.c 24,.l 24,.b 0,.c 7],⟨167,[(0,one (.sl false 1 (a.map e_u8))),(1,one (.int .u64 u)),(4,one (.int .i64 (lenI a)))],[]⟩⟩
def strconv_formatBase10_L1_D0 (Γ:Gam) (rv:Unit) (a:List Int) (u:Int):Prop:=Go Tryd.prog Tryd.f122 [] Γ (.tup []) [] ⟨[.c 7],⟨167,[(0,one (.sl false 1 (a.map e_u8))),(1,one (.int .u64 u)),(4,one (.int .i64 (lenI a)))],[]⟩⟩
theorem strconv_formatBase10_L1_ok (Γ:Gam) (rv:Unit) (a:List Int) (u:Int) (s:Unit) (e:Unit) (h:loopF (fun (_:Unit)=>strconv_formatBase10_L1 a u) s = some e) (hD:strconv_formatBase10_L1_D0 Γ rv a u):strconv_formatBase10_L1_C Γ rv a u:=by
 refine loop_ind (C:=fun (s:Unit)=>strconv_formatBase10_L1_C Γ rv a u) (D:=fun (e:Unit)=>strconv_formatBase10_L1_D0 Γ rv a u) ?_ h hD
 clear h hD s e
 intro s z_ h hI hE
 replace h:strconv_formatBase10_L1 a u = _:=h
 unfold strconv_formatBase10_L1 at h
 rcases br_elim h with ⟨h0,h⟩|⟨h0,h⟩
 ·obtain ⟨b,h1,h⟩:=bnd_elim h
  obtain ⟨b1,h2,h⟩:=bnd_elim h
  obtain ⟨x0,h3,h⟩:=bnd_elim h
  cases h
 ·exact gn 5 [0,1,4] [] [bF] (A1 h0 T1) (hE _ (oJ h))
theorem strconv_formatBase10_ok (a:List Int) (u:Int) (rv:Unit) (h:strconv_formatBase10 a u = some rv):AFn Tryd.prog 122 [.one (.sl false 1 (a.map e_u8)),.one (.int .u64 u)] [] (.tup []) []:=by
 refine afn_of Tryd.func122 (by kernel_rfl) (by kernel_rfl) (fun Γ=>?_)
 unfold strconv_formatBase10 at h
 obtain ⟨e0,h4,h⟩:=bnd_elim h
 refine gn 5 [0,1,4] [] [.num a.length] (A1 (lenM e_u8 a) T1) (strconv_formatBase10_L1_ok Γ rv a u _ _ h4 ?_)
 replace h:(br (geI (lenI a) 4) (bnd (getS s_000102030405_db3e (addK .u32 (mulK .u32 (remK (remK (cvK .u32 u) 10000) 100) 2) 1)) fun b2=>bnd (getS s_000102030405_db3e (mulK .u32 (remK (remK (cvK .u32 u) 10000) 100) 2)) fun b3=>bnd (getI a (subK .i64 (lenI a) 1)) fun x1=>none) (br (geI (lenI a) 2) (bnd (getS s_000102030405_db3e (addK .u32 (mulK .u32 (remK (cvK .u32 u) 100) 2) 1)) fun b4=>bnd (getS s_000102030405_db3e (mulK .u32 (remK (cvK .u32 u) 100) 2)) fun b5=>bnd (getI a (subK .i64 (lenI a) 1)) fun x2=>none) (br (gtI (lenI a) 0) (bnd (getI a 0) fun x3=>none) (some ()))):Option Unit) = some _:=h
 rcases br_elim h with ⟨h5,h⟩|⟨h5,h⟩
 ·obtain ⟨b2,h6,h⟩:=bnd_elim h
  obtain ⟨b3,h7,h⟩:=bnd_elim h
  obtain ⟨x1,h8,h⟩:=bnd_elim h
  cases h
 ·rcases br_elim h with ⟨h9,h⟩|⟨h9,h⟩
  ·obtain ⟨b4,h10,h⟩:=bnd_elim h
   obtain ⟨b5,h11,h⟩:=bnd_elim h
   obtain ⟨x2,h12,h⟩:=bnd_elim h
   cases h
  ·rcases br_elim h with ⟨h13,h⟩|⟨h13,h⟩
   ·obtain ⟨x3,h14,h⟩:=bnd_elim h
    cases h
   ·obtain rfl:=Option.some.inj h
    exact gr 16 [] [bF,bF,bF] (A1 h5 (A2 h9 h13 T1))
theorem strconv_isPowerOfTwo_ok (x0:Int) (rv:Bool) (h:strconv_isPowerOfTwo x0 = some rv):AFn Tryd.prog 127 [.one (.int .i64 x0)] [] (one (.bool rv)) []:=by
 refine afn_of Tryd.func127 (by kernel_rfl) (by kernel_rfl) (fun Γ=>?_)
 unfold strconv_isPowerOfTwo at h
 obtain rfl:=Option.some.inj h
 exact gr 4 [] [] T1
theorem bits_TrailingZeros32_ok (x0:Int) (rv:Int) (h:bits_TrailingZeros32 x0 = some rv):AFn Tryd.prog 129 [.one (.int .u32 x0)] [] (one (.int .i64 rv)) []:=by
 refine afn_of Tryd.func129 (by kernel_rfl) (by kernel_rfl) (fun Γ=>?_)
 unfold bits_TrailingZeros32 at h
 rcases br_elim h with ⟨h0,h⟩|⟨h0,h⟩
 ·obtain rfl:=Option.some.inj h
  exact gr 8 [] [bT] (A1 h0 T1)
 ·cases h
theorem bits_TrailingZeros64_ok (x0:Int) (rv:Int) (h:bits_TrailingZeros64 x0 = some rv):AFn Tryd.prog 130 [.one (.int .u64 x0)] [] (one (.int .i64 rv)) []:=by
 refine afn_of Tryd.func130 (by kernel_rfl) (by kernel_rfl) (fun Γ=>?_)
 unfold bits_TrailingZeros64 at h
 rcases br_elim h with ⟨h0,h⟩|⟨h0,h⟩
 ·obtain rfl:=Option.some.inj h
  exact gr 8 [] [bT] (A1 h0 T1)
 ·cases h
theorem bits_TrailingZeros_ok (x0:Int) (rv:Int) (h:bits_TrailingZeros x0 = some rv):AFn Tryd.prog 128 [.one (.int .u64 x0)] [] (one (.int .i64 rv)) []:=by
 refine afn_of Tryd.func128 (by kernel_rfl) (by kernel_rfl) (fun Γ=>?_)
 unfold bits_TrailingZeros at h
 obtain ⟨r,h0,h⟩:=bnd_elim h
 obtain rfl:=Option.some.inj h
 exact gr 7 [] [bF,.call [] (one (.int .i64 r)) []] (A2 rF (bits_TrailingZeros64_ok x0 r h0) T1)
theorem strconv_FormatInt_J1_ok (Γ:Gam) (rv:ByteArray) (i:Int) (u:Int) (h:strconv_FormatInt_J1 i u = some rv):Go Tryd.prog Tryd.f113 [] Γ (one (.str rv)) [] ⟨[.c 431,.c 7],⟨54,[(0,one (.int .i64 i)),(5,one (.op 0 24 0 0)),(6,one (.int .u64 u))],[some ⟨true,24,170,[[.int .u8 0,.int .u8 0,.int .u8 0,.int .u8 0,.int .u8 0,.int .u8 0,.int .u8 0,.int .u8 0,.int .u8 0,.int .u8 0,.int .u8 0,.int .u8 0,.int .u8 0,.int .u8 0,.int .u8 0,.int .u8 0,.int .u8 0,.int .u8 0,.int .u8 0,.int .u8 0,.int .u8 0,.int .u8 0,.int .u8 0,.int .u8 0]]⟩]⟩⟩:=by
 unfold strconv_FormatInt_J1 at h
 obtain ⟨r1,h4,h⟩:=bnd_elim h
 cases h
theorem strconv_FormatInt_ok (i:Int) (base:Int) (rv:ByteArray) (h:strconv_FormatInt i base = some rv):AFn Tryd.prog 113 [.one (.int .i64 i),.one (.int .i64 base)] [] (one (.str rv)) []:=by
 refine afn_of Tryd.func113 (by kernel_rfl) (by kernel_rfl) (fun Γ=>?_)
 unfold strconv_FormatInt at h
 rcases br_elim h with ⟨h0,h⟩|⟨h0,h⟩
 ·rcases br_elim h with ⟨h1,h⟩|⟨h1,h⟩
  ·obtain ⟨r,h2,h⟩:=bnd_elim h
   obtain rfl:=Option.some.inj h
   exact gr 12 [] [bT,kP,kP,kP,bT,.call [] (one (.str r)) []] (A1 h0 (A4 (fun (h0:(leI 0 i) = true)=>h0) (fun (h0:True∧(leI 0 i) = true)=>h0.2) h1 (strconv_small_ok i r h2) T1))
  ·rcases br_elim h with ⟨h3,h⟩|⟨h3,h⟩
   ·exact gn 20 [0,5,6] [0] [bT,kP,kP,kP,bF,bT] (A1 h0 (A4 (fun (h0:(leI 0 i) = true)=>h0) (fun (h0:True∧(leI 0 i) = true)=>h0.2) h1 h3 T1)) (strconv_FormatInt_J1_ok Γ rv i (subK .u64 0 (cvK .u64 i)) h)
   ·exact gn 20 [0,5,6] [0] [bT,kP,kP,kP,bF,bF] (A1 h0 (A4 (fun (h0:(leI 0 i) = true)=>h0) (fun (h0:True∧(leI 0 i) = true)=>h0.2) h1 h3 T1)) (strconv_FormatInt_J1_ok Γ rv i (cvK .u64 i) h)
 ·cases h
theorem strconv_Itoa_ok (i:Int) (rv:ByteArray) (h:strconv_Itoa i = some rv):AFn Tryd.prog 98 [.one (.int .i64 i)] [] (one (.str rv)) []:=by
 refine afn_of Tryd.func98 (by kernel_rfl) (by kernel_rfl) (fun Γ=>?_)
 unfold strconv_Itoa at h
 obtain ⟨r,h0,h⟩:=bnd_elim h
 obtain rfl:=Option.some.inj h
 exact gr 4 [] [.call [] (one (.str r)) []] (A1 (strconv_FormatInt_ok i 10 r h0) T1)
theorem strconv_Itoa_f73_ok (i:Int) (rv:ByteArray) (h:strconv_Itoa_f73 i = some rv):AFn Tryd.prog 73 [.one (.int .i64 i)] [] (one (.str rv)) []:=by
 refine afn_of Tryd.func73 (by kernel_rfl) (by kernel_rfl) (fun Γ=>?_)
 unfold strconv_Itoa_f73 at h
 obtain ⟨r,h0,h⟩:=bnd_elim h
 obtain rfl:=Option.some.inj h
 exact gr 4 [] [.call [] (one (.str r)) []] (A1 (strconv_Itoa_ok i r h0) T1)
def travel_Check_L1_C (Γ:Gam) (rv:List T_api_Fault) (l:List T_api_Point) (l2:List T_api_Fault) (v:Int):Prop:=Go Tryd.prog Tryd.f76 [] Γ (one (.sl false 2 (rv.map T_api_Fault.enc))) [] ⟨[.c 244,.l 244,.b 0,.c 31],⟨83,[(0,one (.sl false 2 (l.map T_api_Point.enc))),(3,one (.os 0 2 0 (l2.map T_api_Fault.enc).length)),(19,one (.sl false 2 (l.map T_api_Point.enc))),(20,one (.int .i64 (lenI l))),(21,one (.int .i64 v))],[some ⟨false,2,49,(l2.map T_api_Fault.enc)⟩]⟩⟩
def travel_Check_L1_D0 (Γ:Gam) (rv:List T_api_Fault) (l:List T_api_Point) (l4:List T_api_Fault):Prop:=Go Tryd.prog Tryd.f76 [] Γ (one (.sl false 2 (rv.map T_api_Fault.enc))) [] ⟨[.c 31],⟨83,[(3,one (.os 0 2 0 (l4.map T_api_Fault.enc).length))],[some ⟨false,2,49,(l4.map T_api_Fault.enc)⟩]⟩⟩
theorem travel_Check_J2_ok (Γ:Gam) (rv:List T_api_Fault) (l:List T_api_Point) (v:Int) (x0:T_api_Point) (r:ByteArray) (l3:List T_api_Fault) (x:(List T_api_Fault × Int) ⊕ (List T_api_Fault)) (h:travel_Check_J2 l v x0 r l3 = some x) (hI:∀ s:List T_api_Fault × Int,x = .inl s→travel_Check_L1_C Γ rv l s.1 s.2) (hE:∀ e:List T_api_Fault,x = .inr e→travel_Check_L1_D0 Γ rv l e):Go Tryd.prog Tryd.f76 [] Γ (one (.sl false 2 (rv.map T_api_Fault.enc))) [] ⟨[.c 31335,.b 1,.c 1959,.l 244,.b 0,.c 31],⟨83,[(0,one (.sl false 2 (l.map T_api_Point.enc))),(3,one (.os 0 2 0 (l3.map T_api_Fault.enc).length)),(4,one (.int .i64 v)),(5,one (.op 1 2 0 0)),(6,one (.str r)),(19,one (.sl false 2 (l.map T_api_Point.enc))),(20,one (.int .i64 (lenI l))),(21,one (.int .i64 v))],[some ⟨false,2,49,(l3.map T_api_Fault.enc)⟩,some ⟨true,2,125,[[.int .i64 x0.t,.int .i64 x0.a]]⟩]⟩⟩:=by
 unfold travel_Check_J2 at h
 rcases br_elim h with ⟨h8,h⟩|⟨h8,h⟩
 ·obtain ⟨x1,h9,h⟩:=bnd_elim h
  rcases br_elim h with ⟨h10,h⟩|⟨h10,h⟩
  ·obtain ⟨h11,h⟩:=chk_elim h
   exact gn 7 [0,3,19,20,21] [3] [.draw 24 [],bT,bT,bT,bT,bT,bT,.cells (T_api_Point.enc x1),bT,bT,bT,bT,bT,bT,bT,bT,bT,bT,bT,bT,bT,bT,bT,bT,bT,.rows ((l3 ++ [(T_api_Fault.mk 13 r)]).map T_api_Fault.enc)] (A1 h8 (A4 h8 h8 h8 h8 (A8 h8 (getM T_api_Point.enc h9) h8 h8 h8 h8 h10 h10 (A8 h10 h10 h10 h10 h10 h10 h10 h8 (A8 h10 h8 rT (Eq.refl ([(T_api_Fault.mk 13 r)].map T_api_Fault.enc).length) (eL l3 T_api_Fault.enc) (appM T_api_Fault.enc l3 [(T_api_Fault.mk 13 r)]) (okLe (l:=((l3 ++ [(T_api_Fault.mk 13 r)]):List T_api_Fault)) T_api_Fault.enc h11) (okLe2 (l:=((l3 ++ [(T_api_Fault.mk 13 r)]):List T_api_Fault)) (b:=24) T_api_Fault.enc (by decide) h11) T1))))) (hI _ (oJ h))
  ·rcases br_elim h with ⟨h12,h⟩|⟨h12,h⟩
   ·obtain ⟨h13,h⟩:=chk_elim h
    exact gn 7 [0,3,19,20,21] [3] [.draw 24 [],bT,bT,bT,bT,bT,bT,.cells (T_api_Point.enc x1),bT,bT,bT,bT,bF,bF,bF,bF,bF,bF,.cells (T_api_Point.enc x1),bF,bF,bF,bT,bF,bT,bT,.rows ((l3 ++ [(T_api_Fault.mk 13 r)]).map T_api_Fault.enc)] (A2 h8 h8 (A4 h8 h8 h8 h8 (A8 (getM T_api_Point.enc h9) h8 h8 h8 h8 h10 h10 h10 (A8 h10 h10 h10 (getM T_api_Point.enc h9) h10 h10 h10 h8 (A8 h10 h8 h12 (Eq.refl ([(T_api_Fault.mk 13 r)].map T_api_Fault.enc).length) (eL l3 T_api_Fault.enc) (appM T_api_Fault.enc l3 [(T_api_Fault.mk 13 r)]) (okLe (l:=((l3 ++ [(T_api_Fault.mk 13 r)]):List T_api_Fault)) T_api_Fault.enc h13) (okLe2 (l:=((l3 ++ [(T_api_Fault.mk 13 r)]):List T_api_Fault)) (b:=24) T_api_Fault.enc (by decide) h13) T1))))) (hI _ (oJ h))
   ·exact gn 7 [0,3,19,20,21] [0] [.draw 24 [],bT,bT,bT,bT,bT,bT,.cells (T_api_Point.enc x1),bT,bT,bT,bT,bF,bF,bF,bF,bF,bF,.cells (T_api_Point.enc x1),bF,bF,bF,bT,bF,bT,bF] (A1 h8 (A8 h8 h8 h8 h8 h8 (getM T_api_Point.enc h9) h8 h8 (A8 h8 h8 h10 h10 h10 h10 h10 h10 (A8 (getM T_api_Point.enc h9) h10 h10 h10 h8 h10 h8 h12 T1)))) (hI _ (oJ h))
 ·exact gn 7 [0,3,19,20,21] [0] [.draw 24 [],bF,bF,bF,bF,bF,bF,bF,bF,bF,bF,kS,kS,kS,kS,kS,kS,kS,kS,kS,bF,bF,bF] (A2 h8 h8 (A4 h8 h8 h8 h8 (A8 h8 h8 h8 h8 fZ fZ fZ fZ (A8 fZ fZ fZ fZ fZ h8 h8 rF T1)))) (hI _ (oJ h))
theorem travel_Check_L1_ok (Γ:Gam) (rv:List T_api_Fault) (l:List T_api_Point) (s:List T_api_Fault × Int) (e:List T_api_Fault) (h:loopF (fun s=>travel_Check_L1 l s.1 s.2) s = some e) (hD:travel_Check_L1_D0 Γ rv l e):travel_Check_L1_C Γ rv l s.1 s.2:=by
 refine loop_ind (C:=fun (s:List T_api_Fault × Int)=>travel_Check_L1_C Γ rv l s.1 s.2) (D:=fun (e:List T_api_Fault)=>travel_Check_L1_D0 Γ rv l e) ?_ h hD
 clear h hD s e
 rintro ⟨l2,v⟩ z_ h hI hE
 replace h:travel_Check_L1 l l2 v = _:=h
 unfold travel_Check_L1 at h
 rcases br_elim h with ⟨h2,h⟩|⟨h2,h⟩
 ·obtain ⟨x0,h3,h⟩:=bnd_elim h
  obtain ⟨r,h4,h⟩:=bnd_elim h
  obtain ⟨r1,h5,h⟩:=bnd_elim h
  rcases br_elim h with ⟨h6,h⟩|⟨h6,h⟩
  ·obtain ⟨h7,h⟩:=chk_elim h
   exact gn 16 [0,3,4,5,6,19,20,21] [3,1] [bT,.cells (T_api_Point.enc x0),.call [] (one (.str r)) [],.call [] (one (.bool r1)) [],kP,kP,kP,kP,kP,kP,kP,kP,kP,kP,kP,kP,kP,bT,.rows ((l2 ++ [(T_api_Fault.mk 2 r)]).map T_api_Fault.enc)] (A1 h2 (A4 (getM T_api_Point.enc h3) (strconv_Itoa_f73_ok v r h4) (travel_within_ok x0.t 0 4096 r1 h5) (fun (h0:(!r1) = false)=>h0) (A8 (fun (h0:(!r1) = false)=>h0) (fun (h0:(!r1) = false)=>h0) (fun (h0:(!r1) = false)=>h0) (fun (h0:True∧(!r1) = false)=>h0.2) (fun (h0:((!r1) || (ltI x0.a x0.t)) = false)=>h0) (fun (h0:((!r1) || (ltI x0.a x0.t)) = false)=>h0) (fun (h0:((!r1) || (ltI x0.a x0.t)) = false)=>h0) (fun (h0:((!r1) || (ltI x0.a x0.t)) = false)=>h0) (A8 (fun (h0:((!r1) || (ltI x0.a x0.t)) = false)=>h0) (fun (h0:True∧((!r1) || (ltI x0.a x0.t)) = false)=>h0.2) h6 (Eq.refl ([(T_api_Fault.mk 2 r)].map T_api_Fault.enc).length) (eL l2 T_api_Fault.enc) (appM T_api_Fault.enc l2 [(T_api_Fault.mk 2 r)]) (okLe (l:=((l2 ++ [(T_api_Fault.mk 2 r)]):List T_api_Fault)) T_api_Fault.enc h7) (okLe2 (l:=((l2 ++ [(T_api_Fault.mk 2 r)]):List T_api_Fault)) (b:=24) T_api_Fault.enc (by decide) h7) T1)))) (travel_Check_J2_ok Γ rv l v x0 r (l2 ++ [(T_api_Fault.mk 2 r)]) _ h hI hE)
  ·exact gn 16 [0,3,4,5,6,19,20,21] [0,1] [bT,.cells (T_api_Point.enc x0),.call [] (one (.str r)) [],.call [] (one (.bool r1)) [],kP,kP,kP,kP,kP,kP,kP,kP,kP,kP,kP,kP,kP,bF] (A8 h2 (getM T_api_Point.enc h3) (strconv_Itoa_f73_ok v r h4) (travel_within_ok x0.t 0 4096 r1 h5) (fun (h0:(!r1) = false)=>h0) (fun (h0:(!r1) = false)=>h0) (fun (h0:(!r1) = false)=>h0) (fun (h0:(!r1) = false)=>h0) (A8 (fun (h0:True∧(!r1) = false)=>h0.2) (fun (h0:((!r1) || (ltI x0.a x0.t)) = false)=>h0) (fun (h0:((!r1) || (ltI x0.a x0.t)) = false)=>h0) (fun (h0:((!r1) || (ltI x0.a x0.t)) = false)=>h0) (fun (h0:((!r1) || (ltI x0.a x0.t)) = false)=>h0) (fun (h0:((!r1) || (ltI x0.a x0.t)) = false)=>h0) (fun (h0:True∧((!r1) || (ltI x0.a x0.t)) = false)=>h0.2) h6 T1)) (travel_Check_J2_ok Γ rv l v x0 r l2 _ h hI hE)
 ·exact gn 5 [3] [0] [bF] (A1 h2 T1) (hE _ (oJ h))
theorem travel_Check_J1_ok (Γ:Gam) (rv:List T_api_Fault) (l:List T_api_Point) (l1:List T_api_Fault) (h:travel_Check_J1 l l1 = some rv):Go Tryd.prog Tryd.f76 [] Γ (one (.sl false 2 (rv.map T_api_Fault.enc))) [] ⟨[.c 15],⟨83,[(0,one (.sl false 2 (l.map T_api_Point.enc))),(3,one (.os 0 2 0 (l1.map T_api_Fault.enc).length))],[some ⟨false,2,49,(l1.map T_api_Fault.enc)⟩]⟩⟩:=by
 unfold travel_Check_J1 at h
 obtain ⟨e0,h14,h⟩:=bnd_elim h
 refine gn 5 [0,3,19,20,21] [0] [.num l.length] (A1 (lenM T_api_Point.enc l) T1) (travel_Check_L1_ok Γ rv l _ _ h14 ?_)
 obtain ⟨l4,rfl⟩:∃ x,x = e0:=⟨_,rfl⟩
 replace h:(some l4:Option (List T_api_Fault)) = some _:=h
 obtain rfl:=Option.some.inj h
 exact gr 2 [] [.wait 4,.frz 0] (A1 (eL l4 T_api_Fault.enc) (A2 (eL l4 T_api_Fault.enc) (eL l4 T_api_Fault.enc) T1))
theorem travel_Check_ok (l:List T_api_Point) (rv:List T_api_Fault) (h:travel_Check l = some rv):AFn Tryd.prog 76 [.one (.sl false 2 (l.map T_api_Point.enc))] [] (one (.sl false 2 (rv.map T_api_Fault.enc))) []:=by
 refine afn_of Tryd.func76 (by kernel_rfl) (by kernel_rfl) (fun Γ=>?_)
 unfold travel_Check at h
 rcases br_elim h with ⟨h0,h⟩|⟨h0,h⟩
 ·obtain ⟨h1,h⟩:=chk_elim h
  exact gn 9 [0,3] [1] [.num l.length,kP,kP,.num l.length,kP,kP,bT,.rows ([(T_api_Fault.mk 4 ByteArray.empty)].map T_api_Fault.enc)] (A2 (lenM T_api_Point.enc l) (fun (h0:(eqI (lenI l) 0) = false)=>h0) (A8 (lenM T_api_Point.enc l) (fun (h0:(eqI (lenI l) 0) = false)=>h0) (fun (h0:True∧(eqI (lenI l) 0) = false)=>h0.2) h0 (Eq.refl ([(T_api_Fault.mk 4 ByteArray.empty)].map T_api_Fault.enc).length) (Eq.refl ([(T_api_Fault.mk 4 ByteArray.empty)].map T_api_Fault.enc)) (okLe (l:=([(T_api_Fault.mk 4 ByteArray.empty)]:List T_api_Fault)) T_api_Fault.enc h1) (okLe2 (l:=([(T_api_Fault.mk 4 ByteArray.empty)]:List T_api_Fault)) (b:=24) T_api_Fault.enc (by decide) h1) T1)) (travel_Check_J1_ok Γ rv l [(T_api_Fault.mk 4 ByteArray.empty)] h)
 ·exact gn 9 [0,3] [0] [.num l.length,kP,kP,.num l.length,kP,kP,bF,.wait 1,.adopt 3 2 49] (A2 (lenM T_api_Point.enc l) (fun (h0:(eqI (lenI l) 0) = false)=>h0) (A4 (lenM T_api_Point.enc l) (fun (h0:(eqI (lenI l) 0) = false)=>h0) (fun (h0:True∧(eqI (lenI l) 0) = false)=>h0.2) h0 T1)) (travel_Check_J1_ok Γ rv l [] h)
theorem travel_right_ok (l:List T_api_Point) (rv:Bool) (h:travel_right l = some rv):AFn Tryd.prog 96 [.one (.sl false 2 (l.map T_api_Point.enc))] [] (one (.bool rv)) []:=by
 refine afn_of Tryd.func96 (by kernel_rfl) (by kernel_rfl) (fun Γ=>?_)
 unfold travel_right at h
 obtain ⟨r,h0,h⟩:=bnd_elim h
 obtain rfl:=Option.some.inj h
 exact gr 4 [] [.call [] (one (.sl false 2 (r.map T_api_Fault.enc))) [],.num r.length] (A2 (travel_Check_ok l r h0) (lenM T_api_Fault.enc r) T1)
theorem travel_arrive_1_ok (p:T_api_Point) (t:Int) (rv:Int) (h:travel_arrive_1 p t = some rv):AFn Tryd.prog 112 [.agg [.int .i64 p.t,.int .i64 p.a],.one (.int .i64 t)] [] (one (.int .i64 rv)) []:=by
 refine afn_of Tryd.func112 (by kernel_rfl) (by kernel_rfl) (fun Γ=>?_)
 unfold travel_arrive_1 at h
 obtain rfl:=Option.some.inj h
 exact gr 4 [] [] T1
def api_Point_int__112_L1_C (Γ:Gam) (rv:Int × Bool) (x0:List T_api_Point) (target:Int) (i:Int) (j:Int):Prop:=Go Tryd.prog Tryd.f111 [] Γ (.tup [.one (.int .i64 rv.1),.one (.bool rv.2)]) [] ⟨[.c 120,.l 120,.b 0,.c 31],⟨49,[(0,one (.sl false 2 (x0.map T_api_Point.enc))),(1,one (.int .i64 target)),(2,one (.fn (.func 112) [])),(8,one (.int .i64 (lenI x0))),(9,one (.int .i64 i)),(10,one (.int .i64 j))],[]⟩⟩
def api_Point_int__112_L1_D0 (Γ:Gam) (rv:Int × Bool) (x0:List T_api_Point) (target:Int) (i1:Int):Prop:=Go Tryd.prog Tryd.f111 [] Γ (.tup [.one (.int .i64 rv.1),.one (.bool rv.2)]) [] ⟨[.c 31],⟨49,[(0,one (.sl false 2 (x0.map T_api_Point.enc))),(1,one (.int .i64 target)),(2,one (.fn (.func 112) [])),(8,one (.int .i64 (lenI x0))),(9,one (.int .i64 i1))],[]⟩⟩
theorem api_Point_int__112_L1_ok (Γ:Gam) (rv:Int × Bool) (x0:List T_api_Point) (target:Int) (s:Int × Int) (e:Int) (h:loopF (fun s=>api_Point_int__112_L1 x0 target s.1 s.2) s = some e) (hD:api_Point_int__112_L1_D0 Γ rv x0 target e):api_Point_int__112_L1_C Γ rv x0 target s.1 s.2:=by
 refine loop_ind (C:=fun (s:Int × Int)=>api_Point_int__112_L1_C Γ rv x0 target s.1 s.2) (D:=fun (e:Int)=>api_Point_int__112_L1_D0 Γ rv x0 target e) ?_ h hD
 clear h hD s e
 rintro ⟨i,j⟩ z_ h hI hE
 replace h:api_Point_int__112_L1 x0 target i j = _:=h
 unfold api_Point_int__112_L1 at h
 rcases br_elim h with ⟨h0,h⟩|⟨h0,h⟩
 ·obtain ⟨x1,h1,h⟩:=bnd_elim h
  obtain ⟨r,h2,h⟩:=bnd_elim h
  rcases br_elim h with ⟨h3,h⟩|⟨h3,h⟩
  ·exact gn 14 [0,1,2,8,9,10] [] [bT,.cells (T_api_Point.enc x1),.call [] (one (.int .i64 r)) [],bT] (A1 h0 (A4 (by decide:(0:Int) ≤ 1) (getM T_api_Point.enc h1) (travel_arrive_1_ok x1 target r h2) h3 T1)) (hI _ (oJ h))
  ·exact gn 14 [0,1,2,8,9,10] [] [bT,.cells (T_api_Point.enc x1),.call [] (one (.int .i64 r)) [],bF] (A1 h0 (A4 (by decide:(0:Int) ≤ 1) (getM T_api_Point.enc h1) (travel_arrive_1_ok x1 target r h2) h3 T1)) (hI _ (oJ h))
 ·exact gn 5 [0,1,2,8,9] [] [bF] (A1 h0 T1) (hE _ (oJ h))
theorem api_Point_int__112_ok (x0:List T_api_Point) (target:Int) (rv:Int × Bool) (h:api_Point_int__112 x0 target = some rv):AFn Tryd.prog 111 [.one (.sl false 2 (x0.map T_api_Point.enc)),.one (.int .i64 target),.one (.fn (.func 112) [])] [] (.tup [.one (.int .i64 rv.1),.one (.bool rv.2)]) []:=by
 refine afn_of Tryd.func111 (by kernel_rfl) (by kernel_rfl) (fun Γ=>?_)
 unfold api_Point_int__112 at h
 obtain ⟨e0,h4,h⟩:=bnd_elim h
 refine gn 9 [0,1,2,8,9,10] [] [.num x0.length] (A1 (lenM T_api_Point.enc x0) T1) (api_Point_int__112_L1_ok Γ rv x0 target _ _ h4 ?_)
 obtain ⟨i1,rfl⟩:∃ x,x = e0:=⟨_,rfl⟩
 replace h:(br (ltI i1 (lenI x0)) (bnd (getI x0 i1) fun x2=>bnd (travel_arrive_1 x2 target) fun r1=>some (i1,(eqI r1 0))) (some (i1,false)):Option (Int × Bool)) = some _:=h
 rcases br_elim h with ⟨h5,h⟩|⟨h5,h⟩
 ·obtain ⟨x2,h6,h⟩:=bnd_elim h
  obtain ⟨r1,h7,h⟩:=bnd_elim h
  obtain rfl:=Option.some.inj h
  exact gr 2 [] [bT,bT,bT,bT,.cells (T_api_Point.enc x2),bT,bT,bT,.call [] (one (.int .i64 r1)) [],bT,bT] (A1 h5 (A2 h5 h5 (A8 h5 (getM T_api_Point.enc h6) h5 h5 h5 (travel_arrive_1_ok x2 target r1 h7) h5 h5 T1)))
 ·obtain rfl:=Option.some.inj h
  exact gr 2 [] [bF,bF,bF,bF,bF,bF,bF,bF,bF] (A1 h5 (A8 h5 h5 h5 h5 h5 h5 h5 h5 T1))
theorem travel_arrive_ok (l:List T_api_Point) (t:Int) (rv:Int) (h:travel_arrive l t = some rv):AFn Tryd.prog 97 [.one (.sl false 2 (l.map T_api_Point.enc)),.one (.int .i64 t)] [] (one (.int .i64 rv)) []:=by
 refine afn_of Tryd.func97 (by kernel_rfl) (by kernel_rfl) (fun Γ=>?_)
 unfold travel_arrive at h
 obtain ⟨r,h0,h⟩:=bnd_elim h
 rcases br_elim h with ⟨h1,h⟩|⟨h1,h⟩
 ·obtain ⟨x0,h2,h⟩:=bnd_elim h
  obtain rfl:=Option.some.inj h
  exact gr 11 [] [.call [] (.tup [.one (.int .i64 r.1),.one (.bool r.2)]) [],bT,.cells (T_api_Point.enc x0)] (A1 (api_Point_int__112_ok l t r h0) (A2 h1 (getM T_api_Point.enc h2) T1))
 ·rcases br_elim h with ⟨h3,h⟩|⟨h3,h⟩
  ·obtain ⟨x1,h4,h⟩:=bnd_elim h
   obtain rfl:=Option.some.inj h
   exact gr 14 [] [.call [] (.tup [.one (.int .i64 r.1),.one (.bool r.2)]) [],bF,bT,.draw 12 [],.cells (T_api_Point.enc x1),.cells (T_api_Point.enc x1)] (A1 (api_Point_int__112_ok l t r h0) (A4 h1 h3 (getM T_api_Point.enc h4) (getM T_api_Point.enc h4) T1))
  ·rcases br_elim h with ⟨h5,h⟩|⟨h5,h⟩
   ·obtain ⟨x2,h6,h⟩:=bnd_elim h
    obtain rfl:=Option.some.inj h
    exact gr 17 [] [.call [] (.tup [.one (.int .i64 r.1),.one (.bool r.2)]) [],bF,bF,.num l.length,bT,.draw 16 [],.cells (T_api_Point.enc x2),.cells (T_api_Point.enc x2)] (A1 (api_Point_int__112_ok l t r h0) (A2 h1 h3 (A4 (lenM T_api_Point.enc l) h5 (getM T_api_Point.enc h6) (getM T_api_Point.enc h6) T1)))
   ·obtain ⟨x3,h7,h⟩:=bnd_elim h
    obtain ⟨x4,h8,h⟩:=bnd_elim h
    obtain ⟨h9,h⟩:=chk_elim h
    obtain rfl:=Option.some.inj h
    exact gr 23 [] [.call [] (.tup [.one (.int .i64 r.1),.one (.bool r.2)]) [],bF,bF,.num l.length,bF,.draw 13 [(0,11),(1,12)],.cells (T_api_Point.enc x3),.cells (T_api_Point.enc x4),.draw 19 []] (A8 (api_Point_int__112_ok l t r h0) h1 h3 (lenM T_api_Point.enc l) h5 (getM T_api_Point.enc h7) (getM T_api_Point.enc h8) h9 T1)
theorem travel_Arrive_ok (l:List T_api_Point) (t:Int) (rv:Int) (h:travel_Arrive l t = some rv):AFn Tryd.prog 71 [.one (.sl false 2 (l.map T_api_Point.enc)),.one (.int .i64 t)] [] (one (.int .i64 rv)) []:=by
 refine afn_of Tryd.func71 (by kernel_rfl) (by kernel_rfl) (fun Γ=>?_)
 unfold travel_Arrive at h
 obtain ⟨r,h0,h⟩:=bnd_elim h
 rcases br_elim h with ⟨h1,h⟩|⟨h1,h⟩
 ·obtain ⟨r1,h2,h⟩:=bnd_elim h
  rcases br_elim h with ⟨h3,h⟩|⟨h3,h⟩
  ·obtain ⟨r2,h4,h⟩:=bnd_elim h
   obtain rfl:=Option.some.inj h
   exact gr 9 [] [.call [] (one (.bool r)) [],bF,bF,.call [] (one (.bool r1)) [],bF,bF,bF,.call [] (one (.int .i64 r2)) []] (A8 (travel_within_ok t 0 1073741824 r h0) (notF h1) (notF h1) (travel_right_ok l r1 h2) (notF h1) (notF h1) (notF h3) (travel_arrive_ok l t r2 h4) T1)
  ·obtain rfl:=Option.some.inj h
   exact gr 8 [] [.call [] (one (.bool r)) [],bF,bF,.call [] (one (.bool r1)) [],bF,bF,bT] (A1 (travel_within_ok t 0 1073741824 r h0) (A2 (notF h1) (notF h1) (A4 (travel_right_ok l r1 h2) (notF h1) (notF h1) (notT h3) T1)))
 ·obtain rfl:=Option.some.inj h
  exact gr 8 [] [.call [] (one (.bool r)) [],bT,bT,bT,bT,bT] (A2 (travel_within_ok t 0 1073741824 r h0) (notT h1) (A4 (notT h1) (notT h1) (notT h1) rT T1))
def network_arrival_L1_C (Γ:Gam) (rv:Int) (a:T_api_Arc) (t:Int) (out:Int) (v:Int):Prop:=Go Tryd.prog Tryd.f45 [] Γ (one (.int .i64 rv)) [] ⟨[.c 116,.l 116,.b 0,.c 15],⟨29,[(1,one (.int .i64 t)),(5,one (.int .i64 out)),(13,one (.sl false 2 (a.slow.map T_api_Point.enc))),(14,one (.int .i64 (lenI a.slow))),(15,one (.int .i64 v))],[]⟩⟩
def network_arrival_L1_D0 (Γ:Gam) (rv:Int) (a:T_api_Arc) (t:Int) (out1:Int):Prop:=Go Tryd.prog Tryd.f45 [] Γ (one (.int .i64 rv)) [] ⟨[.c 15],⟨29,[(5,one (.int .i64 out1))],[]⟩⟩
theorem network_arrival_L1_ok (Γ:Gam) (rv:Int) (a:T_api_Arc) (t:Int) (s:Int × Int) (e:Int) (h:loopF (fun s=>network_arrival_L1 a t s.1 s.2) s = some e) (hD:network_arrival_L1_D0 Γ rv a t e):network_arrival_L1_C Γ rv a t s.1 s.2:=by
 refine loop_ind (C:=fun (s:Int × Int)=>network_arrival_L1_C Γ rv a t s.1 s.2) (D:=fun (e:Int)=>network_arrival_L1_D0 Γ rv a t e) ?_ h hD
 clear h hD s e
 rintro ⟨out,v⟩ z_ h hI hE
 replace h:network_arrival_L1 a t out v = _:=h
 unfold network_arrival_L1 at h
 rcases br_elim h with ⟨h1,h⟩|⟨h1,h⟩
 ·obtain ⟨x0,h2,h⟩:=bnd_elim h
  rcases br_elim h with ⟨h3,h⟩|⟨h3,h⟩
  ·exact gn 16 [1,5,13,14,15] [] [bT,.cells (T_api_Point.enc x0),bT] (A1 h1 (A2 (getM T_api_Point.enc h2) h3 T1)) (hI _ (oJ h))
  ·exact gn 16 [1,5,13,14,15] [] [bT,.cells (T_api_Point.enc x0),bF] (A1 h1 (A2 (getM T_api_Point.enc h2) h3 T1)) (hI _ (oJ h))
 ·exact gn 5 [5] [] [bF] (A1 h1 T1) (hE _ (oJ h))
theorem network_arrival_ok (a:T_api_Arc) (t:Int) (rv:Int) (h:network_arrival a t = some rv):AFn Tryd.prog 45 [.agg [.int .i64 a.from_,.int .i64 a.to_,.int .i64 a.profile,.int .i64 a.miles,.sl false 2 (a.travel.map T_api_Point.enc),.sl false 2 (a.slow.map T_api_Point.enc)],.one (.int .i64 t)] [] (one (.int .i64 rv)) []:=by
 refine afn_of Tryd.func45 (by kernel_rfl) (by kernel_rfl) (fun Γ=>?_)
 unfold network_arrival at h
 obtain ⟨r,h0,h⟩:=bnd_elim h
 obtain ⟨e0,h4,h⟩:=bnd_elim h
 refine gn 9 [1,5,13,14,15] [] [.call [] (one (.int .i64 r)) [],.num a.slow.length] (A2 (travel_Arrive_ok a.travel t r h0) (lenM T_api_Point.enc a.slow) T1) (network_arrival_L1_ok Γ rv a t _ _ h4 ?_)
 obtain ⟨out1,rfl⟩:∃ x,x = e0:=⟨_,rfl⟩
 replace h:(some out1:Option Int) = some _:=h
 obtain rfl:=Option.some.inj h
 exact gr 2 [] [] T1
theorem network_Go_ok (n:T_api_Network) (profile:Int) (from_:Int) (to_:Int) (t:Int) (rv:Int × Int × Int) (h:network_Go n profile from_ to_ t = some rv):AFn Tryd.prog 19 [.agg [.sl false 1 (n.places.map e_str),.sl false 6 (n.arcs.map T_api_Arc.enc)],.one (.int .i64 profile),.one (.int .i64 from_),.one (.int .i64 to_),.one (.int .i64 t)] [] (.tup [.one (.int .i64 rv.1),.one (.int .i64 rv.2.1),.one (.int .i64 rv.2.2)]) []:=by
 refine afn_of Tryd.func19 (by kernel_rfl) (by kernel_rfl) (fun Γ=>?_)
 unfold network_Go at h
 obtain ⟨r,h0,h⟩:=bnd_elim h
 rcases br_elim h with ⟨h1,h⟩|⟨h1,h⟩
 ·obtain ⟨r1,h2,h⟩:=bnd_elim h
  rcases br_elim h with ⟨h3,h⟩|⟨h3,h⟩
  ·rcases br_elim h with ⟨h4,h⟩|⟨h4,h⟩
   ·obtain rfl:=Option.some.inj h
    exact gr 13 [] [.call [] (one (.bool r)) [],bF,bF,bF,.call [] (one (.bool r1)) [],bF,bF,bF,bT] (A1 (network_place_ok n from_ r h0) (A8 (notF h1) (notF h1) (notF h1) (network_place_ok n to_ r1 h2) (notF h1) (notF h1) (notF h3) h4 T1))
   ·obtain ⟨r2,h5,h⟩:=bnd_elim h
    rcases br_elim h with ⟨h6,h⟩|⟨h6,h⟩
    ·obtain ⟨r3,h7,h⟩:=bnd_elim h
     obtain rfl:=Option.some.inj h
     exact gr 21 [] [.call [] (one (.bool r)) [],bF,bF,bF,.call [] (one (.bool r1)) [],bF,bF,bF,bF,.call [] (.tup [.agg [.int .i64 r2.1.from_,.int .i64 r2.1.to_,.int .i64 r2.1.profile,.int .i64 r2.1.miles,.sl false 2 (r2.1.travel.map T_api_Point.enc),.sl false 2 (r2.1.slow.map T_api_Point.enc)],.one (.bool r2.2)]) [],bF,.draw 8 [],.call [] (one (.int .i64 r3)) []] (A4 (network_place_ok n from_ r h0) (notF h1) (notF h1) (notF h1) (A8 (network_place_ok n to_ r1 h2) (notF h1) (notF h1) (notF h3) h4 (network_Find_ok n profile from_ to_ r2 h5) (notF h6) (network_arrival_ok r2.1 t r3 h7) T1))
    ·obtain rfl:=Option.some.inj h
     exact gr 20 [] [.call [] (one (.bool r)) [],bF,bF,bF,.call [] (one (.bool r1)) [],bF,bF,bF,bF,.call [] (.tup [.agg [.int .i64 r2.1.from_,.int .i64 r2.1.to_,.int .i64 r2.1.profile,.int .i64 r2.1.miles,.sl false 2 (r2.1.travel.map T_api_Point.enc),.sl false 2 (r2.1.slow.map T_api_Point.enc)],.one (.bool r2.2)]) [],bT] (A1 (network_place_ok n from_ r h0) (A2 (notF h1) (notF h1) (A8 (notF h1) (network_place_ok n to_ r1 h2) (notF h1) (notF h1) (notF h3) h4 (network_Find_ok n profile from_ to_ r2 h5) (notT h6) T1)))
  ·obtain rfl:=Option.some.inj h
   exact gr 8 [] [.call [] (one (.bool r)) [],bF,bF,bF,.call [] (one (.bool r1)) [],bF,bF,bT] (A8 (network_place_ok n from_ r h0) (notF h1) (notF h1) (notF h1) (network_place_ok n to_ r1 h2) (notF h1) (notF h1) (notT h3) T1)
 ·obtain rfl:=Option.some.inj h
  exact gr 8 [] [.call [] (one (.bool r)) [],bT,bT,bT,bT,bT,bT] (A1 (network_place_ok n from_ r h0) (A2 (notT h1) (notT h1) (A4 (notT h1) (notT h1) (notT h1) rT T1)))
theorem api_Time__ok (s0:List T_api_Time) (rv:List T_api_Time) (h:api_Time_ s0 = some rv):AFn Tryd.prog 106 [.one (.sl false 4 (s0.map T_api_Time.enc))] [] (one (.sl false 4 (rv.map T_api_Time.enc))) []:=by
 refine afn_of Tryd.func106 (by kernel_rfl) (by kernel_rfl) (fun Γ=>?_)
 unfold api_Time_ at h
 rcases br_elim h with ⟨h0,h⟩|⟨h0,h⟩
 ·obtain ⟨hx,h⟩:=amb_elim h
  refine gn 5 [0,4] [] [kS] (cf':=⟨[.c 13,.c 7],⟨8,[(0,one (.sl false 4 (s0.map T_api_Time.enc))),(4,.boo)],[]⟩⟩) T1 (go_amb 4 rfl ?_ ?_)
  ·replace h:=hx
   obtain rfl:=Option.some.inj h
   exact gr 3 [] [bT,.wait 3,.nilS 2 0 4] (A1 rT T1)
  ·obtain ⟨h1,h⟩:=chk_elim h
   obtain rfl:=Option.some.inj h
   exact gr 4 [] [bF,.rows (s0.map T_api_Time.enc),.wait 1,.frz 0] (A2 rF (Eq.refl (s0.map T_api_Time.enc)) (A4 (okLe (l:=(s0:List T_api_Time)) T_api_Time.enc h1) (okLe2 (l:=(s0:List T_api_Time)) (b:=32) T_api_Time.enc (by decide) h1) (eL s0 T_api_Time.enc) (eL s0 T_api_Time.enc) T1))
 ·obtain ⟨h2,h⟩:=chk_elim h
  obtain rfl:=Option.some.inj h
  exact gr 9 [] [bF,bF,.rows (s0.map T_api_Time.enc),.wait 1,.frz 0] (A1 (neE T_api_Time.enc h0) (A2 rF (Eq.refl (s0.map T_api_Time.enc)) (A4 (okLe (l:=(s0:List T_api_Time)) T_api_Time.enc h2) (okLe2 (l:=(s0:List T_api_Time)) (b:=32) T_api_Time.enc (by decide) h2) (eL s0 T_api_Time.enc) (eL s0 T_api_Time.enc) T1)))
theorem drive_trip_place_ok (p:T_drive_trip) (visits:Int) (rv:Int) (h:drive_trip_place p visits = some rv):AFn Tryd.prog 107 [.agg [.sl false 1 (p.x.net.places.map e_str),.sl false 6 (p.x.net.arcs.map T_api_Arc.enc),.sl false 14 (p.x.types.map T_api_Type.enc),.sl false 16 (p.x.orders.map T_api_Order.enc),.sl false 2 (p.x.apart.map A2_Int.enc),.sl false 2 (p.x.before.map A2_Int.enc),.str p.t.name,.int .i64 p.t.count,.int .i64 p.t.from_,.int .i64 p.t.to_,.sl false 1 (p.t.cap.map e_i64),.int .i64 p.t.skills,.int .i64 p.t.profile,.int .i64 p.t.open_,.int .i64 p.t.close,.int .i64 p.t.drive,.int .i64 p.t.rest_,.int .i64 p.t.fixed,.int .i64 p.t.perMile,.int .i64 p.t.perTick,.int .i64 p.r.type_,.int .i64 p.r.start,.sl false 1 (p.r.rests.map e_bool),.sl false 2 (p.r.visits.map T_api_Visit.enc),.sl false 4 (p.stops.map T_api_Stop.enc)],.one (.int .i64 visits)] [] (one (.int .i64 rv)) []:=by
 refine afn_of Tryd.func107 (by kernel_rfl) (by kernel_rfl) (fun Γ=>?_)
 unfold drive_trip_place at h
 rcases br_elim h with ⟨h0,h⟩|⟨h0,h⟩
 ·obtain rfl:=Option.some.inj h
  exact gr 8 [] [bT] (A1 h0 T1)
 ·obtain ⟨x0,h1,h⟩:=bnd_elim h
  obtain rfl:=Option.some.inj h
  exact gr 9 [] [bF,.cells (T_api_Stop.enc x0)] (A2 h0 (getM T_api_Stop.enc h1) T1)
theorem window_Begin_ok (s0:T_api_Stop) (arrive:Int) (rv:Int × Int) (h:window_Begin s0 arrive = some rv):AFn Tryd.prog 108 [.agg [.int .i64 s0.place,.int .i64 s0.open_,.int .i64 s0.close,.int .i64 s0.service],.one (.int .i64 arrive)] [] (.tup [.one (.int .i64 rv.1),.one (.int .i64 rv.2)]) []:=by
 refine afn_of Tryd.func108 (by kernel_rfl) (by kernel_rfl) (fun Γ=>?_)
 unfold window_Begin at h
 rcases br_elim h with ⟨h0,h⟩|⟨h0,h⟩
 ·obtain rfl:=Option.some.inj h
  exact gr 10 [] [bT] (A1 h0 T1)
 ·obtain rfl:=Option.some.inj h
  exact gr 11 [] [bF] (A1 h0 T1)
theorem api_Time__own_ok (s0:List T_api_Time) (rv:List T_api_Time) (h:api_Time__own s0 = some rv):AFn Tryd.prog 106 [.one (.sl false 4 (s0.map T_api_Time.enc))] [] (one (.os 0 4 0 (rv.map T_api_Time.enc).length)) [some ⟨false,4,76,(rv.map T_api_Time.enc)⟩]:=by
 refine afn_of Tryd.func106 (by kernel_rfl) (by kernel_rfl) (fun Γ=>?_)
 unfold api_Time__own at h
 rcases br_elim h with ⟨h0,h⟩|⟨h0,h⟩
 ·obtain ⟨hx,h⟩:=amb_elim h
  refine gn 5 [0,4] [] [kS] (cf':=⟨[.c 13,.c 7],⟨8,[(0,one (.sl false 4 (s0.map T_api_Time.enc))),(4,.boo)],[]⟩⟩) T1 (go_amb 4 rfl ?_ ?_)
  ·replace h:=hx
   obtain rfl:=Option.some.inj h
   exact gr 3 [0] [bT,.wait 3,.adopt 2 4 76] (A1 rT T1)
  ·obtain ⟨h1,h⟩:=chk_elim h
   obtain rfl:=Option.some.inj h
   exact gr 4 [0] [bF,.rows (s0.map T_api_Time.enc)] (A4 rF (Eq.refl (s0.map T_api_Time.enc)) (okLe (l:=(s0:List T_api_Time)) T_api_Time.enc h1) (okLe2 (l:=(s0:List T_api_Time)) (b:=32) T_api_Time.enc (by decide) h1) T1)
 ·obtain ⟨h2,h⟩:=chk_elim h
  obtain rfl:=Option.some.inj h
  exact gr 9 [0] [bF,bF,.rows (s0.map T_api_Time.enc)] (A1 (neE T_api_Time.enc h0) (A4 rF (Eq.refl (s0.map T_api_Time.enc)) (okLe (l:=(s0:List T_api_Time)) T_api_Time.enc h2) (okLe2 (l:=(s0:List T_api_Time)) (b:=32) T_api_Time.enc (by decide) h2) T1))
theorem drive_trip_next_J4_ok (Γ:Gam) (rv:T_drive_label × Int) (p:T_drive_trip) (l:T_drive_label) (rest_:Bool) (depart:Int) (since:Int) (r:List T_api_Time) (rest_1:Bool) (depart1:Int) (to_:Int) (r2:Int × Int × Int) (l2:List T_api_Time) (ready:Int) (end_:Int) (h:drive_trip_next_J4 p l rest_ depart since r rest_1 depart1 to_ r2 l2 ready end_ = some rv):Go Tryd.prog Tryd.f87 [] Γ (.tup [.agg [.int .i64 rv.1.ready,.int .i64 rv.1.since,.bool rv.1.sheet.rest_,.int .i64 rv.1.sheet.depart,.sl false 4 (rv.1.sheet.times.map T_api_Time.enc),.int .i64 rv.1.sheet.end_,.int .i64 rv.1.sheet.miles],.one (.int .i64 rv.2)]) [] ⟨[.c 32767],⟨163,[(4,one (.op 0 25 0 0)),(8,one (.op 1 7 0 0)),(12,one (.op 2 7 0 0))],[some ⟨true,25,107,[[.sl false 1 (p.x.net.places.map e_str),.sl false 6 (p.x.net.arcs.map T_api_Arc.enc),.sl false 14 (p.x.types.map T_api_Type.enc),.sl false 16 (p.x.orders.map T_api_Order.enc),.sl false 2 (p.x.apart.map A2_Int.enc),.sl false 2 (p.x.before.map A2_Int.enc),.str p.t.name,.int .i64 p.t.count,.int .i64 p.t.from_,.int .i64 p.t.to_,.sl false 1 (p.t.cap.map e_i64),.int .i64 p.t.skills,.int .i64 p.t.profile,.int .i64 p.t.open_,.int .i64 p.t.close,.int .i64 p.t.drive,.int .i64 p.t.rest_,.int .i64 p.t.fixed,.int .i64 p.t.perMile,.int .i64 p.t.perTick,.int .i64 p.r.type_,.int .i64 p.r.start,.sl false 1 (p.r.rests.map e_bool),.sl false 2 (p.r.visits.map T_api_Visit.enc),.sl false 4 (p.stops.map T_api_Stop.enc)]]⟩,some ⟨true,7,114,[[.int .i64 0,.int .i64 0,.bool false,.int .i64 0,.nils,.int .i64 0,.int .i64 0]]⟩,some ⟨true,7,114,[[.int .i64 ready,.int .i64 (subK .i64 (addK .i64 since r2.1) depart),.bool rest_1,.int .i64 depart1,.os 3 4 0 (l2.map T_api_Time.enc).length,.int .i64 end_,.int .i64 (addK .i64 l.sheet.miles r2.2.1)]]⟩,some ⟨false,4,76,(l2.map T_api_Time.enc)⟩]⟩⟩:=by
 unfold drive_trip_next_J4 at h
 rcases br_elim h with ⟨h15,h⟩|⟨h15,h⟩
 ·obtain rfl:=Option.some.inj h
  exact gr 6 [] [bT,.wait 5,.nilB 1 4 4] (A1 h15 T1)
 ·obtain rfl:=Option.some.inj h
  exact gr 7 [] [bF,.wait 6,.frz 3] (A4 h15 (eL l2 T_api_Time.enc) (eL l2 T_api_Time.enc) (eL l2 T_api_Time.enc) T1)
theorem drive_trip_next_J3_ok (Γ:Gam) (rv:T_drive_label × Int) (p:T_drive_trip) (l:T_drive_label) (done:Int) (rest_:Bool) (depart:Int) (since:Int) (r:List T_api_Time) (l1:List T_api_Time) (rest_1:Bool) (depart1:Int) (to_:Int) (h:drive_trip_next_J3 p l done rest_ depart since r l1 rest_1 depart1 to_ = some rv):Go Tryd.prog Tryd.f87 [] Γ (.tup [.agg [.int .i64 rv.1.ready,.int .i64 rv.1.since,.bool rv.1.sheet.rest_,.int .i64 rv.1.sheet.depart,.sl false 4 (rv.1.sheet.times.map T_api_Time.enc),.int .i64 rv.1.sheet.end_,.int .i64 rv.1.sheet.miles],.one (.int .i64 rv.2)]) [] ⟨[.c 1023],⟨163,[(2,one (.int .i64 done)),(4,one (.op 0 25 0 0)),(8,one (.op 1 7 0 0)),(10,one (.int .i64 depart)),(11,one (.int .i64 since)),(12,one (.op 2 7 0 0)),(13,one (.bool (eqI done (lenI p.stops)))),(14,one (.int .i64 to_))],[some ⟨true,25,107,[[.sl false 1 (p.x.net.places.map e_str),.sl false 6 (p.x.net.arcs.map T_api_Arc.enc),.sl false 14 (p.x.types.map T_api_Type.enc),.sl false 16 (p.x.orders.map T_api_Order.enc),.sl false 2 (p.x.apart.map A2_Int.enc),.sl false 2 (p.x.before.map A2_Int.enc),.str p.t.name,.int .i64 p.t.count,.int .i64 p.t.from_,.int .i64 p.t.to_,.sl false 1 (p.t.cap.map e_i64),.int .i64 p.t.skills,.int .i64 p.t.profile,.int .i64 p.t.open_,.int .i64 p.t.close,.int .i64 p.t.drive,.int .i64 p.t.rest_,.int .i64 p.t.fixed,.int .i64 p.t.perMile,.int .i64 p.t.perTick,.int .i64 p.r.type_,.int .i64 p.r.start,.sl false 1 (p.r.rests.map e_bool),.sl false 2 (p.r.visits.map T_api_Visit.enc),.sl false 4 (p.stops.map T_api_Stop.enc)]]⟩,some ⟨true,7,114,[[.int .i64 0,.int .i64 0,.bool false,.int .i64 0,.nils,.int .i64 0,.int .i64 0]]⟩,some ⟨true,7,114,[[.int .i64 0,.int .i64 0,.bool rest_1,.int .i64 depart1,.os 3 4 0 (l1.map T_api_Time.enc).length,.int .i64 l.sheet.end_,.int .i64 l.sheet.miles]]⟩,some ⟨false,4,76,(l1.map T_api_Time.enc)⟩]⟩⟩:=by
 unfold drive_trip_next_J3 at h
 obtain ⟨r1,h6,h⟩:=bnd_elim h
 obtain ⟨r2,h7,h⟩:=bnd_elim h
 rcases br_elim h with ⟨h8,h⟩|⟨h8,h⟩
 ·obtain rfl:=Option.some.inj h
  exact gr 8 [] [.draw 19 [],.call [] (one (.int .i64 r1)) [],.call [] (.tup [.one (.int .i64 r2.1),.one (.int .i64 r2.2.1),.one (.int .i64 r2.2.2)]) [],bT,.wait 5,.nilB 1 4 4] (A1 (drive_trip_place_ok (T_drive_trip.mk (T_api_Instance.mk (T_api_Network.mk p.x.net.places p.x.net.arcs) p.x.types p.x.orders p.x.apart p.x.before) (T_api_Type.mk p.t.name p.t.count p.t.from_ p.t.to_ p.t.cap p.t.skills p.t.profile p.t.open_ p.t.close p.t.drive p.t.rest_ p.t.fixed p.t.perMile p.t.perTick) (T_api_Route.mk p.r.type_ p.r.start p.r.rests p.r.visits) p.stops) done r1 h6) (A2 (network_Go_ok (T_api_Network.mk p.x.net.places p.x.net.arcs) p.t.profile r1 to_ depart r2 h7) h8 T1))
 ·rcases br_elim h with ⟨h9,h⟩|⟨h9,h⟩
  ·rcases br_elim h with ⟨h10,h⟩|⟨h10,h⟩
   ·obtain rfl:=Option.some.inj h
    exact gr 21 [] [.draw 19 [],.call [] (one (.int .i64 r1)) [],.call [] (.tup [.one (.int .i64 r2.1),.one (.int .i64 r2.2.1),.one (.int .i64 r2.2.2)]) [],bF,bT,bT,.wait 5,.nilB 1 4 4] (A1 (drive_trip_place_ok (T_drive_trip.mk (T_api_Instance.mk (T_api_Network.mk p.x.net.places p.x.net.arcs) p.x.types p.x.orders p.x.apart p.x.before) (T_api_Type.mk p.t.name p.t.count p.t.from_ p.t.to_ p.t.cap p.t.skills p.t.profile p.t.open_ p.t.close p.t.drive p.t.rest_ p.t.fixed p.t.perMile p.t.perTick) (T_api_Route.mk p.r.type_ p.r.start p.r.rests p.r.visits) p.stops) done r1 h6) (A4 (network_Go_ok (T_api_Network.mk p.x.net.places p.x.net.arcs) p.t.profile r1 to_ depart r2 h7) h8 h9 h10 T1))
   ·exact gn 23 [4,8,12] [0,1,2,3] [.draw 19 [],.call [] (one (.int .i64 r1)) [],.call [] (.tup [.one (.int .i64 r2.1),.one (.int .i64 r2.2.1),.one (.int .i64 r2.2.2)]) [],bF,bT,bF] (A1 (drive_trip_place_ok (T_drive_trip.mk (T_api_Instance.mk (T_api_Network.mk p.x.net.places p.x.net.arcs) p.x.types p.x.orders p.x.apart p.x.before) (T_api_Type.mk p.t.name p.t.count p.t.from_ p.t.to_ p.t.cap p.t.skills p.t.profile p.t.open_ p.t.close p.t.drive p.t.rest_ p.t.fixed p.t.perMile p.t.perTick) (T_api_Route.mk p.r.type_ p.r.start p.r.rests p.r.visits) p.stops) done r1 h6) (A4 (network_Go_ok (T_api_Network.mk p.x.net.places p.x.net.arcs) p.t.profile r1 to_ depart r2 h7) h8 h9 h10 T1)) (drive_trip_next_J4_ok Γ rv p l rest_ depart since r rest_1 depart1 to_ r2 l1 r2.1 r2.1 h)
  ·obtain ⟨x2,h11,h⟩:=bnd_elim h
   obtain ⟨r3,h12,h⟩:=bnd_elim h
   rcases br_elim h with ⟨h13,h⟩|⟨h13,h⟩
   ·obtain rfl:=Option.some.inj h
    exact gr 23 [] [.draw 19 [],.call [] (one (.int .i64 r1)) [],.call [] (.tup [.one (.int .i64 r2.1),.one (.int .i64 r2.2.1),.one (.int .i64 r2.2.2)]) [],bF,bF,.cells (T_api_Stop.enc x2),.call [] (.tup [.one (.int .i64 r3.1),.one (.int .i64 r3.2)]) [],bT,.wait 5,.nilB 1 4 4] (A1 (drive_trip_place_ok (T_drive_trip.mk (T_api_Instance.mk (T_api_Network.mk p.x.net.places p.x.net.arcs) p.x.types p.x.orders p.x.apart p.x.before) (T_api_Type.mk p.t.name p.t.count p.t.from_ p.t.to_ p.t.cap p.t.skills p.t.profile p.t.open_ p.t.close p.t.drive p.t.rest_ p.t.fixed p.t.perMile p.t.perTick) (T_api_Route.mk p.r.type_ p.r.start p.r.rests p.r.visits) p.stops) done r1 h6) (A2 (network_Go_ok (T_api_Network.mk p.x.net.places p.x.net.arcs) p.t.profile r1 to_ depart r2 h7) h8 (A4 h9 (getM T_api_Stop.enc h11) (window_Begin_ok x2 r2.1 r3 h12) h13 T1)))
   ·obtain ⟨h14,h⟩:=chk_elim h
    exact gn 25 [4,8,12] [0,1,2,5] [.draw 19 [],.call [] (one (.int .i64 r1)) [],.call [] (.tup [.one (.int .i64 r2.1),.one (.int .i64 r2.2.1),.one (.int .i64 r2.2.2)]) [],bF,bF,.cells (T_api_Stop.enc x2),.call [] (.tup [.one (.int .i64 r3.1),.one (.int .i64 r3.2)]) [],bF,.cells (T_api_Stop.enc x2),.rows ((l1 ++ [(T_api_Time.mk r2.1 r3.1 0 false)]).map T_api_Time.enc)] (A1 (drive_trip_place_ok (T_drive_trip.mk (T_api_Instance.mk (T_api_Network.mk p.x.net.places p.x.net.arcs) p.x.types p.x.orders p.x.apart p.x.before) (T_api_Type.mk p.t.name p.t.count p.t.from_ p.t.to_ p.t.cap p.t.skills p.t.profile p.t.open_ p.t.close p.t.drive p.t.rest_ p.t.fixed p.t.perMile p.t.perTick) (T_api_Route.mk p.r.type_ p.r.start p.r.rests p.r.visits) p.stops) done r1 h6) (A4 (network_Go_ok (T_api_Network.mk p.x.net.places p.x.net.arcs) p.t.profile r1 to_ depart r2 h7) h8 h9 (getM T_api_Stop.enc h11) (A8 (window_Begin_ok x2 r2.1 r3 h12) h13 (getM T_api_Stop.enc h11) (Eq.refl ([(T_api_Time.mk r2.1 r3.1 0 false)].map T_api_Time.enc).length) (eL l1 T_api_Time.enc) (appM T_api_Time.enc l1 [(T_api_Time.mk r2.1 r3.1 0 false)]) (okLe (l:=((l1 ++ [(T_api_Time.mk r2.1 r3.1 0 false)]):List T_api_Time)) T_api_Time.enc h14) (okLe2 (l:=((l1 ++ [(T_api_Time.mk r2.1 r3.1 0 false)]):List T_api_Time)) (b:=32) T_api_Time.enc (by decide) h14) T1))) (drive_trip_next_J4_ok Γ rv p l rest_ depart since r rest_1 depart1 to_ r2 (l1 ++ [(T_api_Time.mk r2.1 r3.1 0 false)]) (addK .i64 r3.1 x2.service) l.sheet.end_ h)
theorem drive_trip_next_J2_ok (Γ:Gam) (rv:T_drive_label × Int) (p:T_drive_trip) (l:T_drive_label) (done:Int) (rest_:Bool) (depart:Int) (since:Int) (r:List T_api_Time) (l1:List T_api_Time) (rest_1:Bool) (depart1:Int) (h:drive_trip_next_J2 p l done rest_ depart since r l1 rest_1 depart1 = some rv):Go Tryd.prog Tryd.f87 [] Γ (.tup [.agg [.int .i64 rv.1.ready,.int .i64 rv.1.since,.bool rv.1.sheet.rest_,.int .i64 rv.1.sheet.depart,.sl false 4 (rv.1.sheet.times.map T_api_Time.enc),.int .i64 rv.1.sheet.end_,.int .i64 rv.1.sheet.miles],.one (.int .i64 rv.2)]) [] ⟨[.c 127],⟨163,[(2,one (.int .i64 done)),(4,one (.op 0 25 0 0)),(8,one (.op 1 7 0 0)),(10,one (.int .i64 depart)),(11,one (.int .i64 since)),(12,one (.op 2 7 0 0))],[some ⟨true,25,107,[[.sl false 1 (p.x.net.places.map e_str),.sl false 6 (p.x.net.arcs.map T_api_Arc.enc),.sl false 14 (p.x.types.map T_api_Type.enc),.sl false 16 (p.x.orders.map T_api_Order.enc),.sl false 2 (p.x.apart.map A2_Int.enc),.sl false 2 (p.x.before.map A2_Int.enc),.str p.t.name,.int .i64 p.t.count,.int .i64 p.t.from_,.int .i64 p.t.to_,.sl false 1 (p.t.cap.map e_i64),.int .i64 p.t.skills,.int .i64 p.t.profile,.int .i64 p.t.open_,.int .i64 p.t.close,.int .i64 p.t.drive,.int .i64 p.t.rest_,.int .i64 p.t.fixed,.int .i64 p.t.perMile,.int .i64 p.t.perTick,.int .i64 p.r.type_,.int .i64 p.r.start,.sl false 1 (p.r.rests.map e_bool),.sl false 2 (p.r.visits.map T_api_Visit.enc),.sl false 4 (p.stops.map T_api_Stop.enc)]]⟩,some ⟨true,7,114,[[.int .i64 0,.int .i64 0,.bool false,.int .i64 0,.nils,.int .i64 0,.int .i64 0]]⟩,some ⟨true,7,114,[[.int .i64 0,.int .i64 0,.bool rest_1,.int .i64 depart1,.os 3 4 0 (l1.map T_api_Time.enc).length,.int .i64 l.sheet.end_,.int .i64 l.sheet.miles]]⟩,some ⟨false,4,76,(l1.map T_api_Time.enc)⟩]⟩⟩:=by
 unfold drive_trip_next_J2 at h
 rcases br_elim h with ⟨h4,h⟩|⟨h4,h⟩
 ·exact gn 9 [2,4,8,10,11,12,13,14] [0,1,2,3] [.num p.stops.length,bF] (A2 (lenM T_api_Stop.enc p.stops) (notF h4) T1) (drive_trip_next_J3_ok Γ rv p l done rest_ depart since r l1 rest_1 depart1 p.t.to_ h)
 ·obtain ⟨x1,h5,h⟩:=bnd_elim h
  exact gn 9 [2,4,8,10,11,12,13,14] [0,1,2,3] [.num p.stops.length,bT,.cells (T_api_Stop.enc x1)] (A1 (lenM T_api_Stop.enc p.stops) (A2 (notT h4) (getM T_api_Stop.enc h5) T1)) (drive_trip_next_J3_ok Γ rv p l done rest_ depart since r l1 rest_1 depart1 x1.place h)
theorem drive_trip_next_J1_ok (Γ:Gam) (rv:T_drive_label × Int) (p:T_drive_trip) (l:T_drive_label) (done:Int) (rest_:Bool) (depart:Int) (since:Int) (h:drive_trip_next_J1 p l done rest_ depart since = some rv):Go Tryd.prog Tryd.f87 [] Γ (.tup [.agg [.int .i64 rv.1.ready,.int .i64 rv.1.since,.bool rv.1.sheet.rest_,.int .i64 rv.1.sheet.depart,.sl false 4 (rv.1.sheet.times.map T_api_Time.enc),.int .i64 rv.1.sheet.end_,.int .i64 rv.1.sheet.miles],.one (.int .i64 rv.2)]) [] ⟨[.c 15],⟨163,[(2,one (.int .i64 done)),(3,one (.bool rest_)),(4,one (.op 0 25 0 0)),(5,one (.op 1 7 0 0)),(8,one (.op 2 7 0 0)),(10,one (.int .i64 depart)),(11,one (.int .i64 since))],[some ⟨true,25,107,[[.sl false 1 (p.x.net.places.map e_str),.sl false 6 (p.x.net.arcs.map T_api_Arc.enc),.sl false 14 (p.x.types.map T_api_Type.enc),.sl false 16 (p.x.orders.map T_api_Order.enc),.sl false 2 (p.x.apart.map A2_Int.enc),.sl false 2 (p.x.before.map A2_Int.enc),.str p.t.name,.int .i64 p.t.count,.int .i64 p.t.from_,.int .i64 p.t.to_,.sl false 1 (p.t.cap.map e_i64),.int .i64 p.t.skills,.int .i64 p.t.profile,.int .i64 p.t.open_,.int .i64 p.t.close,.int .i64 p.t.drive,.int .i64 p.t.rest_,.int .i64 p.t.fixed,.int .i64 p.t.perMile,.int .i64 p.t.perTick,.int .i64 p.r.type_,.int .i64 p.r.start,.sl false 1 (p.r.rests.map e_bool),.sl false 2 (p.r.visits.map T_api_Visit.enc),.sl false 4 (p.stops.map T_api_Stop.enc)]]⟩,some ⟨true,7,114,[[.int .i64 l.ready,.int .i64 l.since,.bool l.sheet.rest_,.int .i64 l.sheet.depart,.sl false 4 (l.sheet.times.map T_api_Time.enc),.int .i64 l.sheet.end_,.int .i64 l.sheet.miles]]⟩,some ⟨true,7,114,[[.int .i64 0,.int .i64 0,.bool false,.int .i64 0,.nils,.int .i64 0,.int .i64 0]]⟩]⟩⟩:=by
 unfold drive_trip_next_J1 at h
 obtain ⟨r,h1,h⟩:=bnd_elim h
 rcases br_elim h with ⟨h2,h⟩|⟨h2,h⟩
 ·exact gn 11 [2,4,8,10,11,12] [0,2,3,4] [.call [] (one (.os 0 4 0 (r.map T_api_Time.enc).length)) [some ⟨false,4,76,(r.map T_api_Time.enc)⟩],bT] (A2 (api_Time__own_ok l.sheet.times r h1) h2 T1) (drive_trip_next_J2_ok Γ rv p l done rest_ depart since r r rest_ depart h)
 ·obtain ⟨x0,h3,h⟩:=bnd_elim h
  exact gn 11 [2,4,8,10,11,12] [0,2,3,4] [.call [] (one (.os 0 4 0 (r.map T_api_Time.enc).length)) [some ⟨false,4,76,(r.map T_api_Time.enc)⟩],bF,.cells (T_api_Time.enc x0),.rows ((setI r (subK .i64 done 1) (T_api_Time.mk x0.arrive x0.begin x0.depart rest_)).map T_api_Time.enc),.relen 4 ((setI r (subK .i64 done 1) (T_api_Time.mk x0.arrive x0.begin x0.depart rest_)).map T_api_Time.enc).length,.cells (T_api_Time.enc (T_api_Time.mk x0.arrive x0.begin x0.depart rest_)),.rows ((setI (setI r (subK .i64 done 1) (T_api_Time.mk x0.arrive x0.begin x0.depart rest_)) (subK .i64 done 1) (T_api_Time.mk x0.arrive x0.begin depart rest_)).map T_api_Time.enc),.relen 4 ((setI (setI r (subK .i64 done 1) (T_api_Time.mk x0.arrive x0.begin x0.depart rest_)) (subK .i64 done 1) (T_api_Time.mk x0.arrive x0.begin depart rest_)).map T_api_Time.enc).length] (A1 (api_Time__own_ok l.sheet.times r h1) (A8 h2 (getLo h3) (getHi T_api_Time.enc h3) (rowM T_api_Time.enc h3) (setM T_api_Time.enc r (subK .i64 done 1) (T_api_Time.mk x0.arrive x0.begin x0.depart rest_)) (lenSet T_api_Time.enc r (subK .i64 done 1) (T_api_Time.mk x0.arrive x0.begin x0.depart rest_)) (lenSet T_api_Time.enc r (subK .i64 done 1) (T_api_Time.mk x0.arrive x0.begin x0.depart rest_)) (lenSet T_api_Time.enc r (subK .i64 done 1) (T_api_Time.mk x0.arrive x0.begin x0.depart rest_)) (A8 (getLo (getSet h3 (T_api_Time.mk x0.arrive x0.begin x0.depart rest_))) (getHi T_api_Time.enc (getSet h3 (T_api_Time.mk x0.arrive x0.begin x0.depart rest_))) (rowM T_api_Time.enc (getSet h3 (T_api_Time.mk x0.arrive x0.begin x0.depart rest_))) (setM T_api_Time.enc (setI r (subK .i64 done 1) (T_api_Time.mk x0.arrive x0.begin x0.depart rest_)) (subK .i64 done 1) (T_api_Time.mk x0.arrive x0.begin depart rest_)) (lenSet T_api_Time.enc (setI r (subK .i64 done 1) (T_api_Time.mk x0.arrive x0.begin x0.depart rest_)) (subK .i64 done 1) (T_api_Time.mk x0.arrive x0.begin depart rest_)) (lenSet T_api_Time.enc (setI r (subK .i64 done 1) (T_api_Time.mk x0.arrive x0.begin x0.depart rest_)) (subK .i64 done 1) (T_api_Time.mk x0.arrive x0.begin depart rest_)) (lenSet T_api_Time.enc (setI r (subK .i64 done 1) (T_api_Time.mk x0.arrive x0.begin x0.depart rest_)) (subK .i64 done 1) (T_api_Time.mk x0.arrive x0.begin depart rest_)) (lenSet T_api_Time.enc (setI r (subK .i64 done 1) (T_api_Time.mk x0.arrive x0.begin x0.depart rest_)) (subK .i64 done 1) (T_api_Time.mk x0.arrive x0.begin depart rest_)) T1))) (drive_trip_next_J2_ok Γ rv p l done rest_ depart since r (setI (setI r (subK .i64 done 1) (T_api_Time.mk x0.arrive x0.begin x0.depart rest_)) (subK .i64 done 1) (T_api_Time.mk x0.arrive x0.begin depart rest_)) l.sheet.rest_ l.sheet.depart h)
theorem drive_trip_next_ok (p:T_drive_trip) (l:T_drive_label) (done:Int) (rest_:Bool) (rv:T_drive_label × Int) (h:drive_trip_next p l done rest_ = some rv):AFn Tryd.prog 87 [.agg [.sl false 1 (p.x.net.places.map e_str),.sl false 6 (p.x.net.arcs.map T_api_Arc.enc),.sl false 14 (p.x.types.map T_api_Type.enc),.sl false 16 (p.x.orders.map T_api_Order.enc),.sl false 2 (p.x.apart.map A2_Int.enc),.sl false 2 (p.x.before.map A2_Int.enc),.str p.t.name,.int .i64 p.t.count,.int .i64 p.t.from_,.int .i64 p.t.to_,.sl false 1 (p.t.cap.map e_i64),.int .i64 p.t.skills,.int .i64 p.t.profile,.int .i64 p.t.open_,.int .i64 p.t.close,.int .i64 p.t.drive,.int .i64 p.t.rest_,.int .i64 p.t.fixed,.int .i64 p.t.perMile,.int .i64 p.t.perTick,.int .i64 p.r.type_,.int .i64 p.r.start,.sl false 1 (p.r.rests.map e_bool),.sl false 2 (p.r.visits.map T_api_Visit.enc),.sl false 4 (p.stops.map T_api_Stop.enc)],.agg [.int .i64 l.ready,.int .i64 l.since,.bool l.sheet.rest_,.int .i64 l.sheet.depart,.sl false 4 (l.sheet.times.map T_api_Time.enc),.int .i64 l.sheet.end_,.int .i64 l.sheet.miles],.one (.int .i64 done),.one (.bool rest_)] [] (.tup [.agg [.int .i64 rv.1.ready,.int .i64 rv.1.since,.bool rv.1.sheet.rest_,.int .i64 rv.1.sheet.depart,.sl false 4 (rv.1.sheet.times.map T_api_Time.enc),.int .i64 rv.1.sheet.end_,.int .i64 rv.1.sheet.miles],.one (.int .i64 rv.2)]) []:=by
 refine afn_of Tryd.func87 (by kernel_rfl) (by kernel_rfl) (fun Γ=>?_)
 unfold drive_trip_next at h
 rcases br_elim h with ⟨h0,h⟩|⟨h0,h⟩
 ·exact gn 11 [2,3,4,5,8,10,11] [0,1,2] [.draw 6 [],bT] (A1 h0 T1) (drive_trip_next_J1_ok Γ rv p l done rest_ (addK .i64 l.ready p.t.rest_) 0 h)
 ·exact gn 9 [2,3,4,5,8,10,11] [0,1,2] [.draw 6 [],bF] (A1 h0 T1) (drive_trip_next_J1_ok Γ rv p l done rest_ l.ready l.since h)
def drive_trip_run_L1_C (Γ:Gam) (rv:T_api_Sheet × Int) (p:T_drive_trip) (rests:List Bool) (r:T_drive_label) (rest_:Int) (x0:T_drive_label) (v:Int):Prop:=Go Tryd.prog Tryd.f61 [] Γ (.tup [.agg [.bool rv.1.rest_,.int .i64 rv.1.depart,.sl false 4 (rv.1.times.map T_api_Time.enc),.int .i64 rv.1.end_,.int .i64 rv.1.miles],.one (.int .i64 rv.2)]) [] ⟨[.c 116,.l 116,.b 0,.c 15],⟨36,[(2,one (.op 0 25 0 0)),(4,one (.op 1 5 0 0)),(6,one (.op 2 7 0 0)),(13,one (.sl false 1 (rests.map e_bool))),(14,one (.int .i64 (lenI rests))),(15,one (.int .i64 v))],[some ⟨true,25,107,[[.sl false 1 (p.x.net.places.map e_str),.sl false 6 (p.x.net.arcs.map T_api_Arc.enc),.sl false 14 (p.x.types.map T_api_Type.enc),.sl false 16 (p.x.orders.map T_api_Order.enc),.sl false 2 (p.x.apart.map A2_Int.enc),.sl false 2 (p.x.before.map A2_Int.enc),.str p.t.name,.int .i64 p.t.count,.int .i64 p.t.from_,.int .i64 p.t.to_,.sl false 1 (p.t.cap.map e_i64),.int .i64 p.t.skills,.int .i64 p.t.profile,.int .i64 p.t.open_,.int .i64 p.t.close,.int .i64 p.t.drive,.int .i64 rest_,.int .i64 p.t.fixed,.int .i64 p.t.perMile,.int .i64 p.t.perTick,.int .i64 p.r.type_,.int .i64 p.r.start,.sl false 1 (p.r.rests.map e_bool),.sl false 2 (p.r.visits.map T_api_Visit.enc),.sl false 4 (p.stops.map T_api_Stop.enc)]]⟩,some ⟨true,5,64,[[.bool false,.int .i64 0,.nils,.int .i64 0,.int .i64 0]]⟩,some ⟨true,7,114,[[.int .i64 x0.ready,.int .i64 x0.since,.bool x0.sheet.rest_,.int .i64 x0.sheet.depart,.sl false 4 (x0.sheet.times.map T_api_Time.enc),.int .i64 x0.sheet.end_,.int .i64 x0.sheet.miles]]⟩]⟩⟩
def drive_trip_run_L1_D0 (Γ:Gam) (rv:T_api_Sheet × Int) (p:T_drive_trip) (rests:List Bool) (r:T_drive_label) (x2:T_drive_label):Prop:=Go Tryd.prog Tryd.f61 [] Γ (.tup [.agg [.bool rv.1.rest_,.int .i64 rv.1.depart,.sl false 4 (rv.1.times.map T_api_Time.enc),.int .i64 rv.1.end_,.int .i64 rv.1.miles],.one (.int .i64 rv.2)]) [] ⟨[.c 15],⟨36,[(4,one (.op 0 5 0 0)),(6,one (.op 1 7 0 0))],[some ⟨true,5,64,[[.bool false,.int .i64 0,.nils,.int .i64 0,.int .i64 0]]⟩,some ⟨true,7,114,[[.int .i64 x2.ready,.int .i64 x2.since,.bool x2.sheet.rest_,.int .i64 x2.sheet.depart,.sl false 4 (x2.sheet.times.map T_api_Time.enc),.int .i64 x2.sheet.end_,.int .i64 x2.sheet.miles]]⟩]⟩⟩
theorem drive_trip_run_L1_ok (Γ:Gam) (rv:T_api_Sheet × Int) (p:T_drive_trip) (rests:List Bool) (r:T_drive_label) (s:Int × T_drive_label × Int) (e:(T_drive_label) ⊕ (T_api_Sheet × Int)) (h:loopF (fun s=>drive_trip_run_L1 p rests r s.1 s.2.1 s.2.2) s = some e) (hD:sel e (fun e=>drive_trip_run_L1_D0 Γ rv p rests r e) (fun e=>e = rv)):drive_trip_run_L1_C Γ rv p rests r s.1 s.2.1 s.2.2:=by
 refine loop_ind (C:=fun (s:Int × T_drive_label × Int)=>drive_trip_run_L1_C Γ rv p rests r s.1 s.2.1 s.2.2) (D:=fun (e:(T_drive_label) ⊕ (T_api_Sheet × Int))=>sel e (fun e=>drive_trip_run_L1_D0 Γ rv p rests r e) (fun e=>e = rv)) ?_ h hD
 clear h hD s e
 rintro ⟨rest_,x0,v⟩ z_ h hI hE
 replace h:drive_trip_run_L1 p rests r rest_ x0 v = _:=h
 unfold drive_trip_run_L1 at h
 rcases br_elim h with ⟨h1,h⟩|⟨h1,h⟩
 ·obtain ⟨x1,h2,h⟩:=bnd_elim h
  obtain ⟨r1,h3,h⟩:=bnd_elim h
  rcases br_elim h with ⟨h4,h⟩|⟨h4,h⟩
  ·obtain rfl:=(hE _ (oJ h):_ = rv)
   exact gr 17 [] [bT,.cells (e_bool x1),.call [] (.tup [.agg [.int .i64 r1.1.ready,.int .i64 r1.1.since,.bool r1.1.sheet.rest_,.int .i64 r1.1.sheet.depart,.sl false 4 (r1.1.sheet.times.map T_api_Time.enc),.int .i64 r1.1.sheet.end_,.int .i64 r1.1.sheet.miles],.one (.int .i64 r1.2)]) [],bT,.wait 6,.nilB 1 2 4] (A4 h1 (getM e_bool h2) (drive_trip_next_ok (T_drive_trip.mk (T_api_Instance.mk (T_api_Network.mk p.x.net.places p.x.net.arcs) p.x.types p.x.orders p.x.apart p.x.before) (T_api_Type.mk p.t.name p.t.count p.t.from_ p.t.to_ p.t.cap p.t.skills p.t.profile p.t.open_ p.t.close p.t.drive rest_ p.t.fixed p.t.perMile p.t.perTick) (T_api_Route.mk p.r.type_ p.r.start p.r.rests p.r.visits) p.stops) (T_drive_label.mk x0.ready x0.since (T_api_Sheet.mk x0.sheet.rest_ x0.sheet.depart x0.sheet.times x0.sheet.end_ x0.sheet.miles)) v x1 r1 h3) h4 T1)
  ·exact gn 20 [2,4,6,13,14,15] [0,1,2] [bT,.cells (e_bool x1),.call [] (.tup [.agg [.int .i64 r1.1.ready,.int .i64 r1.1.since,.bool r1.1.sheet.rest_,.int .i64 r1.1.sheet.depart,.sl false 4 (r1.1.sheet.times.map T_api_Time.enc),.int .i64 r1.1.sheet.end_,.int .i64 r1.1.sheet.miles],.one (.int .i64 r1.2)]) [],bF] (A4 h1 (getM e_bool h2) (drive_trip_next_ok (T_drive_trip.mk (T_api_Instance.mk (T_api_Network.mk p.x.net.places p.x.net.arcs) p.x.types p.x.orders p.x.apart p.x.before) (T_api_Type.mk p.t.name p.t.count p.t.from_ p.t.to_ p.t.cap p.t.skills p.t.profile p.t.open_ p.t.close p.t.drive rest_ p.t.fixed p.t.perMile p.t.perTick) (T_api_Route.mk p.r.type_ p.r.start p.r.rests p.r.visits) p.stops) (T_drive_label.mk x0.ready x0.since (T_api_Sheet.mk x0.sheet.rest_ x0.sheet.depart x0.sheet.times x0.sheet.end_ x0.sheet.miles)) v x1 r1 h3) h4 T1) (hI _ (oJ h))
 ·exact gn 5 [4,6] [1,2] [bF] (A1 h1 T1) (hE _ (oJ h))
theorem drive_trip_run_ok (p:T_drive_trip) (rests:List Bool) (rv:T_api_Sheet × Int) (h:drive_trip_run p rests = some rv):AFn Tryd.prog 61 [.agg [.sl false 1 (p.x.net.places.map e_str),.sl false 6 (p.x.net.arcs.map T_api_Arc.enc),.sl false 14 (p.x.types.map T_api_Type.enc),.sl false 16 (p.x.orders.map T_api_Order.enc),.sl false 2 (p.x.apart.map A2_Int.enc),.sl false 2 (p.x.before.map A2_Int.enc),.str p.t.name,.int .i64 p.t.count,.int .i64 p.t.from_,.int .i64 p.t.to_,.sl false 1 (p.t.cap.map e_i64),.int .i64 p.t.skills,.int .i64 p.t.profile,.int .i64 p.t.open_,.int .i64 p.t.close,.int .i64 p.t.drive,.int .i64 p.t.rest_,.int .i64 p.t.fixed,.int .i64 p.t.perMile,.int .i64 p.t.perTick,.int .i64 p.r.type_,.int .i64 p.r.start,.sl false 1 (p.r.rests.map e_bool),.sl false 2 (p.r.visits.map T_api_Visit.enc),.sl false 4 (p.stops.map T_api_Stop.enc)],.one (.sl false 1 (rests.map e_bool))] [] (.tup [.agg [.bool rv.1.rest_,.int .i64 rv.1.depart,.sl false 4 (rv.1.times.map T_api_Time.enc),.int .i64 rv.1.end_,.int .i64 rv.1.miles],.one (.int .i64 rv.2)]) []:=by
 refine afn_of Tryd.func61 (by kernel_rfl) (by kernel_rfl) (fun Γ=>?_)
 unfold drive_trip_run at h
 obtain ⟨r,h0,h⟩:=bnd_elim h
 obtain ⟨e0,h5,h⟩:=bnd_elim h
 refine gn 9 [2,4,6,13,14,15] [0,1,2] [.call [] (.cm (.agg [.int .i64 r.ready,.int .i64 r.since,.bool r.sheet.rest_,.int .i64 r.sheet.depart,.sl false 4 (r.sheet.times.map T_api_Time.enc),.int .i64 r.sheet.end_,.int .i64 r.sheet.miles])) [],.num rests.length] (A2 (drive_trip_begin_ok (T_drive_trip.mk (T_api_Instance.mk (T_api_Network.mk p.x.net.places p.x.net.arcs) p.x.types p.x.orders p.x.apart p.x.before) (T_api_Type.mk p.t.name p.t.count p.t.from_ p.t.to_ p.t.cap p.t.skills p.t.profile p.t.open_ p.t.close p.t.drive p.t.rest_ p.t.fixed p.t.perMile p.t.perTick) (T_api_Route.mk p.r.type_ p.r.start p.r.rests p.r.visits) p.stops) r h0) (lenM e_bool rests) T1) (drive_trip_run_L1_ok Γ rv p rests r _ _ h5 ?_)
 rcases e0 with e0|e0
 ·obtain ⟨x2,rfl⟩:∃ x,x = e0:=⟨_,rfl⟩
  replace h:(some ((T_api_Sheet.mk x2.sheet.rest_ x2.sheet.depart x2.sheet.times x2.sheet.end_ x2.sheet.miles),0):Option (T_api_Sheet × Int)) = some _:=h
  obtain rfl:=Option.some.inj h
  exact gr 2 [] [] T1
 ·obtain ⟨r2,rfl⟩:∃ x,x = e0:=⟨_,rfl⟩
  replace h:(some r2:Option (T_api_Sheet × Int)) = some _:=h
  exact Option.some.inj h
theorem drive_Run_ok (x0:T_api_Instance) (r:T_api_Route) (rests:List Bool) (rv:T_api_Sheet × Int) (h:drive_Run x0 r rests = some rv):AFn Tryd.prog 32 [.agg [.sl false 1 (x0.net.places.map e_str),.sl false 6 (x0.net.arcs.map T_api_Arc.enc),.sl false 14 (x0.types.map T_api_Type.enc),.sl false 16 (x0.orders.map T_api_Order.enc),.sl false 2 (x0.apart.map A2_Int.enc),.sl false 2 (x0.before.map A2_Int.enc)],.agg [.int .i64 r.type_,.int .i64 r.start,.sl false 1 (r.rests.map e_bool),.sl false 2 (r.visits.map T_api_Visit.enc)],.one (.sl false 1 (rests.map e_bool))] [] (.tup [.agg [.bool rv.1.rest_,.int .i64 rv.1.depart,.sl false 4 (rv.1.times.map T_api_Time.enc),.int .i64 rv.1.end_,.int .i64 rv.1.miles],.one (.int .i64 rv.2)]) []:=by
 refine afn_of Tryd.func32 (by kernel_rfl) (by kernel_rfl) (fun Γ=>?_)
 unfold drive_Run at h
 obtain ⟨r1,h0,h⟩:=bnd_elim h
 rcases br_elim h with ⟨h1,h⟩|⟨h1,h⟩
 ·obtain rfl:=Option.some.inj h
  exact gr 10 [] [.call [] (.tup [.agg [.sl false 1 (r1.1.x.net.places.map e_str),.sl false 6 (r1.1.x.net.arcs.map T_api_Arc.enc),.sl false 14 (r1.1.x.types.map T_api_Type.enc),.sl false 16 (r1.1.x.orders.map T_api_Order.enc),.sl false 2 (r1.1.x.apart.map A2_Int.enc),.sl false 2 (r1.1.x.before.map A2_Int.enc),.str r1.1.t.name,.int .i64 r1.1.t.count,.int .i64 r1.1.t.from_,.int .i64 r1.1.t.to_,.sl false 1 (r1.1.t.cap.map e_i64),.int .i64 r1.1.t.skills,.int .i64 r1.1.t.profile,.int .i64 r1.1.t.open_,.int .i64 r1.1.t.close,.int .i64 r1.1.t.drive,.int .i64 r1.1.t.rest_,.int .i64 r1.1.t.fixed,.int .i64 r1.1.t.perMile,.int .i64 r1.1.t.perTick,.int .i64 r1.1.r.type_,.int .i64 r1.1.r.start,.sl false 1 (r1.1.r.rests.map e_bool),.sl false 2 (r1.1.r.visits.map T_api_Visit.enc),.sl false 4 (r1.1.stops.map T_api_Stop.enc)],.one (.bool r1.2)]) [],kP,kP,.num rests.length,kP,kP,kP,.num r.visits.length,kP,kP,kP,bT,.wait 5,.nilB 2 2 4] (A1 (drive_plan_ok (T_api_Instance.mk (T_api_Network.mk x0.net.places x0.net.arcs) x0.types x0.orders x0.apart x0.before) r r1 h0) (A2 (fun (h0:(!r1.2) = false)=>h0) (lenM e_bool rests) (A8 (fun (h0:(!r1.2) = false)=>h0) (fun (h0:(!r1.2) = false)=>h0) (lenM T_api_Visit.enc r.visits) (fun (h0:(!r1.2) = false)=>h0) (fun (h0:(!r1.2) = false)=>h0) (fun (h0:(!r1.2) = false)=>h0) (fun (h0:True∧(!r1.2) = false)=>h0.2) h1 T1)))
 ·obtain ⟨r2,h2,h⟩:=bnd_elim h
  obtain rfl:=Option.some.inj h
  exact gr 11 [] [.call [] (.tup [.agg [.sl false 1 (r1.1.x.net.places.map e_str),.sl false 6 (r1.1.x.net.arcs.map T_api_Arc.enc),.sl false 14 (r1.1.x.types.map T_api_Type.enc),.sl false 16 (r1.1.x.orders.map T_api_Order.enc),.sl false 2 (r1.1.x.apart.map A2_Int.enc),.sl false 2 (r1.1.x.before.map A2_Int.enc),.str r1.1.t.name,.int .i64 r1.1.t.count,.int .i64 r1.1.t.from_,.int .i64 r1.1.t.to_,.sl false 1 (r1.1.t.cap.map e_i64),.int .i64 r1.1.t.skills,.int .i64 r1.1.t.profile,.int .i64 r1.1.t.open_,.int .i64 r1.1.t.close,.int .i64 r1.1.t.drive,.int .i64 r1.1.t.rest_,.int .i64 r1.1.t.fixed,.int .i64 r1.1.t.perMile,.int .i64 r1.1.t.perTick,.int .i64 r1.1.r.type_,.int .i64 r1.1.r.start,.sl false 1 (r1.1.r.rests.map e_bool),.sl false 2 (r1.1.r.visits.map T_api_Visit.enc),.sl false 4 (r1.1.stops.map T_api_Stop.enc)],.one (.bool r1.2)]) [],kP,kP,.num rests.length,kP,kP,kP,.num r.visits.length,kP,kP,kP,bF,.call [] (.tup [.agg [.bool r2.1.rest_,.int .i64 r2.1.depart,.sl false 4 (r2.1.times.map T_api_Time.enc),.int .i64 r2.1.end_,.int .i64 r2.1.miles],.one (.int .i64 r2.2)]) []] (A4 (drive_plan_ok (T_api_Instance.mk (T_api_Network.mk x0.net.places x0.net.arcs) x0.types x0.orders x0.apart x0.before) r r1 h0) (fun (h0:(!r1.2) = false)=>h0) (lenM e_bool rests) (fun (h0:(!r1.2) = false)=>h0) (A8 (fun (h0:(!r1.2) = false)=>h0) (lenM T_api_Visit.enc r.visits) (fun (h0:(!r1.2) = false)=>h0) (fun (h0:(!r1.2) = false)=>h0) (fun (h0:(!r1.2) = false)=>h0) (fun (h0:True∧(!r1.2) = false)=>h0.2) h1 (drive_trip_run_ok (T_drive_trip.mk (T_api_Instance.mk (T_api_Network.mk r1.1.x.net.places r1.1.x.net.arcs) r1.1.x.types r1.1.x.orders r1.1.x.apart r1.1.x.before) (T_api_Type.mk r1.1.t.name r1.1.t.count r1.1.t.from_ r1.1.t.to_ r1.1.t.cap r1.1.t.skills r1.1.t.profile r1.1.t.open_ r1.1.t.close r1.1.t.drive r1.1.t.rest_ r1.1.t.fixed r1.1.t.perMile r1.1.t.perTick) (T_api_Route.mk r1.1.r.type_ r1.1.r.start r1.1.r.rests r1.1.r.visits) r1.1.stops) rests r2 h2) T1))
theorem drive_label_beats_ok (l:T_drive_label) (m:T_drive_label) (rv:Bool) (h:drive_label_beats l m = some rv):AFn Tryd.prog 92 [.agg [.int .i64 l.ready,.int .i64 l.since,.bool l.sheet.rest_,.int .i64 l.sheet.depart,.sl false 4 (l.sheet.times.map T_api_Time.enc),.int .i64 l.sheet.end_,.int .i64 l.sheet.miles],.agg [.int .i64 m.ready,.int .i64 m.since,.bool m.sheet.rest_,.int .i64 m.sheet.depart,.sl false 4 (m.sheet.times.map T_api_Time.enc),.int .i64 m.sheet.end_,.int .i64 m.sheet.miles]] [] (one (.bool rv)) []:=by
 refine afn_of Tryd.func92 (by kernel_rfl) (by kernel_rfl) (fun Γ=>?_)
 unfold drive_label_beats at h
 obtain rfl:=Option.some.inj h
 exact gr 4 [] [kP,kP,kP,kP,kP,kP] (A1 (fun (h0:(eqI l.ready m.ready) = true)=>h0) (A4 (fun (h0:(eqI l.ready m.ready) = true)=>h0) (fun (h0:(eqI l.ready m.ready) = true)=>h0) (fun (h0:(eqI l.ready m.ready) = true)=>h0) (fun (h0:True∧(eqI l.ready m.ready) = true)=>h0.2) T1))
theorem drive_trip_grow_1_ok (m:T_drive_label) (c:T_drive_label) (rv:Bool) (h:drive_trip_grow_1 m c = some rv):AFn Tryd.prog 91 [.agg [.int .i64 m.ready,.int .i64 m.since,.bool m.sheet.rest_,.int .i64 m.sheet.depart,.sl false 4 (m.sheet.times.map T_api_Time.enc),.int .i64 m.sheet.end_,.int .i64 m.sheet.miles],.one (.ip [.int .i64 c.ready,.int .i64 c.since,.bool c.sheet.rest_,.int .i64 c.sheet.depart,.sl false 4 (c.sheet.times.map T_api_Time.enc),.int .i64 c.sheet.end_,.int .i64 c.sheet.miles] 0)] [] (one (.bool rv)) []:=by
 refine afn_of Tryd.func91 (by kernel_rfl) (by kernel_rfl) (fun Γ=>?_)
 unfold drive_trip_grow_1 at h
 obtain ⟨r,h0,h⟩:=bnd_elim h
 obtain rfl:=Option.some.inj h
 exact gr 4 [] [.call [] (one (.bool r)) []] (A1 (drive_label_beats_ok (T_drive_label.mk m.ready m.since (T_api_Sheet.mk m.sheet.rest_ m.sheet.depart m.sheet.times m.sheet.end_ m.sheet.miles)) (T_drive_label.mk c.ready c.since (T_api_Sheet.mk c.sheet.rest_ c.sheet.depart c.sheet.times c.sheet.end_ c.sheet.miles)) r h0) T1)
def drive_label__f110_91_L1_C (Γ:Gam) (rv:Int) (s0:List T_drive_label) (c:T_drive_label) (v:Int):Prop:=Go Tryd.prog Tryd.f110 [] Γ (one (.int .i64 rv)) [] ⟨[.c 52,.l 52,.b 0,.c 7],⟨19,[(0,one (.sl false 7 (s0.map T_drive_label.enc))),(1,one (.fn (.func 91) [.ip [.int .i64 c.ready,.int .i64 c.since,.bool c.sheet.rest_,.int .i64 c.sheet.depart,.sl false 4 (c.sheet.times.map T_api_Time.enc),.int .i64 c.sheet.end_,.int .i64 c.sheet.miles] 0])),(7,one (.int .i64 (lenI s0))),(8,one (.int .i64 v))],[]⟩⟩
def drive_label__f110_91_L1_D0 (Γ:Gam) (rv:Int) (s0:List T_drive_label) (c:T_drive_label):Prop:=Go Tryd.prog Tryd.f110 [] Γ (one (.int .i64 rv)) [] ⟨[.c 7],⟨19,[],[]⟩⟩
theorem drive_label__f110_91_L1_ok (Γ:Gam) (rv:Int) (s0:List T_drive_label) (c:T_drive_label) (s:Int) (e:(Unit) ⊕ (Int)) (h:loopF (fun s=>drive_label__f110_91_L1 s0 c s) s = some e) (hD:sel e (fun e=>drive_label__f110_91_L1_D0 Γ rv s0 c) (fun e=>e = rv)):drive_label__f110_91_L1_C Γ rv s0 c s:=by
 refine loop_ind (C:=fun (s:Int)=>drive_label__f110_91_L1_C Γ rv s0 c s) (D:=fun (e:(Unit) ⊕ (Int))=>sel e (fun e=>drive_label__f110_91_L1_D0 Γ rv s0 c) (fun e=>e = rv)) ?_ h hD
 clear h hD s e
 intro v z_ h hI hE
 replace h:drive_label__f110_91_L1 s0 c v = _:=h
 unfold drive_label__f110_91_L1 at h
 rcases br_elim h with ⟨h0,h⟩|⟨h0,h⟩
 ·obtain ⟨x0,h1,h⟩:=bnd_elim h
  obtain ⟨r,h2,h⟩:=bnd_elim h
  rcases br_elim h with ⟨h3,h⟩|⟨h3,h⟩
  ·obtain rfl:=(hE _ (oJ h):_ = rv)
   exact gr 14 [] [bT,.cells (T_drive_label.enc x0),.call [] (one (.bool r)) [],bT] (A4 h0 (getM T_drive_label.enc h1) (drive_trip_grow_1_ok (T_drive_label.mk x0.ready x0.since (T_api_Sheet.mk x0.sheet.rest_ x0.sheet.depart x0.sheet.times x0.sheet.end_ x0.sheet.miles)) (T_drive_label.mk c.ready c.since (T_api_Sheet.mk c.sheet.rest_ c.sheet.depart c.sheet.times c.sheet.end_ c.sheet.miles)) r h2) h3 T1)
  ·exact gn 16 [0,1,7,8] [] [bT,.cells (T_drive_label.enc x0),.call [] (one (.bool r)) [],bF] (A4 h0 (getM T_drive_label.enc h1) (drive_trip_grow_1_ok (T_drive_label.mk x0.ready x0.since (T_api_Sheet.mk x0.sheet.rest_ x0.sheet.depart x0.sheet.times x0.sheet.end_ x0.sheet.miles)) (T_drive_label.mk c.ready c.since (T_api_Sheet.mk c.sheet.rest_ c.sheet.depart c.sheet.times c.sheet.end_ c.sheet.miles)) r h2) h3 T1) (hI _ (oJ h))
 ·exact gn 5 [] [] [bF] (A1 h0 T1) (hE _ (oJ h))
theorem drive_label__f110_91_ok (s0:List T_drive_label) (c:T_drive_label) (rv:Int) (h:drive_label__f110_91 s0 c = some rv):AFn Tryd.prog 110 [.one (.sl false 7 (s0.map T_drive_label.enc)),.one (.fn (.func 91) [.ip [.int .i64 c.ready,.int .i64 c.since,.bool c.sheet.rest_,.int .i64 c.sheet.depart,.sl false 4 (c.sheet.times.map T_api_Time.enc),.int .i64 c.sheet.end_,.int .i64 c.sheet.miles] 0])] [] (one (.int .i64 rv)) []:=by
 refine afn_of Tryd.func110 (by kernel_rfl) (by kernel_rfl) (fun Γ=>?_)
 unfold drive_label__f110_91 at h
 obtain ⟨e0,h4,h⟩:=bnd_elim h
 refine gn 7 [0,1,7,8] [] [.num s0.length] (A1 (lenM T_drive_label.enc s0) T1) (drive_label__f110_91_L1_ok Γ rv s0 c _ _ h4 ?_)
 rcases e0 with e0|e0
 ·replace h:(some (-1):Option Int) = some _:=h
  obtain rfl:=Option.some.inj h
  exact gr 2 [] [] T1
 ·obtain ⟨r1,rfl⟩:∃ x,x = e0:=⟨_,rfl⟩
  replace h:(some r1:Option Int) = some _:=h
  exact Option.some.inj h
theorem drive_label__91_ok (s0:List T_drive_label) (c:T_drive_label) (rv:Bool) (h:drive_label__91 s0 c = some rv):AFn Tryd.prog 90 [.one (.sl false 7 (s0.map T_drive_label.enc)),.one (.fn (.func 91) [.ip [.int .i64 c.ready,.int .i64 c.since,.bool c.sheet.rest_,.int .i64 c.sheet.depart,.sl false 4 (c.sheet.times.map T_api_Time.enc),.int .i64 c.sheet.end_,.int .i64 c.sheet.miles] 0])] [] (one (.bool rv)) []:=by
 refine afn_of Tryd.func90 (by kernel_rfl) (by kernel_rfl) (fun Γ=>?_)
 unfold drive_label__91 at h
 obtain ⟨r,h0,h⟩:=bnd_elim h
 obtain rfl:=Option.some.inj h
 exact gr 4 [] [.call [] (one (.int .i64 r)) []] (A1 (drive_label__f110_91_ok s0 (T_drive_label.mk c.ready c.since (T_api_Sheet.mk c.sheet.rest_ c.sheet.depart c.sheet.times c.sheet.end_ c.sheet.miles)) r h0) T1)
def drive_trip_grow_L2_C (Γ:Gam) (rv:List T_drive_label) (p:T_drive_trip) (l:List T_drive_label) (done:Int) (choices:List Bool) (v:Int) (x0:T_drive_label) (l3:List T_drive_label) (v1:Int):Prop:=Go Tryd.prog Tryd.f64 [] Γ (one (.sl false 7 (rv.map T_drive_label.enc))) [] ⟨[.c 128204,.l 128204,.b 2,.b 1,.c 4007,.l 500,.b 0,.c 63],⟨64,[(2,one (.int .i64 done)),(3,one (.op 0 25 0 0)),(7,one (.sl false 1 (choices.map e_bool))),(8,one (.os 1 7 0 (l3.map T_drive_label.enc).length)),(10,one (.op 2 7 0 0)),(29,one (.sl false 7 (l.map T_drive_label.enc))),(30,one (.int .i64 (lenI l))),(31,one (.int .i64 v)),(35,one (.sl false 1 (choices.map e_bool))),(36,one (.int .i64 (lenI choices))),(37,one (.int .i64 v1))],[some ⟨true,25,107,[[.sl false 1 (p.x.net.places.map e_str),.sl false 6 (p.x.net.arcs.map T_api_Arc.enc),.sl false 14 (p.x.types.map T_api_Type.enc),.sl false 16 (p.x.orders.map T_api_Order.enc),.sl false 2 (p.x.apart.map A2_Int.enc),.sl false 2 (p.x.before.map A2_Int.enc),.str p.t.name,.int .i64 p.t.count,.int .i64 p.t.from_,.int .i64 p.t.to_,.sl false 1 (p.t.cap.map e_i64),.int .i64 p.t.skills,.int .i64 p.t.profile,.int .i64 p.t.open_,.int .i64 p.t.close,.int .i64 p.t.drive,.int .i64 p.t.rest_,.int .i64 p.t.fixed,.int .i64 p.t.perMile,.int .i64 p.t.perTick,.int .i64 p.r.type_,.int .i64 p.r.start,.sl false 1 (p.r.rests.map e_bool),.sl false 2 (p.r.visits.map T_api_Visit.enc),.sl false 4 (p.stops.map T_api_Stop.enc)]]⟩,some ⟨false,7,114,(l3.map T_drive_label.enc)⟩,some ⟨true,7,114,[[.int .i64 x0.ready,.int .i64 x0.since,.bool x0.sheet.rest_,.int .i64 x0.sheet.depart,.sl false 4 (x0.sheet.times.map T_api_Time.enc),.int .i64 x0.sheet.end_,.int .i64 x0.sheet.miles]]⟩]⟩⟩
def drive_trip_grow_L2_D0 (Γ:Gam) (rv:List T_drive_label) (p:T_drive_trip) (l:List T_drive_label) (done:Int) (choices:List Bool) (v:Int) (x0:T_drive_label) (l4:List T_drive_label):Prop:=Go Tryd.prog Tryd.f64 [] Γ (one (.sl false 7 (rv.map T_drive_label.enc))) [] ⟨[.b 1,.c 4007,.l 500,.b 0,.c 63],⟨64,[(2,one (.int .i64 done)),(3,one (.op 0 25 0 0)),(7,one (.sl false 1 (choices.map e_bool))),(8,one (.os 1 7 0 (l4.map T_drive_label.enc).length)),(29,one (.sl false 7 (l.map T_drive_label.enc))),(30,one (.int .i64 (lenI l))),(31,one (.int .i64 v))],[some ⟨true,25,107,[[.sl false 1 (p.x.net.places.map e_str),.sl false 6 (p.x.net.arcs.map T_api_Arc.enc),.sl false 14 (p.x.types.map T_api_Type.enc),.sl false 16 (p.x.orders.map T_api_Order.enc),.sl false 2 (p.x.apart.map A2_Int.enc),.sl false 2 (p.x.before.map A2_Int.enc),.str p.t.name,.int .i64 p.t.count,.int .i64 p.t.from_,.int .i64 p.t.to_,.sl false 1 (p.t.cap.map e_i64),.int .i64 p.t.skills,.int .i64 p.t.profile,.int .i64 p.t.open_,.int .i64 p.t.close,.int .i64 p.t.drive,.int .i64 p.t.rest_,.int .i64 p.t.fixed,.int .i64 p.t.perMile,.int .i64 p.t.perTick,.int .i64 p.r.type_,.int .i64 p.r.start,.sl false 1 (p.r.rests.map e_bool),.sl false 2 (p.r.visits.map T_api_Visit.enc),.sl false 4 (p.stops.map T_api_Stop.enc)]]⟩,some ⟨false,7,114,(l4.map T_drive_label.enc)⟩]⟩⟩
def drive_trip_grow_L1_C (Γ:Gam) (rv:List T_drive_label) (p:T_drive_trip) (l:List T_drive_label) (done:Int) (choices:List Bool) (l2:List T_drive_label) (v:Int):Prop:=Go Tryd.prog Tryd.f64 [] Γ (one (.sl false 7 (rv.map T_drive_label.enc))) [] ⟨[.c 500,.l 500,.b 0,.c 63],⟨64,[(2,one (.int .i64 done)),(3,one (.op 0 25 0 0)),(7,one (.sl false 1 (choices.map e_bool))),(8,one (.os 1 7 0 (l2.map T_drive_label.enc).length)),(29,one (.sl false 7 (l.map T_drive_label.enc))),(30,one (.int .i64 (lenI l))),(31,one (.int .i64 v))],[some ⟨true,25,107,[[.sl false 1 (p.x.net.places.map e_str),.sl false 6 (p.x.net.arcs.map T_api_Arc.enc),.sl false 14 (p.x.types.map T_api_Type.enc),.sl false 16 (p.x.orders.map T_api_Order.enc),.sl false 2 (p.x.apart.map A2_Int.enc),.sl false 2 (p.x.before.map A2_Int.enc),.str p.t.name,.int .i64 p.t.count,.int .i64 p.t.from_,.int .i64 p.t.to_,.sl false 1 (p.t.cap.map e_i64),.int .i64 p.t.skills,.int .i64 p.t.profile,.int .i64 p.t.open_,.int .i64 p.t.close,.int .i64 p.t.drive,.int .i64 p.t.rest_,.int .i64 p.t.fixed,.int .i64 p.t.perMile,.int .i64 p.t.perTick,.int .i64 p.r.type_,.int .i64 p.r.start,.sl false 1 (p.r.rests.map e_bool),.sl false 2 (p.r.visits.map T_api_Visit.enc),.sl false 4 (p.stops.map T_api_Stop.enc)]]⟩,some ⟨false,7,114,(l2.map T_drive_label.enc)⟩]⟩⟩
def drive_trip_grow_L1_D0 (Γ:Gam) (rv:List T_drive_label) (p:T_drive_trip) (l:List T_drive_label) (done:Int) (choices:List Bool) (l5:List T_drive_label):Prop:=Go Tryd.prog Tryd.f64 [] Γ (one (.sl false 7 (rv.map T_drive_label.enc))) [] ⟨[.c 63],⟨64,[(8,one (.os 0 7 0 (l5.map T_drive_label.enc).length))],[some ⟨false,7,114,(l5.map T_drive_label.enc)⟩]⟩⟩
theorem drive_trip_grow_L2_ok (Γ:Gam) (rv:List T_drive_label) (p:T_drive_trip) (l:List T_drive_label) (done:Int) (choices:List Bool) (v:Int) (x0:T_drive_label) (s:List T_drive_label × Int) (e:List T_drive_label) (h:loopF (fun s=>drive_trip_grow_L2 p l done choices v x0 s.1 s.2) s = some e) (hD:drive_trip_grow_L2_D0 Γ rv p l done choices v x0 e):drive_trip_grow_L2_C Γ rv p l done choices v x0 s.1 s.2:=by
 refine loop_ind (C:=fun (s:List T_drive_label × Int)=>drive_trip_grow_L2_C Γ rv p l done choices v x0 s.1 s.2) (D:=fun (e:List T_drive_label)=>drive_trip_grow_L2_D0 Γ rv p l done choices v x0 e) ?_ h hD
 clear h hD s e
 rintro ⟨l3,v1⟩ z_ h hI hE
 replace h:drive_trip_grow_L2 p l done choices v x0 l3 v1 = _:=h
 unfold drive_trip_grow_L2 at h
 rcases br_elim h with ⟨h4,h⟩|⟨h4,h⟩
 ·obtain ⟨x1,h5,h⟩:=bnd_elim h
  obtain ⟨r,h6,h⟩:=bnd_elim h
  rcases br_elim h with ⟨h7,h⟩|⟨h7,h⟩
  ·obtain ⟨r1,h8,h⟩:=bnd_elim h
   rcases br_elim h with ⟨h9,h⟩|⟨h9,h⟩
   ·exact gn 18 [2,3,7,8,10,29,30,31,35,36,37] [0,1,2] [bT,.cells (e_bool x1),.call [] (.tup [.agg [.int .i64 r.1.ready,.int .i64 r.1.since,.bool r.1.sheet.rest_,.int .i64 r.1.sheet.depart,.sl false 4 (r.1.sheet.times.map T_api_Time.enc),.int .i64 r.1.sheet.end_,.int .i64 r.1.sheet.miles],.one (.int .i64 r.2)]) [],bT,bT,bT,.call [] (one (.bool r1)) [],bT,bT,bF] (A1 h4 (A2 (getM e_bool h5) (drive_trip_next_ok (T_drive_trip.mk (T_api_Instance.mk (T_api_Network.mk p.x.net.places p.x.net.arcs) p.x.types p.x.orders p.x.apart p.x.before) (T_api_Type.mk p.t.name p.t.count p.t.from_ p.t.to_ p.t.cap p.t.skills p.t.profile p.t.open_ p.t.close p.t.drive p.t.rest_ p.t.fixed p.t.perMile p.t.perTick) (T_api_Route.mk p.r.type_ p.r.start p.r.rests p.r.visits) p.stops) (T_drive_label.mk x0.ready x0.since (T_api_Sheet.mk x0.sheet.rest_ x0.sheet.depart x0.sheet.times x0.sheet.end_ x0.sheet.miles)) done x1 r h6) (A8 h7 h7 h7 (eL l3 T_drive_label.enc) (drive_label__91_ok l3 (T_drive_label.mk r.1.ready r.1.since (T_api_Sheet.mk r.1.sheet.rest_ r.1.sheet.depart r.1.sheet.times r.1.sheet.end_ r.1.sheet.miles)) r1 h8) h7 h7 (notF h9) T1))) (hI _ (oJ h))
   ·obtain ⟨h10,h⟩:=chk_elim h
    exact gn 18 [2,3,7,8,10,29,30,31,35,36,37] [0,5,2] [bT,.cells (e_bool x1),.call [] (.tup [.agg [.int .i64 r.1.ready,.int .i64 r.1.since,.bool r.1.sheet.rest_,.int .i64 r.1.sheet.depart,.sl false 4 (r.1.sheet.times.map T_api_Time.enc),.int .i64 r.1.sheet.end_,.int .i64 r.1.sheet.miles],.one (.int .i64 r.2)]) [],bT,bT,bT,.call [] (one (.bool r1)) [],bT,bT,bT,.rows ((l3 ++ [(T_drive_label.mk r.1.ready r.1.since (T_api_Sheet.mk r.1.sheet.rest_ r.1.sheet.depart r.1.sheet.times r.1.sheet.end_ r.1.sheet.miles))]).map T_drive_label.enc)] (A8 h4 (getM e_bool h5) (drive_trip_next_ok (T_drive_trip.mk (T_api_Instance.mk (T_api_Network.mk p.x.net.places p.x.net.arcs) p.x.types p.x.orders p.x.apart p.x.before) (T_api_Type.mk p.t.name p.t.count p.t.from_ p.t.to_ p.t.cap p.t.skills p.t.profile p.t.open_ p.t.close p.t.drive p.t.rest_ p.t.fixed p.t.perMile p.t.perTick) (T_api_Route.mk p.r.type_ p.r.start p.r.rests p.r.visits) p.stops) (T_drive_label.mk x0.ready x0.since (T_api_Sheet.mk x0.sheet.rest_ x0.sheet.depart x0.sheet.times x0.sheet.end_ x0.sheet.miles)) done x1 r h6) h7 h7 h7 (eL l3 T_drive_label.enc) (drive_label__91_ok l3 (T_drive_label.mk r.1.ready r.1.since (T_api_Sheet.mk r.1.sheet.rest_ r.1.sheet.depart r.1.sheet.times r.1.sheet.end_ r.1.sheet.miles)) r1 h8) (A8 h7 h7 (notT h9) (Eq.refl ([(T_drive_label.mk r.1.ready r.1.since (T_api_Sheet.mk r.1.sheet.rest_ r.1.sheet.depart r.1.sheet.times r.1.sheet.end_ r.1.sheet.miles))].map T_drive_label.enc).length) (eL l3 T_drive_label.enc) (appM T_drive_label.enc l3 [(T_drive_label.mk r.1.ready r.1.since (T_api_Sheet.mk r.1.sheet.rest_ r.1.sheet.depart r.1.sheet.times r.1.sheet.end_ r.1.sheet.miles))]) (okLe (l:=((l3 ++ [(T_drive_label.mk r.1.ready r.1.since (T_api_Sheet.mk r.1.sheet.rest_ r.1.sheet.depart r.1.sheet.times r.1.sheet.end_ r.1.sheet.miles))]):List T_drive_label)) T_drive_label.enc h10) (okLe2 (l:=((l3 ++ [(T_drive_label.mk r.1.ready r.1.since (T_api_Sheet.mk r.1.sheet.rest_ r.1.sheet.depart r.1.sheet.times r.1.sheet.end_ r.1.sheet.miles))]):List T_drive_label)) (b:=72) T_drive_label.enc (by decide) h10) T1)) (hI _ (oJ h))
  ·exact gn 18 [2,3,7,8,10,29,30,31,35,36,37] [0,1,2] [bT,.cells (e_bool x1),.call [] (.tup [.agg [.int .i64 r.1.ready,.int .i64 r.1.since,.bool r.1.sheet.rest_,.int .i64 r.1.sheet.depart,.sl false 4 (r.1.sheet.times.map T_api_Time.enc),.int .i64 r.1.sheet.end_,.int .i64 r.1.sheet.miles],.one (.int .i64 r.2)]) [],bF,bF,bF,bF,bF,bF] (A1 h4 (A8 (getM e_bool h5) (drive_trip_next_ok (T_drive_trip.mk (T_api_Instance.mk (T_api_Network.mk p.x.net.places p.x.net.arcs) p.x.types p.x.orders p.x.apart p.x.before) (T_api_Type.mk p.t.name p.t.count p.t.from_ p.t.to_ p.t.cap p.t.skills p.t.profile p.t.open_ p.t.close p.t.drive p.t.rest_ p.t.fixed p.t.perMile p.t.perTick) (T_api_Route.mk p.r.type_ p.r.start p.r.rests p.r.visits) p.stops) (T_drive_label.mk x0.ready x0.since (T_api_Sheet.mk x0.sheet.rest_ x0.sheet.depart x0.sheet.times x0.sheet.end_ x0.sheet.miles)) done x1 r h6) h7 h7 h7 h7 h7 rF T1)) (hI _ (oJ h))
 ·exact gn 5 [2,3,7,8,29,30,31] [0,1] [bF] (A1 h4 T1) (hE _ (oJ h))
theorem drive_trip_grow_L1_ok (Γ:Gam) (rv:List T_drive_label) (p:T_drive_trip) (l:List T_drive_label) (done:Int) (choices:List Bool) (s:List T_drive_label × Int) (e:List T_drive_label) (h:loopF (fun s=>drive_trip_grow_L1 p l done choices s.1 s.2) s = some e) (hD:drive_trip_grow_L1_D0 Γ rv p l done choices e):drive_trip_grow_L1_C Γ rv p l done choices s.1 s.2:=by
 refine loop_ind (C:=fun (s:List T_drive_label × Int)=>drive_trip_grow_L1_C Γ rv p l done choices s.1 s.2) (D:=fun (e:List T_drive_label)=>drive_trip_grow_L1_D0 Γ rv p l done choices e) ?_ h hD
 clear h hD s e
 rintro ⟨l2,v⟩ z_ h hI hE
 replace h:drive_trip_grow_L1 p l done choices l2 v = _:=h
 unfold drive_trip_grow_L1 at h
 rcases br_elim h with ⟨h2,h⟩|⟨h2,h⟩
 ·obtain ⟨x0,h3,h⟩:=bnd_elim h
  obtain ⟨e0,h11,h⟩:=bnd_elim h
  refine gn 13 [2,3,7,8,10,29,30,31,35,36,37] [0,1,2] [bT,.cells (T_drive_label.enc x0),.num choices.length] (A1 h2 (A2 (getM T_drive_label.enc h3) (lenM e_bool choices) T1)) (drive_trip_grow_L2_ok Γ rv p l done choices v x0 _ _ h11 ?_)
  obtain ⟨l4,rfl⟩:∃ x,x = e0:=⟨_,rfl⟩
  replace h:(some (.inl (l4,(addK .i64 v 1))):Option ((List T_drive_label × Int) ⊕ (List T_drive_label))) = some _:=h
  exact gn 3 [2,3,7,8,29,30,31] [0,1] [] T1 (hI _ (oJ h))
 ·exact gn 5 [8] [1] [bF] (A1 h2 T1) (hE _ (oJ h))
theorem drive_trip_grow_J1_ok (Γ:Gam) (rv:List T_drive_label) (p:T_drive_trip) (l:List T_drive_label) (done:Int) (choices:List Bool) (h:drive_trip_grow_J1 p l done choices = some rv):Go Tryd.prog Tryd.f64 [] Γ (one (.sl false 7 (rv.map T_drive_label.enc))) [] ⟨[.c 15],⟨64,[(1,one (.sl false 7 (l.map T_drive_label.enc))),(2,one (.int .i64 done)),(3,one (.op 0 25 0 0)),(7,one (.sl false 1 (choices.map e_bool)))],[some ⟨true,25,107,[[.sl false 1 (p.x.net.places.map e_str),.sl false 6 (p.x.net.arcs.map T_api_Arc.enc),.sl false 14 (p.x.types.map T_api_Type.enc),.sl false 16 (p.x.orders.map T_api_Order.enc),.sl false 2 (p.x.apart.map A2_Int.enc),.sl false 2 (p.x.before.map A2_Int.enc),.str p.t.name,.int .i64 p.t.count,.int .i64 p.t.from_,.int .i64 p.t.to_,.sl false 1 (p.t.cap.map e_i64),.int .i64 p.t.skills,.int .i64 p.t.profile,.int .i64 p.t.open_,.int .i64 p.t.close,.int .i64 p.t.drive,.int .i64 p.t.rest_,.int .i64 p.t.fixed,.int .i64 p.t.perMile,.int .i64 p.t.perTick,.int .i64 p.r.type_,.int .i64 p.r.start,.sl false 1 (p.r.rests.map e_bool),.sl false 2 (p.r.visits.map T_api_Visit.enc),.sl false 4 (p.stops.map T_api_Stop.enc)]]⟩]⟩⟩:=by
 unfold drive_trip_grow_J1 at h
 obtain ⟨e1,h12,h⟩:=bnd_elim h
 refine gn 7 [2,3,7,8,29,30,31] [0,1] [.num l.length,.wait 3,.adopt 8 7 114] (A1 (lenM T_drive_label.enc l) T1) (drive_trip_grow_L1_ok Γ rv p l done choices _ _ h12 ?_)
 obtain ⟨l5,rfl⟩:∃ x,x = e1:=⟨_,rfl⟩
 replace h:(some l5:Option (List T_drive_label)) = some _:=h
 obtain rfl:=Option.some.inj h
 exact gr 2 [] [.wait 4,.frz 0] (A1 (eL l5 T_drive_label.enc) (A2 (eL l5 T_drive_label.enc) (eL l5 T_drive_label.enc) T1))
theorem drive_trip_grow_ok (p:T_drive_trip) (l:List T_drive_label) (done:Int) (rv:List T_drive_label) (h:drive_trip_grow p l done = some rv):AFn Tryd.prog 64 [.agg [.sl false 1 (p.x.net.places.map e_str),.sl false 6 (p.x.net.arcs.map T_api_Arc.enc),.sl false 14 (p.x.types.map T_api_Type.enc),.sl false 16 (p.x.orders.map T_api_Order.enc),.sl false 2 (p.x.apart.map A2_Int.enc),.sl false 2 (p.x.before.map A2_Int.enc),.str p.t.name,.int .i64 p.t.count,.int .i64 p.t.from_,.int .i64 p.t.to_,.sl false 1 (p.t.cap.map e_i64),.int .i64 p.t.skills,.int .i64 p.t.profile,.int .i64 p.t.open_,.int .i64 p.t.close,.int .i64 p.t.drive,.int .i64 p.t.rest_,.int .i64 p.t.fixed,.int .i64 p.t.perMile,.int .i64 p.t.perTick,.int .i64 p.r.type_,.int .i64 p.r.start,.sl false 1 (p.r.rests.map e_bool),.sl false 2 (p.r.visits.map T_api_Visit.enc),.sl false 4 (p.stops.map T_api_Stop.enc)],.one (.sl false 7 (l.map T_drive_label.enc)),.one (.int .i64 done)] [] (one (.sl false 7 (rv.map T_drive_label.enc))) []:=by
 refine afn_of Tryd.func64 (by kernel_rfl) (by kernel_rfl) (fun Γ=>?_)
 unfold drive_trip_grow at h
 rcases br_elim h with ⟨h0,h⟩|⟨h0,h⟩
 ·obtain ⟨l1,h1,h⟩:=bnd_elim h
  exact gn 9 [1,2,3,7] [0] [.num p.r.rests.length,bT,.rows (l1.map e_bool)] (A8 (lenM e_bool p.r.rests) h0 (sl1 h1) (sl2 h1) (sl3 e_bool h1) (Int.le_refl (addK .i64 done 1)) (sl3 e_bool h1) (sl6 e_bool h1) T1) (drive_trip_grow_J1_ok Γ rv p l done l1 h)
 ·exact gn 9 [1,2,3,7] [0] [.num p.r.rests.length,bF,.wait 1,.frz 1] (A4 (lenM e_bool p.r.rests) h0 (Eq.refl ([false,true].map e_bool).length) (Eq.refl ([false,true].map e_bool).length) T1) (drive_trip_grow_J1_ok Γ rv p l done [false,true] h)
def drive_Best_L1_C (Γ:Gam) (rv:T_api_Sheet × Int) (r:T_api_Route) (r1:T_drive_trip × Bool) (l:List T_drive_label) (v:Int):Prop:=Go Tryd.prog Tryd.f35 [] Γ (.tup [.agg [.bool rv.1.rest_,.int .i64 rv.1.depart,.sl false 4 (rv.1.times.map T_api_Time.enc),.int .i64 rv.1.end_,.int .i64 rv.1.miles],.one (.int .i64 rv.2)]) [] ⟨[.c 1012,.l 1012,.b 0,.c 127],⟨82,[(3,one (.op 0 4 0 0)),(4,one (.op 1 5 0 0)),(6,one (.op 2 25 0 0)),(8,one (.int .i64 (addK .i64 (lenI r.visits) 1))),(9,one (.sl false 7 (l.map T_drive_label.enc))),(38,one (.int .i64 (addK .i64 (lenI r.visits) 1))),(39,one (.int .i64 v))],[some ⟨true,4,60,[[.int .i64 r.type_,.int .i64 r.start,.sl false 1 (r.rests.map e_bool),.sl false 2 (r.visits.map T_api_Visit.enc)]]⟩,some ⟨true,5,64,[[.bool false,.int .i64 0,.nils,.int .i64 0,.int .i64 0]]⟩,some ⟨true,25,107,[[.sl false 1 (r1.1.x.net.places.map e_str),.sl false 6 (r1.1.x.net.arcs.map T_api_Arc.enc),.sl false 14 (r1.1.x.types.map T_api_Type.enc),.sl false 16 (r1.1.x.orders.map T_api_Order.enc),.sl false 2 (r1.1.x.apart.map A2_Int.enc),.sl false 2 (r1.1.x.before.map A2_Int.enc),.str r1.1.t.name,.int .i64 r1.1.t.count,.int .i64 r1.1.t.from_,.int .i64 r1.1.t.to_,.sl false 1 (r1.1.t.cap.map e_i64),.int .i64 r1.1.t.skills,.int .i64 r1.1.t.profile,.int .i64 r1.1.t.open_,.int .i64 r1.1.t.close,.int .i64 r1.1.t.drive,.int .i64 r1.1.t.rest_,.int .i64 r1.1.t.fixed,.int .i64 r1.1.t.perMile,.int .i64 r1.1.t.perTick,.int .i64 r1.1.r.type_,.int .i64 r1.1.r.start,.sl false 1 (r1.1.r.rests.map e_bool),.sl false 2 (r1.1.r.visits.map T_api_Visit.enc),.sl false 4 (r1.1.stops.map T_api_Stop.enc)]]⟩]⟩⟩
def drive_Best_L1_D0 (Γ:Gam) (rv:T_api_Sheet × Int) (r:T_api_Route) (r1:T_drive_trip × Bool) (l1:List T_drive_label):Prop:=Go Tryd.prog Tryd.f35 [] Γ (.tup [.agg [.bool rv.1.rest_,.int .i64 rv.1.depart,.sl false 4 (rv.1.times.map T_api_Time.enc),.int .i64 rv.1.end_,.int .i64 rv.1.miles],.one (.int .i64 rv.2)]) [] ⟨[.c 127],⟨82,[(3,one (.op 0 4 0 0)),(4,one (.op 1 5 0 0)),(6,one (.op 2 25 0 0)),(8,one (.int .i64 (addK .i64 (lenI r.visits) 1))),(9,one (.sl false 7 (l1.map T_drive_label.enc)))],[some ⟨true,4,60,[[.int .i64 r.type_,.int .i64 r.start,.sl false 1 (r.rests.map e_bool),.sl false 2 (r.visits.map T_api_Visit.enc)]]⟩,some ⟨true,5,64,[[.bool false,.int .i64 0,.nils,.int .i64 0,.int .i64 0]]⟩,some ⟨true,25,107,[[.sl false 1 (r1.1.x.net.places.map e_str),.sl false 6 (r1.1.x.net.arcs.map T_api_Arc.enc),.sl false 14 (r1.1.x.types.map T_api_Type.enc),.sl false 16 (r1.1.x.orders.map T_api_Order.enc),.sl false 2 (r1.1.x.apart.map A2_Int.enc),.sl false 2 (r1.1.x.before.map A2_Int.enc),.str r1.1.t.name,.int .i64 r1.1.t.count,.int .i64 r1.1.t.from_,.int .i64 r1.1.t.to_,.sl false 1 (r1.1.t.cap.map e_i64),.int .i64 r1.1.t.skills,.int .i64 r1.1.t.profile,.int .i64 r1.1.t.open_,.int .i64 r1.1.t.close,.int .i64 r1.1.t.drive,.int .i64 r1.1.t.rest_,.int .i64 r1.1.t.fixed,.int .i64 r1.1.t.perMile,.int .i64 r1.1.t.perTick,.int .i64 r1.1.r.type_,.int .i64 r1.1.r.start,.sl false 1 (r1.1.r.rests.map e_bool),.sl false 2 (r1.1.r.visits.map T_api_Visit.enc),.sl false 4 (r1.1.stops.map T_api_Stop.enc)]]⟩]⟩⟩
def drive_Best_L2_C (Γ:Gam) (rv:T_api_Sheet × Int) (l3:List T_drive_label) (x2:T_drive_label) (v1:Int):Prop:=Go Tryd.prog Tryd.f35 [] Γ (.tup [.agg [.bool rv.1.rest_,.int .i64 rv.1.depart,.sl false 4 (rv.1.times.map T_api_Time.enc),.int .i64 rv.1.end_,.int .i64 rv.1.miles],.one (.int .i64 rv.2)]) [] ⟨[.c 8180,.l 8180,.b 2,.c 1023],⟨82,[(4,one (.op 0 5 0 0)),(12,one (.op 1 7 0 0)),(65,one (.sl false 7 (l3.map T_drive_label.enc))),(66,one (.int .i64 (lenI l3))),(67,one (.int .i64 v1))],[some ⟨true,5,64,[[.bool false,.int .i64 0,.nils,.int .i64 0,.int .i64 0]]⟩,some ⟨true,7,114,[[.int .i64 x2.ready,.int .i64 x2.since,.bool x2.sheet.rest_,.int .i64 x2.sheet.depart,.sl false 4 (x2.sheet.times.map T_api_Time.enc),.int .i64 x2.sheet.end_,.int .i64 x2.sheet.miles]]⟩]⟩⟩
def drive_Best_L2_D0 (Γ:Gam) (rv:T_api_Sheet × Int) (l3:List T_drive_label) (x4:T_drive_label):Prop:=Go Tryd.prog Tryd.f35 [] Γ (.tup [.agg [.bool rv.1.rest_,.int .i64 rv.1.depart,.sl false 4 (rv.1.times.map T_api_Time.enc),.int .i64 rv.1.end_,.int .i64 rv.1.miles],.one (.int .i64 rv.2)]) [] ⟨[.c 1023],⟨82,[(4,one (.op 0 5 0 0)),(12,one (.op 1 7 0 0))],[some ⟨true,5,64,[[.bool false,.int .i64 0,.nils,.int .i64 0,.int .i64 0]]⟩,some ⟨true,7,114,[[.int .i64 x4.ready,.int .i64 x4.since,.bool x4.sheet.rest_,.int .i64 x4.sheet.depart,.sl false 4 (x4.sheet.times.map T_api_Time.enc),.int .i64 x4.sheet.end_,.int .i64 x4.sheet.miles]]⟩]⟩⟩
theorem drive_Best_L1_ok (Γ:Gam) (rv:T_api_Sheet × Int) (r:T_api_Route) (r1:T_drive_trip × Bool) (s:List T_drive_label × Int) (e:List T_drive_label) (h:loopF (fun s=>drive_Best_L1 r r1 s.1 s.2) s = some e) (hD:drive_Best_L1_D0 Γ rv r r1 e):drive_Best_L1_C Γ rv r r1 s.1 s.2:=by
 refine loop_ind (C:=fun (s:List T_drive_label × Int)=>drive_Best_L1_C Γ rv r r1 s.1 s.2) (D:=fun (e:List T_drive_label)=>drive_Best_L1_D0 Γ rv r r1 e) ?_ h hD
 clear h hD s e
 rintro ⟨l,v⟩ z_ h hI hE
 replace h:drive_Best_L1 r r1 l v = _:=h
 unfold drive_Best_L1 at h
 rcases br_elim h with ⟨h3,h⟩|⟨h3,h⟩
 ·obtain ⟨r3,h4,h⟩:=bnd_elim h
  exact gn 13 [3,4,6,8,9,38,39] [0,1,2] [bT,.call [] (one (.sl false 7 (r3.map T_drive_label.enc))) []] (A2 h3 (drive_trip_grow_ok (T_drive_trip.mk (T_api_Instance.mk (T_api_Network.mk r1.1.x.net.places r1.1.x.net.arcs) r1.1.x.types r1.1.x.orders r1.1.x.apart r1.1.x.before) (T_api_Type.mk r1.1.t.name r1.1.t.count r1.1.t.from_ r1.1.t.to_ r1.1.t.cap r1.1.t.skills r1.1.t.profile r1.1.t.open_ r1.1.t.close r1.1.t.drive r1.1.t.rest_ r1.1.t.fixed r1.1.t.perMile r1.1.t.perTick) (T_api_Route.mk r1.1.r.type_ r1.1.r.start r1.1.r.rests r1.1.r.visits) r1.1.stops) l v r3 h4) T1) (hI _ (oJ h))
 ·exact gn 5 [3,4,6,8,9] [0,1,2] [bF] (A1 h3 T1) (hE _ (oJ h))
theorem drive_Best_L2_ok (Γ:Gam) (rv:T_api_Sheet × Int) (l3:List T_drive_label) (s:T_drive_label × Int) (e:T_drive_label) (h:loopF (fun s=>drive_Best_L2 l3 s.1 s.2) s = some e) (hD:drive_Best_L2_D0 Γ rv l3 e):drive_Best_L2_C Γ rv l3 s.1 s.2:=by
 refine loop_ind (C:=fun (s:T_drive_label × Int)=>drive_Best_L2_C Γ rv l3 s.1 s.2) (D:=fun (e:T_drive_label)=>drive_Best_L2_D0 Γ rv l3 e) ?_ h hD
 clear h hD s e
 rintro ⟨x2,v1⟩ z_ h hI hE
 replace h:drive_Best_L2 l3 x2 v1 = _:=h
 unfold drive_Best_L2 at h
 rcases br_elim h with ⟨h11,h⟩|⟨h11,h⟩
 ·obtain ⟨x3,h12,h⟩:=bnd_elim h
  rcases br_elim h with ⟨h13,h⟩|⟨h13,h⟩
  ·exact gn 16 [4,12,65,66,67] [0,1] [bT,.cells (T_drive_label.enc x3),bT] (A1 h11 (A2 (getM T_drive_label.enc h12) h13 T1)) (hI _ (oJ h))
  ·exact gn 16 [4,12,65,66,67] [0,1] [bT,.cells (T_drive_label.enc x3),bF] (A1 h11 (A2 (getM T_drive_label.enc h12) h13 T1)) (hI _ (oJ h))
 ·exact gn 5 [4,12] [0,1] [bF] (A1 h11 T1) (hE _ (oJ h))
theorem drive_Best_ok (x0:T_api_Instance) (r:T_api_Route) (rv:T_api_Sheet × Int) (h:drive_Best x0 r = some rv):AFn Tryd.prog 35 [.agg [.sl false 1 (x0.net.places.map e_str),.sl false 6 (x0.net.arcs.map T_api_Arc.enc),.sl false 14 (x0.types.map T_api_Type.enc),.sl false 16 (x0.orders.map T_api_Order.enc),.sl false 2 (x0.apart.map A2_Int.enc),.sl false 2 (x0.before.map A2_Int.enc)],.agg [.int .i64 r.type_,.int .i64 r.start,.sl false 1 (r.rests.map e_bool),.sl false 2 (r.visits.map T_api_Visit.enc)]] [] (.tup [.agg [.bool rv.1.rest_,.int .i64 rv.1.depart,.sl false 4 (rv.1.times.map T_api_Time.enc),.int .i64 rv.1.end_,.int .i64 rv.1.miles],.one (.int .i64 rv.2)]) []:=by
 refine afn_of Tryd.func35 (by kernel_rfl) (by kernel_rfl) (fun Γ=>?_)
 unfold drive_Best at h
 obtain ⟨r1,h0,h⟩:=bnd_elim h
 rcases br_elim h with ⟨h1,h⟩|⟨h1,h⟩
 ·obtain rfl:=Option.some.inj h
  exact gr 12 [] [.call [] (.tup [.agg [.sl false 1 (r1.1.x.net.places.map e_str),.sl false 6 (r1.1.x.net.arcs.map T_api_Arc.enc),.sl false 14 (r1.1.x.types.map T_api_Type.enc),.sl false 16 (r1.1.x.orders.map T_api_Order.enc),.sl false 2 (r1.1.x.apart.map A2_Int.enc),.sl false 2 (r1.1.x.before.map A2_Int.enc),.str r1.1.t.name,.int .i64 r1.1.t.count,.int .i64 r1.1.t.from_,.int .i64 r1.1.t.to_,.sl false 1 (r1.1.t.cap.map e_i64),.int .i64 r1.1.t.skills,.int .i64 r1.1.t.profile,.int .i64 r1.1.t.open_,.int .i64 r1.1.t.close,.int .i64 r1.1.t.drive,.int .i64 r1.1.t.rest_,.int .i64 r1.1.t.fixed,.int .i64 r1.1.t.perMile,.int .i64 r1.1.t.perTick,.int .i64 r1.1.r.type_,.int .i64 r1.1.r.start,.sl false 1 (r1.1.r.rests.map e_bool),.sl false 2 (r1.1.r.visits.map T_api_Visit.enc),.sl false 4 (r1.1.stops.map T_api_Stop.enc)],.one (.bool r1.2)]) [],.num r.visits.length,kP,kP,kP,.num r.rests.length,kP,kP,kP,bT,.wait 5,.nilB 2 2 4] (A1 (drive_plan_ok (T_api_Instance.mk (T_api_Network.mk x0.net.places x0.net.arcs) x0.types x0.orders x0.apart x0.before) r r1 h0) (A8 (lenM T_api_Visit.enc r.visits) (fun (h0:(!r1.2) = false)=>h0) (fun (h0:(!r1.2) = false)=>h0) (lenM e_bool r.rests) (fun (h0:(!r1.2) = false)=>h0) (fun (h0:(!r1.2) = false)=>h0) (fun (h0:True∧(!r1.2) = false)=>h0.2) h1 T1))
 ·obtain ⟨r2,h2,h⟩:=bnd_elim h
  obtain ⟨e0,h5,h⟩:=bnd_elim h
  refine gn 18 [3,4,6,8,9,38,39] [1,2,3] [.call [] (.tup [.agg [.sl false 1 (r1.1.x.net.places.map e_str),.sl false 6 (r1.1.x.net.arcs.map T_api_Arc.enc),.sl false 14 (r1.1.x.types.map T_api_Type.enc),.sl false 16 (r1.1.x.orders.map T_api_Order.enc),.sl false 2 (r1.1.x.apart.map A2_Int.enc),.sl false 2 (r1.1.x.before.map A2_Int.enc),.str r1.1.t.name,.int .i64 r1.1.t.count,.int .i64 r1.1.t.from_,.int .i64 r1.1.t.to_,.sl false 1 (r1.1.t.cap.map e_i64),.int .i64 r1.1.t.skills,.int .i64 r1.1.t.profile,.int .i64 r1.1.t.open_,.int .i64 r1.1.t.close,.int .i64 r1.1.t.drive,.int .i64 r1.1.t.rest_,.int .i64 r1.1.t.fixed,.int .i64 r1.1.t.perMile,.int .i64 r1.1.t.perTick,.int .i64 r1.1.r.type_,.int .i64 r1.1.r.start,.sl false 1 (r1.1.r.rests.map e_bool),.sl false 2 (r1.1.r.visits.map T_api_Visit.enc),.sl false 4 (r1.1.stops.map T_api_Stop.enc)],.one (.bool r1.2)]) [],.num r.visits.length,kP,kP,kP,.num r.rests.length,kP,kP,kP,bF,.call [] (.cm (.agg [.int .i64 r2.ready,.int .i64 r2.since,.bool r2.sheet.rest_,.int .i64 r2.sheet.depart,.sl false 4 (r2.sheet.times.map T_api_Time.enc),.int .i64 r2.sheet.end_,.int .i64 r2.sheet.miles])) [],.wait 9,.frz 4] (A4 (drive_plan_ok (T_api_Instance.mk (T_api_Network.mk x0.net.places x0.net.arcs) x0.types x0.orders x0.apart x0.before) r r1 h0) (lenM T_api_Visit.enc r.visits) (fun (h0:(!r1.2) = false)=>h0) (fun (h0:(!r1.2) = false)=>h0) (A8 (lenM e_bool r.rests) (fun (h0:(!r1.2) = false)=>h0) (fun (h0:(!r1.2) = false)=>h0) (fun (h0:True∧(!r1.2) = false)=>h0.2) h1 (drive_trip_begin_ok (T_drive_trip.mk (T_api_Instance.mk (T_api_Network.mk r1.1.x.net.places r1.1.x.net.arcs) r1.1.x.types r1.1.x.orders r1.1.x.apart r1.1.x.before) (T_api_Type.mk r1.1.t.name r1.1.t.count r1.1.t.from_ r1.1.t.to_ r1.1.t.cap r1.1.t.skills r1.1.t.profile r1.1.t.open_ r1.1.t.close r1.1.t.drive r1.1.t.rest_ r1.1.t.fixed r1.1.t.perMile r1.1.t.perTick) (T_api_Route.mk r1.1.r.type_ r1.1.r.start r1.1.r.rests r1.1.r.visits) r1.1.stops) r2 h2) (Eq.refl ([(T_drive_label.mk r2.ready r2.since (T_api_Sheet.mk r2.sheet.rest_ r2.sheet.depart r2.sheet.times r2.sheet.end_ r2.sheet.miles))].map T_drive_label.enc).length) (Eq.refl ([(T_drive_label.mk r2.ready r2.since (T_api_Sheet.mk r2.sheet.rest_ r2.sheet.depart r2.sheet.times r2.sheet.end_ r2.sheet.miles))].map T_drive_label.enc).length) T1)) (drive_Best_L1_ok Γ rv r r1 _ _ h5 ?_)
  obtain ⟨l1,rfl⟩:∃ x,x = e0:=⟨_,rfl⟩
  replace h:(br (eqI (lenI l1) 0) (bnd (mkI (addK .i64 (lenI r.visits) 1) (addK .i64 (lenI r.visits) 1) 1 false) fun l2=>bnd (drive_trip_run (T_drive_trip.mk (T_api_Instance.mk (T_api_Network.mk r1.1.x.net.places r1.1.x.net.arcs) r1.1.x.types r1.1.x.orders r1.1.x.apart r1.1.x.before) (T_api_Type.mk r1.1.t.name r1.1.t.count r1.1.t.from_ r1.1.t.to_ r1.1.t.cap r1.1.t.skills r1.1.t.profile r1.1.t.open_ r1.1.t.close r1.1.t.drive r1.1.t.rest_ r1.1.t.fixed r1.1.t.perMile r1.1.t.perTick) (T_api_Route.mk r1.1.r.type_ r1.1.r.start r1.1.r.rests r1.1.r.visits) r1.1.stops) (cpyL l2 r.rests)) fun r4=>some (r4.1,r4.2)) (bnd (getI l1 0) fun x1=>bnd (slcI l1 1 (lenI l1)) fun l3=>bnd (loopF (fun s=>drive_Best_L2 l3 s.1 s.2) ((T_drive_label.mk x1.ready x1.since (T_api_Sheet.mk x1.sheet.rest_ x1.sheet.depart x1.sheet.times x1.sheet.end_ x1.sheet.miles)),0)) (fun x4=>some ((T_api_Sheet.mk x4.sheet.rest_ x4.sheet.depart x4.sheet.times x4.sheet.end_ x4.sheet.miles),0))):Option (T_api_Sheet × Int)) = some _:=h
  rcases br_elim h with ⟨h6,h⟩|⟨h6,h⟩
  ·obtain ⟨l2,h7,h⟩:=bnd_elim h
   obtain ⟨r4,h8,h⟩:=bnd_elim h
   obtain rfl:=Option.some.inj h
   exact gr 10 [] [.num l1.length,bT,.cells [.bool false],.rows (l2.map e_bool),.rows ((cpyL l2 r.rests).map e_bool),.num (cpyN l2 r.rests),.relen 3 ((cpyL l2 r.rests).map e_bool).length,.wait 4,.frz 3,.call [] (.tup [.agg [.bool r4.1.rest_,.int .i64 r4.1.depart,.sl false 4 (r4.1.times.map T_api_Time.enc),.int .i64 r4.1.end_,.int .i64 r4.1.miles],.one (.int .i64 r4.2)]) []] (A2 (lenM T_drive_label.enc l1) h6 (A8 (mk1 h7) (mk2 h7) (mk3 h7) (mk4 h7) (mk5 e_bool h7) (eL l2 e_bool) (cpy1 e_bool l2 r.rests) (cpy2 e_bool l2 r.rests) (A8 (lenCpy e_bool l2 r.rests) (lenCpy e_bool l2 r.rests) (lenCpy e_bool l2 r.rests) (Eq.refl ((cpyL l2 r.rests).map e_bool).length) (Eq.refl ((cpyL l2 r.rests).map e_bool).length) (Eq.refl ((cpyL l2 r.rests).map e_bool).length) (Eq.refl ((cpyL l2 r.rests).map e_bool).length) (drive_trip_run_ok (T_drive_trip.mk (T_api_Instance.mk (T_api_Network.mk r1.1.x.net.places r1.1.x.net.arcs) r1.1.x.types r1.1.x.orders r1.1.x.apart r1.1.x.before) (T_api_Type.mk r1.1.t.name r1.1.t.count r1.1.t.from_ r1.1.t.to_ r1.1.t.cap r1.1.t.skills r1.1.t.profile r1.1.t.open_ r1.1.t.close r1.1.t.drive r1.1.t.rest_ r1.1.t.fixed r1.1.t.perMile r1.1.t.perTick) (T_api_Route.mk r1.1.r.type_ r1.1.r.start r1.1.r.rests r1.1.r.visits) r1.1.stops) (cpyL l2 r.rests) r4 h8) T1)))
  ·obtain ⟨x1,h9,h⟩:=bnd_elim h
   obtain ⟨l3,h10,h⟩:=bnd_elim h
   obtain ⟨e1,h14,h⟩:=bnd_elim h
   refine gn 12 [4,12,65,66,67] [1,3] [.num l1.length,bF,.cells (T_drive_label.enc x1),.rows (l3.map T_drive_label.enc),.num l3.length] (A2 (lenM T_drive_label.enc l1) h6 (A8 (getM T_drive_label.enc h9) (sl1 h10) (sl2h T_drive_label.enc h10) (Int.le_refl ((l1.map T_drive_label.enc).length:Int)) (Int.le_refl ((l1.map T_drive_label.enc).length:Int)) (Int.le_refl ((l1.map T_drive_label.enc).length:Int)) (sl6h T_drive_label.enc h10) (lenM T_drive_label.enc l3) T1)) (drive_Best_L2_ok Γ rv l3 _ _ h14 ?_)
   obtain ⟨x4,rfl⟩:∃ x,x = e1:=⟨_,rfl⟩
   replace h:(some ((T_api_Sheet.mk x4.sheet.rest_ x4.sheet.depart x4.sheet.times x4.sheet.end_ x4.sheet.miles),0):Option (T_api_Sheet × Int)) = some _:=h
   obtain rfl:=Option.some.inj h
   exact gr 2 [] [] T1
def drive_rests_L1_C (Γ:Gam) (rv:List Bool) (s0:T_api_Sheet) (l:List Bool) (v:Int):Prop:=Go Tryd.prog Tryd.f67 [] Γ (one (.sl false 1 (rv.map e_bool))) [] ⟨[.c 116,.l 116,.b 0,.c 15],⟨23,[(3,one (.os 0 1 0 (l.map e_bool).length)),(10,one (.sl false 4 (s0.times.map T_api_Time.enc))),(11,one (.int .i64 (lenI s0.times))),(12,one (.int .i64 v))],[some ⟨false,1,4,(l.map e_bool)⟩]⟩⟩
def drive_rests_L1_D0 (Γ:Gam) (rv:List Bool) (s0:T_api_Sheet) (l1:List Bool):Prop:=Go Tryd.prog Tryd.f67 [] Γ (one (.sl false 1 (rv.map e_bool))) [] ⟨[.c 15],⟨23,[(3,one (.os 0 1 0 (l1.map e_bool).length))],[some ⟨false,1,4,(l1.map e_bool)⟩]⟩⟩
theorem drive_rests_L1_ok (Γ:Gam) (rv:List Bool) (s0:T_api_Sheet) (s:List Bool × Int) (e:List Bool) (h:loopF (fun s=>drive_rests_L1 s0 s.1 s.2) s = some e) (hD:drive_rests_L1_D0 Γ rv s0 e):drive_rests_L1_C Γ rv s0 s.1 s.2:=by
 refine loop_ind (C:=fun (s:List Bool × Int)=>drive_rests_L1_C Γ rv s0 s.1 s.2) (D:=fun (e:List Bool)=>drive_rests_L1_D0 Γ rv s0 e) ?_ h hD
 clear h hD s e
 rintro ⟨l,v⟩ z_ h hI hE
 replace h:drive_rests_L1 s0 l v = _:=h
 unfold drive_rests_L1 at h
 rcases br_elim h with ⟨h0,h⟩|⟨h0,h⟩
 ·obtain ⟨x0,h1,h⟩:=bnd_elim h
  obtain ⟨h2,h⟩:=chk_elim h
  exact gn 13 [3,10,11,12] [3] [bT,.cells (T_api_Time.enc x0),.rows ((l ++ [x0.rest_]).map e_bool)] (A1 h0 (A2 (getM T_api_Time.enc h1) (Eq.refl ([x0.rest_].map e_bool).length) (A4 (eL l e_bool) (appM e_bool l [x0.rest_]) (okLe (l:=((l ++ [x0.rest_]):List Bool)) e_bool h2) (okLe2 (l:=((l ++ [x0.rest_]):List Bool)) (b:=1) e_bool (by decide) h2) T1))) (hI _ (oJ h))
 ·exact gn 5 [3] [0] [bF] (A1 h0 T1) (hE _ (oJ h))
theorem drive_rests_ok (s0:T_api_Sheet) (rv:List Bool) (h:drive_rests s0 = some rv):AFn Tryd.prog 67 [.agg [.bool s0.rest_,.int .i64 s0.depart,.sl false 4 (s0.times.map T_api_Time.enc),.int .i64 s0.end_,.int .i64 s0.miles]] [] (one (.sl false 1 (rv.map e_bool))) []:=by
 refine afn_of Tryd.func67 (by kernel_rfl) (by kernel_rfl) (fun Γ=>?_)
 unfold drive_rests at h
 obtain ⟨e0,h3,h⟩:=bnd_elim h
 refine gn 9 [3,10,11,12] [1] [.num s0.times.length] (A1 (lenM T_api_Time.enc s0.times) T1) (drive_rests_L1_ok Γ rv s0 _ _ h3 ?_)
 obtain ⟨l1,rfl⟩:∃ x,x = e0:=⟨_,rfl⟩
 replace h:(some l1:Option (List Bool)) = some _:=h
 obtain rfl:=Option.some.inj h
 exact gr 2 [] [.wait 4,.frz 0] (A1 (eL l1 e_bool) (A2 (eL l1 e_bool) (eL l1 e_bool) T1))
def slices_Equal___bool_bool__L1_C (Γ:Gam) (rv:Bool) (s1:List Bool) (s2:List Bool) (v:Int):Prop:=Go Tryd.prog Tryd.f68 [] Γ (one (.bool rv)) [] ⟨[.c 116,.l 116,.b 0,.c 15],⟨26,[(0,one (.sl false 1 (s1.map e_bool))),(1,one (.sl false 1 (s2.map e_bool))),(12,one (.int .i64 (lenI s1))),(13,one (.int .i64 v))],[]⟩⟩
def slices_Equal___bool_bool__L1_D0 (Γ:Gam) (rv:Bool) (s1:List Bool) (s2:List Bool):Prop:=Go Tryd.prog Tryd.f68 [] Γ (one (.bool rv)) [] ⟨[.c 15],⟨26,[],[]⟩⟩
theorem slices_Equal___bool_bool__L1_ok (Γ:Gam) (rv:Bool) (s1:List Bool) (s2:List Bool) (s:Int) (e:(Unit) ⊕ (Bool)) (h:loopF (fun s=>slices_Equal___bool_bool__L1 s1 s2 s) s = some e) (hD:sel e (fun e=>slices_Equal___bool_bool__L1_D0 Γ rv s1 s2) (fun e=>e = rv)):slices_Equal___bool_bool__L1_C Γ rv s1 s2 s:=by
 refine loop_ind (C:=fun (s:Int)=>slices_Equal___bool_bool__L1_C Γ rv s1 s2 s) (D:=fun (e:(Unit) ⊕ (Bool))=>sel e (fun e=>slices_Equal___bool_bool__L1_D0 Γ rv s1 s2) (fun e=>e = rv)) ?_ h hD
 clear h hD s e
 intro v z_ h hI hE
 replace h:slices_Equal___bool_bool__L1 s1 s2 v = _:=h
 unfold slices_Equal___bool_bool__L1 at h
 rcases br_elim h with ⟨h1,h⟩|⟨h1,h⟩
 ·obtain ⟨x0,h2,h⟩:=bnd_elim h
  obtain ⟨x1,h3,h⟩:=bnd_elim h
  rcases br_elim h with ⟨h4,h⟩|⟨h4,h⟩
  ·exact gn 16 [0,1,12,13] [] [bT,.draw 9 [],.cells (e_bool x0),.cells (e_bool x1),bF] (A4 h1 (getM e_bool h2) (getM e_bool h3) (notF h4) T1) (hI _ (oJ h))
  ·obtain rfl:=(hE _ (oJ h):_ = rv)
   exact gr 14 [] [bT,.draw 9 [],.cells (e_bool x0),.cells (e_bool x1),bT] (A4 h1 (getM e_bool h2) (getM e_bool h3) (notT h4) T1)
 ·exact gn 5 [] [] [bF] (A1 h1 T1) (hE _ (oJ h))
theorem slices_Equal___bool_bool__ok (s1:List Bool) (s2:List Bool) (rv:Bool) (h:slices_Equal___bool_bool_ s1 s2 = some rv):AFn Tryd.prog 68 [.one (.sl false 1 (s1.map e_bool)),.one (.sl false 1 (s2.map e_bool))] [] (one (.bool rv)) []:=by
 refine afn_of Tryd.func68 (by kernel_rfl) (by kernel_rfl) (fun Γ=>?_)
 unfold slices_Equal___bool_bool_ at h
 rcases br_elim h with ⟨h0,h⟩|⟨h0,h⟩
 ·obtain rfl:=Option.some.inj h
  exact gr 8 [] [.num s1.length,.num s2.length,bT] (A1 (lenM e_bool s1) (A2 (lenM e_bool s2) h0 T1))
 ·obtain ⟨e0,h5,h⟩:=bnd_elim h
  refine gn 12 [0,1,12,13] [] [.num s1.length,.num s2.length,bF,.num s1.length] (A4 (lenM e_bool s1) (lenM e_bool s2) h0 (lenM e_bool s1) T1) (slices_Equal___bool_bool__L1_ok Γ rv s1 s2 _ _ h5 ?_)
  rcases e0 with e0|e0
  ·replace h:(some true:Option Bool) = some _:=h
   obtain rfl:=Option.some.inj h
   exact gr 2 [] [] T1
  ·obtain ⟨r,rfl⟩:∃ x,x = e0:=⟨_,rfl⟩
   replace h:(some r:Option Bool) = some _:=h
   exact Option.some.inj h
def api_Time__f94_L1_C (Γ:Gam) (rv:Bool) (s1:List T_api_Time) (s2:List T_api_Time) (v:Int):Prop:=Go Tryd.prog Tryd.f94 [] Γ (one (.bool rv)) [] ⟨[.c 116,.l 116,.b 0,.c 15],⟨26,[(0,one (.sl false 4 (s1.map T_api_Time.enc))),(1,one (.sl false 4 (s2.map T_api_Time.enc))),(12,one (.int .i64 (lenI s1))),(13,one (.int .i64 v))],[]⟩⟩
def api_Time__f94_L1_D0 (Γ:Gam) (rv:Bool) (s1:List T_api_Time) (s2:List T_api_Time):Prop:=Go Tryd.prog Tryd.f94 [] Γ (one (.bool rv)) [] ⟨[.c 15],⟨26,[],[]⟩⟩
theorem api_Time__f94_L1_ok (Γ:Gam) (rv:Bool) (s1:List T_api_Time) (s2:List T_api_Time) (s:Int) (e:(Unit) ⊕ (Bool)) (h:loopF (fun s=>api_Time__f94_L1 s1 s2 s) s = some e) (hD:sel e (fun e=>api_Time__f94_L1_D0 Γ rv s1 s2) (fun e=>e = rv)):api_Time__f94_L1_C Γ rv s1 s2 s:=by
 refine loop_ind (C:=fun (s:Int)=>api_Time__f94_L1_C Γ rv s1 s2 s) (D:=fun (e:(Unit) ⊕ (Bool))=>sel e (fun e=>api_Time__f94_L1_D0 Γ rv s1 s2) (fun e=>e = rv)) ?_ h hD
 clear h hD s e
 intro v z_ h hI hE
 replace h:api_Time__f94_L1 s1 s2 v = _:=h
 unfold api_Time__f94_L1 at h
 rcases br_elim h with ⟨h1,h⟩|⟨h1,h⟩
 ·obtain ⟨x0,h2,h⟩:=bnd_elim h
  obtain ⟨x1,h3,h⟩:=bnd_elim h
  rcases br_elim h with ⟨h4,h⟩|⟨h4,h⟩
  ·exact gn 16 [0,1,12,13] [] [bT,.draw 9 [],.cells (T_api_Time.enc x0),.cells (T_api_Time.enc x1),bF] (A4 h1 (getM T_api_Time.enc h2) (getM T_api_Time.enc h3) (notF h4) T1) (hI _ (oJ h))
  ·obtain rfl:=(hE _ (oJ h):_ = rv)
   exact gr 14 [] [bT,.draw 9 [],.cells (T_api_Time.enc x0),.cells (T_api_Time.enc x1),bT] (A4 h1 (getM T_api_Time.enc h2) (getM T_api_Time.enc h3) (notT h4) T1)
 ·exact gn 5 [] [] [bF] (A1 h1 T1) (hE _ (oJ h))
theorem api_Time__f94_ok (s1:List T_api_Time) (s2:List T_api_Time) (rv:Bool) (h:api_Time__f94 s1 s2 = some rv):AFn Tryd.prog 94 [.one (.sl false 4 (s1.map T_api_Time.enc)),.one (.sl false 4 (s2.map T_api_Time.enc))] [] (one (.bool rv)) []:=by
 refine afn_of Tryd.func94 (by kernel_rfl) (by kernel_rfl) (fun Γ=>?_)
 unfold api_Time__f94 at h
 rcases br_elim h with ⟨h0,h⟩|⟨h0,h⟩
 ·obtain rfl:=Option.some.inj h
  exact gr 8 [] [.num s1.length,.num s2.length,bT] (A1 (lenM T_api_Time.enc s1) (A2 (lenM T_api_Time.enc s2) h0 T1))
 ·obtain ⟨e0,h5,h⟩:=bnd_elim h
  refine gn 12 [0,1,12,13] [] [.num s1.length,.num s2.length,bF,.num s1.length] (A4 (lenM T_api_Time.enc s1) (lenM T_api_Time.enc s2) h0 (lenM T_api_Time.enc s1) T1) (api_Time__f94_L1_ok Γ rv s1 s2 _ _ h5 ?_)
  rcases e0 with e0|e0
  ·replace h:(some true:Option Bool) = some _:=h
   obtain rfl:=Option.some.inj h
   exact gr 2 [] [] T1
  ·obtain ⟨r,rfl⟩:∃ x,x = e0:=⟨_,rfl⟩
   replace h:(some r:Option Bool) = some _:=h
   exact Option.some.inj h
theorem drive_same_ok (a:T_api_Sheet) (b:T_api_Sheet) (rv:Bool) (h:drive_same a b = some rv):AFn Tryd.prog 69 [.agg [.bool a.rest_,.int .i64 a.depart,.sl false 4 (a.times.map T_api_Time.enc),.int .i64 a.end_,.int .i64 a.miles],.agg [.bool b.rest_,.int .i64 b.depart,.sl false 4 (b.times.map T_api_Time.enc),.int .i64 b.end_,.int .i64 b.miles]] [] (one (.bool rv)) []:=by
 refine afn_of Tryd.func69 (by kernel_rfl) (by kernel_rfl) (fun Γ=>?_)
 unfold drive_same at h
 rcases br_elim h with ⟨h0,h⟩|⟨h0,h⟩
 ·obtain ⟨r,h1,h⟩:=bnd_elim h
  obtain rfl:=Option.some.inj h
  exact gr 4 [] [kP,kP,kP,kP,kP,kP,kP,kP,kP,kP,kP,kP,kP,kP,kP,kP,kP,kP,bT,bT,bT,bT,bT,.call [] (one (.bool r)) [],bT] (A2 (fun (h0:(eqB a.rest_ b.rest_) = true)=>h0) (fun (h0:(eqB a.rest_ b.rest_) = true)=>h0) (A4 (fun (h0:(eqB a.rest_ b.rest_) = true)=>h0) (fun (h0:(eqB a.rest_ b.rest_) = true)=>h0) (fun (h0:True∧(eqB a.rest_ b.rest_) = true)=>h0.2) (fun (h0:((eqB a.rest_ b.rest_) && (eqI a.depart b.depart)) = true)=>h0) (A8 (fun (h0:((eqB a.rest_ b.rest_) && (eqI a.depart b.depart)) = true)=>h0) (fun (h0:((eqB a.rest_ b.rest_) && (eqI a.depart b.depart)) = true)=>h0) (fun (h0:((eqB a.rest_ b.rest_) && (eqI a.depart b.depart)) = true)=>h0) (fun (h0:True∧((eqB a.rest_ b.rest_) && (eqI a.depart b.depart)) = true)=>h0.2) (fun (h0:(((eqB a.rest_ b.rest_) && (eqI a.depart b.depart)) && (eqI a.end_ b.end_)) = true)=>h0) (fun (h0:(((eqB a.rest_ b.rest_) && (eqI a.depart b.depart)) && (eqI a.end_ b.end_)) = true)=>h0) (fun (h0:(((eqB a.rest_ b.rest_) && (eqI a.depart b.depart)) && (eqI a.end_ b.end_)) = true)=>h0) (fun (h0:(((eqB a.rest_ b.rest_) && (eqI a.depart b.depart)) && (eqI a.end_ b.end_)) = true)=>h0) (A8 (fun (h0:True∧(((eqB a.rest_ b.rest_) && (eqI a.depart b.depart)) && (eqI a.end_ b.end_)) = true)=>h0.2) h0 h0 h0 h0 h0 (api_Time__f94_ok a.times b.times r h1) h0 T1))))
 ·obtain rfl:=Option.some.inj h
  exact gr 4 [] [kP,kP,kP,kP,kP,kP,kP,kP,kP,kP,kP,kP,kP,kP,kP,kP,kP,kP,bF,bF,bF,bF,bF,bF] (A1 (fun (h0:(eqB a.rest_ b.rest_) = true)=>h0) (A4 (fun (h0:(eqB a.rest_ b.rest_) = true)=>h0) (fun (h0:(eqB a.rest_ b.rest_) = true)=>h0) (fun (h0:(eqB a.rest_ b.rest_) = true)=>h0) (fun (h0:True∧(eqB a.rest_ b.rest_) = true)=>h0.2) (A8 (fun (h0:((eqB a.rest_ b.rest_) && (eqI a.depart b.depart)) = true)=>h0) (fun (h0:((eqB a.rest_ b.rest_) && (eqI a.depart b.depart)) = true)=>h0) (fun (h0:((eqB a.rest_ b.rest_) && (eqI a.depart b.depart)) = true)=>h0) (fun (h0:((eqB a.rest_ b.rest_) && (eqI a.depart b.depart)) = true)=>h0) (fun (h0:True∧((eqB a.rest_ b.rest_) && (eqI a.depart b.depart)) = true)=>h0.2) (fun (h0:(((eqB a.rest_ b.rest_) && (eqI a.depart b.depart)) && (eqI a.end_ b.end_)) = true)=>h0) (fun (h0:(((eqB a.rest_ b.rest_) && (eqI a.depart b.depart)) && (eqI a.end_ b.end_)) = true)=>h0) (fun (h0:(((eqB a.rest_ b.rest_) && (eqI a.depart b.depart)) && (eqI a.end_ b.end_)) = true)=>h0) (A8 (fun (h0:(((eqB a.rest_ b.rest_) && (eqI a.depart b.depart)) && (eqI a.end_ b.end_)) = true)=>h0) (fun (h0:True∧(((eqB a.rest_ b.rest_) && (eqI a.depart b.depart)) && (eqI a.end_ b.end_)) = true)=>h0.2) h0 h0 h0 h0 h0 h0 T1))))
theorem drive_Valid_ok (x0:T_api_Instance) (r:T_api_Route) (s0:T_api_Sheet) (rv:Int) (h:drive_Valid x0 r s0 = some rv):AFn Tryd.prog 39 [.agg [.sl false 1 (x0.net.places.map e_str),.sl false 6 (x0.net.arcs.map T_api_Arc.enc),.sl false 14 (x0.types.map T_api_Type.enc),.sl false 16 (x0.orders.map T_api_Order.enc),.sl false 2 (x0.apart.map A2_Int.enc),.sl false 2 (x0.before.map A2_Int.enc)],.agg [.int .i64 r.type_,.int .i64 r.start,.sl false 1 (r.rests.map e_bool),.sl false 2 (r.visits.map T_api_Visit.enc)],.agg [.bool s0.rest_,.int .i64 s0.depart,.sl false 4 (s0.times.map T_api_Time.enc),.int .i64 s0.end_,.int .i64 s0.miles]] [] (one (.int .i64 rv)) []:=by
 refine afn_of Tryd.func39 (by kernel_rfl) (by kernel_rfl) (fun Γ=>?_)
 unfold drive_Valid at h
 obtain ⟨r1,h0,h⟩:=bnd_elim h
 rcases br_elim h with ⟨h1,h⟩|⟨h1,h⟩
 ·obtain rfl:=Option.some.inj h
  exact gr 12 [] [.call [] (.tup [.agg [.sl false 1 (r1.1.x.net.places.map e_str),.sl false 6 (r1.1.x.net.arcs.map T_api_Arc.enc),.sl false 14 (r1.1.x.types.map T_api_Type.enc),.sl false 16 (r1.1.x.orders.map T_api_Order.enc),.sl false 2 (r1.1.x.apart.map A2_Int.enc),.sl false 2 (r1.1.x.before.map A2_Int.enc),.str r1.1.t.name,.int .i64 r1.1.t.count,.int .i64 r1.1.t.from_,.int .i64 r1.1.t.to_,.sl false 1 (r1.1.t.cap.map e_i64),.int .i64 r1.1.t.skills,.int .i64 r1.1.t.profile,.int .i64 r1.1.t.open_,.int .i64 r1.1.t.close,.int .i64 r1.1.t.drive,.int .i64 r1.1.t.rest_,.int .i64 r1.1.t.fixed,.int .i64 r1.1.t.perMile,.int .i64 r1.1.t.perTick,.int .i64 r1.1.r.type_,.int .i64 r1.1.r.start,.sl false 1 (r1.1.r.rests.map e_bool),.sl false 2 (r1.1.r.visits.map T_api_Visit.enc),.sl false 4 (r1.1.stops.map T_api_Stop.enc)],.one (.bool r1.2)]) [],.num r.visits.length,kP,kP,kP,.num r.rests.length,kP,kP,kP,kP,kP,kP,kP,.num s0.times.length,kP,kP,kP,bT] (A8 (drive_plan_ok (T_api_Instance.mk (T_api_Network.mk x0.net.places x0.net.arcs) x0.types x0.orders x0.apart x0.before) r r1 h0) (lenM T_api_Visit.enc r.visits) (fun (h0:(!r1.2) = false)=>h0) (fun (h0:(!r1.2) = false)=>h0) (lenM e_bool r.rests) (fun (h0:(!r1.2) = false)=>h0) (fun (h0:(!r1.2) = false)=>h0) (fun (h0:(!r1.2) = false)=>h0) (A8 (fun (h0:True∧(!r1.2) = false)=>h0.2) (fun (h0:((!r1.2) || (gtI (lenI r.rests) (addK .i64 (lenI r.visits) 1))) = false)=>h0) (fun (h0:((!r1.2) || (gtI (lenI r.rests) (addK .i64 (lenI r.visits) 1))) = false)=>h0) (lenM T_api_Time.enc s0.times) (fun (h0:((!r1.2) || (gtI (lenI r.rests) (addK .i64 (lenI r.visits) 1))) = false)=>h0) (fun (h0:((!r1.2) || (gtI (lenI r.rests) (addK .i64 (lenI r.visits) 1))) = false)=>h0) (fun (h0:True∧((!r1.2) || (gtI (lenI r.rests) (addK .i64 (lenI r.visits) 1))) = false)=>h0.2) h1 T1))
 ·obtain ⟨r2,h2,h⟩:=bnd_elim h
  obtain ⟨l,h3,h⟩:=bnd_elim h
  obtain ⟨r3,h4,h⟩:=bnd_elim h
  rcases br_elim h with ⟨h5,h⟩|⟨h5,h⟩
  ·obtain ⟨r4,h6,h⟩:=bnd_elim h
   rcases br_elim h with ⟨h7,h⟩|⟨h7,h⟩
   ·obtain rfl:=Option.some.inj h
    exact gr 26 [] [.call [] (.tup [.agg [.sl false 1 (r1.1.x.net.places.map e_str),.sl false 6 (r1.1.x.net.arcs.map T_api_Arc.enc),.sl false 14 (r1.1.x.types.map T_api_Type.enc),.sl false 16 (r1.1.x.orders.map T_api_Order.enc),.sl false 2 (r1.1.x.apart.map A2_Int.enc),.sl false 2 (r1.1.x.before.map A2_Int.enc),.str r1.1.t.name,.int .i64 r1.1.t.count,.int .i64 r1.1.t.from_,.int .i64 r1.1.t.to_,.sl false 1 (r1.1.t.cap.map e_i64),.int .i64 r1.1.t.skills,.int .i64 r1.1.t.profile,.int .i64 r1.1.t.open_,.int .i64 r1.1.t.close,.int .i64 r1.1.t.drive,.int .i64 r1.1.t.rest_,.int .i64 r1.1.t.fixed,.int .i64 r1.1.t.perMile,.int .i64 r1.1.t.perTick,.int .i64 r1.1.r.type_,.int .i64 r1.1.r.start,.sl false 1 (r1.1.r.rests.map e_bool),.sl false 2 (r1.1.r.visits.map T_api_Visit.enc),.sl false 4 (r1.1.stops.map T_api_Stop.enc)],.one (.bool r1.2)]) [],.num r.visits.length,kP,kP,kP,.num r.rests.length,kP,kP,kP,kP,kP,kP,kP,.num s0.times.length,kP,kP,kP,bF,.call [] (one (.sl false 1 (r2.map e_bool))) [],.draw 9 [],.num r.rests.length,.rows (l.map e_bool),.call [] (one (.bool r3)) [],bF,.call [] (.tup [.agg [.bool r4.1.rest_,.int .i64 r4.1.depart,.sl false 4 (r4.1.times.map T_api_Time.enc),.int .i64 r4.1.end_,.int .i64 r4.1.miles],.one (.int .i64 r4.2)]) [],bT] (A4 (drive_plan_ok (T_api_Instance.mk (T_api_Network.mk x0.net.places x0.net.arcs) x0.types x0.orders x0.apart x0.before) r r1 h0) (lenM T_api_Visit.enc r.visits) (fun (h0:(!r1.2) = false)=>h0) (fun (h0:(!r1.2) = false)=>h0) (A8 (lenM e_bool r.rests) (fun (h0:(!r1.2) = false)=>h0) (fun (h0:(!r1.2) = false)=>h0) (fun (h0:(!r1.2) = false)=>h0) (fun (h0:True∧(!r1.2) = false)=>h0.2) (fun (h0:((!r1.2) || (gtI (lenI r.rests) (addK .i64 (lenI r.visits) 1))) = false)=>h0) (fun (h0:((!r1.2) || (gtI (lenI r.rests) (addK .i64 (lenI r.visits) 1))) = false)=>h0) (lenM T_api_Time.enc s0.times) (A8 (fun (h0:((!r1.2) || (gtI (lenI r.rests) (addK .i64 (lenI r.visits) 1))) = false)=>h0) (fun (h0:((!r1.2) || (gtI (lenI r.rests) (addK .i64 (lenI r.visits) 1))) = false)=>h0) (fun (h0:True∧((!r1.2) || (gtI (lenI r.rests) (addK .i64 (lenI r.visits) 1))) = false)=>h0.2) h1 (drive_rests_ok s0 r2 h2) (lenM e_bool r.rests) (sl1 h3) (sl2 h3) (A8 (sl3 e_bool h3) (Int.le_refl (lenI r.rests)) (sl3 e_bool h3) (sl6 e_bool h3) (slices_Equal___bool_bool__ok l r.rests r3 h4) (notF h5) (drive_trip_run_ok (T_drive_trip.mk (T_api_Instance.mk (T_api_Network.mk r1.1.x.net.places r1.1.x.net.arcs) r1.1.x.types r1.1.x.orders r1.1.x.apart r1.1.x.before) (T_api_Type.mk r1.1.t.name r1.1.t.count r1.1.t.from_ r1.1.t.to_ r1.1.t.cap r1.1.t.skills r1.1.t.profile r1.1.t.open_ r1.1.t.close r1.1.t.drive r1.1.t.rest_ r1.1.t.fixed r1.1.t.perMile r1.1.t.perTick) (T_api_Route.mk r1.1.r.type_ r1.1.r.start r1.1.r.rests r1.1.r.visits) r1.1.stops) r2 r4 h6) h7 T1))))
   ·obtain ⟨r5,h8,h⟩:=bnd_elim h
    rcases br_elim h with ⟨h9,h⟩|⟨h9,h⟩
    ·obtain rfl:=Option.some.inj h
     exact gr 32 [] [.call [] (.tup [.agg [.sl false 1 (r1.1.x.net.places.map e_str),.sl false 6 (r1.1.x.net.arcs.map T_api_Arc.enc),.sl false 14 (r1.1.x.types.map T_api_Type.enc),.sl false 16 (r1.1.x.orders.map T_api_Order.enc),.sl false 2 (r1.1.x.apart.map A2_Int.enc),.sl false 2 (r1.1.x.before.map A2_Int.enc),.str r1.1.t.name,.int .i64 r1.1.t.count,.int .i64 r1.1.t.from_,.int .i64 r1.1.t.to_,.sl false 1 (r1.1.t.cap.map e_i64),.int .i64 r1.1.t.skills,.int .i64 r1.1.t.profile,.int .i64 r1.1.t.open_,.int .i64 r1.1.t.close,.int .i64 r1.1.t.drive,.int .i64 r1.1.t.rest_,.int .i64 r1.1.t.fixed,.int .i64 r1.1.t.perMile,.int .i64 r1.1.t.perTick,.int .i64 r1.1.r.type_,.int .i64 r1.1.r.start,.sl false 1 (r1.1.r.rests.map e_bool),.sl false 2 (r1.1.r.visits.map T_api_Visit.enc),.sl false 4 (r1.1.stops.map T_api_Stop.enc)],.one (.bool r1.2)]) [],.num r.visits.length,kP,kP,kP,.num r.rests.length,kP,kP,kP,kP,kP,kP,kP,.num s0.times.length,kP,kP,kP,bF,.call [] (one (.sl false 1 (r2.map e_bool))) [],.draw 9 [],.num r.rests.length,.rows (l.map e_bool),.call [] (one (.bool r3)) [],bF,.call [] (.tup [.agg [.bool r4.1.rest_,.int .i64 r4.1.depart,.sl false 4 (r4.1.times.map T_api_Time.enc),.int .i64 r4.1.end_,.int .i64 r4.1.miles],.one (.int .i64 r4.2)]) [],bF,.call [] (one (.bool r5)) [],bF] (A2 (drive_plan_ok (T_api_Instance.mk (T_api_Network.mk x0.net.places x0.net.arcs) x0.types x0.orders x0.apart x0.before) r r1 h0) (lenM T_api_Visit.enc r.visits) (A4 (fun (h0:(!r1.2) = false)=>h0) (fun (h0:(!r1.2) = false)=>h0) (lenM e_bool r.rests) (fun (h0:(!r1.2) = false)=>h0) (A8 (fun (h0:(!r1.2) = false)=>h0) (fun (h0:(!r1.2) = false)=>h0) (fun (h0:True∧(!r1.2) = false)=>h0.2) (fun (h0:((!r1.2) || (gtI (lenI r.rests) (addK .i64 (lenI r.visits) 1))) = false)=>h0) (fun (h0:((!r1.2) || (gtI (lenI r.rests) (addK .i64 (lenI r.visits) 1))) = false)=>h0) (lenM T_api_Time.enc s0.times) (fun (h0:((!r1.2) || (gtI (lenI r.rests) (addK .i64 (lenI r.visits) 1))) = false)=>h0) (fun (h0:((!r1.2) || (gtI (lenI r.rests) (addK .i64 (lenI r.visits) 1))) = false)=>h0) (A8 (fun (h0:True∧((!r1.2) || (gtI (lenI r.rests) (addK .i64 (lenI r.visits) 1))) = false)=>h0.2) h1 (drive_rests_ok s0 r2 h2) (lenM e_bool r.rests) (sl1 h3) (sl2 h3) (sl3 e_bool h3) (Int.le_refl (lenI r.rests)) (A8 (sl3 e_bool h3) (sl6 e_bool h3) (slices_Equal___bool_bool__ok l r.rests r3 h4) (notF h5) (drive_trip_run_ok (T_drive_trip.mk (T_api_Instance.mk (T_api_Network.mk r1.1.x.net.places r1.1.x.net.arcs) r1.1.x.types r1.1.x.orders r1.1.x.apart r1.1.x.before) (T_api_Type.mk r1.1.t.name r1.1.t.count r1.1.t.from_ r1.1.t.to_ r1.1.t.cap r1.1.t.skills r1.1.t.profile r1.1.t.open_ r1.1.t.close r1.1.t.drive r1.1.t.rest_ r1.1.t.fixed r1.1.t.perMile r1.1.t.perTick) (T_api_Route.mk r1.1.r.type_ r1.1.r.start r1.1.r.rests r1.1.r.visits) r1.1.stops) r2 r4 h6) h7 (drive_same_ok s0 r4.1 r5 h8) (notF h9) T1)))))
    ·obtain rfl:=Option.some.inj h
     exact gr 31 [] [.call [] (.tup [.agg [.sl false 1 (r1.1.x.net.places.map e_str),.sl false 6 (r1.1.x.net.arcs.map T_api_Arc.enc),.sl false 14 (r1.1.x.types.map T_api_Type.enc),.sl false 16 (r1.1.x.orders.map T_api_Order.enc),.sl false 2 (r1.1.x.apart.map A2_Int.enc),.sl false 2 (r1.1.x.before.map A2_Int.enc),.str r1.1.t.name,.int .i64 r1.1.t.count,.int .i64 r1.1.t.from_,.int .i64 r1.1.t.to_,.sl false 1 (r1.1.t.cap.map e_i64),.int .i64 r1.1.t.skills,.int .i64 r1.1.t.profile,.int .i64 r1.1.t.open_,.int .i64 r1.1.t.close,.int .i64 r1.1.t.drive,.int .i64 r1.1.t.rest_,.int .i64 r1.1.t.fixed,.int .i64 r1.1.t.perMile,.int .i64 r1.1.t.perTick,.int .i64 r1.1.r.type_,.int .i64 r1.1.r.start,.sl false 1 (r1.1.r.rests.map e_bool),.sl false 2 (r1.1.r.visits.map T_api_Visit.enc),.sl false 4 (r1.1.stops.map T_api_Stop.enc)],.one (.bool r1.2)]) [],.num r.visits.length,kP,kP,kP,.num r.rests.length,kP,kP,kP,kP,kP,kP,kP,.num s0.times.length,kP,kP,kP,bF,.call [] (one (.sl false 1 (r2.map e_bool))) [],.draw 9 [],.num r.rests.length,.rows (l.map e_bool),.call [] (one (.bool r3)) [],bF,.call [] (.tup [.agg [.bool r4.1.rest_,.int .i64 r4.1.depart,.sl false 4 (r4.1.times.map T_api_Time.enc),.int .i64 r4.1.end_,.int .i64 r4.1.miles],.one (.int .i64 r4.2)]) [],bF,.call [] (one (.bool r5)) [],bT] (A2 (drive_plan_ok (T_api_Instance.mk (T_api_Network.mk x0.net.places x0.net.arcs) x0.types x0.orders x0.apart x0.before) r r1 h0) (lenM T_api_Visit.enc r.visits) (A4 (fun (h0:(!r1.2) = false)=>h0) (fun (h0:(!r1.2) = false)=>h0) (lenM e_bool r.rests) (fun (h0:(!r1.2) = false)=>h0) (A8 (fun (h0:(!r1.2) = false)=>h0) (fun (h0:(!r1.2) = false)=>h0) (fun (h0:True∧(!r1.2) = false)=>h0.2) (fun (h0:((!r1.2) || (gtI (lenI r.rests) (addK .i64 (lenI r.visits) 1))) = false)=>h0) (fun (h0:((!r1.2) || (gtI (lenI r.rests) (addK .i64 (lenI r.visits) 1))) = false)=>h0) (lenM T_api_Time.enc s0.times) (fun (h0:((!r1.2) || (gtI (lenI r.rests) (addK .i64 (lenI r.visits) 1))) = false)=>h0) (fun (h0:((!r1.2) || (gtI (lenI r.rests) (addK .i64 (lenI r.visits) 1))) = false)=>h0) (A8 (fun (h0:True∧((!r1.2) || (gtI (lenI r.rests) (addK .i64 (lenI r.visits) 1))) = false)=>h0.2) h1 (drive_rests_ok s0 r2 h2) (lenM e_bool r.rests) (sl1 h3) (sl2 h3) (sl3 e_bool h3) (Int.le_refl (lenI r.rests)) (A8 (sl3 e_bool h3) (sl6 e_bool h3) (slices_Equal___bool_bool__ok l r.rests r3 h4) (notF h5) (drive_trip_run_ok (T_drive_trip.mk (T_api_Instance.mk (T_api_Network.mk r1.1.x.net.places r1.1.x.net.arcs) r1.1.x.types r1.1.x.orders r1.1.x.apart r1.1.x.before) (T_api_Type.mk r1.1.t.name r1.1.t.count r1.1.t.from_ r1.1.t.to_ r1.1.t.cap r1.1.t.skills r1.1.t.profile r1.1.t.open_ r1.1.t.close r1.1.t.drive r1.1.t.rest_ r1.1.t.fixed r1.1.t.perMile r1.1.t.perTick) (T_api_Route.mk r1.1.r.type_ r1.1.r.start r1.1.r.rests r1.1.r.visits) r1.1.stops) r2 r4 h6) h7 (drive_same_ok s0 r4.1 r5 h8) (notT h9) T1)))))
  ·obtain rfl:=Option.some.inj h
   exact gr 19 [] [.call [] (.tup [.agg [.sl false 1 (r1.1.x.net.places.map e_str),.sl false 6 (r1.1.x.net.arcs.map T_api_Arc.enc),.sl false 14 (r1.1.x.types.map T_api_Type.enc),.sl false 16 (r1.1.x.orders.map T_api_Order.enc),.sl false 2 (r1.1.x.apart.map A2_Int.enc),.sl false 2 (r1.1.x.before.map A2_Int.enc),.str r1.1.t.name,.int .i64 r1.1.t.count,.int .i64 r1.1.t.from_,.int .i64 r1.1.t.to_,.sl false 1 (r1.1.t.cap.map e_i64),.int .i64 r1.1.t.skills,.int .i64 r1.1.t.profile,.int .i64 r1.1.t.open_,.int .i64 r1.1.t.close,.int .i64 r1.1.t.drive,.int .i64 r1.1.t.rest_,.int .i64 r1.1.t.fixed,.int .i64 r1.1.t.perMile,.int .i64 r1.1.t.perTick,.int .i64 r1.1.r.type_,.int .i64 r1.1.r.start,.sl false 1 (r1.1.r.rests.map e_bool),.sl false 2 (r1.1.r.visits.map T_api_Visit.enc),.sl false 4 (r1.1.stops.map T_api_Stop.enc)],.one (.bool r1.2)]) [],.num r.visits.length,kP,kP,kP,.num r.rests.length,kP,kP,kP,kP,kP,kP,kP,.num s0.times.length,kP,kP,kP,bF,.call [] (one (.sl false 1 (r2.map e_bool))) [],.draw 9 [],.num r.rests.length,.rows (l.map e_bool),.call [] (one (.bool r3)) [],bT] (A2 (drive_plan_ok (T_api_Instance.mk (T_api_Network.mk x0.net.places x0.net.arcs) x0.types x0.orders x0.apart x0.before) r r1 h0) (lenM T_api_Visit.enc r.visits) (A8 (fun (h0:(!r1.2) = false)=>h0) (fun (h0:(!r1.2) = false)=>h0) (lenM e_bool r.rests) (fun (h0:(!r1.2) = false)=>h0) (fun (h0:(!r1.2) = false)=>h0) (fun (h0:(!r1.2) = false)=>h0) (fun (h0:True∧(!r1.2) = false)=>h0.2) (fun (h0:((!r1.2) || (gtI (lenI r.rests) (addK .i64 (lenI r.visits) 1))) = false)=>h0) (A8 (fun (h0:((!r1.2) || (gtI (lenI r.rests) (addK .i64 (lenI r.visits) 1))) = false)=>h0) (lenM T_api_Time.enc s0.times) (fun (h0:((!r1.2) || (gtI (lenI r.rests) (addK .i64 (lenI r.visits) 1))) = false)=>h0) (fun (h0:((!r1.2) || (gtI (lenI r.rests) (addK .i64 (lenI r.visits) 1))) = false)=>h0) (fun (h0:True∧((!r1.2) || (gtI (lenI r.rests) (addK .i64 (lenI r.visits) 1))) = false)=>h0.2) h1 (drive_rests_ok s0 r2 h2) (lenM e_bool r.rests) (A8 (sl1 h3) (sl2 h3) (sl3 e_bool h3) (Int.le_refl (lenI r.rests)) (sl3 e_bool h3) (sl6 e_bool h3) (slices_Equal___bool_bool__ok l r.rests r3 h4) (notT h5) T1))))
def drive_Since_L1_C (Γ:Gam) (rv:List Int × Int) (s0:T_api_Sheet) (l:List Int) (depart:Int) (since:Int) (depart1:Int) (v:Int):Prop:=Go Tryd.prog Tryd.f37 [] Γ (.tup [.one (.sl false 1 (rv.1.map e_i64)),.one (.int .i64 rv.2)]) [] ⟨[.c 500,.l 500,.b 0,.c 63],⟨54,[(5,one (.op 0 5 0 0)),(9,one (.os 1 1 0 (l.map e_i64).length)),(10,one (.int .i64 since)),(11,one (.int .i64 depart1)),(24,one (.sl false 4 (s0.times.map T_api_Time.enc))),(25,one (.int .i64 (lenI s0.times))),(26,one (.int .i64 v))],[some ⟨true,5,64,[[.bool s0.rest_,.int .i64 depart,.sl false 4 (s0.times.map T_api_Time.enc),.int .i64 s0.end_,.int .i64 s0.miles]]⟩,some ⟨false,1,3,(l.map e_i64)⟩]⟩⟩
def drive_Since_L1_D0 (Γ:Gam) (rv:List Int × Int) (s0:T_api_Sheet) (l1:List Int) (depart2:Int) (since2:Int) (depart3:Int):Prop:=Go Tryd.prog Tryd.f37 [] Γ (.tup [.one (.sl false 1 (rv.1.map e_i64)),.one (.int .i64 rv.2)]) [] ⟨[.c 63],⟨54,[(5,one (.op 0 5 0 0)),(9,one (.os 1 1 0 (l1.map e_i64).length)),(10,one (.int .i64 since2)),(11,one (.int .i64 depart3))],[some ⟨true,5,64,[[.bool s0.rest_,.int .i64 depart2,.sl false 4 (s0.times.map T_api_Time.enc),.int .i64 s0.end_,.int .i64 s0.miles]]⟩,some ⟨false,1,3,(l1.map e_i64)⟩]⟩⟩
theorem drive_Since_J1_ok (Γ:Gam) (rv:List Int × Int) (s0:T_api_Sheet) (l:List Int) (depart:Int) (since:Int) (depart1:Int) (v:Int) (x1:T_api_Time) (since1:Int) (x:(List Int × Int × Int × Int × Int) ⊕ (List Int × Int × Int × Int)) (h:drive_Since_J1 s0 l depart since depart1 v x1 since1 = some x) (hI:∀ s:List Int × Int × Int × Int × Int,x = .inl s→drive_Since_L1_C Γ rv s0 s.1 s.2.1 s.2.2.1 s.2.2.2.1 s.2.2.2.2) (hE:∀ e:List Int × Int × Int × Int,x = .inr e→drive_Since_L1_D0 Γ rv s0 e.1 e.2.1 e.2.2.1 e.2.2.2):Go Tryd.prog Tryd.f37 [] Γ (.tup [.one (.sl false 1 (rv.1.map e_i64)),.one (.int .i64 rv.2)]) [] ⟨[.c 128207,.b 1,.c 4007,.l 500,.b 0,.c 63],⟨54,[(5,one (.op 0 5 0 0)),(9,one (.os 1 1 0 ((l ++ [(addK .i64 since (subK .i64 x1.arrive depart1))]).map e_i64).length)),(10,one (.int .i64 since1)),(13,one (.op 2 4 0 0)),(24,one (.sl false 4 (s0.times.map T_api_Time.enc))),(25,one (.int .i64 (lenI s0.times))),(26,one (.int .i64 v))],[some ⟨true,5,64,[[.bool s0.rest_,.int .i64 depart,.sl false 4 (s0.times.map T_api_Time.enc),.int .i64 s0.end_,.int .i64 s0.miles]]⟩,some ⟨false,1,3,((l ++ [(addK .i64 since (subK .i64 x1.arrive depart1))]).map e_i64)⟩,some ⟨true,4,76,[[.int .i64 x1.arrive,.int .i64 x1.begin,.int .i64 x1.depart,.bool x1.rest_]]⟩]⟩⟩:=by
 unfold drive_Since_J1 at h
 exact gn 4 [5,9,10,11,24,25,26] [0,1] [] T1 (hI _ (oJ h))
theorem drive_Since_L1_ok (Γ:Gam) (rv:List Int × Int) (s0:T_api_Sheet) (s:List Int × Int × Int × Int × Int) (e:List Int × Int × Int × Int) (h:loopF (fun s=>drive_Since_L1 s0 s.1 s.2.1 s.2.2.1 s.2.2.2.1 s.2.2.2.2) s = some e) (hD:drive_Since_L1_D0 Γ rv s0 e.1 e.2.1 e.2.2.1 e.2.2.2):drive_Since_L1_C Γ rv s0 s.1 s.2.1 s.2.2.1 s.2.2.2.1 s.2.2.2.2:=by
 refine loop_ind (C:=fun (s:List Int × Int × Int × Int × Int)=>drive_Since_L1_C Γ rv s0 s.1 s.2.1 s.2.2.1 s.2.2.2.1 s.2.2.2.2) (D:=fun (e:List Int × Int × Int × Int)=>drive_Since_L1_D0 Γ rv s0 e.1 e.2.1 e.2.2.1 e.2.2.2) ?_ h hD
 clear h hD s e
 rintro ⟨l,depart,since,depart1,v⟩ z_ h hI hE
 replace h:drive_Since_L1 s0 l depart since depart1 v = _:=h
 unfold drive_Since_L1 at h
 rcases br_elim h with ⟨h2,h⟩|⟨h2,h⟩
 ·obtain ⟨x1,h3,h⟩:=bnd_elim h
  obtain ⟨h4,h⟩:=chk_elim h
  rcases br_elim h with ⟨h5,h⟩|⟨h5,h⟩
  ·exact gn 18 [5,9,10,13,24,25,26] [0,4,2] [bT,.cells (T_api_Time.enc x1),.rows ((l ++ [(addK .i64 since (subK .i64 x1.arrive depart1))]).map e_i64),bT] (A8 h2 (getM T_api_Time.enc h3) (Eq.refl ([(addK .i64 since (subK .i64 x1.arrive depart1))].map e_i64).length) (eL l e_i64) (appM e_i64 l [(addK .i64 since (subK .i64 x1.arrive depart1))]) (okLe (l:=((l ++ [(addK .i64 since (subK .i64 x1.arrive depart1))]):List Int)) e_i64 h4) (okLe2 (l:=((l ++ [(addK .i64 since (subK .i64 x1.arrive depart1))]):List Int)) (b:=8) e_i64 (by decide) h4) h5 T1) (drive_Since_J1_ok Γ rv s0 l depart since depart1 v x1 0 _ h hI hE)
  ·exact gn 18 [5,9,10,13,24,25,26] [0,4,2] [bT,.cells (T_api_Time.enc x1),.rows ((l ++ [(addK .i64 since (subK .i64 x1.arrive depart1))]).map e_i64),bF] (A8 h2 (getM T_api_Time.enc h3) (Eq.refl ([(addK .i64 since (subK .i64 x1.arrive depart1))].map e_i64).length) (eL l e_i64) (appM e_i64 l [(addK .i64 since (subK .i64 x1.arrive depart1))]) (okLe (l:=((l ++ [(addK .i64 since (subK .i64 x1.arrive depart1))]):List Int)) e_i64 h4) (okLe2 (l:=((l ++ [(addK .i64 since (subK .i64 x1.arrive depart1))]):List Int)) (b:=8) e_i64 (by decide) h4) h5 T1) (drive_Since_J1_ok Γ rv s0 l depart since depart1 v x1 (addK .i64 since (subK .i64 x1.arrive depart1)) _ h hI hE)
 ·exact gn 5 [5,9,10,11] [0,1] [bF] (A1 h2 T1) (hE _ (oJ h))
theorem drive_Since_ok (x0:T_api_Instance) (r:T_api_Route) (s0:T_api_Sheet) (rv:List Int × Int) (h:drive_Since x0 r s0 = some rv):AFn Tryd.prog 37 [.agg [.sl false 1 (x0.net.places.map e_str),.sl false 6 (x0.net.arcs.map T_api_Arc.enc),.sl false 14 (x0.types.map T_api_Type.enc),.sl false 16 (x0.orders.map T_api_Order.enc),.sl false 2 (x0.apart.map A2_Int.enc),.sl false 2 (x0.before.map A2_Int.enc)],.agg [.int .i64 r.type_,.int .i64 r.start,.sl false 1 (r.rests.map e_bool),.sl false 2 (r.visits.map T_api_Visit.enc)],.agg [.bool s0.rest_,.int .i64 s0.depart,.sl false 4 (s0.times.map T_api_Time.enc),.int .i64 s0.end_,.int .i64 s0.miles]] [] (.tup [.one (.sl false 1 (rv.1.map e_i64)),.one (.int .i64 rv.2)]) []:=by
 refine afn_of Tryd.func37 (by kernel_rfl) (by kernel_rfl) (fun Γ=>?_)
 unfold drive_Since at h
 obtain ⟨r1,h0,h⟩:=bnd_elim h
 rcases br_elim h with ⟨h1,h⟩|⟨h1,h⟩
 ·obtain rfl:=Option.some.inj h
  exact gr 10 [] [.call [] (one (.int .i64 r1)) [],bT,.wait 5,.nilS 6 0 1] (A2 (drive_Valid_ok (T_api_Instance.mk (T_api_Network.mk x0.net.places x0.net.arcs) x0.types x0.orders x0.apart x0.before) r s0 r1 h0) h1 T1)
 ·obtain ⟨e0,h6,h⟩:=bnd_elim h
  refine gn 18 [5,9,10,11,24,25,26] [2,3] [.call [] (one (.int .i64 r1)) [],bF,.draw 4 [],.num s0.times.length,.wait 3,.adopt 9 1 3] (A1 (drive_Valid_ok (T_api_Instance.mk (T_api_Network.mk x0.net.places x0.net.arcs) x0.types x0.orders x0.apart x0.before) r s0 r1 h0) (A2 h1 (lenM T_api_Time.enc s0.times) T1)) (drive_Since_L1_ok Γ rv s0 _ _ h6 ?_)
  obtain ⟨l1,depart2,since2,depart3⟩:=e0
  replace h:(chk (okN (l1 ++ [(subK .i64 (addK .i64 since2 s0.end_) depart3)]).length 8) (some ((l1 ++ [(subK .i64 (addK .i64 since2 s0.end_) depart3)]),0)):Option (List Int × Int)) = some _:=h
  obtain ⟨h7,h⟩:=chk_elim h
  obtain rfl:=Option.some.inj h
  exact gr 2 [] [.rows ((l1 ++ [(subK .i64 (addK .i64 since2 s0.end_) depart3)]).map e_i64),.wait 2,.frz 3] (A1 (Eq.refl ([(subK .i64 (addK .i64 since2 s0.end_) depart3)].map e_i64).length) (A2 (eL l1 e_i64) (appM e_i64 l1 [(subK .i64 (addK .i64 since2 s0.end_) depart3)]) (A4 (okLe (l:=((l1 ++ [(subK .i64 (addK .i64 since2 s0.end_) depart3)]):List Int)) e_i64 h7) (okLe2 (l:=((l1 ++ [(subK .i64 (addK .i64 since2 s0.end_) depart3)]):List Int)) (b:=8) e_i64 (by decide) h7) (Eq.refl ((l1 ++ [(subK .i64 (addK .i64 since2 s0.end_) depart3)]).map e_i64).length) (Eq.refl ((l1 ++ [(subK .i64 (addK .i64 since2 s0.end_) depart3)]).map e_i64).length) T1)))
theorem lorrylaw18_sample_ok (limit:Int) (pause:Int) (rv:T_api_Instance × T_api_Route) (h:lorrylaw18_sample limit pause = some rv):AFn Tryd.prog 59 [.one (.int .i64 limit),.one (.int .i64 pause)] [] (.tup [.agg [.sl false 1 (rv.1.net.places.map e_str),.sl false 6 (rv.1.net.arcs.map T_api_Arc.enc),.sl false 14 (rv.1.types.map T_api_Type.enc),.sl false 16 (rv.1.orders.map T_api_Order.enc),.sl false 2 (rv.1.apart.map A2_Int.enc),.sl false 2 (rv.1.before.map A2_Int.enc)],.agg [.int .i64 rv.2.type_,.int .i64 rv.2.start,.sl false 1 (rv.2.rests.map e_bool),.sl false 2 (rv.2.visits.map T_api_Visit.enc)]]) []:=by
 refine afn_of Tryd.func59 (by kernel_rfl) (by kernel_rfl) (fun Γ=>?_)
 unfold lorrylaw18_sample at h
 obtain rfl:=Option.some.inj h
 exact gr 12 [] [.wait 19,.frz 4,.nilS 12 5 2,.frz 5,.nilS 15 5 2,.wait 10,.frz 7,.wait 9,.frz 9,.wait 11,.frz 2,.frz 6,.frz 8,.frz 10,.nilB 0 4 2,.nilB 0 5 2,.frz 11,.nilB 1 2 1] (A1 (Eq.refl ([(T_api_Point.mk 0 10)].map T_api_Point.enc).length) (A4 (Eq.refl ([(T_api_Point.mk 0 10)].map T_api_Point.enc).length) (Eq.refl ([(T_api_Point.mk 0 10)].map T_api_Point.enc).length) (Eq.refl ([(T_api_Point.mk 0 10)].map T_api_Point.enc).length) (Eq.refl ([5].map e_i64).length) (A8 (Eq.refl ([5].map e_i64).length) (Eq.refl ([1].map e_i64).length) (Eq.refl ([1].map e_i64).length) (Eq.refl ([s_A_7fc5,s_B_9d5e].map e_str).length) (Eq.refl ([s_A_7fc5,s_B_9d5e].map e_str).length) (Eq.refl ([s_A_7fc5,s_B_9d5e].map e_str).length) (Eq.refl ([s_A_7fc5,s_B_9d5e].map e_str).length) (Eq.refl ([s_A_7fc5,s_B_9d5e].map e_str).length) (A8 (Eq.refl ([s_A_7fc5,s_B_9d5e].map e_str).length) (Eq.refl ([(T_api_Arc.mk 0 1 0 5 [(T_api_Point.mk 0 10)] []),(T_api_Arc.mk 1 0 0 5 [(T_api_Point.mk 0 10)] [])].map T_api_Arc.enc).length) (Eq.refl ([(T_api_Arc.mk 0 1 0 5 [(T_api_Point.mk 0 10)] []),(T_api_Arc.mk 1 0 0 5 [(T_api_Point.mk 0 10)] [])].map T_api_Arc.enc).length) (Eq.refl ([(T_api_Arc.mk 0 1 0 5 [(T_api_Point.mk 0 10)] []),(T_api_Arc.mk 1 0 0 5 [(T_api_Point.mk 0 10)] [])].map T_api_Arc.enc).length) (Eq.refl ([(T_api_Arc.mk 0 1 0 5 [(T_api_Point.mk 0 10)] []),(T_api_Arc.mk 1 0 0 5 [(T_api_Point.mk 0 10)] [])].map T_api_Arc.enc).length) (Eq.refl ([(T_api_Type.mk s_v_9e36 1 0 0 [5] 0 0 0 100 limit pause 0 0 0)].map T_api_Type.enc).length) (Eq.refl ([(T_api_Type.mk s_v_9e36 1 0 0 [5] 0 0 0 100 limit pause 0 0 0)].map T_api_Type.enc).length) (Eq.refl ([(T_api_Type.mk s_v_9e36 1 0 0 [5] 0 0 0 100 limit pause 0 0 0)].map T_api_Type.enc).length) (A8 (Eq.refl ([(T_api_Type.mk s_v_9e36 1 0 0 [5] 0 0 0 100 limit pause 0 0 0)].map T_api_Type.enc).length) (Eq.refl ([(T_api_Order.mk s_o_d956 [1] (T_api_Stop.mk (-1) 0 0 0) (T_api_Stop.mk 1 30 40 2) 0 (-1) 1 (-1) (-1) false)].map T_api_Order.enc).length) (Eq.refl ([(T_api_Order.mk s_o_d956 [1] (T_api_Stop.mk (-1) 0 0 0) (T_api_Stop.mk 1 30 40 2) 0 (-1) 1 (-1) (-1) false)].map T_api_Order.enc).length) (Eq.refl ([(T_api_Order.mk s_o_d956 [1] (T_api_Stop.mk (-1) 0 0 0) (T_api_Stop.mk 1 30 40 2) 0 (-1) 1 (-1) (-1) false)].map T_api_Order.enc).length) (Eq.refl ([(T_api_Order.mk s_o_d956 [1] (T_api_Stop.mk (-1) 0 0 0) (T_api_Stop.mk 1 30 40 2) 0 (-1) 1 (-1) (-1) false)].map T_api_Order.enc).length) (Eq.refl ([(T_api_Visit.mk 0 true)].map T_api_Visit.enc).length) (Eq.refl ([(T_api_Visit.mk 0 true)].map T_api_Visit.enc).length) (Eq.refl ([(T_api_Visit.mk 0 true)].map T_api_Visit.enc).length) T1)))))
end Go.Proofs.YtjhhlmmmkgnhmaaDoor
