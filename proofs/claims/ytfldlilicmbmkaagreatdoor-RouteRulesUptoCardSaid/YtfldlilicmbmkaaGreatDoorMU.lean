/- Part MU of the proof: texts Z0. -/
import Derived.Test.YtfldlilicmbmkaaGreatDoorMT
import Derived.Test.YtfldlilicmbmkaaGreatDoorMC
import Derived.Test.YtfldlilicmbmkaaGreatDoorProg
namespace Go.Proofs.YtfldlilicmbmkaaGreatDoor
set_option linter.unusedVariables false
set_option linter.unusedSectionVars false
set_option linter.unusedSimpArgs false
set_option maxHeartbeats 4000000
set_option maxRecDepth 100000
def lorryref13_under_G (Γ:Gam) (rv:List T_api_Fault) (cf:Cf):Prop:=Go Tryz.prog Tryz.f67 [] Γ (one (lL 2 rv T_api_Fault.enc)) [] cf
def lorryref13_under_L1_C (Γ:Gam) (rv:List T_api_Fault) (word:ByteArray) (l:List T_api_Fault) (l1:List T_api_Fault) (i:Int):Prop:=lorryref13_under_G Γ rv ⟨[.c 116,.l 116,.b 0,.c 15],⟨40,[vS 0 word,vL 1 2 l T_api_Fault.enc,vO 5 0 2 l1 T_api_Fault.enc,vI 6 i],[oS 2 159 l1 T_api_Fault.enc]⟩⟩
def lorryref13_under_L1_D0 (Γ:Gam) (rv:List T_api_Fault) (word:ByteArray) (l:List T_api_Fault) (l2:List T_api_Fault):Prop:=lorryref13_under_G Γ rv ⟨[.c 15],⟨40,[vO 5 0 2 l2 T_api_Fault.enc],[oS 2 159 l2 T_api_Fault.enc]⟩⟩
theorem lorryref13_under_J1_ok (Γ:Gam) (rv:List T_api_Fault) {word l l1 i at_} {x:(List T_api_Fault × Int) ⊕ (List T_api_Fault)} (h:lorryref13_under_J1 word l l1 i at_ = some x) (hI:∀ s:List T_api_Fault × Int,x = .inl s→lorryref13_under_L1_C Γ rv word l s.1 s.2) (hE:∀ e:List T_api_Fault,x = .inr e→lorryref13_under_L1_D0 Γ rv word l e):lorryref13_under_G Γ rv ⟨[.c 3731,.b 1,.c 467,.l 116,.b 0,.c 15],⟨40,[vS 0 word,vL 1 2 l T_api_Fault.enc,vO 5 0 2 l1 T_api_Fault.enc,vI 6 i,vS 7 at_],[oS 2 159 l1 T_api_Fault.enc]⟩⟩:=by
 unfold lorryref13_under_J1 at h
 obtain ⟨x1,h5,h⟩:=bnd_elim h
 obtain ⟨h6,h⟩:=chk_elim h
 exact gn 4 [0,1,5,6] [2] [cE T_api_Fault.enc h5,oO (Eq.refl ([(T_api_Fault.mk x1.err at_)].map T_api_Fault.enc).length),aO T_api_Fault.enc h6] (hI _ (oJ h))
theorem lorryref13_under_L1_ok (Γ:Gam) (rv:List T_api_Fault) {word l} {s:List T_api_Fault × Int} {e:List T_api_Fault} (h:loopF (fun s=>lorryref13_under_L1 word l s.1 s.2) s = some e) (hD:lorryref13_under_L1_D0 Γ rv word l e):lorryref13_under_L1_C Γ rv word l s.1 s.2:=by
 refine loop_ind (C:=fun (s:List T_api_Fault × Int)=>lorryref13_under_L1_C Γ rv word l s.1 s.2) (D:=fun (e:List T_api_Fault)=>lorryref13_under_L1_D0 Γ rv word l e) ?_ h hD
 clear h hD s e
 rintro ⟨l1,i⟩ z_ h hI hE
 replace h:lorryref13_under_L1 word l l1 i = _:=h
 unfold lorryref13_under_L1 at h
 rcases br_elim h with ⟨h0,h⟩|⟨h0,h⟩
 ·obtain ⟨x0,h1,h⟩:=bnd_elim h
  rcases br_elim h with ⟨h2,h⟩|⟨h2,h⟩
  ·exact gn 14 [0,1,5,6,7] [0] [nL T_api_Fault.enc l,bT h0,cE T_api_Fault.enc h1,nF h2] (lorryref13_under_J1_ok Γ rv h hI hE)
  ·obtain ⟨h3,h⟩:=chk_elim h
   obtain ⟨h4,h⟩:=chk_elim h
   exact gn 14 [0,1,5,6,7] [0] [nL T_api_Fault.enc l,bT h0,cE T_api_Fault.enc h1,nT h2,oO (h3),cE T_api_Fault.enc h1,oO (h4)] (lorryref13_under_J1_ok Γ rv h hI hE)
 ·exact gn 5 [5] [0] [nL T_api_Fault.enc l,bF h0] (hE _ (oJ h))
theorem lorryref13_under_ok {word l} {rv:List T_api_Fault} (h:lorryref13_under word l = some rv):AFn Tryz.prog 67 [.one (.str word),.one (lL 2 l T_api_Fault.enc)] [] (one (lL 2 rv T_api_Fault.enc)) []:=by
 refine afn_of Tryz.func67 (by kernel_rfl) (by kernel_rfl) (fun Γ=>?_)
 unfold lorryref13_under at h
 obtain ⟨e0,h7,h⟩:=bnd_elim h
 refine gn 9 [0,1,5,6] [0] [hW 12,hH (.adopt 5 2 159)] (lorryref13_under_L1_ok Γ rv h7 ?_)
 obtain ⟨l2,rfl⟩:∃ x,x = e0:=⟨_,rfl⟩
 replace h:(some l2:Option (List T_api_Fault)) = some _:=h
 obtain rfl:=Option.some.inj h
 exact gr 2 [] [hW 4,hH (.frz 0),rp 3 (eL l2 T_api_Fault.enc)]
def lorryref01_Decimal_G (Γ:Gam) (rv:ByteArray) (cf:Cf):Prop:=Go Tryz.prog Tryz.f116 [] Γ (one (.str rv)) [] cf
def lorryref01_Decimal_L1_C (Γ:Gam) (rv:ByteArray) (n:Int) (s0:ByteArray) (left:Int) (again:Bool):Prop:=lorryref01_Decimal_G Γ rv ⟨[.c 244,.l 244,.b 0,.c 31],⟨31,[vI 0 n,vS 3 s0,vI 4 left,vB 5 again],[]⟩⟩
def lorryref01_Decimal_L1_D0 (Γ:Gam) (rv:ByteArray) (n:Int) (s1:ByteArray):Prop:=lorryref01_Decimal_G Γ rv ⟨[.c 31],⟨31,[vI 0 n,vS 3 s1],[]⟩⟩
theorem lorryref01_Decimal_J1_ok (Γ:Gam) (rv:ByteArray) {n s0 left d} {x:(ByteArray × Int × Bool) ⊕ (ByteArray)} (h:lorryref01_Decimal_J1 n s0 left d = some x) (hI:∀ s:ByteArray × Int × Bool,x = .inl s→lorryref01_Decimal_L1_C Γ rv n s.1 s.2.1 s.2.2) (hE:∀ e:ByteArray,x = .inr e→lorryref01_Decimal_L1_D0 Γ rv n e):lorryref01_Decimal_G Γ rv ⟨[.c 7827,.b 1,.c 979,.l 244,.b 0,.c 31],⟨31,[vI 0 n,vS 3 s0,vI 4 left,vI 6 d],[]⟩⟩:=by
 unfold lorryref01_Decimal_J1 at h
 obtain ⟨h2,h⟩:=chk_elim h
 exact gn 6 [0,3,4,5] [] [hH (.ints [(cvK .u8 (addK .i64 48 d))]),oO (Eq.refl ([(cvK .u8 (addK .i64 48 d))].map e_u8).length),oO (Eq.refl (([(cvK .u8 (addK .i64 48 d))].map e_u8):List (List Lf))),oO (h2),oO (oA (n:=10))] (hI _ (oJ h))
theorem lorryref01_Decimal_L1_ok (Γ:Gam) (rv:ByteArray) {n} {s:ByteArray × Int × Bool} {e:ByteArray} (h:loopF (fun s=>lorryref01_Decimal_L1 n s.1 s.2.1 s.2.2) s = some e) (hD:lorryref01_Decimal_L1_D0 Γ rv n e):lorryref01_Decimal_L1_C Γ rv n s.1 s.2.1 s.2.2:=by
 refine loop_ind (C:=fun (s:ByteArray × Int × Bool)=>lorryref01_Decimal_L1_C Γ rv n s.1 s.2.1 s.2.2) (D:=fun (e:ByteArray)=>lorryref01_Decimal_L1_D0 Γ rv n e) ?_ h hD
 clear h hD s e
 rintro ⟨s0,left,again⟩ z_ h hI hE
 replace h:lorryref01_Decimal_L1 n s0 left again = _:=h
 unfold lorryref01_Decimal_L1 at h
 rcases br_elim h with ⟨h0,h⟩|⟨h0,h⟩
 ·rcases br_elim h with ⟨h1,h⟩|⟨h1,h⟩
  ·exact gn 14 [0,3,4,6] [] [bT h0,oO (oA (n:=10)),bT h1] (lorryref01_Decimal_J1_ok Γ rv h hI hE)
  ·exact gn 14 [0,3,4,6] [] [bT h0,oO (oA (n:=10)),bF h1] (lorryref01_Decimal_J1_ok Γ rv h hI hE)
 ·exact gn 5 [0,3] [] [bF h0] (hE _ (oJ h))
theorem lorryref01_Decimal_ok {n} {rv:ByteArray} (h:lorryref01_Decimal n = some rv):AFn Tryz.prog 116 [.one (lI n)] [] (one (.str rv)) []:=by
 refine afn_of Tryz.func116 (by kernel_rfl) (by kernel_rfl) (fun Γ=>?_)
 unfold lorryref01_Decimal at h
 obtain ⟨e0,h3,h⟩:=bnd_elim h
 refine gn 11 [0,3,4,5] [] [] (lorryref01_Decimal_L1_ok Γ rv h3 ?_)
 obtain ⟨s1,rfl⟩:∃ x,x = e0:=⟨_,rfl⟩
 replace h:(br (ltI n 0) (chk (s___336d.size + s1.size ≤ 9223372036854775807) (some (catS s___336d s1))) (some s1):Option ByteArray) = some _:=h
 rcases br_elim h with ⟨h4,h⟩|⟨h4,h⟩
 ·obtain ⟨h5,h⟩:=chk_elim h
  obtain rfl:=Option.some.inj h
  exact gr 6 [] [bT h4,oO (h5)]
 ·obtain rfl:=Option.some.inj h
  exact gr 7 [] [bF h4]
theorem lorryref01_digit_ok {c} {rv:Bool} (h:lorryref01_digit c = some rv):AFn Tryz.prog 171 [.one (.int .u8 c)] [] (one (.bool rv)) []:=by
 refine afn_of Tryz.func171 (by kernel_rfl) (by kernel_rfl) (fun Γ=>?_)
 unfold lorryref01_digit at h
 obtain rfl:=Option.some.inj h
 exact gr 4 [] [hP,hP,hP,oI ((geI c 48) = true),oR True ((geI c 48) = true)]
theorem lorryref01_letter_ok {c} {rv:Bool} (h:lorryref01_letter c = some rv):AFn Tryz.prog 172 [.one (.int .u8 c)] [] (one (.bool rv)) []:=by
 refine afn_of Tryz.func172 (by kernel_rfl) (by kernel_rfl) (fun Γ=>?_)
 unfold lorryref01_letter at h
 obtain rfl:=Option.some.inj h
 exact gr 4 [] [rp 14 hP,oI ((geI c 97) = true),oR True ((geI c 97) = true),rp 2 (oI (((geI c 97) && (leI c 122)) = false)),oI ((((geI c 97) && (leI c 122)) = false)∧(geI c 65) = true),oI (((geI c 97) && (leI c 122)) = false),oI ((((geI c 97) && (leI c 122)) = false)∧(geI c 65) = true),oR True (((geI c 97) && (leI c 122)) = false),oI ((((geI c 97) && (leI c 122)) || ((geI c 65) && (leI c 90))) = false),oR True ((((geI c 97) && (leI c 122)) || ((geI c 65) && (leI c 90))) = false)]
def lorryref01_Name_G (Γ:Gam) (rv:Bool) (cf:Cf):Prop:=Go Tryz.prog Tryz.f151 [] Γ (one (.bool rv)) [] cf
def lorryref01_Name_L1_C (Γ:Gam) (rv:Bool) (s0:ByteArray) (b:UInt8) (i:Int):Prop:=lorryref01_Name_G Γ rv ⟨[.c 116,.l 116,.b 0,.c 15],⟨35,[vS 0 s0,vI 3 i],[]⟩⟩
def lorryref01_Name_L1_D0 (Γ:Gam) (rv:Bool) (s0:ByteArray) (b:UInt8):Prop:=lorryref01_Name_G Γ rv ⟨[.c 15],⟨35,[],[]⟩⟩
theorem lorryref01_Name_L1_ok (Γ:Gam) (rv:Bool) {s0 b} {s:Int} {e:(Unit) ⊕ (Bool)} (h:loopF (fun s=>lorryref01_Name_L1 s0 b s) s = some e) (hD:sel e (fun e=>lorryref01_Name_L1_D0 Γ rv s0 b) (fun e=>e = rv)):lorryref01_Name_L1_C Γ rv s0 b s:=by
 refine loop_ind (C:=fun (s:Int)=>lorryref01_Name_L1_C Γ rv s0 b s) (D:=fun (e:(Unit) ⊕ (Bool))=>sel e (fun e=>lorryref01_Name_L1_D0 Γ rv s0 b) (fun e=>e = rv)) ?_ h hD
 clear h hD s e
 intro i z_ h hI hE
 replace h:lorryref01_Name_L1 s0 b i = _:=h
 unfold lorryref01_Name_L1 at h
 rcases br_elim h with ⟨h4,h⟩|⟨h4,h⟩
 ·obtain ⟨b1,h5,h⟩:=bnd_elim h
  obtain ⟨r1,h6,h⟩:=bnd_elim h
  rcases br_elim h with ⟨h7,h⟩|⟨h7,h⟩
  ·exact gn 14 [0,3] [] [bT h4,yE h5,cC (lorryref01_letter_ok h6),rp 6 (nF h7),fF] (hI _ (oJ h))
  ·obtain ⟨r2,h8,h⟩:=bnd_elim h
   rcases br_elim h with ⟨h9,h⟩|⟨h9,h⟩
   ·exact gn 14 [0,3] [] [bT h4,yE h5,cC (lorryref01_letter_ok h6),rp 3 (nT h7),yE h5,nT h7,cC (lorryref01_digit_ok h8),nT h7,nT h7,nF h9] (hI _ (oJ h))
   ·obtain rfl:=(hE _ (oJ h):_ = rv)
    exact gr 12 [] [bT h4,yE h5,cC (lorryref01_letter_ok h6),rp 3 (nT h7),yE h5,nT h7,cC (lorryref01_digit_ok h8),nT h7,nT h7,nT h9]
 ·exact gn 5 [] [] [bF h4] (hE _ (oJ h))
theorem lorryref01_Name_ok {s0} {rv:Bool} (h:lorryref01_Name s0 = some rv):AFn Tryz.prog 151 [.one (.str s0)] [] (one (.bool rv)) []:=by
 refine afn_of Tryz.func151 (by kernel_rfl) (by kernel_rfl) (fun Γ=>?_)
 unfold lorryref01_Name at h
 rcases br_elim h with ⟨h0,h⟩|⟨h0,h⟩
 ·obtain rfl:=Option.some.inj h
  exact gr 8 [] [rp 4 hP,rp 2 (oI ((ltI (sizeS s0) 1) = false)),oR True ((ltI (sizeS s0) 1) = false),rp 4 (bT h0),tT]
 ·obtain ⟨b,h1,h⟩:=bnd_elim h
  obtain ⟨r,h2,h⟩:=bnd_elim h
  rcases br_elim h with ⟨h3,h⟩|⟨h3,h⟩
  ·obtain rfl:=Option.some.inj h
   exact gr 8 [] [rp 4 hP,rp 2 (oI ((ltI (sizeS s0) 1) = false)),oR True ((ltI (sizeS s0) 1) = false),bF h0,bF h0,yE h1,bF h0,cC (lorryref01_digit_ok h2),bF h0,bT h3]
  ·obtain ⟨e0,h10,h⟩:=bnd_elim h
   refine gn 12 [0,3] [] [rp 4 hP,rp 2 (oI ((ltI (sizeS s0) 1) = false)),oR True ((ltI (sizeS s0) 1) = false),bF h0,bF h0,yE h1,bF h0,cC (lorryref01_digit_ok h2),bF h0,bF h3] (lorryref01_Name_L1_ok Γ rv h10 ?_)
   rcases e0 with e0|e0
   ·replace h:(some true:Option Bool) = some _:=h
    obtain rfl:=Option.some.inj h
    exact gr 2 [] []
   ·obtain ⟨r3,rfl⟩:∃ x,x = e0:=⟨_,rfl⟩
    replace h:(some r3:Option Bool) = some _:=h
    exact Option.some.inj h
def lorryref07_Check_G (Γ:Gam) (rv:List T_api_Fault) (cf:Cf):Prop:=Go Tryz.prog Tryz.f152 [] Γ (one (lL 2 rv T_api_Fault.enc)) [] cf
def lorryref07_Check_L1_C (Γ:Gam) (rv:List T_api_Fault) (l:List T_api_Point) (l2:List T_api_Fault) (i:Int):Prop:=lorryref07_Check_G Γ rv ⟨[.c 244,.l 244,.b 0,.c 31],⟨88,[vL 0 2 l T_api_Point.enc,vO 3 0 2 l2 T_api_Fault.enc,vI 4 i],[oS 2 159 l2 T_api_Fault.enc]⟩⟩
def lorryref07_Check_L1_D0 (Γ:Gam) (rv:List T_api_Fault) (l:List T_api_Point) (l4:List T_api_Fault):Prop:=lorryref07_Check_G Γ rv ⟨[.c 31],⟨88,[vO 3 0 2 l4 T_api_Fault.enc],[oS 2 159 l4 T_api_Fault.enc]⟩⟩
theorem lorryref07_Check_J2_ok (Γ:Gam) (rv:List T_api_Fault) {l i x0 l3} {x:(List T_api_Fault × Int) ⊕ (List T_api_Fault)} (h:lorryref07_Check_J2 l i x0 l3 = some x) (hI:∀ s:List T_api_Fault × Int,x = .inl s→lorryref07_Check_L1_C Γ rv l s.1 s.2) (hE:∀ e:List T_api_Fault,x = .inr e→lorryref07_Check_L1_D0 Γ rv l e):lorryref07_Check_G Γ rv ⟨[.c 7827,.b 1,.c 979,.l 244,.b 0,.c 31],⟨88,[vL 0 2 l T_api_Point.enc,vO 3 0 2 l3 T_api_Fault.enc,vI 4 i,vP 5 1 2],[oS 2 159 l3 T_api_Fault.enc,oX 2 111 (T_api_Point.enc x0)]⟩⟩:=by
 unfold lorryref07_Check_J2 at h
 rcases br_elim h with ⟨h7,h⟩|⟨h7,h⟩
 ·obtain ⟨x1,h8,h⟩:=bnd_elim h
  rcases br_elim h with ⟨h9,h⟩|⟨h9,h⟩
  ·obtain ⟨r1,h10,h⟩:=bnd_elim h
   obtain ⟨h11,h⟩:=chk_elim h
   exact gn 7 [0,3,4] [3] [hH (.draw 24 []),rp 6 (bT h7),cE T_api_Point.enc h8,rp 4 (bT h7),rp 9 (bT h9),bT h7,bT h9,bT h7,tT,cC (lorryref01_Decimal_ok h10),oO (Eq.refl ([(T_api_Fault.mk 13 r1)].map T_api_Fault.enc).length),aO T_api_Fault.enc h11] (hI _ (oJ h))
  ·rcases br_elim h with ⟨h12,h⟩|⟨h12,h⟩
   ·obtain ⟨r2,h13,h⟩:=bnd_elim h
    obtain ⟨h14,h⟩:=chk_elim h
    exact gn 7 [0,3,4] [3] [hH (.draw 24 []),rp 6 (bT h7),cE T_api_Point.enc h8,rp 4 (bT h7),rp 6 (bF h9),cE T_api_Point.enc h8,rp 3 (bF h9),bT h7,bF h9,bT h7,bT h12,cC (lorryref01_Decimal_ok h13),oO (Eq.refl ([(T_api_Fault.mk 13 r2)].map T_api_Fault.enc).length),aO T_api_Fault.enc h14] (hI _ (oJ h))
   ·exact gn 7 [0,3,4] [0] [hH (.draw 24 []),rp 6 (bT h7),cE T_api_Point.enc h8,rp 4 (bT h7),rp 6 (bF h9),cE T_api_Point.enc h8,rp 3 (bF h9),bT h7,bF h9,bT h7,bF h12] (hI _ (oJ h))
 ·exact gn 7 [0,3,4] [0] [hH (.draw 24 []),rp 10 (bF h7),rp 9 kF,bF h7,bF h7,fF] (hI _ (oJ h))
theorem lorryref07_Check_L1_ok (Γ:Gam) (rv:List T_api_Fault) {l} {s:List T_api_Fault × Int} {e:List T_api_Fault} (h:loopF (fun s=>lorryref07_Check_L1 l s.1 s.2) s = some e) (hD:lorryref07_Check_L1_D0 Γ rv l e):lorryref07_Check_L1_C Γ rv l s.1 s.2:=by
 refine loop_ind (C:=fun (s:List T_api_Fault × Int)=>lorryref07_Check_L1_C Γ rv l s.1 s.2) (D:=fun (e:List T_api_Fault)=>lorryref07_Check_L1_D0 Γ rv l e) ?_ h hD
 clear h hD s e
 rintro ⟨l2,i⟩ z_ h hI hE
 replace h:lorryref07_Check_L1 l l2 i = _:=h
 unfold lorryref07_Check_L1 at h
 rcases br_elim h with ⟨h2,h⟩|⟨h2,h⟩
 ·obtain ⟨x0,h3,h⟩:=bnd_elim h
  rcases br_elim h with ⟨h4,h⟩|⟨h4,h⟩
  ·obtain ⟨r,h5,h⟩:=bnd_elim h
   obtain ⟨h6,h⟩:=chk_elim h
   exact gn 14 [0,3,4,5] [3,1] [nL T_api_Point.enc l,bT h2,cE T_api_Point.enc h3,rp 17 hP,rp 2 (oI ((ltI x0.t 0) = false)),oR True ((ltI x0.t 0) = false),rp 4 (oI (((ltI x0.t 0) || (gtI x0.t 4096)) = false)),oR True (((ltI x0.t 0) || (gtI x0.t 4096)) = false),rp 5 (oI ((((ltI x0.t 0) || (gtI x0.t 4096)) || (ltI x0.a x0.t)) = false)),oR True ((((ltI x0.t 0) || (gtI x0.t 4096)) || (ltI x0.a x0.t)) = false),bT h4,cC (lorryref01_Decimal_ok h5),oO (Eq.refl ([(T_api_Fault.mk 2 r)].map T_api_Fault.enc).length),aO T_api_Fault.enc h6] (lorryref07_Check_J2_ok Γ rv h hI hE)
  ·exact gn 14 [0,3,4,5] [0,1] [nL T_api_Point.enc l,bT h2,cE T_api_Point.enc h3,rp 17 hP,rp 2 (oI ((ltI x0.t 0) = false)),oR True ((ltI x0.t 0) = false),rp 4 (oI (((ltI x0.t 0) || (gtI x0.t 4096)) = false)),oR True (((ltI x0.t 0) || (gtI x0.t 4096)) = false),rp 5 (oI ((((ltI x0.t 0) || (gtI x0.t 4096)) || (ltI x0.a x0.t)) = false)),oR True ((((ltI x0.t 0) || (gtI x0.t 4096)) || (ltI x0.a x0.t)) = false),bF h4] (lorryref07_Check_J2_ok Γ rv h hI hE)
 ·exact gn 5 [3] [0] [nL T_api_Point.enc l,bF h2] (hE _ (oJ h))
theorem lorryref07_Check_J1_ok (Γ:Gam) (rv:List T_api_Fault) {l l1} (h:lorryref07_Check_J1 l l1 = some rv):lorryref07_Check_G Γ rv ⟨[.c 15],⟨88,[vL 0 2 l T_api_Point.enc,vO 3 0 2 l1 T_api_Fault.enc],[oS 2 159 l1 T_api_Fault.enc]⟩⟩:=by
 unfold lorryref07_Check_J1 at h
 obtain ⟨e0,h15,h⟩:=bnd_elim h
 refine gn 5 [0,3,4] [0] [] (lorryref07_Check_L1_ok Γ rv h15 ?_)
 obtain ⟨l4,rfl⟩:∃ x,x = e0:=⟨_,rfl⟩
 replace h:(some l4:Option (List T_api_Fault)) = some _:=h
 obtain rfl:=Option.some.inj h
 exact gr 2 [] [hW 4,hH (.frz 0),rp 3 (eL l4 T_api_Fault.enc)]
theorem lorryref07_Check_ok {l} {rv:List T_api_Fault} (h:lorryref07_Check l = some rv):AFn Tryz.prog 152 [.one (lL 2 l T_api_Point.enc)] [] (one (lL 2 rv T_api_Fault.enc)) []:=by
 refine afn_of Tryz.func152 (by kernel_rfl) (by kernel_rfl) (fun Γ=>?_)
 unfold lorryref07_Check at h
 rcases br_elim h with ⟨h0,h⟩|⟨h0,h⟩
 ·obtain ⟨h1,h⟩:=chk_elim h
  exact gn 9 [0,3] [1] [nL T_api_Point.enc l,hP,hP,oI ((ltI (lenI l) 1) = false),nL T_api_Point.enc l,hP,hP,oI ((ltI (lenI l) 1) = false),oR True ((ltI (lenI l) 1) = false),bT h0,oO (Eq.refl ([(T_api_Fault.mk 4 ByteArray.empty)].map T_api_Fault.enc).length),aN (l:=([(T_api_Fault.mk 4 ByteArray.empty)]:List T_api_Fault)) T_api_Fault.enc h1] (lorryref07_Check_J1_ok Γ rv h)
 ·exact gn 9 [0,3] [0] [nL T_api_Point.enc l,hP,hP,oI ((ltI (lenI l) 1) = false),nL T_api_Point.enc l,hP,hP,oI ((ltI (lenI l) 1) = false),oR True ((ltI (lenI l) 1) = false),bF h0,hW 1,hH (.adopt 3 2 159)] (lorryref07_Check_J1_ok Γ rv h)
theorem lorryref09_tick_ok {t} {rv:Bool} (h:lorryref09_tick t = some rv):AFn Tryz.prog 153 [.one (lI t)] [] (one (.bool rv)) []:=by
 refine afn_of Tryz.func153 (by kernel_rfl) (by kernel_rfl) (fun Γ=>?_)
 unfold lorryref09_tick at h
 obtain rfl:=Option.some.inj h
 exact gr 4 [] [hP,hP,hP,oI ((geI t 0) = true),oR True ((geI t 0) = true)]
def lorryref09_checkArc_G (Γ:Gam) (rv:List T_api_Fault) (cf:Cf):Prop:=Go Tryz.prog Tryz.f113 [] Γ (one (lL 2 rv T_api_Fault.enc)) [] cf
def lorryref09_checkArc_L1_C (Γ:Gam) (rv:List T_api_Fault) (n:T_api_Network) (i:Int) (r:ByteArray) (x0:T_api_Arc) (l:List T_api_Fault) (l1:List T_api_Fault) (twice:Bool) (k:Int):Prop:=lorryref09_checkArc_G Γ rv ⟨[.c 4084,.l 4084,.b 0,.c 511],⟨192,[vI 1 i,vP 2 0 2,vO 5 1 2 l1 T_api_Fault.enc,vS 6 (catS s_arc__976e r),vP 7 2 6,vB 8 twice,vI 9 k],[oX 2 25 (T_api_Network.enc n),oS 2 159 l1 T_api_Fault.enc,oX 6 114 (T_api_Arc.enc x0)]⟩⟩
def lorryref09_checkArc_L1_D0 (Γ:Gam) (rv:List T_api_Fault) (n:T_api_Network) (i:Int) (r:ByteArray) (x0:T_api_Arc) (l:List T_api_Fault) (l1:List T_api_Fault) (twice1:Bool):Prop:=lorryref09_checkArc_G Γ rv ⟨[.c 511],⟨192,[vO 5 0 2 l1 T_api_Fault.enc,vS 6 (catS s_arc__976e r),vP 7 1 6,vB 8 twice1],[oS 2 159 l1 T_api_Fault.enc,oX 6 114 (T_api_Arc.enc x0)]⟩⟩
def lorryref09_checkArc_L2_C (Γ:Gam) (rv:List T_api_Fault) (r:ByteArray) (x0:T_api_Arc) (l:List T_api_Fault) (r1:List T_api_Fault) (l3:List T_api_Fault) (k1:Int):Prop:=lorryref09_checkArc_G Γ rv ⟨[.c 32756,.l 32756,.b 2,.c 4095],⟨192,[vO 5 0 2 l3 T_api_Fault.enc,vS 6 (catS s_arc__976e r),vP 7 1 6,vL 11 2 r1 T_api_Fault.enc,vI 12 k1],[oS 2 159 l3 T_api_Fault.enc,oX 6 114 (T_api_Arc.enc x0)]⟩⟩
def lorryref09_checkArc_L2_D0 (Γ:Gam) (rv:List T_api_Fault) (r:ByteArray) (x0:T_api_Arc) (l:List T_api_Fault) (r1:List T_api_Fault) (l4:List T_api_Fault):Prop:=lorryref09_checkArc_G Γ rv ⟨[.c 4095],⟨192,[vO 5 0 2 l4 T_api_Fault.enc,vS 6 (catS s_arc__976e r),vP 7 1 6],[oS 2 159 l4 T_api_Fault.enc,oX 6 114 (T_api_Arc.enc x0)]⟩⟩
def lorryref09_checkArc_L3_C (Γ:Gam) (rv:List T_api_Fault) (r:ByteArray) (x0:T_api_Arc) (l:List T_api_Fault) (l6:List T_api_Fault) (k2:Int):Prop:=lorryref09_checkArc_G Γ rv ⟨[.c 131060,.l 131060,.b 4,.c 16383],⟨192,[vO 5 0 2 l6 T_api_Fault.enc,vS 6 (catS s_arc__976e r),vP 7 1 6,vI 13 k2],[oS 2 159 l6 T_api_Fault.enc,oX 6 114 (T_api_Arc.enc x0)]⟩⟩
def lorryref09_checkArc_L3_D0 (Γ:Gam) (rv:List T_api_Fault) (r:ByteArray) (x0:T_api_Arc) (l:List T_api_Fault) (l7:List T_api_Fault):Prop:=lorryref09_checkArc_G Γ rv ⟨[.c 16383],⟨192,[vO 5 0 2 l7 T_api_Fault.enc],[oS 2 159 l7 T_api_Fault.enc]⟩⟩
theorem lorryref09_checkArc_L1_ok (Γ:Gam) (rv:List T_api_Fault) {n i r x0 l l1} {s:Bool × Int} {e:Bool} (h:loopF (fun s=>lorryref09_checkArc_L1 n i r x0 l l1 s.1 s.2) s = some e) (hD:lorryref09_checkArc_L1_D0 Γ rv n i r x0 l l1 e):lorryref09_checkArc_L1_C Γ rv n i r x0 l l1 s.1 s.2:=by
 refine loop_ind (C:=fun (s:Bool × Int)=>lorryref09_checkArc_L1_C Γ rv n i r x0 l l1 s.1 s.2) (D:=fun (e:Bool)=>lorryref09_checkArc_L1_D0 Γ rv n i r x0 l l1 e) ?_ h hD
 clear h hD s e
 rintro ⟨twice,k⟩ z_ h hI hE
 replace h:lorryref09_checkArc_L1 n i r x0 l l1 twice k = _:=h
 unfold lorryref09_checkArc_L1 at h
 rcases br_elim h with ⟨h7,h⟩|⟨h7,h⟩
 ·obtain ⟨x1,h8,h⟩:=bnd_elim h
  exact gn 13 [1,2,5,6,7,8,9] [0,1,2] [bT h7,cE T_api_Arc.enc h8,rp 22 hP,rp 5 (oI (twice = false)),rp 4 (oI ((twice = false)∧(eqI x0.from_ x1.from_) = true)),oI (twice = false),oI ((twice = false)∧(eqI x0.from_ x1.from_) = true),oI (twice = false),rp 4 (oI ((twice = false)∧((eqI x0.from_ x1.from_) && (eqI x0.to_ x1.to_)) = true)),oI (twice = false),oI ((twice = false)∧((eqI x0.from_ x1.from_) && (eqI x0.to_ x1.to_)) = true),oR True (twice = false)] (hI _ (oJ h))
 ·exact gn 5 [5,6,7,8] [1,2] [bF h7] (hE _ (oJ h))
theorem lorryref09_checkArc_L2_ok (Γ:Gam) (rv:List T_api_Fault) {r x0 l r1} {s:List T_api_Fault × Int} {e:List T_api_Fault} (h:loopF (fun s=>lorryref09_checkArc_L2 r x0 l r1 s.1 s.2) s = some e) (hD:lorryref09_checkArc_L2_D0 Γ rv r x0 l r1 e):lorryref09_checkArc_L2_C Γ rv r x0 l r1 s.1 s.2:=by
 refine loop_ind (C:=fun (s:List T_api_Fault × Int)=>lorryref09_checkArc_L2_C Γ rv r x0 l r1 s.1 s.2) (D:=fun (e:List T_api_Fault)=>lorryref09_checkArc_L2_D0 Γ rv r x0 l r1 e) ?_ h hD
 clear h hD s e
 rintro ⟨l3,k1⟩ z_ h hI hE
 replace h:lorryref09_checkArc_L2 r x0 l r1 l3 k1 = _:=h
 unfold lorryref09_checkArc_L2 at h
 rcases br_elim h with ⟨h13,h⟩|⟨h13,h⟩
 ·obtain ⟨x2,h14,h⟩:=bnd_elim h
  obtain ⟨h15,h⟩:=chk_elim h
  exact gn 11 [5,6,7,11,12] [3,1] [nL T_api_Fault.enc r1,bT h13,cE T_api_Fault.enc h14,oO (Eq.refl ([(T_api_Fault.mk x2.err (catS s_arc__976e r))].map T_api_Fault.enc).length),aO T_api_Fault.enc h15] (hI _ (oJ h))
 ·exact gn 5 [5,6,7] [0,1] [nL T_api_Fault.enc r1,bF h13] (hE _ (oJ h))
theorem lorryref09_checkArc_L3_ok (Γ:Gam) (rv:List T_api_Fault) {r x0 l} {s:List T_api_Fault × Int} {e:List T_api_Fault} (h:loopF (fun s=>lorryref09_checkArc_L3 r x0 l s.1 s.2) s = some e) (hD:lorryref09_checkArc_L3_D0 Γ rv r x0 l e):lorryref09_checkArc_L3_C Γ rv r x0 l s.1 s.2:=by
 refine loop_ind (C:=fun (s:List T_api_Fault × Int)=>lorryref09_checkArc_L3_C Γ rv r x0 l s.1 s.2) (D:=fun (e:List T_api_Fault)=>lorryref09_checkArc_L3_D0 Γ rv r x0 l e) ?_ h hD
 clear h hD s e
 rintro ⟨l6,k2⟩ z_ h hI hE
 replace h:lorryref09_checkArc_L3 r x0 l l6 k2 = _:=h
 unfold lorryref09_checkArc_L3 at h
 rcases br_elim h with ⟨h19,h⟩|⟨h19,h⟩
 ·obtain ⟨x3,h20,h⟩:=bnd_elim h
  obtain ⟨r2,h21,h⟩:=bnd_elim h
  rcases br_elim h with ⟨h22,h⟩|⟨h22,h⟩
  ·obtain ⟨r3,h23,h⟩:=bnd_elim h
   rcases br_elim h with ⟨h24,h⟩|⟨h24,h⟩
   ·rcases br_elim h with ⟨h25,h⟩|⟨h25,h⟩
    ·obtain ⟨x4,h26,h⟩:=bnd_elim h
     rcases br_elim h with ⟨h27,h⟩|⟨h27,h⟩
     ·obtain ⟨h28,h⟩:=chk_elim h
      exact gn 16 [5,6,7,13] [4,1] [nL T_api_Point.enc x0.slow,bT h19,cE T_api_Point.enc h20,hH (.draw 26 []),cC (lorryref09_tick_ok h21),rp 3 (nF h22),cC (lorryref09_tick_ok h23),rp 2 (nF h22),rp 3 (nF h24),rp 7 (bT h25),cE T_api_Point.enc h26,rp 3 (bT h25),nF h24,bT h25,nF h24,bT h27,oO (Eq.refl ([(T_api_Fault.mk 2 (catS s_arc__976e r))].map T_api_Fault.enc).length),aO T_api_Fault.enc h28] (hI _ (oJ h))
     ·exact gn 16 [5,6,7,13] [0,1] [nL T_api_Point.enc x0.slow,bT h19,cE T_api_Point.enc h20,hH (.draw 26 []),cC (lorryref09_tick_ok h21),rp 3 (nF h22),cC (lorryref09_tick_ok h23),rp 2 (nF h22),rp 3 (nF h24),rp 7 (bT h25),cE T_api_Point.enc h26,rp 3 (bT h25),nF h24,bT h25,nF h24,bF h27] (hI _ (oJ h))
    ·exact gn 16 [5,6,7,13] [0,1] [nL T_api_Point.enc x0.slow,bT h19,cE T_api_Point.enc h20,hH (.draw 26 []),cC (lorryref09_tick_ok h21),rp 3 (nF h22),cC (lorryref09_tick_ok h23),rp 2 (nF h22),rp 3 (nF h24),rp 10 (bF h25),nF h24,bF h25,nF h24,fF] (hI _ (oJ h))
   ·obtain ⟨h29,h⟩:=chk_elim h
    exact gn 16 [5,6,7,13] [4,1] [nL T_api_Point.enc x0.slow,bT h19,cE T_api_Point.enc h20,hH (.draw 26 []),cC (lorryref09_tick_ok h21),rp 3 (nF h22),cC (lorryref09_tick_ok h23),rp 2 (nF h22),rp 3 (nT h24),rp 10 kF,rp 2 (nT h24),tT,oO (Eq.refl ([(T_api_Fault.mk 2 (catS s_arc__976e r))].map T_api_Fault.enc).length),aO T_api_Fault.enc h29] (hI _ (oJ h))
  ·obtain ⟨h30,h⟩:=chk_elim h
   exact gn 16 [5,6,7,13] [4,1] [nL T_api_Point.enc x0.slow,bT h19,cE T_api_Point.enc h20,hH (.draw 26 []),cC (lorryref09_tick_ok h21),rp 5 (nT h22),tT,tT,tT,rp 10 kF,tT,tT,tT,oO (Eq.refl ([(T_api_Fault.mk 2 (catS s_arc__976e r))].map T_api_Fault.enc).length),aO T_api_Fault.enc h30] (hI _ (oJ h))
 ·exact gn 5 [5] [0] [nL T_api_Point.enc x0.slow,bF h19] (hE _ (oJ h))
theorem lorryref09_checkArc_J4_ok (Γ:Gam) (rv:List T_api_Fault) {r x0 l l5} (h:lorryref09_checkArc_J4 r x0 l l5 = some rv):lorryref09_checkArc_G Γ rv ⟨[.c 8191],⟨192,[vO 5 0 2 l5 T_api_Fault.enc,vS 6 (catS s_arc__976e r),vP 7 1 6],[oS 2 159 l5 T_api_Fault.enc,oX 6 114 (T_api_Arc.enc x0)]⟩⟩:=by
 unfold lorryref09_checkArc_J4 at h
 obtain ⟨e2,h31,h⟩:=bnd_elim h
 refine gn 5 [5,6,7,13] [0,1] [] (lorryref09_checkArc_L3_ok Γ rv h31 ?_)
 obtain ⟨l7,rfl⟩:∃ x,x = e2:=⟨_,rfl⟩
 replace h:(some l7:Option (List T_api_Fault)) = some _:=h
 obtain rfl:=Option.some.inj h
 exact gr 2 [] [hW 4,hH (.frz 0),rp 3 (eL l7 T_api_Fault.enc)]
theorem lorryref09_checkArc_J3_ok (Γ:Gam) (rv:List T_api_Fault) {r x0 l l2} (h:lorryref09_checkArc_J3 r x0 l l2 = some rv):lorryref09_checkArc_G Γ rv ⟨[.c 1023],⟨192,[vO 5 0 2 l2 T_api_Fault.enc,vS 6 (catS s_arc__976e r),vP 7 1 6],[oS 2 159 l2 T_api_Fault.enc,oX 6 114 (T_api_Arc.enc x0)]⟩⟩:=by
 unfold lorryref09_checkArc_J3 at h
 obtain ⟨r1,h12,h⟩:=bnd_elim h
 obtain ⟨e1,h16,h⟩:=bnd_elim h
 refine gn 7 [5,6,7,11,12] [0,1] [cC (lorryref07_Check_ok h12)] (lorryref09_checkArc_L2_ok Γ rv h16 ?_)
 obtain ⟨l4,rfl⟩:∃ x,x = e1:=⟨_,rfl⟩
 replace h:(br (gtI (lenI x0.slow) 16) (chk (okN (l4 ++ [(T_api_Fault.mk 4 (catS s_arc__976e r))]).length 24) (lorryref09_checkArc_J4 r x0 l (l4 ++ [(T_api_Fault.mk 4 (catS s_arc__976e r))]))) (lorryref09_checkArc_J4 r x0 l l4):Option (List T_api_Fault)) = some _:=h
 rcases br_elim h with ⟨h17,h⟩|⟨h17,h⟩
 ·obtain ⟨h18,h⟩:=chk_elim h
  exact gn 5 [5,6,7] [3,1] [nL T_api_Point.enc x0.slow,bT h17,oO (Eq.refl ([(T_api_Fault.mk 4 (catS s_arc__976e r))].map T_api_Fault.enc).length),aO T_api_Fault.enc h18] (lorryref09_checkArc_J4_ok Γ rv h)
 ·exact gn 5 [5,6,7] [0,1] [nL T_api_Point.enc x0.slow,bF h17] (lorryref09_checkArc_J4_ok Γ rv h)
theorem lorryref09_checkArc_J2_ok (Γ:Gam) (rv:List T_api_Fault) {n i r x0 l l1} (h:lorryref09_checkArc_J2 n i r x0 l l1 = some rv):lorryref09_checkArc_G Γ rv ⟨[.c 127],⟨192,[vI 1 i,vP 2 0 2,vO 5 1 2 l1 T_api_Fault.enc,vS 6 (catS s_arc__976e r),vP 7 2 6],[oX 2 25 (T_api_Network.enc n),oS 2 159 l1 T_api_Fault.enc,oX 6 114 (T_api_Arc.enc x0)]⟩⟩:=by
 unfold lorryref09_checkArc_J2 at h
 obtain ⟨e0,h9,h⟩:=bnd_elim h
 refine gn 7 [1,2,5,6,7,8,9] [0,1,2] [] (lorryref09_checkArc_L1_ok Γ rv h9 ?_)
 obtain ⟨twice1,rfl⟩:∃ x,x = e0:=⟨_,rfl⟩
 replace h:(br twice1 (chk (okN (l1 ++ [(T_api_Fault.mk 6 (catS s_arc__976e r))]).length 24) (lorryref09_checkArc_J3 r x0 l (l1 ++ [(T_api_Fault.mk 6 (catS s_arc__976e r))]))) (lorryref09_checkArc_J3 r x0 l l1):Option (List T_api_Fault)) = some _:=h
 rcases br_elim h with ⟨h10,h⟩|⟨h10,h⟩
 ·obtain ⟨h11,h⟩:=chk_elim h
  exact gn 5 [5,6,7] [3,1] [bT h10,oO (Eq.refl ([(T_api_Fault.mk 6 (catS s_arc__976e r))].map T_api_Fault.enc).length),aO T_api_Fault.enc h11] (lorryref09_checkArc_J3_ok Γ rv h)
 ·exact gn 5 [5,6,7] [0,1] [bF h10] (lorryref09_checkArc_J3_ok Γ rv h)
theorem lorryref09_checkArc_J1_ok (Γ:Gam) (rv:List T_api_Fault) {n i r x0 l} (h:lorryref09_checkArc_J1 n i r x0 l = some rv):lorryref09_checkArc_G Γ rv ⟨[.c 63],⟨192,[vI 1 i,vP 2 0 2,vO 5 1 2 l T_api_Fault.enc,vS 6 (catS s_arc__976e r),vP 7 2 6],[oX 2 25 (T_api_Network.enc n),oS 2 159 l T_api_Fault.enc,oX 6 114 (T_api_Arc.enc x0)]⟩⟩:=by
 unfold lorryref09_checkArc_J1 at h
 rcases br_elim h with ⟨h5,h⟩|⟨h5,h⟩
 ·obtain ⟨h6,h⟩:=chk_elim h
  exact gn 5 [1,2,5,6,7] [0,4,2] [rp 18 hP,rp 2 (oI ((ltI x0.profile 0) = false)),oR True ((ltI x0.profile 0) = false),rp 2 (oI (((ltI x0.profile 0) || (gtI x0.profile 7)) = false)),oR True (((ltI x0.profile 0) || (gtI x0.profile 7)) = false),rp 2 (oI ((((ltI x0.profile 0) || (gtI x0.profile 7)) || (ltI x0.miles 0)) = false)),oR True ((((ltI x0.profile 0) || (gtI x0.profile 7)) || (ltI x0.miles 0)) = false),rp 4 (oI (((((ltI x0.profile 0) || (gtI x0.profile 7)) || (ltI x0.miles 0)) || (gtI x0.miles 10000)) = false)),oR True (((((ltI x0.profile 0) || (gtI x0.profile 7)) || (ltI x0.miles 0)) || (gtI x0.miles 10000)) = false),bT h5,oO (Eq.refl ([(T_api_Fault.mk 2 (catS s_arc__976e r))].map T_api_Fault.enc).length),aO T_api_Fault.enc h6] (lorryref09_checkArc_J2_ok Γ rv h)
 ·exact gn 5 [1,2,5,6,7] [0,1,2] [rp 18 hP,rp 2 (oI ((ltI x0.profile 0) = false)),oR True ((ltI x0.profile 0) = false),rp 2 (oI (((ltI x0.profile 0) || (gtI x0.profile 7)) = false)),oR True (((ltI x0.profile 0) || (gtI x0.profile 7)) = false),rp 2 (oI ((((ltI x0.profile 0) || (gtI x0.profile 7)) || (ltI x0.miles 0)) = false)),oR True ((((ltI x0.profile 0) || (gtI x0.profile 7)) || (ltI x0.miles 0)) = false),rp 4 (oI (((((ltI x0.profile 0) || (gtI x0.profile 7)) || (ltI x0.miles 0)) || (gtI x0.miles 10000)) = false)),oR True (((((ltI x0.profile 0) || (gtI x0.profile 7)) || (ltI x0.miles 0)) || (gtI x0.miles 10000)) = false),bF h5] (lorryref09_checkArc_J2_ok Γ rv h)
theorem lorryref09_checkArc_ok {n i} {rv:List T_api_Fault} (h:lorryref09_checkArc n i = some rv):AFn Tryz.prog 113 [.agg (T_api_Network.enc n),.one (lI i)] [] (one (lL 2 rv T_api_Fault.enc)) []:=by
 refine afn_of Tryz.func113 (by kernel_rfl) (by kernel_rfl) (fun Γ=>?_)
 unfold lorryref09_checkArc at h
 obtain ⟨r,h0,h⟩:=bnd_elim h
 obtain ⟨h1,h⟩:=chk_elim h
 obtain ⟨x0,h2,h⟩:=bnd_elim h
 rcases br_elim h with ⟨h3,h⟩|⟨h3,h⟩
 ·obtain ⟨h4,h⟩:=chk_elim h
  exact gn 13 [1,2,5,6,7] [0,3,1] [cC (lorryref01_Decimal_ok h0),oO (h1),cE T_api_Arc.enc h2,rp 5 hP,rp 3 (oI ((ltI x0.from_ 0) = false)),nL e_str n.places,rp 11 hP,rp 2 (oI ((ltI x0.from_ 0) = false)),oR True ((ltI x0.from_ 0) = false),rp 2 (oI (((ltI x0.from_ 0) || (geI x0.from_ (lenI n.places))) = false)),oR True (((ltI x0.from_ 0) || (geI x0.from_ (lenI n.places))) = false),rp 3 (oI ((((ltI x0.from_ 0) || (geI x0.from_ (lenI n.places))) || (ltI x0.to_ 0)) = false)),nL e_str n.places,hP,hP,rp 2 (oI ((((ltI x0.from_ 0) || (geI x0.from_ (lenI n.places))) || (ltI x0.to_ 0)) = false)),oR True ((((ltI x0.from_ 0) || (geI x0.from_ (lenI n.places))) || (ltI x0.to_ 0)) = false),bT h3,oO (Eq.refl ([(T_api_Fault.mk 11 (catS s_arc__976e r))].map T_api_Fault.enc).length),aN (l:=([(T_api_Fault.mk 11 (catS s_arc__976e r))]:List T_api_Fault)) T_api_Fault.enc h4] (lorryref09_checkArc_J1_ok Γ rv h)
 ·exact gn 13 [1,2,5,6,7] [0,2,1] [cC (lorryref01_Decimal_ok h0),oO (h1),cE T_api_Arc.enc h2,rp 5 hP,rp 3 (oI ((ltI x0.from_ 0) = false)),nL e_str n.places,rp 11 hP,rp 2 (oI ((ltI x0.from_ 0) = false)),oR True ((ltI x0.from_ 0) = false),rp 2 (oI (((ltI x0.from_ 0) || (geI x0.from_ (lenI n.places))) = false)),oR True (((ltI x0.from_ 0) || (geI x0.from_ (lenI n.places))) = false),rp 3 (oI ((((ltI x0.from_ 0) || (geI x0.from_ (lenI n.places))) || (ltI x0.to_ 0)) = false)),nL e_str n.places,hP,hP,rp 2 (oI ((((ltI x0.from_ 0) || (geI x0.from_ (lenI n.places))) || (ltI x0.to_ 0)) = false)),oR True ((((ltI x0.from_ 0) || (geI x0.from_ (lenI n.places))) || (ltI x0.to_ 0)) = false),bF h3,hW 1,hH (.adopt 5 2 159)] (lorryref09_checkArc_J1_ok Γ rv h)
def lorryref09_checkPlaces_own_G (Γ:Gam) (rv:List T_api_Fault) (cf:Cf):Prop:=Go Tryz.prog Tryz.f112 [] Γ (one (lO 0 2 rv T_api_Fault.enc)) [oS 2 159 rv T_api_Fault.enc] cf
def lorryref09_checkPlaces_own_L2_C (Γ:Gam) (rv:List T_api_Fault) (n:T_api_Network) (l:List T_api_Fault) (l1:List T_api_Fault) (i:Int) (r:ByteArray) (twice:Bool) (k:Int):Prop:=lorryref09_checkPlaces_own_G Γ rv ⟨[.c 250484,.l 250484,.b 2,.c 31311,.b 1,.c 979,.l 244,.b 0,.c 31],⟨64,[vP 1 0 2,vO 3 1 2 l1 T_api_Fault.enc,vI 4 i,vS 5 (catS s_place__15f2 r),vB 6 twice,vI 7 k],[oX 2 25 (T_api_Network.enc n),oS 2 159 l1 T_api_Fault.enc]⟩⟩
def lorryref09_checkPlaces_own_L2_D0 (Γ:Gam) (rv:List T_api_Fault) (n:T_api_Network) (l:List T_api_Fault) (l1:List T_api_Fault) (i:Int) (r:ByteArray) (twice1:Bool):Prop:=lorryref09_checkPlaces_own_G Γ rv ⟨[.c 31311,.b 1,.c 979,.l 244,.b 0,.c 31],⟨64,[vP 1 0 2,vO 3 1 2 l1 T_api_Fault.enc,vI 4 i,vS 5 (catS s_place__15f2 r),vB 6 twice1],[oX 2 25 (T_api_Network.enc n),oS 2 159 l1 T_api_Fault.enc]⟩⟩
def lorryref09_checkPlaces_own_L1_C (Γ:Gam) (rv:List T_api_Fault) (n:T_api_Network) (l:List T_api_Fault) (l1:List T_api_Fault) (i:Int):Prop:=lorryref09_checkPlaces_own_G Γ rv ⟨[.c 244,.l 244,.b 0,.c 31],⟨64,[vP 1 0 2,vO 3 1 2 l1 T_api_Fault.enc,vI 4 i],[oX 2 25 (T_api_Network.enc n),oS 2 159 l1 T_api_Fault.enc]⟩⟩
def lorryref09_checkPlaces_own_L1_D0 (Γ:Gam) (rv:List T_api_Fault) (n:T_api_Network) (l:List T_api_Fault) (l2:List T_api_Fault):Prop:=lorryref09_checkPlaces_own_G Γ rv ⟨[.c 31],⟨64,[vO 3 0 2 l2 T_api_Fault.enc],[oS 2 159 l2 T_api_Fault.enc]⟩⟩
theorem lorryref09_checkPlaces_own_L2_ok (Γ:Gam) (rv:List T_api_Fault) {n l l1 i r} {s:Bool × Int} {e:Bool} (h:loopF (fun s=>lorryref09_checkPlaces_own_L2 n l l1 i r s.1 s.2) s = some e) (hD:lorryref09_checkPlaces_own_L2_D0 Γ rv n l l1 i r e):lorryref09_checkPlaces_own_L2_C Γ rv n l l1 i r s.1 s.2:=by
 refine loop_ind (C:=fun (s:Bool × Int)=>lorryref09_checkPlaces_own_L2_C Γ rv n l l1 i r s.1 s.2) (D:=fun (e:Bool)=>lorryref09_checkPlaces_own_L2_D0 Γ rv n l l1 i r e) ?_ h hD
 clear h hD s e
 rintro ⟨twice,k⟩ z_ h hI hE
 replace h:lorryref09_checkPlaces_own_L2 n l l1 i r twice k = _:=h
 unfold lorryref09_checkPlaces_own_L2 at h
 rcases br_elim h with ⟨h8,h⟩|⟨h8,h⟩
 ·rcases br_elim h with ⟨h9,h⟩|⟨h9,h⟩
  ·exact gn 11 [1,3,4,5,6,7] [0,1] [bT h8,hH (.draw 14 []),rp 12 (bT h9)] (hI _ (oJ h))
  ·obtain ⟨x1,h10,h⟩:=bnd_elim h
   obtain ⟨x2,h11,h⟩:=bnd_elim h
   exact gn 11 [1,3,4,5,6,7] [0,1] [bT h8,hH (.draw 14 []),rp 4 (bF h9),cE e_str h10,rp 5 (bF h9),cE e_str h11,rp 3 (bF h9)] (hI _ (oJ h))
 ·exact gn 5 [1,3,4,5,6] [0,1] [bF h8] (hE _ (oJ h))
theorem lorryref09_checkPlaces_own_L1_ok (Γ:Gam) (rv:List T_api_Fault) {n l} {s:List T_api_Fault × Int} {e:List T_api_Fault} (h:loopF (fun s=>lorryref09_checkPlaces_own_L1 n l s.1 s.2) s = some e) (hD:lorryref09_checkPlaces_own_L1_D0 Γ rv n l e):lorryref09_checkPlaces_own_L1_C Γ rv n l s.1 s.2:=by
 refine loop_ind (C:=fun (s:List T_api_Fault × Int)=>lorryref09_checkPlaces_own_L1_C Γ rv n l s.1 s.2) (D:=fun (e:List T_api_Fault)=>lorryref09_checkPlaces_own_L1_D0 Γ rv n l e) ?_ h hD
 clear h hD s e
 rintro ⟨l1,i⟩ z_ h hI hE
 replace h:lorryref09_checkPlaces_own_L1 n l l1 i = _:=h
 unfold lorryref09_checkPlaces_own_L1 at h
 rcases br_elim h with ⟨h2,h⟩|⟨h2,h⟩
 ·obtain ⟨r,h3,h⟩:=bnd_elim h
  obtain ⟨h4,h⟩:=chk_elim h
  obtain ⟨x0,h5,h⟩:=bnd_elim h
  obtain ⟨r1,h6,h⟩:=bnd_elim h
  rcases br_elim h with ⟨h7,h⟩|⟨h7,h⟩
  ·obtain ⟨e0,h12,h⟩:=bnd_elim h
   refine gn 21 [1,3,4,5,6,7] [0,1] [nL e_str n.places,bT h2,cC (lorryref01_Decimal_ok h3),oO (h4),cE e_str h5,cC (lorryref01_Name_ok h6),nF h7] (lorryref09_checkPlaces_own_L2_ok Γ rv h12 ?_)
   obtain ⟨twice1,rfl⟩:∃ x,x = e0:=⟨_,rfl⟩
   replace h:(br twice1 (chk (okN (l1 ++ [(T_api_Fault.mk 6 (catS s_place__15f2 r))]).length 24) (some (.inl ((l1 ++ [(T_api_Fault.mk 6 (catS s_place__15f2 r))]),(addK .i64 i 1))))) (some (.inl (l1,(addK .i64 i 1)))):Option ((List T_api_Fault × Int) ⊕ (List T_api_Fault))) = some _:=h
   rcases br_elim h with ⟨h13,h⟩|⟨h13,h⟩
   ·obtain ⟨h14,h⟩:=chk_elim h
    exact gn 7 [1,3,4] [0,3] [bT h13,oO (Eq.refl ([(T_api_Fault.mk 6 (catS s_place__15f2 r))].map T_api_Fault.enc).length),aO T_api_Fault.enc h14] (hI _ (oJ h))
   ·exact gn 7 [1,3,4] [0,1] [bF h13] (hI _ (oJ h))
  ·obtain ⟨h15,h⟩:=chk_elim h
   exact gn 18 [1,3,4] [0,3] [nL e_str n.places,bT h2,cC (lorryref01_Decimal_ok h3),oO (h4),cE e_str h5,cC (lorryref01_Name_ok h6),nT h7,oO (Eq.refl ([(T_api_Fault.mk 5 (catS s_place__15f2 r))].map T_api_Fault.enc).length),aO T_api_Fault.enc h15] (hI _ (oJ h))
 ·exact gn 5 [3] [1] [nL e_str n.places,bF h2] (hE _ (oJ h))
theorem lorryref09_checkPlaces_own_J1_ok (Γ:Gam) (rv:List T_api_Fault) {n l} (h:lorryref09_checkPlaces_own_J1 n l = some rv):lorryref09_checkPlaces_own_G Γ rv ⟨[.c 15],⟨64,[vP 1 0 2,vO 3 1 2 l T_api_Fault.enc],[oX 2 25 (T_api_Network.enc n),oS 2 159 l T_api_Fault.enc]⟩⟩:=by
 unfold lorryref09_checkPlaces_own_J1 at h
 obtain ⟨e1,h16,h⟩:=bnd_elim h
 refine gn 5 [1,3,4] [0,1] [] (lorryref09_checkPlaces_own_L1_ok Γ rv h16 ?_)
 obtain ⟨l2,rfl⟩:∃ x,x = e1:=⟨_,rfl⟩
 replace h:(some l2:Option (List T_api_Fault)) = some _:=h
 obtain rfl:=Option.some.inj h
 exact gr 2 [0] []
theorem lorryref09_checkPlaces_own_ok {n} {rv:List T_api_Fault} (h:lorryref09_checkPlaces_own n = some rv):AFn Tryz.prog 112 [.agg (T_api_Network.enc n)] [] (one (lO 0 2 rv T_api_Fault.enc)) [oS 2 159 rv T_api_Fault.enc]:=by
 refine afn_of Tryz.func112 (by kernel_rfl) (by kernel_rfl) (fun Γ=>?_)
 unfold lorryref09_checkPlaces_own at h
 rcases br_elim h with ⟨h0,h⟩|⟨h0,h⟩
 ·obtain ⟨h1,h⟩:=chk_elim h
  exact gn 9 [1,3] [0,2] [nL e_str n.places,bT h0,oO (Eq.refl ([(T_api_Fault.mk 4 s_places_ab7d)].map T_api_Fault.enc).length),aN (l:=([(T_api_Fault.mk 4 s_places_ab7d)]:List T_api_Fault)) T_api_Fault.enc h1] (lorryref09_checkPlaces_own_J1_ok Γ rv h)
 ·exact gn 9 [1,3] [0,1] [nL e_str n.places,bF h0,hW 1,hH (.adopt 3 2 159)] (lorryref09_checkPlaces_own_J1_ok Γ rv h)
def lorryref09_Check_G (Γ:Gam) (rv:List T_api_Fault) (cf:Cf):Prop:=Go Tryz.prog Tryz.f68 [] Γ (one (lL 2 rv T_api_Fault.enc)) [] cf
def lorryref09_Check_L1_C (Γ:Gam) (rv:List T_api_Fault) (n:T_api_Network) (l:List T_api_Fault) (l1:List T_api_Fault) (i:Int):Prop:=lorryref09_Check_G Γ rv ⟨[.c 244,.l 244,.b 0,.c 31],⟨28,[vP 1 0 2,vO 3 1 2 l1 T_api_Fault.enc,vI 4 i],[oX 2 25 (T_api_Network.enc n),oS 2 159 l1 T_api_Fault.enc]⟩⟩
def lorryref09_Check_L1_D0 (Γ:Gam) (rv:List T_api_Fault) (n:T_api_Network) (l:List T_api_Fault) (l2:List T_api_Fault):Prop:=lorryref09_Check_G Γ rv ⟨[.c 31],⟨28,[vO 3 0 2 l2 T_api_Fault.enc],[oS 2 159 l2 T_api_Fault.enc]⟩⟩
theorem lorryref09_Check_L1_ok (Γ:Gam) (rv:List T_api_Fault) {n l} {s:List T_api_Fault × Int} {e:List T_api_Fault} (h:loopF (fun s=>lorryref09_Check_L1 n l s.1 s.2) s = some e) (hD:lorryref09_Check_L1_D0 Γ rv n l e):lorryref09_Check_L1_C Γ rv n l s.1 s.2:=by
 refine loop_ind (C:=fun (s:List T_api_Fault × Int)=>lorryref09_Check_L1_C Γ rv n l s.1 s.2) (D:=fun (e:List T_api_Fault)=>lorryref09_Check_L1_D0 Γ rv n l e) ?_ h hD
 clear h hD s e
 rintro ⟨l1,i⟩ z_ h hI hE
 replace h:lorryref09_Check_L1 n l l1 i = _:=h
 unfold lorryref09_Check_L1 at h
 rcases br_elim h with ⟨h3,h⟩|⟨h3,h⟩
 ·obtain ⟨r1,h4,h⟩:=bnd_elim h
  obtain ⟨h5,h⟩:=chk_elim h
  exact gn 11 [1,3,4] [0,2] [nL T_api_Arc.enc n.arcs,bT h3,cC (lorryref09_checkArc_ok h4),aO T_api_Fault.enc h5] (hI _ (oJ h))
 ·exact gn 5 [3] [1] [nL T_api_Arc.enc n.arcs,bF h3] (hE _ (oJ h))
theorem lorryref09_Check_J1_ok (Γ:Gam) (rv:List T_api_Fault) {n l} (h:lorryref09_Check_J1 n l = some rv):lorryref09_Check_G Γ rv ⟨[.c 15],⟨28,[vP 1 0 2,vO 3 1 2 l T_api_Fault.enc],[oX 2 25 (T_api_Network.enc n),oS 2 159 l T_api_Fault.enc]⟩⟩:=by
 unfold lorryref09_Check_J1 at h
 obtain ⟨e0,h6,h⟩:=bnd_elim h
 refine gn 5 [1,3,4] [0,1] [] (lorryref09_Check_L1_ok Γ rv h6 ?_)
 obtain ⟨l2,rfl⟩:∃ x,x = e0:=⟨_,rfl⟩
 replace h:(some l2:Option (List T_api_Fault)) = some _:=h
 obtain rfl:=Option.some.inj h
 exact gr 2 [] [hW 4,hH (.frz 0),rp 3 (eL l2 T_api_Fault.enc)]
theorem lorryref09_Check_ok {n} {rv:List T_api_Fault} (h:lorryref09_Check n = some rv):AFn Tryz.prog 68 [.agg (T_api_Network.enc n)] [] (one (lL 2 rv T_api_Fault.enc)) []:=by
 refine afn_of Tryz.func68 (by kernel_rfl) (by kernel_rfl) (fun Γ=>?_)
 unfold lorryref09_Check at h
 obtain ⟨r,h0,h⟩:=bnd_elim h
 rcases br_elim h with ⟨h1,h⟩|⟨h1,h⟩
 ·obtain ⟨h2,h⟩:=chk_elim h
  exact gn 9 [1,3] [0,3] [cC (lorryref09_checkPlaces_own_ok h0),nL T_api_Arc.enc n.arcs,bT h1,oO (Eq.refl ([(T_api_Fault.mk 4 s_arcs_f8d5)].map T_api_Fault.enc).length),aO T_api_Fault.enc h2] (lorryref09_Check_J1_ok Γ rv h)
 ·exact gn 9 [1,3] [0,1] [cC (lorryref09_checkPlaces_own_ok h0),nL T_api_Arc.enc n.arcs,bF h1] (lorryref09_Check_J1_ok Γ rv h)
theorem lorryref10_in_ok {n lo hi} {rv:Bool} (h:lorryref10_in n lo hi = some rv):AFn Tryz.prog 114 [.one (lI n),.one (lI lo),.one (lI hi)] [] (one (.bool rv)) []:=by
 refine afn_of Tryz.func114 (by kernel_rfl) (by kernel_rfl) (fun Γ=>?_)
 unfold lorryref10_in at h
 obtain rfl:=Option.some.inj h
 exact gr 4 [] [rp 4 hP,rp 2 (oI ((geI n lo) = true)),oR True ((geI n lo) = true)]
theorem lorryref10_Dims_ok {l} {rv:Int} (h:lorryref10_Dims l = some rv):AFn Tryz.prog 71 [.one (lL 14 l T_api_Type.enc)] [] (one (lI rv)) []:=by
 refine afn_of Tryz.func71 (by kernel_rfl) (by kernel_rfl) (fun Γ=>?_)
 unfold lorryref10_Dims at h
 rcases br_elim h with ⟨h0,h⟩|⟨h0,h⟩
 ·obtain rfl:=Option.some.inj h
  exact gr 8 [] [nL T_api_Type.enc l,bT h0]
 ·obtain ⟨x0,h1,h⟩:=bnd_elim h
  obtain rfl:=Option.some.inj h
  exact gr 9 [] [nL T_api_Type.enc l,bF h0,cE T_api_Type.enc h1,nL e_i64 x0.cap]
def lorryref10_known_G (Γ:Gam) (rv:Bool) (cf:Cf):Prop:=Go Tryz.prog Tryz.f154 [] Γ (one (.bool rv)) [] cf
def lorryref10_known_L1_C (Γ:Gam) (rv:Bool) (l:List T_api_Type) (at_:Int) (name:ByteArray) (i:Int):Prop:=lorryref10_known_G Γ rv ⟨[.c 52,.l 52,.b 0,.c 7],⟨20,[vL 0 14 l T_api_Type.enc,vI 1 at_,vS 2 name,vI 7 i],[]⟩⟩
def lorryref10_known_L1_D0 (Γ:Gam) (rv:Bool) (l:List T_api_Type) (at_:Int) (name:ByteArray):Prop:=lorryref10_known_G Γ rv ⟨[.c 7],⟨20,[],[]⟩⟩
theorem lorryref10_known_L1_ok (Γ:Gam) (rv:Bool) {l at_ name} {s:Int} {e:(Unit) ⊕ (Bool)} (h:loopF (fun s=>lorryref10_known_L1 l at_ name s) s = some e) (hD:sel e (fun e=>lorryref10_known_L1_D0 Γ rv l at_ name) (fun e=>e = rv)):lorryref10_known_L1_C Γ rv l at_ name s:=by
 refine loop_ind (C:=fun (s:Int)=>lorryref10_known_L1_C Γ rv l at_ name s) (D:=fun (e:(Unit) ⊕ (Bool))=>sel e (fun e=>lorryref10_known_L1_D0 Γ rv l at_ name) (fun e=>e = rv)) ?_ h hD
 clear h hD s e
 intro i z_ h hI hE
 replace h:lorryref10_known_L1 l at_ name i = _:=h
 unfold lorryref10_known_L1 at h
 rcases br_elim h with ⟨h0,h⟩|⟨h0,h⟩
 ·obtain ⟨x0,h1,h⟩:=bnd_elim h
  rcases br_elim h with ⟨h2,h⟩|⟨h2,h⟩
  ·obtain rfl:=(hE _ (oJ h):_ = rv)
   exact gr 12 [] [bT h0,cE T_api_Type.enc h1,bT h2]
  ·exact gn 14 [0,1,2,7] [] [bT h0,cE T_api_Type.enc h1,bF h2] (hI _ (oJ h))
 ·exact gn 5 [] [] [bF h0] (hE _ (oJ h))
theorem lorryref10_known_ok {l at_ name} {rv:Bool} (h:lorryref10_known l at_ name = some rv):AFn Tryz.prog 154 [.one (lL 14 l T_api_Type.enc),.one (lI at_),.one (.str name)] [] (one (.bool rv)) []:=by
 refine afn_of Tryz.func154 (by kernel_rfl) (by kernel_rfl) (fun Γ=>?_)
 unfold lorryref10_known at h
 obtain ⟨e0,h3,h⟩:=bnd_elim h
 refine gn 7 [0,1,2,7] [] [] (lorryref10_known_L1_ok Γ rv h3 ?_)
 rcases e0 with e0|e0
 ·replace h:(some false:Option Bool) = some _:=h
  obtain rfl:=Option.some.inj h
  exact gr 2 [] []
 ·obtain ⟨r,rfl⟩:∃ x,x = e0:=⟨_,rfl⟩
  replace h:(some r:Option Bool) = some _:=h
  exact Option.some.inj h
def lorryref10_capacity_G (Γ:Gam) (rv:Bool) (cf:Cf):Prop:=Go Tryz.prog Tryz.f155 [] Γ (one (.bool rv)) [] cf
def lorryref10_capacity_L1_C (Γ:Gam) (rv:Bool) (l:List Int) (i:Int):Prop:=lorryref10_capacity_G Γ rv ⟨[.c 116,.l 116,.b 0,.c 15],⟨28,[vL 0 1 l e_i64,vI 5 i],[]⟩⟩
def lorryref10_capacity_L1_D0 (Γ:Gam) (rv:Bool) (l:List Int):Prop:=lorryref10_capacity_G Γ rv ⟨[.c 15],⟨28,[],[]⟩⟩
theorem lorryref10_capacity_L1_ok (Γ:Gam) (rv:Bool) {l} {s:Int} {e:(Unit) ⊕ (Bool)} (h:loopF (fun s=>lorryref10_capacity_L1 l s) s = some e) (hD:sel e (fun e=>lorryref10_capacity_L1_D0 Γ rv l) (fun e=>e = rv)):lorryref10_capacity_L1_C Γ rv l s:=by
 refine loop_ind (C:=fun (s:Int)=>lorryref10_capacity_L1_C Γ rv l s) (D:=fun (e:(Unit) ⊕ (Bool))=>sel e (fun e=>lorryref10_capacity_L1_D0 Γ rv l) (fun e=>e = rv)) ?_ h hD
 clear h hD s e
 intro i z_ h hI hE
 replace h:lorryref10_capacity_L1 l i = _:=h
 unfold lorryref10_capacity_L1 at h
 rcases br_elim h with ⟨h2,h⟩|⟨h2,h⟩
 ·obtain ⟨x0,h3,h⟩:=bnd_elim h
  obtain ⟨r1,h4,h⟩:=bnd_elim h
  rcases br_elim h with ⟨h5,h⟩|⟨h5,h⟩
  ·exact gn 14 [0,5] [] [nL e_i64 l,bT h2,cE e_i64 h3,cC (lorryref10_in_ok h4),nF h5] (hI _ (oJ h))
  ·obtain rfl:=(hE _ (oJ h):_ = rv)
   exact gr 12 [] [nL e_i64 l,bT h2,cE e_i64 h3,cC (lorryref10_in_ok h4),nT h5]
 ·exact gn 5 [] [] [nL e_i64 l,bF h2] (hE _ (oJ h))
theorem lorryref10_capacity_ok {l dims} {rv:Bool} (h:lorryref10_capacity l dims = some rv):AFn Tryz.prog 155 [.one (lL 1 l e_i64),.one (lI dims)] [] (one (.bool rv)) []:=by
 refine afn_of Tryz.func155 (by kernel_rfl) (by kernel_rfl) (fun Γ=>?_)
 unfold lorryref10_capacity at h
 obtain ⟨r,h0,h⟩:=bnd_elim h
 rcases br_elim h with ⟨h1,h⟩|⟨h1,h⟩
 ·obtain rfl:=Option.some.inj h
  exact gr 8 [] [nL e_i64 l,cC (lorryref10_in_ok h0),hP,hP,oI ((!r) = false),nL e_i64 l,hP,hP,hP,rp 2 (oI ((!r) = false)),oR True ((!r) = false),bT h1]
 ·obtain ⟨e0,h6,h⟩:=bnd_elim h
  refine gn 12 [0,5] [] [nL e_i64 l,cC (lorryref10_in_ok h0),hP,hP,oI ((!r) = false),nL e_i64 l,hP,hP,hP,rp 2 (oI ((!r) = false)),oR True ((!r) = false),bF h1] (lorryref10_capacity_L1_ok Γ rv h6 ?_)
  rcases e0 with e0|e0
  ·replace h:(some true:Option Bool) = some _:=h
   obtain rfl:=Option.some.inj h
   exact gr 2 [] []
  ·obtain ⟨r2,rfl⟩:∃ x,x = e0:=⟨_,rfl⟩
   replace h:(some r2:Option Bool) = some _:=h
   exact Option.some.inj h
def lorryref10_rules_G (Γ:Gam) (rv:List Int) (cf:Cf):Prop:=Go Tryz.prog Tryz.f115 [] Γ (one (lL 1 rv e_i64)) [] cf
theorem lorryref10_rules_J8_ok (Γ:Gam) (rv:List Int) {x0 l8} (h:lorryref10_rules_J8 x0 l8 = some rv):lorryref10_rules_G Γ rv ⟨[.c 4095],⟨125,[vP 7 0 14,vO 8 1 1 l8 e_i64],[oX 14 64 (T_api_Type.enc x0),oS 1 43 l8 e_i64]⟩⟩:=by
 unfold lorryref10_rules_J8 at h
 obtain ⟨r11,h30,h⟩:=bnd_elim h
 rcases br_elim h with ⟨h31,h⟩|⟨h31,h⟩
 ·obtain ⟨r12,h32,h⟩:=bnd_elim h
  rcases br_elim h with ⟨h33,h⟩|⟨h33,h⟩
  ·obtain ⟨r13,h34,h⟩:=bnd_elim h
   rcases br_elim h with ⟨h35,h⟩|⟨h35,h⟩
   ·obtain ⟨r14,h36,h⟩:=bnd_elim h
    rcases br_elim h with ⟨h37,h⟩|⟨h37,h⟩
    ·obtain rfl:=Option.some.inj h
     exact gr 7 [] [cC (lorryref10_in_ok h30),rp 3 (nF h31),cC (lorryref10_in_ok h32),rp 2 (nF h31),rp 3 (nF h33),cC (lorryref10_in_ok h34),rp 2 (nF h33),rp 3 (nF h35),cC (lorryref10_in_ok h36),rp 2 (nF h35),nF h37,hW 5,hH (.frz 1),rp 3 (eL l8 e_i64)]
    ·obtain ⟨h38,h⟩:=chk_elim h
     obtain rfl:=Option.some.inj h
     exact gr 7 [] [cC (lorryref10_in_ok h30),rp 3 (nF h31),cC (lorryref10_in_ok h32),rp 2 (nF h31),rp 3 (nF h33),cC (lorryref10_in_ok h34),rp 2 (nF h33),rp 3 (nF h35),cC (lorryref10_in_ok h36),rp 2 (nF h35),nT h37,oO (Eq.refl ([2].map e_i64).length),aO e_i64 h38,hW 5,hH (.frz 3),rp 4 (oO (Eq.refl ((l8 ++ [2]).map e_i64).length))]
   ·obtain ⟨h39,h⟩:=chk_elim h
    obtain rfl:=Option.some.inj h
    exact gr 7 [] [cC (lorryref10_in_ok h30),rp 3 (nF h31),cC (lorryref10_in_ok h32),rp 2 (nF h31),rp 3 (nF h33),cC (lorryref10_in_ok h34),rp 2 (nF h33),rp 5 (nT h35),tT,oO (Eq.refl ([2].map e_i64).length),aO e_i64 h39,hW 5,hH (.frz 3),rp 4 (oO (Eq.refl ((l8 ++ [2]).map e_i64).length))]
  ·obtain ⟨h40,h⟩:=chk_elim h
   obtain rfl:=Option.some.inj h
   exact gr 7 [] [cC (lorryref10_in_ok h30),rp 3 (nF h31),cC (lorryref10_in_ok h32),rp 2 (nF h31),rp 5 (nT h33),rp 6 tT,oO (Eq.refl ([2].map e_i64).length),aO e_i64 h40,hW 5,hH (.frz 3),rp 4 (oO (Eq.refl ((l8 ++ [2]).map e_i64).length))]
 ·obtain ⟨h41,h⟩:=chk_elim h
  obtain rfl:=Option.some.inj h
  exact gr 7 [] [cC (lorryref10_in_ok h30),rp 5 (nT h31),rp 11 tT,oO (Eq.refl ([2].map e_i64).length),aO e_i64 h41,hW 5,hH (.frz 3),rp 4 (oO (Eq.refl ((l8 ++ [2]).map e_i64).length))]
theorem lorryref10_rules_J7_ok (Γ:Gam) (rv:List Int) {x0 l7} (h:lorryref10_rules_J7 x0 l7 = some rv):lorryref10_rules_G Γ rv ⟨[.c 2047],⟨125,[vP 7 0 14,vO 8 1 1 l7 e_i64],[oX 14 64 (T_api_Type.enc x0),oS 1 43 l7 e_i64]⟩⟩:=by
 unfold lorryref10_rules_J7 at h
 obtain ⟨r9,h25,h⟩:=bnd_elim h
 rcases br_elim h with ⟨h26,h⟩|⟨h26,h⟩
 ·obtain ⟨r10,h27,h⟩:=bnd_elim h
  rcases br_elim h with ⟨h28,h⟩|⟨h28,h⟩
  ·exact gn 5 [7,8] [0,1] [cC (lorryref10_in_ok h25),rp 3 (nF h26),cC (lorryref10_in_ok h27),rp 2 (nF h26),nF h28] (lorryref10_rules_J8_ok Γ rv h)
  ·obtain ⟨h29,h⟩:=chk_elim h
   exact gn 5 [7,8] [0,3] [cC (lorryref10_in_ok h25),rp 3 (nF h26),cC (lorryref10_in_ok h27),rp 2 (nF h26),nT h28,oO (Eq.refl ([16].map e_i64).length),aO e_i64 h29] (lorryref10_rules_J8_ok Γ rv h)
 ·obtain ⟨h42,h⟩:=chk_elim h
  obtain ⟨r15,h43,h⟩:=bnd_elim h
  rcases br_elim h with ⟨h44,h⟩|⟨h44,h⟩
  ·obtain ⟨r16,h45,h⟩:=bnd_elim h
   rcases br_elim h with ⟨h46,h⟩|⟨h46,h⟩
   ·obtain ⟨r17,h47,h⟩:=bnd_elim h
    rcases br_elim h with ⟨h48,h⟩|⟨h48,h⟩
    ·obtain ⟨r18,h49,h⟩:=bnd_elim h
     rcases br_elim h with ⟨h50,h⟩|⟨h50,h⟩
     ·obtain rfl:=Option.some.inj h
      exact gr 12 [] [cC (lorryref10_in_ok h25),rp 5 (nT h26),tT,oO (Eq.refl ([16].map e_i64).length),aO e_i64 h42,cC (lorryref10_in_ok h43),rp 3 (nF h44),cC (lorryref10_in_ok h45),rp 2 (nF h44),rp 3 (nF h46),cC (lorryref10_in_ok h47),rp 2 (nF h46),rp 3 (nF h48),cC (lorryref10_in_ok h49),rp 2 (nF h48),nF h50,hW 5,hH (.frz 3),rp 4 (oO (Eq.refl ((l7 ++ [16]).map e_i64).length))]
     ·obtain ⟨h51,h⟩:=chk_elim h
      obtain rfl:=Option.some.inj h
      exact gr 12 [] [cC (lorryref10_in_ok h25),rp 5 (nT h26),tT,oO (Eq.refl ([16].map e_i64).length),aO e_i64 h42,cC (lorryref10_in_ok h43),rp 3 (nF h44),cC (lorryref10_in_ok h45),rp 2 (nF h44),rp 3 (nF h46),cC (lorryref10_in_ok h47),rp 2 (nF h46),rp 3 (nF h48),cC (lorryref10_in_ok h49),rp 2 (nF h48),nT h50,oO (Eq.refl ([2].map e_i64).length),aO e_i64 h51,hW 5,hH (.frz 5),rp 4 (oO (Eq.refl (((l7 ++ [16]) ++ [2]).map e_i64).length))]
    ·obtain ⟨h52,h⟩:=chk_elim h
     obtain rfl:=Option.some.inj h
     exact gr 12 [] [cC (lorryref10_in_ok h25),rp 5 (nT h26),tT,oO (Eq.refl ([16].map e_i64).length),aO e_i64 h42,cC (lorryref10_in_ok h43),rp 3 (nF h44),cC (lorryref10_in_ok h45),rp 2 (nF h44),rp 3 (nF h46),cC (lorryref10_in_ok h47),rp 2 (nF h46),rp 5 (nT h48),tT,oO (Eq.refl ([2].map e_i64).length),aO e_i64 h52,hW 5,hH (.frz 5),rp 4 (oO (Eq.refl (((l7 ++ [16]) ++ [2]).map e_i64).length))]
   ·obtain ⟨h53,h⟩:=chk_elim h
    obtain rfl:=Option.some.inj h
    exact gr 12 [] [cC (lorryref10_in_ok h25),rp 5 (nT h26),tT,oO (Eq.refl ([16].map e_i64).length),aO e_i64 h42,cC (lorryref10_in_ok h43),rp 3 (nF h44),cC (lorryref10_in_ok h45),rp 2 (nF h44),rp 5 (nT h46),rp 6 tT,oO (Eq.refl ([2].map e_i64).length),aO e_i64 h53,hW 5,hH (.frz 5),rp 4 (oO (Eq.refl (((l7 ++ [16]) ++ [2]).map e_i64).length))]
  ·obtain ⟨h54,h⟩:=chk_elim h
   obtain rfl:=Option.some.inj h
   exact gr 12 [] [cC (lorryref10_in_ok h25),rp 5 (nT h26),tT,oO (Eq.refl ([16].map e_i64).length),aO e_i64 h42,cC (lorryref10_in_ok h43),rp 5 (nT h44),rp 11 tT,oO (Eq.refl ([2].map e_i64).length),aO e_i64 h54,hW 5,hH (.frz 5),rp 4 (oO (Eq.refl (((l7 ++ [16]) ++ [2]).map e_i64).length))]
theorem lorryref10_rules_J6_ok (Γ:Gam) (rv:List Int) {x0 l6} (h:lorryref10_rules_J6 x0 l6 = some rv):lorryref10_rules_G Γ rv ⟨[.c 1023],⟨125,[vP 7 0 14,vO 8 1 1 l6 e_i64],[oX 14 64 (T_api_Type.enc x0),oS 1 43 l6 e_i64]⟩⟩:=by
 unfold lorryref10_rules_J6 at h
 obtain ⟨r8,h22,h⟩:=bnd_elim h
 rcases br_elim h with ⟨h23,h⟩|⟨h23,h⟩
 ·obtain ⟨h24,h⟩:=chk_elim h
  exact gn 5 [7,8] [0,3] [cC (lorryref10_in_ok h22),rp 4 hP,rp 2 (oI ((!r8) = false)),oR True ((!r8) = false),bT h23,oO (Eq.refl ([15].map e_i64).length),aO e_i64 h24] (lorryref10_rules_J7_ok Γ rv h)
 ·exact gn 5 [7,8] [0,1] [cC (lorryref10_in_ok h22),rp 4 hP,rp 2 (oI ((!r8) = false)),oR True ((!r8) = false),bF h23] (lorryref10_rules_J7_ok Γ rv h)
theorem lorryref10_rules_J5_ok (Γ:Gam) (rv:List Int) {x0 l5} (h:lorryref10_rules_J5 x0 l5 = some rv):lorryref10_rules_G Γ rv ⟨[.c 511],⟨125,[vP 7 0 14,vO 8 1 1 l5 e_i64],[oX 14 64 (T_api_Type.enc x0),oS 1 43 l5 e_i64]⟩⟩:=by
 unfold lorryref10_rules_J5 at h
 obtain ⟨r7,h19,h⟩:=bnd_elim h
 rcases br_elim h with ⟨h20,h⟩|⟨h20,h⟩
 ·exact gn 5 [7,8] [0,1] [cC (lorryref10_in_ok h19),nF h20] (lorryref10_rules_J6_ok Γ rv h)
 ·obtain ⟨h21,h⟩:=chk_elim h
  exact gn 5 [7,8] [0,3] [cC (lorryref10_in_ok h19),nT h20,oO (Eq.refl ([18].map e_i64).length),aO e_i64 h21] (lorryref10_rules_J6_ok Γ rv h)
theorem lorryref10_rules_J4_ok (Γ:Gam) (rv:List Int) {l x0 l4} (h:lorryref10_rules_J4 l x0 l4 = some rv):lorryref10_rules_G Γ rv ⟨[.c 255],⟨125,[vL 1 14 l T_api_Type.enc,vP 7 0 14,vO 8 1 1 l4 e_i64],[oX 14 64 (T_api_Type.enc x0),oS 1 43 l4 e_i64]⟩⟩:=by
 unfold lorryref10_rules_J4 at h
 obtain ⟨r5,h15,h⟩:=bnd_elim h
 obtain ⟨r6,h16,h⟩:=bnd_elim h
 rcases br_elim h with ⟨h17,h⟩|⟨h17,h⟩
 ·exact gn 5 [7,8] [0,1] [hH (.draw 6 []),cC (lorryref10_Dims_ok h15),cC (lorryref10_capacity_ok h16),nF h17] (lorryref10_rules_J5_ok Γ rv h)
 ·obtain ⟨h18,h⟩:=chk_elim h
  exact gn 5 [7,8] [0,3] [hH (.draw 6 []),cC (lorryref10_Dims_ok h15),cC (lorryref10_capacity_ok h16),nT h17,oO (Eq.refl ([17].map e_i64).length),aO e_i64 h18] (lorryref10_rules_J5_ok Γ rv h)
theorem lorryref10_rules_J12_ok (Γ:Gam) (rv:List Int) {x0 l12} (h:lorryref10_rules_J12 x0 l12 = some rv):lorryref10_rules_G Γ rv ⟨[.c 4095],⟨125,[vP 7 0 14,vO 8 1 1 l12 e_i64],[oX 14 64 (T_api_Type.enc x0),oS 1 43 l12 e_i64]⟩⟩:=by
 unfold lorryref10_rules_J12 at h
 obtain ⟨r25,h71,h⟩:=bnd_elim h
 rcases br_elim h with ⟨h72,h⟩|⟨h72,h⟩
 ·obtain ⟨r26,h73,h⟩:=bnd_elim h
  rcases br_elim h with ⟨h74,h⟩|⟨h74,h⟩
  ·obtain ⟨r27,h75,h⟩:=bnd_elim h
   rcases br_elim h with ⟨h76,h⟩|⟨h76,h⟩
   ·obtain ⟨r28,h77,h⟩:=bnd_elim h
    rcases br_elim h with ⟨h78,h⟩|⟨h78,h⟩
    ·obtain rfl:=Option.some.inj h
     exact gr 7 [] [cC (lorryref10_in_ok h71),rp 3 (nF h72),cC (lorryref10_in_ok h73),rp 2 (nF h72),rp 3 (nF h74),cC (lorryref10_in_ok h75),rp 2 (nF h74),rp 3 (nF h76),cC (lorryref10_in_ok h77),rp 2 (nF h76),nF h78,hW 5,hH (.frz 1),rp 3 (eL l12 e_i64)]
    ·obtain ⟨h79,h⟩:=chk_elim h
     obtain rfl:=Option.some.inj h
     exact gr 7 [] [cC (lorryref10_in_ok h71),rp 3 (nF h72),cC (lorryref10_in_ok h73),rp 2 (nF h72),rp 3 (nF h74),cC (lorryref10_in_ok h75),rp 2 (nF h74),rp 3 (nF h76),cC (lorryref10_in_ok h77),rp 2 (nF h76),nT h78,oO (Eq.refl ([2].map e_i64).length),aO e_i64 h79,hW 5,hH (.frz 3),rp 4 (oO (Eq.refl ((l12 ++ [2]).map e_i64).length))]
   ·obtain ⟨h80,h⟩:=chk_elim h
    obtain rfl:=Option.some.inj h
    exact gr 7 [] [cC (lorryref10_in_ok h71),rp 3 (nF h72),cC (lorryref10_in_ok h73),rp 2 (nF h72),rp 3 (nF h74),cC (lorryref10_in_ok h75),rp 2 (nF h74),rp 5 (nT h76),tT,oO (Eq.refl ([2].map e_i64).length),aO e_i64 h80,hW 5,hH (.frz 3),rp 4 (oO (Eq.refl ((l12 ++ [2]).map e_i64).length))]
  ·obtain ⟨h81,h⟩:=chk_elim h
   obtain rfl:=Option.some.inj h
   exact gr 7 [] [cC (lorryref10_in_ok h71),rp 3 (nF h72),cC (lorryref10_in_ok h73),rp 2 (nF h72),rp 5 (nT h74),rp 6 tT,oO (Eq.refl ([2].map e_i64).length),aO e_i64 h81,hW 5,hH (.frz 3),rp 4 (oO (Eq.refl ((l12 ++ [2]).map e_i64).length))]
 ·obtain ⟨h82,h⟩:=chk_elim h
  obtain rfl:=Option.some.inj h
  exact gr 7 [] [cC (lorryref10_in_ok h71),rp 5 (nT h72),rp 11 tT,oO (Eq.refl ([2].map e_i64).length),aO e_i64 h82,hW 5,hH (.frz 3),rp 4 (oO (Eq.refl ((l12 ++ [2]).map e_i64).length))]
theorem lorryref10_rules_J11_ok (Γ:Gam) (rv:List Int) {x0 l11} (h:lorryref10_rules_J11 x0 l11 = some rv):lorryref10_rules_G Γ rv ⟨[.c 2047],⟨125,[vP 7 0 14,vO 8 1 1 l11 e_i64],[oX 14 64 (T_api_Type.enc x0),oS 1 43 l11 e_i64]⟩⟩:=by
 unfold lorryref10_rules_J11 at h
 obtain ⟨r23,h66,h⟩:=bnd_elim h
 rcases br_elim h with ⟨h67,h⟩|⟨h67,h⟩
 ·obtain ⟨r24,h68,h⟩:=bnd_elim h
  rcases br_elim h with ⟨h69,h⟩|⟨h69,h⟩
  ·exact gn 5 [7,8] [0,1] [cC (lorryref10_in_ok h66),rp 3 (nF h67),cC (lorryref10_in_ok h68),rp 2 (nF h67),nF h69] (lorryref10_rules_J12_ok Γ rv h)
  ·obtain ⟨h70,h⟩:=chk_elim h
   exact gn 5 [7,8] [0,3] [cC (lorryref10_in_ok h66),rp 3 (nF h67),cC (lorryref10_in_ok h68),rp 2 (nF h67),nT h69,oO (Eq.refl ([16].map e_i64).length),aO e_i64 h70] (lorryref10_rules_J12_ok Γ rv h)
 ·obtain ⟨h83,h⟩:=chk_elim h
  obtain ⟨r29,h84,h⟩:=bnd_elim h
  rcases br_elim h with ⟨h85,h⟩|⟨h85,h⟩
  ·obtain ⟨r30,h86,h⟩:=bnd_elim h
   rcases br_elim h with ⟨h87,h⟩|⟨h87,h⟩
   ·obtain ⟨r31,h88,h⟩:=bnd_elim h
    rcases br_elim h with ⟨h89,h⟩|⟨h89,h⟩
    ·obtain ⟨r32,h90,h⟩:=bnd_elim h
     rcases br_elim h with ⟨h91,h⟩|⟨h91,h⟩
     ·obtain rfl:=Option.some.inj h
      exact gr 12 [] [cC (lorryref10_in_ok h66),rp 5 (nT h67),tT,oO (Eq.refl ([16].map e_i64).length),aO e_i64 h83,cC (lorryref10_in_ok h84),rp 3 (nF h85),cC (lorryref10_in_ok h86),rp 2 (nF h85),rp 3 (nF h87),cC (lorryref10_in_ok h88),rp 2 (nF h87),rp 3 (nF h89),cC (lorryref10_in_ok h90),rp 2 (nF h89),nF h91,hW 5,hH (.frz 3),rp 4 (oO (Eq.refl ((l11 ++ [16]).map e_i64).length))]
     ·obtain ⟨h92,h⟩:=chk_elim h
      obtain rfl:=Option.some.inj h
      exact gr 12 [] [cC (lorryref10_in_ok h66),rp 5 (nT h67),tT,oO (Eq.refl ([16].map e_i64).length),aO e_i64 h83,cC (lorryref10_in_ok h84),rp 3 (nF h85),cC (lorryref10_in_ok h86),rp 2 (nF h85),rp 3 (nF h87),cC (lorryref10_in_ok h88),rp 2 (nF h87),rp 3 (nF h89),cC (lorryref10_in_ok h90),rp 2 (nF h89),nT h91,oO (Eq.refl ([2].map e_i64).length),aO e_i64 h92,hW 5,hH (.frz 5),rp 4 (oO (Eq.refl (((l11 ++ [16]) ++ [2]).map e_i64).length))]
    ·obtain ⟨h93,h⟩:=chk_elim h
     obtain rfl:=Option.some.inj h
     exact gr 12 [] [cC (lorryref10_in_ok h66),rp 5 (nT h67),tT,oO (Eq.refl ([16].map e_i64).length),aO e_i64 h83,cC (lorryref10_in_ok h84),rp 3 (nF h85),cC (lorryref10_in_ok h86),rp 2 (nF h85),rp 3 (nF h87),cC (lorryref10_in_ok h88),rp 2 (nF h87),rp 5 (nT h89),tT,oO (Eq.refl ([2].map e_i64).length),aO e_i64 h93,hW 5,hH (.frz 5),rp 4 (oO (Eq.refl (((l11 ++ [16]) ++ [2]).map e_i64).length))]
   ·obtain ⟨h94,h⟩:=chk_elim h
    obtain rfl:=Option.some.inj h
    exact gr 12 [] [cC (lorryref10_in_ok h66),rp 5 (nT h67),tT,oO (Eq.refl ([16].map e_i64).length),aO e_i64 h83,cC (lorryref10_in_ok h84),rp 3 (nF h85),cC (lorryref10_in_ok h86),rp 2 (nF h85),rp 5 (nT h87),rp 6 tT,oO (Eq.refl ([2].map e_i64).length),aO e_i64 h94,hW 5,hH (.frz 5),rp 4 (oO (Eq.refl (((l11 ++ [16]) ++ [2]).map e_i64).length))]
  ·obtain ⟨h95,h⟩:=chk_elim h
   obtain rfl:=Option.some.inj h
   exact gr 12 [] [cC (lorryref10_in_ok h66),rp 5 (nT h67),tT,oO (Eq.refl ([16].map e_i64).length),aO e_i64 h83,cC (lorryref10_in_ok h84),rp 5 (nT h85),rp 11 tT,oO (Eq.refl ([2].map e_i64).length),aO e_i64 h95,hW 5,hH (.frz 5),rp 4 (oO (Eq.refl (((l11 ++ [16]) ++ [2]).map e_i64).length))]
theorem lorryref10_rules_J10_ok (Γ:Gam) (rv:List Int) {x0 l10} (h:lorryref10_rules_J10 x0 l10 = some rv):lorryref10_rules_G Γ rv ⟨[.c 1023],⟨125,[vP 7 0 14,vO 8 1 1 l10 e_i64],[oX 14 64 (T_api_Type.enc x0),oS 1 43 l10 e_i64]⟩⟩:=by
 unfold lorryref10_rules_J10 at h
 obtain ⟨r22,h63,h⟩:=bnd_elim h
 rcases br_elim h with ⟨h64,h⟩|⟨h64,h⟩
 ·obtain ⟨h65,h⟩:=chk_elim h
  exact gn 5 [7,8] [0,3] [cC (lorryref10_in_ok h63),rp 4 hP,rp 2 (oI ((!r22) = false)),oR True ((!r22) = false),bT h64,oO (Eq.refl ([15].map e_i64).length),aO e_i64 h65] (lorryref10_rules_J11_ok Γ rv h)
 ·exact gn 5 [7,8] [0,1] [cC (lorryref10_in_ok h63),rp 4 hP,rp 2 (oI ((!r22) = false)),oR True ((!r22) = false),bF h64] (lorryref10_rules_J11_ok Γ rv h)
theorem lorryref10_rules_J9_ok (Γ:Gam) (rv:List Int) {x0 l9} (h:lorryref10_rules_J9 x0 l9 = some rv):lorryref10_rules_G Γ rv ⟨[.c 511],⟨125,[vP 7 0 14,vO 8 1 1 l9 e_i64],[oX 14 64 (T_api_Type.enc x0),oS 1 43 l9 e_i64]⟩⟩:=by
 unfold lorryref10_rules_J9 at h
 obtain ⟨r21,h60,h⟩:=bnd_elim h
 rcases br_elim h with ⟨h61,h⟩|⟨h61,h⟩
 ·exact gn 5 [7,8] [0,1] [cC (lorryref10_in_ok h60),nF h61] (lorryref10_rules_J10_ok Γ rv h)
 ·obtain ⟨h62,h⟩:=chk_elim h
  exact gn 5 [7,8] [0,3] [cC (lorryref10_in_ok h60),nT h61,oO (Eq.refl ([18].map e_i64).length),aO e_i64 h62] (lorryref10_rules_J10_ok Γ rv h)
theorem lorryref10_rules_J3_ok (Γ:Gam) (rv:List Int) {n l x0 l3} (h:lorryref10_rules_J3 n l x0 l3 = some rv):lorryref10_rules_G Γ rv ⟨[.c 127],⟨125,[vL 1 14 l T_api_Type.enc,vP 3 0 2,vP 7 1 14,vO 8 2 1 l3 e_i64],[oX 2 25 (T_api_Network.enc n),oX 14 64 (T_api_Type.enc x0),oS 1 43 l3 e_i64]⟩⟩:=by
 unfold lorryref10_rules_J3 at h
 obtain ⟨r3,h10,h⟩:=bnd_elim h
 rcases br_elim h with ⟨h11,h⟩|⟨h11,h⟩
 ·obtain ⟨r4,h12,h⟩:=bnd_elim h
  rcases br_elim h with ⟨h13,h⟩|⟨h13,h⟩
  ·exact gn 5 [1,7,8] [1,2] [nL e_str n.places,cC (lorryref10_in_ok h10),rp 5 (nF h11),nL e_str n.places,rp 2 (nF h11),cC (lorryref10_in_ok h12),rp 2 (nF h11),nF h13] (lorryref10_rules_J4_ok Γ rv h)
  ·obtain ⟨h14,h⟩:=chk_elim h
   exact gn 5 [1,7,8] [1,4] [nL e_str n.places,cC (lorryref10_in_ok h10),rp 5 (nF h11),nL e_str n.places,rp 2 (nF h11),cC (lorryref10_in_ok h12),rp 2 (nF h11),nT h13,oO (Eq.refl ([11].map e_i64).length),aO e_i64 h14] (lorryref10_rules_J4_ok Γ rv h)
 ·obtain ⟨h55,h⟩:=chk_elim h
  obtain ⟨r19,h56,h⟩:=bnd_elim h
  obtain ⟨r20,h57,h⟩:=bnd_elim h
  rcases br_elim h with ⟨h58,h⟩|⟨h58,h⟩
  ·exact gn 10 [7,8] [1,4] [nL e_str n.places,cC (lorryref10_in_ok h10),rp 9 (nT h11),tT,oO (Eq.refl ([11].map e_i64).length),aO e_i64 h55,hH (.draw 6 []),cC (lorryref10_Dims_ok h56),cC (lorryref10_capacity_ok h57),nF h58] (lorryref10_rules_J9_ok Γ rv h)
  ·obtain ⟨h59,h⟩:=chk_elim h
   exact gn 10 [7,8] [1,6] [nL e_str n.places,cC (lorryref10_in_ok h10),rp 9 (nT h11),tT,oO (Eq.refl ([11].map e_i64).length),aO e_i64 h55,hH (.draw 6 []),cC (lorryref10_Dims_ok h56),cC (lorryref10_capacity_ok h57),nT h58,oO (Eq.refl ([17].map e_i64).length),aO e_i64 h59] (lorryref10_rules_J9_ok Γ rv h)
theorem lorryref10_rules_J2_ok (Γ:Gam) (rv:List Int) {n l x0 l2} (h:lorryref10_rules_J2 n l x0 l2 = some rv):lorryref10_rules_G Γ rv ⟨[.c 63],⟨125,[vL 1 14 l T_api_Type.enc,vP 3 0 2,vP 7 1 14,vO 8 2 1 l2 e_i64],[oX 2 25 (T_api_Network.enc n),oX 14 64 (T_api_Type.enc x0),oS 1 43 l2 e_i64]⟩⟩:=by
 unfold lorryref10_rules_J2 at h
 obtain ⟨r2,h7,h⟩:=bnd_elim h
 rcases br_elim h with ⟨h8,h⟩|⟨h8,h⟩
 ·exact gn 5 [1,3,7,8] [0,1,2] [cC (lorryref10_in_ok h7),nF h8] (lorryref10_rules_J3_ok Γ rv h)
 ·obtain ⟨h9,h⟩:=chk_elim h
  exact gn 5 [1,3,7,8] [0,1,4] [cC (lorryref10_in_ok h7),nT h8,oO (Eq.refl ([22].map e_i64).length),aO e_i64 h9] (lorryref10_rules_J3_ok Γ rv h)
theorem lorryref10_rules_J1_ok (Γ:Gam) (rv:List Int) {n l at_ x0 l1} (h:lorryref10_rules_J1 n l at_ x0 l1 = some rv):lorryref10_rules_G Γ rv ⟨[.c 31],⟨125,[vL 1 14 l T_api_Type.enc,vI 2 at_,vP 3 0 2,vP 7 1 14,vO 8 2 1 l1 e_i64],[oX 2 25 (T_api_Network.enc n),oX 14 64 (T_api_Type.enc x0),oS 1 43 l1 e_i64]⟩⟩:=by
 unfold lorryref10_rules_J1 at h
 obtain ⟨r1,h4,h⟩:=bnd_elim h
 rcases br_elim h with ⟨h5,h⟩|⟨h5,h⟩
 ·obtain ⟨h6,h⟩:=chk_elim h
  exact gn 5 [1,3,7,8] [0,1,4] [cC (lorryref10_known_ok h4),bT h5,oO (Eq.refl ([6].map e_i64).length),aO e_i64 h6] (lorryref10_rules_J2_ok Γ rv h)
 ·exact gn 5 [1,3,7,8] [0,1,2] [cC (lorryref10_known_ok h4),bF h5] (lorryref10_rules_J2_ok Γ rv h)
theorem lorryref10_rules_ok {n l at_} {rv:List Int} (h:lorryref10_rules n l at_ = some rv):AFn Tryz.prog 115 [.agg (T_api_Network.enc n),.one (lL 14 l T_api_Type.enc),.one (lI at_)] [] (one (lL 1 rv e_i64)) []:=by
 refine afn_of Tryz.func115 (by kernel_rfl) (by kernel_rfl) (fun Γ=>?_)
 unfold lorryref10_rules at h
 obtain ⟨x0,h0,h⟩:=bnd_elim h
 obtain ⟨r,h1,h⟩:=bnd_elim h
 rcases br_elim h with ⟨h2,h⟩|⟨h2,h⟩
 ·exact gn 11 [1,2,3,7,8] [0,1,2] [cE T_api_Type.enc h0,cC (lorryref01_Name_ok h1),nF h2,hW 1,hH (.adopt 8 1 43)] (lorryref10_rules_J1_ok Γ rv h)
 ·obtain ⟨h3,h⟩:=chk_elim h
  exact gn 11 [1,2,3,7,8] [0,1,3] [cE T_api_Type.enc h0,cC (lorryref01_Name_ok h1),nT h2,oO (Eq.refl ([5].map e_i64).length),aN (l:=([5]:List Int)) e_i64 h3] (lorryref10_rules_J1_ok Γ rv h)
def lorryref10_Check_G (Γ:Gam) (rv:List T_api_Fault) (cf:Cf):Prop:=Go Tryz.prog Tryz.f69 [] Γ (one (lL 2 rv T_api_Fault.enc)) [] cf
def lorryref10_Check_L2_C (Γ:Gam) (rv:List T_api_Fault) (n:T_api_Network) (l:List T_api_Type) (i:Int) (r1:List Int) (l3:List T_api_Fault) (k:Int):Prop:=lorryref10_Check_G Γ rv ⟨[.c 31308,.l 31308,.b 2,.b 1,.c 979,.l 244,.b 0,.c 31],⟨44,[vL 1 14 l T_api_Type.enc,vP 2 0 2,vO 5 1 2 l3 T_api_Fault.enc,vI 6 i,vL 7 1 r1 e_i64,vI 8 k],[oX 2 25 (T_api_Network.enc n),oS 2 159 l3 T_api_Fault.enc]⟩⟩
def lorryref10_Check_L2_D0 (Γ:Gam) (rv:List T_api_Fault) (n:T_api_Network) (l:List T_api_Type) (i:Int) (r1:List Int) (l4:List T_api_Fault):Prop:=lorryref10_Check_G Γ rv ⟨[.b 1,.c 979,.l 244,.b 0,.c 31],⟨44,[vL 1 14 l T_api_Type.enc,vP 2 0 2,vO 5 1 2 l4 T_api_Fault.enc,vI 6 i],[oX 2 25 (T_api_Network.enc n),oS 2 159 l4 T_api_Fault.enc]⟩⟩
def lorryref10_Check_L1_C (Γ:Gam) (rv:List T_api_Fault) (n:T_api_Network) (l:List T_api_Type) (l2:List T_api_Fault) (i:Int):Prop:=lorryref10_Check_G Γ rv ⟨[.c 244,.l 244,.b 0,.c 31],⟨44,[vL 1 14 l T_api_Type.enc,vP 2 0 2,vO 5 1 2 l2 T_api_Fault.enc,vI 6 i],[oX 2 25 (T_api_Network.enc n),oS 2 159 l2 T_api_Fault.enc]⟩⟩
def lorryref10_Check_L1_D0 (Γ:Gam) (rv:List T_api_Fault) (n:T_api_Network) (l:List T_api_Type) (l5:List T_api_Fault):Prop:=lorryref10_Check_G Γ rv ⟨[.c 31],⟨44,[vO 5 0 2 l5 T_api_Fault.enc],[oS 2 159 l5 T_api_Fault.enc]⟩⟩
theorem lorryref10_Check_L2_ok (Γ:Gam) (rv:List T_api_Fault) {n l i r1} {s:List T_api_Fault × Int} {e:List T_api_Fault} (h:loopF (fun s=>lorryref10_Check_L2 n l i r1 s.1 s.2) s = some e) (hD:lorryref10_Check_L2_D0 Γ rv n l i r1 e):lorryref10_Check_L2_C Γ rv n l i r1 s.1 s.2:=by
 refine loop_ind (C:=fun (s:List T_api_Fault × Int)=>lorryref10_Check_L2_C Γ rv n l i r1 s.1 s.2) (D:=fun (e:List T_api_Fault)=>lorryref10_Check_L2_D0 Γ rv n l i r1 e) ?_ h hD
 clear h hD s e
 rintro ⟨l3,k⟩ z_ h hI hE
 replace h:lorryref10_Check_L2 n l i r1 l3 k = _:=h
 unfold lorryref10_Check_L2 at h
 rcases br_elim h with ⟨h5,h⟩|⟨h5,h⟩
 ·obtain ⟨x0,h6,h⟩:=bnd_elim h
  obtain ⟨r2,h7,h⟩:=bnd_elim h
  obtain ⟨h8,h⟩:=chk_elim h
  exact gn 11 [1,2,5,6,7,8] [0,3] [nL e_i64 r1,bT h5,hH (.draw 9 []),cE e_i64 h6,cC (lorryref01_Decimal_ok h7),oO (Eq.refl ([(T_api_Fault.mk x0 r2)].map T_api_Fault.enc).length),aO T_api_Fault.enc h8] (hI _ (oJ h))
 ·exact gn 5 [1,2,5,6] [0,1] [nL e_i64 r1,bF h5] (hE _ (oJ h))
theorem lorryref10_Check_L1_ok (Γ:Gam) (rv:List T_api_Fault) {n l} {s:List T_api_Fault × Int} {e:List T_api_Fault} (h:loopF (fun s=>lorryref10_Check_L1 n l s.1 s.2) s = some e) (hD:lorryref10_Check_L1_D0 Γ rv n l e):lorryref10_Check_L1_C Γ rv n l s.1 s.2:=by
 refine loop_ind (C:=fun (s:List T_api_Fault × Int)=>lorryref10_Check_L1_C Γ rv n l s.1 s.2) (D:=fun (e:List T_api_Fault)=>lorryref10_Check_L1_D0 Γ rv n l e) ?_ h hD
 clear h hD s e
 rintro ⟨l2,i⟩ z_ h hI hE
 replace h:lorryref10_Check_L1 n l l2 i = _:=h
 unfold lorryref10_Check_L1 at h
 rcases br_elim h with ⟨h3,h⟩|⟨h3,h⟩
 ·obtain ⟨r1,h4,h⟩:=bnd_elim h
  obtain ⟨e0,h9,h⟩:=bnd_elim h
  refine gn 13 [1,2,5,6,7,8] [0,1] [nL T_api_Type.enc l,bT h3,cC (lorryref10_rules_ok h4)] (lorryref10_Check_L2_ok Γ rv h9 ?_)
  obtain ⟨l4,rfl⟩:∃ x,x = e0:=⟨_,rfl⟩
  replace h:(some (.inl (l4,(addK .i64 i 1))):Option ((List T_api_Fault × Int) ⊕ (List T_api_Fault))) = some _:=h
  exact gn 3 [1,2,5,6] [0,1] [] (hI _ (oJ h))
 ·exact gn 5 [5] [1] [nL T_api_Type.enc l,bF h3] (hE _ (oJ h))
theorem lorryref10_Check_J1_ok (Γ:Gam) (rv:List T_api_Fault) {n l l1} (h:lorryref10_Check_J1 n l l1 = some rv):lorryref10_Check_G Γ rv ⟨[.c 15],⟨44,[vL 1 14 l T_api_Type.enc,vP 2 0 2,vO 5 1 2 l1 T_api_Fault.enc],[oX 2 25 (T_api_Network.enc n),oS 2 159 l1 T_api_Fault.enc]⟩⟩:=by
 unfold lorryref10_Check_J1 at h
 obtain ⟨e1,h10,h⟩:=bnd_elim h
 refine gn 5 [1,2,5,6] [0,1] [] (lorryref10_Check_L1_ok Γ rv h10 ?_)
 obtain ⟨l5,rfl⟩:∃ x,x = e1:=⟨_,rfl⟩
 replace h:(some l5:Option (List T_api_Fault)) = some _:=h
 obtain rfl:=Option.some.inj h
 exact gr 2 [] [hW 4,hH (.frz 0),rp 3 (eL l5 T_api_Fault.enc)]
theorem lorryref10_Check_ok {n l} {rv:List T_api_Fault} (h:lorryref10_Check n l = some rv):AFn Tryz.prog 69 [.agg (T_api_Network.enc n),.one (lL 14 l T_api_Type.enc)] [] (one (lL 2 rv T_api_Fault.enc)) []:=by
 refine afn_of Tryz.func69 (by kernel_rfl) (by kernel_rfl) (fun Γ=>?_)
 unfold lorryref10_Check at h
 obtain ⟨r,h0,h⟩:=bnd_elim h
 rcases br_elim h with ⟨h1,h⟩|⟨h1,h⟩
 ·exact gn 9 [1,2,5] [0,1] [nL T_api_Type.enc l,cC (lorryref10_in_ok h0),nF h1,hW 1,hH (.adopt 5 2 159)] (lorryref10_Check_J1_ok Γ rv h)
 ·obtain ⟨h2,h⟩:=chk_elim h
  exact gn 9 [1,2,5] [0,2] [nL T_api_Type.enc l,cC (lorryref10_in_ok h0),nT h1,oO (Eq.refl ([(T_api_Fault.mk 4 ByteArray.empty)].map T_api_Fault.enc).length),aN (l:=([(T_api_Fault.mk 4 ByteArray.empty)]:List T_api_Fault)) T_api_Fault.enc h2] (lorryref10_Check_J1_ok Γ rv h)
def lorryref06_Right_G (Γ:Gam) (rv:Bool) (cf:Cf):Prop:=Go Tryz.prog Tryz.f156 [] Γ (one (.bool rv)) [] cf
def lorryref06_Right_L1_C (Γ:Gam) (rv:Bool) (a:List Int) (i:Int):Prop:=lorryref06_Right_G Γ rv ⟨[.c 116,.l 116,.b 0,.c 15],⟨28,[vL 0 1 a e_i64,vI 5 i],[]⟩⟩
def lorryref06_Right_L1_D0 (Γ:Gam) (rv:Bool) (a:List Int):Prop:=lorryref06_Right_G Γ rv ⟨[.c 15],⟨28,[],[]⟩⟩
theorem lorryref06_Right_L1_ok (Γ:Gam) (rv:Bool) {a} {s:Int} {e:(Unit) ⊕ (Bool)} (h:loopF (fun s=>lorryref06_Right_L1 a s) s = some e) (hD:sel e (fun e=>lorryref06_Right_L1_D0 Γ rv a) (fun e=>e = rv)):lorryref06_Right_L1_C Γ rv a s:=by
 refine loop_ind (C:=fun (s:Int)=>lorryref06_Right_L1_C Γ rv a s) (D:=fun (e:(Unit) ⊕ (Bool))=>sel e (fun e=>lorryref06_Right_L1_D0 Γ rv a) (fun e=>e = rv)) ?_ h hD
 clear h hD s e
 intro i z_ h hI hE
 replace h:lorryref06_Right_L1 a i = _:=h
 unfold lorryref06_Right_L1 at h
 rcases br_elim h with ⟨h1,h⟩|⟨h1,h⟩
 ·obtain ⟨x0,h2,h⟩:=bnd_elim h
  rcases br_elim h with ⟨h3,h⟩|⟨h3,h⟩
  ·obtain rfl:=(hE _ (oJ h):_ = rv)
   exact gr 12 [] [nL e_i64 a,bT h1,cE e_i64 h2,rp 6 (bT h3),tT]
  ·rcases br_elim h with ⟨h4,h⟩|⟨h4,h⟩
   ·obtain rfl:=(hE _ (oJ h):_ = rv)
    exact gr 12 [] [nL e_i64 a,bT h1,cE e_i64 h2,rp 3 (bF h3),cE e_i64 h2,rp 3 (bF h3),bT h4]
   ·exact gn 14 [0,5] [] [nL e_i64 a,bT h1,cE e_i64 h2,rp 3 (bF h3),cE e_i64 h2,rp 3 (bF h3),bF h4] (hI _ (oJ h))
 ·exact gn 5 [] [] [nL e_i64 a,bF h1] (hE _ (oJ h))
theorem lorryref06_Right_ok {a dims} {rv:Bool} (h:lorryref06_Right a dims = some rv):AFn Tryz.prog 156 [.one (lL 1 a e_i64),.one (lI dims)] [] (one (.bool rv)) []:=by
 refine afn_of Tryz.func156 (by kernel_rfl) (by kernel_rfl) (fun Γ=>?_)
 unfold lorryref06_Right at h
 rcases br_elim h with ⟨h0,h⟩|⟨h0,h⟩
 ·obtain rfl:=Option.some.inj h
  exact gr 8 [] [nL e_i64 a,bT h0]
 ·obtain ⟨e0,h5,h⟩:=bnd_elim h
  refine gn 12 [0,5] [] [nL e_i64 a,bF h0] (lorryref06_Right_L1_ok Γ rv h5 ?_)
  rcases e0 with e0|e0
  ·replace h:(some true:Option Bool) = some _:=h
   obtain rfl:=Option.some.inj h
   exact gr 2 [] []
  ·obtain ⟨r,rfl⟩:∃ x,x = e0:=⟨_,rfl⟩
   replace h:(some r:Option Bool) = some _:=h
   exact Option.some.inj h
theorem lorryref11_in_ok {n low high} {rv:Bool} (h:lorryref11_in n low high = some rv):AFn Tryz.prog 157 [.one (lI n),.one (lI low),.one (lI high)] [] (one (.bool rv)) []:=by
 refine afn_of Tryz.func157 (by kernel_rfl) (by kernel_rfl) (fun Γ=>?_)
 unfold lorryref11_in at h
 obtain rfl:=Option.some.inj h
 exact gr 4 [] [rp 4 hP,rp 2 (oI ((geI n low) = true)),oR True ((geI n low) = true)]
theorem lorryref08_Check_ok {s0} {rv:Int} (h:lorryref08_Check s0 = some rv):AFn Tryz.prog 158 [.agg (T_api_Stop.enc s0)] [] (one (lI rv)) []:=by
 refine afn_of Tryz.func158 (by kernel_rfl) (by kernel_rfl) (fun Γ=>?_)
 unfold lorryref08_Check at h
 rcases br_elim h with ⟨h0,h⟩|⟨h0,h⟩
 ·obtain rfl:=Option.some.inj h
  exact gr 8 [] [rp 12 hP,rp 2 (oI ((eqI s0.place (-1)) = true)),oR True ((eqI s0.place (-1)) = true),rp 2 (oI (((eqI s0.place (-1)) && (eqI s0.open_ 0)) = true)),oR True (((eqI s0.place (-1)) && (eqI s0.open_ 0)) = true),rp 2 (oI ((((eqI s0.place (-1)) && (eqI s0.open_ 0)) && (eqI s0.close 0)) = true)),oR True ((((eqI s0.place (-1)) && (eqI s0.open_ 0)) && (eqI s0.close 0)) = true),bT h0]
 ·rcases br_elim h with ⟨h1,h⟩|⟨h1,h⟩
  ·obtain rfl:=Option.some.inj h
   exact gr 13 [] [rp 12 hP,rp 2 (oI ((eqI s0.place (-1)) = true)),oR True ((eqI s0.place (-1)) = true),rp 2 (oI (((eqI s0.place (-1)) && (eqI s0.open_ 0)) = true)),oR True (((eqI s0.place (-1)) && (eqI s0.open_ 0)) = true),rp 2 (oI ((((eqI s0.place (-1)) && (eqI s0.open_ 0)) && (eqI s0.close 0)) = true)),oR True ((((eqI s0.place (-1)) && (eqI s0.open_ 0)) && (eqI s0.close 0)) = true),bF h0,rp 22 hP,rp 2 (oI ((ltI s0.place 0) = false)),oR True ((ltI s0.place 0) = false),rp 4 (oI (((ltI s0.place 0) || (ltI s0.open_ 0)) = false)),oR True (((ltI s0.place 0) || (ltI s0.open_ 0)) = false),rp 2 (oI ((((ltI s0.place 0) || (ltI s0.open_ 0)) || (gtI s0.open_ s0.close)) = false)),oR True ((((ltI s0.place 0) || (ltI s0.open_ 0)) || (gtI s0.open_ s0.close)) = false),rp 2 (oI (((((ltI s0.place 0) || (ltI s0.open_ 0)) || (gtI s0.open_ s0.close)) || (gtI s0.close 4096)) = false)),oR True (((((ltI s0.place 0) || (ltI s0.open_ 0)) || (gtI s0.open_ s0.close)) || (gtI s0.close 4096)) = false),rp 2 (oI ((((((ltI s0.place 0) || (ltI s0.open_ 0)) || (gtI s0.open_ s0.close)) || (gtI s0.close 4096)) || (ltI s0.service 0)) = false)),oR True ((((((ltI s0.place 0) || (ltI s0.open_ 0)) || (gtI s0.open_ s0.close)) || (gtI s0.close 4096)) || (ltI s0.service 0)) = false),bT h1]
  ·obtain rfl:=Option.some.inj h
   exact gr 14 [] [rp 12 hP,rp 2 (oI ((eqI s0.place (-1)) = true)),oR True ((eqI s0.place (-1)) = true),rp 2 (oI (((eqI s0.place (-1)) && (eqI s0.open_ 0)) = true)),oR True (((eqI s0.place (-1)) && (eqI s0.open_ 0)) = true),rp 2 (oI ((((eqI s0.place (-1)) && (eqI s0.open_ 0)) && (eqI s0.close 0)) = true)),oR True ((((eqI s0.place (-1)) && (eqI s0.open_ 0)) && (eqI s0.close 0)) = true),bF h0,rp 22 hP,rp 2 (oI ((ltI s0.place 0) = false)),oR True ((ltI s0.place 0) = false),rp 4 (oI (((ltI s0.place 0) || (ltI s0.open_ 0)) = false)),oR True (((ltI s0.place 0) || (ltI s0.open_ 0)) = false),rp 2 (oI ((((ltI s0.place 0) || (ltI s0.open_ 0)) || (gtI s0.open_ s0.close)) = false)),oR True ((((ltI s0.place 0) || (ltI s0.open_ 0)) || (gtI s0.open_ s0.close)) = false),rp 2 (oI (((((ltI s0.place 0) || (ltI s0.open_ 0)) || (gtI s0.open_ s0.close)) || (gtI s0.close 4096)) = false)),oR True (((((ltI s0.place 0) || (ltI s0.open_ 0)) || (gtI s0.open_ s0.close)) || (gtI s0.close 4096)) = false),rp 2 (oI ((((((ltI s0.place 0) || (ltI s0.open_ 0)) || (gtI s0.open_ s0.close)) || (gtI s0.close 4096)) || (ltI s0.service 0)) = false)),oR True ((((((ltI s0.place 0) || (ltI s0.open_ 0)) || (gtI s0.open_ s0.close)) || (gtI s0.close 4096)) || (ltI s0.service 0)) = false),bF h1]
def lorryref11_rules_G (Γ:Gam) (rv:List Int) (cf:Cf):Prop:=Go Tryz.prog Tryz.f117 [] Γ (one (lL 1 rv e_i64)) [] cf
def lorryref11_rules_L1_C (Γ:Gam) (rv:List Int) (places:Int) (dims:Int) (types:Int) (l:List T_api_Order) (at_:Int) (x0:T_api_Order) (l1:List Int) (i:Int):Prop:=lorryref11_rules_G Γ rv ⟨[.c 500,.l 500,.b 0,.c 63],⟨156,[vI 0 places,vI 1 dims,vI 2 types,vL 3 16 l T_api_Order.enc,vI 4 at_,vO 11 0 1 l1 e_i64,vP 12 1 16,vI 13 i],[oS 1 43 l1 e_i64,oX 16 71 (T_api_Order.enc x0)]⟩⟩
def lorryref11_rules_L1_D0 (Γ:Gam) (rv:List Int) (places:Int) (dims:Int) (types:Int) (l:List T_api_Order) (at_:Int) (x0:T_api_Order) (l1:List Int) (l2:List Int):Prop:=lorryref11_rules_G Γ rv ⟨[.c 63],⟨156,[vI 0 places,vI 1 dims,vI 2 types,vO 11 0 1 l2 e_i64,vP 12 1 16],[oS 1 43 l2 e_i64,oX 16 71 (T_api_Order.enc x0)]⟩⟩
theorem lorryref11_rules_L1_ok (Γ:Gam) (rv:List Int) {places dims types l at_ x0 l1} {s:Int} {e:List Int} (h:loopF (fun s=>lorryref11_rules_L1 places dims types l at_ x0 l1 s) s = some e) (hD:lorryref11_rules_L1_D0 Γ rv places dims types l at_ x0 l1 e):lorryref11_rules_L1_C Γ rv places dims types l at_ x0 l1 s:=by
 refine loop_ind (C:=fun (s:Int)=>lorryref11_rules_L1_C Γ rv places dims types l at_ x0 l1 s) (D:=fun (e:List Int)=>lorryref11_rules_L1_D0 Γ rv places dims types l at_ x0 l1 e) ?_ h hD
 clear h hD s e
 intro i z_ h hI hE
 replace h:lorryref11_rules_L1 places dims types l at_ x0 l1 i = _:=h
 unfold lorryref11_rules_L1 at h
 rcases br_elim h with ⟨h4,h⟩|⟨h4,h⟩
 ·obtain ⟨x1,h5,h⟩:=bnd_elim h
  rcases br_elim h with ⟨h6,h⟩|⟨h6,h⟩
  ·obtain ⟨h7,h⟩:=chk_elim h
   exact gn 13 [0,1,2,11,12] [3,1] [bT h4,hH (.draw 8 []),cE T_api_Order.enc h5,bT h6,oO (Eq.refl ([6].map e_i64).length),aO e_i64 h7] (hE _ (oJ h))
  ·exact gn 14 [0,1,2,3,4,11,12,13] [0,1] [bT h4,hH (.draw 8 []),cE T_api_Order.enc h5,bF h6] (hI _ (oJ h))
 ·exact gn 5 [0,1,2,11,12] [0,1] [bF h4] (hE _ (oJ h))
theorem lorryref11_rules_J5_ok (Γ:Gam) (rv:List Int) {types x0 l6} (h:lorryref11_rules_J5 types x0 l6 = some rv):lorryref11_rules_G Γ rv ⟨[.c 2047],⟨156,[vI 2 types,vO 11 0 1 l6 e_i64,vP 12 1 16],[oS 1 43 l6 e_i64,oX 16 71 (T_api_Order.enc x0)]⟩⟩:=by
 unfold lorryref11_rules_J5 at h
 obtain ⟨r6,h25,h⟩:=bnd_elim h
 rcases br_elim h with ⟨h26,h⟩|⟨h26,h⟩
 ·obtain ⟨r7,h27,h⟩:=bnd_elim h
  rcases br_elim h with ⟨h28,h⟩|⟨h28,h⟩
  ·obtain ⟨h29,h⟩:=chk_elim h
   obtain rfl:=Option.some.inj h
   exact gr 9 [] [rp 5 hP,rp 3 (oI ((neI x0.pick.place (-1)) = true)),oR True ((neI x0.pick.place (-1)) = true),cC (lorryref11_in_ok h25),rp 3 (nF h26),cC (lorryref11_in_ok h27),rp 2 (nF h26),rp 26 hP,rp 4 (oI ((!r7) = false)),oI (((!r7) = false)∧(gtI x0.split 1) = true),oR True ((!r7) = false),rp 2 (oI (((!r7) || ((gtI x0.split 1) && ((neI x0.pick.place (-1)) && (neI x0.drop.place (-1))))) = false)),oR True (((!r7) || ((gtI x0.split 1) && ((neI x0.pick.place (-1)) && (neI x0.drop.place (-1))))) = false),rp 3 (oI ((((!r7) || ((gtI x0.split 1) && ((neI x0.pick.place (-1)) && (neI x0.drop.place (-1))))) || (ltI x0.last_ (-1))) = false)),oR True ((((!r7) || ((gtI x0.split 1) && ((neI x0.pick.place (-1)) && (neI x0.drop.place (-1))))) || (ltI x0.last_ (-1))) = false),rp 2 (oI (((((!r7) || ((gtI x0.split 1) && ((neI x0.pick.place (-1)) && (neI x0.drop.place (-1))))) || (ltI x0.last_ (-1))) || (geI x0.last_ types)) = false)),oR True (((((!r7) || ((gtI x0.split 1) && ((neI x0.pick.place (-1)) && (neI x0.drop.place (-1))))) || (ltI x0.last_ (-1))) || (geI x0.last_ types)) = false),rp 3 (oI ((((((!r7) || ((gtI x0.split 1) && ((neI x0.pick.place (-1)) && (neI x0.drop.place (-1))))) || (ltI x0.last_ (-1))) || (geI x0.last_ types)) || (ltI x0.now (-1))) = false)),oR True ((((((!r7) || ((gtI x0.split 1) && ((neI x0.pick.place (-1)) && (neI x0.drop.place (-1))))) || (ltI x0.last_ (-1))) || (geI x0.last_ types)) || (ltI x0.now (-1))) = false),bT h28,oO (Eq.refl ([2].map e_i64).length),aO e_i64 h29,hW 5,hH (.frz 3),rp 4 (oO (Eq.refl ((l6 ++ [2]).map e_i64).length))]
  ·obtain rfl:=Option.some.inj h
   exact gr 9 [] [rp 5 hP,rp 3 (oI ((neI x0.pick.place (-1)) = true)),oR True ((neI x0.pick.place (-1)) = true),cC (lorryref11_in_ok h25),rp 3 (nF h26),cC (lorryref11_in_ok h27),rp 2 (nF h26),rp 26 hP,rp 4 (oI ((!r7) = false)),oI (((!r7) = false)∧(gtI x0.split 1) = true),oR True ((!r7) = false),rp 2 (oI (((!r7) || ((gtI x0.split 1) && ((neI x0.pick.place (-1)) && (neI x0.drop.place (-1))))) = false)),oR True (((!r7) || ((gtI x0.split 1) && ((neI x0.pick.place (-1)) && (neI x0.drop.place (-1))))) = false),rp 3 (oI ((((!r7) || ((gtI x0.split 1) && ((neI x0.pick.place (-1)) && (neI x0.drop.place (-1))))) || (ltI x0.last_ (-1))) = false)),oR True ((((!r7) || ((gtI x0.split 1) && ((neI x0.pick.place (-1)) && (neI x0.drop.place (-1))))) || (ltI x0.last_ (-1))) = false),rp 2 (oI (((((!r7) || ((gtI x0.split 1) && ((neI x0.pick.place (-1)) && (neI x0.drop.place (-1))))) || (ltI x0.last_ (-1))) || (geI x0.last_ types)) = false)),oR True (((((!r7) || ((gtI x0.split 1) && ((neI x0.pick.place (-1)) && (neI x0.drop.place (-1))))) || (ltI x0.last_ (-1))) || (geI x0.last_ types)) = false),rp 3 (oI ((((((!r7) || ((gtI x0.split 1) && ((neI x0.pick.place (-1)) && (neI x0.drop.place (-1))))) || (ltI x0.last_ (-1))) || (geI x0.last_ types)) || (ltI x0.now (-1))) = false)),oR True ((((((!r7) || ((gtI x0.split 1) && ((neI x0.pick.place (-1)) && (neI x0.drop.place (-1))))) || (ltI x0.last_ (-1))) || (geI x0.last_ types)) || (ltI x0.now (-1))) = false),bF h28,hW 5,hH (.frz 0),rp 3 (eL l6 e_i64)]
 ·obtain ⟨h30,h⟩:=chk_elim h
  obtain rfl:=Option.some.inj h
  exact gr 9 [] [rp 5 hP,rp 3 (oI ((neI x0.pick.place (-1)) = true)),oR True ((neI x0.pick.place (-1)) = true),cC (lorryref11_in_ok h25),rp 5 (nT h26),rp 4 tT,kF,rp 21 tT,oO (Eq.refl ([2].map e_i64).length),aO e_i64 h30,hW 5,hH (.frz 3),rp 4 (oO (Eq.refl ((l6 ++ [2]).map e_i64).length))]
theorem lorryref11_rules_J7_ok (Γ:Gam) (rv:List Int) {types x0 l8} (h:lorryref11_rules_J7 types x0 l8 = some rv):lorryref11_rules_G Γ rv ⟨[.c 2047],⟨156,[vI 2 types,vO 11 0 1 l8 e_i64,vP 12 1 16],[oS 1 43 l8 e_i64,oX 16 71 (T_api_Order.enc x0)]⟩⟩:=by
 unfold lorryref11_rules_J7 at h
 obtain ⟨r10,h37,h⟩:=bnd_elim h
 rcases br_elim h with ⟨h38,h⟩|⟨h38,h⟩
 ·obtain ⟨r11,h39,h⟩:=bnd_elim h
  rcases br_elim h with ⟨h40,h⟩|⟨h40,h⟩
  ·obtain ⟨h41,h⟩:=chk_elim h
   obtain rfl:=Option.some.inj h
   exact gr 9 [] [rp 5 hP,rp 3 (oI ((neI x0.pick.place (-1)) = true)),oR True ((neI x0.pick.place (-1)) = true),cC (lorryref11_in_ok h37),rp 3 (nF h38),cC (lorryref11_in_ok h39),rp 2 (nF h38),rp 26 hP,rp 4 (oI ((!r11) = false)),oI (((!r11) = false)∧(gtI x0.split 1) = true),oR True ((!r11) = false),rp 2 (oI (((!r11) || ((gtI x0.split 1) && ((neI x0.pick.place (-1)) && (neI x0.drop.place (-1))))) = false)),oR True (((!r11) || ((gtI x0.split 1) && ((neI x0.pick.place (-1)) && (neI x0.drop.place (-1))))) = false),rp 3 (oI ((((!r11) || ((gtI x0.split 1) && ((neI x0.pick.place (-1)) && (neI x0.drop.place (-1))))) || (ltI x0.last_ (-1))) = false)),oR True ((((!r11) || ((gtI x0.split 1) && ((neI x0.pick.place (-1)) && (neI x0.drop.place (-1))))) || (ltI x0.last_ (-1))) = false),rp 2 (oI (((((!r11) || ((gtI x0.split 1) && ((neI x0.pick.place (-1)) && (neI x0.drop.place (-1))))) || (ltI x0.last_ (-1))) || (geI x0.last_ types)) = false)),oR True (((((!r11) || ((gtI x0.split 1) && ((neI x0.pick.place (-1)) && (neI x0.drop.place (-1))))) || (ltI x0.last_ (-1))) || (geI x0.last_ types)) = false),rp 3 (oI ((((((!r11) || ((gtI x0.split 1) && ((neI x0.pick.place (-1)) && (neI x0.drop.place (-1))))) || (ltI x0.last_ (-1))) || (geI x0.last_ types)) || (ltI x0.now (-1))) = false)),oR True ((((((!r11) || ((gtI x0.split 1) && ((neI x0.pick.place (-1)) && (neI x0.drop.place (-1))))) || (ltI x0.last_ (-1))) || (geI x0.last_ types)) || (ltI x0.now (-1))) = false),bT h40,oO (Eq.refl ([2].map e_i64).length),aO e_i64 h41,hW 5,hH (.frz 3),rp 4 (oO (Eq.refl ((l8 ++ [2]).map e_i64).length))]
  ·obtain rfl:=Option.some.inj h
   exact gr 9 [] [rp 5 hP,rp 3 (oI ((neI x0.pick.place (-1)) = true)),oR True ((neI x0.pick.place (-1)) = true),cC (lorryref11_in_ok h37),rp 3 (nF h38),cC (lorryref11_in_ok h39),rp 2 (nF h38),rp 26 hP,rp 4 (oI ((!r11) = false)),oI (((!r11) = false)∧(gtI x0.split 1) = true),oR True ((!r11) = false),rp 2 (oI (((!r11) || ((gtI x0.split 1) && ((neI x0.pick.place (-1)) && (neI x0.drop.place (-1))))) = false)),oR True (((!r11) || ((gtI x0.split 1) && ((neI x0.pick.place (-1)) && (neI x0.drop.place (-1))))) = false),rp 3 (oI ((((!r11) || ((gtI x0.split 1) && ((neI x0.pick.place (-1)) && (neI x0.drop.place (-1))))) || (ltI x0.last_ (-1))) = false)),oR True ((((!r11) || ((gtI x0.split 1) && ((neI x0.pick.place (-1)) && (neI x0.drop.place (-1))))) || (ltI x0.last_ (-1))) = false),rp 2 (oI (((((!r11) || ((gtI x0.split 1) && ((neI x0.pick.place (-1)) && (neI x0.drop.place (-1))))) || (ltI x0.last_ (-1))) || (geI x0.last_ types)) = false)),oR True (((((!r11) || ((gtI x0.split 1) && ((neI x0.pick.place (-1)) && (neI x0.drop.place (-1))))) || (ltI x0.last_ (-1))) || (geI x0.last_ types)) = false),rp 3 (oI ((((((!r11) || ((gtI x0.split 1) && ((neI x0.pick.place (-1)) && (neI x0.drop.place (-1))))) || (ltI x0.last_ (-1))) || (geI x0.last_ types)) || (ltI x0.now (-1))) = false)),oR True ((((((!r11) || ((gtI x0.split 1) && ((neI x0.pick.place (-1)) && (neI x0.drop.place (-1))))) || (ltI x0.last_ (-1))) || (geI x0.last_ types)) || (ltI x0.now (-1))) = false),bF h40,hW 5,hH (.frz 0),rp 3 (eL l8 e_i64)]
 ·obtain ⟨h42,h⟩:=chk_elim h
  obtain rfl:=Option.some.inj h
  exact gr 9 [] [rp 5 hP,rp 3 (oI ((neI x0.pick.place (-1)) = true)),oR True ((neI x0.pick.place (-1)) = true),cC (lorryref11_in_ok h37),rp 5 (nT h38),rp 4 tT,kF,rp 21 tT,oO (Eq.refl ([2].map e_i64).length),aO e_i64 h42,hW 5,hH (.frz 3),rp 4 (oO (Eq.refl ((l8 ++ [2]).map e_i64).length))]
theorem lorryref11_rules_J6_ok (Γ:Gam) (rv:List Int) {types x0 l7} (h:lorryref11_rules_J6 types x0 l7 = some rv):lorryref11_rules_G Γ rv ⟨[.c 1023],⟨156,[vI 2 types,vO 11 0 1 l7 e_i64,vP 12 1 16],[oS 1 43 l7 e_i64,oX 16 71 (T_api_Order.enc x0)]⟩⟩:=by
 unfold lorryref11_rules_J6 at h
 obtain ⟨r9,h34,h⟩:=bnd_elim h
 rcases br_elim h with ⟨h35,h⟩|⟨h35,h⟩
 ·exact gn 5 [2,11,12] [0,1] [cC (lorryref11_in_ok h34),nF h35] (lorryref11_rules_J7_ok Γ rv h)
 ·obtain ⟨h36,h⟩:=chk_elim h
  exact gn 5 [2,11,12] [3,1] [cC (lorryref11_in_ok h34),nT h35,oO (Eq.refl ([18].map e_i64).length),aO e_i64 h36] (lorryref11_rules_J7_ok Γ rv h)
theorem lorryref11_rules_J4_ok (Γ:Gam) (rv:List Int) {types x0 l5} (h:lorryref11_rules_J4 types x0 l5 = some rv):lorryref11_rules_G Γ rv ⟨[.c 511],⟨156,[vI 2 types,vO 11 0 1 l5 e_i64,vP 12 1 16],[oS 1 43 l5 e_i64,oX 16 71 (T_api_Order.enc x0)]⟩⟩:=by
 unfold lorryref11_rules_J4 at h
 obtain ⟨r4,h19,h⟩:=bnd_elim h
 rcases br_elim h with ⟨h20,h⟩|⟨h20,h⟩
 ·obtain ⟨h21,h⟩:=chk_elim h
  obtain ⟨r5,h22,h⟩:=bnd_elim h
  rcases br_elim h with ⟨h23,h⟩|⟨h23,h⟩
  ·exact gn 10 [2,11,12] [3,1] [cC (lorryref08_Check_ok h19),rp 5 (bT h20),tT,oO (Eq.refl ([14].map e_i64).length),aO e_i64 h21,cC (lorryref11_in_ok h22),nF h23] (lorryref11_rules_J5_ok Γ rv h)
  ·obtain ⟨h24,h⟩:=chk_elim h
   exact gn 10 [2,11,12] [5,1] [cC (lorryref08_Check_ok h19),rp 5 (bT h20),tT,oO (Eq.refl ([14].map e_i64).length),aO e_i64 h21,cC (lorryref11_in_ok h22),nT h23,oO (Eq.refl ([18].map e_i64).length),aO e_i64 h24] (lorryref11_rules_J5_ok Γ rv h)
 ·obtain ⟨r8,h31,h⟩:=bnd_elim h
  rcases br_elim h with ⟨h32,h⟩|⟨h32,h⟩
  ·obtain ⟨h33,h⟩:=chk_elim h
   exact gn 5 [2,11,12] [3,1] [cC (lorryref08_Check_ok h19),rp 3 (bF h20),cC (lorryref08_Check_ok h31),rp 2 (bF h20),bT h32,oO (Eq.refl ([14].map e_i64).length),aO e_i64 h33] (lorryref11_rules_J6_ok Γ rv h)
  ·exact gn 5 [2,11,12] [0,1] [cC (lorryref08_Check_ok h19),rp 3 (bF h20),cC (lorryref08_Check_ok h31),rp 2 (bF h20),bF h32] (lorryref11_rules_J6_ok Γ rv h)
theorem lorryref11_rules_J3_ok (Γ:Gam) (rv:List Int) {types x0 l4} (h:lorryref11_rules_J3 types x0 l4 = some rv):lorryref11_rules_G Γ rv ⟨[.c 255],⟨156,[vI 2 types,vO 11 0 1 l4 e_i64,vP 12 1 16],[oS 1 43 l4 e_i64,oX 16 71 (T_api_Order.enc x0)]⟩⟩:=by
 unfold lorryref11_rules_J3 at h
 rcases br_elim h with ⟨h17,h⟩|⟨h17,h⟩
 ·obtain ⟨h18,h⟩:=chk_elim h
  exact gn 5 [2,11,12] [3,1] [rp 5 hP,rp 3 (oI ((eqI x0.pick.place (-1)) = true)),oR True ((eqI x0.pick.place (-1)) = true),bT h17,oO (Eq.refl ([19].map e_i64).length),aO e_i64 h18] (lorryref11_rules_J4_ok Γ rv h)
 ·exact gn 5 [2,11,12] [0,1] [rp 5 hP,rp 3 (oI ((eqI x0.pick.place (-1)) = true)),oR True ((eqI x0.pick.place (-1)) = true),bF h17] (lorryref11_rules_J4_ok Γ rv h)
theorem lorryref11_rules_J9_ok (Γ:Gam) (rv:List Int) {types x0 l10} (h:lorryref11_rules_J9 types x0 l10 = some rv):lorryref11_rules_G Γ rv ⟨[.c 2047],⟨156,[vI 2 types,vO 11 0 1 l10 e_i64,vP 12 1 16],[oS 1 43 l10 e_i64,oX 16 71 (T_api_Order.enc x0)]⟩⟩:=by
 unfold lorryref11_rules_J9 at h
 obtain ⟨r14,h52,h⟩:=bnd_elim h
 rcases br_elim h with ⟨h53,h⟩|⟨h53,h⟩
 ·obtain ⟨r15,h54,h⟩:=bnd_elim h
  rcases br_elim h with ⟨h55,h⟩|⟨h55,h⟩
  ·obtain ⟨h56,h⟩:=chk_elim h
   obtain rfl:=Option.some.inj h
   exact gr 9 [] [rp 5 hP,rp 3 (oI ((neI x0.pick.place (-1)) = true)),oR True ((neI x0.pick.place (-1)) = true),cC (lorryref11_in_ok h52),rp 3 (nF h53),cC (lorryref11_in_ok h54),rp 2 (nF h53),rp 26 hP,rp 4 (oI ((!r15) = false)),oI (((!r15) = false)∧(gtI x0.split 1) = true),oR True ((!r15) = false),rp 2 (oI (((!r15) || ((gtI x0.split 1) && ((neI x0.pick.place (-1)) && (neI x0.drop.place (-1))))) = false)),oR True (((!r15) || ((gtI x0.split 1) && ((neI x0.pick.place (-1)) && (neI x0.drop.place (-1))))) = false),rp 3 (oI ((((!r15) || ((gtI x0.split 1) && ((neI x0.pick.place (-1)) && (neI x0.drop.place (-1))))) || (ltI x0.last_ (-1))) = false)),oR True ((((!r15) || ((gtI x0.split 1) && ((neI x0.pick.place (-1)) && (neI x0.drop.place (-1))))) || (ltI x0.last_ (-1))) = false),rp 2 (oI (((((!r15) || ((gtI x0.split 1) && ((neI x0.pick.place (-1)) && (neI x0.drop.place (-1))))) || (ltI x0.last_ (-1))) || (geI x0.last_ types)) = false)),oR True (((((!r15) || ((gtI x0.split 1) && ((neI x0.pick.place (-1)) && (neI x0.drop.place (-1))))) || (ltI x0.last_ (-1))) || (geI x0.last_ types)) = false),rp 3 (oI ((((((!r15) || ((gtI x0.split 1) && ((neI x0.pick.place (-1)) && (neI x0.drop.place (-1))))) || (ltI x0.last_ (-1))) || (geI x0.last_ types)) || (ltI x0.now (-1))) = false)),oR True ((((((!r15) || ((gtI x0.split 1) && ((neI x0.pick.place (-1)) && (neI x0.drop.place (-1))))) || (ltI x0.last_ (-1))) || (geI x0.last_ types)) || (ltI x0.now (-1))) = false),bT h55,oO (Eq.refl ([2].map e_i64).length),aO e_i64 h56,hW 5,hH (.frz 3),rp 4 (oO (Eq.refl ((l10 ++ [2]).map e_i64).length))]
  ·obtain rfl:=Option.some.inj h
   exact gr 9 [] [rp 5 hP,rp 3 (oI ((neI x0.pick.place (-1)) = true)),oR True ((neI x0.pick.place (-1)) = true),cC (lorryref11_in_ok h52),rp 3 (nF h53),cC (lorryref11_in_ok h54),rp 2 (nF h53),rp 26 hP,rp 4 (oI ((!r15) = false)),oI (((!r15) = false)∧(gtI x0.split 1) = true),oR True ((!r15) = false),rp 2 (oI (((!r15) || ((gtI x0.split 1) && ((neI x0.pick.place (-1)) && (neI x0.drop.place (-1))))) = false)),oR True (((!r15) || ((gtI x0.split 1) && ((neI x0.pick.place (-1)) && (neI x0.drop.place (-1))))) = false),rp 3 (oI ((((!r15) || ((gtI x0.split 1) && ((neI x0.pick.place (-1)) && (neI x0.drop.place (-1))))) || (ltI x0.last_ (-1))) = false)),oR True ((((!r15) || ((gtI x0.split 1) && ((neI x0.pick.place (-1)) && (neI x0.drop.place (-1))))) || (ltI x0.last_ (-1))) = false),rp 2 (oI (((((!r15) || ((gtI x0.split 1) && ((neI x0.pick.place (-1)) && (neI x0.drop.place (-1))))) || (ltI x0.last_ (-1))) || (geI x0.last_ types)) = false)),oR True (((((!r15) || ((gtI x0.split 1) && ((neI x0.pick.place (-1)) && (neI x0.drop.place (-1))))) || (ltI x0.last_ (-1))) || (geI x0.last_ types)) = false),rp 3 (oI ((((((!r15) || ((gtI x0.split 1) && ((neI x0.pick.place (-1)) && (neI x0.drop.place (-1))))) || (ltI x0.last_ (-1))) || (geI x0.last_ types)) || (ltI x0.now (-1))) = false)),oR True ((((((!r15) || ((gtI x0.split 1) && ((neI x0.pick.place (-1)) && (neI x0.drop.place (-1))))) || (ltI x0.last_ (-1))) || (geI x0.last_ types)) || (ltI x0.now (-1))) = false),bF h55,hW 5,hH (.frz 0),rp 3 (eL l10 e_i64)]
 ·obtain ⟨h57,h⟩:=chk_elim h
  obtain rfl:=Option.some.inj h
  exact gr 9 [] [rp 5 hP,rp 3 (oI ((neI x0.pick.place (-1)) = true)),oR True ((neI x0.pick.place (-1)) = true),cC (lorryref11_in_ok h52),rp 5 (nT h53),rp 4 tT,kF,rp 21 tT,oO (Eq.refl ([2].map e_i64).length),aO e_i64 h57,hW 5,hH (.frz 3),rp 4 (oO (Eq.refl ((l10 ++ [2]).map e_i64).length))]
theorem lorryref11_rules_J11_ok (Γ:Gam) (rv:List Int) {types x0 l12} (h:lorryref11_rules_J11 types x0 l12 = some rv):lorryref11_rules_G Γ rv ⟨[.c 2047],⟨156,[vI 2 types,vO 11 0 1 l12 e_i64,vP 12 1 16],[oS 1 43 l12 e_i64,oX 16 71 (T_api_Order.enc x0)]⟩⟩:=by
 unfold lorryref11_rules_J11 at h
 obtain ⟨r18,h64,h⟩:=bnd_elim h
 rcases br_elim h with ⟨h65,h⟩|⟨h65,h⟩
 ·obtain ⟨r19,h66,h⟩:=bnd_elim h
  rcases br_elim h with ⟨h67,h⟩|⟨h67,h⟩
  ·obtain ⟨h68,h⟩:=chk_elim h
   obtain rfl:=Option.some.inj h
   exact gr 9 [] [rp 5 hP,rp 3 (oI ((neI x0.pick.place (-1)) = true)),oR True ((neI x0.pick.place (-1)) = true),cC (lorryref11_in_ok h64),rp 3 (nF h65),cC (lorryref11_in_ok h66),rp 2 (nF h65),rp 26 hP,rp 4 (oI ((!r19) = false)),oI (((!r19) = false)∧(gtI x0.split 1) = true),oR True ((!r19) = false),rp 2 (oI (((!r19) || ((gtI x0.split 1) && ((neI x0.pick.place (-1)) && (neI x0.drop.place (-1))))) = false)),oR True (((!r19) || ((gtI x0.split 1) && ((neI x0.pick.place (-1)) && (neI x0.drop.place (-1))))) = false),rp 3 (oI ((((!r19) || ((gtI x0.split 1) && ((neI x0.pick.place (-1)) && (neI x0.drop.place (-1))))) || (ltI x0.last_ (-1))) = false)),oR True ((((!r19) || ((gtI x0.split 1) && ((neI x0.pick.place (-1)) && (neI x0.drop.place (-1))))) || (ltI x0.last_ (-1))) = false),rp 2 (oI (((((!r19) || ((gtI x0.split 1) && ((neI x0.pick.place (-1)) && (neI x0.drop.place (-1))))) || (ltI x0.last_ (-1))) || (geI x0.last_ types)) = false)),oR True (((((!r19) || ((gtI x0.split 1) && ((neI x0.pick.place (-1)) && (neI x0.drop.place (-1))))) || (ltI x0.last_ (-1))) || (geI x0.last_ types)) = false),rp 3 (oI ((((((!r19) || ((gtI x0.split 1) && ((neI x0.pick.place (-1)) && (neI x0.drop.place (-1))))) || (ltI x0.last_ (-1))) || (geI x0.last_ types)) || (ltI x0.now (-1))) = false)),oR True ((((((!r19) || ((gtI x0.split 1) && ((neI x0.pick.place (-1)) && (neI x0.drop.place (-1))))) || (ltI x0.last_ (-1))) || (geI x0.last_ types)) || (ltI x0.now (-1))) = false),bT h67,oO (Eq.refl ([2].map e_i64).length),aO e_i64 h68,hW 5,hH (.frz 3),rp 4 (oO (Eq.refl ((l12 ++ [2]).map e_i64).length))]
  ·obtain rfl:=Option.some.inj h
   exact gr 9 [] [rp 5 hP,rp 3 (oI ((neI x0.pick.place (-1)) = true)),oR True ((neI x0.pick.place (-1)) = true),cC (lorryref11_in_ok h64),rp 3 (nF h65),cC (lorryref11_in_ok h66),rp 2 (nF h65),rp 26 hP,rp 4 (oI ((!r19) = false)),oI (((!r19) = false)∧(gtI x0.split 1) = true),oR True ((!r19) = false),rp 2 (oI (((!r19) || ((gtI x0.split 1) && ((neI x0.pick.place (-1)) && (neI x0.drop.place (-1))))) = false)),oR True (((!r19) || ((gtI x0.split 1) && ((neI x0.pick.place (-1)) && (neI x0.drop.place (-1))))) = false),rp 3 (oI ((((!r19) || ((gtI x0.split 1) && ((neI x0.pick.place (-1)) && (neI x0.drop.place (-1))))) || (ltI x0.last_ (-1))) = false)),oR True ((((!r19) || ((gtI x0.split 1) && ((neI x0.pick.place (-1)) && (neI x0.drop.place (-1))))) || (ltI x0.last_ (-1))) = false),rp 2 (oI (((((!r19) || ((gtI x0.split 1) && ((neI x0.pick.place (-1)) && (neI x0.drop.place (-1))))) || (ltI x0.last_ (-1))) || (geI x0.last_ types)) = false)),oR True (((((!r19) || ((gtI x0.split 1) && ((neI x0.pick.place (-1)) && (neI x0.drop.place (-1))))) || (ltI x0.last_ (-1))) || (geI x0.last_ types)) = false),rp 3 (oI ((((((!r19) || ((gtI x0.split 1) && ((neI x0.pick.place (-1)) && (neI x0.drop.place (-1))))) || (ltI x0.last_ (-1))) || (geI x0.last_ types)) || (ltI x0.now (-1))) = false)),oR True ((((((!r19) || ((gtI x0.split 1) && ((neI x0.pick.place (-1)) && (neI x0.drop.place (-1))))) || (ltI x0.last_ (-1))) || (geI x0.last_ types)) || (ltI x0.now (-1))) = false),bF h67,hW 5,hH (.frz 0),rp 3 (eL l12 e_i64)]
 ·obtain ⟨h69,h⟩:=chk_elim h
  obtain rfl:=Option.some.inj h
  exact gr 9 [] [rp 5 hP,rp 3 (oI ((neI x0.pick.place (-1)) = true)),oR True ((neI x0.pick.place (-1)) = true),cC (lorryref11_in_ok h64),rp 5 (nT h65),rp 4 tT,kF,rp 21 tT,oO (Eq.refl ([2].map e_i64).length),aO e_i64 h69,hW 5,hH (.frz 3),rp 4 (oO (Eq.refl ((l12 ++ [2]).map e_i64).length))]
theorem lorryref11_rules_J10_ok (Γ:Gam) (rv:List Int) {types x0 l11} (h:lorryref11_rules_J10 types x0 l11 = some rv):lorryref11_rules_G Γ rv ⟨[.c 1023],⟨156,[vI 2 types,vO 11 0 1 l11 e_i64,vP 12 1 16],[oS 1 43 l11 e_i64,oX 16 71 (T_api_Order.enc x0)]⟩⟩:=by
 unfold lorryref11_rules_J10 at h
 obtain ⟨r17,h61,h⟩:=bnd_elim h
 rcases br_elim h with ⟨h62,h⟩|⟨h62,h⟩
 ·exact gn 5 [2,11,12] [0,1] [cC (lorryref11_in_ok h61),nF h62] (lorryref11_rules_J11_ok Γ rv h)
 ·obtain ⟨h63,h⟩:=chk_elim h
  exact gn 5 [2,11,12] [3,1] [cC (lorryref11_in_ok h61),nT h62,oO (Eq.refl ([18].map e_i64).length),aO e_i64 h63] (lorryref11_rules_J11_ok Γ rv h)
theorem lorryref11_rules_J8_ok (Γ:Gam) (rv:List Int) {types x0 l9} (h:lorryref11_rules_J8 types x0 l9 = some rv):lorryref11_rules_G Γ rv ⟨[.c 511],⟨156,[vI 2 types,vO 11 0 1 l9 e_i64,vP 12 1 16],[oS 1 43 l9 e_i64,oX 16 71 (T_api_Order.enc x0)]⟩⟩:=by
 unfold lorryref11_rules_J8 at h
 obtain ⟨r12,h46,h⟩:=bnd_elim h
 rcases br_elim h with ⟨h47,h⟩|⟨h47,h⟩
 ·obtain ⟨h48,h⟩:=chk_elim h
  obtain ⟨r13,h49,h⟩:=bnd_elim h
  rcases br_elim h with ⟨h50,h⟩|⟨h50,h⟩
  ·exact gn 10 [2,11,12] [3,1] [cC (lorryref08_Check_ok h46),rp 5 (bT h47),tT,oO (Eq.refl ([14].map e_i64).length),aO e_i64 h48,cC (lorryref11_in_ok h49),nF h50] (lorryref11_rules_J9_ok Γ rv h)
  ·obtain ⟨h51,h⟩:=chk_elim h
   exact gn 10 [2,11,12] [5,1] [cC (lorryref08_Check_ok h46),rp 5 (bT h47),tT,oO (Eq.refl ([14].map e_i64).length),aO e_i64 h48,cC (lorryref11_in_ok h49),nT h50,oO (Eq.refl ([18].map e_i64).length),aO e_i64 h51] (lorryref11_rules_J9_ok Γ rv h)
 ·obtain ⟨r16,h58,h⟩:=bnd_elim h
  rcases br_elim h with ⟨h59,h⟩|⟨h59,h⟩
  ·obtain ⟨h60,h⟩:=chk_elim h
   exact gn 5 [2,11,12] [3,1] [cC (lorryref08_Check_ok h46),rp 3 (bF h47),cC (lorryref08_Check_ok h58),rp 2 (bF h47),bT h59,oO (Eq.refl ([14].map e_i64).length),aO e_i64 h60] (lorryref11_rules_J10_ok Γ rv h)
  ·exact gn 5 [2,11,12] [0,1] [cC (lorryref08_Check_ok h46),rp 3 (bF h47),cC (lorryref08_Check_ok h58),rp 2 (bF h47),bF h59] (lorryref11_rules_J10_ok Γ rv h)
theorem lorryref11_rules_J2_ok (Γ:Gam) (rv:List Int) {places types x0 l3} (h:lorryref11_rules_J2 places types x0 l3 = some rv):lorryref11_rules_G Γ rv ⟨[.c 127],⟨156,[vI 0 places,vI 2 types,vO 11 0 1 l3 e_i64,vP 12 1 16],[oS 1 43 l3 e_i64,oX 16 71 (T_api_Order.enc x0)]⟩⟩:=by
 unfold lorryref11_rules_J2 at h
 obtain ⟨r2,h12,h⟩:=bnd_elim h
 rcases br_elim h with ⟨h13,h⟩|⟨h13,h⟩
 ·obtain ⟨r3,h14,h⟩:=bnd_elim h
  rcases br_elim h with ⟨h15,h⟩|⟨h15,h⟩
  ·exact gn 5 [2,11,12] [0,1] [cC (lorryref11_in_ok h12),rp 6 (nF h13),cC (lorryref11_in_ok h14),rp 2 (nF h13),nF h15] (lorryref11_rules_J3_ok Γ rv h)
  ·obtain ⟨h16,h⟩:=chk_elim h
   exact gn 5 [2,11,12] [3,1] [cC (lorryref11_in_ok h12),rp 6 (nF h13),cC (lorryref11_in_ok h14),rp 2 (nF h13),nT h15,oO (Eq.refl ([11].map e_i64).length),aO e_i64 h16] (lorryref11_rules_J3_ok Γ rv h)
 ·obtain ⟨h43,h⟩:=chk_elim h
  rcases br_elim h with ⟨h44,h⟩|⟨h44,h⟩
  ·obtain ⟨h45,h⟩:=chk_elim h
   exact gn 10 [2,11,12] [5,1] [cC (lorryref11_in_ok h12),rp 8 (nT h13),tT,oO (Eq.refl ([11].map e_i64).length),aO e_i64 h43,rp 5 hP,rp 3 (oI ((eqI x0.pick.place (-1)) = true)),oR True ((eqI x0.pick.place (-1)) = true),bT h44,oO (Eq.refl ([19].map e_i64).length),aO e_i64 h45] (lorryref11_rules_J8_ok Γ rv h)
  ·exact gn 10 [2,11,12] [3,1] [cC (lorryref11_in_ok h12),rp 8 (nT h13),tT,oO (Eq.refl ([11].map e_i64).length),aO e_i64 h43,rp 5 hP,rp 3 (oI ((eqI x0.pick.place (-1)) = true)),oR True ((eqI x0.pick.place (-1)) = true),bF h44] (lorryref11_rules_J8_ok Γ rv h)
theorem lorryref11_rules_J1_ok (Γ:Gam) (rv:List Int) {places dims types l at_ x0 l1} (h:lorryref11_rules_J1 places dims types l at_ x0 l1 = some rv):lorryref11_rules_G Γ rv ⟨[.c 31],⟨156,[vI 0 places,vI 1 dims,vI 2 types,vL 3 16 l T_api_Order.enc,vI 4 at_,vO 11 0 1 l1 e_i64,vP 12 1 16],[oS 1 43 l1 e_i64,oX 16 71 (T_api_Order.enc x0)]⟩⟩:=by
 unfold lorryref11_rules_J1 at h
 obtain ⟨e0,h8,h⟩:=bnd_elim h
 refine gn 5 [0,1,2,3,4,11,12,13] [0,1] [] (lorryref11_rules_L1_ok Γ rv h8 ?_)
 obtain ⟨l2,rfl⟩:∃ x,x = e0:=⟨_,rfl⟩
 replace h:(bnd (lorryref06_Right x0.load dims) fun r1=>br r1 (lorryref11_rules_J2 places types x0 l2) (chk (okN (l2 ++ [17]).length 8) (lorryref11_rules_J2 places types x0 (l2 ++ [17]))):Option (List Int)) = some _:=h
 obtain ⟨r1,h9,h⟩:=bnd_elim h
 rcases br_elim h with ⟨h10,h⟩|⟨h10,h⟩
 ·exact gn 5 [0,2,11,12] [0,1] [cC (lorryref06_Right_ok h9),nF h10] (lorryref11_rules_J2_ok Γ rv h)
 ·obtain ⟨h11,h⟩:=chk_elim h
  exact gn 5 [0,2,11,12] [3,1] [cC (lorryref06_Right_ok h9),nT h10,oO (Eq.refl ([17].map e_i64).length),aO e_i64 h11] (lorryref11_rules_J2_ok Γ rv h)
theorem lorryref11_rules_ok {places dims types l at_} {rv:List Int} (h:lorryref11_rules places dims types l at_ = some rv):AFn Tryz.prog 117 [.one (lI places),.one (lI dims),.one (lI types),.one (lL 16 l T_api_Order.enc),.one (lI at_)] [] (one (lL 1 rv e_i64)) []:=by
 refine afn_of Tryz.func117 (by kernel_rfl) (by kernel_rfl) (fun Γ=>?_)
 unfold lorryref11_rules at h
 obtain ⟨x0,h0,h⟩:=bnd_elim h
 obtain ⟨r,h1,h⟩:=bnd_elim h
 rcases br_elim h with ⟨h2,h⟩|⟨h2,h⟩
 ·exact gn 11 [0,1,2,3,4,11,12] [1,0] [cE T_api_Order.enc h0,cC (lorryref01_Name_ok h1),nF h2,hW 1,hH (.adopt 11 1 43)] (lorryref11_rules_J1_ok Γ rv h)
 ·obtain ⟨h3,h⟩:=chk_elim h
  exact gn 11 [0,1,2,3,4,11,12] [2,0] [cE T_api_Order.enc h0,cC (lorryref01_Name_ok h1),nT h2,oO (Eq.refl ([5].map e_i64).length),aN (l:=([5]:List Int)) e_i64 h3] (lorryref11_rules_J1_ok Γ rv h)
def lorryref11_Check_G (Γ:Gam) (rv:List T_api_Fault) (cf:Cf):Prop:=Go Tryz.prog Tryz.f70 [] Γ (one (lL 2 rv T_api_Fault.enc)) [] cf
def lorryref11_Check_L2_C (Γ:Gam) (rv:List T_api_Fault) (n:T_api_Network) (dims:Int) (types:Int) (l:List T_api_Order) (i:Int) (r:List Int) (l3:List T_api_Fault) (k:Int):Prop:=lorryref11_Check_G Γ rv ⟨[.c 31308,.l 31308,.b 2,.b 1,.c 979,.l 244,.b 0,.c 31],⟨51,[vI 1 dims,vI 2 types,vL 3 16 l T_api_Order.enc,vP 4 0 2,vO 9 1 2 l3 T_api_Fault.enc,vI 10 i,vL 11 1 r e_i64,vI 12 k],[oX 2 25 (T_api_Network.enc n),oS 2 159 l3 T_api_Fault.enc]⟩⟩
def lorryref11_Check_L2_D0 (Γ:Gam) (rv:List T_api_Fault) (n:T_api_Network) (dims:Int) (types:Int) (l:List T_api_Order) (i:Int) (r:List Int) (l4:List T_api_Fault):Prop:=lorryref11_Check_G Γ rv ⟨[.b 1,.c 979,.l 244,.b 0,.c 31],⟨51,[vI 1 dims,vI 2 types,vL 3 16 l T_api_Order.enc,vP 4 0 2,vO 9 1 2 l4 T_api_Fault.enc,vI 10 i],[oX 2 25 (T_api_Network.enc n),oS 2 159 l4 T_api_Fault.enc]⟩⟩
def lorryref11_Check_L1_C (Γ:Gam) (rv:List T_api_Fault) (n:T_api_Network) (dims:Int) (types:Int) (l:List T_api_Order) (l2:List T_api_Fault) (i:Int):Prop:=lorryref11_Check_G Γ rv ⟨[.c 244,.l 244,.b 0,.c 31],⟨51,[vI 1 dims,vI 2 types,vL 3 16 l T_api_Order.enc,vP 4 0 2,vO 9 1 2 l2 T_api_Fault.enc,vI 10 i],[oX 2 25 (T_api_Network.enc n),oS 2 159 l2 T_api_Fault.enc]⟩⟩
def lorryref11_Check_L1_D0 (Γ:Gam) (rv:List T_api_Fault) (n:T_api_Network) (dims:Int) (types:Int) (l:List T_api_Order) (l5:List T_api_Fault):Prop:=lorryref11_Check_G Γ rv ⟨[.c 31],⟨51,[vO 9 0 2 l5 T_api_Fault.enc],[oS 2 159 l5 T_api_Fault.enc]⟩⟩
theorem lorryref11_Check_L2_ok (Γ:Gam) (rv:List T_api_Fault) {n dims types l i r} {s:List T_api_Fault × Int} {e:List T_api_Fault} (h:loopF (fun s=>lorryref11_Check_L2 n dims types l i r s.1 s.2) s = some e) (hD:lorryref11_Check_L2_D0 Γ rv n dims types l i r e):lorryref11_Check_L2_C Γ rv n dims types l i r s.1 s.2:=by
 refine loop_ind (C:=fun (s:List T_api_Fault × Int)=>lorryref11_Check_L2_C Γ rv n dims types l i r s.1 s.2) (D:=fun (e:List T_api_Fault)=>lorryref11_Check_L2_D0 Γ rv n dims types l i r e) ?_ h hD
 clear h hD s e
 rintro ⟨l3,k⟩ z_ h hI hE
 replace h:lorryref11_Check_L2 n dims types l i r l3 k = _:=h
 unfold lorryref11_Check_L2 at h
 rcases br_elim h with ⟨h4,h⟩|⟨h4,h⟩
 ·obtain ⟨x0,h5,h⟩:=bnd_elim h
  obtain ⟨r1,h6,h⟩:=bnd_elim h
  obtain ⟨h7,h⟩:=chk_elim h
  exact gn 11 [1,2,3,4,9,10,11,12] [0,3] [nL e_i64 r,bT h4,hH (.draw 9 []),cE e_i64 h5,cC (lorryref01_Decimal_ok h6),oO (Eq.refl ([(T_api_Fault.mk x0 r1)].map T_api_Fault.enc).length),aO T_api_Fault.enc h7] (hI _ (oJ h))
 ·exact gn 5 [1,2,3,4,9,10] [0,1] [nL e_i64 r,bF h4] (hE _ (oJ h))
theorem lorryref11_Check_L1_ok (Γ:Gam) (rv:List T_api_Fault) {n dims types l} {s:List T_api_Fault × Int} {e:List T_api_Fault} (h:loopF (fun s=>lorryref11_Check_L1 n dims types l s.1 s.2) s = some e) (hD:lorryref11_Check_L1_D0 Γ rv n dims types l e):lorryref11_Check_L1_C Γ rv n dims types l s.1 s.2:=by
 refine loop_ind (C:=fun (s:List T_api_Fault × Int)=>lorryref11_Check_L1_C Γ rv n dims types l s.1 s.2) (D:=fun (e:List T_api_Fault)=>lorryref11_Check_L1_D0 Γ rv n dims types l e) ?_ h hD
 clear h hD s e
 rintro ⟨l2,i⟩ z_ h hI hE
 replace h:lorryref11_Check_L1 n dims types l l2 i = _:=h
 unfold lorryref11_Check_L1 at h
 rcases br_elim h with ⟨h2,h⟩|⟨h2,h⟩
 ·obtain ⟨r,h3,h⟩:=bnd_elim h
  obtain ⟨e0,h8,h⟩:=bnd_elim h
  refine gn 13 [1,2,3,4,9,10,11,12] [0,1] [nL T_api_Order.enc l,bT h2,nL e_str n.places,cC (lorryref11_rules_ok h3)] (lorryref11_Check_L2_ok Γ rv h8 ?_)
  obtain ⟨l4,rfl⟩:∃ x,x = e0:=⟨_,rfl⟩
  replace h:(some (.inl (l4,(addK .i64 i 1))):Option ((List T_api_Fault × Int) ⊕ (List T_api_Fault))) = some _:=h
  exact gn 3 [1,2,3,4,9,10] [0,1] [] (hI _ (oJ h))
 ·exact gn 5 [9] [1] [nL T_api_Order.enc l,bF h2] (hE _ (oJ h))
theorem lorryref11_Check_J1_ok (Γ:Gam) (rv:List T_api_Fault) {n dims types l l1} (h:lorryref11_Check_J1 n dims types l l1 = some rv):lorryref11_Check_G Γ rv ⟨[.c 15],⟨51,[vI 1 dims,vI 2 types,vL 3 16 l T_api_Order.enc,vP 4 0 2,vO 9 1 2 l1 T_api_Fault.enc],[oX 2 25 (T_api_Network.enc n),oS 2 159 l1 T_api_Fault.enc]⟩⟩:=by
 unfold lorryref11_Check_J1 at h
 obtain ⟨e1,h9,h⟩:=bnd_elim h
 refine gn 5 [1,2,3,4,9,10] [0,1] [] (lorryref11_Check_L1_ok Γ rv h9 ?_)
 obtain ⟨l5,rfl⟩:∃ x,x = e1:=⟨_,rfl⟩
 replace h:(some l5:Option (List T_api_Fault)) = some _:=h
 obtain rfl:=Option.some.inj h
 exact gr 2 [] [hW 4,hH (.frz 0),rp 3 (eL l5 T_api_Fault.enc)]
theorem lorryref11_Check_ok {n dims types l} {rv:List T_api_Fault} (h:lorryref11_Check n dims types l = some rv):AFn Tryz.prog 70 [.agg (T_api_Network.enc n),.one (lI dims),.one (lI types),.one (lL 16 l T_api_Order.enc)] [] (one (lL 2 rv T_api_Fault.enc)) []:=by
 refine afn_of Tryz.func70 (by kernel_rfl) (by kernel_rfl) (fun Γ=>?_)
 unfold lorryref11_Check at h
 rcases br_elim h with ⟨h0,h⟩|⟨h0,h⟩
 ·obtain ⟨h1,h⟩:=chk_elim h
  exact gn 9 [1,2,3,4,9] [0,2] [nL T_api_Order.enc l,bT h0,oO (Eq.refl ([(T_api_Fault.mk 4 ByteArray.empty)].map T_api_Fault.enc).length),aN (l:=([(T_api_Fault.mk 4 ByteArray.empty)]:List T_api_Fault)) T_api_Fault.enc h1] (lorryref11_Check_J1_ok Γ rv h)
 ·exact gn 9 [1,2,3,4,9] [0,1] [nL T_api_Order.enc l,bF h0,hW 1,hH (.adopt 9 2 159)] (lorryref11_Check_J1_ok Γ rv h)
def lorryref12_decimal_G (Γ:Gam) (rv:ByteArray) (cf:Cf):Prop:=Go Tryz.prog Tryz.f159 [] Γ (one (.str rv)) [] cf
def lorryref12_decimal_L1_C (Γ:Gam) (rv:ByteArray) (n1:Int) (s0:ByteArray):Prop:=lorryref12_decimal_G Γ rv ⟨[.c 56,.l 56,.b 0,.c 15],⟨23,[vI 0 n1,vS 3 s0],[]⟩⟩
def lorryref12_decimal_L1_D0 (Γ:Gam) (rv:ByteArray) (n2:Int) (s1:ByteArray):Prop:=lorryref12_decimal_G Γ rv ⟨[.c 15],⟨23,[vI 0 n2,vS 3 s1],[]⟩⟩
theorem lorryref12_decimal_L1_ok (Γ:Gam) (rv:ByteArray) {s:Int × ByteArray} {e:Int × ByteArray} (h:loopF (fun s=>lorryref12_decimal_L1 s.1 s.2) s = some e) (hD:lorryref12_decimal_L1_D0 Γ rv e.1 e.2):lorryref12_decimal_L1_C Γ rv s.1 s.2:=by
 refine loop_ind (C:=fun (s:Int × ByteArray)=>lorryref12_decimal_L1_C Γ rv s.1 s.2) (D:=fun (e:Int × ByteArray)=>lorryref12_decimal_L1_D0 Γ rv e.1 e.2) ?_ h hD
 clear h hD s e
 rintro ⟨n1,s0⟩ z_ h hI hE
 replace h:lorryref12_decimal_L1 n1 s0 = _:=h
 unfold lorryref12_decimal_L1 at h
 rcases br_elim h with ⟨h0,h⟩|⟨h0,h⟩
 ·obtain ⟨h1,h⟩:=chk_elim h
  exact gn 11 [0,3] [] [bT h0,hH (.ints [(cvK .u8 (addK .i64 48 (remK n1 10)))]),oO (oA (n:=10)),oO (Eq.refl ([(cvK .u8 (addK .i64 48 (remK n1 10)))].map e_u8).length),oO (Eq.refl (([(cvK .u8 (addK .i64 48 (remK n1 10)))].map e_u8):List (List Lf))),oO (h1),oO (oA (n:=10))] (hI _ (oJ h))
 ·exact gn 5 [0,3] [] [bF h0] (hE _ (oJ h))
theorem lorryref12_decimal_ok {n} {rv:ByteArray} (h:lorryref12_decimal n = some rv):AFn Tryz.prog 159 [.one (lI n)] [] (one (.str rv)) []:=by
 refine afn_of Tryz.func159 (by kernel_rfl) (by kernel_rfl) (fun Γ=>?_)
 unfold lorryref12_decimal at h
 obtain ⟨e0,h2,h⟩:=bnd_elim h
 refine gn 7 [0,3] [] [] (lorryref12_decimal_L1_ok Γ rv h2 ?_)
 obtain ⟨n2,s1⟩:=e0
 replace h:(chk ((bytesI [(cvK .u8 (addK .i64 48 n2))]).size + s1.size ≤ 9223372036854775807) (some (catS (bytesI [(cvK .u8 (addK .i64 48 n2))]) s1)):Option ByteArray) = some _:=h
 obtain ⟨h3,h⟩:=chk_elim h
 obtain rfl:=Option.some.inj h
 exact gr 2 [] [hH (.ints [(cvK .u8 (addK .i64 48 n2))]),oO (Eq.refl ([(cvK .u8 (addK .i64 48 n2))].map e_u8).length),oO (Eq.refl (([(cvK .u8 (addK .i64 48 n2))].map e_u8):List (List Lf))),oO (h3)]
def lorryref12_faults_G (Γ:Gam) (rv:List T_api_Fault) (cf:Cf):Prop:=Go Tryz.prog Tryz.f118 [] Γ (one (lL 2 rv T_api_Fault.enc)) [] cf
def lorryref12_faults_L2_C (Γ:Gam) (rv:List T_api_Fault) (orders:Int) (l:List A2_Int) (word:ByteArray) (turned:Bool) (l2:List T_api_Fault) (i:Int) (x0:A2_Int) (r:ByteArray) (twice:Bool) (k:Int):Prop:=lorryref12_faults_G Γ rv ⟨[.c 1001972,.l 1001972,.b 2,.c 125247,.b 1,.c 979,.l 244,.b 0,.c 31],⟨123,[vI 0 orders,vL 1 2 l A2_Int.enc,vS 2 word,vB 3 turned,vO 9 0 2 l2 T_api_Fault.enc,vI 10 i,vI 11 x0.x0,vI 12 x0.x1,vS 13 (catS (catS word s___7215) r),vB 14 twice,vI 15 k],[oS 2 159 l2 T_api_Fault.enc]⟩⟩
def lorryref12_faults_L2_D0 (Γ:Gam) (rv:List T_api_Fault) (orders:Int) (l:List A2_Int) (word:ByteArray) (turned:Bool) (l2:List T_api_Fault) (i:Int) (x0:A2_Int) (r:ByteArray) (twice1:Bool):Prop:=lorryref12_faults_G Γ rv ⟨[.c 125247,.b 1,.c 979,.l 244,.b 0,.c 31],⟨123,[vI 0 orders,vL 1 2 l A2_Int.enc,vS 2 word,vB 3 turned,vO 9 0 2 l2 T_api_Fault.enc,vI 10 i,vS 13 (catS (catS word s___7215) r),vB 14 twice1],[oS 2 159 l2 T_api_Fault.enc]⟩⟩
def lorryref12_faults_L1_C (Γ:Gam) (rv:List T_api_Fault) (orders:Int) (l:List A2_Int) (word:ByteArray) (turned:Bool) (l2:List T_api_Fault) (i:Int):Prop:=lorryref12_faults_G Γ rv ⟨[.c 244,.l 244,.b 0,.c 31],⟨123,[vI 0 orders,vL 1 2 l A2_Int.enc,vS 2 word,vB 3 turned,vO 9 0 2 l2 T_api_Fault.enc,vI 10 i],[oS 2 159 l2 T_api_Fault.enc]⟩⟩
def lorryref12_faults_L1_D0 (Γ:Gam) (rv:List T_api_Fault) (orders:Int) (l:List A2_Int) (word:ByteArray) (turned:Bool) (l3:List T_api_Fault):Prop:=lorryref12_faults_G Γ rv ⟨[.c 31],⟨123,[vO 9 0 2 l3 T_api_Fault.enc],[oS 2 159 l3 T_api_Fault.enc]⟩⟩
theorem lorryref12_faults_L2_ok (Γ:Gam) (rv:List T_api_Fault) {orders l word turned l2 i x0 r} {s:Bool × Int} {e:Bool} (h:loopF (fun s=>lorryref12_faults_L2 orders l word turned l2 i x0 r s.1 s.2) s = some e) (hD:lorryref12_faults_L2_D0 Γ rv orders l word turned l2 i x0 r e):lorryref12_faults_L2_C Γ rv orders l word turned l2 i x0 r s.1 s.2:=by
 refine loop_ind (C:=fun (s:Bool × Int)=>lorryref12_faults_L2_C Γ rv orders l word turned l2 i x0 r s.1 s.2) (D:=fun (e:Bool)=>lorryref12_faults_L2_D0 Γ rv orders l word turned l2 i x0 r e) ?_ h hD
 clear h hD s e
 rintro ⟨twice,k⟩ z_ h hI hE
 replace h:lorryref12_faults_L2 orders l word turned l2 i x0 r twice k = _:=h
 unfold lorryref12_faults_L2 at h
 rcases br_elim h with ⟨h9,h⟩|⟨h9,h⟩
 ·rcases br_elim h with ⟨h10,h⟩|⟨h10,h⟩
  ·exact gn 11 [0,1,2,3,9,10,11,12,13,14,15] [0] [bT h9,rp 8 (bT h10),rp 7 kF,rp 2 (bT h10),tT,tT,rp 7 kF,tT,tT,rp 7 kF,tT,tT] (hI _ (oJ h))
  ·obtain ⟨x1,h11,h⟩:=bnd_elim h
   rcases br_elim h with ⟨h12,h⟩|⟨h12,h⟩
   ·rcases br_elim h with ⟨h13,h⟩|⟨h13,h⟩
    ·exact gn 11 [0,1,2,3,9,10,11,12,13,14,15] [0] [bT h9,rp 3 (bF h10),cE A2_Int.enc h11,bF h10,oO (zL 0),oO (lT 0 2),rp 4 (bF h10),rp 3 (bT h12),cE A2_Int.enc h11,bT h12,oO (zL 1),oO (lT 1 2),rp 3 (bT h12),bF h10,bT h12,bF h10,rp 2 (bT h13),rp 7 kF,rp 2 (bT h13),rp 7 kF,rp 2 (bT h13)] (hI _ (oJ h))
    ·rcases br_elim h with ⟨h14,h⟩|⟨h14,h⟩
     ·rcases br_elim h with ⟨h15,h⟩|⟨h15,h⟩
      ·exact gn 11 [0,1,2,3,9,10,11,12,13,14,15] [0] [bT h9,rp 3 (bF h10),cE A2_Int.enc h11,bF h10,oO (zL 0),oO (lT 0 2),rp 4 (bF h10),rp 3 (bT h12),cE A2_Int.enc h11,bT h12,oO (zL 1),oO (lT 1 2),rp 3 (bT h12),bF h10,bT h12,bF h10,rp 2 (bF h13),rp 3 (bT h14),cE A2_Int.enc h11,bT h14,oO (zL 0),oO (lT 0 2),rp 3 (bT h14),bF h13,bT h14,bF h13,rp 3 (bT h15),cE A2_Int.enc h11,bT h15,oO (zL 1),oO (lT 1 2),rp 3 (bT h15),bF h13,bT h15,bF h13] (hI _ (oJ h))
      ·exact gn 11 [0,1,2,3,9,10,11,12,13,14,15] [0] [bT h9,rp 3 (bF h10),cE A2_Int.enc h11,bF h10,oO (zL 0),oO (lT 0 2),rp 4 (bF h10),rp 3 (bT h12),cE A2_Int.enc h11,bT h12,oO (zL 1),oO (lT 1 2),rp 3 (bT h12),bF h10,bT h12,bF h10,rp 2 (bF h13),rp 3 (bT h14),cE A2_Int.enc h11,bT h14,oO (zL 0),oO (lT 0 2),rp 3 (bT h14),bF h13,bT h14,bF h13,rp 7 (bF h15),bF h13,bF h15,bF h13] (hI _ (oJ h))
     ·exact gn 11 [0,1,2,3,9,10,11,12,13,14,15] [0] [bT h9,rp 3 (bF h10),cE A2_Int.enc h11,bF h10,oO (zL 0),oO (lT 0 2),rp 4 (bF h10),rp 3 (bT h12),cE A2_Int.enc h11,bT h12,oO (zL 1),oO (lT 1 2),rp 3 (bT h12),bF h10,bT h12,bF h10,rp 2 (bF h13),rp 7 (bF h14),bF h13,bF h14,bF h13,rp 7 fF,bF h13,fF,bF h13] (hI _ (oJ h))
   ·rcases br_elim h with ⟨h16,h⟩|⟨h16,h⟩
    ·rcases br_elim h with ⟨h17,h⟩|⟨h17,h⟩
     ·exact gn 11 [0,1,2,3,9,10,11,12,13,14,15] [0] [bT h9,rp 3 (bF h10),cE A2_Int.enc h11,bF h10,oO (zL 0),oO (lT 0 2),rp 4 (bF h10),rp 7 (bF h12),bF h10,bF h12,bF h10,fF,fF,rp 3 (bT h16),cE A2_Int.enc h11,bT h16,oO (zL 0),oO (lT 0 2),rp 3 (bT h16),fF,bT h16,fF,rp 3 (bT h17),cE A2_Int.enc h11,bT h17,oO (zL 1),oO (lT 1 2),rp 3 (bT h17),fF,bT h17,fF] (hI _ (oJ h))
     ·exact gn 11 [0,1,2,3,9,10,11,12,13,14,15] [0] [bT h9,rp 3 (bF h10),cE A2_Int.enc h11,bF h10,oO (zL 0),oO (lT 0 2),rp 4 (bF h10),rp 7 (bF h12),bF h10,bF h12,bF h10,fF,fF,rp 3 (bT h16),cE A2_Int.enc h11,bT h16,oO (zL 0),oO (lT 0 2),rp 3 (bT h16),fF,bT h16,fF,rp 7 (bF h17),fF,bF h17,fF] (hI _ (oJ h))
    ·exact gn 11 [0,1,2,3,9,10,11,12,13,14,15] [0] [bT h9,rp 3 (bF h10),cE A2_Int.enc h11,bF h10,oO (zL 0),oO (lT 0 2),rp 4 (bF h10),rp 7 (bF h12),bF h10,bF h12,bF h10,fF,fF,rp 7 (bF h16),fF,bF h16,rp 11 fF] (hI _ (oJ h))
 ·exact gn 5 [0,1,2,3,9,10,13,14] [0] [bF h9] (hE _ (oJ h))
theorem lorryref12_faults_L1_ok (Γ:Gam) (rv:List T_api_Fault) {orders l word turned} {s:List T_api_Fault × Int} {e:List T_api_Fault} (h:loopF (fun s=>lorryref12_faults_L1 orders l word turned s.1 s.2) s = some e) (hD:lorryref12_faults_L1_D0 Γ rv orders l word turned e):lorryref12_faults_L1_C Γ rv orders l word turned s.1 s.2:=by
 refine loop_ind (C:=fun (s:List T_api_Fault × Int)=>lorryref12_faults_L1_C Γ rv orders l word turned s.1 s.2) (D:=fun (e:List T_api_Fault)=>lorryref12_faults_L1_D0 Γ rv orders l word turned e) ?_ h hD
 clear h hD s e
 rintro ⟨l2,i⟩ z_ h hI hE
 replace h:lorryref12_faults_L1 orders l word turned l2 i = _:=h
 unfold lorryref12_faults_L1 at h
 rcases br_elim h with ⟨h2,h⟩|⟨h2,h⟩
 ·obtain ⟨x0,h3,h⟩:=bnd_elim h
  obtain ⟨h4,h⟩:=chk_elim h
  obtain ⟨r,h5,h⟩:=bnd_elim h
  obtain ⟨h6,h⟩:=chk_elim h
  rcases br_elim h with ⟨h7,h⟩|⟨h7,h⟩
  ·obtain ⟨h8,h⟩:=chk_elim h
   exact gn 22 [0,1,2,3,9,10] [2] [nL A2_Int.enc l,bT h2,cE A2_Int.enc h3,oO (zL 0),oO (lT 0 2),cE A2_Int.enc h3,oO (zL 1),oO (lT 1 2),oO (h4),cC (lorryref12_decimal_ok h5),rp 15 hP,oO (h6),rp 2 (oI ((ltI x0.x0 0) = false)),oR True ((ltI x0.x0 0) = false),oI (((ltI x0.x0 0) || (geI x0.x0 orders)) = false),oR True (((ltI x0.x0 0) || (geI x0.x0 orders)) = false),rp 2 (oI ((((ltI x0.x0 0) || (geI x0.x0 orders)) || (ltI x0.x1 0)) = false)),oR True ((((ltI x0.x0 0) || (geI x0.x0 orders)) || (ltI x0.x1 0)) = false),rp 2 (oI (((((ltI x0.x0 0) || (geI x0.x0 orders)) || (ltI x0.x1 0)) || (geI x0.x1 orders)) = false)),oR True (((((ltI x0.x0 0) || (geI x0.x0 orders)) || (ltI x0.x1 0)) || (geI x0.x1 orders)) = false),bT h7,oO (Eq.refl ([(T_api_Fault.mk 2 (catS (catS word s___7215) r))].map T_api_Fault.enc).length),aO T_api_Fault.enc h8] (hI _ (oJ h))
  ·obtain ⟨e0,h18,h⟩:=bnd_elim h
   refine gn 25 [0,1,2,3,9,10,11,12,13,14,15] [0] [nL A2_Int.enc l,bT h2,cE A2_Int.enc h3,oO (zL 0),oO (lT 0 2),cE A2_Int.enc h3,oO (zL 1),oO (lT 1 2),oO (h4),cC (lorryref12_decimal_ok h5),rp 15 hP,oO (h6),rp 2 (oI ((ltI x0.x0 0) = false)),oR True ((ltI x0.x0 0) = false),oI (((ltI x0.x0 0) || (geI x0.x0 orders)) = false),oR True (((ltI x0.x0 0) || (geI x0.x0 orders)) = false),rp 2 (oI ((((ltI x0.x0 0) || (geI x0.x0 orders)) || (ltI x0.x1 0)) = false)),oR True ((((ltI x0.x0 0) || (geI x0.x0 orders)) || (ltI x0.x1 0)) = false),rp 2 (oI (((((ltI x0.x0 0) || (geI x0.x0 orders)) || (ltI x0.x1 0)) || (geI x0.x1 orders)) = false)),oR True (((((ltI x0.x0 0) || (geI x0.x0 orders)) || (ltI x0.x1 0)) || (geI x0.x1 orders)) = false),bF h7] (lorryref12_faults_L2_ok Γ rv h18 ?_)
   obtain ⟨twice1,rfl⟩:∃ x,x = e0:=⟨_,rfl⟩
   replace h:(br twice1 (chk (okN (l2 ++ [(T_api_Fault.mk 6 (catS (catS word s___7215) r))]).length 24) (some (.inl ((l2 ++ [(T_api_Fault.mk 6 (catS (catS word s___7215) r))]),(addK .i64 i 1))))) (some (.inl (l2,(addK .i64 i 1)))):Option ((List T_api_Fault × Int) ⊕ (List T_api_Fault))) = some _:=h
   rcases br_elim h with ⟨h19,h⟩|⟨h19,h⟩
   ·obtain ⟨h20,h⟩:=chk_elim h
    exact gn 7 [0,1,2,3,9,10] [2] [bT h19,oO (Eq.refl ([(T_api_Fault.mk 6 (catS (catS word s___7215) r))].map T_api_Fault.enc).length),aO T_api_Fault.enc h20] (hI _ (oJ h))
   ·exact gn 7 [0,1,2,3,9,10] [0] [bF h19] (hI _ (oJ h))
 ·exact gn 5 [9] [0] [nL A2_Int.enc l,bF h2] (hE _ (oJ h))
theorem lorryref12_faults_J1_ok (Γ:Gam) (rv:List T_api_Fault) {orders l word turned l1} (h:lorryref12_faults_J1 orders l word turned l1 = some rv):lorryref12_faults_G Γ rv ⟨[.c 15],⟨123,[vI 0 orders,vL 1 2 l A2_Int.enc,vS 2 word,vB 3 turned,vO 9 0 2 l1 T_api_Fault.enc],[oS 2 159 l1 T_api_Fault.enc]⟩⟩:=by
 unfold lorryref12_faults_J1 at h
 obtain ⟨e1,h21,h⟩:=bnd_elim h
 refine gn 5 [0,1,2,3,9,10] [0] [] (lorryref12_faults_L1_ok Γ rv h21 ?_)
 obtain ⟨l3,rfl⟩:∃ x,x = e1:=⟨_,rfl⟩
 replace h:(some l3:Option (List T_api_Fault)) = some _:=h
 obtain rfl:=Option.some.inj h
 exact gr 2 [] [hW 4,hH (.frz 0),rp 3 (eL l3 T_api_Fault.enc)]
theorem lorryref12_faults_ok {orders l word turned} {rv:List T_api_Fault} (h:lorryref12_faults orders l word turned = some rv):AFn Tryz.prog 118 [.one (lI orders),.one (lL 2 l A2_Int.enc),.one (.str word),.one (.bool turned)] [] (one (lL 2 rv T_api_Fault.enc)) []:=by
 refine afn_of Tryz.func118 (by kernel_rfl) (by kernel_rfl) (fun Γ=>?_)
 unfold lorryref12_faults at h
 rcases br_elim h with ⟨h0,h⟩|⟨h0,h⟩
 ·obtain ⟨h1,h⟩:=chk_elim h
  exact gn 9 [0,1,2,3,9] [1] [nL A2_Int.enc l,bT h0,oO (Eq.refl ([(T_api_Fault.mk 4 word)].map T_api_Fault.enc).length),aN (l:=([(T_api_Fault.mk 4 word)]:List T_api_Fault)) T_api_Fault.enc h1] (lorryref12_faults_J1_ok Γ rv h)
 ·exact gn 9 [0,1,2,3,9] [0] [nL A2_Int.enc l,bF h0,hW 1,hH (.adopt 9 2 159)] (lorryref12_faults_J1_ok Γ rv h)
def lorryref12_faults_own_G (Γ:Gam) (rv:List T_api_Fault) (cf:Cf):Prop:=Go Tryz.prog Tryz.f118 [] Γ (one (lO 0 2 rv T_api_Fault.enc)) [oS 2 159 rv T_api_Fault.enc] cf
def lorryref12_faults_own_L2_C (Γ:Gam) (rv:List T_api_Fault) (orders:Int) (l:List A2_Int) (word:ByteArray) (turned:Bool) (l2:List T_api_Fault) (i:Int) (x0:A2_Int) (r:ByteArray) (twice:Bool) (k:Int):Prop:=lorryref12_faults_own_G Γ rv ⟨[.c 1001972,.l 1001972,.b 2,.c 125247,.b 1,.c 979,.l 244,.b 0,.c 31],⟨123,[vI 0 orders,vL 1 2 l A2_Int.enc,vS 2 word,vB 3 turned,vO 9 0 2 l2 T_api_Fault.enc,vI 10 i,vI 11 x0.x0,vI 12 x0.x1,vS 13 (catS (catS word s___7215) r),vB 14 twice,vI 15 k],[oS 2 159 l2 T_api_Fault.enc]⟩⟩
def lorryref12_faults_own_L2_D0 (Γ:Gam) (rv:List T_api_Fault) (orders:Int) (l:List A2_Int) (word:ByteArray) (turned:Bool) (l2:List T_api_Fault) (i:Int) (x0:A2_Int) (r:ByteArray) (twice1:Bool):Prop:=lorryref12_faults_own_G Γ rv ⟨[.c 125247,.b 1,.c 979,.l 244,.b 0,.c 31],⟨123,[vI 0 orders,vL 1 2 l A2_Int.enc,vS 2 word,vB 3 turned,vO 9 0 2 l2 T_api_Fault.enc,vI 10 i,vS 13 (catS (catS word s___7215) r),vB 14 twice1],[oS 2 159 l2 T_api_Fault.enc]⟩⟩
def lorryref12_faults_own_L1_C (Γ:Gam) (rv:List T_api_Fault) (orders:Int) (l:List A2_Int) (word:ByteArray) (turned:Bool) (l2:List T_api_Fault) (i:Int):Prop:=lorryref12_faults_own_G Γ rv ⟨[.c 244,.l 244,.b 0,.c 31],⟨123,[vI 0 orders,vL 1 2 l A2_Int.enc,vS 2 word,vB 3 turned,vO 9 0 2 l2 T_api_Fault.enc,vI 10 i],[oS 2 159 l2 T_api_Fault.enc]⟩⟩
def lorryref12_faults_own_L1_D0 (Γ:Gam) (rv:List T_api_Fault) (orders:Int) (l:List A2_Int) (word:ByteArray) (turned:Bool) (l3:List T_api_Fault):Prop:=lorryref12_faults_own_G Γ rv ⟨[.c 31],⟨123,[vO 9 0 2 l3 T_api_Fault.enc],[oS 2 159 l3 T_api_Fault.enc]⟩⟩
theorem lorryref12_faults_own_L2_ok (Γ:Gam) (rv:List T_api_Fault) {orders l word turned l2 i x0 r} {s:Bool × Int} {e:Bool} (h:loopF (fun s=>lorryref12_faults_own_L2 orders l word turned l2 i x0 r s.1 s.2) s = some e) (hD:lorryref12_faults_own_L2_D0 Γ rv orders l word turned l2 i x0 r e):lorryref12_faults_own_L2_C Γ rv orders l word turned l2 i x0 r s.1 s.2:=by
 refine loop_ind (C:=fun (s:Bool × Int)=>lorryref12_faults_own_L2_C Γ rv orders l word turned l2 i x0 r s.1 s.2) (D:=fun (e:Bool)=>lorryref12_faults_own_L2_D0 Γ rv orders l word turned l2 i x0 r e) ?_ h hD
 clear h hD s e
 rintro ⟨twice,k⟩ z_ h hI hE
 replace h:lorryref12_faults_own_L2 orders l word turned l2 i x0 r twice k = _:=h
 unfold lorryref12_faults_own_L2 at h
 rcases br_elim h with ⟨h9,h⟩|⟨h9,h⟩
 ·rcases br_elim h with ⟨h10,h⟩|⟨h10,h⟩
  ·exact gn 11 [0,1,2,3,9,10,11,12,13,14,15] [0] [bT h9,rp 8 (bT h10),rp 7 kF,rp 2 (bT h10),tT,tT,rp 7 kF,tT,tT,rp 7 kF,tT,tT] (hI _ (oJ h))
  ·obtain ⟨x1,h11,h⟩:=bnd_elim h
   rcases br_elim h with ⟨h12,h⟩|⟨h12,h⟩
   ·rcases br_elim h with ⟨h13,h⟩|⟨h13,h⟩
    ·exact gn 11 [0,1,2,3,9,10,11,12,13,14,15] [0] [bT h9,rp 3 (bF h10),cE A2_Int.enc h11,bF h10,oO (zL 0),oO (lT 0 2),rp 4 (bF h10),rp 3 (bT h12),cE A2_Int.enc h11,bT h12,oO (zL 1),oO (lT 1 2),rp 3 (bT h12),bF h10,bT h12,bF h10,rp 2 (bT h13),rp 7 kF,rp 2 (bT h13),rp 7 kF,rp 2 (bT h13)] (hI _ (oJ h))
    ·rcases br_elim h with ⟨h14,h⟩|⟨h14,h⟩
     ·rcases br_elim h with ⟨h15,h⟩|⟨h15,h⟩
      ·exact gn 11 [0,1,2,3,9,10,11,12,13,14,15] [0] [bT h9,rp 3 (bF h10),cE A2_Int.enc h11,bF h10,oO (zL 0),oO (lT 0 2),rp 4 (bF h10),rp 3 (bT h12),cE A2_Int.enc h11,bT h12,oO (zL 1),oO (lT 1 2),rp 3 (bT h12),bF h10,bT h12,bF h10,rp 2 (bF h13),rp 3 (bT h14),cE A2_Int.enc h11,bT h14,oO (zL 0),oO (lT 0 2),rp 3 (bT h14),bF h13,bT h14,bF h13,rp 3 (bT h15),cE A2_Int.enc h11,bT h15,oO (zL 1),oO (lT 1 2),rp 3 (bT h15),bF h13,bT h15,bF h13] (hI _ (oJ h))
      ·exact gn 11 [0,1,2,3,9,10,11,12,13,14,15] [0] [bT h9,rp 3 (bF h10),cE A2_Int.enc h11,bF h10,oO (zL 0),oO (lT 0 2),rp 4 (bF h10),rp 3 (bT h12),cE A2_Int.enc h11,bT h12,oO (zL 1),oO (lT 1 2),rp 3 (bT h12),bF h10,bT h12,bF h10,rp 2 (bF h13),rp 3 (bT h14),cE A2_Int.enc h11,bT h14,oO (zL 0),oO (lT 0 2),rp 3 (bT h14),bF h13,bT h14,bF h13,rp 7 (bF h15),bF h13,bF h15,bF h13] (hI _ (oJ h))
     ·exact gn 11 [0,1,2,3,9,10,11,12,13,14,15] [0] [bT h9,rp 3 (bF h10),cE A2_Int.enc h11,bF h10,oO (zL 0),oO (lT 0 2),rp 4 (bF h10),rp 3 (bT h12),cE A2_Int.enc h11,bT h12,oO (zL 1),oO (lT 1 2),rp 3 (bT h12),bF h10,bT h12,bF h10,rp 2 (bF h13),rp 7 (bF h14),bF h13,bF h14,bF h13,rp 7 fF,bF h13,fF,bF h13] (hI _ (oJ h))
   ·rcases br_elim h with ⟨h16,h⟩|⟨h16,h⟩
    ·rcases br_elim h with ⟨h17,h⟩|⟨h17,h⟩
     ·exact gn 11 [0,1,2,3,9,10,11,12,13,14,15] [0] [bT h9,rp 3 (bF h10),cE A2_Int.enc h11,bF h10,oO (zL 0),oO (lT 0 2),rp 4 (bF h10),rp 7 (bF h12),bF h10,bF h12,bF h10,fF,fF,rp 3 (bT h16),cE A2_Int.enc h11,bT h16,oO (zL 0),oO (lT 0 2),rp 3 (bT h16),fF,bT h16,fF,rp 3 (bT h17),cE A2_Int.enc h11,bT h17,oO (zL 1),oO (lT 1 2),rp 3 (bT h17),fF,bT h17,fF] (hI _ (oJ h))
     ·exact gn 11 [0,1,2,3,9,10,11,12,13,14,15] [0] [bT h9,rp 3 (bF h10),cE A2_Int.enc h11,bF h10,oO (zL 0),oO (lT 0 2),rp 4 (bF h10),rp 7 (bF h12),bF h10,bF h12,bF h10,fF,fF,rp 3 (bT h16),cE A2_Int.enc h11,bT h16,oO (zL 0),oO (lT 0 2),rp 3 (bT h16),fF,bT h16,fF,rp 7 (bF h17),fF,bF h17,fF] (hI _ (oJ h))
    ·exact gn 11 [0,1,2,3,9,10,11,12,13,14,15] [0] [bT h9,rp 3 (bF h10),cE A2_Int.enc h11,bF h10,oO (zL 0),oO (lT 0 2),rp 4 (bF h10),rp 7 (bF h12),bF h10,bF h12,bF h10,fF,fF,rp 7 (bF h16),fF,bF h16,rp 11 fF] (hI _ (oJ h))
 ·exact gn 5 [0,1,2,3,9,10,13,14] [0] [bF h9] (hE _ (oJ h))
theorem lorryref12_faults_own_L1_ok (Γ:Gam) (rv:List T_api_Fault) {orders l word turned} {s:List T_api_Fault × Int} {e:List T_api_Fault} (h:loopF (fun s=>lorryref12_faults_own_L1 orders l word turned s.1 s.2) s = some e) (hD:lorryref12_faults_own_L1_D0 Γ rv orders l word turned e):lorryref12_faults_own_L1_C Γ rv orders l word turned s.1 s.2:=by
 refine loop_ind (C:=fun (s:List T_api_Fault × Int)=>lorryref12_faults_own_L1_C Γ rv orders l word turned s.1 s.2) (D:=fun (e:List T_api_Fault)=>lorryref12_faults_own_L1_D0 Γ rv orders l word turned e) ?_ h hD
 clear h hD s e
 rintro ⟨l2,i⟩ z_ h hI hE
 replace h:lorryref12_faults_own_L1 orders l word turned l2 i = _:=h
 unfold lorryref12_faults_own_L1 at h
 rcases br_elim h with ⟨h2,h⟩|⟨h2,h⟩
 ·obtain ⟨x0,h3,h⟩:=bnd_elim h
  obtain ⟨h4,h⟩:=chk_elim h
  obtain ⟨r,h5,h⟩:=bnd_elim h
  obtain ⟨h6,h⟩:=chk_elim h
  rcases br_elim h with ⟨h7,h⟩|⟨h7,h⟩
  ·obtain ⟨h8,h⟩:=chk_elim h
   exact gn 22 [0,1,2,3,9,10] [2] [nL A2_Int.enc l,bT h2,cE A2_Int.enc h3,oO (zL 0),oO (lT 0 2),cE A2_Int.enc h3,oO (zL 1),oO (lT 1 2),oO (h4),cC (lorryref12_decimal_ok h5),rp 15 hP,oO (h6),rp 2 (oI ((ltI x0.x0 0) = false)),oR True ((ltI x0.x0 0) = false),oI (((ltI x0.x0 0) || (geI x0.x0 orders)) = false),oR True (((ltI x0.x0 0) || (geI x0.x0 orders)) = false),rp 2 (oI ((((ltI x0.x0 0) || (geI x0.x0 orders)) || (ltI x0.x1 0)) = false)),oR True ((((ltI x0.x0 0) || (geI x0.x0 orders)) || (ltI x0.x1 0)) = false),rp 2 (oI (((((ltI x0.x0 0) || (geI x0.x0 orders)) || (ltI x0.x1 0)) || (geI x0.x1 orders)) = false)),oR True (((((ltI x0.x0 0) || (geI x0.x0 orders)) || (ltI x0.x1 0)) || (geI x0.x1 orders)) = false),bT h7,oO (Eq.refl ([(T_api_Fault.mk 2 (catS (catS word s___7215) r))].map T_api_Fault.enc).length),aO T_api_Fault.enc h8] (hI _ (oJ h))
  ·obtain ⟨e0,h18,h⟩:=bnd_elim h
   refine gn 25 [0,1,2,3,9,10,11,12,13,14,15] [0] [nL A2_Int.enc l,bT h2,cE A2_Int.enc h3,oO (zL 0),oO (lT 0 2),cE A2_Int.enc h3,oO (zL 1),oO (lT 1 2),oO (h4),cC (lorryref12_decimal_ok h5),rp 15 hP,oO (h6),rp 2 (oI ((ltI x0.x0 0) = false)),oR True ((ltI x0.x0 0) = false),oI (((ltI x0.x0 0) || (geI x0.x0 orders)) = false),oR True (((ltI x0.x0 0) || (geI x0.x0 orders)) = false),rp 2 (oI ((((ltI x0.x0 0) || (geI x0.x0 orders)) || (ltI x0.x1 0)) = false)),oR True ((((ltI x0.x0 0) || (geI x0.x0 orders)) || (ltI x0.x1 0)) = false),rp 2 (oI (((((ltI x0.x0 0) || (geI x0.x0 orders)) || (ltI x0.x1 0)) || (geI x0.x1 orders)) = false)),oR True (((((ltI x0.x0 0) || (geI x0.x0 orders)) || (ltI x0.x1 0)) || (geI x0.x1 orders)) = false),bF h7] (lorryref12_faults_own_L2_ok Γ rv h18 ?_)
   obtain ⟨twice1,rfl⟩:∃ x,x = e0:=⟨_,rfl⟩
   replace h:(br twice1 (chk (okN (l2 ++ [(T_api_Fault.mk 6 (catS (catS word s___7215) r))]).length 24) (some (.inl ((l2 ++ [(T_api_Fault.mk 6 (catS (catS word s___7215) r))]),(addK .i64 i 1))))) (some (.inl (l2,(addK .i64 i 1)))):Option ((List T_api_Fault × Int) ⊕ (List T_api_Fault))) = some _:=h
   rcases br_elim h with ⟨h19,h⟩|⟨h19,h⟩
   ·obtain ⟨h20,h⟩:=chk_elim h
    exact gn 7 [0,1,2,3,9,10] [2] [bT h19,oO (Eq.refl ([(T_api_Fault.mk 6 (catS (catS word s___7215) r))].map T_api_Fault.enc).length),aO T_api_Fault.enc h20] (hI _ (oJ h))
   ·exact gn 7 [0,1,2,3,9,10] [0] [bF h19] (hI _ (oJ h))
 ·exact gn 5 [9] [0] [nL A2_Int.enc l,bF h2] (hE _ (oJ h))
theorem lorryref12_faults_own_J1_ok (Γ:Gam) (rv:List T_api_Fault) {orders l word turned l1} (h:lorryref12_faults_own_J1 orders l word turned l1 = some rv):lorryref12_faults_own_G Γ rv ⟨[.c 15],⟨123,[vI 0 orders,vL 1 2 l A2_Int.enc,vS 2 word,vB 3 turned,vO 9 0 2 l1 T_api_Fault.enc],[oS 2 159 l1 T_api_Fault.enc]⟩⟩:=by
 unfold lorryref12_faults_own_J1 at h
 obtain ⟨e1,h21,h⟩:=bnd_elim h
 refine gn 5 [0,1,2,3,9,10] [0] [] (lorryref12_faults_own_L1_ok Γ rv h21 ?_)
 obtain ⟨l3,rfl⟩:∃ x,x = e1:=⟨_,rfl⟩
 replace h:(some l3:Option (List T_api_Fault)) = some _:=h
 obtain rfl:=Option.some.inj h
 exact gr 2 [0] []
theorem lorryref12_faults_own_ok {orders l word turned} {rv:List T_api_Fault} (h:lorryref12_faults_own orders l word turned = some rv):AFn Tryz.prog 118 [.one (lI orders),.one (lL 2 l A2_Int.enc),.one (.str word),.one (.bool turned)] [] (one (lO 0 2 rv T_api_Fault.enc)) [oS 2 159 rv T_api_Fault.enc]:=by
 refine afn_of Tryz.func118 (by kernel_rfl) (by kernel_rfl) (fun Γ=>?_)
 unfold lorryref12_faults_own at h
 rcases br_elim h with ⟨h0,h⟩|⟨h0,h⟩
 ·obtain ⟨h1,h⟩:=chk_elim h
  exact gn 9 [0,1,2,3,9] [1] [nL A2_Int.enc l,bT h0,oO (Eq.refl ([(T_api_Fault.mk 4 word)].map T_api_Fault.enc).length),aN (l:=([(T_api_Fault.mk 4 word)]:List T_api_Fault)) T_api_Fault.enc h1] (lorryref12_faults_own_J1_ok Γ rv h)
 ·exact gn 9 [0,1,2,3,9] [0] [nL A2_Int.enc l,bF h0,hW 1,hH (.adopt 9 2 159)] (lorryref12_faults_own_J1_ok Γ rv h)
theorem lorryref12_Check_ok {orders apart before} {rv:List T_api_Fault} (h:lorryref12_Check orders apart before = some rv):AFn Tryz.prog 72 [.one (lI orders),.one (lL 2 apart A2_Int.enc),.one (lL 2 before A2_Int.enc)] [] (one (lL 2 rv T_api_Fault.enc)) []:=by
 refine afn_of Tryz.func72 (by kernel_rfl) (by kernel_rfl) (fun Γ=>?_)
 unfold lorryref12_Check at h
 obtain ⟨r,h0,h⟩:=bnd_elim h
 obtain ⟨r1,h1,h⟩:=bnd_elim h
 obtain ⟨h2,h⟩:=chk_elim h
 obtain rfl:=Option.some.inj h
 exact gr 6 [] [cC (lorryref12_faults_own_ok h0),cC (lorryref12_faults_ok h1),aO T_api_Fault.enc h2,hW 1,hH (.frz 1),rp 2 (oO (Eq.refl ((r ++ r1).map T_api_Fault.enc).length))]
def lorryref13_under_own_G (Γ:Gam) (rv:List T_api_Fault) (cf:Cf):Prop:=Go Tryz.prog Tryz.f67 [] Γ (one (lO 0 2 rv T_api_Fault.enc)) [oS 2 159 rv T_api_Fault.enc] cf
def lorryref13_under_own_L1_C (Γ:Gam) (rv:List T_api_Fault) (word:ByteArray) (l:List T_api_Fault) (l1:List T_api_Fault) (i:Int):Prop:=lorryref13_under_own_G Γ rv ⟨[.c 116,.l 116,.b 0,.c 15],⟨40,[vS 0 word,vL 1 2 l T_api_Fault.enc,vO 5 0 2 l1 T_api_Fault.enc,vI 6 i],[oS 2 159 l1 T_api_Fault.enc]⟩⟩
def lorryref13_under_own_L1_D0 (Γ:Gam) (rv:List T_api_Fault) (word:ByteArray) (l:List T_api_Fault) (l2:List T_api_Fault):Prop:=lorryref13_under_own_G Γ rv ⟨[.c 15],⟨40,[vO 5 0 2 l2 T_api_Fault.enc],[oS 2 159 l2 T_api_Fault.enc]⟩⟩
theorem lorryref13_under_own_J1_ok (Γ:Gam) (rv:List T_api_Fault) {word l l1 i at_} {x:(List T_api_Fault × Int) ⊕ (List T_api_Fault)} (h:lorryref13_under_own_J1 word l l1 i at_ = some x) (hI:∀ s:List T_api_Fault × Int,x = .inl s→lorryref13_under_own_L1_C Γ rv word l s.1 s.2) (hE:∀ e:List T_api_Fault,x = .inr e→lorryref13_under_own_L1_D0 Γ rv word l e):lorryref13_under_own_G Γ rv ⟨[.c 3731,.b 1,.c 467,.l 116,.b 0,.c 15],⟨40,[vS 0 word,vL 1 2 l T_api_Fault.enc,vO 5 0 2 l1 T_api_Fault.enc,vI 6 i,vS 7 at_],[oS 2 159 l1 T_api_Fault.enc]⟩⟩:=by
 unfold lorryref13_under_own_J1 at h
 obtain ⟨x1,h5,h⟩:=bnd_elim h
 obtain ⟨h6,h⟩:=chk_elim h
 exact gn 4 [0,1,5,6] [2] [cE T_api_Fault.enc h5,oO (Eq.refl ([(T_api_Fault.mk x1.err at_)].map T_api_Fault.enc).length),aO T_api_Fault.enc h6] (hI _ (oJ h))
theorem lorryref13_under_own_L1_ok (Γ:Gam) (rv:List T_api_Fault) {word l} {s:List T_api_Fault × Int} {e:List T_api_Fault} (h:loopF (fun s=>lorryref13_under_own_L1 word l s.1 s.2) s = some e) (hD:lorryref13_under_own_L1_D0 Γ rv word l e):lorryref13_under_own_L1_C Γ rv word l s.1 s.2:=by
 refine loop_ind (C:=fun (s:List T_api_Fault × Int)=>lorryref13_under_own_L1_C Γ rv word l s.1 s.2) (D:=fun (e:List T_api_Fault)=>lorryref13_under_own_L1_D0 Γ rv word l e) ?_ h hD
 clear h hD s e
 rintro ⟨l1,i⟩ z_ h hI hE
 replace h:lorryref13_under_own_L1 word l l1 i = _:=h
 unfold lorryref13_under_own_L1 at h
 rcases br_elim h with ⟨h0,h⟩|⟨h0,h⟩
 ·obtain ⟨x0,h1,h⟩:=bnd_elim h
  rcases br_elim h with ⟨h2,h⟩|⟨h2,h⟩
  ·exact gn 14 [0,1,5,6,7] [0] [nL T_api_Fault.enc l,bT h0,cE T_api_Fault.enc h1,nF h2] (lorryref13_under_own_J1_ok Γ rv h hI hE)
  ·obtain ⟨h3,h⟩:=chk_elim h
   obtain ⟨h4,h⟩:=chk_elim h
   exact gn 14 [0,1,5,6,7] [0] [nL T_api_Fault.enc l,bT h0,cE T_api_Fault.enc h1,nT h2,oO (h3),cE T_api_Fault.enc h1,oO (h4)] (lorryref13_under_own_J1_ok Γ rv h hI hE)
 ·exact gn 5 [5] [0] [nL T_api_Fault.enc l,bF h0] (hE _ (oJ h))
theorem lorryref13_under_own_ok {word l} {rv:List T_api_Fault} (h:lorryref13_under_own word l = some rv):AFn Tryz.prog 67 [.one (.str word),.one (lL 2 l T_api_Fault.enc)] [] (one (lO 0 2 rv T_api_Fault.enc)) [oS 2 159 rv T_api_Fault.enc]:=by
 refine afn_of Tryz.func67 (by kernel_rfl) (by kernel_rfl) (fun Γ=>?_)
 unfold lorryref13_under_own at h
 obtain ⟨e0,h7,h⟩:=bnd_elim h
 refine gn 9 [0,1,5,6] [0] [hW 12,hH (.adopt 5 2 159)] (lorryref13_under_own_L1_ok Γ rv h7 ?_)
 obtain ⟨l2,rfl⟩:∃ x,x = e0:=⟨_,rfl⟩
 replace h:(some l2:Option (List T_api_Fault)) = some _:=h
 obtain rfl:=Option.some.inj h
 exact gr 2 [0] []
theorem lorryref13_Check_ok {x0} {rv:List T_api_Fault} (h:lorryref13_Check x0 = some rv):AFn Tryz.prog 37 [.agg (T_api_Instance.enc x0)] [] (one (lL 2 rv T_api_Fault.enc)) []:=by
 refine afn_of Tryz.func37 (by kernel_rfl) (by kernel_rfl) (fun Γ=>?_)
 unfold lorryref13_Check at h
 obtain ⟨r,h0,h⟩:=bnd_elim h
 obtain ⟨r1,h1,h⟩:=bnd_elim h
 obtain ⟨r2,h2,h⟩:=bnd_elim h
 obtain ⟨r3,h3,h⟩:=bnd_elim h
 obtain ⟨h4,h⟩:=chk_elim h
 obtain ⟨r4,h5,h⟩:=bnd_elim h
 obtain ⟨r5,h6,h⟩:=bnd_elim h
 obtain ⟨r6,h7,h⟩:=bnd_elim h
 obtain ⟨h8,h⟩:=chk_elim h
 obtain ⟨r7,h9,h⟩:=bnd_elim h
 obtain ⟨r8,h10,h⟩:=bnd_elim h
 obtain ⟨h11,h⟩:=chk_elim h
 obtain rfl:=Option.some.inj h
 exact gr 12 [] [cC (lorryref09_Check_ok h0),cC (lorryref13_under_own_ok h1),cC (lorryref10_Check_ok h2),cC (lorryref13_under_ok h3),aO T_api_Fault.enc h4,hH (.draw 13 []),cC (lorryref10_Dims_ok h5),nL T_api_Type.enc x0.types,cC (lorryref11_Check_ok h6),cC (lorryref13_under_ok h7),aO T_api_Fault.enc h8,nL T_api_Order.enc x0.orders,cC (lorryref12_Check_ok h9),cC (lorryref13_under_ok h10),aO T_api_Fault.enc h11,hW 5,hH (.frz 4),rp 4 (oO (Eq.refl ((((r1 ++ r3) ++ r6) ++ r8).map T_api_Fault.enc).length))]
theorem order_there_ok {l at_} {rv:Bool} (h:order_there l at_ = some rv):AFn Tryz.prog 148 [.one (lL 16 l T_api_Order.enc),.one (lI at_)] [] (one (.bool rv)) []:=by
 refine afn_of Tryz.func148 (by kernel_rfl) (by kernel_rfl) (fun Γ=>?_)
 unfold order_there at h
 obtain rfl:=Option.some.inj h
 exact gr 4 [] [hP,hP,hP,oI ((geI at_ 0) = true),nL T_api_Order.enc l,hP,hP,rp 2 (oI ((geI at_ 0) = true)),oR True ((geI at_ 0) = true)]
def order_Stop_G (Γ:Gam) (rv:T_api_Stop × Int) (cf:Cf):Prop:=Go Tryz.prog Tryz.f109 [] Γ (.tup [.agg [lI rv.1.place,lI rv.1.open_,lI rv.1.close,lI rv.1.service],.one (lI rv.2)]) [] cf
theorem order_Stop_J1_ok (Γ:Gam) (rv:T_api_Stop × Int) {x1} (h:order_Stop_J1 x1 = some rv):order_Stop_G Γ rv ⟨[.c 31],⟨32,[vP 4 0 4,vP 6 1 4],[oX 4 69 [lI 0,lI 0,lI 0,lI 0],oX 4 69 (T_api_Stop.enc x1)]⟩⟩:=by
 unfold order_Stop_J1 at h
 rcases br_elim h with ⟨h4,h⟩|⟨h4,h⟩
 ·obtain rfl:=Option.some.inj h
  exact gr 6 [] [bT h4]
 ·obtain rfl:=Option.some.inj h
  exact gr 7 [] [bF h4]
theorem order_Stop_ok {l v} {rv:T_api_Stop × Int} (h:order_Stop l v = some rv):AFn Tryz.prog 109 [.one (lL 16 l T_api_Order.enc),.agg (T_api_Visit.enc v)] [] (.tup [.agg [lI rv.1.place,lI rv.1.open_,lI rv.1.close,lI rv.1.service],.one (lI rv.2)]) []:=by
 refine afn_of Tryz.func109 (by kernel_rfl) (by kernel_rfl) (fun Γ=>?_)
 unfold order_Stop at h
 obtain ⟨r,h0,h⟩:=bnd_elim h
 rcases br_elim h with ⟨h1,h⟩|⟨h1,h⟩
 ·obtain ⟨x0,h2,h⟩:=bnd_elim h
  rcases br_elim h with ⟨h3,h⟩|⟨h3,h⟩
  ·exact gn 14 [4,6] [1,2] [cC (order_there_ok h0),nF h1,cE T_api_Order.enc h2,bT h3,cE T_api_Order.enc h2] (order_Stop_J1_ok Γ rv h)
  ·exact gn 14 [4,6] [1,2] [cC (order_there_ok h0),nF h1,cE T_api_Order.enc h2,bF h3] (order_Stop_J1_ok Γ rv h)
 ·obtain rfl:=Option.some.inj h
  exact gr 8 [] [cC (order_there_ok h0),nT h1]
def drive_plan_G (Γ:Gam) (rv:T_drive_trip × Bool) (cf:Cf):Prop:=Go Tryz.prog Tryz.f62 [] Γ (.tup [.agg [lL 1 rv.1.x.net.places e_str,lL 6 rv.1.x.net.arcs T_api_Arc.enc,lL 14 rv.1.x.types T_api_Type.enc,lL 16 rv.1.x.orders T_api_Order.enc,lL 2 rv.1.x.apart A2_Int.enc,lL 2 rv.1.x.before A2_Int.enc,.str rv.1.t.name,lI rv.1.t.count,lI rv.1.t.from_,lI rv.1.t.to_,lL 1 rv.1.t.cap e_i64,lI rv.1.t.skills,lI rv.1.t.profile,lI rv.1.t.open_,lI rv.1.t.close,lI rv.1.t.drive,lI rv.1.t.rest_,lI rv.1.t.fixed,lI rv.1.t.perMile,lI rv.1.t.perTick,lI rv.1.r.type_,lI rv.1.r.start,lL 1 rv.1.r.rests e_bool,lL 2 rv.1.r.visits T_api_Visit.enc,lL 4 rv.1.stops T_api_Stop.enc],.one (.bool rv.2)]) [] cf
def drive_plan_L1_C (Γ:Gam) (rv:T_drive_trip × Bool) (x0:T_api_Instance) (r:T_api_Route) (x1:T_api_Type) (l:List T_api_Stop) (v:Int):Prop:=drive_plan_G Γ rv ⟨[.c 244,.l 244,.b 0,.c 31],⟨78,[vP 2 0 6,vP 4 1 25,vP 6 2 25,vL 49 2 r.visits T_api_Visit.enc,vI 50 (lenI r.visits),vI 51 v],[oX 6 30 (T_api_Instance.enc x0),oX 25 98 [.nils,.nils,.nils,.nils,.nils,.nils,.str ByteArray.empty,lI 0,lI 0,lI 0,.nils,lI 0,lI 0,lI 0,lI 0,lI 0,lI 0,lI 0,lI 0,lI 0,lI 0,lI 0,.nils,.nils,.nils],oX 25 98 [lL 1 x0.net.places e_str,lL 6 x0.net.arcs T_api_Arc.enc,lL 14 x0.types T_api_Type.enc,lL 16 x0.orders T_api_Order.enc,lL 2 x0.apart A2_Int.enc,lL 2 x0.before A2_Int.enc,.str x1.name,lI x1.count,lI x1.from_,lI x1.to_,lL 1 x1.cap e_i64,lI x1.skills,lI x1.profile,lI x1.open_,lI x1.close,lI x1.drive,lI x1.rest_,lI x1.fixed,lI x1.perMile,lI x1.perTick,lI r.type_,lI r.start,lL 1 r.rests e_bool,lL 2 r.visits T_api_Visit.enc,lO 3 4 l T_api_Stop.enc],oS 4 69 l T_api_Stop.enc]⟩⟩
def drive_plan_L1_D0 (Γ:Gam) (rv:T_drive_trip × Bool) (x0:T_api_Instance) (r:T_api_Route) (x1:T_api_Type) (l1:List T_api_Stop):Prop:=drive_plan_G Γ rv ⟨[.c 31],⟨78,[vP 4 0 25,vP 6 1 25],[oX 25 98 [.nils,.nils,.nils,.nils,.nils,.nils,.str ByteArray.empty,lI 0,lI 0,lI 0,.nils,lI 0,lI 0,lI 0,lI 0,lI 0,lI 0,lI 0,lI 0,lI 0,lI 0,lI 0,.nils,.nils,.nils],oX 25 98 [lL 1 x0.net.places e_str,lL 6 x0.net.arcs T_api_Arc.enc,lL 14 x0.types T_api_Type.enc,lL 16 x0.orders T_api_Order.enc,lL 2 x0.apart A2_Int.enc,lL 2 x0.before A2_Int.enc,.str x1.name,lI x1.count,lI x1.from_,lI x1.to_,lL 1 x1.cap e_i64,lI x1.skills,lI x1.profile,lI x1.open_,lI x1.close,lI x1.drive,lI x1.rest_,lI x1.fixed,lI x1.perMile,lI x1.perTick,lI r.type_,lI r.start,lL 1 r.rests e_bool,lL 2 r.visits T_api_Visit.enc,lO 2 4 l1 T_api_Stop.enc],oS 4 69 l1 T_api_Stop.enc]⟩⟩
theorem drive_plan_L1_ok (Γ:Gam) (rv:T_drive_trip × Bool) {x0 r x1} {s:List T_api_Stop × Int} {e:(List T_api_Stop) ⊕ (T_drive_trip × Bool)} (h:loopF (fun s=>drive_plan_L1 x0 r x1 s.1 s.2) s = some e) (hD:sel e (fun e=>drive_plan_L1_D0 Γ rv x0 r x1 e) (fun e=>e = rv)):drive_plan_L1_C Γ rv x0 r x1 s.1 s.2:=by
 refine loop_ind (C:=fun (s:List T_api_Stop × Int)=>drive_plan_L1_C Γ rv x0 r x1 s.1 s.2) (D:=fun (e:(List T_api_Stop) ⊕ (T_drive_trip × Bool))=>sel e (fun e=>drive_plan_L1_D0 Γ rv x0 r x1 e) (fun e=>e = rv)) ?_ h hD
 clear h hD s e
 rintro ⟨l,v⟩ z_ h hI hE
 replace h:drive_plan_L1 x0 r x1 l v = _:=h
 unfold drive_plan_L1 at h
 rcases br_elim h with ⟨h2,h⟩|⟨h2,h⟩
 ·obtain ⟨x2,h3,h⟩:=bnd_elim h
  obtain ⟨r1,h4,h⟩:=bnd_elim h
  rcases br_elim h with ⟨h5,h⟩|⟨h5,h⟩
  ·obtain rfl:=(hE _ (oJ h):_ = rv)
   exact gr 17 [] [bT h2,cE T_api_Visit.enc h3,cC (order_Stop_ok h4),rp 4 hP,rp 2 (oI ((neI r1.2 0) = false)),oR True ((neI r1.2 0) = false),bT h5,hW 5,hH (.nilB 1 0 1),hH (.nilB 1 1 6),hH (.nilB 1 2 14),hH (.nilB 1 3 16),hH (.nilB 1 4 2),hH (.nilB 1 5 2),hH (.nilB 1 10 1),hH (.nilB 1 22 1),hH (.nilB 1 23 2),hH (.nilB 1 24 4)]
  ·obtain ⟨h6,h⟩:=chk_elim h
   exact gn 20 [2,4,6,49,50,51] [0,1,2,7] [bT h2,cE T_api_Visit.enc h3,cC (order_Stop_ok h4),rp 4 hP,rp 2 (oI ((neI r1.2 0) = false)),oR True ((neI r1.2 0) = false),bF h5,oO (Eq.refl ([r1.1].map T_api_Stop.enc).length),aO T_api_Stop.enc h6] (hI _ (oJ h))
 ·exact gn 5 [4,6] [1,2,3] [bF h2] (hE _ (oJ h))
theorem drive_plan_ok {x0 r} {rv:T_drive_trip × Bool} (h:drive_plan x0 r = some rv):AFn Tryz.prog 62 [.agg (T_api_Instance.enc x0),.agg (T_api_Route.enc r)] [] (.tup [.agg [lL 1 rv.1.x.net.places e_str,lL 6 rv.1.x.net.arcs T_api_Arc.enc,lL 14 rv.1.x.types T_api_Type.enc,lL 16 rv.1.x.orders T_api_Order.enc,lL 2 rv.1.x.apart A2_Int.enc,lL 2 rv.1.x.before A2_Int.enc,.str rv.1.t.name,lI rv.1.t.count,lI rv.1.t.from_,lI rv.1.t.to_,lL 1 rv.1.t.cap e_i64,lI rv.1.t.skills,lI rv.1.t.profile,lI rv.1.t.open_,lI rv.1.t.close,lI rv.1.t.drive,lI rv.1.t.rest_,lI rv.1.t.fixed,lI rv.1.t.perMile,lI rv.1.t.perTick,lI rv.1.r.type_,lI rv.1.r.start,lL 1 rv.1.r.rests e_bool,lL 2 rv.1.r.visits T_api_Visit.enc,lL 4 rv.1.stops T_api_Stop.enc],.one (.bool rv.2)]) []:=by
 refine afn_of Tryz.func62 (by kernel_rfl) (by kernel_rfl) (fun Γ=>?_)
 unfold drive_plan at h
 rcases br_elim h with ⟨h0,h⟩|⟨h0,h⟩
 ·obtain rfl:=Option.some.inj h
  exact gr 8 [] [rp 5 hP,rp 3 (oI ((ltI r.type_ 0) = false)),nL T_api_Type.enc x0.types,rp 13 hP,rp 2 (oI ((ltI r.type_ 0) = false)),oR True ((ltI r.type_ 0) = false),rp 2 (oI (((ltI r.type_ 0) || (geI r.type_ (lenI x0.types))) = false)),oR True (((ltI r.type_ 0) || (geI r.type_ (lenI x0.types))) = false),rp 2 (oI ((((ltI r.type_ 0) || (geI r.type_ (lenI x0.types))) || (ltI r.start 0)) = false)),oR True ((((ltI r.type_ 0) || (geI r.type_ (lenI x0.types))) || (ltI r.start 0)) = false),rp 2 (oI (((((ltI r.type_ 0) || (geI r.type_ (lenI x0.types))) || (ltI r.start 0)) || (gtI r.start 4096)) = false)),nL T_api_Visit.enc r.visits,hP,hP,oI (((((ltI r.type_ 0) || (geI r.type_ (lenI x0.types))) || (ltI r.start 0)) || (gtI r.start 4096)) = false),oR True (((((ltI r.type_ 0) || (geI r.type_ (lenI x0.types))) || (ltI r.start 0)) || (gtI r.start 4096)) = false),bT h0,hW 5,hH (.nilB 2 0 1),hH (.nilB 2 1 6),hH (.nilB 2 2 14),hH (.nilB 2 3 16),hH (.nilB 2 4 2),hH (.nilB 2 5 2),hH (.nilB 2 10 1),hH (.nilB 2 22 1),hH (.nilB 2 23 2),hH (.nilB 2 24 4)]
 ·obtain ⟨x1,h1,h⟩:=bnd_elim h
  obtain ⟨e0,h7,h⟩:=bnd_elim h
  refine gn 14 [2,4,6,49,50,51] [0,2,3,4] [rp 5 hP,rp 3 (oI ((ltI r.type_ 0) = false)),nL T_api_Type.enc x0.types,rp 13 hP,rp 2 (oI ((ltI r.type_ 0) = false)),oR True ((ltI r.type_ 0) = false),rp 2 (oI (((ltI r.type_ 0) || (geI r.type_ (lenI x0.types))) = false)),oR True (((ltI r.type_ 0) || (geI r.type_ (lenI x0.types))) = false),rp 2 (oI ((((ltI r.type_ 0) || (geI r.type_ (lenI x0.types))) || (ltI r.start 0)) = false)),oR True ((((ltI r.type_ 0) || (geI r.type_ (lenI x0.types))) || (ltI r.start 0)) = false),rp 2 (oI (((((ltI r.type_ 0) || (geI r.type_ (lenI x0.types))) || (ltI r.start 0)) || (gtI r.start 4096)) = false)),nL T_api_Visit.enc r.visits,hP,hP,oI (((((ltI r.type_ 0) || (geI r.type_ (lenI x0.types))) || (ltI r.start 0)) || (gtI r.start 4096)) = false),oR True (((((ltI r.type_ 0) || (geI r.type_ (lenI x0.types))) || (ltI r.start 0)) || (gtI r.start 4096)) = false),bF h0,hH (.draw 10 []),cE T_api_Type.enc h1,nL T_api_Visit.enc r.visits,hW 3,hH (.adoptB 3 24 4 69)] (drive_plan_L1_ok Γ rv h7 ?_)
  rcases e0 with e0|e0
  ·obtain ⟨l1,rfl⟩:∃ x,x = e0:=⟨_,rfl⟩
   replace h:(some ((T_drive_trip.mk x0 x1 r l1),true):Option (T_drive_trip × Bool)) = some _:=h
   obtain rfl:=Option.some.inj h
   exact gr 2 [] [hW 5,hH (.frz 2),rp 3 (eL l1 T_api_Stop.enc)]
  ·obtain ⟨r2,rfl⟩:∃ x,x = e0:=⟨_,rfl⟩
   replace h:(some r2:Option (T_drive_trip × Bool)) = some _:=h
   exact Option.some.inj h
def drive_rests_G (Γ:Gam) (rv:List Bool) (cf:Cf):Prop:=Go Tryz.prog Tryz.f63 [] Γ (one (lL 1 rv e_bool)) [] cf
def drive_rests_L1_C (Γ:Gam) (rv:List Bool) (s0:T_api_Sheet) (l:List Bool) (v:Int):Prop:=drive_rests_G Γ rv ⟨[.c 116,.l 116,.b 0,.c 15],⟨23,[vO 3 0 1 l e_bool,vL 10 4 s0.times T_api_Time.enc,vI 11 (lenI s0.times),vI 12 v],[oS 1 4 l e_bool]⟩⟩
def drive_rests_L1_D0 (Γ:Gam) (rv:List Bool) (s0:T_api_Sheet) (l1:List Bool):Prop:=drive_rests_G Γ rv ⟨[.c 15],⟨23,[vO 3 0 1 l1 e_bool],[oS 1 4 l1 e_bool]⟩⟩
theorem drive_rests_L1_ok (Γ:Gam) (rv:List Bool) {s0} {s:List Bool × Int} {e:List Bool} (h:loopF (fun s=>drive_rests_L1 s0 s.1 s.2) s = some e) (hD:drive_rests_L1_D0 Γ rv s0 e):drive_rests_L1_C Γ rv s0 s.1 s.2:=by
 refine loop_ind (C:=fun (s:List Bool × Int)=>drive_rests_L1_C Γ rv s0 s.1 s.2) (D:=fun (e:List Bool)=>drive_rests_L1_D0 Γ rv s0 e) ?_ h hD
 clear h hD s e
 rintro ⟨l,v⟩ z_ h hI hE
 replace h:drive_rests_L1 s0 l v = _:=h
 unfold drive_rests_L1 at h
 rcases br_elim h with ⟨h0,h⟩|⟨h0,h⟩
 ·obtain ⟨x0,h1,h⟩:=bnd_elim h
  obtain ⟨h2,h⟩:=chk_elim h
  exact gn 13 [3,10,11,12] [3] [bT h0,cE T_api_Time.enc h1,oO (Eq.refl ([x0.rest_].map e_bool).length),aO e_bool h2] (hI _ (oJ h))
 ·exact gn 5 [3] [0] [bF h0] (hE _ (oJ h))
theorem drive_rests_ok {s0} {rv:List Bool} (h:drive_rests s0 = some rv):AFn Tryz.prog 63 [.agg (T_api_Sheet.enc s0)] [] (one (lL 1 rv e_bool)) []:=by
 refine afn_of Tryz.func63 (by kernel_rfl) (by kernel_rfl) (fun Γ=>?_)
 unfold drive_rests at h
 obtain ⟨e0,h3,h⟩:=bnd_elim h
 refine gn 9 [3,10,11,12] [1] [nL T_api_Time.enc s0.times] (drive_rests_L1_ok Γ rv h3 ?_)
 obtain ⟨l1,rfl⟩:∃ x,x = e0:=⟨_,rfl⟩
 replace h:(some l1:Option (List Bool)) = some _:=h
 obtain rfl:=Option.some.inj h
 exact gr 2 [] [hW 4,hH (.frz 0),rp 3 (eL l1 e_bool)]
def slices_Equal___bool_bool__G (Γ:Gam) (rv:Bool) (cf:Cf):Prop:=Go Tryz.prog Tryz.f64 [] Γ (one (.bool rv)) [] cf
def slices_Equal___bool_bool__L1_C (Γ:Gam) (rv:Bool) (s1:List Bool) (s2:List Bool) (v:Int):Prop:=slices_Equal___bool_bool__G Γ rv ⟨[.c 116,.l 116,.b 0,.c 15],⟨26,[vL 0 1 s1 e_bool,vL 1 1 s2 e_bool,vI 12 (lenI s1),vI 13 v],[]⟩⟩
def slices_Equal___bool_bool__L1_D0 (Γ:Gam) (rv:Bool) (s1:List Bool) (s2:List Bool):Prop:=slices_Equal___bool_bool__G Γ rv ⟨[.c 15],⟨26,[],[]⟩⟩
theorem slices_Equal___bool_bool__L1_ok (Γ:Gam) (rv:Bool) {s1 s2} {s:Int} {e:(Unit) ⊕ (Bool)} (h:loopF (fun s=>slices_Equal___bool_bool__L1 s1 s2 s) s = some e) (hD:sel e (fun e=>slices_Equal___bool_bool__L1_D0 Γ rv s1 s2) (fun e=>e = rv)):slices_Equal___bool_bool__L1_C Γ rv s1 s2 s:=by
 refine loop_ind (C:=fun (s:Int)=>slices_Equal___bool_bool__L1_C Γ rv s1 s2 s) (D:=fun (e:(Unit) ⊕ (Bool))=>sel e (fun e=>slices_Equal___bool_bool__L1_D0 Γ rv s1 s2) (fun e=>e = rv)) ?_ h hD
 clear h hD s e
 intro v z_ h hI hE
 replace h:slices_Equal___bool_bool__L1 s1 s2 v = _:=h
 unfold slices_Equal___bool_bool__L1 at h
 rcases br_elim h with ⟨h1,h⟩|⟨h1,h⟩
 ·obtain ⟨x0,h2,h⟩:=bnd_elim h
  obtain ⟨x1,h3,h⟩:=bnd_elim h
  rcases br_elim h with ⟨h4,h⟩|⟨h4,h⟩
  ·exact gn 16 [0,1,12,13] [] [bT h1,hH (.draw 9 []),cE e_bool h2,cE e_bool h3,nF h4] (hI _ (oJ h))
  ·obtain rfl:=(hE _ (oJ h):_ = rv)
   exact gr 14 [] [bT h1,hH (.draw 9 []),cE e_bool h2,cE e_bool h3,nT h4]
 ·exact gn 5 [] [] [bF h1] (hE _ (oJ h))
theorem slices_Equal___bool_bool__ok {s1 s2} {rv:Bool} (h:slices_Equal___bool_bool_ s1 s2 = some rv):AFn Tryz.prog 64 [.one (lL 1 s1 e_bool),.one (lL 1 s2 e_bool)] [] (one (.bool rv)) []:=by
 refine afn_of Tryz.func64 (by kernel_rfl) (by kernel_rfl) (fun Γ=>?_)
 unfold slices_Equal___bool_bool_ at h
 rcases br_elim h with ⟨h0,h⟩|⟨h0,h⟩
 ·obtain rfl:=Option.some.inj h
  exact gr 8 [] [nL e_bool s1,nL e_bool s2,bT h0]
 ·obtain ⟨e0,h5,h⟩:=bnd_elim h
  refine gn 12 [0,1,12,13] [] [nL e_bool s1,nL e_bool s2,bF h0,nL e_bool s1] (slices_Equal___bool_bool__L1_ok Γ rv h5 ?_)
  rcases e0 with e0|e0
  ·replace h:(some true:Option Bool) = some _:=h
   obtain rfl:=Option.some.inj h
   exact gr 2 [] []
  ·obtain ⟨r,rfl⟩:∃ x,x = e0:=⟨_,rfl⟩
   replace h:(some r:Option Bool) = some _:=h
   exact Option.some.inj h
theorem drive_trip_begin_ok {p} {rv:T_drive_label} (h:drive_trip_begin p = some rv):AFn Tryz.prog 88 [.agg (T_drive_trip.enc p)] [] (gG [lI rv.ready,lI rv.since,.bool rv.sheet.rest_,lI rv.sheet.depart,lL 4 rv.sheet.times T_api_Time.enc,lI rv.sheet.end_,lI rv.sheet.miles]) []:=by
 refine afn_of Tryz.func88 (by kernel_rfl) (by kernel_rfl) (fun Γ=>?_)
 unfold drive_trip_begin at h
 obtain rfl:=Option.some.inj h
 exact gr 4 [] [hW 15,hH (.nilB 1 4 4)]
theorem network_place_ok {n i} {rv:Bool} (h:network_place n i = some rv):AFn Tryz.prog 122 [.agg (T_api_Network.enc n),.one (lI i)] [] (one (.bool rv)) []:=by
 refine afn_of Tryz.func122 (by kernel_rfl) (by kernel_rfl) (fun Γ=>?_)
 unfold network_place at h
 obtain rfl:=Option.some.inj h
 exact gr 4 [] [rp 4 hP,rp 2 (oI ((geI i 0) = true)),nL e_str n.places,hP,hP,rp 2 (oI ((geI i 0) = true)),oR True ((geI i 0) = true)]
theorem network_wayOf_ok {a} {rv:T_network_way} (h:network_wayOf a = some rv):AFn Tryz.prog 160 [.agg (T_api_Arc.enc a)] [] (gG [lI rv.from_,lI rv.to_,lI rv.profile]) []:=by
 refine afn_of Tryz.func160 (by kernel_rfl) (by kernel_rfl) (fun Γ=>?_)
 unfold network_wayOf at h
 obtain rfl:=Option.some.inj h
 exact gr 4 [] []
def network_Find_G (Γ:Gam) (rv:T_api_Arc × Bool) (cf:Cf):Prop:=Go Tryz.prog Tryz.f123 [] Γ (.tup [.agg [lI rv.1.from_,lI rv.1.to_,lI rv.1.profile,lI rv.1.miles,lL 2 rv.1.travel T_api_Point.enc,lL 2 rv.1.slow T_api_Point.enc],.one (.bool rv.2)]) [] cf
def network_Find_L1_C (Γ:Gam) (rv:T_api_Arc × Bool) (n:T_api_Network) (profile:Int) (from_:Int) (to_:Int) (v:Int):Prop:=network_Find_G Γ rv ⟨[.c 116,.l 116,.b 0,.c 15],⟨31,[vP 8 0 6,vP 10 1 3,vL 18 6 n.arcs T_api_Arc.enc,vI 19 (lenI n.arcs),vI 20 v],[oX 6 114 [lI 0,lI 0,lI 0,lI 0,.nils,.nils],oX 3 198 [lI from_,lI to_,lI profile]]⟩⟩
def network_Find_L1_D0 (Γ:Gam) (rv:T_api_Arc × Bool) (n:T_api_Network) (profile:Int) (from_:Int) (to_:Int):Prop:=network_Find_G Γ rv ⟨[.c 15],⟨31,[vP 8 0 6],[oX 6 114 [lI 0,lI 0,lI 0,lI 0,.nils,.nils]]⟩⟩
theorem network_Find_L1_ok (Γ:Gam) (rv:T_api_Arc × Bool) {n profile from_ to_} {s:Int} {e:(Unit) ⊕ (T_api_Arc × Bool)} (h:loopF (fun s=>network_Find_L1 n profile from_ to_ s) s = some e) (hD:sel e (fun e=>network_Find_L1_D0 Γ rv n profile from_ to_) (fun e=>e = rv)):network_Find_L1_C Γ rv n profile from_ to_ s:=by
 refine loop_ind (C:=fun (s:Int)=>network_Find_L1_C Γ rv n profile from_ to_ s) (D:=fun (e:(Unit) ⊕ (T_api_Arc × Bool))=>sel e (fun e=>network_Find_L1_D0 Γ rv n profile from_ to_) (fun e=>e = rv)) ?_ h hD
 clear h hD s e
 intro v z_ h hI hE
 replace h:network_Find_L1 n profile from_ to_ v = _:=h
 unfold network_Find_L1 at h
 rcases br_elim h with ⟨h0,h⟩|⟨h0,h⟩
 ·obtain ⟨x0,h1,h⟩:=bnd_elim h
  obtain ⟨r,h2,h⟩:=bnd_elim h
  rcases br_elim h with ⟨h3,h⟩|⟨h3,h⟩
  ·obtain rfl:=(hE _ (oJ h):_ = rv)
   exact gr 14 [] [bT h0,cE T_api_Arc.enc h1,hH (.draw 4 []),cC (network_wayOf_ok h2),bT h3]
  ·exact gn 16 [8,10,18,19,20] [0,1] [bT h0,cE T_api_Arc.enc h1,hH (.draw 4 []),cC (network_wayOf_ok h2),bF h3] (hI _ (oJ h))
 ·exact gn 5 [8] [0] [bF h0] (hE _ (oJ h))
theorem network_Find_ok {n profile from_ to_} {rv:T_api_Arc × Bool} (h:network_Find n profile from_ to_ = some rv):AFn Tryz.prog 123 [.agg (T_api_Network.enc n),.one (lI profile),.one (lI from_),.one (lI to_)] [] (.tup [.agg [lI rv.1.from_,lI rv.1.to_,lI rv.1.profile,lI rv.1.miles,lL 2 rv.1.travel T_api_Point.enc,lL 2 rv.1.slow T_api_Point.enc],.one (.bool rv.2)]) []:=by
 refine afn_of Tryz.func123 (by kernel_rfl) (by kernel_rfl) (fun Γ=>?_)
 unfold network_Find at h
 obtain ⟨e0,h4,h⟩:=bnd_elim h
 refine gn 9 [8,10,18,19,20] [1,2] [nL T_api_Arc.enc n.arcs] (network_Find_L1_ok Γ rv h4 ?_)
 rcases e0 with e0|e0
 ·replace h:(some ((T_api_Arc.mk 0 0 0 0 [] []),false):Option (T_api_Arc × Bool)) = some _:=h
  obtain rfl:=Option.some.inj h
  exact gr 2 [] [hW 5,hH (.nilB 0 4 2),hH (.nilB 0 5 2)]
 ·obtain ⟨r1,rfl⟩:∃ x,x = e0:=⟨_,rfl⟩
  replace h:(some r1:Option (T_api_Arc × Bool)) = some _:=h
  exact Option.some.inj h
theorem travel_within_ok {n least most} {rv:Bool} (h:travel_within n least most = some rv):AFn Tryz.prog 173 [.one (lI n),.one (lI least),.one (lI most)] [] (one (.bool rv)) []:=by
 refine afn_of Tryz.func173 (by kernel_rfl) (by kernel_rfl) (fun Γ=>?_)
 unfold travel_within at h
 obtain rfl:=Option.some.inj h
 exact gr 4 [] [rp 4 hP,rp 2 (oI ((geI n least) = true)),oR True ((geI n least) = true)]
theorem strconv_small_ok {i} {rv:ByteArray} (h:strconv_small i = some rv):AFn Tryz.prog 185 [.one (lI i)] [] (one (.str rv)) []:=by
 refine afn_of Tryz.func185 (by kernel_rfl) (by kernel_rfl) (fun Γ=>?_)
 unfold strconv_small at h
 rcases br_elim h with ⟨h0,h⟩|⟨h0,h⟩
 ·obtain ⟨s0,h1,h⟩:=bnd_elim h
  obtain rfl:=Option.some.inj h
  exact gr 8 [] [bT h0,oO (ss1 h1),oO (ss2 h1),oO (ss3 h1)]
 ·obtain ⟨s1,h2,h⟩:=bnd_elim h
  obtain rfl:=Option.some.inj h
  exact gr 9 [] [bF h0,oO (ss1 h2),oO (ss2 h2),oO (ss3 h2)]
def strconv_FormatInt_G (Γ:Gam) (rv:ByteArray) (cf:Cf):Prop:=Go Tryz.prog Tryz.f184 [] Γ (one (.str rv)) [] cf
theorem strconv_FormatInt_J1_ok (Γ:Gam) (rv:ByteArray) {i u} (h:strconv_FormatInt_J1 i u = some rv):strconv_FormatInt_G Γ rv ⟨[.c 431,.c 7],⟨54,[vI 0 i,vP 5 0 24,(6,one (.int .u64 u))],[oX 24 218 [.int .u8 0,.int .u8 0,.int .u8 0,.int .u8 0,.int .u8 0,.int .u8 0,.int .u8 0,.int .u8 0,.int .u8 0,.int .u8 0,.int .u8 0,.int .u8 0,.int .u8 0,.int .u8 0,.int .u8 0,.int .u8 0,.int .u8 0,.int .u8 0,.int .u8 0,.int .u8 0,.int .u8 0,.int .u8 0,.int .u8 0,.int .u8 0]]⟩⟩:=by
 unfold strconv_FormatInt_J1 at h
 obtain ⟨r1,h4,h⟩:=bnd_elim h
 cases h
theorem strconv_FormatInt_ok {i base} {rv:ByteArray} (h:strconv_FormatInt i base = some rv):AFn Tryz.prog 184 [.one (lI i),.one (lI base)] [] (one (.str rv)) []:=by
 refine afn_of Tryz.func184 (by kernel_rfl) (by kernel_rfl) (fun Γ=>?_)
 unfold strconv_FormatInt at h
 rcases br_elim h with ⟨h0,h⟩|⟨h0,h⟩
 ·rcases br_elim h with ⟨h1,h⟩|⟨h1,h⟩
  ·obtain ⟨r,h2,h⟩:=bnd_elim h
   obtain rfl:=Option.some.inj h
   exact gr 12 [] [bT h0,hP,hP,hP,oI ((leI 0 i) = true),oR True ((leI 0 i) = true),bT h1,cC (strconv_small_ok h2)]
  ·rcases br_elim h with ⟨h3,h⟩|⟨h3,h⟩
   ·exact gn 20 [0,5,6] [0] [bT h0,hP,hP,hP,oI ((leI 0 i) = true),oR True ((leI 0 i) = true),bF h1,bT h3] (strconv_FormatInt_J1_ok Γ rv h)
   ·exact gn 20 [0,5,6] [0] [bT h0,hP,hP,hP,oI ((leI 0 i) = true),oR True ((leI 0 i) = true),bF h1,bF h3] (strconv_FormatInt_J1_ok Γ rv h)
 ·cases h
theorem strconv_Itoa_ok {i} {rv:ByteArray} (h:strconv_Itoa i = some rv):AFn Tryz.prog 183 [.one (lI i)] [] (one (.str rv)) []:=by
 refine afn_of Tryz.func183 (by kernel_rfl) (by kernel_rfl) (fun Γ=>?_)
 unfold strconv_Itoa at h
 obtain ⟨r,h0,h⟩:=bnd_elim h
 obtain rfl:=Option.some.inj h
 exact gr 4 [] [cC (strconv_FormatInt_ok h0)]
theorem strconv_Itoa_b_ok {i} {rv:ByteArray} (h:strconv_Itoa_b i = some rv):AFn Tryz.prog 182 [.one (lI i)] [] (one (.str rv)) []:=by
 refine afn_of Tryz.func182 (by kernel_rfl) (by kernel_rfl) (fun Γ=>?_)
 unfold strconv_Itoa_b at h
 obtain ⟨r,h0,h⟩:=bnd_elim h
 obtain rfl:=Option.some.inj h
 exact gr 4 [] [cC (strconv_Itoa_ok h0)]
def travel_Check_G (Γ:Gam) (rv:List T_api_Fault) (cf:Cf):Prop:=Go Tryz.prog Tryz.f179 [] Γ (one (lL 2 rv T_api_Fault.enc)) [] cf
def travel_Check_L1_C (Γ:Gam) (rv:List T_api_Fault) (l:List T_api_Point) (l2:List T_api_Fault) (v:Int):Prop:=travel_Check_G Γ rv ⟨[.c 244,.l 244,.b 0,.c 31],⟨83,[vL 0 2 l T_api_Point.enc,vO 3 0 2 l2 T_api_Fault.enc,vL 19 2 l T_api_Point.enc,vI 20 (lenI l),vI 21 v],[oS 2 159 l2 T_api_Fault.enc]⟩⟩
def travel_Check_L1_D0 (Γ:Gam) (rv:List T_api_Fault) (l:List T_api_Point) (l4:List T_api_Fault):Prop:=travel_Check_G Γ rv ⟨[.c 31],⟨83,[vO 3 0 2 l4 T_api_Fault.enc],[oS 2 159 l4 T_api_Fault.enc]⟩⟩
theorem travel_Check_J2_ok (Γ:Gam) (rv:List T_api_Fault) {l v x0 r l3} {x:(List T_api_Fault × Int) ⊕ (List T_api_Fault)} (h:travel_Check_J2 l v x0 r l3 = some x) (hI:∀ s:List T_api_Fault × Int,x = .inl s→travel_Check_L1_C Γ rv l s.1 s.2) (hE:∀ e:List T_api_Fault,x = .inr e→travel_Check_L1_D0 Γ rv l e):travel_Check_G Γ rv ⟨[.c 31335,.b 1,.c 1959,.l 244,.b 0,.c 31],⟨83,[vL 0 2 l T_api_Point.enc,vO 3 0 2 l3 T_api_Fault.enc,vI 4 v,vP 5 1 2,vS 6 r,vL 19 2 l T_api_Point.enc,vI 20 (lenI l),vI 21 v],[oS 2 159 l3 T_api_Fault.enc,oX 2 111 (T_api_Point.enc x0)]⟩⟩:=by
 unfold travel_Check_J2 at h
 rcases br_elim h with ⟨h8,h⟩|⟨h8,h⟩
 ·obtain ⟨x1,h9,h⟩:=bnd_elim h
  rcases br_elim h with ⟨h10,h⟩|⟨h10,h⟩
  ·obtain ⟨h11,h⟩:=chk_elim h
   exact gn 7 [0,3,19,20,21] [3] [hH (.draw 24 []),rp 6 (bT h8),cE T_api_Point.enc h9,rp 4 (bT h8),rp 9 (bT h10),bT h8,bT h10,bT h8,tT,oO (Eq.refl ([(T_api_Fault.mk 13 r)].map T_api_Fault.enc).length),aO T_api_Fault.enc h11] (hI _ (oJ h))
  ·rcases br_elim h with ⟨h12,h⟩|⟨h12,h⟩
   ·obtain ⟨h13,h⟩:=chk_elim h
    exact gn 7 [0,3,19,20,21] [3] [hH (.draw 24 []),rp 6 (bT h8),cE T_api_Point.enc h9,rp 4 (bT h8),rp 6 (bF h10),cE T_api_Point.enc h9,rp 3 (bF h10),bT h8,bF h10,bT h8,bT h12,oO (Eq.refl ([(T_api_Fault.mk 13 r)].map T_api_Fault.enc).length),aO T_api_Fault.enc h13] (hI _ (oJ h))
   ·exact gn 7 [0,3,19,20,21] [0] [hH (.draw 24 []),rp 6 (bT h8),cE T_api_Point.enc h9,rp 4 (bT h8),rp 6 (bF h10),cE T_api_Point.enc h9,rp 3 (bF h10),bT h8,bF h10,bT h8,bF h12] (hI _ (oJ h))
 ·exact gn 7 [0,3,19,20,21] [0] [hH (.draw 24 []),rp 10 (bF h8),rp 9 kF,bF h8,bF h8,fF] (hI _ (oJ h))
theorem travel_Check_L1_ok (Γ:Gam) (rv:List T_api_Fault) {l} {s:List T_api_Fault × Int} {e:List T_api_Fault} (h:loopF (fun s=>travel_Check_L1 l s.1 s.2) s = some e) (hD:travel_Check_L1_D0 Γ rv l e):travel_Check_L1_C Γ rv l s.1 s.2:=by
 refine loop_ind (C:=fun (s:List T_api_Fault × Int)=>travel_Check_L1_C Γ rv l s.1 s.2) (D:=fun (e:List T_api_Fault)=>travel_Check_L1_D0 Γ rv l e) ?_ h hD
 clear h hD s e
 rintro ⟨l2,v⟩ z_ h hI hE
 replace h:travel_Check_L1 l l2 v = _:=h
 unfold travel_Check_L1 at h
 rcases br_elim h with ⟨h2,h⟩|⟨h2,h⟩
 ·obtain ⟨x0,h3,h⟩:=bnd_elim h
  obtain ⟨r,h4,h⟩:=bnd_elim h
  obtain ⟨r1,h5,h⟩:=bnd_elim h
  rcases br_elim h with ⟨h6,h⟩|⟨h6,h⟩
  ·obtain ⟨h7,h⟩:=chk_elim h
   exact gn 16 [0,3,4,5,6,19,20,21] [3,1] [bT h2,cE T_api_Point.enc h3,cC (strconv_Itoa_b_ok h4),cC (travel_within_ok h5),rp 13 hP,rp 4 (oI ((!r1) = false)),oR True ((!r1) = false),rp 5 (oI (((!r1) || (ltI x0.a x0.t)) = false)),oR True (((!r1) || (ltI x0.a x0.t)) = false),bT h6,oO (Eq.refl ([(T_api_Fault.mk 2 r)].map T_api_Fault.enc).length),aO T_api_Fault.enc h7] (travel_Check_J2_ok Γ rv h hI hE)
  ·exact gn 16 [0,3,4,5,6,19,20,21] [0,1] [bT h2,cE T_api_Point.enc h3,cC (strconv_Itoa_b_ok h4),cC (travel_within_ok h5),rp 13 hP,rp 4 (oI ((!r1) = false)),oR True ((!r1) = false),rp 5 (oI (((!r1) || (ltI x0.a x0.t)) = false)),oR True (((!r1) || (ltI x0.a x0.t)) = false),bF h6] (travel_Check_J2_ok Γ rv h hI hE)
 ·exact gn 5 [3] [0] [bF h2] (hE _ (oJ h))
theorem travel_Check_J1_ok (Γ:Gam) (rv:List T_api_Fault) {l l1} (h:travel_Check_J1 l l1 = some rv):travel_Check_G Γ rv ⟨[.c 15],⟨83,[vL 0 2 l T_api_Point.enc,vO 3 0 2 l1 T_api_Fault.enc],[oS 2 159 l1 T_api_Fault.enc]⟩⟩:=by
 unfold travel_Check_J1 at h
 obtain ⟨e0,h14,h⟩:=bnd_elim h
 refine gn 5 [0,3,19,20,21] [0] [nL T_api_Point.enc l] (travel_Check_L1_ok Γ rv h14 ?_)
 obtain ⟨l4,rfl⟩:∃ x,x = e0:=⟨_,rfl⟩
 replace h:(some l4:Option (List T_api_Fault)) = some _:=h
 obtain rfl:=Option.some.inj h
 exact gr 2 [] [hW 4,hH (.frz 0),rp 3 (eL l4 T_api_Fault.enc)]
theorem travel_Check_ok {l} {rv:List T_api_Fault} (h:travel_Check l = some rv):AFn Tryz.prog 179 [.one (lL 2 l T_api_Point.enc)] [] (one (lL 2 rv T_api_Fault.enc)) []:=by
 refine afn_of Tryz.func179 (by kernel_rfl) (by kernel_rfl) (fun Γ=>?_)
 unfold travel_Check at h
 rcases br_elim h with ⟨h0,h⟩|⟨h0,h⟩
 ·obtain ⟨h1,h⟩:=chk_elim h
  exact gn 9 [0,3] [1] [nL T_api_Point.enc l,hP,hP,oI ((eqI (lenI l) 0) = false),nL T_api_Point.enc l,hP,hP,oI ((eqI (lenI l) 0) = false),oR True ((eqI (lenI l) 0) = false),bT h0,oO (Eq.refl ([(T_api_Fault.mk 4 ByteArray.empty)].map T_api_Fault.enc).length),aN (l:=([(T_api_Fault.mk 4 ByteArray.empty)]:List T_api_Fault)) T_api_Fault.enc h1] (travel_Check_J1_ok Γ rv h)
 ·exact gn 9 [0,3] [0] [nL T_api_Point.enc l,hP,hP,oI ((eqI (lenI l) 0) = false),nL T_api_Point.enc l,hP,hP,oI ((eqI (lenI l) 0) = false),oR True ((eqI (lenI l) 0) = false),bF h0,hW 1,hH (.adopt 3 2 159)] (travel_Check_J1_ok Γ rv h)
theorem travel_right_ok {l} {rv:Bool} (h:travel_right l = some rv):AFn Tryz.prog 174 [.one (lL 2 l T_api_Point.enc)] [] (one (.bool rv)) []:=by
 refine afn_of Tryz.func174 (by kernel_rfl) (by kernel_rfl) (fun Γ=>?_)
 unfold travel_right at h
 obtain ⟨r,h0,h⟩:=bnd_elim h
 obtain rfl:=Option.some.inj h
 exact gr 4 [] [cC (travel_Check_ok h0),nL T_api_Fault.enc r]
theorem travel_arrive_1_ok {p t} {rv:Int} (h:travel_arrive_1 p t = some rv):AFn Tryz.prog 181 [.agg (T_api_Point.enc p),.one (lI t)] [] (one (lI rv)) []:=by
 refine afn_of Tryz.func181 (by kernel_rfl) (by kernel_rfl) (fun Γ=>?_)
 unfold travel_arrive_1 at h
 obtain rfl:=Option.some.inj h
 exact gr 4 [] []
def slices_BinarySearchFunc___api_Point_api_Point_int__arrive_1_G (Γ:Gam) (rv:Int × Bool) (cf:Cf):Prop:=Go Tryz.prog Tryz.f180 [] Γ (.tup [.one (lI rv.1),.one (.bool rv.2)]) [] cf
def slices_BinarySearchFunc___api_Point_api_Point_int__arrive_1_L1_C (Γ:Gam) (rv:Int × Bool) (x0:List T_api_Point) (target:Int) (i:Int) (j:Int):Prop:=slices_BinarySearchFunc___api_Point_api_Point_int__arrive_1_G Γ rv ⟨[.c 120,.l 120,.b 0,.c 31],⟨49,[vL 0 2 x0 T_api_Point.enc,vI 1 target,(2,one (.fn (.func 181) [])),vI 8 (lenI x0),vI 9 i,vI 10 j],[]⟩⟩
def slices_BinarySearchFunc___api_Point_api_Point_int__arrive_1_L1_D0 (Γ:Gam) (rv:Int × Bool) (x0:List T_api_Point) (target:Int) (i1:Int):Prop:=slices_BinarySearchFunc___api_Point_api_Point_int__arrive_1_G Γ rv ⟨[.c 31],⟨49,[vL 0 2 x0 T_api_Point.enc,vI 1 target,(2,one (.fn (.func 181) [])),vI 8 (lenI x0),vI 9 i1],[]⟩⟩
theorem slices_BinarySearchFunc___api_Point_api_Point_int__arrive_1_L1_ok (Γ:Gam) (rv:Int × Bool) {x0 target} {s:Int × Int} {e:Int} (h:loopF (fun s=>slices_BinarySearchFunc___api_Point_api_Point_int__arrive_1_L1 x0 target s.1 s.2) s = some e) (hD:slices_BinarySearchFunc___api_Point_api_Point_int__arrive_1_L1_D0 Γ rv x0 target e):slices_BinarySearchFunc___api_Point_api_Point_int__arrive_1_L1_C Γ rv x0 target s.1 s.2:=by
 refine loop_ind (C:=fun (s:Int × Int)=>slices_BinarySearchFunc___api_Point_api_Point_int__arrive_1_L1_C Γ rv x0 target s.1 s.2) (D:=fun (e:Int)=>slices_BinarySearchFunc___api_Point_api_Point_int__arrive_1_L1_D0 Γ rv x0 target e) ?_ h hD
 clear h hD s e
 rintro ⟨i,j⟩ z_ h hI hE
 replace h:slices_BinarySearchFunc___api_Point_api_Point_int__arrive_1_L1 x0 target i j = _:=h
 unfold slices_BinarySearchFunc___api_Point_api_Point_int__arrive_1_L1 at h
 rcases br_elim h with ⟨h0,h⟩|⟨h0,h⟩
 ·obtain ⟨x1,h1,h⟩:=bnd_elim h
  obtain ⟨r,h2,h⟩:=bnd_elim h
  rcases br_elim h with ⟨h3,h⟩|⟨h3,h⟩
  ·exact gn 14 [0,1,2,8,9,10] [] [bT h0,oO (zL 1),cE T_api_Point.enc h1,cC (travel_arrive_1_ok h2),bT h3] (hI _ (oJ h))
  ·exact gn 14 [0,1,2,8,9,10] [] [bT h0,oO (zL 1),cE T_api_Point.enc h1,cC (travel_arrive_1_ok h2),bF h3] (hI _ (oJ h))
 ·exact gn 5 [0,1,2,8,9] [] [bF h0] (hE _ (oJ h))
theorem slices_BinarySearchFunc___api_Point_api_Point_int__arrive_1_ok {x0 target} {rv:Int × Bool} (h:slices_BinarySearchFunc___api_Point_api_Point_int__arrive_1 x0 target = some rv):AFn Tryz.prog 180 [.one (lL 2 x0 T_api_Point.enc),.one (lI target),.one (.fn (.func 181) [])] [] (.tup [.one (lI rv.1),.one (.bool rv.2)]) []:=by
 refine afn_of Tryz.func180 (by kernel_rfl) (by kernel_rfl) (fun Γ=>?_)
 unfold slices_BinarySearchFunc___api_Point_api_Point_int__arrive_1 at h
 obtain ⟨e0,h4,h⟩:=bnd_elim h
 refine gn 9 [0,1,2,8,9,10] [] [nL T_api_Point.enc x0] (slices_BinarySearchFunc___api_Point_api_Point_int__arrive_1_L1_ok Γ rv h4 ?_)
 obtain ⟨i1,rfl⟩:∃ x,x = e0:=⟨_,rfl⟩
 replace h:(br (ltI i1 (lenI x0)) (bnd (getI x0 i1) fun x2=>bnd (travel_arrive_1 x2 target) fun r1=>some (i1,(eqI r1 0))) (some (i1,false)):Option (Int × Bool)) = some _:=h
 rcases br_elim h with ⟨h5,h⟩|⟨h5,h⟩
 ·obtain ⟨x2,h6,h⟩:=bnd_elim h
  obtain ⟨r1,h7,h⟩:=bnd_elim h
  obtain rfl:=Option.some.inj h
  exact gr 2 [] [rp 4 (bT h5),cE T_api_Point.enc h6,rp 3 (bT h5),cC (travel_arrive_1_ok h7),bT h5,bT h5]
 ·obtain rfl:=Option.some.inj h
  exact gr 2 [] [rp 9 (bF h5)]
theorem travel_arrive_ok {l t} {rv:Int} (h:travel_arrive l t = some rv):AFn Tryz.prog 175 [.one (lL 2 l T_api_Point.enc),.one (lI t)] [] (one (lI rv)) []:=by
 refine afn_of Tryz.func175 (by kernel_rfl) (by kernel_rfl) (fun Γ=>?_)
 unfold travel_arrive at h
 obtain ⟨r,h0,h⟩:=bnd_elim h
 rcases br_elim h with ⟨h1,h⟩|⟨h1,h⟩
 ·obtain ⟨x0,h2,h⟩:=bnd_elim h
  obtain rfl:=Option.some.inj h
  exact gr 11 [] [cC (slices_BinarySearchFunc___api_Point_api_Point_int__arrive_1_ok h0),bT h1,cE T_api_Point.enc h2]
 ·rcases br_elim h with ⟨h3,h⟩|⟨h3,h⟩
  ·obtain ⟨x1,h4,h⟩:=bnd_elim h
   obtain rfl:=Option.some.inj h
   exact gr 14 [] [cC (slices_BinarySearchFunc___api_Point_api_Point_int__arrive_1_ok h0),bF h1,bT h3,hH (.draw 12 []),rp 2 (cE T_api_Point.enc h4)]
  ·rcases br_elim h with ⟨h5,h⟩|⟨h5,h⟩
   ·obtain ⟨x2,h6,h⟩:=bnd_elim h
    obtain rfl:=Option.some.inj h
    exact gr 17 [] [cC (slices_BinarySearchFunc___api_Point_api_Point_int__arrive_1_ok h0),bF h1,bF h3,nL T_api_Point.enc l,bT h5,hH (.draw 16 []),rp 2 (cE T_api_Point.enc h6)]
   ·obtain ⟨x3,h7,h⟩:=bnd_elim h
    obtain ⟨x4,h8,h⟩:=bnd_elim h
    obtain ⟨h9,h⟩:=chk_elim h
    obtain rfl:=Option.some.inj h
    exact gr 23 [] [cC (slices_BinarySearchFunc___api_Point_api_Point_int__arrive_1_ok h0),bF h1,bF h3,nL T_api_Point.enc l,bF h5,hH (.draw 13 [(0,11),(1,12)]),cE T_api_Point.enc h7,cE T_api_Point.enc h8,hH (.draw 19 []),oO (h9)]
theorem travel_Arrive_ok {l t} {rv:Int} (h:travel_Arrive l t = some rv):AFn Tryz.prog 161 [.one (lL 2 l T_api_Point.enc),.one (lI t)] [] (one (lI rv)) []:=by
 refine afn_of Tryz.func161 (by kernel_rfl) (by kernel_rfl) (fun Γ=>?_)
 unfold travel_Arrive at h
 obtain ⟨r,h0,h⟩:=bnd_elim h
 rcases br_elim h with ⟨h1,h⟩|⟨h1,h⟩
 ·obtain ⟨r1,h2,h⟩:=bnd_elim h
  rcases br_elim h with ⟨h3,h⟩|⟨h3,h⟩
  ·obtain ⟨r2,h4,h⟩:=bnd_elim h
   obtain rfl:=Option.some.inj h
   exact gr 9 [] [cC (travel_within_ok h0),nF h1,nF h1,cC (travel_right_ok h2),nF h1,nF h1,nF h3,cC (travel_arrive_ok h4)]
  ·obtain rfl:=Option.some.inj h
   exact gr 8 [] [cC (travel_within_ok h0),nF h1,nF h1,cC (travel_right_ok h2),nF h1,nF h1,nT h3]
 ·obtain rfl:=Option.some.inj h
  exact gr 8 [] [cC (travel_within_ok h0),rp 4 (nT h1),tT]
def network_arrival_G (Γ:Gam) (rv:Int) (cf:Cf):Prop:=Go Tryz.prog Tryz.f124 [] Γ (one (lI rv)) [] cf
def network_arrival_L1_C (Γ:Gam) (rv:Int) (a:T_api_Arc) (t:Int) (out:Int) (v:Int):Prop:=network_arrival_G Γ rv ⟨[.c 116,.l 116,.b 0,.c 15],⟨29,[vI 1 t,vI 5 out,vL 13 2 a.slow T_api_Point.enc,vI 14 (lenI a.slow),vI 15 v],[]⟩⟩
def network_arrival_L1_D0 (Γ:Gam) (rv:Int) (a:T_api_Arc) (t:Int) (out1:Int):Prop:=network_arrival_G Γ rv ⟨[.c 15],⟨29,[vI 5 out1],[]⟩⟩
theorem network_arrival_L1_ok (Γ:Gam) (rv:Int) {a t} {s:Int × Int} {e:Int} (h:loopF (fun s=>network_arrival_L1 a t s.1 s.2) s = some e) (hD:network_arrival_L1_D0 Γ rv a t e):network_arrival_L1_C Γ rv a t s.1 s.2:=by
 refine loop_ind (C:=fun (s:Int × Int)=>network_arrival_L1_C Γ rv a t s.1 s.2) (D:=fun (e:Int)=>network_arrival_L1_D0 Γ rv a t e) ?_ h hD
 clear h hD s e
 rintro ⟨out,v⟩ z_ h hI hE
 replace h:network_arrival_L1 a t out v = _:=h
 unfold network_arrival_L1 at h
 rcases br_elim h with ⟨h1,h⟩|⟨h1,h⟩
 ·obtain ⟨x0,h2,h⟩:=bnd_elim h
  rcases br_elim h with ⟨h3,h⟩|⟨h3,h⟩
  ·exact gn 16 [1,5,13,14,15] [] [bT h1,cE T_api_Point.enc h2,bT h3] (hI _ (oJ h))
  ·exact gn 16 [1,5,13,14,15] [] [bT h1,cE T_api_Point.enc h2,bF h3] (hI _ (oJ h))
 ·exact gn 5 [5] [] [bF h1] (hE _ (oJ h))
theorem network_arrival_ok {a t} {rv:Int} (h:network_arrival a t = some rv):AFn Tryz.prog 124 [.agg (T_api_Arc.enc a),.one (lI t)] [] (one (lI rv)) []:=by
 refine afn_of Tryz.func124 (by kernel_rfl) (by kernel_rfl) (fun Γ=>?_)
 unfold network_arrival at h
 obtain ⟨r,h0,h⟩:=bnd_elim h
 obtain ⟨e0,h4,h⟩:=bnd_elim h
 refine gn 9 [1,5,13,14,15] [] [cC (travel_Arrive_ok h0),nL T_api_Point.enc a.slow] (network_arrival_L1_ok Γ rv h4 ?_)
 obtain ⟨out1,rfl⟩:∃ x,x = e0:=⟨_,rfl⟩
 replace h:(some out1:Option Int) = some _:=h
 obtain rfl:=Option.some.inj h
 exact gr 2 [] []
theorem network_Go_ok {n profile from_ to_ t} {rv:Int × Int × Int} (h:network_Go n profile from_ to_ t = some rv):AFn Tryz.prog 75 [.agg (T_api_Network.enc n),.one (lI profile),.one (lI from_),.one (lI to_),.one (lI t)] [] (.tup [.one (lI rv.1),.one (lI rv.2.1),.one (lI rv.2.2)]) []:=by
 refine afn_of Tryz.func75 (by kernel_rfl) (by kernel_rfl) (fun Γ=>?_)
 unfold network_Go at h
 obtain ⟨r,h0,h⟩:=bnd_elim h
 rcases br_elim h with ⟨h1,h⟩|⟨h1,h⟩
 ·obtain ⟨r1,h2,h⟩:=bnd_elim h
  rcases br_elim h with ⟨h3,h⟩|⟨h3,h⟩
  ·rcases br_elim h with ⟨h4,h⟩|⟨h4,h⟩
   ·obtain rfl:=Option.some.inj h
    exact gr 13 [] [cC (network_place_ok h0),rp 3 (nF h1),cC (network_place_ok h2),nF h1,nF h1,nF h3,bT h4]
   ·obtain ⟨r2,h5,h⟩:=bnd_elim h
    rcases br_elim h with ⟨h6,h⟩|⟨h6,h⟩
    ·obtain ⟨r3,h7,h⟩:=bnd_elim h
     obtain rfl:=Option.some.inj h
     exact gr 21 [] [cC (network_place_ok h0),rp 3 (nF h1),cC (network_place_ok h2),nF h1,nF h1,nF h3,bF h4,cC (network_Find_ok h5),nF h6,hH (.draw 8 []),cC (network_arrival_ok h7)]
    ·obtain rfl:=Option.some.inj h
     exact gr 20 [] [cC (network_place_ok h0),rp 3 (nF h1),cC (network_place_ok h2),nF h1,nF h1,nF h3,bF h4,cC (network_Find_ok h5),nT h6]
  ·obtain rfl:=Option.some.inj h
   exact gr 8 [] [cC (network_place_ok h0),rp 3 (nF h1),cC (network_place_ok h2),nF h1,nF h1,nT h3]
 ·obtain rfl:=Option.some.inj h
  exact gr 8 [] [cC (network_place_ok h0),rp 5 (nT h1),tT]
theorem window_Begin_ok {s0 arrive} {rv:Int × Int} (h:window_Begin s0 arrive = some rv):AFn Tryz.prog 120 [.agg (T_api_Stop.enc s0),.one (lI arrive)] [] (.tup [.one (lI rv.1),.one (lI rv.2)]) []:=by
 refine afn_of Tryz.func120 (by kernel_rfl) (by kernel_rfl) (fun Γ=>?_)
 unfold window_Begin at h
 rcases br_elim h with ⟨h0,h⟩|⟨h0,h⟩
 ·obtain rfl:=Option.some.inj h
  exact gr 10 [] [bT h0]
 ·obtain rfl:=Option.some.inj h
  exact gr 11 [] [bF h0]
theorem drive_trip_place_ok {p visits} {rv:Int} (h:drive_trip_place p visits = some rv):AFn Tryz.prog 150 [.agg (T_drive_trip.enc p),.one (lI visits)] [] (one (lI rv)) []:=by
 refine afn_of Tryz.func150 (by kernel_rfl) (by kernel_rfl) (fun Γ=>?_)
 unfold drive_trip_place at h
 rcases br_elim h with ⟨h0,h⟩|⟨h0,h⟩
 ·obtain rfl:=Option.some.inj h
  exact gr 8 [] [bT h0]
 ·obtain ⟨x0,h1,h⟩:=bnd_elim h
  obtain rfl:=Option.some.inj h
  exact gr 9 [] [bF h0,cE T_api_Stop.enc h1]
theorem slices_Clone___api_Time_api_Time__own_ok {s0} {rv:List T_api_Time} (h:slices_Clone___api_Time_api_Time__own s0 = some rv):AFn Tryz.prog 149 [.one (lL 4 s0 T_api_Time.enc)] [] (one (lO 0 4 rv T_api_Time.enc)) [oS 4 60 rv T_api_Time.enc]:=by
 refine afn_of Tryz.func149 (by kernel_rfl) (by kernel_rfl) (fun Γ=>?_)
 unfold slices_Clone___api_Time_api_Time__own at h
 rcases br_elim h with ⟨h0,h⟩|⟨h0,h⟩
 ·obtain ⟨hx,h⟩:=amb_elim h
  refine gn 5 [0,4] [] [hH (.skip)] (cf':=⟨[.c 13,.c 7],⟨8,[vL 0 4 s0 T_api_Time.enc,(4,.boo)],[]⟩⟩) (go_amb 4 rfl ?_ ?_)
  ·replace h:=hx
   obtain rfl:=Option.some.inj h
   exact gr 3 [0] [tT,hW 3,hH (.adopt 2 4 60)]
  ·obtain ⟨h1,h⟩:=chk_elim h
   obtain rfl:=Option.some.inj h
   exact gr 4 [0] [fF,aN T_api_Time.enc h1]
 ·obtain ⟨h2,h⟩:=chk_elim h
  obtain rfl:=Option.some.inj h
  exact gr 9 [0] [oO (neE T_api_Time.enc h0),fF,hH (.bit false),aN T_api_Time.enc h2]
def drive_trip_next_G (Γ:Gam) (rv:T_drive_label × Int) (cf:Cf):Prop:=Go Tryz.prog Tryz.f110 [] Γ (.tup [.agg [lI rv.1.ready,lI rv.1.since,.bool rv.1.sheet.rest_,lI rv.1.sheet.depart,lL 4 rv.1.sheet.times T_api_Time.enc,lI rv.1.sheet.end_,lI rv.1.sheet.miles],.one (lI rv.2)]) [] cf
theorem drive_trip_next_J4_ok (Γ:Gam) (rv:T_drive_label × Int) {p l depart since rest_1 depart1 r2 l2 ready end_} (h:drive_trip_next_J4 p l depart since rest_1 depart1 r2 l2 ready end_ = some rv):drive_trip_next_G Γ rv ⟨[.c 32767],⟨163,[vP 4 0 25,vP 8 1 7,vP 12 2 7],[oX 25 98 (T_drive_trip.enc p),oX 7 137 [lI 0,lI 0,.bool false,lI 0,.nils,lI 0,lI 0],oX 7 137 [lI ready,lI (subK .i64 (addK .i64 since r2.1) depart),.bool rest_1,lI depart1,lO 3 4 l2 T_api_Time.enc,lI end_,lI (addK .i64 l.sheet.miles r2.2.1)],oS 4 60 l2 T_api_Time.enc]⟩⟩:=by
 unfold drive_trip_next_J4 at h
 rcases br_elim h with ⟨h15,h⟩|⟨h15,h⟩
 ·obtain rfl:=Option.some.inj h
  exact gr 6 [] [bT h15,hW 5,hH (.nilB 1 4 4)]
 ·obtain rfl:=Option.some.inj h
  exact gr 7 [] [bF h15,hW 6,hH (.frz 3),rp 3 (eL l2 T_api_Time.enc)]
theorem drive_trip_next_J3_ok (Γ:Gam) (rv:T_drive_label × Int) {p l done depart since l1 rest_1 depart1 to_} (h:drive_trip_next_J3 p l done depart since l1 rest_1 depart1 to_ = some rv):drive_trip_next_G Γ rv ⟨[.c 1023],⟨163,[vI 2 done,vP 4 0 25,vP 8 1 7,vI 10 depart,vI 11 since,vP 12 2 7,vB 13 (eqI done (lenI p.stops)),vI 14 to_],[oX 25 98 (T_drive_trip.enc p),oX 7 137 [lI 0,lI 0,.bool false,lI 0,.nils,lI 0,lI 0],oX 7 137 [lI 0,lI 0,.bool rest_1,lI depart1,lO 3 4 l1 T_api_Time.enc,lI l.sheet.end_,lI l.sheet.miles],oS 4 60 l1 T_api_Time.enc]⟩⟩:=by
 unfold drive_trip_next_J3 at h
 obtain ⟨r1,h6,h⟩:=bnd_elim h
 obtain ⟨r2,h7,h⟩:=bnd_elim h
 rcases br_elim h with ⟨h8,h⟩|⟨h8,h⟩
 ·obtain rfl:=Option.some.inj h
  exact gr 8 [] [hH (.draw 19 []),cC (drive_trip_place_ok h6),cC (network_Go_ok h7),bT h8,hW 5,hH (.nilB 1 4 4)]
 ·rcases br_elim h with ⟨h9,h⟩|⟨h9,h⟩
  ·rcases br_elim h with ⟨h10,h⟩|⟨h10,h⟩
   ·obtain rfl:=Option.some.inj h
    exact gr 21 [] [hH (.draw 19 []),cC (drive_trip_place_ok h6),cC (network_Go_ok h7),bF h8,bT h9,bT h10,hW 5,hH (.nilB 1 4 4)]
   ·exact gn 23 [4,8,12] [0,1,2,3] [hH (.draw 19 []),cC (drive_trip_place_ok h6),cC (network_Go_ok h7),bF h8,bT h9,bF h10] (drive_trip_next_J4_ok Γ rv h)
  ·obtain ⟨x2,h11,h⟩:=bnd_elim h
   obtain ⟨r3,h12,h⟩:=bnd_elim h
   rcases br_elim h with ⟨h13,h⟩|⟨h13,h⟩
   ·obtain rfl:=Option.some.inj h
    exact gr 23 [] [hH (.draw 19 []),cC (drive_trip_place_ok h6),cC (network_Go_ok h7),bF h8,bF h9,cE T_api_Stop.enc h11,cC (window_Begin_ok h12),bT h13,hW 5,hH (.nilB 1 4 4)]
   ·obtain ⟨h14,h⟩:=chk_elim h
    exact gn 25 [4,8,12] [0,1,2,5] [hH (.draw 19 []),cC (drive_trip_place_ok h6),cC (network_Go_ok h7),bF h8,bF h9,cE T_api_Stop.enc h11,cC (window_Begin_ok h12),bF h13,cE T_api_Stop.enc h11,oO (Eq.refl ([(T_api_Time.mk r2.1 r3.1 0 false)].map T_api_Time.enc).length),aO T_api_Time.enc h14] (drive_trip_next_J4_ok Γ rv h)
theorem drive_trip_next_J2_ok (Γ:Gam) (rv:T_drive_label × Int) {p l done depart since l1 rest_1 depart1} (h:drive_trip_next_J2 p l done depart since l1 rest_1 depart1 = some rv):drive_trip_next_G Γ rv ⟨[.c 127],⟨163,[vI 2 done,vP 4 0 25,vP 8 1 7,vI 10 depart,vI 11 since,vP 12 2 7],[oX 25 98 (T_drive_trip.enc p),oX 7 137 [lI 0,lI 0,.bool false,lI 0,.nils,lI 0,lI 0],oX 7 137 [lI 0,lI 0,.bool rest_1,lI depart1,lO 3 4 l1 T_api_Time.enc,lI l.sheet.end_,lI l.sheet.miles],oS 4 60 l1 T_api_Time.enc]⟩⟩:=by
 unfold drive_trip_next_J2 at h
 rcases br_elim h with ⟨h4,h⟩|⟨h4,h⟩
 ·exact gn 9 [2,4,8,10,11,12,13,14] [0,1,2,3] [nL T_api_Stop.enc p.stops,nF h4] (drive_trip_next_J3_ok Γ rv h)
 ·obtain ⟨x1,h5,h⟩:=bnd_elim h
  exact gn 9 [2,4,8,10,11,12,13,14] [0,1,2,3] [nL T_api_Stop.enc p.stops,nT h4,cE T_api_Stop.enc h5] (drive_trip_next_J3_ok Γ rv h)
theorem drive_trip_next_J1_ok (Γ:Gam) (rv:T_drive_label × Int) {p l done rest_ depart since} (h:drive_trip_next_J1 p l done rest_ depart since = some rv):drive_trip_next_G Γ rv ⟨[.c 15],⟨163,[vI 2 done,vB 3 rest_,vP 4 0 25,vP 5 1 7,vP 8 2 7,vI 10 depart,vI 11 since],[oX 25 98 (T_drive_trip.enc p),oX 7 137 (T_drive_label.enc l),oX 7 137 [lI 0,lI 0,.bool false,lI 0,.nils,lI 0,lI 0]]⟩⟩:=by
 unfold drive_trip_next_J1 at h
 obtain ⟨r,h1,h⟩:=bnd_elim h
 rcases br_elim h with ⟨h2,h⟩|⟨h2,h⟩
 ·exact gn 11 [2,4,8,10,11,12] [0,2,3,4] [cC (slices_Clone___api_Time_api_Time__own_ok h1),bT h2] (drive_trip_next_J2_ok Γ rv h)
 ·obtain ⟨x0,h3,h⟩:=bnd_elim h
  exact gn 11 [2,4,8,10,11,12] [0,2,3,4] [cC (slices_Clone___api_Time_api_Time__own_ok h1),bF h2,oO (getLo h3),oO (getHi T_api_Time.enc h3),rE T_api_Time.enc h3,hH (.rows ((setI r (subK .i64 done 1) (T_api_Time.mk x0.arrive x0.begin x0.depart rest_)).map T_api_Time.enc)),hH (.relen 4 ((setI r (subK .i64 done 1) (T_api_Time.mk x0.arrive x0.begin x0.depart rest_)).map T_api_Time.enc).length),oO (setM T_api_Time.enc r (subK .i64 done 1) (T_api_Time.mk x0.arrive x0.begin x0.depart rest_)),rp 3 (oO (lenSet T_api_Time.enc r (subK .i64 done 1) (T_api_Time.mk x0.arrive x0.begin x0.depart rest_))),oO (getLo (getSet h3 (T_api_Time.mk x0.arrive x0.begin x0.depart rest_))),oO (getHi T_api_Time.enc (getSet h3 (T_api_Time.mk x0.arrive x0.begin x0.depart rest_))),rE T_api_Time.enc (getSet h3 (T_api_Time.mk x0.arrive x0.begin x0.depart rest_)),hH (.rows ((setI (setI r (subK .i64 done 1) (T_api_Time.mk x0.arrive x0.begin x0.depart rest_)) (subK .i64 done 1) (T_api_Time.mk x0.arrive x0.begin depart rest_)).map T_api_Time.enc)),hH (.relen 4 ((setI (setI r (subK .i64 done 1) (T_api_Time.mk x0.arrive x0.begin x0.depart rest_)) (subK .i64 done 1) (T_api_Time.mk x0.arrive x0.begin depart rest_)).map T_api_Time.enc).length),oO (setM T_api_Time.enc (setI r (subK .i64 done 1) (T_api_Time.mk x0.arrive x0.begin x0.depart rest_)) (subK .i64 done 1) (T_api_Time.mk x0.arrive x0.begin depart rest_)),rp 4 (oO (lenSet T_api_Time.enc (setI r (subK .i64 done 1) (T_api_Time.mk x0.arrive x0.begin x0.depart rest_)) (subK .i64 done 1) (T_api_Time.mk x0.arrive x0.begin depart rest_)))] (drive_trip_next_J2_ok Γ rv h)
theorem drive_trip_next_ok {p l done rest_} {rv:T_drive_label × Int} (h:drive_trip_next p l done rest_ = some rv):AFn Tryz.prog 110 [.agg (T_drive_trip.enc p),.agg (T_drive_label.enc l),.one (lI done),.one (.bool rest_)] [] (.tup [.agg [lI rv.1.ready,lI rv.1.since,.bool rv.1.sheet.rest_,lI rv.1.sheet.depart,lL 4 rv.1.sheet.times T_api_Time.enc,lI rv.1.sheet.end_,lI rv.1.sheet.miles],.one (lI rv.2)]) []:=by
 refine afn_of Tryz.func110 (by kernel_rfl) (by kernel_rfl) (fun Γ=>?_)
 unfold drive_trip_next at h
 rcases br_elim h with ⟨h0,h⟩|⟨h0,h⟩
 ·exact gn 11 [2,3,4,5,8,10,11] [0,1,2] [hH (.draw 6 []),bT h0] (drive_trip_next_J1_ok Γ rv h)
 ·exact gn 9 [2,3,4,5,8,10,11] [0,1,2] [hH (.draw 6 []),bF h0] (drive_trip_next_J1_ok Γ rv h)
def drive_trip_run_G (Γ:Gam) (rv:T_api_Sheet × Int) (cf:Cf):Prop:=Go Tryz.prog Tryz.f65 [] Γ (.tup [.agg [.bool rv.1.rest_,lI rv.1.depart,lL 4 rv.1.times T_api_Time.enc,lI rv.1.end_,lI rv.1.miles],.one (lI rv.2)]) [] cf
def drive_trip_run_L1_C (Γ:Gam) (rv:T_api_Sheet × Int) (p:T_drive_trip) (rests:List Bool) (r:T_drive_label) (rest_:Int) (x0:T_drive_label) (v:Int):Prop:=drive_trip_run_G Γ rv ⟨[.c 116,.l 116,.b 0,.c 15],⟨36,[vP 2 0 25,vP 4 1 5,vP 6 2 7,vL 13 1 rests e_bool,vI 14 (lenI rests),vI 15 v],[oX 25 98 [lL 1 p.x.net.places e_str,lL 6 p.x.net.arcs T_api_Arc.enc,lL 14 p.x.types T_api_Type.enc,lL 16 p.x.orders T_api_Order.enc,lL 2 p.x.apart A2_Int.enc,lL 2 p.x.before A2_Int.enc,.str p.t.name,lI p.t.count,lI p.t.from_,lI p.t.to_,lL 1 p.t.cap e_i64,lI p.t.skills,lI p.t.profile,lI p.t.open_,lI p.t.close,lI p.t.drive,lI rest_,lI p.t.fixed,lI p.t.perMile,lI p.t.perTick,lI p.r.type_,lI p.r.start,lL 1 p.r.rests e_bool,lL 2 p.r.visits T_api_Visit.enc,lL 4 p.stops T_api_Stop.enc],oX 5 37 [.bool false,lI 0,.nils,lI 0,lI 0],oX 7 137 (T_drive_label.enc x0)]⟩⟩
def drive_trip_run_L1_D0 (Γ:Gam) (rv:T_api_Sheet × Int) (p:T_drive_trip) (rests:List Bool) (r:T_drive_label) (x2:T_drive_label):Prop:=drive_trip_run_G Γ rv ⟨[.c 15],⟨36,[vP 4 0 5,vP 6 1 7],[oX 5 37 [.bool false,lI 0,.nils,lI 0,lI 0],oX 7 137 (T_drive_label.enc x2)]⟩⟩
theorem drive_trip_run_L1_ok (Γ:Gam) (rv:T_api_Sheet × Int) {p rests r} {s:Int × T_drive_label × Int} {e:(T_drive_label) ⊕ (T_api_Sheet × Int)} (h:loopF (fun s=>drive_trip_run_L1 p rests r s.1 s.2.1 s.2.2) s = some e) (hD:sel e (fun e=>drive_trip_run_L1_D0 Γ rv p rests r e) (fun e=>e = rv)):drive_trip_run_L1_C Γ rv p rests r s.1 s.2.1 s.2.2:=by
 refine loop_ind (C:=fun (s:Int × T_drive_label × Int)=>drive_trip_run_L1_C Γ rv p rests r s.1 s.2.1 s.2.2) (D:=fun (e:(T_drive_label) ⊕ (T_api_Sheet × Int))=>sel e (fun e=>drive_trip_run_L1_D0 Γ rv p rests r e) (fun e=>e = rv)) ?_ h hD
 clear h hD s e
 rintro ⟨rest_,x0,v⟩ z_ h hI hE
 replace h:drive_trip_run_L1 p rests r rest_ x0 v = _:=h
 unfold drive_trip_run_L1 at h
 rcases br_elim h with ⟨h1,h⟩|⟨h1,h⟩
 ·obtain ⟨x1,h2,h⟩:=bnd_elim h
  obtain ⟨r1,h3,h⟩:=bnd_elim h
  rcases br_elim h with ⟨h4,h⟩|⟨h4,h⟩
  ·obtain rfl:=(hE _ (oJ h):_ = rv)
   exact gr 17 [] [bT h1,cE e_bool h2,cC (drive_trip_next_ok h3),bT h4,hW 6,hH (.nilB 1 2 4)]
  ·exact gn 20 [2,4,6,13,14,15] [0,1,2] [bT h1,cE e_bool h2,cC (drive_trip_next_ok h3),bF h4] (hI _ (oJ h))
 ·exact gn 5 [4,6] [1,2] [bF h1] (hE _ (oJ h))
theorem drive_trip_run_ok {p rests} {rv:T_api_Sheet × Int} (h:drive_trip_run p rests = some rv):AFn Tryz.prog 65 [.agg (T_drive_trip.enc p),.one (lL 1 rests e_bool)] [] (.tup [.agg [.bool rv.1.rest_,lI rv.1.depart,lL 4 rv.1.times T_api_Time.enc,lI rv.1.end_,lI rv.1.miles],.one (lI rv.2)]) []:=by
 refine afn_of Tryz.func65 (by kernel_rfl) (by kernel_rfl) (fun Γ=>?_)
 unfold drive_trip_run at h
 obtain ⟨r,h0,h⟩:=bnd_elim h
 obtain ⟨e0,h5,h⟩:=bnd_elim h
 refine gn 9 [2,4,6,13,14,15] [0,1,2] [cC (drive_trip_begin_ok h0),nL e_bool rests] (drive_trip_run_L1_ok Γ rv h5 ?_)
 rcases e0 with e0|e0
 ·obtain ⟨x2,rfl⟩:∃ x,x = e0:=⟨_,rfl⟩
  replace h:(some (x2.sheet,0):Option (T_api_Sheet × Int)) = some _:=h
  obtain rfl:=Option.some.inj h
  exact gr 2 [] []
 ·obtain ⟨r2,rfl⟩:∃ x,x = e0:=⟨_,rfl⟩
  replace h:(some r2:Option (T_api_Sheet × Int)) = some _:=h
  exact Option.some.inj h
def slices_Equal___api_Time_api_Time__G (Γ:Gam) (rv:Bool) (cf:Cf):Prop:=Go Tryz.prog Tryz.f111 [] Γ (one (.bool rv)) [] cf
def slices_Equal___api_Time_api_Time__L1_C (Γ:Gam) (rv:Bool) (s1:List T_api_Time) (s2:List T_api_Time) (v:Int):Prop:=slices_Equal___api_Time_api_Time__G Γ rv ⟨[.c 116,.l 116,.b 0,.c 15],⟨26,[vL 0 4 s1 T_api_Time.enc,vL 1 4 s2 T_api_Time.enc,vI 12 (lenI s1),vI 13 v],[]⟩⟩
def slices_Equal___api_Time_api_Time__L1_D0 (Γ:Gam) (rv:Bool) (s1:List T_api_Time) (s2:List T_api_Time):Prop:=slices_Equal___api_Time_api_Time__G Γ rv ⟨[.c 15],⟨26,[],[]⟩⟩
theorem slices_Equal___api_Time_api_Time__L1_ok (Γ:Gam) (rv:Bool) {s1 s2} {s:Int} {e:(Unit) ⊕ (Bool)} (h:loopF (fun s=>slices_Equal___api_Time_api_Time__L1 s1 s2 s) s = some e) (hD:sel e (fun e=>slices_Equal___api_Time_api_Time__L1_D0 Γ rv s1 s2) (fun e=>e = rv)):slices_Equal___api_Time_api_Time__L1_C Γ rv s1 s2 s:=by
 refine loop_ind (C:=fun (s:Int)=>slices_Equal___api_Time_api_Time__L1_C Γ rv s1 s2 s) (D:=fun (e:(Unit) ⊕ (Bool))=>sel e (fun e=>slices_Equal___api_Time_api_Time__L1_D0 Γ rv s1 s2) (fun e=>e = rv)) ?_ h hD
 clear h hD s e
 intro v z_ h hI hE
 replace h:slices_Equal___api_Time_api_Time__L1 s1 s2 v = _:=h
 unfold slices_Equal___api_Time_api_Time__L1 at h
 rcases br_elim h with ⟨h1,h⟩|⟨h1,h⟩
 ·obtain ⟨x0,h2,h⟩:=bnd_elim h
  obtain ⟨x1,h3,h⟩:=bnd_elim h
  rcases br_elim h with ⟨h4,h⟩|⟨h4,h⟩
  ·exact gn 16 [0,1,12,13] [] [bT h1,hH (.draw 9 []),cE T_api_Time.enc h2,cE T_api_Time.enc h3,nF h4] (hI _ (oJ h))
  ·obtain rfl:=(hE _ (oJ h):_ = rv)
   exact gr 14 [] [bT h1,hH (.draw 9 []),cE T_api_Time.enc h2,cE T_api_Time.enc h3,nT h4]
 ·exact gn 5 [] [] [bF h1] (hE _ (oJ h))
theorem slices_Equal___api_Time_api_Time__ok {s1 s2} {rv:Bool} (h:slices_Equal___api_Time_api_Time_ s1 s2 = some rv):AFn Tryz.prog 111 [.one (lL 4 s1 T_api_Time.enc),.one (lL 4 s2 T_api_Time.enc)] [] (one (.bool rv)) []:=by
 refine afn_of Tryz.func111 (by kernel_rfl) (by kernel_rfl) (fun Γ=>?_)
 unfold slices_Equal___api_Time_api_Time_ at h
 rcases br_elim h with ⟨h0,h⟩|⟨h0,h⟩
 ·obtain rfl:=Option.some.inj h
  exact gr 8 [] [nL T_api_Time.enc s1,nL T_api_Time.enc s2,bT h0]
 ·obtain ⟨e0,h5,h⟩:=bnd_elim h
  refine gn 12 [0,1,12,13] [] [nL T_api_Time.enc s1,nL T_api_Time.enc s2,bF h0,nL T_api_Time.enc s1] (slices_Equal___api_Time_api_Time__L1_ok Γ rv h5 ?_)
  rcases e0 with e0|e0
  ·replace h:(some true:Option Bool) = some _:=h
   obtain rfl:=Option.some.inj h
   exact gr 2 [] []
  ·obtain ⟨r,rfl⟩:∃ x,x = e0:=⟨_,rfl⟩
   replace h:(some r:Option Bool) = some _:=h
   exact Option.some.inj h
theorem drive_same_ok {a b} {rv:Bool} (h:drive_same a b = some rv):AFn Tryz.prog 66 [.agg (T_api_Sheet.enc a),.agg (T_api_Sheet.enc b)] [] (one (.bool rv)) []:=by
 refine afn_of Tryz.func66 (by kernel_rfl) (by kernel_rfl) (fun Γ=>?_)
 unfold drive_same at h
 rcases br_elim h with ⟨h0,h⟩|⟨h0,h⟩
 ·obtain ⟨r,h1,h⟩:=bnd_elim h
  obtain rfl:=Option.some.inj h
  exact gr 4 [] [rp 18 hP,rp 4 (oI ((eqB a.rest_ b.rest_) = true)),oR True ((eqB a.rest_ b.rest_) = true),rp 4 (oI (((eqB a.rest_ b.rest_) && (eqI a.depart b.depart)) = true)),oR True (((eqB a.rest_ b.rest_) && (eqI a.depart b.depart)) = true),rp 4 (oI ((((eqB a.rest_ b.rest_) && (eqI a.depart b.depart)) && (eqI a.end_ b.end_)) = true)),oR True ((((eqB a.rest_ b.rest_) && (eqI a.depart b.depart)) && (eqI a.end_ b.end_)) = true),rp 5 (bT h0),cC (slices_Equal___api_Time_api_Time__ok h1),bT h0]
 ·obtain rfl:=Option.some.inj h
  exact gr 4 [] [rp 18 hP,rp 4 (oI ((eqB a.rest_ b.rest_) = true)),oR True ((eqB a.rest_ b.rest_) = true),rp 4 (oI (((eqB a.rest_ b.rest_) && (eqI a.depart b.depart)) = true)),oR True (((eqB a.rest_ b.rest_) && (eqI a.depart b.depart)) = true),rp 4 (oI ((((eqB a.rest_ b.rest_) && (eqI a.depart b.depart)) && (eqI a.end_ b.end_)) = true)),oR True ((((eqB a.rest_ b.rest_) && (eqI a.depart b.depart)) && (eqI a.end_ b.end_)) = true),rp 6 (bF h0)]
theorem drive_Valid_ok {x0 r s0} {rv:Int} (h:drive_Valid x0 r s0 = some rv):AFn Tryz.prog 35 [.agg (T_api_Instance.enc x0),.agg (T_api_Route.enc r),.agg (T_api_Sheet.enc s0)] [] (one (lI rv)) []:=by
 refine afn_of Tryz.func35 (by kernel_rfl) (by kernel_rfl) (fun Γ=>?_)
 unfold drive_Valid at h
 obtain ⟨r1,h0,h⟩:=bnd_elim h
 rcases br_elim h with ⟨h1,h⟩|⟨h1,h⟩
 ·obtain rfl:=Option.some.inj h
  exact gr 12 [] [cC (drive_plan_ok h0),nL T_api_Visit.enc r.visits,hP,hP,hP,rp 2 (oI ((!r1.2) = false)),nL e_bool r.rests,rp 7 hP,rp 3 (oI ((!r1.2) = false)),oR True ((!r1.2) = false),rp 2 (oI (((!r1.2) || (gtI (lenI r.rests) (addK .i64 (lenI r.visits) 1))) = false)),nL T_api_Time.enc s0.times,hP,hP,hP,rp 2 (oI (((!r1.2) || (gtI (lenI r.rests) (addK .i64 (lenI r.visits) 1))) = false)),oR True (((!r1.2) || (gtI (lenI r.rests) (addK .i64 (lenI r.visits) 1))) = false),bT h1]
 ·obtain ⟨r2,h2,h⟩:=bnd_elim h
  obtain ⟨l,h3,h⟩:=bnd_elim h
  obtain ⟨r3,h4,h⟩:=bnd_elim h
  rcases br_elim h with ⟨h5,h⟩|⟨h5,h⟩
  ·obtain ⟨r4,h6,h⟩:=bnd_elim h
   rcases br_elim h with ⟨h7,h⟩|⟨h7,h⟩
   ·obtain rfl:=Option.some.inj h
    exact gr 26 [] [cC (drive_plan_ok h0),nL T_api_Visit.enc r.visits,hP,hP,hP,rp 2 (oI ((!r1.2) = false)),nL e_bool r.rests,rp 7 hP,rp 3 (oI ((!r1.2) = false)),oR True ((!r1.2) = false),rp 2 (oI (((!r1.2) || (gtI (lenI r.rests) (addK .i64 (lenI r.visits) 1))) = false)),nL T_api_Time.enc s0.times,hP,hP,hP,rp 2 (oI (((!r1.2) || (gtI (lenI r.rests) (addK .i64 (lenI r.visits) 1))) = false)),oR True (((!r1.2) || (gtI (lenI r.rests) (addK .i64 (lenI r.visits) 1))) = false),bF h1,cC (drive_rests_ok h2),hH (.draw 9 []),nL e_bool r.rests,hH (.rows (l.map e_bool)),oO (sl1 h3),oO (sl2 h3),oO (sl3 e_bool h3),oO (Int.le_refl (lenI r.rests)),oO (sl3 e_bool h3),oO (sl6 e_bool h3),cC (slices_Equal___bool_bool__ok h4),nF h5,cC (drive_trip_run_ok h6),bT h7]
   ·obtain ⟨r5,h8,h⟩:=bnd_elim h
    rcases br_elim h with ⟨h9,h⟩|⟨h9,h⟩
    ·obtain rfl:=Option.some.inj h
     exact gr 32 [] [cC (drive_plan_ok h0),nL T_api_Visit.enc r.visits,hP,hP,hP,rp 2 (oI ((!r1.2) = false)),nL e_bool r.rests,rp 7 hP,rp 3 (oI ((!r1.2) = false)),oR True ((!r1.2) = false),rp 2 (oI (((!r1.2) || (gtI (lenI r.rests) (addK .i64 (lenI r.visits) 1))) = false)),nL T_api_Time.enc s0.times,hP,hP,hP,rp 2 (oI (((!r1.2) || (gtI (lenI r.rests) (addK .i64 (lenI r.visits) 1))) = false)),oR True (((!r1.2) || (gtI (lenI r.rests) (addK .i64 (lenI r.visits) 1))) = false),bF h1,cC (drive_rests_ok h2),hH (.draw 9 []),nL e_bool r.rests,hH (.rows (l.map e_bool)),oO (sl1 h3),oO (sl2 h3),oO (sl3 e_bool h3),oO (Int.le_refl (lenI r.rests)),oO (sl3 e_bool h3),oO (sl6 e_bool h3),cC (slices_Equal___bool_bool__ok h4),nF h5,cC (drive_trip_run_ok h6),bF h7,cC (drive_same_ok h8),nF h9]
    ·obtain rfl:=Option.some.inj h
     exact gr 31 [] [cC (drive_plan_ok h0),nL T_api_Visit.enc r.visits,hP,hP,hP,rp 2 (oI ((!r1.2) = false)),nL e_bool r.rests,rp 7 hP,rp 3 (oI ((!r1.2) = false)),oR True ((!r1.2) = false),rp 2 (oI (((!r1.2) || (gtI (lenI r.rests) (addK .i64 (lenI r.visits) 1))) = false)),nL T_api_Time.enc s0.times,hP,hP,hP,rp 2 (oI (((!r1.2) || (gtI (lenI r.rests) (addK .i64 (lenI r.visits) 1))) = false)),oR True (((!r1.2) || (gtI (lenI r.rests) (addK .i64 (lenI r.visits) 1))) = false),bF h1,cC (drive_rests_ok h2),hH (.draw 9 []),nL e_bool r.rests,hH (.rows (l.map e_bool)),oO (sl1 h3),oO (sl2 h3),oO (sl3 e_bool h3),oO (Int.le_refl (lenI r.rests)),oO (sl3 e_bool h3),oO (sl6 e_bool h3),cC (slices_Equal___bool_bool__ok h4),nF h5,cC (drive_trip_run_ok h6),bF h7,cC (drive_same_ok h8),nT h9]
  ·obtain rfl:=Option.some.inj h
   exact gr 19 [] [cC (drive_plan_ok h0),nL T_api_Visit.enc r.visits,hP,hP,hP,rp 2 (oI ((!r1.2) = false)),nL e_bool r.rests,rp 7 hP,rp 3 (oI ((!r1.2) = false)),oR True ((!r1.2) = false),rp 2 (oI (((!r1.2) || (gtI (lenI r.rests) (addK .i64 (lenI r.visits) 1))) = false)),nL T_api_Time.enc s0.times,hP,hP,hP,rp 2 (oI (((!r1.2) || (gtI (lenI r.rests) (addK .i64 (lenI r.visits) 1))) = false)),oR True (((!r1.2) || (gtI (lenI r.rests) (addK .i64 (lenI r.visits) 1))) = false),bF h1,cC (drive_rests_ok h2),hH (.draw 9 []),nL e_bool r.rests,hH (.rows (l.map e_bool)),oO (sl1 h3),oO (sl2 h3),oO (sl3 e_bool h3),oO (Int.le_refl (lenI r.rests)),oO (sl3 e_bool h3),oO (sl6 e_bool h3),cC (slices_Equal___bool_bool__ok h4),nT h5]
end Go.Proofs.YtfldlilicmbmkaaGreatDoor
