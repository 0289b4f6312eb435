/- Part MV of the proof: texts L1. -/
import Derived.Test.YtfjiafgldchinaaGreatDoorMU
import Derived.Test.YtfjiafgldchinaaGreatDoorProg
namespace Go.Proofs.YtfjiafgldchinaaGreatDoor
set_option linter.unusedVariables false
set_option linter.unusedSectionVars false
set_option linter.unusedSimpArgs false
set_option maxHeartbeats 4000000
set_option maxRecDepth 100000
theorem QpF {s0 arrive} {rv:Int×Int} (h:Qnk s0 arrive=some rv):AFn Tryz.prog 89 [.agg (Qas.enc s0),.one (lI arrive)] [] (.tup [.one (lI rv.1),.one (lI rv.2)]) []:=by
 refine QaK Tryz.func89 (by kernel_rfl) (by kernel_rfl) (fun Γ=>?_)
 unfold Qnk at h
 rcases Qah h with ⟨h0,h⟩|⟨h0,h⟩
 ·obtain rfl:=Option.some.inj h
  exact gr 10 [] [bT h0]
 ·obtain rfl:=Option.some.inj h
  exact gr 11 [] [bF h0]
theorem Qgx {s0 arrive} {rv:Int×Int} (h:QjB s0 arrive=some rv):AFn Tryz.prog 47 [.agg (Qas.enc s0),.one (lI arrive)] [] (.tup [.one (lI rv.1),.one (lI rv.2)]) []:=by
 refine QaK Tryz.func47 (by kernel_rfl) (by kernel_rfl) (fun Γ=>?_)
 unfold QjB at h
 obtain ⟨r,h0,h⟩:=Qaf h
 rcases Qah h with ⟨h1,h⟩|⟨h1,h⟩
 ·obtain rfl:=Option.some.inj h
  exact gr 10 [] [cC (QpF h0),bT h1]
 ·obtain rfl:=Option.some.inj h
  exact gr 11 [] [cC (QpF h0),bF h1]
theorem Qty {a b} {rv:Int} (h:QoX a b=some rv):AFn Tryz.prog 117 [.one (lI a),.one (lI b)] [] (one (lI rv)) []:=by
 refine QaK Tryz.func117 (by kernel_rfl) (by kernel_rfl) (fun Γ=>?_)
 unfold QoX at h
 obtain rfl:=Option.some.inj h
 exact gr 4 [] []
def QjN (Γ:Gam) (rv:List Int×Int) (cf:Cf):Prop:=Go Tryz.prog Tryz.f72 [] Γ (.tup [.one (lL 1 rv.1 e_i64),.one (lI rv.2)]) [] cf
def QhF (Γ:Gam) (rv:List Int×Int) (a:List Int) (b:List Int) (l:List Int) (l1:List Int) (v:Int):Prop:=QjN Γ rv ⟨[.c 244,.l 244,.b 0,.c 31],⟨38,[vL 0 1 a e_i64,vL 1 1 b e_i64,(2,one (.fn (.func 117) [])),vO 8 0 1 l1 e_i64,vI 19 (lenI a),vI 20 v],[oS 1 3 l1 e_i64]⟩⟩
def Qhj (Γ:Gam) (rv:List Int×Int) (a:List Int) (b:List Int) (l:List Int) (l2:List Int):Prop:=QjN Γ rv ⟨[.c 31],⟨38,[vO 8 0 1 l2 e_i64],[oS 1 3 l2 e_i64]⟩⟩
theorem Qmq (Γ:Gam) (rv:List Int×Int) {a b l} {s:List Int×Int} {e:List Int} (h:loopF (fun s=>Qbm a b l s.1 s.2) s=some e) (hD:Qhj Γ rv a b l e):QhF Γ rv a b l s.1 s.2:=by
 refine Qau (C:=fun (s:List Int×Int)=>QhF Γ rv a b l s.1 s.2) (D:=fun (e:List Int)=>Qhj Γ rv a b l e) ?_ h hD
 clear h hD s e
 rintro ⟨l1,v⟩ z_ h hI hE
 replace h:Qbm a b l l1 v=_:=h
 unfold Qbm at h
 rcases Qah h with ⟨h2,h⟩|⟨h2,h⟩
 ·obtain ⟨x0,h3,h⟩:=Qaf h
  obtain ⟨x1,h4,h⟩:=Qaf h
  obtain ⟨r,h5,h⟩:=Qaf h
  obtain ⟨x2,h6,h⟩:=Qaf h
  exact gn 13 [0,1,2,8,19,20] [0] [bT h2,hH (.draw 13 []),cE e_i64 h3,cE e_i64 h4,cC (Qty h5),oO (getLo h6),oO (getHi e_i64 h6),rE e_i64 h6,hH (.rows ((setI l1 v r).map e_i64)),hH (.relen 0 ((setI l1 v r).map e_i64).length),oO (setM e_i64 l1 v r),rp 2 (oO (QAn e_i64 l1 v r))] (hI _ (oJ h))
 ·exact gn 5 [8] [0] [bF h2] (hE _ (oJ h))
theorem Qod {a b} {rv:List Int×Int} (h:QfZ a b=some rv):AFn Tryz.prog 72 [.one (lL 1 a e_i64),.one (lL 1 b e_i64),.one (.fn (.func 117) [])] [] (.tup [.one (lL 1 rv.1 e_i64),.one (lI rv.2)]) []:=by
 refine QaK Tryz.func72 (by kernel_rfl) (by kernel_rfl) (fun Γ=>?_)
 unfold QfZ at h
 rcases Qah h with ⟨h0,h⟩|⟨h0,h⟩
 ·obtain rfl:=Option.some.inj h
  exact gr 8 [] [nL e_i64 a,nL e_i64 b,bT h0,hW 4,hH (.nilS 6 0 1)]
 ·obtain ⟨l,h1,h⟩:=Qaf h
  obtain ⟨e0,h7,h⟩:=Qaf h
  refine gn 14 [0,1,2,8,19,20] [0] [nL e_i64 a,nL e_i64 b,bF h0,nL e_i64 a,hH (.cells [lI 0]),hH (.rows (l.map e_i64)),oO (mk1 h1),oO (mk2 h1),oO (mk3 h1),oO (mk4 h1),oO (mk5 e_i64 h1),nL e_i64 a] (Qmq Γ rv h7 ?_)
  obtain ⟨l2,rfl⟩:∃ x,x=e0:=⟨_,rfl⟩
  replace h:(some (l2,0):Option (List Int×Int))=some _:=h
  obtain rfl:=Option.some.inj h
  exact gr 2 [] [hW 5,hH (.frz 0),rp 3 (eL l2 e_i64)]
theorem QuV {a b} {rv:List Int×Int} (h:Qqf a b=some rv):AFn Tryz.prog 90 [.one (lL 1 a e_i64),.one (lL 1 b e_i64)] [] (.tup [.one (lL 1 rv.1 e_i64),.one (lI rv.2)]) []:=by
 refine QaK Tryz.func90 (by kernel_rfl) (by kernel_rfl) (fun Γ=>?_)
 unfold Qqf at h
 obtain ⟨r,h0,h⟩:=Qaf h
 obtain rfl:=Option.some.inj h
 exact gr 4 [] [cC (Qod h0)]
theorem QgU {x0 l v} {rv:List Int} (h:QkI x0 l v=some rv):AFn Tryz.prog 48 [.agg (Qac.enc x0),.agg (Qae.enc l),.agg (Qaa.enc v)] [] (one (lL 1 rv e_i64)) []:=by
 refine QaK Tryz.func48 (by kernel_rfl) (by kernel_rfl) (fun Γ=>?_)
 unfold QkI at h
 rcases Qah h with ⟨h0,h⟩|⟨h0,h⟩
 ·obtain ⟨x1,h1,h⟩:=Qaf h
  obtain ⟨r,h2,h⟩:=Qaf h
  obtain rfl:=Option.some.inj h
  exact gr 11 [] [bT h0,hH (.draw 14 []),cE Qag.enc h1,cC (QuV h2)]
 ·obtain ⟨x2,h3,h⟩:=Qaf h
  obtain ⟨r1,h4,h⟩:=Qaf h
  obtain rfl:=Option.some.inj h
  exact gr 11 [] [bF h0,hH (.draw 14 []),cE Qag.enc h3,cC (Qsi h4)]
def Qtv (Γ:Gam) (rv:List Qae) (cf:Cf):Prop:=Go Tryz.prog Tryz.f16 [] Γ (one (lL 9 rv Qae.enc)) [] cf
theorem Qix (Γ:Gam) (rv:List Qae) {l v r x1 r2 r3 r4 l1 open_} (h:QeO l v r x1 r2 r3 r4 l1 open_=some rv):Qtv Γ rv ⟨[.c 262143],⟨178,[vP 9 0 14,vP 14 1 9],[oX 14 79 (Qai.enc x1),oX 9 47 [lI l.type_,lO 2 2 ((cpyL l1 l.visits)++[v]) Qaa.enc,lI r.1.place,lI r3.1,lI (subK .i64 (addK .i64 l.driven r2.1) l.time),lI (addK .i64 l.miles r2.2.1),lL 1 r4 e_i64,lI (orK .i64 l.done (shlK .i64 1 (cvK .u64 v.order))),lI open_],oS 2 54 ((cpyL l1 l.visits)++[v]) Qaa.enc]⟩⟩:=by
 unfold QeO at h
 obtain ⟨r6,h19,h⟩:=Qaf h
 obtain rfl:=Option.some.inj h
 exact gr 2 [] [hW 4,hH (.frz 2),rp 2 (oO (Eq.refl (((cpyL l1 l.visits)++[v]).map Qaa.enc).length)),cC (Qrq h19)]
theorem QeP {x0 l v} {rv:List Qae} (h:Qiw x0 l v=some rv):AFn Tryz.prog 16 [.agg (Qac.enc x0),.agg (Qae.enc l),.agg (Qaa.enc v)] [] (one (lL 9 rv Qae.enc)) []:=by
 refine QaK Tryz.func16 (by kernel_rfl) (by kernel_rfl) (fun Γ=>?_)
 unfold Qiw at h
 rcases Qah h with ⟨h0,h⟩|⟨h0,h⟩
 ·obtain rfl:=Option.some.inj h
  exact gr 8 [] [rp 5 hP,rp 3 (oI ((ltI l.type_ 0)=false)),nL Qai.enc x0.types,hP,hP,rp 2 (oI ((ltI l.type_ 0)=false)),oR True ((ltI l.type_ 0)=false),bT h0,hW 3,hH (.nilS 6 0 9)]
 ·obtain ⟨r,h1,h⟩:=Qaf h
  rcases Qah h with ⟨h2,h⟩|⟨h2,h⟩
  ·obtain rfl:=Option.some.inj h
   exact gr 15 [] [rp 5 hP,rp 3 (oI ((ltI l.type_ 0)=false)),nL Qai.enc x0.types,hP,hP,rp 2 (oI ((ltI l.type_ 0)=false)),oR True ((ltI l.type_ 0)=false),bF h0,cC (Qfm h1),rp 6 (bT h2),tT,hW 3,hH (.nilS 6 0 9)]
  ·obtain ⟨r1,h3,h⟩:=Qaf h
   rcases Qah h with ⟨h4,h⟩|⟨h4,h⟩
   ·obtain ⟨x1,h5,h⟩:=Qaf h
    obtain ⟨r2,h6,h⟩:=Qaf h
    rcases Qah h with ⟨h7,h⟩|⟨h7,h⟩
    ·obtain rfl:=Option.some.inj h
     exact gr 24 [] [rp 5 hP,rp 3 (oI ((ltI l.type_ 0)=false)),nL Qai.enc x0.types,hP,hP,rp 2 (oI ((ltI l.type_ 0)=false)),oR True ((ltI l.type_ 0)=false),bF h0,cC (Qfm h1),rp 4 (bF h2),cC (Qfp h3),bF h2,bF h2,nF h4,cE Qai.enc h5,cC (QeL h6),rp 16 hP,rp 9 (oI ((neI r2.2.2 0)=false)),oR True ((neI r2.2.2 0)=false),rp 3 (oI (((neI r2.2.2 0)||(gtI (subK .i64 (addK .i64 l.driven r2.1) l.time) x1.drive))=false)),oR True (((neI r2.2.2 0)||(gtI (subK .i64 (addK .i64 l.driven r2.1) l.time) x1.drive))=false),bT h7,hW 3,hH (.nilS 6 0 9)]
    ·obtain ⟨r3,h8,h⟩:=Qaf h
     obtain ⟨r4,h9,h⟩:=Qaf h
     rcases Qah h with ⟨h10,h⟩|⟨h10,h⟩
     ·obtain rfl:=Option.some.inj h
      exact gr 33 [] [rp 5 hP,rp 3 (oI ((ltI l.type_ 0)=false)),nL Qai.enc x0.types,hP,hP,rp 2 (oI ((ltI l.type_ 0)=false)),oR True ((ltI l.type_ 0)=false),bF h0,cC (Qfm h1),rp 4 (bF h2),cC (Qfp h3),bF h2,bF h2,nF h4,cE Qai.enc h5,cC (QeL h6),rp 16 hP,rp 9 (oI ((neI r2.2.2 0)=false)),oR True ((neI r2.2.2 0)=false),rp 3 (oI (((neI r2.2.2 0)||(gtI (subK .i64 (addK .i64 l.driven r2.1) l.time) x1.drive))=false)),oR True (((neI r2.2.2 0)||(gtI (subK .i64 (addK .i64 l.driven r2.1) l.time) x1.drive))=false),bF h7,cC (Qgx h8),cC (QgU h9),rp 6 (bT h10),tT,hW 3,hH (.nilS 6 0 9)]
     ·obtain ⟨r5,h11,h⟩:=Qaf h
      rcases Qah h with ⟨h12,h⟩|⟨h12,h⟩
      ·obtain ⟨l1,h13,h⟩:=Qaf h
       obtain ⟨h14,h⟩:=Qar h
       obtain ⟨h15,h⟩:=Qar h
       rcases Qah h with ⟨h16,h⟩|⟨h16,h⟩
       ·exact gn 49 [9,14] [4,5,8] [rp 5 hP,rp 3 (oI ((ltI l.type_ 0)=false)),nL Qai.enc x0.types,hP,hP,rp 2 (oI ((ltI l.type_ 0)=false)),oR True ((ltI l.type_ 0)=false),bF h0,cC (Qfm h1),rp 4 (bF h2),cC (Qfp h3),bF h2,bF h2,nF h4,cE Qai.enc h5,cC (QeL h6),rp 16 hP,rp 9 (oI ((neI r2.2.2 0)=false)),oR True ((neI r2.2.2 0)=false),rp 3 (oI (((neI r2.2.2 0)||(gtI (subK .i64 (addK .i64 l.driven r2.1) l.time) x1.drive))=false)),oR True (((neI r2.2.2 0)||(gtI (subK .i64 (addK .i64 l.driven r2.1) l.time) x1.drive))=false),bF h7,cC (Qgx h8),cC (QgU h9),rp 4 (bF h10),cC (Qgc h11),rp 2 (bF h10),nF h12,rp 2 (nL Qaa.enc l.visits),hH (.cells [lI 0,.bool false]),hH (.rows (l1.map Qaa.enc)),oO (mk1 h13),oO (mk2 h13),oO (mk3 h13),oO (mk4 h13),oO (mk5 Qaa.enc h13),cY Qaa.enc l1 l.visits,hH (.relen 6 ((cpyL l1 l.visits).map Qaa.enc).length),rp 3 (oO (QAl Qaa.enc l1 l.visits)),oO (Eq.refl ([v].map Qaa.enc).length),aO Qaa.enc h14,oO (h15),bT h16] (Qix Γ rv h)
       ·obtain ⟨x2,h17,h⟩:=Qaf h
        rcases Qah h with ⟨h18,h⟩|⟨h18,h⟩
        ·exact gn 52 [9,14] [4,5,8] [rp 5 hP,rp 3 (oI ((ltI l.type_ 0)=false)),nL Qai.enc x0.types,hP,hP,rp 2 (oI ((ltI l.type_ 0)=false)),oR True ((ltI l.type_ 0)=false),bF h0,cC (Qfm h1),rp 4 (bF h2),cC (Qfp h3),bF h2,bF h2,nF h4,cE Qai.enc h5,cC (QeL h6),rp 16 hP,rp 9 (oI ((neI r2.2.2 0)=false)),oR True ((neI r2.2.2 0)=false),rp 3 (oI (((neI r2.2.2 0)||(gtI (subK .i64 (addK .i64 l.driven r2.1) l.time) x1.drive))=false)),oR True (((neI r2.2.2 0)||(gtI (subK .i64 (addK .i64 l.driven r2.1) l.time) x1.drive))=false),bF h7,cC (Qgx h8),cC (QgU h9),rp 4 (bF h10),cC (Qgc h11),rp 2 (bF h10),nF h12,rp 2 (nL Qaa.enc l.visits),hH (.cells [lI 0,.bool false]),hH (.rows (l1.map Qaa.enc)),oO (mk1 h13),oO (mk2 h13),oO (mk3 h13),oO (mk4 h13),oO (mk5 Qaa.enc h13),cY Qaa.enc l1 l.visits,hH (.relen 6 ((cpyL l1 l.visits).map Qaa.enc).length),rp 3 (oO (QAl Qaa.enc l1 l.visits)),oO (Eq.refl ([v].map Qaa.enc).length),aO Qaa.enc h14,oO (h15),bF h16,cE Qag.enc h17,bT h18] (Qix Γ rv h)
        ·exact gn 52 [9,14] [4,5,8] [rp 5 hP,rp 3 (oI ((ltI l.type_ 0)=false)),nL Qai.enc x0.types,hP,hP,rp 2 (oI ((ltI l.type_ 0)=false)),oR True ((ltI l.type_ 0)=false),bF h0,cC (Qfm h1),rp 4 (bF h2),cC (Qfp h3),bF h2,bF h2,nF h4,cE Qai.enc h5,cC (QeL h6),rp 16 hP,rp 9 (oI ((neI r2.2.2 0)=false)),oR True ((neI r2.2.2 0)=false),rp 3 (oI (((neI r2.2.2 0)||(gtI (subK .i64 (addK .i64 l.driven r2.1) l.time) x1.drive))=false)),oR True (((neI r2.2.2 0)||(gtI (subK .i64 (addK .i64 l.driven r2.1) l.time) x1.drive))=false),bF h7,cC (Qgx h8),cC (QgU h9),rp 4 (bF h10),cC (Qgc h11),rp 2 (bF h10),nF h12,rp 2 (nL Qaa.enc l.visits),hH (.cells [lI 0,.bool false]),hH (.rows (l1.map Qaa.enc)),oO (mk1 h13),oO (mk2 h13),oO (mk3 h13),oO (mk4 h13),oO (mk5 Qaa.enc h13),cY Qaa.enc l1 l.visits,hH (.relen 6 ((cpyL l1 l.visits).map Qaa.enc).length),rp 3 (oO (QAl Qaa.enc l1 l.visits)),oO (Eq.refl ([v].map Qaa.enc).length),aO Qaa.enc h14,oO (h15),bF h16,cE Qag.enc h17,bF h18] (Qix Γ rv h)
      ·obtain rfl:=Option.some.inj h
       exact gr 33 [] [rp 5 hP,rp 3 (oI ((ltI l.type_ 0)=false)),nL Qai.enc x0.types,hP,hP,rp 2 (oI ((ltI l.type_ 0)=false)),oR True ((ltI l.type_ 0)=false),bF h0,cC (Qfm h1),rp 4 (bF h2),cC (Qfp h3),bF h2,bF h2,nF h4,cE Qai.enc h5,cC (QeL h6),rp 16 hP,rp 9 (oI ((neI r2.2.2 0)=false)),oR True ((neI r2.2.2 0)=false),rp 3 (oI (((neI r2.2.2 0)||(gtI (subK .i64 (addK .i64 l.driven r2.1) l.time) x1.drive))=false)),oR True (((neI r2.2.2 0)||(gtI (subK .i64 (addK .i64 l.driven r2.1) l.time) x1.drive))=false),bF h7,cC (Qgx h8),cC (QgU h9),rp 4 (bF h10),cC (Qgc h11),rp 2 (bF h10),nT h12,hW 3,hH (.nilS 6 0 9)]
   ·obtain rfl:=Option.some.inj h
    exact gr 15 [] [rp 5 hP,rp 3 (oI ((ltI l.type_ 0)=false)),nL Qai.enc x0.types,hP,hP,rp 2 (oI ((ltI l.type_ 0)=false)),oR True ((ltI l.type_ 0)=false),bF h0,cC (Qfm h1),rp 4 (bF h2),cC (Qfp h3),bF h2,bF h2,nT h4,hW 3,hH (.nilS 6 0 9)]
def Qkt (Γ:Gam) (rv:List Int) (cf:Cf):Prop:=Go Tryz.prog Tryz.f143 [] Γ (one (lL 1 rv e_i64)) [] cf
def QnI (Γ:Gam) (rv:List Int) (before:List Qap) (l:List Int) (l2:List Int) (more1:Bool) (v:Int):Prop:=Qkt Γ rv ⟨[.c 7468,.l 7468,.b 2,.b 1,.l 116,.b 0,.c 15],⟨68,[vL 1 2 before Qap.enc,vO 5 0 1 l2 e_i64,vB 6 more1,vL 16 2 before Qap.enc,vI 17 (lenI before),vI 18 v],[oS 1 3 l2 e_i64]⟩⟩
def QmT (Γ:Gam) (rv:List Int) (before:List Qap) (l:List Int) (l3:List Int) (more2:Bool):Prop:=Qkt Γ rv ⟨[.b 1,.l 116,.b 0,.c 15],⟨68,[vL 1 2 before Qap.enc,vO 5 0 1 l3 e_i64,vB 6 more2],[oS 1 3 l3 e_i64]⟩⟩
def QnH (Γ:Gam) (rv:List Int) (before:List Qap) (l:List Int) (l1:List Int) (more:Bool):Prop:=Qkt Γ rv ⟨[.c 116,.l 116,.b 0,.c 15],⟨68,[vL 1 2 before Qap.enc,vO 5 0 1 l1 e_i64,vB 6 more],[oS 1 3 l1 e_i64]⟩⟩
def QmS (Γ:Gam) (rv:List Int) (before:List Qap) (l:List Int) (l4:List Int):Prop:=Qkt Γ rv ⟨[.c 15],⟨68,[vO 5 0 1 l4 e_i64],[oS 1 3 l4 e_i64]⟩⟩
theorem Qq8 (Γ:Gam) (rv:List Int) {before l} {s:List Int×Bool×Int} {e:List Int×Bool} (h:loopF (fun s=>QcW before l s.1 s.2.1 s.2.2) s=some e) (hD:QmT Γ rv before l e.1 e.2):QnI Γ rv before l s.1 s.2.1 s.2.2:=by
 refine Qau (C:=fun (s:List Int×Bool×Int)=>QnI Γ rv before l s.1 s.2.1 s.2.2) (D:=fun (e:List Int×Bool)=>QmT Γ rv before l e.1 e.2) ?_ h hD
 clear h hD s e
 rintro ⟨l2,more1,v⟩ z_ h hI hE
 replace h:QcW before l l2 more1 v=_:=h
 unfold QcW at h
 rcases Qah h with ⟨h2,h⟩|⟨h2,h⟩
 ·obtain ⟨x0,h3,h⟩:=Qaf h
  rcases Qah h with ⟨h4,h⟩|⟨h4,h⟩
  ·exact gn 18 [1,5,6,16,17,18] [0] [bT h2,cE Qap.enc h3,hH (.draw 6 []),rp 6 hP,oO (zL 0),oO (lT 0 2),oO (zL 1),oO (lT 1 2),oI ((ltI x0.x0 0)=false),oR True ((ltI x0.x0 0)=false),oI (((ltI x0.x0 0)||(ltI x0.x1 0))=false),nL e_i64 l2,rp 5 hP,rp 2 (oI (((ltI x0.x0 0)||(ltI x0.x1 0))=false)),oR True (((ltI x0.x0 0)||(ltI x0.x1 0))=false),oI ((((ltI x0.x0 0)||(ltI x0.x1 0))||(geI x0.x0 (lenI l2)))=false),nL e_i64 l2,hP,hP,rp 2 (oI ((((ltI x0.x0 0)||(ltI x0.x1 0))||(geI x0.x0 (lenI l2)))=false)),oR True ((((ltI x0.x0 0)||(ltI x0.x1 0))||(geI x0.x0 (lenI l2)))=false),bT h4] (hI _ (oJ h))
  ·obtain ⟨x1,h5,h⟩:=Qaf h
   obtain ⟨x2,h6,h⟩:=Qaf h
   obtain ⟨h7,h⟩:=Qar h
   rcases Qah h with ⟨h8,h⟩|⟨h8,h⟩
   ·exact gn 27 [1,5,6,16,17,18] [0] [bT h2,cE Qap.enc h3,hH (.draw 6 []),rp 6 hP,oO (zL 0),oO (lT 0 2),oO (zL 1),oO (lT 1 2),oI ((ltI x0.x0 0)=false),oR True ((ltI x0.x0 0)=false),oI (((ltI x0.x0 0)||(ltI x0.x1 0))=false),nL e_i64 l2,rp 5 hP,rp 2 (oI (((ltI x0.x0 0)||(ltI x0.x1 0))=false)),oR True (((ltI x0.x0 0)||(ltI x0.x1 0))=false),oI ((((ltI x0.x0 0)||(ltI x0.x1 0))||(geI x0.x0 (lenI l2)))=false),nL e_i64 l2,hP,hP,rp 2 (oI ((((ltI x0.x0 0)||(ltI x0.x1 0))||(geI x0.x0 (lenI l2)))=false)),oR True ((((ltI x0.x0 0)||(ltI x0.x1 0))||(geI x0.x0 (lenI l2)))=false),bF h4,hH (.draw 13 []),oO (getLo h5),oO (getHi e_i64 h5),rE e_i64 h5,oO (getLo h6),oO (getHi e_i64 h6),rE e_i64 h6,oO (h7),oO (getLo h5),oO (getHi e_i64 h5),rE e_i64 h5,bT h8,oO (getLo h5),oO (getHi e_i64 h5),rE e_i64 h5,hH (.rows ((setI l2 x0.x1 (orK .i64 (orK .i64 x1 x2) (shlK .i64 1 x0.x0))).map e_i64)),hH (.relen 0 ((setI l2 x0.x1 (orK .i64 (orK .i64 x1 x2) (shlK .i64 1 x0.x0))).map e_i64).length),oO (setM e_i64 l2 x0.x1 (orK .i64 (orK .i64 x1 x2) (shlK .i64 1 x0.x0))),rp 5 (oO (QAn e_i64 l2 x0.x1 (orK .i64 (orK .i64 x1 x2) (shlK .i64 1 x0.x0))))] (hI _ (oJ h))
   ·exact gn 25 [1,5,6,16,17,18] [0] [bT h2,cE Qap.enc h3,hH (.draw 6 []),rp 6 hP,oO (zL 0),oO (lT 0 2),oO (zL 1),oO (lT 1 2),oI ((ltI x0.x0 0)=false),oR True ((ltI x0.x0 0)=false),oI (((ltI x0.x0 0)||(ltI x0.x1 0))=false),nL e_i64 l2,rp 5 hP,rp 2 (oI (((ltI x0.x0 0)||(ltI x0.x1 0))=false)),oR True (((ltI x0.x0 0)||(ltI x0.x1 0))=false),oI ((((ltI x0.x0 0)||(ltI x0.x1 0))||(geI x0.x0 (lenI l2)))=false),nL e_i64 l2,hP,hP,rp 2 (oI ((((ltI x0.x0 0)||(ltI x0.x1 0))||(geI x0.x0 (lenI l2)))=false)),oR True ((((ltI x0.x0 0)||(ltI x0.x1 0))||(geI x0.x0 (lenI l2)))=false),bF h4,hH (.draw 13 []),oO (getLo h5),oO (getHi e_i64 h5),rE e_i64 h5,oO (getLo h6),oO (getHi e_i64 h6),rE e_i64 h6,oO (h7),oO (getLo h5),oO (getHi e_i64 h5),rE e_i64 h5,bF h8] (hI _ (oJ h))
 ·exact gn 5 [1,5,6] [0] [bF h2] (hE _ (oJ h))
theorem Qq7 (Γ:Gam) (rv:List Int) {before l} {s:List Int×Bool} {e:List Int} (h:loopF (fun s=>QcV before l s.1 s.2) s=some e) (hD:QmS Γ rv before l e):QnH Γ rv before l s.1 s.2:=by
 refine Qau (C:=fun (s:List Int×Bool)=>QnH Γ rv before l s.1 s.2) (D:=fun (e:List Int)=>QmS Γ rv before l e) ?_ h hD
 clear h hD s e
 rintro ⟨l1,more⟩ z_ h hI hE
 replace h:QcV before l l1 more=_:=h
 unfold QcV at h
 rcases Qah h with ⟨h1,h⟩|⟨h1,h⟩
 ·obtain ⟨e0,h9,h⟩:=Qaf h
  refine gn 12 [1,5,6,16,17,18] [0] [bT h1,nL Qap.enc before] (Qq8 Γ rv h9 ?_)
  obtain ⟨l3,more2⟩:=e0
  replace h:(some (.inl (l3,more2)):Option ((List Int×Bool)⊕(List Int)))=some _:=h
  exact gn 2 [1,5,6] [0] [] (hI _ (oJ h))
 ·exact gn 5 [5] [0] [bF h1] (hE _ (oJ h))
theorem QsT {orders before} {rv:List Int} (h:Qep orders before=some rv):AFn Tryz.prog 143 [.one (lI orders),.one (lL 2 before Qap.enc)] [] (one (lL 1 rv e_i64)) []:=by
 refine QaK Tryz.func143 (by kernel_rfl) (by kernel_rfl) (fun Γ=>?_)
 unfold Qep at h
 obtain ⟨l,h0,h⟩:=Qaf h
 obtain ⟨e1,h10,h⟩:=Qaf h
 refine gn 9 [1,5,6] [0] [hH (.cells [lI 0]),hH (.rows (l.map e_i64)),oO (mk1 h0),oO (mk2 h0),oO (mk3 h0),oO (mk4 h0),oO (mk5 e_i64 h0)] (Qq7 Γ rv h10 ?_)
 obtain ⟨l4,rfl⟩:∃ x,x=e1:=⟨_,rfl⟩
 replace h:(some l4:Option (List Int))=some _:=h
 obtain rfl:=Option.some.inj h
 exact gr 2 [] [hW 4,hH (.frz 0),rp 3 (eL l4 e_i64)]
def QcU (Γ:Gam) (rv:Int) (cf:Cf):Prop:=Go Tryz.prog Tryz.f122 [] Γ (one (lI rv)) [] cf
def QmN (Γ:Gam) (rv:Int) (x0:Qac) (set_:Int) (r:List Int) (v:Int):Prop:=QcU Γ rv ⟨[.c 244,.l 244,.b 0,.c 31],⟨102,[vI 1 set_,vP 2 0 6,vL 5 1 r e_i64,vL 21 1 r e_i64,vI 22 (lenI r),vI 23 v],[oX 6 30 (Qac.enc x0)]⟩⟩
def QlW (Γ:Gam) (rv:Int) (x0:Qac) (set_:Int) (r:List Int):Prop:=QcU Γ rv ⟨[.c 31],⟨102,[vI 1 set_,vP 2 0 6,vL 5 1 r e_i64],[oX 6 30 (Qac.enc x0)]⟩⟩
def QmO (Γ:Gam) (rv:Int) (x0:Qac) (set_:Int) (r:List Int) (v1:Int):Prop:=QcU Γ rv ⟨[.c 500,.l 500,.b 2,.c 63],⟨102,[vI 1 set_,vP 2 0 6,vL 5 1 r e_i64,vL 33 1 r e_i64,vI 34 (lenI r),vI 35 v1],[oX 6 30 (Qac.enc x0)]⟩⟩
def QlX (Γ:Gam) (rv:Int) (x0:Qac) (set_:Int) (r:List Int):Prop:=QcU Γ rv ⟨[.c 63],⟨102,[vI 1 set_,vP 2 0 6,vL 5 1 r e_i64],[oX 6 30 (Qac.enc x0)]⟩⟩
def QmP (Γ:Gam) (rv:Int) (x0:Qac) (set_:Int) (r:List Int) (v2:Int):Prop:=QcU Γ rv ⟨[.c 1012,.l 1012,.b 4,.c 127],⟨102,[vI 1 set_,vP 2 0 6,vL 5 1 r e_i64,vL 47 2 x0.apart Qap.enc,vI 48 (lenI x0.apart),vI 49 v2],[oX 6 30 (Qac.enc x0)]⟩⟩
def QlY (Γ:Gam) (rv:Int) (x0:Qac) (set_:Int) (r:List Int):Prop:=QcU Γ rv ⟨[.c 127],⟨102,[vI 1 set_,vP 2 0 6,vL 5 1 r e_i64],[oX 6 30 (Qac.enc x0)]⟩⟩
def QmQ (Γ:Gam) (rv:Int) (x0:Qac) (set_:Int) (r:List Int) (v3:Int):Prop:=QcU Γ rv ⟨[.c 2036,.l 2036,.b 6,.c 255],⟨102,[vI 1 set_,vP 2 0 6,vL 5 1 r e_i64,vL 65 2 x0.before Qap.enc,vI 66 (lenI x0.before),vI 67 v3],[oX 6 30 (Qac.enc x0)]⟩⟩
def QlZ (Γ:Gam) (rv:Int) (x0:Qac) (set_:Int) (r:List Int):Prop:=QcU Γ rv ⟨[.c 255],⟨102,[vP 2 0 6,vL 5 1 r e_i64],[oX 6 30 (Qac.enc x0)]⟩⟩
def QmR (Γ:Gam) (rv:Int) (r:List Int) (r5:List Int) (v4:Int):Prop:=QcU Γ rv ⟨[.c 8180,.l 8180,.b 8,.c 1023],⟨102,[vL 14 1 r5 e_i64,vL 89 1 r e_i64,vI 90 (lenI r),vI 91 v4],[]⟩⟩
def Ql0 (Γ:Gam) (rv:Int) (r:List Int) (r5:List Int):Prop:=QcU Γ rv ⟨[.c 1023],⟨102,[],[]⟩⟩
theorem Qqz (Γ:Gam) (rv:Int) {x0 set_ r} {s:Int} {e:(Unit)⊕(Int)} (h:loopF (fun s=>QaS x0 set_ r s) s=some e) (hD:sel e (fun e=>QlW Γ rv x0 set_ r) (fun e=>e=rv)):QmN Γ rv x0 set_ r s:=by
 refine Qau (C:=fun (s:Int)=>QmN Γ rv x0 set_ r s) (D:=fun (e:(Unit)⊕(Int))=>sel e (fun e=>QlW Γ rv x0 set_ r) (fun e=>e=rv)) ?_ h hD
 clear h hD s e
 intro v z_ h hI hE
 replace h:QaS x0 set_ r v=_:=h
 unfold QaS at h
 rcases Qah h with ⟨h2,h⟩|⟨h2,h⟩
 ·obtain ⟨x1,h3,h⟩:=Qaf h
  rcases Qah h with ⟨h4,h⟩|⟨h4,h⟩
  ·obtain rfl:=(hE _ (oJ h):_=rv)
   exact gr 14 [] [bT h2,cE e_i64 h3,nL Qag.enc x0.orders,bT h4]
  ·exact gn 16 [1,2,5,21,22,23] [0] [bT h2,cE e_i64 h3,nL Qag.enc x0.orders,bF h4] (hI _ (oJ h))
 ·exact gn 5 [1,2,5] [0] [bF h2] (hE _ (oJ h))
theorem QqA (Γ:Gam) (rv:Int) {x0 set_ r} {s:Int} {e:(Unit)⊕(Int)} (h:loopF (fun s=>QaQ x0 set_ r s) s=some e) (hD:sel e (fun e=>QlX Γ rv x0 set_ r) (fun e=>e=rv)):QmO Γ rv x0 set_ r s:=by
 refine Qau (C:=fun (s:Int)=>QmO Γ rv x0 set_ r s) (D:=fun (e:(Unit)⊕(Int))=>sel e (fun e=>QlX Γ rv x0 set_ r) (fun e=>e=rv)) ?_ h hD
 clear h hD s e
 intro v1 z_ h hI hE
 replace h:QaQ x0 set_ r v1=_:=h
 unfold QaQ at h
 rcases Qah h with ⟨h6,h⟩|⟨h6,h⟩
 ·obtain ⟨x2,h7,h⟩:=Qaf h
  obtain ⟨x3,h8,h⟩:=Qaf h
  rcases Qah h with ⟨h9,h⟩|⟨h9,h⟩
  ·obtain rfl:=(hE _ (oJ h):_=rv)
   exact gr 14 [] [bT h6,cE e_i64 h7,cE Qag.enc h8,bT h9]
  ·exact gn 16 [1,2,5,33,34,35] [0] [bT h6,cE e_i64 h7,cE Qag.enc h8,bF h9] (hI _ (oJ h))
 ·exact gn 5 [1,2,5] [0] [bF h6] (hE _ (oJ h))
theorem QqB (Γ:Gam) (rv:Int) {x0 set_ r} {s:Int} {e:(Unit)⊕(Int)} (h:loopF (fun s=>QaI x0 set_ r s) s=some e) (hD:sel e (fun e=>QlY Γ rv x0 set_ r) (fun e=>e=rv)):QmP Γ rv x0 set_ r s:=by
 refine Qau (C:=fun (s:Int)=>QmP Γ rv x0 set_ r s) (D:=fun (e:(Unit)⊕(Int))=>sel e (fun e=>QlY Γ rv x0 set_ r) (fun e=>e=rv)) ?_ h hD
 clear h hD s e
 intro v2 z_ h hI hE
 replace h:QaI x0 set_ r v2=_:=h
 unfold QaI at h
 rcases Qah h with ⟨h11,h⟩|⟨h11,h⟩
 ·obtain ⟨x4,h12,h⟩:=Qaf h
  obtain ⟨r1,h13,h⟩:=Qaf h
  rcases Qah h with ⟨h14,h⟩|⟨h14,h⟩
  ·obtain ⟨r2,h15,h⟩:=Qaf h
   rcases Qah h with ⟨h16,h⟩|⟨h16,h⟩
   ·obtain rfl:=(hE _ (oJ h):_=rv)
    exact gr 14 [] [bT h11,cE Qap.enc h12,oO (zL 0),oO (lT 0 2),cC (Qaw h13),rp 2 (bT h14),oO (zL 1),oO (lT 1 2),rp 2 (bT h14),cC (Qaw h15),bT h14,bT h16]
   ·exact gn 16 [1,2,5,47,48,49] [0] [bT h11,cE Qap.enc h12,oO (zL 0),oO (lT 0 2),cC (Qaw h13),rp 2 (bT h14),oO (zL 1),oO (lT 1 2),rp 2 (bT h14),cC (Qaw h15),bT h14,bF h16] (hI _ (oJ h))
  ·exact gn 16 [1,2,5,47,48,49] [0] [bT h11,cE Qap.enc h12,oO (zL 0),oO (lT 0 2),cC (Qaw h13),rp 5 (bF h14),fF] (hI _ (oJ h))
 ·exact gn 5 [1,2,5] [0] [bF h11] (hE _ (oJ h))
theorem QqC (Γ:Gam) (rv:Int) {x0 set_ r} {s:Int} {e:(Unit)⊕(Int)} (h:loopF (fun s=>QaH x0 set_ r s) s=some e) (hD:sel e (fun e=>QlZ Γ rv x0 set_ r) (fun e=>e=rv)):QmQ Γ rv x0 set_ r s:=by
 refine Qau (C:=fun (s:Int)=>QmQ Γ rv x0 set_ r s) (D:=fun (e:(Unit)⊕(Int))=>sel e (fun e=>QlZ Γ rv x0 set_ r) (fun e=>e=rv)) ?_ h hD
 clear h hD s e
 intro v3 z_ h hI hE
 replace h:QaH x0 set_ r v3=_:=h
 unfold QaH at h
 rcases Qah h with ⟨h18,h⟩|⟨h18,h⟩
 ·obtain ⟨x5,h19,h⟩:=Qaf h
  obtain ⟨r3,h20,h⟩:=Qaf h
  rcases Qah h with ⟨h21,h⟩|⟨h21,h⟩
  ·obtain ⟨r4,h22,h⟩:=Qaf h
   rcases Qah h with ⟨h23,h⟩|⟨h23,h⟩
   ·exact gn 16 [1,2,5,65,66,67] [0] [bT h18,cE Qap.enc h19,oO (zL 1),oO (lT 1 2),cC (Qaw h20),rp 2 (bT h21),oO (zL 0),oO (lT 0 2),rp 2 (bT h21),cC (Qaw h22),rp 2 (bT h21),nF h23] (hI _ (oJ h))
   ·obtain rfl:=(hE _ (oJ h):_=rv)
    exact gr 14 [] [bT h18,cE Qap.enc h19,oO (zL 1),oO (lT 1 2),cC (Qaw h20),rp 2 (bT h21),oO (zL 0),oO (lT 0 2),rp 2 (bT h21),cC (Qaw h22),rp 2 (bT h21),nT h23]
  ·exact gn 16 [1,2,5,65,66,67] [0] [bT h18,cE Qap.enc h19,oO (zL 1),oO (lT 1 2),cC (Qaw h20),rp 6 (bF h21),fF] (hI _ (oJ h))
 ·exact gn 5 [2,5] [0] [bF h18] (hE _ (oJ h))
theorem QqD (Γ:Gam) (rv:Int) {r r5} {s:Int} {e:(Unit)⊕(Int)} (h:loopF (fun s=>QaE r r5 s) s=some e) (hD:sel e (fun e=>Ql0 Γ rv r r5) (fun e=>e=rv)):QmR Γ rv r r5 s:=by
 refine Qau (C:=fun (s:Int)=>QmR Γ rv r r5 s) (D:=fun (e:(Unit)⊕(Int))=>sel e (fun e=>Ql0 Γ rv r r5) (fun e=>e=rv)) ?_ h hD
 clear h hD s e
 intro v4 z_ h hI hE
 replace h:QaE r r5 v4=_:=h
 unfold QaE at h
 rcases Qah h with ⟨h26,h⟩|⟨h26,h⟩
 ·obtain ⟨x6,h27,h⟩:=Qaf h
  obtain ⟨x7,h28,h⟩:=Qaf h
  obtain ⟨r6,h29,h⟩:=Qaf h
  rcases Qah h with ⟨h30,h⟩|⟨h30,h⟩
  ·obtain rfl:=(hE _ (oJ h):_=rv)
   exact gr 14 [] [bT h26,cE e_i64 h27,cE e_i64 h28,cC (Qaw h29),bT h30]
  ·exact gn 16 [14,89,90,91] [] [bT h26,cE e_i64 h27,cE e_i64 h28,cC (Qaw h29),bF h30] (hI _ (oJ h))
 ·exact gn 5 [] [] [bF h26] (hE _ (oJ h))
theorem Qsy {x0 set_} {rv:Int} (h:Qdz x0 set_=some rv):AFn Tryz.prog 122 [.agg (Qac.enc x0),.one (lI set_)] [] (one (lI rv)) []:=by
 refine QaK Tryz.func122 (by kernel_rfl) (by kernel_rfl) (fun Γ=>?_)
 unfold Qdz at h
 rcases Qah h with ⟨h0,h⟩|⟨h0,h⟩
 ·obtain rfl:=Option.some.inj h
  exact gr 8 [] [bT h0]
 ·obtain ⟨r,h1,h⟩:=Qaf h
  obtain ⟨e0,h5,h⟩:=Qaf h
  refine gn 14 [1,2,5,21,22,23] [0] [bF h0,cC (Qmi h1),nL e_i64 r] (Qqz Γ rv h5 ?_)
  rcases e0 with e0|e0
  ·replace h:(bnd (loopF (fun s=>QaQ x0 set_ r s) 0) (fun e=>sel e (fun (_:Unit)=>bnd (loopF (fun s=>QaI x0 set_ r s) 0) (fun e=>sel e (fun (_:Unit)=>bnd (loopF (fun s=>QaH x0 set_ r s) 0) (fun e=>sel e (fun (_:Unit)=>bnd (Qep (lenI x0.orders) x0.before) fun r5=>bnd (loopF (fun s=>QaE r r5 s) 0) (fun e=>sel e (fun (_:Unit)=>some 0) (fun r7=>some r7))) (fun r8=>some r8))) (fun r9=>some r9))) (fun r10=>some r10)):Option Int)=some _:=h
   obtain ⟨e1,h10,h⟩:=Qaf h
   refine gn 5 [1,2,5,33,34,35] [0] [nL e_i64 r] (QqA Γ rv h10 ?_)
   rcases e1 with e1|e1
   ·replace h:(bnd (loopF (fun s=>QaI x0 set_ r s) 0) (fun e=>sel e (fun (_:Unit)=>bnd (loopF (fun s=>QaH x0 set_ r s) 0) (fun e=>sel e (fun (_:Unit)=>bnd (Qep (lenI x0.orders) x0.before) fun r5=>bnd (loopF (fun s=>QaE r r5 s) 0) (fun e=>sel e (fun (_:Unit)=>some 0) (fun r7=>some r7))) (fun r8=>some r8))) (fun r9=>some r9)):Option Int)=some _:=h
    obtain ⟨e2,h17,h⟩:=Qaf h
    refine gn 5 [1,2,5,47,48,49] [0] [nL Qap.enc x0.apart] (QqB Γ rv h17 ?_)
    rcases e2 with e2|e2
    ·replace h:(bnd (loopF (fun s=>QaH x0 set_ r s) 0) (fun e=>sel e (fun (_:Unit)=>bnd (Qep (lenI x0.orders) x0.before) fun r5=>bnd (loopF (fun s=>QaE r r5 s) 0) (fun e=>sel e (fun (_:Unit)=>some 0) (fun r7=>some r7))) (fun r8=>some r8)):Option Int)=some _:=h
     obtain ⟨e3,h24,h⟩:=Qaf h
     refine gn 5 [1,2,5,65,66,67] [0] [nL Qap.enc x0.before] (QqC Γ rv h24 ?_)
     rcases e3 with e3|e3
     ·replace h:(bnd (Qep (lenI x0.orders) x0.before) fun r5=>bnd (loopF (fun s=>QaE r r5 s) 0) (fun e=>sel e (fun (_:Unit)=>some 0) (fun r7=>some r7)):Option Int)=some _:=h
      obtain ⟨r5,h25,h⟩:=Qaf h
      obtain ⟨e4,h31,h⟩:=Qaf h
      refine gn 7 [14,89,90,91] [] [nL Qag.enc x0.orders,cC (QsT h25),nL e_i64 r] (QqD Γ rv h31 ?_)
      rcases e4 with e4|e4
      ·replace h:(some 0:Option Int)=some _:=h
       obtain rfl:=Option.some.inj h
       exact gr 2 [] []
      ·obtain ⟨r7,rfl⟩:∃ x,x=e4:=⟨_,rfl⟩
       replace h:(some r7:Option Int)=some _:=h
       exact Option.some.inj h
     ·obtain ⟨r8,rfl⟩:∃ x,x=e3:=⟨_,rfl⟩
      replace h:(some r8:Option Int)=some _:=h
      exact Option.some.inj h
    ·obtain ⟨r9,rfl⟩:∃ x,x=e2:=⟨_,rfl⟩
     replace h:(some r9:Option Int)=some _:=h
     exact Option.some.inj h
   ·obtain ⟨r10,rfl⟩:∃ x,x=e1:=⟨_,rfl⟩
    replace h:(some r10:Option Int)=some _:=h
    exact Option.some.inj h
  ·obtain ⟨r11,rfl⟩:∃ x,x=e0:=⟨_,rfl⟩
   replace h:(some r11:Option Int)=some _:=h
   exact Option.some.inj h
def Qlo (Γ:Gam) (rv:Bool) (cf:Cf):Prop:=Go Tryz.prog Tryz.f93 [] Γ (one (.bool rv)) [] cf
def Qir (Γ:Gam) (rv:Bool) (x0:Qac) (set_:Int) (v:Int):Prop:=Qlo Γ rv ⟨[.c 52,.l 52,.b 0,.c 7],⟨29,[vI 1 set_,vP 2 0 6,vL 8 16 x0.orders Qag.enc,vI 9 (lenI x0.orders),vI 10 v],[oX 6 30 (Qac.enc x0)]⟩⟩
def Qh4 (Γ:Gam) (rv:Bool) (x0:Qac) (set_:Int):Prop:=Qlo Γ rv ⟨[.c 7],⟨29,[vI 1 set_,vP 2 0 6],[oX 6 30 (Qac.enc x0)]⟩⟩
theorem Qnh (Γ:Gam) (rv:Bool) {x0 set_} {s:Int} {e:(Unit)⊕(Bool)} (h:loopF (fun s=>Qbw x0 set_ s) s=some e) (hD:sel e (fun e=>Qh4 Γ rv x0 set_) (fun e=>e=rv)):Qir Γ rv x0 set_ s:=by
 refine Qau (C:=fun (s:Int)=>Qir Γ rv x0 set_ s) (D:=fun (e:(Unit)⊕(Bool))=>sel e (fun e=>Qh4 Γ rv x0 set_) (fun e=>e=rv)) ?_ h hD
 clear h hD s e
 intro v z_ h hI hE
 replace h:Qbw x0 set_ v=_:=h
 unfold Qbw at h
 rcases Qah h with ⟨h0,h⟩|⟨h0,h⟩
 ·obtain ⟨x1,h1,h⟩:=Qaf h
  obtain ⟨h2,h⟩:=Qar h
  rcases Qah h with ⟨h3,h⟩|⟨h3,h⟩
  ·obtain rfl:=(hE _ (oJ h):_=rv)
   exact gr 14 [] [bT h0,cE Qag.enc h1,hP,hP,hP,oO (h2),oI ((eqI (andK .i64 (shrK .i64 set_ v) 1) 1)=true),oR True ((eqI (andK .i64 (shrK .i64 set_ v) 1) 1)=true),bT h3]
  ·exact gn 16 [1,2,8,9,10] [0] [bT h0,cE Qag.enc h1,hP,hP,hP,oO (h2),oI ((eqI (andK .i64 (shrK .i64 set_ v) 1) 1)=true),oR True ((eqI (andK .i64 (shrK .i64 set_ v) 1) 1)=true),bF h3] (hI _ (oJ h))
 ·exact gn 5 [1,2] [0] [bF h0] (hE _ (oJ h))
theorem Qkq {x0 set_} {rv:Bool} (h:Qfe x0 set_=some rv):AFn Tryz.prog 93 [.agg (Qac.enc x0),.one (lI set_)] [] (one (.bool rv)) []:=by
 refine QaK Tryz.func93 (by kernel_rfl) (by kernel_rfl) (fun Γ=>?_)
 unfold Qfe at h
 obtain ⟨e0,h4,h⟩:=Qaf h
 refine gn 7 [1,2,8,9,10] [0] [nL Qag.enc x0.orders] (Qnh Γ rv h4 ?_)
 rcases e0 with e0|e0
 ·replace h:(bnd (Qdz x0 set_) fun r=>some (neI r 0):Option Bool)=some _:=h
  obtain ⟨r,h5,h⟩:=Qaf h
  obtain rfl:=Option.some.inj h
  exact gr 2 [] [cC (Qsy h5)]
 ·obtain ⟨r1,rfl⟩:∃ x,x=e0:=⟨_,rfl⟩
  replace h:(some r1:Option Bool)=some _:=h
  exact Option.some.inj h
def QtE (Γ:Gam) (rv:List Qaa) (cf:Cf):Prop:=Go Tryz.prog Tryz.f94 [] Γ (one (lL 2 rv Qaa.enc)) [] cf
theorem QmL (Γ:Gam) (rv:List Qaa) {l at_ l1} (h:QfV l at_ l1=some rv):QtE Γ rv ⟨[.c 31],⟨35,[vL 0 16 l Qag.enc,vI 1 at_,vO 5 0 2 l1 Qaa.enc],[oS 2 54 l1 Qaa.enc]⟩⟩:=by
 unfold QfV at h
 obtain ⟨x1,h5,h⟩:=Qaf h
 rcases Qah h with ⟨h6,h⟩|⟨h6,h⟩
 ·obtain ⟨h7,h⟩:=Qar h
  obtain rfl:=Option.some.inj h
  exact gr 7 [] [cE Qag.enc h5,bT h6,oO (Eq.refl ([(Qaa.mk at_ true)].map Qaa.enc).length),aO Qaa.enc h7,hW 5,hH (.frz 2),rp 4 (oO (Eq.refl ((l1++[(Qaa.mk at_ true)]).map Qaa.enc).length))]
 ·obtain rfl:=Option.some.inj h
  exact gr 7 [] [cE Qag.enc h5,bF h6,hW 5,hH (.frz 0),rp 3 (eL l1 Qaa.enc)]
theorem QiI {l at_} {rv:List Qaa} (h:Qgu l at_=some rv):AFn Tryz.prog 94 [.one (lL 16 l Qag.enc),.one (lI at_)] [] (one (lL 2 rv Qaa.enc)) []:=by
 refine QaK Tryz.func94 (by kernel_rfl) (by kernel_rfl) (fun Γ=>?_)
 unfold Qgu at h
 obtain ⟨r,h0,h⟩:=Qaf h
 rcases Qah h with ⟨h1,h⟩|⟨h1,h⟩
 ·obtain ⟨x0,h2,h⟩:=Qaf h
  rcases Qah h with ⟨h3,h⟩|⟨h3,h⟩
  ·obtain ⟨h4,h⟩:=Qar h
   exact gn 14 [0,1,5] [1] [cC (QgH h0),nF h1,cE Qag.enc h2,bT h3,oO (Eq.refl ([(Qaa.mk at_ false)].map Qaa.enc).length),aN (l:=([(Qaa.mk at_ false)]:List Qaa)) Qaa.enc h4] (QmL Γ rv h)
  ·exact gn 14 [0,1,5] [0] [cC (QgH h0),nF h1,cE Qag.enc h2,bF h3,hW 1,hH (.adopt 5 2 54)] (QmL Γ rv h)
 ·obtain rfl:=Option.some.inj h
  exact gr 10 [] [cC (QgH h0),nT h1,hW 3,hH (.nilS 4 0 2)]
def Qea (Γ:Gam) (rv:Int) (cf:Cf):Prop:=Go Tryz.prog Tryz.f154 [] Γ (one (lI rv)) [] cf
def QdA (Γ:Gam) (rv:Int) (s0:List Qaa) (v:Qaa) (v1:Int):Prop:=Qea Γ rv ⟨[.c 52,.l 52,.b 0,.c 7],⟨19,[vL 0 2 s0 Qaa.enc,vP 3 0 2,vI 7 (lenI s0),vI 8 v1],[oX 2 54 (Qaa.enc v)]⟩⟩
def Qdp (Γ:Gam) (rv:Int) (s0:List Qaa) (v:Qaa):Prop:=Qea Γ rv ⟨[.c 7],⟨19,[],[]⟩⟩
theorem Qgb (Γ:Gam) (rv:Int) {s0 v} {s:Int} {e:(Unit)⊕(Int)} (h:loopF (fun s=>Qaz s0 v s) s=some e) (hD:sel e (fun e=>Qdp Γ rv s0 v) (fun e=>e=rv)):QdA Γ rv s0 v s:=by
 refine Qau (C:=fun (s:Int)=>QdA Γ rv s0 v s) (D:=fun (e:(Unit)⊕(Int))=>sel e (fun e=>Qdp Γ rv s0 v) (fun e=>e=rv)) ?_ h hD
 clear h hD s e
 intro v1 z_ h hI hE
 replace h:Qaz s0 v v1=_:=h
 unfold Qaz at h
 rcases Qah h with ⟨h0,h⟩|⟨h0,h⟩
 ·obtain ⟨x0,h1,h⟩:=Qaf h
  rcases Qah h with ⟨h2,h⟩|⟨h2,h⟩
  ·obtain rfl:=(hE _ (oJ h):_=rv)
   exact gr 14 [] [bT h0,hH (.draw 6 []),cE Qaa.enc h1,bT h2]
  ·exact gn 16 [0,3,7,8] [0] [bT h0,hH (.draw 6 []),cE Qaa.enc h1,bF h2] (hI _ (oJ h))
 ·exact gn 5 [] [] [bF h0] (hE _ (oJ h))
theorem QgT {s0 v} {rv:Int} (h:QbQ s0 v=some rv):AFn Tryz.prog 154 [.one (lL 2 s0 Qaa.enc),.agg (Qaa.enc v)] [] (one (lI rv)) []:=by
 refine QaK Tryz.func154 (by kernel_rfl) (by kernel_rfl) (fun Γ=>?_)
 unfold QbQ at h
 obtain ⟨e0,h3,h⟩:=Qaf h
 refine gn 7 [0,3,7,8] [0] [nL Qaa.enc s0] (Qgb Γ rv h3 ?_)
 rcases e0 with e0|e0
 ·replace h:(some (-1):Option Int)=some _:=h
  obtain rfl:=Option.some.inj h
  exact gr 2 [] []
 ·obtain ⟨r,rfl⟩:∃ x,x=e0:=⟨_,rfl⟩
  replace h:(some r:Option Int)=some _:=h
  exact Option.some.inj h
theorem Qex {l v} {rv:Int} (h:QfB l v=some rv):AFn Tryz.prog 144 [.one (lL 2 l Qaa.enc),.agg (Qaa.enc v)] [] (one (lI rv)) []:=by
 refine QaK Tryz.func144 (by kernel_rfl) (by kernel_rfl) (fun Γ=>?_)
 unfold QfB at h
 obtain ⟨r,h0,h⟩:=Qaf h
 obtain rfl:=Option.some.inj h
 exact gr 4 [] [cC (QgT h0)]
def Qff (Γ:Gam) (rv:Bool) (cf:Cf):Prop:=Go Tryz.prog Tryz.f123 [] Γ (one (.bool rv)) [] cf
def Ql7 (Γ:Gam) (rv:Bool) (x0:Qac) (l:List Qaa) (v:Qaa) (r1:List Qaa) (v1:Int):Prop:=Qff Γ rv ⟨[.c 116,.l 116,.b 0,.c 15],⟨63,[vL 1 2 l Qaa.enc,vP 3 0 6,vP 5 1 2,vL 21 2 r1 Qaa.enc,vI 22 (lenI r1),vI 23 v1],[oX 6 30 (Qac.enc x0),oX 2 54 (Qaa.enc v)]⟩⟩
def Qlp (Γ:Gam) (rv:Bool) (x0:Qac) (l:List Qaa) (v:Qaa) (r1:List Qaa):Prop:=Qff Γ rv ⟨[.c 15],⟨63,[vL 1 2 l Qaa.enc,vP 3 0 6,vP 5 1 2],[oX 6 30 (Qac.enc x0),oX 2 54 (Qaa.enc v)]⟩⟩
def Ql9 (Γ:Gam) (rv:Bool) (x0:Qac) (l:List Qaa) (v:Qaa) (v2:Int) (r3:List Qaa) (v3:Int):Prop:=Qff Γ rv ⟨[.c 125340,.l 125340,.b 4,.b 3,.c 1959,.l 244,.b 2,.c 31],⟨63,[vL 1 2 l Qaa.enc,vP 3 0 6,vP 5 1 2,vL 36 2 x0.before Qap.enc,vI 37 (lenI x0.before),vI 38 v2,vL 51 2 r3 Qaa.enc,vI 52 (lenI r3),vI 53 v3],[oX 6 30 (Qac.enc x0),oX 2 54 (Qaa.enc v)]⟩⟩
def Qlr (Γ:Gam) (rv:Bool) (x0:Qac) (l:List Qaa) (v:Qaa) (v2:Int) (r3:List Qaa):Prop:=Qff Γ rv ⟨[.b 3,.c 1959,.l 244,.b 2,.c 31],⟨63,[vL 1 2 l Qaa.enc,vP 3 0 6,vP 5 1 2,vL 36 2 x0.before Qap.enc,vI 37 (lenI x0.before),vI 38 v2],[oX 6 30 (Qac.enc x0),oX 2 54 (Qaa.enc v)]⟩⟩
def Ql8 (Γ:Gam) (rv:Bool) (x0:Qac) (l:List Qaa) (v:Qaa) (v2:Int):Prop:=Qff Γ rv ⟨[.c 244,.l 244,.b 2,.c 31],⟨63,[vL 1 2 l Qaa.enc,vP 3 0 6,vP 5 1 2,vL 36 2 x0.before Qap.enc,vI 37 (lenI x0.before),vI 38 v2],[oX 6 30 (Qac.enc x0),oX 2 54 (Qaa.enc v)]⟩⟩
def Qlq (Γ:Gam) (rv:Bool) (x0:Qac) (l:List Qaa) (v:Qaa):Prop:=Qff Γ rv ⟨[.c 31],⟨63,[],[]⟩⟩
theorem Qp2 (Γ:Gam) (rv:Bool) {x0 l v r1} {s:Int} {e:(Unit)⊕(Bool)} (h:loopF (fun s=>Qcl x0 l v r1 s) s=some e) (hD:sel e (fun e=>Qlp Γ rv x0 l v r1) (fun e=>e=rv)):Ql7 Γ rv x0 l v r1 s:=by
 refine Qau (C:=fun (s:Int)=>Ql7 Γ rv x0 l v r1 s) (D:=fun (e:(Unit)⊕(Bool))=>sel e (fun e=>Qlp Γ rv x0 l v r1) (fun e=>e=rv)) ?_ h hD
 clear h hD s e
 intro v1 z_ h hI hE
 replace h:Qcl x0 l v r1 v1=_:=h
 unfold Qcl at h
 rcases Qah h with ⟨h3,h⟩|⟨h3,h⟩
 ·obtain ⟨x1,h4,h⟩:=Qaf h
  rcases Qah h with ⟨h5,h⟩|⟨h5,h⟩
  ·exact gn 14 [1,3,5] [0,1] [bT h3,cE Qaa.enc h4,bT h5] (hE _ (oJ h))
  ·obtain ⟨r2,h6,h⟩:=Qaf h
   rcases Qah h with ⟨h7,h⟩|⟨h7,h⟩
   ·obtain rfl:=(hE _ (oJ h):_=rv)
    exact gr 19 [] [bT h3,cE Qaa.enc h4,bF h5,cC (Qex h6),bT h7]
   ·exact gn 21 [1,3,5,21,22,23] [0,1] [bT h3,cE Qaa.enc h4,bF h5,cC (Qex h6),bF h7] (hI _ (oJ h))
 ·exact gn 5 [1,3,5] [0,1] [bF h3] (hE _ (oJ h))
theorem Qp4 (Γ:Gam) (rv:Bool) {x0 l v v2 r3} {s:Int} {e:(Unit)⊕(Bool)} (h:loopF (fun s=>QcH x0 l v v2 r3 s) s=some e) (hD:sel e (fun e=>Qlr Γ rv x0 l v v2 r3) (fun e=>e=rv)):Ql9 Γ rv x0 l v v2 r3 s:=by
 refine Qau (C:=fun (s:Int)=>Ql9 Γ rv x0 l v v2 r3 s) (D:=fun (e:(Unit)⊕(Bool))=>sel e (fun e=>Qlr Γ rv x0 l v v2 r3) (fun e=>e=rv)) ?_ h hD
 clear h hD s e
 intro v3 z_ h hI hE
 replace h:QcH x0 l v v2 r3 v3=_:=h
 unfold QcH at h
 rcases Qah h with ⟨h13,h⟩|⟨h13,h⟩
 ·obtain ⟨x3,h14,h⟩:=Qaf h
  obtain ⟨r4,h15,h⟩:=Qaf h
  rcases Qah h with ⟨h16,h⟩|⟨h16,h⟩
  ·obtain rfl:=(hE _ (oJ h):_=rv)
   exact gr 14 [] [bT h13,cE Qaa.enc h14,cC (Qex h15),bT h16]
  ·exact gn 16 [1,3,5,36,37,38,51,52,53] [0,1] [bT h13,cE Qaa.enc h14,cC (Qex h15),bF h16] (hI _ (oJ h))
 ·exact gn 5 [1,3,5,36,37,38] [0,1] [bF h13] (hE _ (oJ h))
theorem Qp3 (Γ:Gam) (rv:Bool) {x0 l v} {s:Int} {e:(Unit)⊕(Bool)} (h:loopF (fun s=>Qcm x0 l v s) s=some e) (hD:sel e (fun e=>Qlq Γ rv x0 l v) (fun e=>e=rv)):Ql8 Γ rv x0 l v s:=by
 refine Qau (C:=fun (s:Int)=>Ql8 Γ rv x0 l v s) (D:=fun (e:(Unit)⊕(Bool))=>sel e (fun e=>Qlq Γ rv x0 l v) (fun e=>e=rv)) ?_ h hD
 clear h hD s e
 intro v2 z_ h hI hE
 replace h:Qcm x0 l v v2=_:=h
 unfold Qcm at h
 rcases Qah h with ⟨h9,h⟩|⟨h9,h⟩
 ·obtain ⟨x2,h10,h⟩:=Qaf h
  rcases Qah h with ⟨h11,h⟩|⟨h11,h⟩
  ·exact gn 16 [1,3,5,36,37,38] [0,1] [bT h9,cE Qap.enc h10,oO (zL 1),oO (lT 1 2),bT h11] (hI _ (oJ h))
  ·obtain ⟨r3,h12,h⟩:=Qaf h
   obtain ⟨e1,h17,h⟩:=Qaf h
   refine gn 18 [1,3,5,36,37,38,51,52,53] [0,1] [bT h9,cE Qap.enc h10,oO (zL 1),oO (lT 1 2),bF h11,oO (zL 0),oO (lT 0 2),cC (QiI h12),nL Qaa.enc r3] (Qp4 Γ rv h17 ?_)
   rcases e1 with e1|e1
   ·replace h:(some (.inl (addK .i64 v2 1)):Option ((Int)⊕((Unit)⊕(Bool))))=some _:=h
    exact gn 3 [1,3,5,36,37,38] [0,1] [] (hI _ (oJ h))
   ·obtain ⟨r5,rfl⟩:∃ x,x=e1:=⟨_,rfl⟩
    replace h:(some (.inr (.inr r5)):Option ((Int)⊕((Unit)⊕(Bool))))=some _:=h
    exact (hE _ (oJ h):_=rv)
 ·exact gn 5 [] [] [bF h9] (hE _ (oJ h))
theorem QnM {x0 l v} {rv:Bool} (h:Qh5 x0 l v=some rv):AFn Tryz.prog 123 [.agg (Qac.enc x0),.one (lL 2 l Qaa.enc),.agg (Qaa.enc v)] [] (one (.bool rv)) []:=by
 refine QaK Tryz.func123 (by kernel_rfl) (by kernel_rfl) (fun Γ=>?_)
 unfold Qh5 at h
 obtain ⟨r,h0,h⟩:=Qaf h
 rcases Qah h with ⟨h1,h⟩|⟨h1,h⟩
 ·obtain rfl:=Option.some.inj h
  exact gr 8 [] [cC (Qex h0),bT h1]
 ·obtain ⟨r1,h2,h⟩:=Qaf h
  obtain ⟨e0,h8,h⟩:=Qaf h
  refine gn 12 [1,3,5,21,22,23] [0,1] [cC (Qex h0),bF h1,cC (QiI h2),nL Qaa.enc r1] (Qp2 Γ rv h8 ?_)
  rcases e0 with e0|e0
  ·replace h:(bnd (loopF (fun s=>Qcm x0 l v s) 0) (fun e=>sel e (fun (_:Unit)=>some true) (fun r6=>some r6)):Option Bool)=some _:=h
   obtain ⟨e2,h18,h⟩:=Qaf h
   refine gn 5 [1,3,5,36,37,38] [0,1] [nL Qap.enc x0.before] (Qp3 Γ rv h18 ?_)
   rcases e2 with e2|e2
   ·replace h:(some true:Option Bool)=some _:=h
    obtain rfl:=Option.some.inj h
    exact gr 2 [] []
   ·obtain ⟨r6,rfl⟩:∃ x,x=e2:=⟨_,rfl⟩
    replace h:(some r6:Option Bool)=some _:=h
    exact Option.some.inj h
  ·obtain ⟨r7,rfl⟩:∃ x,x=e0:=⟨_,rfl⟩
   replace h:(some r7:Option Bool)=some _:=h
   exact Option.some.inj h
def QiJ (Γ:Gam) (rv:List Qaa) (cf:Cf):Prop:=Go Tryz.prog Tryz.f96 [] Γ (one (lL 2 rv Qaa.enc)) [] cf
def QmY (Γ:Gam) (rv:List Qaa) (x0:Qac) (set_:Int) (l:List Qaa) (v:Int) (r:List Qaa) (l2:List Qaa) (v1:Int):Prop:=QiJ Γ rv ⟨[.c 59804,.l 59804,.b 2,.b 1,.c 935,.l 116,.b 0,.c 15],⟨53,[vI 1 set_,vL 2 2 l Qaa.enc,vP 3 0 6,vO 7 1 2 l2 Qaa.enc,vL 13 16 x0.orders Qag.enc,vI 14 (lenI x0.orders),vI 15 v,vL 36 2 r Qaa.enc,vI 37 (lenI r),vI 38 v1],[oX 6 30 (Qac.enc x0),oS 2 54 l2 Qaa.enc]⟩⟩
def Ql6 (Γ:Gam) (rv:List Qaa) (x0:Qac) (set_:Int) (l:List Qaa) (v:Int) (r:List Qaa) (l3:List Qaa):Prop:=QiJ Γ rv ⟨[.b 1,.c 935,.l 116,.b 0,.c 15],⟨53,[vI 1 set_,vL 2 2 l Qaa.enc,vP 3 0 6,vO 7 1 2 l3 Qaa.enc,vL 13 16 x0.orders Qag.enc,vI 14 (lenI x0.orders),vI 15 v],[oX 6 30 (Qac.enc x0),oS 2 54 l3 Qaa.enc]⟩⟩
def QmX (Γ:Gam) (rv:List Qaa) (x0:Qac) (set_:Int) (l:List Qaa) (l1:List Qaa) (v:Int):Prop:=QiJ Γ rv ⟨[.c 116,.l 116,.b 0,.c 15],⟨53,[vI 1 set_,vL 2 2 l Qaa.enc,vP 3 0 6,vO 7 1 2 l1 Qaa.enc,vL 13 16 x0.orders Qag.enc,vI 14 (lenI x0.orders),vI 15 v],[oX 6 30 (Qac.enc x0),oS 2 54 l1 Qaa.enc]⟩⟩
def Ql5 (Γ:Gam) (rv:List Qaa) (x0:Qac) (set_:Int) (l:List Qaa) (l4:List Qaa):Prop:=QiJ Γ rv ⟨[.c 15],⟨53,[vO 7 0 2 l4 Qaa.enc],[oS 2 54 l4 Qaa.enc]⟩⟩
theorem QqJ (Γ:Gam) (rv:List Qaa) {x0 set_ l v r} {s:List Qaa×Int} {e:List Qaa} (h:loopF (fun s=>Qc4 x0 set_ l v r s.1 s.2) s=some e) (hD:Ql6 Γ rv x0 set_ l v r e):QmY Γ rv x0 set_ l v r s.1 s.2:=by
 refine Qau (C:=fun (s:List Qaa×Int)=>QmY Γ rv x0 set_ l v r s.1 s.2) (D:=fun (e:List Qaa)=>Ql6 Γ rv x0 set_ l v r e) ?_ h hD
 clear h hD s e
 rintro ⟨l2,v1⟩ z_ h hI hE
 replace h:Qc4 x0 set_ l v r l2 v1=_:=h
 unfold Qc4 at h
 rcases Qah h with ⟨h6,h⟩|⟨h6,h⟩
 ·obtain ⟨x2,h7,h⟩:=Qaf h
  obtain ⟨r1,h8,h⟩:=Qaf h
  rcases Qah h with ⟨h9,h⟩|⟨h9,h⟩
  ·obtain ⟨h10,h⟩:=Qar h
   exact gn 16 [1,2,3,7,13,14,15,36,37,38] [0,4] [bT h6,cE Qaa.enc h7,cC (QnM h8),bT h9,oO (Eq.refl ([x2].map Qaa.enc).length),aO Qaa.enc h10] (hI _ (oJ h))
  ·exact gn 16 [1,2,3,7,13,14,15,36,37,38] [0,1] [bT h6,cE Qaa.enc h7,cC (QnM h8),bF h9] (hI _ (oJ h))
 ·exact gn 5 [1,2,3,7,13,14,15] [0,1] [bF h6] (hE _ (oJ h))
theorem QqI (Γ:Gam) (rv:List Qaa) {x0 set_ l} {s:List Qaa×Int} {e:List Qaa} (h:loopF (fun s=>QcF x0 set_ l s.1 s.2) s=some e) (hD:Ql5 Γ rv x0 set_ l e):QmX Γ rv x0 set_ l s.1 s.2:=by
 refine Qau (C:=fun (s:List Qaa×Int)=>QmX Γ rv x0 set_ l s.1 s.2) (D:=fun (e:List Qaa)=>Ql5 Γ rv x0 set_ l e) ?_ h hD
 clear h hD s e
 rintro ⟨l1,v⟩ z_ h hI hE
 replace h:QcF x0 set_ l l1 v=_:=h
 unfold QcF at h
 rcases Qah h with ⟨h0,h⟩|⟨h0,h⟩
 ·obtain ⟨x1,h1,h⟩:=Qaf h
  rcases Qah h with ⟨h2,h⟩|⟨h2,h⟩
  ·exact gn 16 [1,2,3,7,13,14,15] [0,1] [bT h0,cE Qag.enc h1,rp 6 (bT h2),rp 4 tT] (hI _ (oJ h))
  ·obtain ⟨h3,h⟩:=Qar h
   rcases Qah h with ⟨h4,h⟩|⟨h4,h⟩
   ·exact gn 16 [1,2,3,7,13,14,15] [0,1] [bT h0,cE Qag.enc h1,rp 3 (bF h2),oO (h3),rp 3 (bF h2),hP,hP,hP,oI ((eqI (andK .i64 (shrK .i64 set_ v) 1) 0)=false),oR True ((eqI (andK .i64 (shrK .i64 set_ v) 1) 0)=false),bT h4] (hI _ (oJ h))
   ·obtain ⟨r,h5,h⟩:=Qaf h
    obtain ⟨e0,h11,h⟩:=Qaf h
    refine gn 18 [1,2,3,7,13,14,15,36,37,38] [0,1] [bT h0,cE Qag.enc h1,rp 3 (bF h2),oO (h3),rp 3 (bF h2),hP,hP,hP,oI ((eqI (andK .i64 (shrK .i64 set_ v) 1) 0)=false),oR True ((eqI (andK .i64 (shrK .i64 set_ v) 1) 0)=false),bF h4,cC (QiI h5),nL Qaa.enc r] (QqJ Γ rv h11 ?_)
    obtain ⟨l3,rfl⟩:∃ x,x=e0:=⟨_,rfl⟩
    replace h:(some (.inl (l3,(addK .i64 v 1))):Option ((List Qaa×Int)⊕(List Qaa)))=some _:=h
    exact gn 3 [1,2,3,7,13,14,15] [0,1] [] (hI _ (oJ h))
 ·exact gn 5 [7] [1] [bF h0] (hE _ (oJ h))
theorem QsB {x0 set_ l} {rv:List Qaa} (h:Qjy x0 set_ l=some rv):AFn Tryz.prog 96 [.agg (Qac.enc x0),.one (lI set_),.one (lL 2 l Qaa.enc)] [] (one (lL 2 rv Qaa.enc)) []:=by
 refine QaK Tryz.func96 (by kernel_rfl) (by kernel_rfl) (fun Γ=>?_)
 unfold Qjy at h
 obtain ⟨e1,h12,h⟩:=Qaf h
 refine gn 9 [1,2,3,7,13,14,15] [0,1] [nL Qag.enc x0.orders,hW 3,hH (.adopt 7 2 54)] (QqI Γ rv h12 ?_)
 obtain ⟨l4,rfl⟩:∃ x,x=e1:=⟨_,rfl⟩
 replace h:(some l4:Option (List Qaa))=some _:=h
 obtain rfl:=Option.some.inj h
 exact gr 2 [] [hW 4,hH (.frz 0),rp 3 (eL l4 Qaa.enc)]
theorem Qd9 {s0} {rv:List Qaa} (h:Qbr s0=some rv):AFn Tryz.prog 97 [.one (lL 2 s0 Qaa.enc)] [] (one (.sl true 2 (rv.map Qaa.enc))) []:=by
 refine QaK Tryz.func97 (by kernel_rfl) (by kernel_rfl) (fun Γ=>?_)
 unfold Qbr at h
 obtain ⟨l,h0,h⟩:=Qaf h
 obtain rfl:=Option.some.inj h
 exact gr 4 [] [rp 2 (nL Qaa.enc s0),hH (.rows (l.map Qaa.enc)),oO (Eq.refl (lenI s0)),oO (sl1 h0),oO (sl2 h0),oO (sl3 Qaa.enc h0),oO (Int.le_refl (lenI s0)),oO (sl3 Qaa.enc h0),oO (sl6 Qaa.enc h0)]
def QoH (Γ:Gam) (rv:Bool×Int×List (List Qaa)×Qac×Int) (cf:Cf):Prop:=Go Tryz.prog Tryz.f95 [0,1,2,3,4] Γ (one (.bool rv.1)) [oX 1 3 [lI rv.2.1],oX 1 113 [lO 5 1 rv.2.2.1 es_T_api_Visit.enc],oX 6 30 [lL 1 rv.2.2.2.1.net.places e_str,lL 6 rv.2.2.2.1.net.arcs Qao.enc,lL 14 rv.2.2.2.1.types Qai.enc,lL 16 rv.2.2.2.1.orders Qag.enc,lL 2 rv.2.2.2.1.apart Qap.enc,lL 2 rv.2.2.2.1.before Qap.enc],oX 1 3 [lI rv.2.2.2.2],oX 1 154 [.fn (.func 95) [.op 0 1 0 0,.op 1 1 0 0,.op 2 6 0 0,.op 3 1 0 0,.op 4 1 0 0]],oS 1 32 rv.2.2.1 es_T_api_Visit.enc] cf
def Ql4 (Γ:Gam) (rv:Bool×Int×List (List Qaa)×Qac×Int) (self:(List Qaa)→Int→(List (List Qaa))→Qac→Int→Option (Bool×Int×List (List Qaa)×Qac×Int)) (l:List Qaa) (c:Int) (r:List Qaa) (l1:List (List Qaa)) (x0:Int) (x1:Qac) (x2:Int) (v:Int):Prop:=QoH Γ rv ⟨[.c 116,.l 116,.b 0,.c 15],⟨39,[vL 0 2 l Qaa.enc,vP 5 4 1,vL 24 2 r Qaa.enc,vI 25 (lenI r),vI 26 v],[oX 1 3 [lI x0],oX 1 113 [lO 5 1 l1 es_T_api_Visit.enc],oX 6 30 (Qac.enc x1),oX 1 3 [lI x2],oX 1 154 [.fn (.func 95) [.op 0 1 0 0,.op 1 1 0 0,.op 2 6 0 0,.op 3 1 0 0,.op 4 1 0 0]],oS 1 32 l1 es_T_api_Visit.enc]⟩⟩
def Qln (Γ:Gam) (rv:Bool×Int×List (List Qaa)×Qac×Int) (self:(List Qaa)→Int→(List (List Qaa))→Qac→Int→Option (Bool×Int×List (List Qaa)×Qac×Int)) (l:List Qaa) (c:Int) (r:List Qaa) (l2:List (List Qaa)) (x4:Int) (x5:Qac) (x6:Int):Prop:=QoH Γ rv ⟨[.c 15],⟨39,[],[oX 1 3 [lI x4],oX 1 113 [lO 5 1 l2 es_T_api_Visit.enc],oX 6 30 (Qac.enc x5),oX 1 3 [lI x6],oX 1 154 [.fn (.func 95) [.op 0 1 0 0,.op 1 1 0 0,.op 2 6 0 0,.op 3 1 0 0,.op 4 1 0 0]],oS 1 32 l2 es_T_api_Visit.enc]⟩⟩
theorem Qp1 (Γ:Gam) (rv:Bool×Int×List (List Qaa)×Qac×Int) {self:(List Qaa)→Int→(List (List Qaa))→Qac→Int→Option (Bool×Int×List (List Qaa)×Qac×Int)} (hself:∀ {l:List Qaa} {c:Int} {c1:List (List Qaa)} {c2:Qac} {c3:Int} {rv:Bool×Int×List (List Qaa)×Qac×Int},self l c c1 c2 c3=some rv→AFn Tryz.prog 95 [.one (lL 2 l Qaa.enc),.one (.op 0 1 0 0),.one (.op 1 1 0 0),.one (.op 2 6 0 0),.one (.op 3 1 0 0),.one (.op 4 1 0 0)] [bX 1 3 [lI c],bX 1 113 [lO 5 1 c1 es_T_api_Visit.enc],bX 6 30 (Qac.enc c2),bX 1 3 [lI c3],bX 1 154 [.fn (.func 95) [.op 0 1 0 0,.op 1 1 0 0,.op 2 6 0 0,.op 3 1 0 0,.op 4 1 0 0]],bS 1 32 c1 es_T_api_Visit.enc] (one (.bool rv.1)) [oX 1 3 [lI rv.2.1],oX 1 113 [lO 5 1 rv.2.2.1 es_T_api_Visit.enc],oX 6 30 [lL 1 rv.2.2.2.1.net.places e_str,lL 6 rv.2.2.2.1.net.arcs Qao.enc,lL 14 rv.2.2.2.1.types Qai.enc,lL 16 rv.2.2.2.1.orders Qag.enc,lL 2 rv.2.2.2.1.apart Qap.enc,lL 2 rv.2.2.2.1.before Qap.enc],oX 1 3 [lI rv.2.2.2.2],oX 1 154 [.fn (.func 95) [.op 0 1 0 0,.op 1 1 0 0,.op 2 6 0 0,.op 3 1 0 0,.op 4 1 0 0]],oS 1 32 rv.2.2.1 es_T_api_Visit.enc]) {l c r} {s:List (List Qaa)×Int×Qac×Int×Int} {e:(List (List Qaa)×Int×Qac×Int)⊕(Bool×Int×List (List Qaa)×Qac×Int)} (h:loopF (fun s=>Qck self l c r s.1 s.2.1 s.2.2.1 s.2.2.2.1 s.2.2.2.2) s=some e) (hD:sel e (fun e=>Qln Γ rv self l c r e.1 e.2.1 e.2.2.1 e.2.2.2) (fun e=>e=rv)):Ql4 Γ rv self l c r s.1 s.2.1 s.2.2.1 s.2.2.2.1 s.2.2.2.2:=by
 refine Qau (C:=fun (s:List (List Qaa)×Int×Qac×Int×Int)=>Ql4 Γ rv self l c r s.1 s.2.1 s.2.2.1 s.2.2.2.1 s.2.2.2.2) (D:=fun (e:(List (List Qaa)×Int×Qac×Int)⊕(Bool×Int×List (List Qaa)×Qac×Int))=>sel e (fun e=>Qln Γ rv self l c r e.1 e.2.1 e.2.2.1 e.2.2.2) (fun e=>e=rv)) ?_ h hD
 clear h hD s e
 rintro ⟨l1,x0,x1,x2,v⟩ z_ h hI hE
 replace h:Qck self l c r l1 x0 x1 x2 v=_:=h
 unfold Qck at h
 rcases Qah h with ⟨h3,h⟩|⟨h3,h⟩
 ·obtain ⟨x3,h4,h⟩:=Qaf h
  obtain ⟨r1,h5,h⟩:=Qaf h
  obtain ⟨h6,h⟩:=Qar h
  obtain ⟨r2,h7,h⟩:=Qaf h
  rcases Qah h with ⟨h8,h⟩|⟨h8,h⟩
  ·exact gn 16 [0,5,24,25,26] [0,1,2,3,4,9] [bT h3,cE Qaa.enc h4,hH (.draw 6 []),cC (Qd9 h5),oO (Eq.refl ([x3].map Qaa.enc).length),hH (.rows ((r1++[x3]).map Qaa.enc)),hH (.frz 8),oO (appM Qaa.enc r1 [x3]),oO (neA Qaa.enc r1 [x3] (by simp)),oO (okLe (l:=((r1++[x3]):List Qaa)) Qaa.enc h6),oO (okLe2 (l:=((r1++[x3]):List Qaa)) (b:=16) Qaa.enc (by decide) h6),oO (Eq.refl ((r1++[x3]).map Qaa.enc).length),cI [0,1,2,3,4,5] (hself h7),nF h8] (hI _ (oJ h))
  ·obtain rfl:=(hE _ (oJ h):_=rv)
   exact gr 14 [0,1,2,3,4,9] [bT h3,cE Qaa.enc h4,hH (.draw 6 []),cC (Qd9 h5),oO (Eq.refl ([x3].map Qaa.enc).length),hH (.rows ((r1++[x3]).map Qaa.enc)),hH (.frz 8),oO (appM Qaa.enc r1 [x3]),oO (neA Qaa.enc r1 [x3] (by simp)),oO (okLe (l:=((r1++[x3]):List Qaa)) Qaa.enc h6),oO (okLe2 (l:=((r1++[x3]):List Qaa)) (b:=16) Qaa.enc (by decide) h6),oO (Eq.refl ((r1++[x3]).map Qaa.enc).length),cI [0,1,2,3,4,5] (hself h7),nT h8]
 ·exact gn 5 [] [0,1,2,3,4,5] [bF h3] (hE _ (oJ h))
theorem QqG {self:(List Qaa)→Int→(List (List Qaa))→Qac→Int→Option (Bool×Int×List (List Qaa)×Qac×Int)} (hself:∀ {l:List Qaa} {c:Int} {c1:List (List Qaa)} {c2:Qac} {c3:Int} {rv:Bool×Int×List (List Qaa)×Qac×Int},self l c c1 c2 c3=some rv→AFn Tryz.prog 95 [.one (lL 2 l Qaa.enc),.one (.op 0 1 0 0),.one (.op 1 1 0 0),.one (.op 2 6 0 0),.one (.op 3 1 0 0),.one (.op 4 1 0 0)] [bX 1 3 [lI c],bX 1 113 [lO 5 1 c1 es_T_api_Visit.enc],bX 6 30 (Qac.enc c2),bX 1 3 [lI c3],bX 1 154 [.fn (.func 95) [.op 0 1 0 0,.op 1 1 0 0,.op 2 6 0 0,.op 3 1 0 0,.op 4 1 0 0]],bS 1 32 c1 es_T_api_Visit.enc] (one (.bool rv.1)) [oX 1 3 [lI rv.2.1],oX 1 113 [lO 5 1 rv.2.2.1 es_T_api_Visit.enc],oX 6 30 [lL 1 rv.2.2.2.1.net.places e_str,lL 6 rv.2.2.2.1.net.arcs Qao.enc,lL 14 rv.2.2.2.1.types Qai.enc,lL 16 rv.2.2.2.1.orders Qag.enc,lL 2 rv.2.2.2.1.apart Qap.enc,lL 2 rv.2.2.2.1.before Qap.enc],oX 1 3 [lI rv.2.2.2.2],oX 1 154 [.fn (.func 95) [.op 0 1 0 0,.op 1 1 0 0,.op 2 6 0 0,.op 3 1 0 0,.op 4 1 0 0]],oS 1 32 rv.2.2.1 es_T_api_Visit.enc]) {l c c1 c2 c3} {rv:Bool×Int×List (List Qaa)×Qac×Int} (h:Qeq self l c c1 c2 c3=some rv):AFn Tryz.prog 95 [.one (lL 2 l Qaa.enc),.one (.op 0 1 0 0),.one (.op 1 1 0 0),.one (.op 2 6 0 0),.one (.op 3 1 0 0),.one (.op 4 1 0 0)] [bX 1 3 [lI c],bX 1 113 [lO 5 1 c1 es_T_api_Visit.enc],bX 6 30 (Qac.enc c2),bX 1 3 [lI c3],bX 1 154 [.fn (.func 95) [.op 0 1 0 0,.op 1 1 0 0,.op 2 6 0 0,.op 3 1 0 0,.op 4 1 0 0]],bS 1 32 c1 es_T_api_Visit.enc] (one (.bool rv.1)) [oX 1 3 [lI rv.2.1],oX 1 113 [lO 5 1 rv.2.2.1 es_T_api_Visit.enc],oX 6 30 [lL 1 rv.2.2.2.1.net.places e_str,lL 6 rv.2.2.2.1.net.arcs Qao.enc,lL 14 rv.2.2.2.1.types Qai.enc,lL 16 rv.2.2.2.1.orders Qag.enc,lL 2 rv.2.2.2.1.apart Qap.enc,lL 2 rv.2.2.2.1.before Qap.enc],oX 1 3 [lI rv.2.2.2.2],oX 1 154 [.fn (.func 95) [.op 0 1 0 0,.op 1 1 0 0,.op 2 6 0 0,.op 3 1 0 0,.op 4 1 0 0]],oS 1 32 rv.2.2.1 es_T_api_Visit.enc]:=by
 refine QaK Tryz.func95 (by kernel_rfl) (by kernel_rfl) (fun Γ=>?_)
 unfold Qeq at h
 rcases Qah h with ⟨h0,h⟩|⟨h0,h⟩
 ·obtain ⟨h1,h⟩:=Qar h
  obtain rfl:=Option.some.inj h
  exact gr 10 [0,1,2,3,4,7] [nL Qaa.enc l,bT h0,oO (Eq.refl ([l].map es_T_api_Visit.enc).length),aO es_T_api_Visit.enc h1,nL es_T_api_Visit.enc (c1++[l])]
 ·obtain ⟨r,h2,h⟩:=Qaf h
  obtain ⟨e0,h9,h⟩:=Qaf h
  refine gn 12 [0,5,24,25,26] [0,1,2,3,4,5] [nL Qaa.enc l,bF h0,cC (QsB h2),nL Qaa.enc r] (Qp1 Γ rv hself h9 ?_)
  rcases e0 with e0|e0
  ·obtain ⟨l2,x4,x5,x6⟩:=e0
   replace h:(some (true,x4,l2,x5,x6):Option (Bool×Int×List (List Qaa)×Qac×Int))=some _:=h
   obtain rfl:=Option.some.inj h
   exact gr 2 [0,1,2,3,4,5] []
  ·obtain ⟨r3,rfl⟩:∃ x,x=e0:=⟨_,rfl⟩
   replace h:(some r3:Option (Bool×Int×List (List Qaa)×Qac×Int))=some _:=h
   exact Option.some.inj h
theorem QmV:∀ fuel_,∀ {l:List Qaa} {c:Int} {c1:List (List Qaa)} {c2:Qac} {c3:Int} {rv:Bool×Int×List (List Qaa)×Qac×Int},QcE fuel_ l c c1 c2 c3=some rv→AFn Tryz.prog 95 [.one (lL 2 l Qaa.enc),.one (.op 0 1 0 0),.one (.op 1 1 0 0),.one (.op 2 6 0 0),.one (.op 3 1 0 0),.one (.op 4 1 0 0)] [bX 1 3 [lI c],bX 1 113 [lO 5 1 c1 es_T_api_Visit.enc],bX 6 30 (Qac.enc c2),bX 1 3 [lI c3],bX 1 154 [.fn (.func 95) [.op 0 1 0 0,.op 1 1 0 0,.op 2 6 0 0,.op 3 1 0 0,.op 4 1 0 0]],bS 1 32 c1 es_T_api_Visit.enc] (one (.bool rv.1)) [oX 1 3 [lI rv.2.1],oX 1 113 [lO 5 1 rv.2.2.1 es_T_api_Visit.enc],oX 6 30 [lL 1 rv.2.2.2.1.net.places e_str,lL 6 rv.2.2.2.1.net.arcs Qao.enc,lL 14 rv.2.2.2.1.types Qai.enc,lL 16 rv.2.2.2.1.orders Qag.enc,lL 2 rv.2.2.2.1.apart Qap.enc,lL 2 rv.2.2.2.1.before Qap.enc],oX 1 3 [lI rv.2.2.2.2],oX 1 154 [.fn (.func 95) [.op 0 1 0 0,.op 1 1 0 0,.op 2 6 0 0,.op 3 1 0 0,.op 4 1 0 0]],oS 1 32 rv.2.2.1 es_T_api_Visit.enc]
 | 0=>fun h=>nomatch h
 | fuel_+1=>fun h=>QqG (QmV fuel_) h
theorem QnK:∀ {l:List Qaa} {c:Int} {c1:List (List Qaa)} {c2:Qac} {c3:Int} {rv:Bool×Int×List (List Qaa)×Qac×Int},Qku l c c1 c2 c3=some rv→AFn Tryz.prog 95 [.one (lL 2 l Qaa.enc),.one (.op 0 1 0 0),.one (.op 1 1 0 0),.one (.op 2 6 0 0),.one (.op 3 1 0 0),.one (.op 4 1 0 0)] [bX 1 3 [lI c],bX 1 113 [lO 5 1 c1 es_T_api_Visit.enc],bX 6 30 (Qac.enc c2),bX 1 3 [lI c3],bX 1 154 [.fn (.func 95) [.op 0 1 0 0,.op 1 1 0 0,.op 2 6 0 0,.op 3 1 0 0,.op 4 1 0 0]],bS 1 32 c1 es_T_api_Visit.enc] (one (.bool rv.1)) [oX 1 3 [lI rv.2.1],oX 1 113 [lO 5 1 rv.2.2.1 es_T_api_Visit.enc],oX 6 30 [lL 1 rv.2.2.2.1.net.places e_str,lL 6 rv.2.2.2.1.net.arcs Qao.enc,lL 14 rv.2.2.2.1.types Qai.enc,lL 16 rv.2.2.2.1.orders Qag.enc,lL 2 rv.2.2.2.1.apart Qap.enc,lL 2 rv.2.2.2.1.before Qap.enc],oX 1 3 [lI rv.2.2.2.2],oX 1 154 [.fn (.func 95) [.op 0 1 0 0,.op 1 1 0 0,.op 2 6 0 0,.op 3 1 0 0,.op 4 1 0 0]],oS 1 32 rv.2.2.1 es_T_api_Visit.enc]:=QmV _
def QqH (Γ:Gam) (rv:List (List Qaa)×Int) (cf:Cf):Prop:=Go Tryz.prog Tryz.f55 [] Γ (.tup [.one (lL 1 rv.1 es_T_api_Visit.enc),.one (lI rv.2)]) [] cf
def QnL (Γ:Gam) (rv:List (List Qaa)×Int) (x0:Qac) (set_:Int) (x1:Int) (v:Int):Prop:=QqH Γ rv ⟨[.c 500,.l 500,.b 0,.c 63],⟨51,[vP 2 0 6,vP 3 1 1,vP 6 2 1,vI 29 (lenI x0.orders),vI 30 v],[oX 6 30 (Qac.enc x0),oX 1 3 [lI set_],oX 1 3 [lI x1]]⟩⟩
def QmW (Γ:Gam) (rv:List (List Qaa)×Int) (x0:Qac) (set_:Int) (x2:Int):Prop:=QqH Γ rv ⟨[.c 63],⟨51,[vP 2 0 6,vP 3 1 1,vP 6 2 1],[oX 6 30 (Qac.enc x0),oX 1 3 [lI set_],oX 1 3 [lI x2]]⟩⟩
theorem Qrb (Γ:Gam) (rv:List (List Qaa)×Int) {x0 set_} {s:Int×Int} {e:Int} (h:loopF (fun s=>QcX x0 set_ s.1 s.2) s=some e) (hD:QmW Γ rv x0 set_ e):QnL Γ rv x0 set_ s.1 s.2:=by
 refine Qau (C:=fun (s:Int×Int)=>QnL Γ rv x0 set_ s.1 s.2) (D:=fun (e:Int)=>QmW Γ rv x0 set_ e) ?_ h hD
 clear h hD s e
 rintro ⟨x1,v⟩ z_ h hI hE
 replace h:QcX x0 set_ x1 v=_:=h
 unfold QcX at h
 rcases Qah h with ⟨h6,h⟩|⟨h6,h⟩
 ·obtain ⟨h7,h⟩:=Qar h
  rcases Qah h with ⟨h8,h⟩|⟨h8,h⟩
  ·obtain ⟨r1,h9,h⟩:=Qaf h
   exact gn 16 [2,3,6,29,30] [0,1,2] [bT h6,oO (h7),bT h8,hH (.draw 7 []),cC (QiI h9),nL Qaa.enc r1] (hI _ (oJ h))
  ·exact gn 16 [2,3,6,29,30] [0,1,2] [bT h6,oO (h7),bF h8] (hI _ (oJ h))
 ·exact gn 5 [2,3,6] [0,1,2] [bF h6] (hE _ (oJ h))
theorem QpD {x0 set_} {rv:List (List Qaa)×Int} (h:Qgv x0 set_=some rv):AFn Tryz.prog 55 [.agg (Qac.enc x0),.one (lI set_)] [] (.tup [.one (lL 1 rv.1 es_T_api_Visit.enc),.one (lI rv.2)]) []:=by
 refine QaK Tryz.func55 (by kernel_rfl) (by kernel_rfl) (fun Γ=>?_)
 unfold Qgv at h
 rcases Qah h with ⟨h0,h⟩|⟨h0,h⟩
 ·obtain rfl:=Option.some.inj h
  exact gr 8 [] [rp 7 (bT h0),tT,hW 4,hH (.nilS 4 0 1)]
 ·obtain ⟨h1,h⟩:=Qar h
  rcases Qah h with ⟨h2,h⟩|⟨h2,h⟩
  ·obtain rfl:=Option.some.inj h
   exact gr 8 [] [rp 4 (bF h0),nL Qag.enc x0.orders,bF h0,oO (h1),bF h0,bF h0,bT h2,hW 4,hH (.nilS 4 0 1)]
  ·rcases Qah h with ⟨h3,h⟩|⟨h3,h⟩
   ·obtain rfl:=Option.some.inj h
    exact gr 13 [] [rp 4 (bF h0),nL Qag.enc x0.orders,bF h0,oO (h1),bF h0,bF h0,bF h2,rp 4 (bT h3),tT,hW 4,hH (.nilS 4 0 1)]
   ·obtain ⟨r,h4,h⟩:=Qaf h
    rcases Qah h with ⟨h5,h⟩|⟨h5,h⟩
    ·obtain rfl:=Option.some.inj h
     exact gr 13 [] [rp 4 (bF h0),nL Qag.enc x0.orders,bF h0,oO (h1),bF h0,bF h0,bF h2,rp 3 (bF h3),cC (Qkq h4),bF h3,bT h5,hW 4,hH (.nilS 4 0 1)]
    ·obtain ⟨e0,h10,h⟩:=Qaf h
     refine gn 19 [2,3,6,29,30] [0,1,2] [rp 4 (bF h0),nL Qag.enc x0.orders,bF h0,oO (h1),bF h0,bF h0,bF h2,rp 3 (bF h3),cC (Qkq h4),bF h3,bF h5,nL Qag.enc x0.orders] (Qrb Γ rv h10 ?_)
     obtain ⟨x2,rfl⟩:∃ x,x=e0:=⟨_,rfl⟩
     replace h:(bnd (Qku [] x2 [] x0 set_) fun r2=>br r2.1 (some (r2.2.2.1,0)) (some ([],4)):Option (List (List Qaa)×Int))=some _:=h
     obtain ⟨r2,h11,h⟩:=Qaf h
     rcases Qah h with ⟨h12,h⟩|⟨h12,h⟩
     ·obtain rfl:=Option.some.inj h
      exact gr 13 [] [hW 14,hH (.adoptB 3 0 1 32),cI [2,3,0,1,4,5] (AFn.nilA 0 2 (QnK h11)),nF h12,hW 6,hH (.frz 6),rp 3 (oO (Eq.refl (r2.2.2.1.map es_T_api_Visit.enc).length))]
     ·obtain rfl:=Option.some.inj h
      exact gr 12 [] [hW 14,hH (.adoptB 3 0 1 32),cI [2,3,0,1,4,5] (AFn.nilA 0 2 (QnK h11)),nT h12,hW 4,hH (.nilS 4 0 1)]
theorem Qbl {q} {y:Qac} {rv:Int×Qan} (h:QaP q=some rv):AFn Tryz.prog 58 [.one (.op 0 8 0 0)] [bX 8 120 [lO 1 9 q.items Qae.enc,lI q.first_,lL 1 y.net.places e_str,lL 6 y.net.arcs Qao.enc,lL 14 y.types Qai.enc,lL 16 y.orders Qag.enc,lL 2 y.apart Qap.enc,lL 2 y.before Qap.enc],bS 9 47 q.items Qae.enc] (one (lI rv.1)) [oX 8 120 [lO 1 9 rv.2.items Qae.enc,lI rv.2.first_,lL 1 y.net.places e_str,lL 6 y.net.arcs Qao.enc,lL 14 y.types Qai.enc,lL 16 y.orders Qag.enc,lL 2 y.apart Qap.enc,lL 2 y.before Qap.enc],oS 9 47 rv.2.items Qae.enc]:=by
 refine QaK Tryz.func58 (by kernel_rfl) (by kernel_rfl) (fun Γ=>?_)
 unfold QaP at h
 obtain rfl:=Option.some.inj h
 exact gr 4 [0,1] [hH (.draw 11 []),nL Qae.enc q.items]
theorem Qcn {q} {y:Qac} {rv:Qae×Qan} (h:Qa2 q=some rv):AFn Tryz.prog 59 [.one (.op 0 8 0 0)] [bX 8 120 [lO 1 9 q.items Qae.enc,lI q.first_,lL 1 y.net.places e_str,lL 6 y.net.arcs Qao.enc,lL 14 y.types Qai.enc,lL 16 y.orders Qag.enc,lL 2 y.apart Qap.enc,lL 2 y.before Qap.enc],bS 9 47 q.items Qae.enc] (gG [lI rv.1.type_,lL 2 rv.1.visits Qaa.enc,lI rv.1.place,lI rv.1.time,lI rv.1.driven,lI rv.1.miles,lL 1 rv.1.load e_i64,lI rv.1.done,lI rv.1.open_]) [oX 8 120 [lO 1 9 rv.2.items Qae.enc,lI rv.2.first_,lL 1 y.net.places e_str,lL 6 y.net.arcs Qao.enc,lL 14 y.types Qai.enc,lL 16 y.orders Qag.enc,lL 2 y.apart Qap.enc,lL 2 y.before Qap.enc],oS 9 47 rv.2.items Qae.enc]:=by
 refine QaK Tryz.func59 (by kernel_rfl) (by kernel_rfl) (fun Γ=>?_)
 unfold Qa2 at h
 obtain ⟨x0,h0,h⟩:=Qaf h
 obtain rfl:=Option.some.inj h
 exact gr 8 [0,1] [hH (.draw 11 []),oO (getLo h0),oO (getHi Qae.enc h0),rE Qae.enc h0]
theorem Qdw {q l} {y:Qac} {rv:Qan} (h:QaW q l=some rv):AFn Tryz.prog 56 [.one (.op 0 8 0 0),.one (lL 9 l Qae.enc)] [bX 8 120 [lO 1 9 q.items Qae.enc,lI q.first_,lL 1 y.net.places e_str,lL 6 y.net.arcs Qao.enc,lL 14 y.types Qai.enc,lL 16 y.orders Qag.enc,lL 2 y.apart Qap.enc,lL 2 y.before Qap.enc],bS 9 47 q.items Qae.enc] (.tup []) [oX 8 120 [lO 1 9 rv.items Qae.enc,lI rv.first_,lL 1 y.net.places e_str,lL 6 y.net.arcs Qao.enc,lL 14 y.types Qai.enc,lL 16 y.orders Qag.enc,lL 2 y.apart Qap.enc,lL 2 y.before Qap.enc],oS 9 47 rv.items Qae.enc]:=by
 refine QaK Tryz.func56 (by kernel_rfl) (by kernel_rfl) (fun Γ=>?_)
 unfold QaW at h
 obtain ⟨h0,h⟩:=Qar h
 obtain rfl:=Option.some.inj h
 exact gr 1 [0,2] [aO Qae.enc h0]
def QkH (Γ:Gam) (rv:Qbs) (cf:Cf):Prop:=Go Tryz.prog Tryz.f57 [0] Γ (.tup []) [oX 8 120 [lO 1 9 rv.queue.items Qae.enc,lI rv.queue.first_,lL 1 rv.x.net.places e_str,lL 6 rv.x.net.arcs Qao.enc,lL 14 rv.x.types Qai.enc,lL 16 rv.x.orders Qag.enc,lL 2 rv.x.apart Qap.enc,lL 2 rv.x.before Qap.enc],oS 9 47 rv.queue.items Qae.enc] cf
def Qia (Γ:Gam) (rv:Qbs) (l:Qbs) (v:Qaa) (r:Int×Qan) (l1:List Qae) (first_:Int) (v1:Int):Prop:=QkH Γ rv ⟨[.c 28,.l 28,.b 0],⟨25,[vP 0 0 8,vP 3 1 2,vI 7 r.1,vI 8 v1],[oX 8 120 [lO 2 9 l1 Qae.enc,lI first_,lL 1 l.x.net.places e_str,lL 6 l.x.net.arcs Qao.enc,lL 14 l.x.types Qai.enc,lL 16 l.x.orders Qag.enc,lL 2 l.x.apart Qap.enc,lL 2 l.x.before Qap.enc],oX 2 54 (Qaa.enc v),oS 9 47 l1 Qae.enc]⟩⟩
def QhD (Γ:Gam) (rv:Qbs) (l:Qbs) (v:Qaa) (r:Int×Qan) (l2:List Qae) (first_1:Int):Prop:=QkH Γ rv ⟨[],⟨25,[],[oX 8 120 [lO 1 9 l2 Qae.enc,lI first_1,lL 1 l.x.net.places e_str,lL 6 l.x.net.arcs Qao.enc,lL 14 l.x.types Qai.enc,lL 16 l.x.orders Qag.enc,lL 2 l.x.apart Qap.enc,lL 2 l.x.before Qap.enc],oS 9 47 l2 Qae.enc]⟩⟩
theorem Qm7 (Γ:Gam) (rv:Qbs) {l v r} {s:List Qae×Int×Int} {e:List Qae×Int} (h:loopF (fun s=>Qbc l v r s.1 s.2.1 s.2.2) s=some e) (hD:QhD Γ rv l v r e.1 e.2):Qia Γ rv l v r s.1 s.2.1 s.2.2:=by
 refine Qau (C:=fun (s:List Qae×Int×Int)=>Qia Γ rv l v r s.1 s.2.1 s.2.2) (D:=fun (e:List Qae×Int)=>QhD Γ rv l v r e.1 e.2) ?_ h hD
 clear h hD s e
 rintro ⟨l1,first_,v1⟩ z_ h hI hE
 replace h:Qbc l v r l1 first_ v1=_:=h
 unfold Qbc at h
 rcases Qah h with ⟨h1,h⟩|⟨h1,h⟩
 ·obtain ⟨r1,h2,h⟩:=Qaf h
  obtain ⟨r2,h3,h⟩:=Qaf h
  obtain ⟨r3,h4,h⟩:=Qaf h
  exact gn 11 [0,3,7,8] [0,1,4] [bT h1,hH (.draw 13 [(0,10),(2,10)]),cI [0,2] (Qcn (y:=l.x) h2),cC (QeP h3),oO (Eq.refl (true,8,([[lL 1 l.x.net.places e_str,lL 6 l.x.net.arcs Qao.enc,lL 14 l.x.types Qai.enc,lL 16 l.x.orders Qag.enc,lL 2 l.x.apart Qap.enc,lL 2 l.x.before Qap.enc]]:List (List Lf)))),cI [0,3] (Qdw (y:=l.x) h4)] (hI _ (oJ h))
 ·exact gn 5 [] [0,2] [bF h1] (hE _ (oJ h))
theorem Qo1 {l v} {rv:Qbs} (h:QeX l v=some rv):AFn Tryz.prog 57 [.one (.op 0 8 0 0),.agg (Qaa.enc v)] [bX 8 120 [lO 1 9 l.queue.items Qae.enc,lI l.queue.first_,lL 1 l.x.net.places e_str,lL 6 l.x.net.arcs Qao.enc,lL 14 l.x.types Qai.enc,lL 16 l.x.orders Qag.enc,lL 2 l.x.apart Qap.enc,lL 2 l.x.before Qap.enc],bS 9 47 l.queue.items Qae.enc] (.tup []) [oX 8 120 [lO 1 9 rv.queue.items Qae.enc,lI rv.queue.first_,lL 1 rv.x.net.places e_str,lL 6 rv.x.net.arcs Qao.enc,lL 14 rv.x.types Qai.enc,lL 16 rv.x.orders Qag.enc,lL 2 rv.x.apart Qap.enc,lL 2 rv.x.before Qap.enc],oS 9 47 rv.queue.items Qae.enc]:=by
 refine QaK Tryz.func57 (by kernel_rfl) (by kernel_rfl) (fun Γ=>?_)
 unfold QeX at h
 obtain ⟨r,h0,h⟩:=Qaf h
 obtain ⟨e0,h5,h⟩:=Qaf h
 refine gn 6 [0,3,7,8] [0,2,3] [cI [0,1] (Qbl (y:=l.x) h0)] (Qm7 Γ rv h5 ?_)
 obtain ⟨l2,first_1⟩:=e0
 replace h:(some (Qbs.mk (Qan.mk l2 first_1) l.x):Option Qbs)=some _:=h
 obtain rfl:=Option.some.inj h
 exact gr 0 [0,1] []
theorem Qeb {a b} {rv:Bool} (h:Qd1 a b=some rv):AFn Tryz.prog 14 [.agg (Qae.enc a),.agg (Qae.enc b)] [] (one (.bool rv)) []:=by
 refine QaK Tryz.func14 (by kernel_rfl) (by kernel_rfl) (fun Γ=>?_)
 unfold Qd1 at h
 rcases Qah h with ⟨h0,h⟩|⟨h0,h⟩
 ·obtain rfl:=Option.some.inj h
  exact gr 8 [] [rp 18 hP,rp 4 (oI ((neI a.type_ b.type_)=false)),oR True ((neI a.type_ b.type_)=false),rp 4 (oI (((neI a.type_ b.type_)||(neI a.place b.place))=false)),oR True (((neI a.type_ b.type_)||(neI a.place b.place))=false),rp 4 (oI ((((neI a.type_ b.type_)||(neI a.place b.place))||(neI a.done b.done))=false)),oR True ((((neI a.type_ b.type_)||(neI a.place b.place))||(neI a.done b.done))=false),bT h0]
 ·rcases Qah h with ⟨h1,h⟩|⟨h1,h⟩
  ·obtain ⟨r,h2,h⟩:=Qaf h
   obtain rfl:=Option.some.inj h
   exact gr 9 [] [rp 18 hP,rp 4 (oI ((neI a.type_ b.type_)=false)),oR True ((neI a.type_ b.type_)=false),rp 4 (oI (((neI a.type_ b.type_)||(neI a.place b.place))=false)),oR True (((neI a.type_ b.type_)||(neI a.place b.place))=false),rp 4 (oI ((((neI a.type_ b.type_)||(neI a.place b.place))||(neI a.done b.done))=false)),oR True ((((neI a.type_ b.type_)||(neI a.place b.place))||(neI a.done b.done))=false),bF h0,rp 12 hP,rp 4 (oI ((leI a.time b.time)=true)),oR True ((leI a.time b.time)=true),rp 4 (oI (((leI a.time b.time)&&(leI a.driven b.driven))=true)),oR True (((leI a.time b.time)&&(leI a.driven b.driven))=true),rp 5 (bT h1),cC (Qgc h2),bT h1]
  ·obtain rfl:=Option.some.inj h
   exact gr 9 [] [rp 18 hP,rp 4 (oI ((neI a.type_ b.type_)=false)),oR True ((neI a.type_ b.type_)=false),rp 4 (oI (((neI a.type_ b.type_)||(neI a.place b.place))=false)),oR True (((neI a.type_ b.type_)||(neI a.place b.place))=false),rp 4 (oI ((((neI a.type_ b.type_)||(neI a.place b.place))||(neI a.done b.done))=false)),oR True ((((neI a.type_ b.type_)||(neI a.place b.place))||(neI a.done b.done))=false),bF h0,rp 12 hP,rp 4 (oI ((leI a.time b.time)=true)),oR True ((leI a.time b.time)=true),rp 4 (oI (((leI a.time b.time)&&(leI a.driven b.driven))=true)),oR True (((leI a.time b.time)&&(leI a.driven b.driven))=true),rp 6 (bF h1)]
def Qm5 (Γ:Gam) (rv:List Qae) (cf:Cf):Prop:=Go Tryz.prog Tryz.f60 [] Γ (one (lL 9 rv Qae.enc)) [] cf
def Qpv (Γ:Gam) (rv:List Qae) (l:List Qae) (next_:Qae) (v:Int):Prop:=Qm5 Γ rv ⟨[.c 52,.l 52,.b 0,.c 7],⟨40,[vL 0 9 l Qae.enc,vP 3 0 9,vL 10 9 l Qae.enc,vI 11 (lenI l),vI 12 v],[oX 9 47 (Qae.enc next_)]⟩⟩
def Qn5 (Γ:Gam) (rv:List Qae) (l:List Qae) (next_:Qae):Prop:=Qm5 Γ rv ⟨[.c 7],⟨40,[vL 0 9 l Qae.enc,vP 3 0 9],[oX 9 47 (Qae.enc next_)]⟩⟩
def Qpw (Γ:Gam) (rv:List Qae) (l:List Qae) (next_:Qae) (l1:List Qae) (v1:Int):Prop:=Qm5 Γ rv ⟨[.c 244,.l 244,.b 2,.c 31],⟨40,[vP 3 0 9,vO 7 1 9 l1 Qae.enc,vL 21 9 l Qae.enc,vI 22 (lenI l),vI 23 v1],[oX 9 47 (Qae.enc next_),oS 9 47 l1 Qae.enc]⟩⟩
def Qn6 (Γ:Gam) (rv:List Qae) (l:List Qae) (next_:Qae) (l2:List Qae):Prop:=Qm5 Γ rv ⟨[.c 31],⟨40,[vP 3 0 9,vO 7 1 9 l2 Qae.enc],[oX 9 47 (Qae.enc next_),oS 9 47 l2 Qae.enc]⟩⟩
theorem Qsf (Γ:Gam) (rv:List Qae) {l next_} {s:Int} {e:(Unit)⊕(List Qae)} (h:loopF (fun s=>Qey l next_ s) s=some e) (hD:sel e (fun e=>Qn5 Γ rv l next_) (fun e=>e=rv)):Qpv Γ rv l next_ s:=by
 refine Qau (C:=fun (s:Int)=>Qpv Γ rv l next_ s) (D:=fun (e:(Unit)⊕(List Qae))=>sel e (fun e=>Qn5 Γ rv l next_) (fun e=>e=rv)) ?_ h hD
 clear h hD s e
 intro v z_ h hI hE
 replace h:Qey l next_ v=_:=h
 unfold Qey at h
 rcases Qah h with ⟨h0,h⟩|⟨h0,h⟩
 ·obtain ⟨x0,h1,h⟩:=Qaf h
  obtain ⟨r,h2,h⟩:=Qaf h
  rcases Qah h with ⟨h3,h⟩|⟨h3,h⟩
  ·obtain rfl:=(hE _ (oJ h):_=rv)
   exact gr 14 [] [bT h0,cE Qae.enc h1,cC (Qeb h2),bT h3]
  ·exact gn 16 [0,3,10,11,12] [0] [bT h0,cE Qae.enc h1,cC (Qeb h2),bF h3] (hI _ (oJ h))
 ·exact gn 5 [0,3] [0] [bF h0] (hE _ (oJ h))
theorem Qsg (Γ:Gam) (rv:List Qae) {l next_} {s:List Qae×Int} {e:List Qae} (h:loopF (fun s=>Qd3 l next_ s.1 s.2) s=some e) (hD:Qn6 Γ rv l next_ e):Qpw Γ rv l next_ s.1 s.2:=by
 refine Qau (C:=fun (s:List Qae×Int)=>Qpw Γ rv l next_ s.1 s.2) (D:=fun (e:List Qae)=>Qn6 Γ rv l next_ e) ?_ h hD
 clear h hD s e
 rintro ⟨l1,v1⟩ z_ h hI hE
 replace h:Qd3 l next_ l1 v1=_:=h
 unfold Qd3 at h
 rcases Qah h with ⟨h5,h⟩|⟨h5,h⟩
 ·obtain ⟨x1,h6,h⟩:=Qaf h
  obtain ⟨r1,h7,h⟩:=Qaf h
  rcases Qah h with ⟨h8,h⟩|⟨h8,h⟩
  ·exact gn 16 [3,7,21,22,23] [0,1] [bT h5,cE Qae.enc h6,cC (Qeb h7),nF h8] (hI _ (oJ h))
  ·obtain ⟨h9,h⟩:=Qar h
   exact gn 16 [3,7,21,22,23] [0,4] [bT h5,cE Qae.enc h6,cC (Qeb h7),nT h8,oO (Eq.refl ([x1].map Qae.enc).length),aO Qae.enc h9] (hI _ (oJ h))
 ·exact gn 5 [3,7] [0,1] [bF h5] (hE _ (oJ h))
theorem Qub {l next_} {rv:List Qae} (h:Qn4 l next_=some rv):AFn Tryz.prog 60 [.one (lL 9 l Qae.enc),.agg (Qae.enc next_)] [] (one (lL 9 rv Qae.enc)) []:=by
 refine QaK Tryz.func60 (by kernel_rfl) (by kernel_rfl) (fun Γ=>?_)
 unfold Qn4 at h
 obtain ⟨e0,h4,h⟩:=Qaf h
 refine gn 7 [0,3,10,11,12] [0] [nL Qae.enc l] (Qsf Γ rv h4 ?_)
 rcases e0 with e0|e0
 ·replace h:(bnd (loopF (fun s=>Qd3 l next_ s.1 s.2) ([],0)) (fun l2=>chk (okN (l2++[next_]).length 104) (some (l2++[next_]))):Option (List Qae))=some _:=h
  obtain ⟨e1,h10,h⟩:=Qaf h
  refine gn 7 [3,7,21,22,23] [0,1] [nL Qae.enc l,hW 3,hH (.adopt 7 9 47)] (Qsg Γ rv h10 ?_)
  obtain ⟨l2,rfl⟩:∃ x,x=e1:=⟨_,rfl⟩
  replace h:(chk (okN (l2++[next_]).length 104) (some (l2++[next_])):Option (List Qae))=some _:=h
  obtain ⟨h11,h⟩:=Qar h
  obtain rfl:=Option.some.inj h
  exact gr 2 [] [oO (Eq.refl ([next_].map Qae.enc).length),aO Qae.enc h11,hW 1,hH (.frz 3),rp 2 (oO (Eq.refl ((l2++[next_]).map Qae.enc).length))]
 ·obtain ⟨r2,rfl⟩:∃ x,x=e0:=⟨_,rfl⟩
  replace h:(some r2:Option (List Qae))=some _:=h
  exact Option.some.inj h
def Qiv (Γ:Gam) (rv:List Qae×Int) (cf:Cf):Prop:=Go Tryz.prog Tryz.f20 [] Γ (.tup [.one (lL 9 rv.1 Qae.enc),.one (lI rv.2)]) [] cf
def Qpt (Γ:Gam) (rv:List Qae×Int) (r:List (List Qaa)×Int) (r1:List Qae) (out:List Qae) (v:Int) (x2:List Qaa) (l:List Qae) (x3:Qac) (first_:Int) (x4:Qac) (v1:Int):Prop:=Qiv Γ rv ⟨[.c 4171380,.l 4171380,.b 2,.c 521423,.b 1,.c 16295,.l 2036,.b 0,.c 255],⟨89,[vP 3 0 6,vL 10 9 r1 Qae.enc,vL 11 9 out Qae.enc,vP 14 1 8,vL 43 1 r.1 es_T_api_Visit.enc,vI 44 (lenI r.1),vI 45 v,vL 57 2 x2 Qaa.enc,vI 58 (lenI x2),vI 59 v1],[oX 6 30 (Qac.enc x3),oX 8 120 [lO 2 9 l Qae.enc,lI first_,lL 1 x4.net.places e_str,lL 6 x4.net.arcs Qao.enc,lL 14 x4.types Qai.enc,lL 16 x4.orders Qag.enc,lL 2 x4.apart Qap.enc,lL 2 x4.before Qap.enc],oS 9 47 l Qae.enc]⟩⟩
def Qn1 (Γ:Gam) (rv:List Qae×Int) (r:List (List Qaa)×Int) (r1:List Qae) (out:List Qae) (v:Int) (x2:List Qaa) (l1:List Qae) (x6:Qac) (first_1:Int) (x7:Qac):Prop:=Qiv Γ rv ⟨[.c 521423,.b 1,.c 16295,.l 2036,.b 0,.c 255],⟨89,[vP 3 0 6,vL 10 9 r1 Qae.enc,vL 11 9 out Qae.enc,vP 14 1 8,vL 43 1 r.1 es_T_api_Visit.enc,vI 44 (lenI r.1),vI 45 v],[oX 6 30 (Qac.enc x6),oX 8 120 [lO 2 9 l1 Qae.enc,lI first_1,lL 1 x7.net.places e_str,lL 6 x7.net.arcs Qao.enc,lL 14 x7.types Qai.enc,lL 16 x7.orders Qag.enc,lL 2 x7.apart Qap.enc,lL 2 x7.before Qap.enc],oS 9 47 l1 Qae.enc]⟩⟩
def Qpu (Γ:Gam) (rv:List Qae×Int) (r:List (List Qaa)×Int) (r1:List Qae) (v:Int) (l2:List Qae) (x8:Qac) (first_2:Int) (x9:Qac) (out1:List Qae):Prop:=Qiv Γ rv ⟨[.c 2085692,.l 2085692,.b 4,.b 1,.c 16295,.l 2036,.b 0,.c 255],⟨89,[vP 3 0 6,vL 10 9 r1 Qae.enc,vL 11 9 out1 Qae.enc,vP 14 1 8,vL 43 1 r.1 es_T_api_Visit.enc,vI 44 (lenI r.1),vI 45 v],[oX 6 30 (Qac.enc x8),oX 8 120 [lO 2 9 l2 Qae.enc,lI first_2,lL 1 x9.net.places e_str,lL 6 x9.net.arcs Qao.enc,lL 14 x9.types Qai.enc,lL 16 x9.orders Qag.enc,lL 2 x9.apart Qap.enc,lL 2 x9.before Qap.enc],oS 9 47 l2 Qae.enc]⟩⟩
def Qn2 (Γ:Gam) (rv:List Qae×Int) (r:List (List Qaa)×Int) (r1:List Qae) (v:Int) (x10:Qac) (out2:List Qae):Prop:=Qiv Γ rv ⟨[.b 1,.c 16295,.l 2036,.b 0,.c 255],⟨89,[vP 3 0 6,vL 10 9 r1 Qae.enc,vL 11 9 out2 Qae.enc,vL 43 1 r.1 es_T_api_Visit.enc,vI 44 (lenI r.1),vI 45 v],[oX 6 30 (Qac.enc x10)]⟩⟩
def Qps (Γ:Gam) (rv:List Qae×Int) (r:List (List Qaa)×Int) (r1:List Qae) (x1:Qac) (out:List Qae) (v:Int):Prop:=Qiv Γ rv ⟨[.c 2036,.l 2036,.b 0,.c 255],⟨89,[vP 3 0 6,vL 10 9 r1 Qae.enc,vL 11 9 out Qae.enc,vL 43 1 r.1 es_T_api_Visit.enc,vI 44 (lenI r.1),vI 45 v],[oX 6 30 (Qac.enc x1)]⟩⟩
def Qn0 (Γ:Gam) (rv:List Qae×Int) (r:List (List Qaa)×Int) (r1:List Qae) (out3:List Qae):Prop:=Qiv Γ rv ⟨[.c 255],⟨89,[vL 11 9 out3 Qae.enc],[]⟩⟩
theorem Qsd (Γ:Gam) (rv:List Qae×Int) {r r1 out v x2} {s:List Qae×Qac×Int×Qac×Int} {e:List Qae×Qac×Int×Qac} (h:loopF (fun s=>Qfh r r1 out v x2 s.1 s.2.1 s.2.2.1 s.2.2.2.1 s.2.2.2.2) s=some e) (hD:Qn1 Γ rv r r1 out v x2 e.1 e.2.1 e.2.2.1 e.2.2.2):Qpt Γ rv r r1 out v x2 s.1 s.2.1 s.2.2.1 s.2.2.2.1 s.2.2.2.2:=by
 refine Qau (C:=fun (s:List Qae×Qac×Int×Qac×Int)=>Qpt Γ rv r r1 out v x2 s.1 s.2.1 s.2.2.1 s.2.2.2.1 s.2.2.2.2) (D:=fun (e:List Qae×Qac×Int×Qac)=>Qn1 Γ rv r r1 out v x2 e.1 e.2.1 e.2.2.1 e.2.2.2) ?_ h hD
 clear h hD s e
 rintro ⟨l,x3,first_,x4,v1⟩ z_ h hI hE
 replace h:Qfh r r1 out v x2 l x3 first_ x4 v1=_:=h
 unfold Qfh at h
 rcases Qah h with ⟨h7,h⟩|⟨h7,h⟩
 ·obtain ⟨x5,h8,h⟩:=Qaf h
  obtain ⟨r3,h9,h⟩:=Qaf h
  exact gn 13 [3,10,11,14,43,44,45,57,58,59] [0,1,4] [bT h7,cE Qaa.enc h8,cI [1,2] (Qo1 h9)] (hI _ (oJ h))
 ·exact gn 5 [3,10,11,14,43,44,45] [0,1,2] [bF h7] (hE _ (oJ h))
theorem Qse (Γ:Gam) (rv:List Qae×Int) {r r1 v} {s:List Qae×Qac×Int×Qac×List Qae} {e:Qac×List Qae} (h:loopF (fun s=>Qdv r r1 v s.1 s.2.1 s.2.2.1 s.2.2.2.1 s.2.2.2.2) s=some e) (hD:Qn2 Γ rv r r1 v e.1 e.2):Qpu Γ rv r r1 v s.1 s.2.1 s.2.2.1 s.2.2.2.1 s.2.2.2.2:=by
 refine Qau (C:=fun (s:List Qae×Qac×Int×Qac×List Qae)=>Qpu Γ rv r r1 v s.1 s.2.1 s.2.2.1 s.2.2.2.1 s.2.2.2.2) (D:=fun (e:Qac×List Qae)=>Qn2 Γ rv r r1 v e.1 e.2) ?_ h hD
 clear h hD s e
 rintro ⟨l2,x8,first_2,x9,out1⟩ z_ h hI hE
 replace h:Qdv r r1 v l2 x8 first_2 x9 out1=_:=h
 unfold Qdv at h
 obtain ⟨r4,h11,h⟩:=Qaf h
 rcases Qah h with ⟨h12,h⟩|⟨h12,h⟩
 ·obtain ⟨r5,h13,h⟩:=Qaf h
  obtain ⟨r6,h14,h⟩:=Qaf h
  rcases Qah h with ⟨h15,h⟩|⟨h15,h⟩
  ·obtain ⟨r7,h16,h⟩:=Qaf h
   exact gn 16 [3,10,11,14,43,44,45] [0,1,4] [cI [1,2] (Qbl (y:=x9) h11),bT h12,cI [1,3] (Qcn (y:=x9) h13),cC (Qm4 h14),bT h15,cC (Qub h16)] (hI _ (oJ h))
  ·exact gn 16 [3,10,11,14,43,44,45] [0,1,4] [cI [1,2] (Qbl (y:=x9) h11),bT h12,cI [1,3] (Qcn (y:=x9) h13),cC (Qm4 h14),bF h15] (hI _ (oJ h))
 ·exact gn 5 [3,10,11,43,44,45] [0] [cI [1,2] (Qbl (y:=x9) h11),bF h12] (hE _ (oJ h))
theorem Qsc (Γ:Gam) (rv:List Qae×Int) {r r1} {s:Qac×List Qae×Int} {e:List Qae} (h:loopF (fun s=>Qd2 r r1 s.1 s.2.1 s.2.2) s=some e) (hD:Qn0 Γ rv r r1 e):Qps Γ rv r r1 s.1 s.2.1 s.2.2:=by
 refine Qau (C:=fun (s:Qac×List Qae×Int)=>Qps Γ rv r r1 s.1 s.2.1 s.2.2) (D:=fun (e:List Qae)=>Qn0 Γ rv r r1 e) ?_ h hD
 clear h hD s e
 rintro ⟨x1,out,v⟩ z_ h hI hE
 replace h:Qd2 r r1 x1 out v=_:=h
 unfold Qd2 at h
 rcases Qah h with ⟨h4,h⟩|⟨h4,h⟩
 ·obtain ⟨x2,h5,h⟩:=Qaf h
  obtain ⟨r2,h6,h⟩:=Qaf h
  obtain ⟨e0,h10,h⟩:=Qaf h
  refine gn 18 [3,10,11,14,43,44,45,57,58,59] [0,1,3] [bT h4,cE es_T_api_Visit.enc h5,hW 14,hH (.adoptB 1 0 9 47),cI [1,2] (Qdw (y:=x1) h6),nL Qaa.enc x2] (Qsd Γ rv h10 ?_)
  obtain ⟨l1,x6,first_1,x7⟩:=e0
  replace h:(bnd (loopF (fun s=>Qdv r r1 v s.1 s.2.1 s.2.2.1 s.2.2.2.1 s.2.2.2.2) (l1,x6,first_1,x7,out)) (fun e0=>(fun x10 out2=>some (.inl (x10,out2,(addK .i64 v 1)))) e0.1 e0.2):Option ((Qac×List Qae×Int)⊕(List Qae)))=some _:=h
  obtain ⟨e1,h17,h⟩:=Qaf h
  refine gn 2 [3,10,11,14,43,44,45] [0,1,2] [] (Qse Γ rv h17 ?_)
  obtain ⟨x10,out2⟩:=e1
  replace h:(some (.inl (x10,out2,(addK .i64 v 1))):Option ((Qac×List Qae×Int)⊕(List Qae)))=some _:=h
  exact gn 3 [3,10,11,43,44,45] [0] [] (hI _ (oJ h))
 ·exact gn 5 [11] [] [bF h4] (hE _ (oJ h))
theorem QlA {x0 kind set_} {rv:List Qae×Int} (h:QhC x0 kind set_=some rv):AFn Tryz.prog 20 [.agg (Qac.enc x0),.one (lI kind),.one (lI set_)] [] (.tup [.one (lL 9 rv.1 Qae.enc),.one (lI rv.2)]) []:=by
 refine QaK Tryz.func20 (by kernel_rfl) (by kernel_rfl) (fun Γ=>?_)
 unfold QhC at h
 rcases Qah h with ⟨h0,h⟩|⟨h0,h⟩
 ·obtain rfl:=Option.some.inj h
  exact gr 8 [] [rp 4 hP,rp 2 (oI ((ltI kind 0)=false)),nL Qai.enc x0.types,hP,hP,rp 2 (oI ((ltI kind 0)=false)),oR True ((ltI kind 0)=false),bT h0,hW 4,hH (.nilS 6 0 9)]
 ·obtain ⟨r,h1,h⟩:=Qaf h
  rcases Qah h with ⟨h2,h⟩|⟨h2,h⟩
  ·obtain rfl:=Option.some.inj h
   exact gr 15 [] [rp 4 hP,rp 2 (oI ((ltI kind 0)=false)),nL Qai.enc x0.types,hP,hP,rp 2 (oI ((ltI kind 0)=false)),oR True ((ltI kind 0)=false),bF h0,cC (QpD h1),bT h2,hW 5,hH (.nilS 6 0 9)]
  ·obtain ⟨r1,h3,h⟩:=Qaf h
   obtain ⟨e2,h18,h⟩:=Qaf h
   refine gn 23 [3,10,11,43,44,45] [0] [rp 4 hP,rp 2 (oI ((ltI kind 0)=false)),nL Qai.enc x0.types,hP,hP,rp 2 (oI ((ltI kind 0)=false)),oR True ((ltI kind 0)=false),bF h0,cC (QpD h1),bF h2,cC (QdU h3),nL es_T_api_Visit.enc r.1,hW 3,hH (.nilS 11 0 9)] (Qsc Γ rv h18 ?_)
   obtain ⟨out3,rfl⟩:∃ x,x=e2:=⟨_,rfl⟩
   replace h:(some (out3,0):Option (List Qae×Int))=some _:=h
   obtain rfl:=Option.some.inj h
   exact gr 2 [] []
theorem QhH {rv:Bool} (h:Qel=some rv):AFn Tryz.prog 8 [] [] (one (.bool rv)) []:=by
 refine QaK Tryz.func8 (by kernel_rfl) (by kernel_rfl) (fun Γ=>?_)
 unfold Qel at h
 obtain ⟨r,h0,h⟩:=Qaf h
 rcases Qah h with ⟨h1,h⟩|⟨h1,h⟩
 ·obtain rfl:=Option.some.inj h
  exact gr 18 [] [hW 15,hH (.frz 0),hH (.nilS 14 5 2),hH (.nilS 16 5 2),hW 9,hH (.frz 4),hW 9,hH (.frz 6),hW 6,hH (.frz 1),hH (.frz 2),hH (.frz 5),hH (.frz 7),hH (.nilS 30 4 2),hH (.nilS 30 5 2),rp 6 (oO (Eq.refl ([(Qak.mk 0 10)].map Qak.enc).length)),rp 2 (oO (Eq.refl ([5].map e_i64).length)),rp 2 (oO (Eq.refl ([3].map e_i64).length)),rp 5 (oO (Eq.refl ([QjG,QjH].map e_str).length)),rp 5 (oO (Eq.refl ([(Qao.mk 0 1 0 4 [(Qak.mk 0 10)] []),(Qao.mk 1 0 0 4 [(Qak.mk 0 10)] [])].map Qao.enc).length)),rp 3 (oO (Eq.refl ([(Qai.mk QjJ 1 0 0 [5] 0 0 0 90 50 5 0 0 0)].map Qai.enc).length)),rp 3 (oO (Eq.refl ([(Qag.mk QjI [3] (Qas.mk (-1) 0 0 0) (Qas.mk 1 0 80 0) 0 0 1 (-1) (-1) false)].map Qag.enc).length)),cC (QdU h0),nL Qae.enc r,rp 6 (bT h1),tT]
 ·obtain ⟨x0,h2,h⟩:=Qaf h
  rcases Qah h with ⟨h3,h⟩|⟨h3,h⟩
  ·obtain rfl:=Option.some.inj h
   exact gr 18 [] [hW 15,hH (.frz 0),hH (.nilS 14 5 2),hH (.nilS 16 5 2),hW 9,hH (.frz 4),hW 9,hH (.frz 6),hW 6,hH (.frz 1),hH (.frz 2),hH (.frz 5),hH (.frz 7),hH (.nilS 30 4 2),hH (.nilS 30 5 2),rp 6 (oO (Eq.refl ([(Qak.mk 0 10)].map Qak.enc).length)),rp 2 (oO (Eq.refl ([5].map e_i64).length)),rp 2 (oO (Eq.refl ([3].map e_i64).length)),rp 5 (oO (Eq.refl ([QjG,QjH].map e_str).length)),rp 5 (oO (Eq.refl ([(Qao.mk 0 1 0 4 [(Qak.mk 0 10)] []),(Qao.mk 1 0 0 4 [(Qak.mk 0 10)] [])].map Qao.enc).length)),rp 3 (oO (Eq.refl ([(Qai.mk QjJ 1 0 0 [5] 0 0 0 90 50 5 0 0 0)].map Qai.enc).length)),rp 3 (oO (Eq.refl ([(Qag.mk QjI [3] (Qas.mk (-1) 0 0 0) (Qas.mk 1 0 80 0) 0 0 1 (-1) (-1) false)].map Qag.enc).length)),cC (QdU h0),nL Qae.enc r,bF h1,bF h1,cE Qae.enc h2,rp 4 (bF h1),bT h3]
  ·obtain ⟨x1,h4,h⟩:=Qaf h
   obtain ⟨r1,h5,h⟩:=Qaf h
   rcases Qah h with ⟨h6,h⟩|⟨h6,h⟩
   ·obtain rfl:=Option.some.inj h
    exact gr 25 [] [hW 15,hH (.frz 0),hH (.nilS 14 5 2),hH (.nilS 16 5 2),hW 9,hH (.frz 4),hW 9,hH (.frz 6),hW 6,hH (.frz 1),hH (.frz 2),hH (.frz 5),hH (.frz 7),hH (.nilS 30 4 2),hH (.nilS 30 5 2),rp 6 (oO (Eq.refl ([(Qak.mk 0 10)].map Qak.enc).length)),rp 2 (oO (Eq.refl ([5].map e_i64).length)),rp 2 (oO (Eq.refl ([3].map e_i64).length)),rp 5 (oO (Eq.refl ([QjG,QjH].map e_str).length)),rp 5 (oO (Eq.refl ([(Qao.mk 0 1 0 4 [(Qak.mk 0 10)] []),(Qao.mk 1 0 0 4 [(Qak.mk 0 10)] [])].map Qao.enc).length)),rp 3 (oO (Eq.refl ([(Qai.mk QjJ 1 0 0 [5] 0 0 0 90 50 5 0 0 0)].map Qai.enc).length)),rp 3 (oO (Eq.refl ([(Qag.mk QjI [3] (Qas.mk (-1) 0 0 0) (Qas.mk 1 0 80 0) 0 0 1 (-1) (-1) false)].map Qag.enc).length)),cC (QdU h0),nL Qae.enc r,bF h1,bF h1,cE Qae.enc h2,rp 4 (bF h1),bF h3,hW 2,hH (.nilB 3 4 2),hH (.nilB 3 5 2),hH (.draw 7 []),cE Qae.enc h4,cC (QeP h5),nL Qae.enc r1,rp 6 (bT h6),rp 19 tT]
   ·obtain ⟨x2,h7,h⟩:=Qaf h
    rcases Qah h with ⟨h8,h⟩|⟨h8,h⟩
    ·obtain rfl:=Option.some.inj h
     exact gr 25 [] [hW 15,hH (.frz 0),hH (.nilS 14 5 2),hH (.nilS 16 5 2),hW 9,hH (.frz 4),hW 9,hH (.frz 6),hW 6,hH (.frz 1),hH (.frz 2),hH (.frz 5),hH (.frz 7),hH (.nilS 30 4 2),hH (.nilS 30 5 2),rp 6 (oO (Eq.refl ([(Qak.mk 0 10)].map Qak.enc).length)),rp 2 (oO (Eq.refl ([5].map e_i64).length)),rp 2 (oO (Eq.refl ([3].map e_i64).length)),rp 5 (oO (Eq.refl ([QjG,QjH].map e_str).length)),rp 5 (oO (Eq.refl ([(Qao.mk 0 1 0 4 [(Qak.mk 0 10)] []),(Qao.mk 1 0 0 4 [(Qak.mk 0 10)] [])].map Qao.enc).length)),rp 3 (oO (Eq.refl ([(Qai.mk QjJ 1 0 0 [5] 0 0 0 90 50 5 0 0 0)].map Qai.enc).length)),rp 3 (oO (Eq.refl ([(Qag.mk QjI [3] (Qas.mk (-1) 0 0 0) (Qas.mk 1 0 80 0) 0 0 1 (-1) (-1) false)].map Qag.enc).length)),cC (QdU h0),nL Qae.enc r,bF h1,bF h1,cE Qae.enc h2,rp 4 (bF h1),bF h3,hW 2,hH (.nilB 3 4 2),hH (.nilB 3 5 2),hH (.draw 7 []),cE Qae.enc h4,cC (QeP h5),nL Qae.enc r1,bF h6,bF h6,cE Qae.enc h7,rp 4 (bF h6),rp 6 (bT h8),rp 13 tT]
    ·rcases Qah h with ⟨h9,h⟩|⟨h9,h⟩
     ·obtain rfl:=Option.some.inj h
      exact gr 25 [] [hW 15,hH (.frz 0),hH (.nilS 14 5 2),hH (.nilS 16 5 2),hW 9,hH (.frz 4),hW 9,hH (.frz 6),hW 6,hH (.frz 1),hH (.frz 2),hH (.frz 5),hH (.frz 7),hH (.nilS 30 4 2),hH (.nilS 30 5 2),rp 6 (oO (Eq.refl ([(Qak.mk 0 10)].map Qak.enc).length)),rp 2 (oO (Eq.refl ([5].map e_i64).length)),rp 2 (oO (Eq.refl ([3].map e_i64).length)),rp 5 (oO (Eq.refl ([QjG,QjH].map e_str).length)),rp 5 (oO (Eq.refl ([(Qao.mk 0 1 0 4 [(Qak.mk 0 10)] []),(Qao.mk 1 0 0 4 [(Qak.mk 0 10)] [])].map Qao.enc).length)),rp 3 (oO (Eq.refl ([(Qai.mk QjJ 1 0 0 [5] 0 0 0 90 50 5 0 0 0)].map Qai.enc).length)),rp 3 (oO (Eq.refl ([(Qag.mk QjI [3] (Qas.mk (-1) 0 0 0) (Qas.mk 1 0 80 0) 0 0 1 (-1) (-1) false)].map Qag.enc).length)),cC (QdU h0),nL Qae.enc r,bF h1,bF h1,cE Qae.enc h2,rp 4 (bF h1),bF h3,hW 2,hH (.nilB 3 4 2),hH (.nilB 3 5 2),hH (.draw 7 []),cE Qae.enc h4,cC (QeP h5),nL Qae.enc r1,bF h6,bF h6,cE Qae.enc h7,rp 4 (bF h6),bF h8,bF h8,cE Qae.enc h7,rp 4 (bF h8),rp 6 (bT h9),rp 7 tT]
     ·rcases Qah h with ⟨h10,h⟩|⟨h10,h⟩
      ·obtain rfl:=Option.some.inj h
       exact gr 25 [] [hW 15,hH (.frz 0),hH (.nilS 14 5 2),hH (.nilS 16 5 2),hW 9,hH (.frz 4),hW 9,hH (.frz 6),hW 6,hH (.frz 1),hH (.frz 2),hH (.frz 5),hH (.frz 7),hH (.nilS 30 4 2),hH (.nilS 30 5 2),rp 6 (oO (Eq.refl ([(Qak.mk 0 10)].map Qak.enc).length)),rp 2 (oO (Eq.refl ([5].map e_i64).length)),rp 2 (oO (Eq.refl ([3].map e_i64).length)),rp 5 (oO (Eq.refl ([QjG,QjH].map e_str).length)),rp 5 (oO (Eq.refl ([(Qao.mk 0 1 0 4 [(Qak.mk 0 10)] []),(Qao.mk 1 0 0 4 [(Qak.mk 0 10)] [])].map Qao.enc).length)),rp 3 (oO (Eq.refl ([(Qai.mk QjJ 1 0 0 [5] 0 0 0 90 50 5 0 0 0)].map Qai.enc).length)),rp 3 (oO (Eq.refl ([(Qag.mk QjI [3] (Qas.mk (-1) 0 0 0) (Qas.mk 1 0 80 0) 0 0 1 (-1) (-1) false)].map Qag.enc).length)),cC (QdU h0),nL Qae.enc r,bF h1,bF h1,cE Qae.enc h2,rp 4 (bF h1),bF h3,hW 2,hH (.nilB 3 4 2),hH (.nilB 3 5 2),hH (.draw 7 []),cE Qae.enc h4,cC (QeP h5),nL Qae.enc r1,bF h6,bF h6,cE Qae.enc h7,rp 4 (bF h6),bF h8,bF h8,cE Qae.enc h7,rp 4 (bF h8),bF h9,bF h9,cE Qae.enc h7,rp 4 (bF h9),rp 6 (bT h10),tT]
      ·obtain ⟨x3,h11,h⟩:=Qaf h
       rcases Qah h with ⟨h12,h⟩|⟨h12,h⟩
       ·obtain rfl:=Option.some.inj h
        exact gr 25 [] [hW 15,hH (.frz 0),hH (.nilS 14 5 2),hH (.nilS 16 5 2),hW 9,hH (.frz 4),hW 9,hH (.frz 6),hW 6,hH (.frz 1),hH (.frz 2),hH (.frz 5),hH (.frz 7),hH (.nilS 30 4 2),hH (.nilS 30 5 2),rp 6 (oO (Eq.refl ([(Qak.mk 0 10)].map Qak.enc).length)),rp 2 (oO (Eq.refl ([5].map e_i64).length)),rp 2 (oO (Eq.refl ([3].map e_i64).length)),rp 5 (oO (Eq.refl ([QjG,QjH].map e_str).length)),rp 5 (oO (Eq.refl ([(Qao.mk 0 1 0 4 [(Qak.mk 0 10)] []),(Qao.mk 1 0 0 4 [(Qak.mk 0 10)] [])].map Qao.enc).length)),rp 3 (oO (Eq.refl ([(Qai.mk QjJ 1 0 0 [5] 0 0 0 90 50 5 0 0 0)].map Qai.enc).length)),rp 3 (oO (Eq.refl ([(Qag.mk QjI [3] (Qas.mk (-1) 0 0 0) (Qas.mk 1 0 80 0) 0 0 1 (-1) (-1) false)].map Qag.enc).length)),cC (QdU h0),nL Qae.enc r,bF h1,bF h1,cE Qae.enc h2,rp 4 (bF h1),bF h3,hW 2,hH (.nilB 3 4 2),hH (.nilB 3 5 2),hH (.draw 7 []),cE Qae.enc h4,cC (QeP h5),nL Qae.enc r1,bF h6,bF h6,cE Qae.enc h7,rp 4 (bF h6),bF h8,bF h8,cE Qae.enc h7,rp 4 (bF h8),bF h9,bF h9,cE Qae.enc h7,rp 4 (bF h9),rp 2 (bF h10),cE Qae.enc h11,rp 4 (bF h10),bT h12]
       ·obtain ⟨r2,h13,h⟩:=Qaf h
        obtain ⟨r3,h14,h⟩:=Qaf h
        obtain rfl:=Option.some.inj h
        exact gr 30 [] [hW 15,hH (.frz 0),hH (.nilS 14 5 2),hH (.nilS 16 5 2),hW 9,hH (.frz 4),hW 9,hH (.frz 6),hW 6,hH (.frz 1),hH (.frz 2),hH (.frz 5),hH (.frz 7),hH (.nilS 30 4 2),hH (.nilS 30 5 2),rp 6 (oO (Eq.refl ([(Qak.mk 0 10)].map Qak.enc).length)),rp 2 (oO (Eq.refl ([5].map e_i64).length)),rp 2 (oO (Eq.refl ([3].map e_i64).length)),rp 5 (oO (Eq.refl ([QjG,QjH].map e_str).length)),rp 5 (oO (Eq.refl ([(Qao.mk 0 1 0 4 [(Qak.mk 0 10)] []),(Qao.mk 1 0 0 4 [(Qak.mk 0 10)] [])].map Qao.enc).length)),rp 3 (oO (Eq.refl ([(Qai.mk QjJ 1 0 0 [5] 0 0 0 90 50 5 0 0 0)].map Qai.enc).length)),rp 3 (oO (Eq.refl ([(Qag.mk QjI [3] (Qas.mk (-1) 0 0 0) (Qas.mk 1 0 80 0) 0 0 1 (-1) (-1) false)].map Qag.enc).length)),cC (QdU h0),nL Qae.enc r,bF h1,bF h1,cE Qae.enc h2,rp 4 (bF h1),bF h3,hW 2,hH (.nilB 3 4 2),hH (.nilB 3 5 2),hH (.draw 7 []),cE Qae.enc h4,cC (QeP h5),nL Qae.enc r1,bF h6,bF h6,cE Qae.enc h7,rp 4 (bF h6),bF h8,bF h8,cE Qae.enc h7,rp 4 (bF h8),bF h9,bF h9,cE Qae.enc h7,rp 4 (bF h9),rp 2 (bF h10),cE Qae.enc h11,rp 4 (bF h10),bF h12,hH (.draw 12 []),cE Qae.enc h7,cC (Qm4 h13),cC (QlA h14),rp 8 hP,oI (r2.2.2=true),oR True (r2.2.2=true),oI ((r2.2.2&&(eqI r2.1 20))=true),oR True ((r2.2.2&&(eqI r2.1 20))=true),oI (((r2.2.2&&(eqI r2.1 20))&&(eqI r3.2 0))=true),nL Qae.enc r3.1,hP,hP,oI (((r2.2.2&&(eqI r2.1 20))&&(eqI r3.2 0))=true),oR True (((r2.2.2&&(eqI r2.1 20))&&(eqI r3.2 0))=true)]
def Qoe (Γ:Gam) (rv:Int) (cf:Cf):Prop:=Go Tryz.prog Tryz.f33 [] Γ (one (lI rv)) [] cf
def QlC (Γ:Gam) (rv:Int) (i:Int) (n:Int) (k:Int):Prop:=Qoe Γ rv ⟨[.c 116,.l 116,.b 0,.c 15],⟨13,[vI 0 i,vI 3 n,vI 4 k],[]⟩⟩
def QkO (Γ:Gam) (rv:Int) (i:Int) (n1:Int):Prop:=Qoe Γ rv ⟨[.c 15],⟨13,[vI 3 n1],[]⟩⟩
theorem QpK (Γ:Gam) (rv:Int) {i} {s:Int×Int} {e:Int} (h:loopF (fun s=>Qcc i s.1 s.2) s=some e) (hD:QkO Γ rv i e):QlC Γ rv i s.1 s.2:=by
 refine Qau (C:=fun (s:Int×Int)=>QlC Γ rv i s.1 s.2) (D:=fun (e:Int)=>QkO Γ rv i e) ?_ h hD
 clear h hD s e
 rintro ⟨n,k⟩ z_ h hI hE
 replace h:Qcc i n k=_:=h
 unfold Qcc at h
 rcases Qah h with ⟨h0,h⟩|⟨h0,h⟩
 ·exact gn 11 [0,3,4] [] [bT h0] (hI _ (oJ h))
 ·exact gn 5 [3] [] [bF h0] (hE _ (oJ h))
theorem QdS {i} {rv:Int} (h:QdW i=some rv):AFn Tryz.prog 33 [.one (lI i)] [] (one (lI rv)) []:=by
 refine QaK Tryz.func33 (by kernel_rfl) (by kernel_rfl) (fun Γ=>?_)
 unfold QdW at h
 obtain ⟨e0,h1,h⟩:=Qaf h
 refine gn 9 [0,3,4] [] [] (QpK Γ rv h1 ?_)
 obtain ⟨n1,rfl⟩:∃ x,x=e0:=⟨_,rfl⟩
 replace h:(some n1:Option Int)=some _:=h
 obtain rfl:=Option.some.inj h
 exact gr 2 [] []
theorem Qaq {set_ i} {rv:Bool} (h:QaN set_ i=some rv):AFn Tryz.prog 75 [.one (lI set_),.one (lI i)] [] (one (.bool rv)) []:=by
 refine QaK Tryz.func75 (by kernel_rfl) (by kernel_rfl) (fun Γ=>?_)
 unfold QaN at h
 rcases Qah h with ⟨h0,h⟩|⟨h0,h⟩
 ·obtain ⟨r,h1,h⟩:=Qaf h
  obtain ⟨h2,h⟩:=Qar h
  obtain rfl:=Option.some.inj h
  exact gr 4 [] [hP,hP,hP,oI ((geI i 0)=true),oR True ((geI i 0)=true),rp 3 (bT h0),cC (QdS h1),bT h0,oO (h2),bT h0,oO (oA (n:=2)),bT h0,bT h0]
 ·obtain rfl:=Option.some.inj h
  exact gr 4 [] [hP,hP,hP,oI ((geI i 0)=true),oR True ((geI i 0)=true),rp 7 (bF h0)]
def QkP (Γ:Gam) (rv:List Int) (cf:Cf):Prop:=Go Tryz.prog Tryz.f32 [] Γ (one (lL 1 rv e_i64)) [] cf
def Qic (Γ:Gam) (rv:List Int) (set_:Int) (l:List Int) (i:Int):Prop:=QkP Γ rv ⟨[.c 116,.l 116,.b 0,.c 15],⟨17,[vI 0 set_,vO 3 0 1 l e_i64,vI 4 i],[oS 1 3 l e_i64]⟩⟩
def QhM (Γ:Gam) (rv:List Int) (set_:Int) (l1:List Int):Prop:=QkP Γ rv ⟨[.c 15],⟨17,[vO 3 0 1 l1 e_i64],[oS 1 3 l1 e_i64]⟩⟩
theorem Qna (Γ:Gam) (rv:List Int) {set_} {s:List Int×Int} {e:List Int} (h:loopF (fun s=>Qbd set_ s.1 s.2) s=some e) (hD:QhM Γ rv set_ e):Qic Γ rv set_ s.1 s.2:=by
 refine Qau (C:=fun (s:List Int×Int)=>Qic Γ rv set_ s.1 s.2) (D:=fun (e:List Int)=>QhM Γ rv set_ e) ?_ h hD
 clear h hD s e
 rintro ⟨l,i⟩ z_ h hI hE
 replace h:Qbd set_ l i=_:=h
 unfold Qbd at h
 rcases Qah h with ⟨h0,h⟩|⟨h0,h⟩
 ·obtain ⟨r,h1,h⟩:=Qaf h
  rcases Qah h with ⟨h2,h⟩|⟨h2,h⟩
  ·obtain ⟨h3,h⟩:=Qar h
   exact gn 14 [0,3,4] [2] [bT h0,cC (Qaq h1),bT h2,oO (Eq.refl ([i].map e_i64).length),aO e_i64 h3] (hI _ (oJ h))
  ·exact gn 14 [0,3,4] [0] [bT h0,cC (Qaq h1),bF h2] (hI _ (oJ h))
 ·exact gn 5 [3] [0] [bF h0] (hE _ (oJ h))
theorem QgO {set_} {rv:List Int} (h:Qdh set_=some rv):AFn Tryz.prog 32 [.one (lI set_)] [] (one (lL 1 rv e_i64)) []:=by
 refine QaK Tryz.func32 (by kernel_rfl) (by kernel_rfl) (fun Γ=>?_)
 unfold Qdh at h
 obtain ⟨e0,h4,h⟩:=Qaf h
 refine gn 9 [0,3,4] [0] [hW 12,hH (.adopt 3 1 3)] (Qna Γ rv h4 ?_)
 obtain ⟨l1,rfl⟩:∃ x,x=e0:=⟨_,rfl⟩
 replace h:(some l1:Option (List Int))=some _:=h
 obtain rfl:=Option.some.inj h
 exact gr 2 [] [hW 4,hH (.frz 0),rp 3 (eL l1 e_i64)]
def QnA (Γ:Gam) (rv:Bool) (cf:Cf):Prop:=Go Tryz.prog Tryz.f74 [] Γ (one (.bool rv)) [] cf
def QkY (Γ:Gam) (rv:Bool) (t:Qai) (skills:Int) (bit:Int):Prop:=QnA Γ rv ⟨[.c 116,.l 116,.b 0,.c 15],⟨30,[vI 1 skills,vP 2 0 14,vI 5 bit],[oX 14 79 (Qai.enc t)]⟩⟩
def QjW (Γ:Gam) (rv:Bool) (t:Qai) (skills:Int):Prop:=QnA Γ rv ⟨[.c 15],⟨30,[],[]⟩⟩
theorem Qo9 (Γ:Gam) (rv:Bool) {t skills} {s:Int} {e:(Unit)⊕(Bool)} (h:loopF (fun s=>QcM t skills s) s=some e) (hD:sel e (fun e=>QjW Γ rv t skills) (fun e=>e=rv)):QkY Γ rv t skills s:=by
 refine Qau (C:=fun (s:Int)=>QkY Γ rv t skills s) (D:=fun (e:(Unit)⊕(Bool))=>sel e (fun e=>QjW Γ rv t skills) (fun e=>e=rv)) ?_ h hD
 clear h hD s e
 intro bit z_ h hI hE
 replace h:QcM t skills bit=_:=h
 unfold QcM at h
 rcases Qah h with ⟨h1,h⟩|⟨h1,h⟩
 ·obtain ⟨h2,h⟩:=Qar h
  rcases Qah h with ⟨h3,h⟩|⟨h3,h⟩
  ·obtain ⟨h4,h⟩:=Qar h
   rcases Qah h with ⟨h5,h⟩|⟨h5,h⟩
   ·obtain rfl:=(hE _ (oJ h):_=rv)
    exact gr 12 [] [bT h1,oO (h2),oO (oA (n:=2)),rp 4 (bT h3),oO (h4),bT h3,oO (oA (n:=2)),bT h3,bT h3,bT h5]
   ·exact gn 14 [1,2,5] [0] [bT h1,oO (h2),oO (oA (n:=2)),rp 4 (bT h3),oO (h4),bT h3,oO (oA (n:=2)),bT h3,bT h3,bF h5] (hI _ (oJ h))
  ·exact gn 14 [1,2,5] [0] [bT h1,oO (h2),oO (oA (n:=2)),rp 7 (bF h3),fF] (hI _ (oJ h))
 ·exact gn 5 [] [] [bF h1] (hE _ (oJ h))
theorem Qeh {t skills} {rv:Bool} (h:Qd6 t skills=some rv):AFn Tryz.prog 74 [.agg (Qai.enc t),.one (lI skills)] [] (one (.bool rv)) []:=by
 refine QaK Tryz.func74 (by kernel_rfl) (by kernel_rfl) (fun Γ=>?_)
 unfold Qd6 at h
 rcases Qah h with ⟨h0,h⟩|⟨h0,h⟩
 ·obtain rfl:=Option.some.inj h
  exact gr 8 [] [hP,hP,hP,oI ((ltI t.skills 0)=false),oR True ((ltI t.skills 0)=false),bT h0]
 ·obtain ⟨e0,h6,h⟩:=Qaf h
  refine gn 12 [1,2,5] [0] [hP,hP,hP,oI ((ltI t.skills 0)=false),oR True ((ltI t.skills 0)=false),bF h0] (Qo9 Γ rv h6 ?_)
  rcases e0 with e0|e0
  ·replace h:(some true:Option Bool)=some _:=h
   obtain rfl:=Option.some.inj h
   exact gr 2 [] []
  ·obtain ⟨r,rfl⟩:∃ x,x=e0:=⟨_,rfl⟩
   replace h:(some r:Option Bool)=some _:=h
   exact Option.some.inj h
def Qfc (Γ:Gam) (rv:Bool) (cf:Cf):Prop:=Go Tryz.prog Tryz.f31 [] Γ (one (.bool rv)) [] cf
def QlS (Γ:Gam) (rv:Bool) (x0:Qac) (kind:Int) (set_:Int) (r:List Int) (i:Int):Prop:=Qfc Γ rv ⟨[.c 244,.l 244,.b 0,.c 31],⟨120,[vI 1 kind,vI 2 set_,vP 3 0 6,vL 7 1 r e_i64,vI 8 i],[oX 6 30 (Qac.enc x0)]⟩⟩
def Qlf (Γ:Gam) (rv:Bool) (x0:Qac) (kind:Int) (set_:Int) (r:List Int):Prop:=Qfc Γ rv ⟨[.c 31],⟨120,[vI 2 set_,vP 3 0 6],[oX 6 30 (Qac.enc x0)]⟩⟩
def QlT (Γ:Gam) (rv:Bool) (x0:Qac) (set_:Int) (i1:Int):Prop:=Qfc Γ rv ⟨[.c 500,.l 500,.b 2,.c 63],⟨120,[vI 2 set_,vP 3 0 6,vI 9 i1],[oX 6 30 (Qac.enc x0)]⟩⟩
def Qlg (Γ:Gam) (rv:Bool) (x0:Qac) (set_:Int):Prop:=Qfc Γ rv ⟨[.c 63],⟨120,[vI 2 set_,vP 3 0 6],[oX 6 30 (Qac.enc x0)]⟩⟩
def QlU (Γ:Gam) (rv:Bool) (x0:Qac) (set_:Int) (i2:Int):Prop:=Qfc Γ rv ⟨[.c 1012,.l 1012,.b 4,.c 127],⟨120,[vI 2 set_,vP 3 0 6,vI 10 i2],[oX 6 30 (Qac.enc x0)]⟩⟩
def Qlh (Γ:Gam) (rv:Bool) (x0:Qac) (set_:Int):Prop:=Qfc Γ rv ⟨[.c 127],⟨120,[],[]⟩⟩
theorem QpV (Γ:Gam) (rv:Bool) {x0 kind set_ r} {s:Int} {e:(Unit)⊕(Bool)} (h:loopF (fun s=>Qci x0 kind set_ r s) s=some e) (hD:sel e (fun e=>Qlf Γ rv x0 kind set_ r) (fun e=>e=rv)):QlS Γ rv x0 kind set_ r s:=by
 refine Qau (C:=fun (s:Int)=>QlS Γ rv x0 kind set_ r s) (D:=fun (e:(Unit)⊕(Bool))=>sel e (fun e=>Qlf Γ rv x0 kind set_ r) (fun e=>e=rv)) ?_ h hD
 clear h hD s e
 intro i z_ h hI hE
 replace h:Qci x0 kind set_ r i=_:=h
 unfold Qci at h
 rcases Qah h with ⟨h2,h⟩|⟨h2,h⟩
 ·obtain ⟨x1,h3,h⟩:=Qaf h
  rcases Qah h with ⟨h4,h⟩|⟨h4,h⟩
  ·obtain rfl:=(hE _ (oJ h):_=rv)
   exact gr 12 [] [nL e_i64 r,bT h2,hH (.draw 37 []),cE e_i64 h3,nL Qag.enc x0.orders,rp 10 (bT h4),rp 18 tT]
  ·obtain ⟨x2,h5,h⟩:=Qaf h
   rcases Qah h with ⟨h6,h⟩|⟨h6,h⟩
   ·obtain rfl:=(hE _ (oJ h):_=rv)
    exact gr 12 [] [nL e_i64 r,bT h2,hH (.draw 37 []),cE e_i64 h3,nL Qag.enc x0.orders,rp 5 (bF h4),cE e_i64 h3,bF h4,bF h4,cE Qag.enc h5,rp 3 (bF h4),rp 17 (bT h6),tT]
   ·obtain ⟨x3,h7,h⟩:=Qaf h
    obtain ⟨r1,h8,h⟩:=Qaf h
    rcases Qah h with ⟨h9,h⟩|⟨h9,h⟩
    ·exact gn 14 [1,2,3,7,8] [0] [nL e_i64 r,bT h2,hH (.draw 37 []),cE e_i64 h3,nL Qag.enc x0.orders,rp 5 (bF h4),cE e_i64 h3,bF h4,bF h4,cE Qag.enc h5,rp 3 (bF h4),rp 4 (bF h6),cE Qai.enc h7,rp 6 (bF h6),cE e_i64 h3,bF h6,bF h6,cE Qag.enc h5,rp 3 (bF h6),cC (Qeh h8),bF h6,bF h6,nF h9] (hI _ (oJ h))
    ·obtain rfl:=(hE _ (oJ h):_=rv)
     exact gr 12 [] [nL e_i64 r,bT h2,hH (.draw 37 []),cE e_i64 h3,nL Qag.enc x0.orders,rp 5 (bF h4),cE e_i64 h3,bF h4,bF h4,cE Qag.enc h5,rp 3 (bF h4),rp 4 (bF h6),cE Qai.enc h7,rp 6 (bF h6),cE e_i64 h3,bF h6,bF h6,cE Qag.enc h5,rp 3 (bF h6),cC (Qeh h8),bF h6,bF h6,nT h9]
 ·exact gn 5 [2,3] [0] [nL e_i64 r,bF h2] (hE _ (oJ h))
theorem QpW (Γ:Gam) (rv:Bool) {x0 set_} {s:Int} {e:(Unit)⊕(Bool)} (h:loopF (fun s=>Qcj x0 set_ s) s=some e) (hD:sel e (fun e=>Qlg Γ rv x0 set_) (fun e=>e=rv)):QlT Γ rv x0 set_ s:=by
 refine Qau (C:=fun (s:Int)=>QlT Γ rv x0 set_ s) (D:=fun (e:(Unit)⊕(Bool))=>sel e (fun e=>Qlg Γ rv x0 set_) (fun e=>e=rv)) ?_ h hD
 clear h hD s e
 intro i1 z_ h hI hE
 replace h:Qcj x0 set_ i1=_:=h
 unfold Qcj at h
 rcases Qah h with ⟨h11,h⟩|⟨h11,h⟩
 ·obtain ⟨x4,h12,h⟩:=Qaf h
  obtain ⟨r2,h13,h⟩:=Qaf h
  rcases Qah h with ⟨h14,h⟩|⟨h14,h⟩
  ·obtain ⟨r3,h15,h⟩:=Qaf h
   rcases Qah h with ⟨h16,h⟩|⟨h16,h⟩
   ·obtain rfl:=(hE _ (oJ h):_=rv)
    exact gr 12 [] [nL Qap.enc x0.apart,bT h11,cE Qap.enc h12,oO (zL 0),oO (lT 0 2),cC (Qaq h13),rp 5 (bT h14),cE Qap.enc h12,bT h14,oO (zL 1),oO (lT 1 2),rp 2 (bT h14),cC (Qaq h15),bT h14,bT h16]
   ·exact gn 14 [2,3,9] [0] [nL Qap.enc x0.apart,bT h11,cE Qap.enc h12,oO (zL 0),oO (lT 0 2),cC (Qaq h13),rp 5 (bT h14),cE Qap.enc h12,bT h14,oO (zL 1),oO (lT 1 2),rp 2 (bT h14),cC (Qaq h15),bT h14,bF h16] (hI _ (oJ h))
  ·exact gn 14 [2,3,9] [0] [nL Qap.enc x0.apart,bT h11,cE Qap.enc h12,oO (zL 0),oO (lT 0 2),cC (Qaq h13),rp 9 (bF h14),fF] (hI _ (oJ h))
 ·exact gn 5 [2,3] [0] [nL Qap.enc x0.apart,bF h11] (hE _ (oJ h))
theorem QpX (Γ:Gam) (rv:Bool) {x0 set_} {s:Int} {e:(Unit)⊕(Bool)} (h:loopF (fun s=>QbP x0 set_ s) s=some e) (hD:sel e (fun e=>Qlh Γ rv x0 set_) (fun e=>e=rv)):QlU Γ rv x0 set_ s:=by
 refine Qau (C:=fun (s:Int)=>QlU Γ rv x0 set_ s) (D:=fun (e:(Unit)⊕(Bool))=>sel e (fun e=>Qlh Γ rv x0 set_) (fun e=>e=rv)) ?_ h hD
 clear h hD s e
 intro i2 z_ h hI hE
 replace h:QbP x0 set_ i2=_:=h
 unfold QbP at h
 rcases Qah h with ⟨h18,h⟩|⟨h18,h⟩
 ·obtain ⟨x5,h19,h⟩:=Qaf h
  obtain ⟨r4,h20,h⟩:=Qaf h
  rcases Qah h with ⟨h21,h⟩|⟨h21,h⟩
  ·obtain ⟨r5,h22,h⟩:=Qaf h
   rcases Qah h with ⟨h23,h⟩|⟨h23,h⟩
   ·exact gn 14 [2,3,10] [0] [nL Qap.enc x0.before,bT h18,cE Qap.enc h19,oO (zL 1),oO (lT 1 2),cC (Qaq h20),rp 5 (bT h21),cE Qap.enc h19,bT h21,oO (zL 0),oO (lT 0 2),rp 2 (bT h21),cC (Qaq h22),rp 2 (bT h21),nF h23] (hI _ (oJ h))
   ·obtain rfl:=(hE _ (oJ h):_=rv)
    exact gr 12 [] [nL Qap.enc x0.before,bT h18,cE Qap.enc h19,oO (zL 1),oO (lT 1 2),cC (Qaq h20),rp 5 (bT h21),cE Qap.enc h19,bT h21,oO (zL 0),oO (lT 0 2),rp 2 (bT h21),cC (Qaq h22),rp 2 (bT h21),nT h23]
  ·exact gn 14 [2,3,10] [0] [nL Qap.enc x0.before,bT h18,cE Qap.enc h19,oO (zL 1),oO (lT 1 2),cC (Qaq h20),rp 10 (bF h21),fF] (hI _ (oJ h))
 ·exact gn 5 [] [] [nL Qap.enc x0.before,bF h18] (hE _ (oJ h))
theorem QnD {x0 kind set_} {rv:Bool} (h:Qh1 x0 kind set_=some rv):AFn Tryz.prog 31 [.agg (Qac.enc x0),.one (lI kind),.one (lI set_)] [] (one (.bool rv)) []:=by
 refine QaK Tryz.func31 (by kernel_rfl) (by kernel_rfl) (fun Γ=>?_)
 unfold Qh1 at h
 rcases Qah h with ⟨h0,h⟩|⟨h0,h⟩
 ·obtain rfl:=Option.some.inj h
  exact gr 8 [] [rp 4 hP,rp 2 (oI ((ltI kind 0)=false)),nL Qai.enc x0.types,rp 5 hP,rp 2 (oI ((ltI kind 0)=false)),oR True ((ltI kind 0)=false),oI (((ltI kind 0)||(geI kind (lenI x0.types)))=false),oR True (((ltI kind 0)||(geI kind (lenI x0.types)))=false),bT h0]
 ·obtain ⟨r,h1,h⟩:=Qaf h
  obtain ⟨e0,h10,h⟩:=Qaf h
  refine gn 14 [1,2,3,7,8] [0] [rp 4 hP,rp 2 (oI ((ltI kind 0)=false)),nL Qai.enc x0.types,rp 5 hP,rp 2 (oI ((ltI kind 0)=false)),oR True ((ltI kind 0)=false),oI (((ltI kind 0)||(geI kind (lenI x0.types)))=false),oR True (((ltI kind 0)||(geI kind (lenI x0.types)))=false),bF h0,cC (QgO h1)] (QpV Γ rv h10 ?_)
  rcases e0 with e0|e0
  ·replace h:(bnd (loopF (fun s=>Qcj x0 set_ s) 0) (fun e=>sel e (fun (_:Unit)=>bnd (loopF (fun s=>QbP x0 set_ s) 0) (fun e=>sel e (fun (_:Unit)=>some true) (fun r6=>some r6))) (fun r7=>some r7)):Option Bool)=some _:=h
   obtain ⟨e1,h17,h⟩:=Qaf h
   refine gn 5 [2,3,9] [0] [] (QpW Γ rv h17 ?_)
   rcases e1 with e1|e1
   ·replace h:(bnd (loopF (fun s=>QbP x0 set_ s) 0) (fun e=>sel e (fun (_:Unit)=>some true) (fun r6=>some r6)):Option Bool)=some _:=h
    obtain ⟨e2,h24,h⟩:=Qaf h
    refine gn 5 [2,3,10] [0] [] (QpX Γ rv h24 ?_)
    rcases e2 with e2|e2
    ·replace h:(some true:Option Bool)=some _:=h
     obtain rfl:=Option.some.inj h
     exact gr 2 [] []
    ·obtain ⟨r6,rfl⟩:∃ x,x=e2:=⟨_,rfl⟩
     replace h:(some r6:Option Bool)=some _:=h
     exact Option.some.inj h
   ·obtain ⟨r7,rfl⟩:∃ x,x=e1:=⟨_,rfl⟩
    replace h:(some r7:Option Bool)=some _:=h
    exact Option.some.inj h
  ·obtain ⟨r8,rfl⟩:∃ x,x=e0:=⟨_,rfl⟩
   replace h:(some r8:Option Bool)=some _:=h
   exact Option.some.inj h
def Qny (Γ:Gam) (rv:Bool) (cf:Cf):Prop:=Go Tryz.prog Tryz.f113 [] Γ (one (.bool rv)) [] cf
def QkW (Γ:Gam) (rv:Bool) (l:List (List Int)) (dims:Int) (i:Int):Prop:=Qny Γ rv ⟨[.c 116,.l 116,.b 0,.c 15],⟨25,[vL 0 1 l QeN,vI 1 dims,vI 5 i],[]⟩⟩
def QjT (Γ:Gam) (rv:Bool) (l:List (List Int)) (dims:Int):Prop:=Qny Γ rv ⟨[.c 15],⟨25,[],[]⟩⟩
theorem Qo7 (Γ:Gam) (rv:Bool) {l dims} {s:Int} {e:(Unit)⊕(Bool)} (h:loopF (fun s=>Qcq l dims s) s=some e) (hD:sel e (fun e=>QjT Γ rv l dims) (fun e=>e=rv)):QkW Γ rv l dims s:=by
 refine Qau (C:=fun (s:Int)=>QkW Γ rv l dims s) (D:=fun (e:(Unit)⊕(Bool))=>sel e (fun e=>QjT Γ rv l dims) (fun e=>e=rv)) ?_ h hD
 clear h hD s e
 intro i z_ h hI hE
 replace h:Qcq l dims i=_:=h
 unfold Qcq at h
 rcases Qah h with ⟨h1,h⟩|⟨h1,h⟩
 ·obtain ⟨x0,h2,h⟩:=Qaf h
  rcases Qah h with ⟨h3,h⟩|⟨h3,h⟩
  ·obtain rfl:=(hE _ (oJ h):_=rv)
   exact gr 12 [] [nL QeN l,bT h1,cE QeN h2,nL e_i64 x0,bT h3]
  ·exact gn 14 [0,1,5] [] [nL QeN l,bT h1,cE QeN h2,nL e_i64 x0,bF h3] (hI _ (oJ h))
 ·exact gn 5 [] [] [nL QeN l,bF h1] (hE _ (oJ h))
theorem Qmt {l dims} {rv:Bool} (h:QgY l dims=some rv):AFn Tryz.prog 113 [.one (lL 1 l QeN),.one (lI dims)] [] (one (.bool rv)) []:=by
 refine QaK Tryz.func113 (by kernel_rfl) (by kernel_rfl) (fun Γ=>?_)
 unfold QgY at h
 rcases Qah h with ⟨h0,h⟩|⟨h0,h⟩
 ·obtain rfl:=Option.some.inj h
  exact gr 8 [] [hP,hP,hP,oI ((ltI dims 0)=false),oR True ((ltI dims 0)=false),bT h0]
 ·obtain ⟨e0,h4,h⟩:=Qaf h
  refine gn 12 [0,1,5] [] [hP,hP,hP,oI ((ltI dims 0)=false),oR True ((ltI dims 0)=false),bF h0] (Qo7 Γ rv h4 ?_)
  rcases e0 with e0|e0
  ·replace h:(some true:Option Bool)=some _:=h
   obtain rfl:=Option.some.inj h
   exact gr 2 [] []
  ·obtain ⟨r,rfl⟩:∃ x,x=e0:=⟨_,rfl⟩
   replace h:(some r:Option Bool)=some _:=h
   exact Option.some.inj h
def QhN (Γ:Gam) (rv:List Int×Int) (cf:Cf):Prop:=Go Tryz.prog Tryz.f77 [] Γ (.tup [.one (lL 1 rv.1 e_i64),.one (lI rv.2)]) [] cf
def QlH (Γ:Gam) (rv:List Int×Int) (l:List (List Int)) (dims:Int) (l1:List Int) (d:Int) (n:Int) (i:Int):Prop:=QhN Γ rv ⟨[.c 62612,.l 62612,.b 2,.c 7827,.b 1,.c 979,.l 244,.b 0,.c 31],⟨39,[vL 0 1 l QeN,vI 1 dims,vO 6 0 1 l1 e_i64,vI 7 d,vI 8 n,vI 9 i],[oS 1 3 l1 e_i64]⟩⟩
def QkV (Γ:Gam) (rv:List Int×Int) (l:List (List Int)) (dims:Int) (l1:List Int) (d:Int) (n1:Int):Prop:=QhN Γ rv ⟨[.c 7827,.b 1,.c 979,.l 244,.b 0,.c 31],⟨39,[vL 0 1 l QeN,vI 1 dims,vO 6 0 1 l1 e_i64,vI 7 d,vI 8 n1],[oS 1 3 l1 e_i64]⟩⟩
def QlG (Γ:Gam) (rv:List Int×Int) (l:List (List Int)) (dims:Int) (l1:List Int) (d:Int):Prop:=QhN Γ rv ⟨[.c 244,.l 244,.b 0,.c 31],⟨39,[vL 0 1 l QeN,vI 1 dims,vO 6 0 1 l1 e_i64,vI 7 d],[oS 1 3 l1 e_i64]⟩⟩
def QkU (Γ:Gam) (rv:List Int×Int) (l:List (List Int)) (dims:Int) (l2:List Int):Prop:=QhN Γ rv ⟨[.c 31],⟨39,[vO 6 0 1 l2 e_i64],[oS 1 3 l2 e_i64]⟩⟩
theorem QpO (Γ:Gam) (rv:List Int×Int) {l dims l1 d} {s:Int×Int} {e:Int} (h:loopF (fun s=>Qcg l dims l1 d s.1 s.2) s=some e) (hD:QkV Γ rv l dims l1 d e):QlH Γ rv l dims l1 d s.1 s.2:=by
 refine Qau (C:=fun (s:Int×Int)=>QlH Γ rv l dims l1 d s.1 s.2) (D:=fun (e:Int)=>QkV Γ rv l dims l1 d e) ?_ h hD
 clear h hD s e
 rintro ⟨n,i⟩ z_ h hI hE
 replace h:Qcg l dims l1 d n i=_:=h
 unfold Qcg at h
 rcases Qah h with ⟨h3,h⟩|⟨h3,h⟩
 ·obtain ⟨x0,h4,h⟩:=Qaf h
  obtain ⟨x1,h5,h⟩:=Qaf h
  exact gn 11 [0,1,6,7,8,9] [0] [nL QeN l,bT h3,cE QeN h4,cE e_i64 h5] (hI _ (oJ h))
 ·exact gn 5 [0,1,6,7,8] [0] [nL QeN l,bF h3] (hE _ (oJ h))
theorem QpN (Γ:Gam) (rv:List Int×Int) {l dims} {s:List Int×Int} {e:List Int} (h:loopF (fun s=>Qcf l dims s.1 s.2) s=some e) (hD:QkU Γ rv l dims e):QlG Γ rv l dims s.1 s.2:=by
 refine Qau (C:=fun (s:List Int×Int)=>QlG Γ rv l dims s.1 s.2) (D:=fun (e:List Int)=>QkU Γ rv l dims e) ?_ h hD
 clear h hD s e
 rintro ⟨l1,d⟩ z_ h hI hE
 replace h:Qcf l dims l1 d=_:=h
 unfold Qcf at h
 rcases Qah h with ⟨h2,h⟩|⟨h2,h⟩
 ·obtain ⟨e0,h6,h⟩:=Qaf h
  refine gn 14 [0,1,6,7,8,9] [0] [bT h2] (QpO Γ rv h6 ?_)
  obtain ⟨n1,rfl⟩:∃ x,x=e0:=⟨_,rfl⟩
  replace h:(chk (okN (l1++[n1]).length 8) (some (.inl ((l1++[n1]),(addK .i64 d 1)))):Option ((List Int×Int)⊕(List Int)))=some _:=h
  obtain ⟨h7,h⟩:=Qar h
  exact gn 4 [0,1,6,7] [2] [oO (Eq.refl ([n1].map e_i64).length),aO e_i64 h7] (hI _ (oJ h))
 ·exact gn 5 [6] [0] [bF h2] (hE _ (oJ h))
theorem QrC {l dims} {rv:List Int×Int} (h:QgC l dims=some rv):AFn Tryz.prog 77 [.one (lL 1 l QeN),.one (lI dims)] [] (.tup [.one (lL 1 rv.1 e_i64),.one (lI rv.2)]) []:=by
 refine QaK Tryz.func77 (by kernel_rfl) (by kernel_rfl) (fun Γ=>?_)
 unfold QgC at h
 obtain ⟨r,h0,h⟩:=Qaf h
 rcases Qah h with ⟨h1,h⟩|⟨h1,h⟩
 ·obtain ⟨e1,h8,h⟩:=Qaf h
  refine gn 14 [0,1,6,7] [0] [cC (Qmt h0),nF h1,hW 10,hH (.adopt 6 1 3)] (QpN Γ rv h8 ?_)
  obtain ⟨l2,rfl⟩:∃ x,x=e1:=⟨_,rfl⟩
  replace h:(some (l2,0):Option (List Int×Int))=some _:=h
  obtain rfl:=Option.some.inj h
  exact gr 2 [] [hW 5,hH (.frz 0),rp 3 (eL l2 e_i64)]
 ·obtain rfl:=Option.some.inj h
  exact gr 8 [] [cC (Qmt h0),nT h1,hW 4,hH (.nilS 4 0 1)]
def QnB (Γ:Gam) (rv:List Int×Int) (cf:Cf):Prop:=Go Tryz.prog Tryz.f34 [] Γ (.tup [.one (lL 1 rv.1 e_i64),.one (lI rv.2)]) [] cf
def QkZ (Γ:Gam) (rv:List Int×Int) (l:List Qag) (dims:Int) (r1:List Int) (l1:List (List Int)) (i:Int):Prop:=QnB Γ rv ⟨[.c 500,.l 500,.b 0,.c 63],⟨49,[vL 0 16 l Qag.enc,vI 2 dims,vL 8 1 r1 e_i64,vO 9 0 1 l1 QeN,vI 10 i],[oS 1 45 l1 QeN]⟩⟩
def Qj3 (Γ:Gam) (rv:List Int×Int) (l:List Qag) (dims:Int) (r1:List Int) (l2:List (List Int)):Prop:=QnB Γ rv ⟨[.c 63],⟨49,[vI 2 dims,vO 9 0 1 l2 QeN],[oS 1 45 l2 QeN]⟩⟩
theorem Qpa (Γ:Gam) (rv:List Int×Int) {l dims r1} {s:List (List Int)×Int} {e:(List (List Int))⊕(List Int×Int)} (h:loopF (fun s=>QbR l dims r1 s.1 s.2) s=some e) (hD:sel e (fun e=>Qj3 Γ rv l dims r1 e) (fun e=>e=rv)):QkZ Γ rv l dims r1 s.1 s.2:=by
 refine Qau (C:=fun (s:List (List Int)×Int)=>QkZ Γ rv l dims r1 s.1 s.2) (D:=fun (e:(List (List Int))⊕(List Int×Int))=>sel e (fun e=>Qj3 Γ rv l dims r1 e) (fun e=>e=rv)) ?_ h hD
 clear h hD s e
 rintro ⟨l1,i⟩ z_ h hI hE
 replace h:QbR l dims r1 l1 i=_:=h
 unfold QbR at h
 rcases Qah h with ⟨h4,h⟩|⟨h4,h⟩
 ·obtain ⟨x0,h5,h⟩:=Qaf h
  rcases Qah h with ⟨h6,h⟩|⟨h6,h⟩
  ·obtain rfl:=(hE _ (oJ h):_=rv)
   exact gr 13 [] [nL e_i64 r1,bT h4,cE e_i64 h5,nL Qag.enc l,bT h6,hW 4,hH (.nilS 6 0 1)]
  ·obtain ⟨x1,h7,h⟩:=Qaf h
   obtain ⟨h8,h⟩:=Qar h
   exact gn 16 [0,2,8,9,10] [2] [nL e_i64 r1,bT h4,cE e_i64 h5,nL Qag.enc l,bF h6,cE e_i64 h5,cE Qag.enc h7,oO (Eq.refl ([x1.load].map QeN).length),aO QeN h8] (hI _ (oJ h))
 ·exact gn 5 [2,9] [0] [nL e_i64 r1,bF h4] (hE _ (oJ h))
theorem QiB {l set_ dims} {rv:List Int×Int} (h:QfR l set_ dims=some rv):AFn Tryz.prog 34 [.one (lL 16 l Qag.enc),.one (lI set_),.one (lI dims)] [] (.tup [.one (lL 1 rv.1 e_i64),.one (lI rv.2)]) []:=by
 refine QaK Tryz.func34 (by kernel_rfl) (by kernel_rfl) (fun Γ=>?_)
 unfold QfR at h
 rcases Qah h with ⟨h0,h⟩|⟨h0,h⟩
 ·obtain rfl:=Option.some.inj h
  exact gr 8 [] [rp 4 (bT h0),tT,hW 4,hH (.nilS 6 0 1)]
 ·obtain ⟨r,h1,h⟩:=Qaf h
  rcases Qah h with ⟨h2,h⟩|⟨h2,h⟩
  ·obtain ⟨r1,h3,h⟩:=Qaf h
   obtain ⟨e0,h9,h⟩:=Qaf h
   refine gn 16 [0,2,8,9,10] [0] [bF h0,bF h0,cC (Qat h1),bF h0,bF h0,nF h2,cC (QgO h3),hW 10,hH (.adopt 9 1 45)] (Qpa Γ rv h9 ?_)
   rcases e0 with e0|e0
   ·obtain ⟨l2,rfl⟩:∃ x,x=e0:=⟨_,rfl⟩
    replace h:(bnd (QgC l2 dims) fun r2=>some (r2.1,r2.2):Option (List Int×Int))=some _:=h
    obtain ⟨r2,h10,h⟩:=Qaf h
    obtain rfl:=Option.some.inj h
    exact gr 2 [] [hW 4,hH (.frz 0),rp 2 (eL l2 QeN),cC (QrC h10)]
   ·obtain ⟨r3,rfl⟩:∃ x,x=e0:=⟨_,rfl⟩
    replace h:(some r3:Option (List Int×Int))=some _:=h
    exact Option.some.inj h
  ·obtain rfl:=Option.some.inj h
   exact gr 8 [] [bF h0,bF h0,cC (Qat h1),bF h0,bF h0,nT h2,hW 4,hH (.nilS 6 0 1)]
def Qnx (Γ:Gam) (rv:Bool) (cf:Cf):Prop:=Go Tryz.prog Tryz.f35 [] Γ (one (.bool rv)) [] cf
def QkS (Γ:Gam) (rv:Bool) (a:List Int) (capacity:List Int) (i:Int):Prop:=Qnx Γ rv ⟨[.c 116,.l 116,.b 0,.c 15],⟨26,[vL 0 1 a e_i64,vL 1 1 capacity e_i64,vI 5 i],[]⟩⟩
def QjR (Γ:Gam) (rv:Bool) (a:List Int) (capacity:List Int):Prop:=Qnx Γ rv ⟨[.c 15],⟨26,[],[]⟩⟩
theorem Qo6 (Γ:Gam) (rv:Bool) {a capacity} {s:Int} {e:(Unit)⊕(Bool)} (h:loopF (fun s=>Qcp a capacity s) s=some e) (hD:sel e (fun e=>QjR Γ rv a capacity) (fun e=>e=rv)):QkS Γ rv a capacity s:=by
 refine Qau (C:=fun (s:Int)=>QkS Γ rv a capacity s) (D:=fun (e:(Unit)⊕(Bool))=>sel e (fun e=>QjR Γ rv a capacity) (fun e=>e=rv)) ?_ h hD
 clear h hD s e
 intro i z_ h hI hE
 replace h:Qcp a capacity i=_:=h
 unfold Qcp at h
 rcases Qah h with ⟨h1,h⟩|⟨h1,h⟩
 ·obtain ⟨x0,h2,h⟩:=Qaf h
  obtain ⟨x1,h3,h⟩:=Qaf h
  rcases Qah h with ⟨h4,h⟩|⟨h4,h⟩
  ·obtain rfl:=(hE _ (oJ h):_=rv)
   exact gr 12 [] [nL e_i64 a,bT h1,hH (.draw 9 []),cE e_i64 h2,cE e_i64 h3,bT h4]
  ·exact gn 14 [0,1,5] [] [nL e_i64 a,bT h1,hH (.draw 9 []),cE e_i64 h2,cE e_i64 h3,bF h4] (hI _ (oJ h))
 ·exact gn 5 [] [] [nL e_i64 a,bF h1] (hE _ (oJ h))
theorem Qef {a capacity} {rv:Bool} (h:Qd5 a capacity=some rv):AFn Tryz.prog 35 [.one (lL 1 a e_i64),.one (lL 1 capacity e_i64)] [] (one (.bool rv)) []:=by
 refine QaK Tryz.func35 (by kernel_rfl) (by kernel_rfl) (fun Γ=>?_)
 unfold Qd5 at h
 rcases Qah h with ⟨h0,h⟩|⟨h0,h⟩
 ·obtain rfl:=Option.some.inj h
  exact gr 8 [] [nL e_i64 a,nL e_i64 capacity,bT h0]
 ·obtain ⟨e0,h5,h⟩:=Qaf h
  refine gn 12 [0,1,5] [] [nL e_i64 a,nL e_i64 capacity,bF h0] (Qo6 Γ rv h5 ?_)
  rcases e0 with e0|e0
  ·replace h:(some true:Option Bool)=some _:=h
   obtain rfl:=Option.some.inj h
   exact gr 2 [] []
  ·obtain ⟨r,rfl⟩:∃ x,x=e0:=⟨_,rfl⟩
   replace h:(some r:Option Bool)=some _:=h
   exact Option.some.inj h
theorem Qli {x0 l} {rv:List Qad} (h:Qdb x0 l=some rv):AFn Tryz.prog 36 [.agg (Qac.enc x0),.agg (Qad.enc l)] [] (one (lL 9 rv Qad.enc)) []:=by
 refine QaK Tryz.func36 (by kernel_rfl) (by kernel_rfl) (fun Γ=>?_)
 unfold Qdb at h
 obtain ⟨x1,h0,h⟩:=Qaf h
 obtain rfl:=Option.some.inj h
 exact gr 10 [] [hH (.draw 11 []),cE Qai.enc h0,hW 11,hH (.frz 3),rp 2 (oO (Eq.refl ([l,(Qad.mk l.type_ l.visits l.place (addK .i64 l.time x1.rest_) 0 l.miles l.load l.done l.open_)].map Qad.enc).length))]
def QmI (Γ:Gam) (rv:List Qad) (cf:Cf):Prop:=Go Tryz.prog Tryz.f10 [] Γ (one (lL 9 rv Qad.enc)) [] cf
def Qki (Γ:Gam) (rv:List Qad) (x0:Qac) (kind:Int) (x1:Qai) (r1:List Int) (open_:Int) (open_1:Int) (i:Int):Prop:=QmI Γ rv ⟨[.c 1012,.l 1012,.b 0,.c 127],⟨78,[vI 1 kind,vP 3 0 6,vP 7 1 14,vI 8 open_1,vL 9 1 r1 e_i64,vI 10 i],[oX 6 30 (Qac.enc x0),oX 14 79 [.str x1.name,lI x1.count,lI x1.from_,lI x1.to_,lL 1 x1.cap e_i64,lI x1.skills,lI x1.profile,lI open_,lI x1.close,lI x1.drive,lI x1.rest_,lI x1.fixed,lI x1.perMile,lI x1.perTick]]⟩⟩
def Qjq (Γ:Gam) (rv:List Qad) (x0:Qac) (kind:Int) (x1:Qai) (r1:List Int) (open_2:Int) (open_3:Int):Prop:=QmI Γ rv ⟨[.c 127],⟨78,[vI 1 kind,vP 3 0 6,vP 7 1 14,vI 8 open_3],[oX 6 30 (Qac.enc x0),oX 14 79 [.str x1.name,lI x1.count,lI x1.from_,lI x1.to_,lL 1 x1.cap e_i64,lI x1.skills,lI x1.profile,lI open_2,lI x1.close,lI x1.drive,lI x1.rest_,lI x1.fixed,lI x1.perMile,lI x1.perTick]]⟩⟩
theorem Qox (Γ:Gam) (rv:List Qad) {x0 kind x1 r1} {s:Int×Int×Int} {e:Int×Int} (h:loopF (fun s=>QbE x0 kind x1 r1 s.1 s.2.1 s.2.2) s=some e) (hD:Qjq Γ rv x0 kind x1 r1 e.1 e.2):Qki Γ rv x0 kind x1 r1 s.1 s.2.1 s.2.2:=by
 refine Qau (C:=fun (s:Int×Int×Int)=>Qki Γ rv x0 kind x1 r1 s.1 s.2.1 s.2.2) (D:=fun (e:Int×Int)=>Qjq Γ rv x0 kind x1 r1 e.1 e.2) ?_ h hD
 clear h hD s e
 rintro ⟨open_,open_1,i⟩ z_ h hI hE
 replace h:QbE x0 kind x1 r1 open_ open_1 i=_:=h
 unfold QbE at h
 rcases Qah h with ⟨h4,h⟩|⟨h4,h⟩
 ·obtain ⟨x2,h5,h⟩:=Qaf h
  obtain ⟨x3,h6,h⟩:=Qaf h
  rcases Qah h with ⟨h7,h⟩|⟨h7,h⟩
  ·obtain ⟨r2,h8,h⟩:=Qaf h
   exact gn 14 [1,3,7,8,9,10] [0,1] [nL e_i64 r1,bT h4,hH (.draw 11 []),cE e_i64 h5,cE Qag.enc h6,bT h7,cE e_i64 h5,cC (QdS h8)] (hI _ (oJ h))
  ·exact gn 14 [1,3,7,8,9,10] [0,1] [nL e_i64 r1,bT h4,hH (.draw 11 []),cE e_i64 h5,cE Qag.enc h6,bF h7] (hI _ (oJ h))
 ·exact gn 5 [1,3,7,8] [0,1] [nL e_i64 r1,bF h4] (hE _ (oJ h))
theorem Qqq {x0 kind set_} {rv:List Qad} (h:Qgs x0 kind set_=some rv):AFn Tryz.prog 10 [.agg (Qac.enc x0),.one (lI kind),.one (lI set_)] [] (one (lL 9 rv Qad.enc)) []:=by
 refine QaK Tryz.func10 (by kernel_rfl) (by kernel_rfl) (fun Γ=>?_)
 unfold Qgs at h
 obtain ⟨r,h0,h⟩:=Qaf h
 rcases Qah h with ⟨h1,h⟩|⟨h1,h⟩
 ·obtain ⟨x1,h2,h⟩:=Qaf h
  obtain ⟨r1,h3,h⟩:=Qaf h
  obtain ⟨e0,h9,h⟩:=Qaf h
  refine gn 18 [1,3,7,8,9,10] [0,1] [cC (QnD h0),nF h1,cE Qai.enc h2,cC (QgO h3)] (Qox Γ rv h9 ?_)
  obtain ⟨open_2,open_3⟩:=e0
  replace h:(bnd (QfR x0.orders open_3 (lenI x1.cap)) fun r3=>br (neI r3.2 0) (some []) (bnd (Qd5 r3.1 x1.cap) fun r4=>br r4 (bnd (Qdb x0 (Qad.mk kind [] x1.from_ open_2 0 0 r3.1 0 open_3)) fun r5=>some r5) (some [])):Option (List Qad))=some _:=h
  obtain ⟨r3,h10,h⟩:=Qaf h
  rcases Qah h with ⟨h11,h⟩|⟨h11,h⟩
  ·obtain rfl:=Option.some.inj h
   exact gr 8 [] [nL e_i64 x1.cap,cC (QiB h10),rp 6 (bT h11),tT,hW 3,hH (.nilS 6 0 9)]
  ·obtain ⟨r4,h12,h⟩:=Qaf h
   rcases Qah h with ⟨h13,h⟩|⟨h13,h⟩
   ·obtain ⟨r5,h14,h⟩:=Qaf h
    obtain rfl:=Option.some.inj h
    exact gr 9 [] [nL e_i64 x1.cap,cC (QiB h10),rp 4 (bF h11),cC (Qef h12),rp 2 (bF h11),nF h13,hW 12,hH (.nilS 76 1 2),cC (Qli h14)]
   ·obtain rfl:=Option.some.inj h
    exact gr 8 [] [nL e_i64 x1.cap,cC (QiB h10),rp 4 (bF h11),cC (Qef h12),rp 2 (bF h11),nT h13,hW 3,hH (.nilS 6 0 9)]
 ·obtain rfl:=Option.some.inj h
  exact gr 8 [] [cC (QnD h0),nT h1,hW 3,hH (.nilS 6 0 9)]
def Qha (Γ:Gam) (rv:Bool) (cf:Cf):Prop:=Go Tryz.prog Tryz.f37 [] Γ (one (.bool rv)) [] cf
def Qk9 (Γ:Gam) (rv:Bool) (a:Qad) (b:Qad) (i:Int):Prop:=Qha Γ rv ⟨[.c 116,.l 116,.b 0,.c 15],⟨106,[vP 2 0 9,vP 3 1 9,vI 5 i],[oX 9 49 (Qad.enc a),oX 9 49 (Qad.enc b)]⟩⟩
def Qkg (Γ:Gam) (rv:Bool) (a:Qad) (b:Qad):Prop:=Qha Γ rv ⟨[.c 15],⟨106,[vP 2 0 9,vP 3 1 9],[oX 9 49 (Qad.enc a),oX 9 49 (Qad.enc b)]⟩⟩
def Qla (Γ:Gam) (rv:Bool) (a:Qad) (b:Qad) (i1:Int):Prop:=Qha Γ rv ⟨[.c 244,.l 244,.b 2,.c 31],⟨106,[vP 2 0 9,vP 3 1 9,vI 6 i1],[oX 9 49 (Qad.enc a),oX 9 49 (Qad.enc b)]⟩⟩
def Qkh (Γ:Gam) (rv:Bool) (a:Qad) (b:Qad):Prop:=Qha Γ rv ⟨[.c 31],⟨106,[vP 2 0 9,vP 3 1 9],[oX 9 49 (Qad.enc a),oX 9 49 (Qad.enc b)]⟩⟩
theorem Qph (Γ:Gam) (rv:Bool) {a b} {s:Int} {e:(Unit)⊕(Bool)} (h:loopF (fun s=>Qek a b s) s=some e) (hD:sel e (fun e=>Qkg Γ rv a b) (fun e=>e=rv)):Qk9 Γ rv a b s:=by
 refine Qau (C:=fun (s:Int)=>Qk9 Γ rv a b s) (D:=fun (e:(Unit)⊕(Bool))=>sel e (fun e=>Qkg Γ rv a b) (fun e=>e=rv)) ?_ h hD
 clear h hD s e
 intro i z_ h hI hE
 replace h:Qek a b i=_:=h
 unfold Qek at h
 rcases Qah h with ⟨h1,h⟩|⟨h1,h⟩
 ·obtain ⟨x0,h2,h⟩:=Qaf h
  obtain ⟨x1,h3,h⟩:=Qaf h
  rcases Qah h with ⟨h4,h⟩|⟨h4,h⟩
  ·exact gn 14 [2,3,5] [0,1] [nL Qaa.enc a.visits,bT h1,hH (.draw 11 []),cE Qaa.enc h2,cE Qaa.enc h3,nF h4] (hI _ (oJ h))
  ·obtain rfl:=(hE _ (oJ h):_=rv)
   exact gr 12 [] [nL Qaa.enc a.visits,bT h1,hH (.draw 11 []),cE Qaa.enc h2,cE Qaa.enc h3,nT h4]
 ·exact gn 5 [2,3] [0,1] [nL Qaa.enc a.visits,bF h1] (hE _ (oJ h))
theorem Qpi (Γ:Gam) (rv:Bool) {a b} {s:Int} {e:(Unit)⊕(Bool)} (h:loopF (fun s=>Qdm a b s) s=some e) (hD:sel e (fun e=>Qkh Γ rv a b) (fun e=>e=rv)):Qla Γ rv a b s:=by
 refine Qau (C:=fun (s:Int)=>Qla Γ rv a b s) (D:=fun (e:(Unit)⊕(Bool))=>sel e (fun e=>Qkh Γ rv a b) (fun e=>e=rv)) ?_ h hD
 clear h hD s e
 intro i1 z_ h hI hE
 replace h:Qdm a b i1=_:=h
 unfold Qdm at h
 rcases Qah h with ⟨h6,h⟩|⟨h6,h⟩
 ·obtain ⟨x2,h7,h⟩:=Qaf h
  obtain ⟨x3,h8,h⟩:=Qaf h
  rcases Qah h with ⟨h9,h⟩|⟨h9,h⟩
  ·obtain rfl:=(hE _ (oJ h):_=rv)
   exact gr 12 [] [nL e_i64 a.load,bT h6,hH (.draw 11 []),cE e_i64 h7,cE e_i64 h8,bT h9]
  ·exact gn 14 [2,3,6] [0,1] [nL e_i64 a.load,bT h6,hH (.draw 11 []),cE e_i64 h7,cE e_i64 h8,bF h9] (hI _ (oJ h))
 ·exact gn 5 [2,3] [0,1] [nL e_i64 a.load,bF h6] (hE _ (oJ h))
theorem QmH {a b} {rv:Bool} (h:QfT a b=some rv):AFn Tryz.prog 37 [.agg (Qad.enc a),.agg (Qad.enc b)] [] (one (.bool rv)) []:=by
 refine QaK Tryz.func37 (by kernel_rfl) (by kernel_rfl) (fun Γ=>?_)
 unfold QfT at h
 rcases Qah h with ⟨h0,h⟩|⟨h0,h⟩
 ·obtain rfl:=Option.some.inj h
  exact gr 8 [] [nL Qaa.enc a.visits,nL Qaa.enc b.visits,hP,hP,hP,rp 2 (oI ((neI (lenI a.visits) (lenI b.visits))=false)),nL e_i64 a.load,hP,hP,hP,rp 2 (oI ((neI (lenI a.visits) (lenI b.visits))=false)),nL e_i64 b.load,hP,hP,rp 2 (oI ((neI (lenI a.visits) (lenI b.visits))=false)),oR True ((neI (lenI a.visits) (lenI b.visits))=false),bT h0]
 ·obtain ⟨e0,h5,h⟩:=Qaf h
  refine gn 12 [2,3,5] [0,1] [nL Qaa.enc a.visits,nL Qaa.enc b.visits,hP,hP,hP,rp 2 (oI ((neI (lenI a.visits) (lenI b.visits))=false)),nL e_i64 a.load,hP,hP,hP,rp 2 (oI ((neI (lenI a.visits) (lenI b.visits))=false)),nL e_i64 b.load,hP,hP,rp 2 (oI ((neI (lenI a.visits) (lenI b.visits))=false)),oR True ((neI (lenI a.visits) (lenI b.visits))=false),bF h0] (Qph Γ rv h5 ?_)
  rcases e0 with e0|e0
  ·replace h:(bnd (loopF (fun s=>Qdm a b s) 0) (fun e=>sel e (fun (_:Unit)=>some (((((((eqI a.type_ b.type_)&&(eqI a.place b.place))&&(eqI a.time b.time))&&(eqI a.driven b.driven))&&(eqI a.miles b.miles))&&(eqI a.done b.done))&&(eqI a.open_ b.open_))) (fun r=>some r)):Option Bool)=some _:=h
   obtain ⟨e1,h10,h⟩:=Qaf h
   refine gn 5 [2,3,6] [0,1] [] (Qpi Γ rv h10 ?_)
   rcases e1 with e1|e1
   ·replace h:(some (((((((eqI a.type_ b.type_)&&(eqI a.place b.place))&&(eqI a.time b.time))&&(eqI a.driven b.driven))&&(eqI a.miles b.miles))&&(eqI a.done b.done))&&(eqI a.open_ b.open_)):Option Bool)=some _:=h
    obtain rfl:=Option.some.inj h
    exact gr 2 [] [rp 36 hP,rp 4 (oI ((eqI a.type_ b.type_)=true)),oR True ((eqI a.type_ b.type_)=true),rp 4 (oI (((eqI a.type_ b.type_)&&(eqI a.place b.place))=true)),oR True (((eqI a.type_ b.type_)&&(eqI a.place b.place))=true),rp 4 (oI ((((eqI a.type_ b.type_)&&(eqI a.place b.place))&&(eqI a.time b.time))=true)),oR True ((((eqI a.type_ b.type_)&&(eqI a.place b.place))&&(eqI a.time b.time))=true),rp 4 (oI (((((eqI a.type_ b.type_)&&(eqI a.place b.place))&&(eqI a.time b.time))&&(eqI a.driven b.driven))=true)),oR True (((((eqI a.type_ b.type_)&&(eqI a.place b.place))&&(eqI a.time b.time))&&(eqI a.driven b.driven))=true),rp 4 (oI ((((((eqI a.type_ b.type_)&&(eqI a.place b.place))&&(eqI a.time b.time))&&(eqI a.driven b.driven))&&(eqI a.miles b.miles))=true)),oR True ((((((eqI a.type_ b.type_)&&(eqI a.place b.place))&&(eqI a.time b.time))&&(eqI a.driven b.driven))&&(eqI a.miles b.miles))=true),rp 4 (oI (((((((eqI a.type_ b.type_)&&(eqI a.place b.place))&&(eqI a.time b.time))&&(eqI a.driven b.driven))&&(eqI a.miles b.miles))&&(eqI a.done b.done))=true)),oR True (((((((eqI a.type_ b.type_)&&(eqI a.place b.place))&&(eqI a.time b.time))&&(eqI a.driven b.driven))&&(eqI a.miles b.miles))&&(eqI a.done b.done))=true)]
   ·obtain ⟨r,rfl⟩:∃ x,x=e1:=⟨_,rfl⟩
    replace h:(some r:Option Bool)=some _:=h
    exact Option.some.inj h
  ·obtain ⟨r1,rfl⟩:∃ x,x=e0:=⟨_,rfl⟩
   replace h:(some r1:Option Bool)=some _:=h
   exact Option.some.inj h
theorem QlB {a} {rv:Qad} (h:QhJ a=some rv):AFn Tryz.prog 38 [.agg (Qae.enc a)] [] (gG [lI rv.type_,lL 2 rv.visits Qaa.enc,lI rv.place,lI rv.time,lI rv.driven,lI rv.miles,lL 1 rv.load e_i64,lI rv.done,lI rv.open_]) []:=by
 refine QaK Tryz.func38 (by kernel_rfl) (by kernel_rfl) (fun Γ=>?_)
 unfold QhJ at h
 obtain rfl:=Option.some.inj h
 exact gr 4 [] []
def Qnt (Γ:Gam) (rv:Bool) (cf:Cf):Prop:=Go Tryz.prog Tryz.f11 [] Γ (one (.bool rv)) [] cf
def QkM (Γ:Gam) (rv:Bool) (a:List Qae) (b:List Qad) (i:Int):Prop:=Qnt Γ rv ⟨[.c 116,.l 116,.b 0,.c 15],⟨28,[vL 0 9 a Qae.enc,vL 1 9 b Qad.enc,vI 5 i],[]⟩⟩
def QjO (Γ:Gam) (rv:Bool) (a:List Qae) (b:List Qad):Prop:=Qnt Γ rv ⟨[.c 15],⟨28,[],[]⟩⟩
theorem Qo3 (Γ:Gam) (rv:Bool) {a b} {s:Int} {e:(Unit)⊕(Bool)} (h:loopF (fun s=>Qco a b s) s=some e) (hD:sel e (fun e=>QjO Γ rv a b) (fun e=>e=rv)):QkM Γ rv a b s:=by
 refine Qau (C:=fun (s:Int)=>QkM Γ rv a b s) (D:=fun (e:(Unit)⊕(Bool))=>sel e (fun e=>QjO Γ rv a b) (fun e=>e=rv)) ?_ h hD
 clear h hD s e
 intro i z_ h hI hE
 replace h:Qco a b i=_:=h
 unfold Qco at h
 rcases Qah h with ⟨h1,h⟩|⟨h1,h⟩
 ·obtain ⟨x0,h2,h⟩:=Qaf h
  obtain ⟨r,h3,h⟩:=Qaf h
  obtain ⟨x1,h4,h⟩:=Qaf h
  obtain ⟨r1,h5,h⟩:=Qaf h
  rcases Qah h with ⟨h6,h⟩|⟨h6,h⟩
  ·exact gn 14 [0,1,5] [] [nL Qae.enc a,bT h1,hH (.draw 11 []),cE Qae.enc h2,cC (QlB h3),cE Qad.enc h4,cC (QmH h5),nF h6] (hI _ (oJ h))
  ·obtain rfl:=(hE _ (oJ h):_=rv)
   exact gr 12 [] [nL Qae.enc a,bT h1,hH (.draw 11 []),cE Qae.enc h2,cC (QlB h3),cE Qad.enc h4,cC (QmH h5),nT h6]
 ·exact gn 5 [] [] [nL Qae.enc a,bF h1] (hE _ (oJ h))
theorem Qmr {a b} {rv:Bool} (h:Qd4 a b=some rv):AFn Tryz.prog 11 [.one (lL 9 a Qae.enc),.one (lL 9 b Qad.enc)] [] (one (.bool rv)) []:=by
 refine QaK Tryz.func11 (by kernel_rfl) (by kernel_rfl) (fun Γ=>?_)
 unfold Qd4 at h
 rcases Qah h with ⟨h0,h⟩|⟨h0,h⟩
 ·obtain rfl:=Option.some.inj h
  exact gr 8 [] [nL Qae.enc a,nL Qad.enc b,bT h0]
 ·obtain ⟨e0,h7,h⟩:=Qaf h
  refine gn 12 [0,1,5] [] [nL Qae.enc a,nL Qad.enc b,bF h0] (Qo3 Γ rv h7 ?_)
  rcases e0 with e0|e0
  ·replace h:(some true:Option Bool)=some _:=h
   obtain rfl:=Option.some.inj h
   exact gr 2 [] []
  ·obtain ⟨r2,rfl⟩:∃ x,x=e0:=⟨_,rfl⟩
   replace h:(some r2:Option Bool)=some _:=h
   exact Option.some.inj h
theorem QbY {n p} {rv:Bool} (h:QeZ n p=some rv):AFn Tryz.prog 83 [.agg (Qal.enc n),.one (lI p)] [] (one (.bool rv)) []:=by
 refine QaK Tryz.func83 (by kernel_rfl) (by kernel_rfl) (fun Γ=>?_)
 unfold QeZ at h
 obtain rfl:=Option.some.inj h
 exact gr 4 [] [rp 4 hP,rp 2 (oI ((geI p 0)=true)),nL e_str n.places,hP,hP,rp 2 (oI ((geI p 0)=true)),oR True ((geI p 0)=true)]
def Qnz (Γ:Gam) (rv:Qao×Bool) (cf:Cf):Prop:=Go Tryz.prog Tryz.f84 [] Γ (.tup [.agg [lI rv.1.from_,lI rv.1.to_,lI rv.1.profile,lI rv.1.miles,lL 2 rv.1.travel Qak.enc,lL 2 rv.1.slow Qak.enc],.one (.bool rv.2)]) [] cf
def QkX (Γ:Gam) (rv:Qao×Bool) (n:Qal) (profile:Int) (from_:Int) (to_:Int) (i:Int):Prop:=Qnz Γ rv ⟨[.c 52,.l 52,.b 0,.c 7],⟨42,[vI 1 profile,vI 2 from_,vI 3 to_,vP 4 0 2,vP 8 1 6,vI 10 i],[oX 2 25 (Qal.enc n),oX 6 77 [lI 0,lI 0,lI 0,lI 0,.nils,.nils]]⟩⟩
def QjV (Γ:Gam) (rv:Qao×Bool) (n:Qal) (profile:Int) (from_:Int) (to_:Int):Prop:=Qnz Γ rv ⟨[.c 7],⟨42,[vP 8 0 6],[oX 6 77 [lI 0,lI 0,lI 0,lI 0,.nils,.nils]]⟩⟩
theorem Qo8 (Γ:Gam) (rv:Qao×Bool) {n profile from_ to_} {s:Int} {e:(Unit)⊕(Qao×Bool)} (h:loopF (fun s=>Qeg n profile from_ to_ s) s=some e) (hD:sel e (fun e=>QjV Γ rv n profile from_ to_) (fun e=>e=rv)):QkX Γ rv n profile from_ to_ s:=by
 refine Qau (C:=fun (s:Int)=>QkX Γ rv n profile from_ to_ s) (D:=fun (e:(Unit)⊕(Qao×Bool))=>sel e (fun e=>QjV Γ rv n profile from_ to_) (fun e=>e=rv)) ?_ h hD
 clear h hD s e
 intro i z_ h hI hE
 replace h:Qeg n profile from_ to_ i=_:=h
 unfold Qeg at h
 rcases Qah h with ⟨h0,h⟩|⟨h0,h⟩
 ·obtain ⟨x0,h1,h⟩:=Qaf h
  rcases Qah h with ⟨h2,h⟩|⟨h2,h⟩
  ·obtain rfl:=(hE _ (oJ h):_=rv)
   exact gr 14 [] [nL Qao.enc n.arcs,bT h0,cE Qao.enc h1,rp 10 hP,rp 3 (oI ((eqI x0.from_ from_)=true)),oR True ((eqI x0.from_ from_)=true),rp 3 (oI (((eqI x0.from_ from_)&&(eqI x0.to_ to_))=true)),oR True (((eqI x0.from_ from_)&&(eqI x0.to_ to_))=true),bT h2]
  ·exact gn 16 [1,2,3,4,8,10] [0,1] [nL Qao.enc n.arcs,bT h0,cE Qao.enc h1,rp 10 hP,rp 3 (oI ((eqI x0.from_ from_)=true)),oR True ((eqI x0.from_ from_)=true),rp 3 (oI (((eqI x0.from_ from_)&&(eqI x0.to_ to_))=true)),oR True (((eqI x0.from_ from_)&&(eqI x0.to_ to_))=true),bF h2] (hI _ (oJ h))
 ·exact gn 5 [8] [1] [nL Qao.enc n.arcs,bF h0] (hE _ (oJ h))
theorem Qmu {n profile from_ to_} {rv:Qao×Bool} (h:QgZ n profile from_ to_=some rv):AFn Tryz.prog 84 [.agg (Qal.enc n),.one (lI profile),.one (lI from_),.one (lI to_)] [] (.tup [.agg [lI rv.1.from_,lI rv.1.to_,lI rv.1.profile,lI rv.1.miles,lL 2 rv.1.travel Qak.enc,lL 2 rv.1.slow Qak.enc],.one (.bool rv.2)]) []:=by
 refine QaK Tryz.func84 (by kernel_rfl) (by kernel_rfl) (fun Γ=>?_)
 unfold QgZ at h
 obtain ⟨e0,h3,h⟩:=Qaf h
 refine gn 7 [1,2,3,4,8,10] [0,1] [] (Qo8 Γ rv h3 ?_)
 rcases e0 with e0|e0
 ·replace h:(some ((Qao.mk 0 0 0 0 [] []),false):Option (Qao×Bool))=some _:=h
  obtain rfl:=Option.some.inj h
  exact gr 2 [] [hW 5,hH (.nilB 0 4 2),hH (.nilB 0 5 2)]
 ·obtain ⟨r,rfl⟩:∃ x,x=e0:=⟨_,rfl⟩
  replace h:(some r:Option (Qao×Bool))=some _:=h
  exact Option.some.inj h
def QlI (Γ:Gam) (rv:Int) (cf:Cf):Prop:=Go Tryz.prog Tryz.f116 [] Γ (one (lI rv)) [] cf
def QiL (Γ:Gam) (rv:Int) (l:List Qak) (t:Int) (i:Int):Prop:=QlI Γ rv ⟨[.c 116,.l 116,.b 0,.c 15],⟨93,[vL 0 2 l Qak.enc,vI 1 t,vI 5 i],[]⟩⟩
def Qid (Γ:Gam) (rv:Int) (l:List Qak) (t:Int):Prop:=QlI Γ rv ⟨[.c 15],⟨93,[vL 0 2 l Qak.enc,vI 1 t],[]⟩⟩
theorem QnQ (Γ:Gam) (rv:Int) {l t} {s:Int} {e:(Unit)⊕(Int)} (h:loopF (fun s=>Qdi l t s) s=some e) (hD:sel e (fun e=>Qid Γ rv l t) (fun e=>e=rv)):QiL Γ rv l t s:=by
 refine Qau (C:=fun (s:Int)=>QiL Γ rv l t s) (D:=fun (e:(Unit)⊕(Int))=>sel e (fun e=>Qid Γ rv l t) (fun e=>e=rv)) ?_ h hD
 clear h hD s e
 intro i z_ h hI hE
 replace h:Qdi l t i=_:=h
 unfold Qdi at h
 rcases Qah h with ⟨h2,h⟩|⟨h2,h⟩
 ·obtain ⟨x0,h3,h⟩:=Qaf h
  obtain ⟨x1,h4,h⟩:=Qaf h
  rcases Qah h with ⟨h5,h⟩|⟨h5,h⟩
  ·obtain ⟨h6,h⟩:=Qar h
   obtain rfl:=(hE _ (oJ h):_=rv)
   exact gr 16 [] [nL Qak.enc l,bT h2,cE Qak.enc h3,cE Qak.enc h4,rp 5 hP,rp 3 (oI ((leI x0.t t)=true)),oR True ((leI x0.t t)=true),bT h5,hH (.draw 27 []),oO (h6)]
  ·exact gn 18 [0,1,5] [] [nL Qak.enc l,bT h2,cE Qak.enc h3,cE Qak.enc h4,rp 5 hP,rp 3 (oI ((leI x0.t t)=true)),oR True ((leI x0.t t)=true),bF h5] (hI _ (oJ h))
 ·exact gn 5 [0,1] [] [nL Qak.enc l,bF h2] (hE _ (oJ h))
theorem QpP {l t} {rv:Int} (h:QfI l t=some rv):AFn Tryz.prog 116 [.one (lL 2 l Qak.enc),.one (lI t)] [] (one (lI rv)) []:=by
 refine QaK Tryz.func116 (by kernel_rfl) (by kernel_rfl) (fun Γ=>?_)
 unfold QfI at h
 obtain ⟨r,h0,h⟩:=Qaf h
 rcases Qah h with ⟨h1,h⟩|⟨h1,h⟩
 ·obtain rfl:=Option.some.inj h
  exact gr 8 [] [cC (QhO h0),nL Qab.enc r,rp 6 hP,oI ((gtI (lenI r) 0)=false),oR True ((gtI (lenI r) 0)=false),oI (((gtI (lenI r) 0)||(ltI t 0))=false),oR True (((gtI (lenI r) 0)||(ltI t 0))=false),bT h1]
 ·obtain ⟨e0,h7,h⟩:=Qaf h
  refine gn 12 [0,1,5] [] [cC (QhO h0),nL Qab.enc r,rp 6 hP,oI ((gtI (lenI r) 0)=false),oR True ((gtI (lenI r) 0)=false),oI (((gtI (lenI r) 0)||(ltI t 0))=false),oR True (((gtI (lenI r) 0)||(ltI t 0))=false),bF h1] (QnQ Γ rv h7 ?_)
  rcases e0 with e0|e0
  ·replace h:(bnd (getI l 0) fun x2=>br (gtI t x2.t) (bnd (getI l (subK .i64 (lenI l) 1)) fun x3=>some (subK .i64 (addK .i64 t x3.a) x3.t)) (some (subK .i64 (addK .i64 t x2.a) x2.t)):Option Int)=some _:=h
   obtain ⟨x2,h8,h⟩:=Qaf h
   rcases Qah h with ⟨h9,h⟩|⟨h9,h⟩
   ·obtain ⟨x3,h10,h⟩:=Qaf h
    obtain rfl:=Option.some.inj h
    exact gr 9 [] [cE Qak.enc h8,bT h9,nL Qak.enc l,cE Qak.enc h10]
   ·obtain rfl:=Option.some.inj h
    exact gr 9 [] [cE Qak.enc h8,bF h9]
  ·obtain ⟨r1,rfl⟩:∃ x,x=e0:=⟨_,rfl⟩
   replace h:(some r1:Option Int)=some _:=h
   exact Option.some.inj h
def QlK (Γ:Gam) (rv:Int) (cf:Cf):Prop:=Go Tryz.prog Tryz.f85 [] Γ (one (lI rv)) [] cf
def QiO (Γ:Gam) (rv:Int) (a:Qao) (t:Int) (n:Int) (i:Int):Prop:=QlK Γ rv ⟨[.c 116,.l 116,.b 0,.c 15],⟨35,[vI 1 t,vP 2 0 6,vI 5 n,vI 6 i],[oX 6 77 (Qao.enc a)]⟩⟩
def Qie (Γ:Gam) (rv:Int) (a:Qao) (t:Int) (n1:Int):Prop:=QlK Γ rv ⟨[.c 15],⟨35,[vI 5 n1],[]⟩⟩
theorem QnR (Γ:Gam) (rv:Int) {a t} {s:Int×Int} {e:Int} (h:loopF (fun s=>Qft a t s.1 s.2) s=some e) (hD:Qie Γ rv a t e):QiO Γ rv a t s.1 s.2:=by
 refine Qau (C:=fun (s:Int×Int)=>QiO Γ rv a t s.1 s.2) (D:=fun (e:Int)=>Qie Γ rv a t e) ?_ h hD
 clear h hD s e
 rintro ⟨n,i⟩ z_ h hI hE
 replace h:Qft a t n i=_:=h
 unfold Qft at h
 rcases Qah h with ⟨h1,h⟩|⟨h1,h⟩
 ·obtain ⟨x0,h2,h⟩:=Qaf h
  rcases Qah h with ⟨h3,h⟩|⟨h3,h⟩
  ·exact gn 14 [1,2,5,6] [0] [nL Qak.enc a.slow,bT h1,cE Qak.enc h2,bT h3,cE Qak.enc h2] (hI _ (oJ h))
  ·exact gn 14 [1,2,5,6] [0] [nL Qak.enc a.slow,bT h1,cE Qak.enc h2,bF h3] (hI _ (oJ h))
 ·exact gn 5 [5] [] [nL Qak.enc a.slow,bF h1] (hE _ (oJ h))
theorem QpQ {a t} {rv:Int} (h:QfK a t=some rv):AFn Tryz.prog 85 [.agg (Qao.enc a),.one (lI t)] [] (one (lI rv)) []:=by
 refine QaK Tryz.func85 (by kernel_rfl) (by kernel_rfl) (fun Γ=>?_)
 unfold QfK at h
 obtain ⟨r,h0,h⟩:=Qaf h
 obtain ⟨e0,h4,h⟩:=Qaf h
 refine gn 9 [1,2,5,6] [0] [cC (QpP h0)] (QnR Γ rv h4 ?_)
 obtain ⟨n1,rfl⟩:∃ x,x=e0:=⟨_,rfl⟩
 replace h:(some n1:Option Int)=some _:=h
 obtain rfl:=Option.some.inj h
 exact gr 2 [] []
theorem QeY {n profile from_ to_ t} {rv:Int×Int×Int} (h:Qfj n profile from_ to_ t=some rv):AFn Tryz.prog 42 [.agg (Qal.enc n),.one (lI profile),.one (lI from_),.one (lI to_),.one (lI t)] [] (.tup [.one (lI rv.1),.one (lI rv.2.1),.one (lI rv.2.2)]) []:=by
 refine QaK Tryz.func42 (by kernel_rfl) (by kernel_rfl) (fun Γ=>?_)
 unfold Qfj at h
 obtain ⟨r,h0,h⟩:=Qaf h
 rcases Qah h with ⟨h1,h⟩|⟨h1,h⟩
 ·obtain ⟨r1,h2,h⟩:=Qaf h
  rcases Qah h with ⟨h3,h⟩|⟨h3,h⟩
  ·rcases Qah h with ⟨h4,h⟩|⟨h4,h⟩
   ·obtain rfl:=Option.some.inj h
    exact gr 13 [] [cC (QbY h0),rp 3 (nF h1),cC (QbY h2),nF h1,nF h1,nF h3,bT h4]
   ·obtain ⟨r2,h5,h⟩:=Qaf h
    rcases Qah h with ⟨h6,h⟩|⟨h6,h⟩
    ·obtain ⟨r3,h7,h⟩:=Qaf h
     obtain rfl:=Option.some.inj h
     exact gr 21 [] [cC (QbY h0),rp 3 (nF h1),cC (QbY h2),nF h1,nF h1,nF h3,bF h4,cC (Qmu h5),nF h6,hH (.draw 8 []),cC (QpQ h7)]
    ·obtain rfl:=Option.some.inj h
     exact gr 20 [] [cC (QbY h0),rp 3 (nF h1),cC (QbY h2),nF h1,nF h1,nF h3,bF h4,cC (Qmu h5),nT h6]
  ·obtain rfl:=Option.some.inj h
   exact gr 8 [] [cC (QbY h0),rp 3 (nF h1),cC (QbY h2),nF h1,nF h1,nT h3]
 ·obtain rfl:=Option.some.inj h
  exact gr 8 [] [cC (QbY h0),rp 5 (nT h1),tT]
def QlP (Γ:Gam) (rv:Bool) (cf:Cf):Prop:=Go Tryz.prog Tryz.f86 [] Γ (one (.bool rv)) [] cf
def Qjo (Γ:Gam) (rv:Bool) (l:List Qaa) (at_:Int) (i:Int):Prop:=QlP Γ rv ⟨[.c 52,.l 52,.b 0,.c 7],⟨22,[vL 0 2 l Qaa.enc,vI 1 at_,vI 5 i],[]⟩⟩
def Qip (Γ:Gam) (rv:Bool) (l:List Qaa) (at_:Int):Prop:=QlP Γ rv ⟨[.c 7],⟨22,[],[]⟩⟩
theorem QnV (Γ:Gam) (rv:Bool) {l at_} {s:Int} {e:(Unit)⊕(Bool)} (h:loopF (fun s=>QbM l at_ s) s=some e) (hD:sel e (fun e=>Qip Γ rv l at_) (fun e=>e=rv)):Qjo Γ rv l at_ s:=by
 refine Qau (C:=fun (s:Int)=>Qjo Γ rv l at_ s) (D:=fun (e:(Unit)⊕(Bool))=>sel e (fun e=>Qip Γ rv l at_) (fun e=>e=rv)) ?_ h hD
 clear h hD s e
 intro i z_ h hI hE
 replace h:QbM l at_ i=_:=h
 unfold QbM at h
 rcases Qah h with ⟨h0,h⟩|⟨h0,h⟩
 ·obtain ⟨x0,h1,h⟩:=Qaf h
  obtain ⟨x1,h2,h⟩:=Qaf h
  rcases Qah h with ⟨h3,h⟩|⟨h3,h⟩
  ·obtain rfl:=(hE _ (oJ h):_=rv)
   exact gr 12 [] [bT h0,hH (.draw 11 []),cE Qaa.enc h1,cE Qaa.enc h2,bT h3]
  ·exact gn 14 [0,1,5] [] [bT h0,hH (.draw 11 []),cE Qaa.enc h1,cE Qaa.enc h2,bF h3] (hI _ (oJ h))
 ·exact gn 5 [] [] [bF h0] (hE _ (oJ h))
theorem Qdl {l at_} {rv:Bool} (h:QfN l at_=some rv):AFn Tryz.prog 86 [.one (lL 2 l Qaa.enc),.one (lI at_)] [] (one (.bool rv)) []:=by
 refine QaK Tryz.func86 (by kernel_rfl) (by kernel_rfl) (fun Γ=>?_)
 unfold QfN at h
 obtain ⟨e0,h4,h⟩:=Qaf h
 refine gn 7 [0,1,5] [] [] (QnV Γ rv h4 ?_)
 rcases e0 with e0|e0
 ·replace h:(some true:Option Bool)=some _:=h
  obtain rfl:=Option.some.inj h
  exact gr 2 [] []
 ·obtain ⟨r,rfl⟩:∃ x,x=e0:=⟨_,rfl⟩
  replace h:(some r:Option Bool)=some _:=h
  exact Option.some.inj h
def QiD (Γ:Gam) (rv:QaL) (cf:Cf):Prop:=Go Tryz.prog Tryz.f43 [] Γ (gG [lI rv.cost,lI rv.moved,lI rv.other,lI rv.work]) [] cf
def QgS (Γ:Gam) (rv:QaL) (x0:Qac) (r:QaF) (s0:Qa0) (x1:Qai) (moved:Int) (other:Int) (i:Int):Prop:=QiD Γ rv ⟨[.c 1012,.l 1012,.b 0,.c 127],⟨128,[vP 3 0 6,vP 4 1 4,vP 6 2 4,vP 9 3 4,vI 10 i],[oX 6 30 (Qac.enc x0),oX 4 66 (QaF.enc r),oX 4 98 [lI 0,lI 0,lI 0,lI 0],oX 4 98 [lI (addK .i64 (addK .i64 x1.fixed (mulK .i64 x1.perMile s0.miles)) (mulK .i64 x1.perTick (subK .i64 s0.end_ x1.open_))),lI moved,lI other,lI (mulK .i64 (quoK .i64 (subK .i64 s0.end_ x1.open_) 64) (quoK .i64 (subK .i64 s0.end_ x1.open_) 64))]]⟩⟩
def Qgq (Γ:Gam) (rv:QaL) (x0:Qac) (r:QaF) (s0:Qa0) (x1:Qai) (moved2:Int) (other1:Int):Prop:=QiD Γ rv ⟨[.c 127],⟨128,[vP 6 0 4,vP 9 1 4],[oX 4 98 [lI 0,lI 0,lI 0,lI 0],oX 4 98 [lI (addK .i64 (addK .i64 x1.fixed (mulK .i64 x1.perMile s0.miles)) (mulK .i64 x1.perTick (subK .i64 s0.end_ x1.open_))),lI moved2,lI other1,lI (mulK .i64 (quoK .i64 (subK .i64 s0.end_ x1.open_) 64) (quoK .i64 (subK .i64 s0.end_ x1.open_) 64))]]⟩⟩
theorem Qjn (Γ:Gam) (rv:QaL) {x0 r s0 x1 other i x2 moved1} {x:(Int×Int×Int)⊕(Int×Int)} (h:QeK x0 r s0 x1 other i x2 moved1=some x) (hI:∀ s:Int×Int×Int,x=.inl s→QgS Γ rv x0 r s0 x1 s.1 s.2.1 s.2.2) (hE:∀ e:Int×Int,x=.inr e→Qgq Γ rv x0 r s0 x1 e.1 e.2):QiD Γ rv ⟨[.c 64807,.b 1,.c 4051,.l 1012,.b 0,.c 127],⟨128,[vP 3 0 6,vP 4 1 4,vP 6 2 4,vP 9 3 4,vI 10 i,vI 11 x2.order],[oX 6 30 (Qac.enc x0),oX 4 66 (QaF.enc r),oX 4 98 [lI 0,lI 0,lI 0,lI 0],oX 4 98 [lI (addK .i64 (addK .i64 x1.fixed (mulK .i64 x1.perMile s0.miles)) (mulK .i64 x1.perTick (subK .i64 s0.end_ x1.open_))),lI moved1,lI other,lI (mulK .i64 (quoK .i64 (subK .i64 s0.end_ x1.open_) 64) (quoK .i64 (subK .i64 s0.end_ x1.open_) 64))]]⟩⟩:=by
 unfold QeK at h
 obtain ⟨x4,h10,h⟩:=Qaf h
 rcases Qah h with ⟨h11,h⟩|⟨h11,h⟩
 ·rcases Qah h with ⟨h12,h⟩|⟨h12,h⟩
  ·exact gn 7 [3,4,6,9,10] [0,1,2,3] [hH (.draw 18 []),cE Qag.enc h10,rp 4 (bT h11),cE Qag.enc h10,rp 6 (bT h11),bT h12] (hI _ (oJ h))
  ·exact gn 7 [3,4,6,9,10] [0,1,2,3] [hH (.draw 18 []),cE Qag.enc h10,rp 4 (bT h11),cE Qag.enc h10,rp 6 (bT h11),bF h12] (hI _ (oJ h))
 ·exact gn 7 [3,4,6,9,10] [0,1,2,3] [hH (.draw 18 []),cE Qag.enc h10,rp 10 (bF h11),fF] (hI _ (oJ h))
theorem Qow (Γ:Gam) (rv:QaL) {x0 r s0 x1} {s:Int×Int×Int} {e:Int×Int} (h:loopF (fun s=>QbD x0 r s0 x1 s.1 s.2.1 s.2.2) s=some e) (hD:Qgq Γ rv x0 r s0 x1 e.1 e.2):QgS Γ rv x0 r s0 x1 s.1 s.2.1 s.2.2:=by
 refine Qau (C:=fun (s:Int×Int×Int)=>QgS Γ rv x0 r s0 x1 s.1 s.2.1 s.2.2) (D:=fun (e:Int×Int)=>Qgq Γ rv x0 r s0 x1 e.1 e.2) ?_ h hD
 clear h hD s e
 rintro ⟨moved,other,i⟩ z_ h hI hE
 replace h:QbD x0 r s0 x1 moved other i=_:=h
 unfold QbD at h
 rcases Qah h with ⟨h2,h⟩|⟨h2,h⟩
 ·obtain ⟨x2,h3,h⟩:=Qaf h
  rcases Qah h with ⟨h4,h⟩|⟨h4,h⟩
  ·exact gn 16 [3,4,6,9,10] [0,1,2,3] [nL Qaa.enc r.visits,bT h2,cE Qaa.enc h3,rp 4 hP,rp 2 (oI ((ltI x2.order 0)=false)),nL Qag.enc x0.orders,hP,hP,rp 2 (oI ((ltI x2.order 0)=false)),oR True ((ltI x2.order 0)=false),rp 6 (bT h4),tT] (hI _ (oJ h))
  ·obtain ⟨r1,h5,h⟩:=Qaf h
   rcases Qah h with ⟨h6,h⟩|⟨h6,h⟩
   ·obtain ⟨x3,h7,h⟩:=Qaf h
    rcases Qah h with ⟨h8,h⟩|⟨h8,h⟩
    ·rcases Qah h with ⟨h9,h⟩|⟨h9,h⟩
     ·exact gn 19 [3,4,6,9,10,11] [0,1,2,3] [nL Qaa.enc r.visits,bT h2,cE Qaa.enc h3,rp 4 hP,rp 2 (oI ((ltI x2.order 0)=false)),nL Qag.enc x0.orders,hP,hP,rp 2 (oI ((ltI x2.order 0)=false)),oR True ((ltI x2.order 0)=false),rp 4 (bF h4),cC (Qdl h5),bF h4,bF h4,nF h6,hH (.draw 18 []),cE Qag.enc h7,rp 4 (bT h8),cE Qag.enc h7,rp 6 (bT h8),bT h9] (Qjn Γ rv h hI hE)
     ·exact gn 19 [3,4,6,9,10,11] [0,1,2,3] [nL Qaa.enc r.visits,bT h2,cE Qaa.enc h3,rp 4 hP,rp 2 (oI ((ltI x2.order 0)=false)),nL Qag.enc x0.orders,hP,hP,rp 2 (oI ((ltI x2.order 0)=false)),oR True ((ltI x2.order 0)=false),rp 4 (bF h4),cC (Qdl h5),bF h4,bF h4,nF h6,hH (.draw 18 []),cE Qag.enc h7,rp 4 (bT h8),cE Qag.enc h7,rp 6 (bT h8),bF h9] (Qjn Γ rv h hI hE)
    ·rcases Qah h with ⟨h13,h⟩|⟨h13,h⟩
     ·rcases Qah h with ⟨h14,h⟩|⟨h14,h⟩
      ·exact gn 26 [3,4,6,9,10] [0,1,2,3] [nL Qaa.enc r.visits,bT h2,cE Qaa.enc h3,rp 4 hP,rp 2 (oI ((ltI x2.order 0)=false)),nL Qag.enc x0.orders,hP,hP,rp 2 (oI ((ltI x2.order 0)=false)),oR True ((ltI x2.order 0)=false),rp 4 (bF h4),cC (Qdl h5),bF h4,bF h4,nF h6,hH (.draw 18 []),cE Qag.enc h7,rp 10 (bF h8),fF,hH (.draw 18 []),cE Qag.enc h7,rp 4 (bT h13),cE Qag.enc h7,rp 6 (bT h13),bT h14] (hI _ (oJ h))
      ·exact gn 26 [3,4,6,9,10] [0,1,2,3] [nL Qaa.enc r.visits,bT h2,cE Qaa.enc h3,rp 4 hP,rp 2 (oI ((ltI x2.order 0)=false)),nL Qag.enc x0.orders,hP,hP,rp 2 (oI ((ltI x2.order 0)=false)),oR True ((ltI x2.order 0)=false),rp 4 (bF h4),cC (Qdl h5),bF h4,bF h4,nF h6,hH (.draw 18 []),cE Qag.enc h7,rp 10 (bF h8),fF,hH (.draw 18 []),cE Qag.enc h7,rp 4 (bT h13),cE Qag.enc h7,rp 6 (bT h13),bF h14] (hI _ (oJ h))
     ·exact gn 26 [3,4,6,9,10] [0,1,2,3] [nL Qaa.enc r.visits,bT h2,cE Qaa.enc h3,rp 4 hP,rp 2 (oI ((ltI x2.order 0)=false)),nL Qag.enc x0.orders,hP,hP,rp 2 (oI ((ltI x2.order 0)=false)),oR True ((ltI x2.order 0)=false),rp 4 (bF h4),cC (Qdl h5),bF h4,bF h4,nF h6,hH (.draw 18 []),cE Qag.enc h7,rp 10 (bF h8),fF,hH (.draw 18 []),cE Qag.enc h7,rp 10 (bF h13),fF] (hI _ (oJ h))
   ·exact gn 16 [3,4,6,9,10] [0,1,2,3] [nL Qaa.enc r.visits,bT h2,cE Qaa.enc h3,rp 4 hP,rp 2 (oI ((ltI x2.order 0)=false)),nL Qag.enc x0.orders,hP,hP,rp 2 (oI ((ltI x2.order 0)=false)),oR True ((ltI x2.order 0)=false),rp 4 (bF h4),cC (Qdl h5),bF h4,bF h4,nT h6] (hI _ (oJ h))
 ·exact gn 5 [6,9] [2,3] [nL Qaa.enc r.visits,bF h2] (hE _ (oJ h))
theorem Qqp {x0 r s0} {rv:QaL} (h:Qfa x0 r s0=some rv):AFn Tryz.prog 43 [.agg (Qac.enc x0),.agg (QaF.enc r),.agg (Qa0.enc s0)] [] (gG [lI rv.cost,lI rv.moved,lI rv.other,lI rv.work]) []:=by
 refine QaK Tryz.func43 (by kernel_rfl) (by kernel_rfl) (fun Γ=>?_)
 unfold Qfa at h
 rcases Qah h with ⟨h0,h⟩|⟨h0,h⟩
 ·obtain rfl:=Option.some.inj h
  exact gr 8 [] [rp 5 hP,rp 3 (oI ((ltI r.type_ 0)=false)),nL Qai.enc x0.types,hP,hP,rp 2 (oI ((ltI r.type_ 0)=false)),oR True ((ltI r.type_ 0)=false),bT h0]
 ·obtain ⟨x1,h1,h⟩:=Qaf h
  obtain ⟨e0,h15,h⟩:=Qaf h
  refine gn 18 [3,4,6,9,10] [0,1,3,5] [rp 5 hP,rp 3 (oI ((ltI r.type_ 0)=false)),nL Qai.enc x0.types,hP,hP,rp 2 (oI ((ltI r.type_ 0)=false)),oR True ((ltI r.type_ 0)=false),bF h0,cE Qai.enc h1,rp 2 (oO (oA (n:=64)))] (Qow Γ rv h15 ?_)
  obtain ⟨moved2,other1⟩:=e0
  replace h:(some (QaL.mk (addK .i64 (addK .i64 x1.fixed (mulK .i64 x1.perMile s0.miles)) (mulK .i64 x1.perTick (subK .i64 s0.end_ x1.open_))) moved2 other1 (mulK .i64 (quoK .i64 (subK .i64 s0.end_ x1.open_) 64) (quoK .i64 (subK .i64 s0.end_ x1.open_) 64))):Option QaL)=some _:=h
  obtain rfl:=Option.some.inj h
  exact gr 2 [] []
theorem QlO {s0} {rv:Bool} (h:Qh0 s0=some rv):AFn Tryz.prog 87 [.agg (QaL.enc s0)] [] (one (.bool rv)) []:=by
 refine QaK Tryz.func87 (by kernel_rfl) (by kernel_rfl) (fun Γ=>?_)
 unfold Qh0 at h
 obtain rfl:=Option.some.inj h
 exact gr 4 [] [rp 28 hP,rp 2 (oI ((geI s0.cost 0)=true)),oR True ((geI s0.cost 0)=true),rp 2 (oI (((geI s0.cost 0)&&(leI s0.cost 1073741824))=true)),oR True (((geI s0.cost 0)&&(leI s0.cost 1073741824))=true),rp 2 (oI ((((geI s0.cost 0)&&(leI s0.cost 1073741824))&&(geI s0.moved 0))=true)),oR True ((((geI s0.cost 0)&&(leI s0.cost 1073741824))&&(geI s0.moved 0))=true),rp 2 (oI (((((geI s0.cost 0)&&(leI s0.cost 1073741824))&&(geI s0.moved 0))&&(leI s0.moved 15))=true)),oR True (((((geI s0.cost 0)&&(leI s0.cost 1073741824))&&(geI s0.moved 0))&&(leI s0.moved 15))=true),rp 2 (oI ((((((geI s0.cost 0)&&(leI s0.cost 1073741824))&&(geI s0.moved 0))&&(leI s0.moved 15))&&(geI s0.other 0))=true)),oR True ((((((geI s0.cost 0)&&(leI s0.cost 1073741824))&&(geI s0.moved 0))&&(leI s0.moved 15))&&(geI s0.other 0))=true),rp 2 (oI (((((((geI s0.cost 0)&&(leI s0.cost 1073741824))&&(geI s0.moved 0))&&(leI s0.moved 15))&&(geI s0.other 0))&&(leI s0.other 15))=true)),oR True (((((((geI s0.cost 0)&&(leI s0.cost 1073741824))&&(geI s0.moved 0))&&(leI s0.moved 15))&&(geI s0.other 0))&&(leI s0.other 15))=true),rp 2 (oI ((((((((geI s0.cost 0)&&(leI s0.cost 1073741824))&&(geI s0.moved 0))&&(leI s0.moved 15))&&(geI s0.other 0))&&(leI s0.other 15))&&(geI s0.work 0))=true)),oR True ((((((((geI s0.cost 0)&&(leI s0.cost 1073741824))&&(geI s0.moved 0))&&(leI s0.moved 15))&&(geI s0.other 0))&&(leI s0.other 15))&&(geI s0.work 0))=true)]
theorem QpT {s0} {rv:Int×Int} (h:QdT s0=some rv):AFn Tryz.prog 44 [.agg (QaL.enc s0)] [] (.tup [.one (lI rv.1),.one (lI rv.2)]) []:=by
 refine QaK Tryz.func44 (by kernel_rfl) (by kernel_rfl) (fun Γ=>?_)
 unfold QdT at h
 rcases Qah h with ⟨h0,h⟩|⟨h0,h⟩
 ·obtain rfl:=Option.some.inj h
  exact gr 8 [] [rp 12 hP,rp 2 (oI ((ltI s0.cost 0)=false)),oR True ((ltI s0.cost 0)=false),rp 2 (oI (((ltI s0.cost 0)||(ltI s0.moved 0))=false)),oR True (((ltI s0.cost 0)||(ltI s0.moved 0))=false),rp 2 (oI ((((ltI s0.cost 0)||(ltI s0.moved 0))||(ltI s0.other 0))=false)),oR True ((((ltI s0.cost 0)||(ltI s0.moved 0))||(ltI s0.other 0))=false),bT h0]
 ·obtain ⟨r,h1,h⟩:=Qaf h
  rcases Qah h with ⟨h2,h⟩|⟨h2,h⟩
  ·obtain rfl:=Option.some.inj h
   exact gr 14 [] [rp 12 hP,rp 2 (oI ((ltI s0.cost 0)=false)),oR True ((ltI s0.cost 0)=false),rp 2 (oI (((ltI s0.cost 0)||(ltI s0.moved 0))=false)),oR True (((ltI s0.cost 0)||(ltI s0.moved 0))=false),rp 2 (oI ((((ltI s0.cost 0)||(ltI s0.moved 0))||(ltI s0.other 0))=false)),oR True ((((ltI s0.cost 0)||(ltI s0.moved 0))||(ltI s0.other 0))=false),bF h0,cC (QlO h1),nF h2]
  ·obtain rfl:=Option.some.inj h
   exact gr 13 [] [rp 12 hP,rp 2 (oI ((ltI s0.cost 0)=false)),oR True ((ltI s0.cost 0)=false),rp 2 (oI (((ltI s0.cost 0)||(ltI s0.moved 0))=false)),oR True (((ltI s0.cost 0)||(ltI s0.moved 0))=false),rp 2 (oI ((((ltI s0.cost 0)||(ltI s0.moved 0))||(ltI s0.other 0))=false)),oR True ((((ltI s0.cost 0)||(ltI s0.moved 0))||(ltI s0.other 0))=false),bF h0,cC (QlO h1),nT h2]
theorem QlQ {x0 l} {rv:Int×Int×Bool} (h:Qgr x0 l=some rv):AFn Tryz.prog 13 [.agg (Qac.enc x0),.agg (Qad.enc l)] [] (.tup [.one (lI rv.1),.one (lI rv.2.1),.one (.bool rv.2.2)]) []:=by
 refine QaK Tryz.func13 (by kernel_rfl) (by kernel_rfl) (fun Γ=>?_)
 unfold Qgr at h
 rcases Qah h with ⟨h0,h⟩|⟨h0,h⟩
 ·obtain rfl:=Option.some.inj h
  exact gr 8 [] [nL Qaa.enc l.visits,rp 4 hP,rp 2 (oI ((eqI (lenI l.visits) 0)=false)),oR True ((eqI (lenI l.visits) 0)=false),bT h0]
 ·obtain ⟨x1,h1,h⟩:=Qaf h
  obtain ⟨r,h2,h⟩:=Qaf h
  rcases Qah h with ⟨h3,h⟩|⟨h3,h⟩
  ·obtain rfl:=Option.some.inj h
   exact gr 17 [] [nL Qaa.enc l.visits,rp 4 hP,rp 2 (oI ((eqI (lenI l.visits) 0)=false)),oR True ((eqI (lenI l.visits) 0)=false),bF h0,cE Qai.enc h1,cC (QeY h2),rp 16 hP,rp 9 (oI ((neI r.2.2 0)=false)),oR True ((neI r.2.2 0)=false),rp 3 (oI (((neI r.2.2 0)||(gtI (subK .i64 (addK .i64 l.driven r.1) l.time) x1.drive))=false)),oR True (((neI r.2.2 0)||(gtI (subK .i64 (addK .i64 l.driven r.1) l.time) x1.drive))=false),bT h3]
  ·obtain ⟨r1,h4,h⟩:=Qaf h
   obtain ⟨r2,h5,h⟩:=Qaf h
   obtain rfl:=Option.some.inj h
   exact gr 22 [] [nL Qaa.enc l.visits,rp 4 hP,rp 2 (oI ((eqI (lenI l.visits) 0)=false)),oR True ((eqI (lenI l.visits) 0)=false),bF h0,cE Qai.enc h1,cC (QeY h2),rp 16 hP,rp 9 (oI ((neI r.2.2 0)=false)),oR True ((neI r.2.2 0)=false),rp 3 (oI (((neI r.2.2 0)||(gtI (subK .i64 (addK .i64 l.driven r.1) l.time) x1.drive))=false)),oR True (((neI r.2.2 0)||(gtI (subK .i64 (addK .i64 l.driven r.1) l.time) x1.drive))=false),bF h3,hW 15,hH (.nilS 69 2 1),hH (.nilS 75 2 4),cC (Qqp h4),cC (QpT h5)]
def Qjp (Γ:Gam) (rv:Bool) (cf:Cf):Prop:=Go Tryz.prog Tryz.f15 [] Γ (one (.bool rv)) [] cf
def Qhz (Γ:Gam) (rv:Bool) (a:Qad) (b:Qad) (i:Int):Prop:=Qjp Γ rv ⟨[.c 116,.l 116,.b 0,.c 15],⟨78,[vP 2 0 9,vP 3 1 9,vI 5 i],[oX 9 49 (Qad.enc a),oX 9 49 (Qad.enc b)]⟩⟩
def Qg4 (Γ:Gam) (rv:Bool) (a:Qad) (b:Qad):Prop:=Qjp Γ rv ⟨[.c 15],⟨78,[vP 2 0 9,vP 3 1 9],[oX 9 49 (Qad.enc a),oX 9 49 (Qad.enc b)]⟩⟩
theorem Qmg (Γ:Gam) (rv:Bool) {a b} {s:Int} {e:(Unit)⊕(Bool)} (h:loopF (fun s=>Qdg a b s) s=some e) (hD:sel e (fun e=>Qg4 Γ rv a b) (fun e=>e=rv)):Qhz Γ rv a b s:=by
 refine Qau (C:=fun (s:Int)=>Qhz Γ rv a b s) (D:=fun (e:(Unit)⊕(Bool))=>sel e (fun e=>Qg4 Γ rv a b) (fun e=>e=rv)) ?_ h hD
 clear h hD s e
 intro i z_ h hI hE
 replace h:Qdg a b i=_:=h
 unfold Qdg at h
 rcases Qah h with ⟨h1,h⟩|⟨h1,h⟩
 ·obtain ⟨x0,h2,h⟩:=Qaf h
  obtain ⟨x1,h3,h⟩:=Qaf h
  rcases Qah h with ⟨h4,h⟩|⟨h4,h⟩
  ·obtain rfl:=(hE _ (oJ h):_=rv)
   exact gr 12 [] [nL e_i64 a.load,bT h1,hH (.draw 11 []),cE e_i64 h2,cE e_i64 h3,bT h4]
  ·exact gn 14 [2,3,5] [0,1] [nL e_i64 a.load,bT h1,hH (.draw 11 []),cE e_i64 h2,cE e_i64 h3,bF h4] (hI _ (oJ h))
 ·exact gn 5 [2,3] [0,1] [nL e_i64 a.load,bF h1] (hE _ (oJ h))
theorem Qet {a b} {rv:Bool} (h:QcI a b=some rv):AFn Tryz.prog 15 [.agg (Qad.enc a),.agg (Qad.enc b)] [] (one (.bool rv)) []:=by
 refine QaK Tryz.func15 (by kernel_rfl) (by kernel_rfl) (fun Γ=>?_)
 unfold QcI at h
 rcases Qah h with ⟨h0,h⟩|⟨h0,h⟩
 ·obtain rfl:=Option.some.inj h
  exact gr 8 [] [rp 21 hP,rp 4 (oI ((neI a.type_ b.type_)=false)),oR True ((neI a.type_ b.type_)=false),rp 4 (oI (((neI a.type_ b.type_)||(neI a.place b.place))=false)),oR True (((neI a.type_ b.type_)||(neI a.place b.place))=false),rp 4 (oI ((((neI a.type_ b.type_)||(neI a.place b.place))||(neI a.done b.done))=false)),oR True ((((neI a.type_ b.type_)||(neI a.place b.place))||(neI a.done b.done))=false),rp 2 (oI (((((neI a.type_ b.type_)||(neI a.place b.place))||(neI a.done b.done))||(neI a.open_ b.open_))=false)),nL e_i64 a.load,hP,hP,hP,rp 2 (oI (((((neI a.type_ b.type_)||(neI a.place b.place))||(neI a.done b.done))||(neI a.open_ b.open_))=false)),nL e_i64 b.load,hP,hP,rp 2 (oI (((((neI a.type_ b.type_)||(neI a.place b.place))||(neI a.done b.done))||(neI a.open_ b.open_))=false)),oR True (((((neI a.type_ b.type_)||(neI a.place b.place))||(neI a.done b.done))||(neI a.open_ b.open_))=false),bT h0]
 ·obtain ⟨e0,h5,h⟩:=Qaf h
  refine gn 12 [2,3,5] [0,1] [rp 21 hP,rp 4 (oI ((neI a.type_ b.type_)=false)),oR True ((neI a.type_ b.type_)=false),rp 4 (oI (((neI a.type_ b.type_)||(neI a.place b.place))=false)),oR True (((neI a.type_ b.type_)||(neI a.place b.place))=false),rp 4 (oI ((((neI a.type_ b.type_)||(neI a.place b.place))||(neI a.done b.done))=false)),oR True ((((neI a.type_ b.type_)||(neI a.place b.place))||(neI a.done b.done))=false),rp 2 (oI (((((neI a.type_ b.type_)||(neI a.place b.place))||(neI a.done b.done))||(neI a.open_ b.open_))=false)),nL e_i64 a.load,hP,hP,hP,rp 2 (oI (((((neI a.type_ b.type_)||(neI a.place b.place))||(neI a.done b.done))||(neI a.open_ b.open_))=false)),nL e_i64 b.load,hP,hP,rp 2 (oI (((((neI a.type_ b.type_)||(neI a.place b.place))||(neI a.done b.done))||(neI a.open_ b.open_))=false)),oR True (((((neI a.type_ b.type_)||(neI a.place b.place))||(neI a.done b.done))||(neI a.open_ b.open_))=false),bF h0] (Qmg Γ rv h5 ?_)
  rcases e0 with e0|e0
  ·replace h:(some (((leI a.time b.time)&&(leI a.driven b.driven))&&(leI a.miles b.miles)):Option Bool)=some _:=h
   obtain rfl:=Option.some.inj h
   exact gr 2 [] [rp 12 hP,rp 4 (oI ((leI a.time b.time)=true)),oR True ((leI a.time b.time)=true),rp 4 (oI (((leI a.time b.time)&&(leI a.driven b.driven))=true)),oR True (((leI a.time b.time)&&(leI a.driven b.driven))=true)]
  ·obtain ⟨r,rfl⟩:∃ x,x=e0:=⟨_,rfl⟩
   replace h:(some r:Option Bool)=some _:=h
   exact Option.some.inj h
def QrD (Γ:Gam) (rv:Qas×Int) (cf:Cf):Prop:=Go Tryz.prog Tryz.f50 [] Γ (.tup [.agg [lI rv.1.place,lI rv.1.open_,lI rv.1.close,lI rv.1.service],.one (lI rv.2)]) [] cf
theorem Qj4 (Γ:Gam) (rv:Qas×Int) {x1} (h:Qei x1=some rv):QrD Γ rv ⟨[.c 31],⟨34,[vP 4 0 4,vP 6 1 4],[oX 4 81 [lI 0,lI 0,lI 0,lI 0],oX 4 81 (Qas.enc x1)]⟩⟩:=by
 unfold Qei at h
 rcases Qah h with ⟨h4,h⟩|⟨h4,h⟩
 ·obtain rfl:=Option.some.inj h
  exact gr 6 [] [bT h4]
 ·obtain rfl:=Option.some.inj h
  exact gr 7 [] [bF h4]
theorem Qbk {l v} {rv:Qas×Int} (h:Qd7 l v=some rv):AFn Tryz.prog 50 [.one (lL 16 l Qag.enc),.agg (Qaa.enc v)] [] (.tup [.agg [lI rv.1.place,lI rv.1.open_,lI rv.1.close,lI rv.1.service],.one (lI rv.2)]) []:=by
 refine QaK Tryz.func50 (by kernel_rfl) (by kernel_rfl) (fun Γ=>?_)
 unfold Qd7 at h
 obtain ⟨r,h0,h⟩:=Qaf h
 rcases Qah h with ⟨h1,h⟩|⟨h1,h⟩
 ·obtain ⟨x0,h2,h⟩:=Qaf h
  rcases Qah h with ⟨h3,h⟩|⟨h3,h⟩
  ·exact gn 14 [4,6] [1,2] [nL Qag.enc l,cC (Qat h0),nF h1,cE Qag.enc h2,bT h3,cE Qag.enc h2] (Qj4 Γ rv h)
  ·exact gn 14 [4,6] [1,2] [nL Qag.enc l,cC (Qat h0),nF h1,cE Qag.enc h2,bF h3] (Qj4 Γ rv h)
 ·obtain rfl:=Option.some.inj h
  exact gr 8 [] [nL Qag.enc l,cC (Qat h0),nT h1]
def Qda (Γ:Gam) (rv:Bool) (cf:Cf):Prop:=Go Tryz.prog Tryz.f49 [] Γ (one (.bool rv)) [] cf
def Qlb (Γ:Gam) (rv:Bool) (x0:Qac) (l:Qad) (v:Qaa) (x1:Qag) (r1:Bool) (i:Int):Prop:=Qda Γ rv ⟨[.c 500,.l 500,.b 0,.c 63],⟨152,[vP 3 0 6,vP 4 1 9,vP 5 2 2,vB 9 r1,vI 10 i],[oX 6 30 (Qac.enc x0),oX 9 49 (Qad.enc l),oX 2 54 (Qaa.enc v)]⟩⟩
def Qkl (Γ:Gam) (rv:Bool) (x0:Qac) (l:Qad) (v:Qaa) (x1:Qag) (r1:Bool):Prop:=Qda Γ rv ⟨[.c 63],⟨152,[vP 3 0 6,vP 4 1 9,vP 5 2 2,vB 9 r1],[oX 6 30 (Qac.enc x0),oX 9 49 (Qad.enc l),oX 2 54 (Qaa.enc v)]⟩⟩
def Qlc (Γ:Gam) (rv:Bool) (x0:Qac) (l:Qad) (v:Qaa) (x1:Qag) (r1:Bool) (i1:Int):Prop:=Qda Γ rv ⟨[.c 1012,.l 1012,.b 2,.c 127],⟨152,[vP 3 0 6,vP 4 1 9,vP 5 2 2,vB 9 r1,vI 12 i1],[oX 6 30 (Qac.enc x0),oX 9 49 (Qad.enc l),oX 2 54 (Qaa.enc v)]⟩⟩
def Qkm (Γ:Gam) (rv:Bool) (x0:Qac) (l:Qad) (v:Qaa) (x1:Qag) (r1:Bool):Prop:=Qda Γ rv ⟨[.c 127],⟨152,[],[]⟩⟩
def Qld (Γ:Gam) (rv:Bool) (x0:Qac) (l:Qad) (v:Qaa) (x1:Qag) (r1:Bool) (i2:Int):Prop:=Qda Γ rv ⟨[.c 500,.l 500,.b 0,.c 63],⟨152,[vP 3 0 6,vP 4 1 9,vP 5 2 2,vB 9 r1,vI 10 i2],[oX 6 30 (Qac.enc x0),oX 9 49 (Qad.enc l),oX 2 54 (Qaa.enc v)]⟩⟩
def Qkn (Γ:Gam) (rv:Bool) (x0:Qac) (l:Qad) (v:Qaa) (x1:Qag) (r1:Bool):Prop:=Qda Γ rv ⟨[.c 63],⟨152,[vP 3 0 6,vP 4 1 9,vP 5 2 2,vB 9 r1],[oX 6 30 (Qac.enc x0),oX 9 49 (Qad.enc l),oX 2 54 (Qaa.enc v)]⟩⟩
def Qle (Γ:Gam) (rv:Bool) (x0:Qac) (l:Qad) (v:Qaa) (x1:Qag) (r1:Bool) (i3:Int):Prop:=Qda Γ rv ⟨[.c 1012,.l 1012,.b 2,.c 127],⟨152,[vP 3 0 6,vP 4 1 9,vP 5 2 2,vB 9 r1,vI 12 i3],[oX 6 30 (Qac.enc x0),oX 9 49 (Qad.enc l),oX 2 54 (Qaa.enc v)]⟩⟩
def Qko (Γ:Gam) (rv:Bool) (x0:Qac) (l:Qad) (v:Qaa) (x1:Qag) (r1:Bool):Prop:=Qda Γ rv ⟨[.c 127],⟨152,[],[]⟩⟩
theorem Qpj (Γ:Gam) (rv:Bool) {x0 l v x1 r1} {s:Int} {e:(Unit)⊕(Bool)} (h:loopF (fun s=>Qcu x0 l v x1 r1 s) s=some e) (hD:sel e (fun e=>Qkl Γ rv x0 l v x1 r1) (fun e=>e=rv)):Qlb Γ rv x0 l v x1 r1 s:=by
 refine Qau (C:=fun (s:Int)=>Qlb Γ rv x0 l v x1 r1 s) (D:=fun (e:(Unit)⊕(Bool))=>sel e (fun e=>Qkl Γ rv x0 l v x1 r1) (fun e=>e=rv)) ?_ h hD
 clear h hD s e
 intro i z_ h hI hE
 replace h:Qcu x0 l v x1 r1 i=_:=h
 unfold Qcu at h
 rcases Qah h with ⟨h12,h⟩|⟨h12,h⟩
 ·obtain ⟨x3,h13,h⟩:=Qaf h
  rcases Qah h with ⟨h14,h⟩|⟨h14,h⟩
  ·obtain ⟨r4,h15,h⟩:=Qaf h
   rcases Qah h with ⟨h16,h⟩|⟨h16,h⟩
   ·obtain rfl:=(hE _ (oJ h):_=rv)
    exact gr 14 [] [nL Qap.enc x0.apart,bT h12,cE Qap.enc h13,oO (zL 0),oO (lT 0 2),rp 6 (bT h14),oO (zL 1),oO (lT 1 2),rp 2 (bT h14),cC (Qaq h15),bT h14,rp 6 (bT h16),rp 8 kF,rp 2 (bT h16),tT]
   ·rcases Qah h with ⟨h17,h⟩|⟨h17,h⟩
    ·obtain ⟨r5,h18,h⟩:=Qaf h
     rcases Qah h with ⟨h19,h⟩|⟨h19,h⟩
     ·obtain rfl:=(hE _ (oJ h):_=rv)
      exact gr 14 [] [nL Qap.enc x0.apart,bT h12,cE Qap.enc h13,oO (zL 0),oO (lT 0 2),rp 6 (bT h14),oO (zL 1),oO (lT 1 2),rp 2 (bT h14),cC (Qaq h15),bT h14,bF h16,oO (zL 1),oO (lT 1 2),rp 5 (bF h16),rp 6 (bT h17),oO (zL 0),oO (lT 0 2),rp 2 (bT h17),cC (Qaq h18),bF h16,bT h17,bF h16,bT h19]
     ·exact gn 16 [3,4,5,9,10] [0,1,2] [nL Qap.enc x0.apart,bT h12,cE Qap.enc h13,oO (zL 0),oO (lT 0 2),rp 6 (bT h14),oO (zL 1),oO (lT 1 2),rp 2 (bT h14),cC (Qaq h15),bT h14,bF h16,oO (zL 1),oO (lT 1 2),rp 5 (bF h16),rp 6 (bT h17),oO (zL 0),oO (lT 0 2),rp 2 (bT h17),cC (Qaq h18),bF h16,bT h17,bF h16,bF h19] (hI _ (oJ h))
    ·exact gn 16 [3,4,5,9,10] [0,1,2] [nL Qap.enc x0.apart,bT h12,cE Qap.enc h13,oO (zL 0),oO (lT 0 2),rp 6 (bT h14),oO (zL 1),oO (lT 1 2),rp 2 (bT h14),cC (Qaq h15),bT h14,bF h16,oO (zL 1),oO (lT 1 2),rp 5 (bF h16),rp 8 (bF h17),bF h16,bF h17,bF h16,fF] (hI _ (oJ h))
  ·rcases Qah h with ⟨h20,h⟩|⟨h20,h⟩
   ·obtain ⟨r6,h21,h⟩:=Qaf h
    rcases Qah h with ⟨h22,h⟩|⟨h22,h⟩
    ·obtain rfl:=(hE _ (oJ h):_=rv)
     exact gr 14 [] [nL Qap.enc x0.apart,bT h12,cE Qap.enc h13,oO (zL 0),oO (lT 0 2),rp 9 (bF h14),fF,oO (zL 1),oO (lT 1 2),rp 5 fF,rp 6 (bT h20),oO (zL 0),oO (lT 0 2),rp 2 (bT h20),cC (Qaq h21),fF,bT h20,fF,bT h22]
    ·exact gn 16 [3,4,5,9,10] [0,1,2] [nL Qap.enc x0.apart,bT h12,cE Qap.enc h13,oO (zL 0),oO (lT 0 2),rp 9 (bF h14),fF,oO (zL 1),oO (lT 1 2),rp 5 fF,rp 6 (bT h20),oO (zL 0),oO (lT 0 2),rp 2 (bT h20),cC (Qaq h21),fF,bT h20,fF,bF h22] (hI _ (oJ h))
   ·exact gn 16 [3,4,5,9,10] [0,1,2] [nL Qap.enc x0.apart,bT h12,cE Qap.enc h13,oO (zL 0),oO (lT 0 2),rp 9 (bF h14),fF,oO (zL 1),oO (lT 1 2),rp 5 fF,rp 8 (bF h20),fF,bF h20,fF,fF] (hI _ (oJ h))
 ·exact gn 5 [3,4,5,9] [0,1,2] [nL Qap.enc x0.apart,bF h12] (hE _ (oJ h))
theorem Qpk (Γ:Gam) (rv:Bool) {x0 l v x1 r1} {s:Int} {e:(Unit)⊕(Bool)} (h:loopF (fun s=>QbV x0 l v x1 r1 s) s=some e) (hD:sel e (fun e=>Qkm Γ rv x0 l v x1 r1) (fun e=>e=rv)):Qlc Γ rv x0 l v x1 r1 s:=by
 refine Qau (C:=fun (s:Int)=>Qlc Γ rv x0 l v x1 r1 s) (D:=fun (e:(Unit)⊕(Bool))=>sel e (fun e=>Qkm Γ rv x0 l v x1 r1) (fun e=>e=rv)) ?_ h hD
 clear h hD s e
 intro i1 z_ h hI hE
 replace h:QbV x0 l v x1 r1 i1=_:=h
 unfold QbV at h
 rcases Qah h with ⟨h24,h⟩|⟨h24,h⟩
 ·obtain ⟨x4,h25,h⟩:=Qaf h
  rcases Qah h with ⟨h26,h⟩|⟨h26,h⟩
  ·obtain ⟨r7,h27,h⟩:=Qaf h
   rcases Qah h with ⟨h28,h⟩|⟨h28,h⟩
   ·obtain ⟨r8,h29,h⟩:=Qaf h
    rcases Qah h with ⟨h30,h⟩|⟨h30,h⟩
    ·obtain rfl:=(hE _ (oJ h):_=rv)
     exact gr 14 [] [nL Qap.enc x0.before,hP,hP,hP,oI ((ltI i1 (lenI x0.before))=true),oR True ((ltI i1 (lenI x0.before))=true),bT h24,cE Qap.enc h25,oO (zL 1),oO (lT 1 2),rp 3 (bT h26),oO (zL 0),oO (lT 0 2),rp 2 (bT h26),cC (Qaq h27),rp 2 (bT h26),rp 3 (nF h28),oO (zL 0),oO (lT 0 2),rp 2 (nF h28),cC (Qaq h29),bT h26,nF h28,bT h26,bT h30]
    ·exact gn 16 [3,4,5,9,12] [0,1,2] [nL Qap.enc x0.before,hP,hP,hP,oI ((ltI i1 (lenI x0.before))=true),oR True ((ltI i1 (lenI x0.before))=true),bT h24,cE Qap.enc h25,oO (zL 1),oO (lT 1 2),rp 3 (bT h26),oO (zL 0),oO (lT 0 2),rp 2 (bT h26),cC (Qaq h27),rp 2 (bT h26),rp 3 (nF h28),oO (zL 0),oO (lT 0 2),rp 2 (nF h28),cC (Qaq h29),bT h26,nF h28,bT h26,bF h30] (hI _ (oJ h))
   ·obtain rfl:=(hE _ (oJ h):_=rv)
    exact gr 14 [] [nL Qap.enc x0.before,hP,hP,hP,oI ((ltI i1 (lenI x0.before))=true),oR True ((ltI i1 (lenI x0.before))=true),bT h24,cE Qap.enc h25,oO (zL 1),oO (lT 1 2),rp 3 (bT h26),oO (zL 0),oO (lT 0 2),rp 2 (bT h26),cC (Qaq h27),rp 2 (bT h26),rp 5 (nT h28),bT h26,nT h28,bT h26,tT]
  ·exact gn 16 [3,4,5,9,12] [0,1,2] [nL Qap.enc x0.before,hP,hP,hP,oI ((ltI i1 (lenI x0.before))=true),oR True ((ltI i1 (lenI x0.before))=true),bT h24,cE Qap.enc h25,oO (zL 1),oO (lT 1 2),rp 7 (bF h26),rp 5 kF,rp 2 (bF h26),fF] (hI _ (oJ h))
 ·exact gn 5 [] [] [nL Qap.enc x0.before,hP,hP,hP,oI ((ltI i1 (lenI x0.before))=true),oR True ((ltI i1 (lenI x0.before))=true),bF h24] (hE _ (oJ h))
theorem Qpl (Γ:Gam) (rv:Bool) {x0 l v x1 r1} {s:Int} {e:(Unit)⊕(Bool)} (h:loopF (fun s=>Qcv x0 l v x1 r1 s) s=some e) (hD:sel e (fun e=>Qkn Γ rv x0 l v x1 r1) (fun e=>e=rv)):Qld Γ rv x0 l v x1 r1 s:=by
 refine Qau (C:=fun (s:Int)=>Qld Γ rv x0 l v x1 r1 s) (D:=fun (e:(Unit)⊕(Bool))=>sel e (fun e=>Qkn Γ rv x0 l v x1 r1) (fun e=>e=rv)) ?_ h hD
 clear h hD s e
 intro i2 z_ h hI hE
 replace h:Qcv x0 l v x1 r1 i2=_:=h
 unfold Qcv at h
 rcases Qah h with ⟨h35,h⟩|⟨h35,h⟩
 ·obtain ⟨x6,h36,h⟩:=Qaf h
  rcases Qah h with ⟨h37,h⟩|⟨h37,h⟩
  ·obtain ⟨r12,h38,h⟩:=Qaf h
   rcases Qah h with ⟨h39,h⟩|⟨h39,h⟩
   ·obtain rfl:=(hE _ (oJ h):_=rv)
    exact gr 14 [] [nL Qap.enc x0.apart,bT h35,cE Qap.enc h36,oO (zL 0),oO (lT 0 2),rp 6 (bT h37),oO (zL 1),oO (lT 1 2),rp 2 (bT h37),cC (Qaq h38),bT h37,rp 6 (bT h39),rp 8 kF,rp 2 (bT h39),tT]
   ·rcases Qah h with ⟨h40,h⟩|⟨h40,h⟩
    ·obtain ⟨r13,h41,h⟩:=Qaf h
     rcases Qah h with ⟨h42,h⟩|⟨h42,h⟩
     ·obtain rfl:=(hE _ (oJ h):_=rv)
      exact gr 14 [] [nL Qap.enc x0.apart,bT h35,cE Qap.enc h36,oO (zL 0),oO (lT 0 2),rp 6 (bT h37),oO (zL 1),oO (lT 1 2),rp 2 (bT h37),cC (Qaq h38),bT h37,bF h39,oO (zL 1),oO (lT 1 2),rp 5 (bF h39),rp 6 (bT h40),oO (zL 0),oO (lT 0 2),rp 2 (bT h40),cC (Qaq h41),bF h39,bT h40,bF h39,bT h42]
     ·exact gn 16 [3,4,5,9,10] [0,1,2] [nL Qap.enc x0.apart,bT h35,cE Qap.enc h36,oO (zL 0),oO (lT 0 2),rp 6 (bT h37),oO (zL 1),oO (lT 1 2),rp 2 (bT h37),cC (Qaq h38),bT h37,bF h39,oO (zL 1),oO (lT 1 2),rp 5 (bF h39),rp 6 (bT h40),oO (zL 0),oO (lT 0 2),rp 2 (bT h40),cC (Qaq h41),bF h39,bT h40,bF h39,bF h42] (hI _ (oJ h))
    ·exact gn 16 [3,4,5,9,10] [0,1,2] [nL Qap.enc x0.apart,bT h35,cE Qap.enc h36,oO (zL 0),oO (lT 0 2),rp 6 (bT h37),oO (zL 1),oO (lT 1 2),rp 2 (bT h37),cC (Qaq h38),bT h37,bF h39,oO (zL 1),oO (lT 1 2),rp 5 (bF h39),rp 8 (bF h40),bF h39,bF h40,bF h39,fF] (hI _ (oJ h))
  ·rcases Qah h with ⟨h43,h⟩|⟨h43,h⟩
   ·obtain ⟨r14,h44,h⟩:=Qaf h
    rcases Qah h with ⟨h45,h⟩|⟨h45,h⟩
    ·obtain rfl:=(hE _ (oJ h):_=rv)
     exact gr 14 [] [nL Qap.enc x0.apart,bT h35,cE Qap.enc h36,oO (zL 0),oO (lT 0 2),rp 9 (bF h37),fF,oO (zL 1),oO (lT 1 2),rp 5 fF,rp 6 (bT h43),oO (zL 0),oO (lT 0 2),rp 2 (bT h43),cC (Qaq h44),fF,bT h43,fF,bT h45]
    ·exact gn 16 [3,4,5,9,10] [0,1,2] [nL Qap.enc x0.apart,bT h35,cE Qap.enc h36,oO (zL 0),oO (lT 0 2),rp 9 (bF h37),fF,oO (zL 1),oO (lT 1 2),rp 5 fF,rp 6 (bT h43),oO (zL 0),oO (lT 0 2),rp 2 (bT h43),cC (Qaq h44),fF,bT h43,fF,bF h45] (hI _ (oJ h))
   ·exact gn 16 [3,4,5,9,10] [0,1,2] [nL Qap.enc x0.apart,bT h35,cE Qap.enc h36,oO (zL 0),oO (lT 0 2),rp 9 (bF h37),fF,oO (zL 1),oO (lT 1 2),rp 5 fF,rp 8 (bF h43),fF,bF h43,fF,fF] (hI _ (oJ h))
 ·exact gn 5 [3,4,5,9] [0,1,2] [nL Qap.enc x0.apart,bF h35] (hE _ (oJ h))
theorem Qpm (Γ:Gam) (rv:Bool) {x0 l v x1 r1} {s:Int} {e:(Unit)⊕(Bool)} (h:loopF (fun s=>QbW x0 l v x1 r1 s) s=some e) (hD:sel e (fun e=>Qko Γ rv x0 l v x1 r1) (fun e=>e=rv)):Qle Γ rv x0 l v x1 r1 s:=by
 refine Qau (C:=fun (s:Int)=>Qle Γ rv x0 l v x1 r1 s) (D:=fun (e:(Unit)⊕(Bool))=>sel e (fun e=>Qko Γ rv x0 l v x1 r1) (fun e=>e=rv)) ?_ h hD
 clear h hD s e
 intro i3 z_ h hI hE
 replace h:QbW x0 l v x1 r1 i3=_:=h
 unfold QbW at h
 rcases Qah h with ⟨h47,h⟩|⟨h47,h⟩
 ·obtain ⟨x7,h48,h⟩:=Qaf h
  rcases Qah h with ⟨h49,h⟩|⟨h49,h⟩
  ·obtain ⟨r15,h50,h⟩:=Qaf h
   rcases Qah h with ⟨h51,h⟩|⟨h51,h⟩
   ·obtain ⟨r16,h52,h⟩:=Qaf h
    rcases Qah h with ⟨h53,h⟩|⟨h53,h⟩
    ·obtain rfl:=(hE _ (oJ h):_=rv)
     exact gr 14 [] [nL Qap.enc x0.before,hP,hP,hP,oI ((ltI i3 (lenI x0.before))=true),oR True ((ltI i3 (lenI x0.before))=true),bT h47,cE Qap.enc h48,oO (zL 1),oO (lT 1 2),rp 3 (bT h49),oO (zL 0),oO (lT 0 2),rp 2 (bT h49),cC (Qaq h50),rp 2 (bT h49),rp 3 (nF h51),oO (zL 0),oO (lT 0 2),rp 2 (nF h51),cC (Qaq h52),bT h49,nF h51,bT h49,bT h53]
    ·exact gn 16 [3,4,5,9,12] [0,1,2] [nL Qap.enc x0.before,hP,hP,hP,oI ((ltI i3 (lenI x0.before))=true),oR True ((ltI i3 (lenI x0.before))=true),bT h47,cE Qap.enc h48,oO (zL 1),oO (lT 1 2),rp 3 (bT h49),oO (zL 0),oO (lT 0 2),rp 2 (bT h49),cC (Qaq h50),rp 2 (bT h49),rp 3 (nF h51),oO (zL 0),oO (lT 0 2),rp 2 (nF h51),cC (Qaq h52),bT h49,nF h51,bT h49,bF h53] (hI _ (oJ h))
   ·obtain rfl:=(hE _ (oJ h):_=rv)
    exact gr 14 [] [nL Qap.enc x0.before,hP,hP,hP,oI ((ltI i3 (lenI x0.before))=true),oR True ((ltI i3 (lenI x0.before))=true),bT h47,cE Qap.enc h48,oO (zL 1),oO (lT 1 2),rp 3 (bT h49),oO (zL 0),oO (lT 0 2),rp 2 (bT h49),cC (Qaq h50),rp 2 (bT h49),rp 5 (nT h51),bT h49,nT h51,bT h49,tT]
  ·exact gn 16 [3,4,5,9,12] [0,1,2] [nL Qap.enc x0.before,hP,hP,hP,oI ((ltI i3 (lenI x0.before))=true),oR True ((ltI i3 (lenI x0.before))=true),bT h47,cE Qap.enc h48,oO (zL 1),oO (lT 1 2),rp 7 (bF h49),rp 5 kF,rp 2 (bF h49),fF] (hI _ (oJ h))
 ·exact gn 5 [] [] [nL Qap.enc x0.before,hP,hP,hP,oI ((ltI i3 (lenI x0.before))=true),oR True ((ltI i3 (lenI x0.before))=true),bF h47] (hE _ (oJ h))
theorem Qfb {x0 l v} {rv:Bool} (h:QeT x0 l v=some rv):AFn Tryz.prog 49 [.agg (Qac.enc x0),.agg (Qad.enc l),.agg (Qaa.enc v)] [] (one (.bool rv)) []:=by
 refine QaK Tryz.func49 (by kernel_rfl) (by kernel_rfl) (fun Γ=>?_)
 unfold QeT at h
 obtain ⟨r,h0,h⟩:=Qaf h
 rcases Qah h with ⟨h1,h⟩|⟨h1,h⟩
 ·obtain rfl:=Option.some.inj h
  exact gr 10 [] [cC (Qbk h0),rp 8 (bT h1),tT]
 ·obtain ⟨x1,h2,h⟩:=Qaf h
  rcases Qah h with ⟨h3,h⟩|⟨h3,h⟩
  ·obtain rfl:=Option.some.inj h
   exact gr 10 [] [cC (Qbk h0),rp 5 (bF h1),cE Qag.enc h2,rp 3 (bF h1),bT h3]
  ·obtain ⟨r1,h4,h⟩:=Qaf h
   rcases Qah h with ⟨h5,h⟩|⟨h5,h⟩
   ·obtain rfl:=Option.some.inj h
    exact gr 17 [] [cC (Qbk h0),rp 5 (bF h1),cE Qag.enc h2,rp 3 (bF h1),bF h3,cC (Qaq h4),hH (.draw 35 []),hP,hP,oR True ((!v.drop)=true),rp 3 (bT h5),rp 6 kF,bT h5,bT h5,rp 17 tT]
   ·rcases Qah h with ⟨h6,h⟩|⟨h6,h⟩
    ·obtain ⟨r2,h7,h⟩:=Qaf h
     rcases Qah h with ⟨h8,h⟩|⟨h8,h⟩
     ·obtain ⟨x2,h9,h⟩:=Qaf h
      obtain ⟨r3,h10,h⟩:=Qaf h
      rcases Qah h with ⟨h11,h⟩|⟨h11,h⟩
      ·obtain ⟨e0,h23,h⟩:=Qaf h
       refine gn 21 [3,4,5,9,10] [0,1,2] [cC (Qbk h0),rp 5 (bF h1),cE Qag.enc h2,rp 3 (bF h1),bF h3,cC (Qaq h4),hH (.draw 35 []),hP,hP,oR True ((!v.drop)=true),rp 3 (bF h5),rp 5 (bT h6),cC (Qaq h7),bT h6,bF h5,bT h6,bF h5,rp 5 (nF h8),cE Qai.enc h9,rp 6 (nF h8),cE Qag.enc h2,rp 3 (nF h8),cC (Qeh h10),nF h8,nF h8,nF h11] (Qpj Γ rv h23 ?_)
       rcases e0 with e0|e0
       ·replace h:(bnd (loopF (fun s=>QbV x0 l v x1 r1 s) 0) (fun e=>sel e (fun (_:Unit)=>some true) (fun r9=>some r9)):Option Bool)=some _:=h
        obtain ⟨e1,h31,h⟩:=Qaf h
        refine gn 5 [3,4,5,9,12] [0,1,2] [] (Qpk Γ rv h31 ?_)
        rcases e1 with e1|e1
        ·replace h:(some true:Option Bool)=some _:=h
         obtain rfl:=Option.some.inj h
         exact gr 2 [] []
        ·obtain ⟨r9,rfl⟩:∃ x,x=e1:=⟨_,rfl⟩
         replace h:(some r9:Option Bool)=some _:=h
         exact Option.some.inj h
       ·obtain ⟨r10,rfl⟩:∃ x,x=e0:=⟨_,rfl⟩
        replace h:(some r10:Option Bool)=some _:=h
        exact Option.some.inj h
      ·obtain rfl:=Option.some.inj h
       exact gr 17 [] [cC (Qbk h0),rp 5 (bF h1),cE Qag.enc h2,rp 3 (bF h1),bF h3,cC (Qaq h4),hH (.draw 35 []),hP,hP,oR True ((!v.drop)=true),rp 3 (bF h5),rp 5 (bT h6),cC (Qaq h7),bT h6,bF h5,bT h6,bF h5,rp 5 (nF h8),cE Qai.enc h9,rp 6 (nF h8),cE Qag.enc h2,rp 3 (nF h8),cC (Qeh h10),nF h8,nF h8,nT h11]
     ·obtain rfl:=Option.some.inj h
      exact gr 17 [] [cC (Qbk h0),rp 5 (bF h1),cE Qag.enc h2,rp 3 (bF h1),bF h3,cC (Qaq h4),hH (.draw 35 []),hP,hP,oR True ((!v.drop)=true),rp 3 (bF h5),rp 5 (bT h6),cC (Qaq h7),bT h6,bF h5,bT h6,bF h5,rp 16 (nT h8),tT]
    ·obtain ⟨x5,h32,h⟩:=Qaf h
     obtain ⟨r11,h33,h⟩:=Qaf h
     rcases Qah h with ⟨h34,h⟩|⟨h34,h⟩
     ·obtain ⟨e2,h46,h⟩:=Qaf h
      refine gn 21 [3,4,5,9,10] [0,1,2] [cC (Qbk h0),rp 5 (bF h1),cE Qag.enc h2,rp 3 (bF h1),bF h3,cC (Qaq h4),hH (.draw 35 []),hP,hP,oR True ((!v.drop)=true),rp 3 (bF h5),rp 6 (bF h6),bF h5,bF h6,bF h5,rp 5 fF,cE Qai.enc h32,rp 6 fF,cE Qag.enc h2,fF,fF,fF,cC (Qeh h33),fF,fF,nF h34] (Qpl Γ rv h46 ?_)
      rcases e2 with e2|e2
      ·replace h:(bnd (loopF (fun s=>QbW x0 l v x1 r1 s) 0) (fun e=>sel e (fun (_:Unit)=>some true) (fun r17=>some r17)):Option Bool)=some _:=h
       obtain ⟨e3,h54,h⟩:=Qaf h
       refine gn 5 [3,4,5,9,12] [0,1,2] [] (Qpm Γ rv h54 ?_)
       rcases e3 with e3|e3
       ·replace h:(some true:Option Bool)=some _:=h
        obtain rfl:=Option.some.inj h
        exact gr 2 [] []
       ·obtain ⟨r17,rfl⟩:∃ x,x=e3:=⟨_,rfl⟩
        replace h:(some r17:Option Bool)=some _:=h
        exact Option.some.inj h
      ·obtain ⟨r18,rfl⟩:∃ x,x=e2:=⟨_,rfl⟩
       replace h:(some r18:Option Bool)=some _:=h
       exact Option.some.inj h
     ·obtain rfl:=Option.some.inj h
      exact gr 17 [] [cC (Qbk h0),rp 5 (bF h1),cE Qag.enc h2,rp 3 (bF h1),bF h3,cC (Qaq h4),hH (.draw 35 []),hP,hP,oR True ((!v.drop)=true),rp 3 (bF h5),rp 6 (bF h6),bF h5,bF h6,bF h5,rp 5 fF,cE Qai.enc h32,rp 6 fF,cE Qag.enc h2,fF,fF,fF,cC (Qeh h33),fF,fF,nT h34]
theorem QlJ {s0 arrive} {rv:Int×Int} (h:QhP s0 arrive=some rv):AFn Tryz.prog 91 [.agg (Qas.enc s0),.one (lI arrive)] [] (.tup [.one (lI rv.1),.one (lI rv.2)]) []:=by
 refine QaK Tryz.func91 (by kernel_rfl) (by kernel_rfl) (fun Γ=>?_)
 unfold QhP at h
 rcases Qah h with ⟨h0,h⟩|⟨h0,h⟩
 ·obtain rfl:=Option.some.inj h
  exact gr 8 [] [bT h0]
 ·rcases Qah h with ⟨h1,h⟩|⟨h1,h⟩
  ·obtain rfl:=Option.some.inj h
   exact gr 13 [] [bF h0,bT h1]
  ·obtain rfl:=Option.some.inj h
   exact gr 14 [] [bF h0,bF h1]
theorem Qhf {s0 arrive} {rv:Int×Int} (h:QfJ s0 arrive=some rv):AFn Tryz.prog 51 [.agg (Qas.enc s0),.one (lI arrive)] [] (.tup [.one (lI rv.1),.one (lI rv.2)]) []:=by
 refine QaK Tryz.func51 (by kernel_rfl) (by kernel_rfl) (fun Γ=>?_)
 unfold QfJ at h
 obtain ⟨r,h0,h⟩:=Qaf h
 rcases Qah h with ⟨h1,h⟩|⟨h1,h⟩
 ·obtain rfl:=Option.some.inj h
  exact gr 10 [] [cC (QlJ h0),bT h1]
 ·obtain rfl:=Option.some.inj h
  exact gr 11 [] [cC (QlJ h0),bF h1]
def Qof (Γ:Gam) (rv:List Int×Int) (cf:Cf):Prop:=Go Tryz.prog Tryz.f52 [] Γ (.tup [.one (lL 1 rv.1 e_i64),.one (lI rv.2)]) [] cf
def QlD (Γ:Gam) (rv:List Int×Int) (a:List Int) (b:List Int) (l:List Int) (i:Int):Prop:=Qof Γ rv ⟨[.c 244,.l 244,.b 0,.c 31],⟨32,[vL 0 1 a e_i64,vL 1 1 b e_i64,vO 6 0 1 l e_i64,vI 7 i],[oS 1 3 l e_i64]⟩⟩
def QkR (Γ:Gam) (rv:List Int×Int) (a:List Int) (b:List Int) (l1:List Int):Prop:=Qof Γ rv ⟨[.c 31],⟨32,[vO 6 0 1 l1 e_i64],[oS 1 3 l1 e_i64]⟩⟩
theorem QpL (Γ:Gam) (rv:List Int×Int) {a b} {s:List Int×Int} {e:List Int} (h:loopF (fun s=>Qcd a b s.1 s.2) s=some e) (hD:QkR Γ rv a b e):QlD Γ rv a b s.1 s.2:=by
 refine Qau (C:=fun (s:List Int×Int)=>QlD Γ rv a b s.1 s.2) (D:=fun (e:List Int)=>QkR Γ rv a b e) ?_ h hD
 clear h hD s e
 rintro ⟨l,i⟩ z_ h hI hE
 replace h:Qcd a b l i=_:=h
 unfold Qcd at h
 rcases Qah h with ⟨h1,h⟩|⟨h1,h⟩
 ·obtain ⟨x0,h2,h⟩:=Qaf h
  obtain ⟨x1,h3,h⟩:=Qaf h
  obtain ⟨h4,h⟩:=Qar h
  exact gn 11 [0,1,6,7] [2] [nL e_i64 a,bT h1,hH (.draw 11 []),cE e_i64 h2,cE e_i64 h3,oO (Eq.refl ([(addK .i64 x0 x1)].map e_i64).length),aO e_i64 h4] (hI _ (oJ h))
 ·exact gn 5 [6] [0] [nL e_i64 a,bF h1] (hE _ (oJ h))
theorem Qnw {a b} {rv:List Int×Int} (h:QgB a b=some rv):AFn Tryz.prog 52 [.one (lL 1 a e_i64),.one (lL 1 b e_i64)] [] (.tup [.one (lL 1 rv.1 e_i64),.one (lI rv.2)]) []:=by
 refine QaK Tryz.func52 (by kernel_rfl) (by kernel_rfl) (fun Γ=>?_)
 unfold QgB at h
 rcases Qah h with ⟨h0,h⟩|⟨h0,h⟩
 ·obtain rfl:=Option.some.inj h
  exact gr 8 [] [nL e_i64 a,nL e_i64 b,bT h0,hW 4,hH (.nilS 4 0 1)]
 ·obtain ⟨e0,h5,h⟩:=Qaf h
  refine gn 14 [0,1,6,7] [0] [nL e_i64 a,nL e_i64 b,bF h0,hW 10,hH (.adopt 6 1 3)] (QpL Γ rv h5 ?_)
  obtain ⟨l1,rfl⟩:∃ x,x=e0:=⟨_,rfl⟩
  replace h:(some (l1,0):Option (List Int×Int))=some _:=h
  obtain rfl:=Option.some.inj h
  exact gr 2 [] [hW 5,hH (.frz 0),rp 3 (eL l1 e_i64)]
def Qoh (Γ:Gam) (rv:List Int×Int) (cf:Cf):Prop:=Go Tryz.prog Tryz.f53 [] Γ (.tup [.one (lL 1 rv.1 e_i64),.one (lI rv.2)]) [] cf
def QlF (Γ:Gam) (rv:List Int×Int) (a:List Int) (b:List Int) (l:List Int) (i:Int):Prop:=Qoh Γ rv ⟨[.c 244,.l 244,.b 0,.c 31],⟨32,[vL 0 1 a e_i64,vL 1 1 b e_i64,vO 6 0 1 l e_i64,vI 7 i],[oS 1 3 l e_i64]⟩⟩
def QkT (Γ:Gam) (rv:List Int×Int) (a:List Int) (b:List Int) (l1:List Int):Prop:=Qoh Γ rv ⟨[.c 31],⟨32,[vO 6 0 1 l1 e_i64],[oS 1 3 l1 e_i64]⟩⟩
theorem QpM (Γ:Gam) (rv:List Int×Int) {a b} {s:List Int×Int} {e:List Int} (h:loopF (fun s=>Qce a b s.1 s.2) s=some e) (hD:QkT Γ rv a b e):QlF Γ rv a b s.1 s.2:=by
 refine Qau (C:=fun (s:List Int×Int)=>QlF Γ rv a b s.1 s.2) (D:=fun (e:List Int)=>QkT Γ rv a b e) ?_ h hD
 clear h hD s e
 rintro ⟨l,i⟩ z_ h hI hE
 replace h:Qce a b l i=_:=h
 unfold Qce at h
 rcases Qah h with ⟨h1,h⟩|⟨h1,h⟩
 ·obtain ⟨x0,h2,h⟩:=Qaf h
  obtain ⟨x1,h3,h⟩:=Qaf h
  obtain ⟨h4,h⟩:=Qar h
  exact gn 11 [0,1,6,7] [2] [nL e_i64 a,bT h1,hH (.draw 11 []),cE e_i64 h2,cE e_i64 h3,oO (Eq.refl ([(subK .i64 x0 x1)].map e_i64).length),aO e_i64 h4] (hI _ (oJ h))
 ·exact gn 5 [6] [0] [nL e_i64 a,bF h1] (hE _ (oJ h))
theorem QrB {a b} {rv:List Int×Int} (h:Qfs a b=some rv):AFn Tryz.prog 53 [.one (lL 1 a e_i64),.one (lL 1 b e_i64)] [] (.tup [.one (lL 1 rv.1 e_i64),.one (lI rv.2)]) []:=by
 refine QaK Tryz.func53 (by kernel_rfl) (by kernel_rfl) (fun Γ=>?_)
 unfold Qfs at h
 rcases Qah h with ⟨h0,h⟩|⟨h0,h⟩
 ·obtain rfl:=Option.some.inj h
  exact gr 8 [] [nL e_i64 a,nL e_i64 b,bT h0,hW 4,hH (.nilS 4 0 1)]
 ·obtain ⟨e0,h5,h⟩:=Qaf h
  refine gn 14 [0,1,6,7] [0] [nL e_i64 a,nL e_i64 b,bF h0,hW 10,hH (.adopt 6 1 3)] (QpM Γ rv h5 ?_)
  obtain ⟨l1,rfl⟩:∃ x,x=e0:=⟨_,rfl⟩
  replace h:(some (l1,0):Option (List Int×Int))=some _:=h
  obtain rfl:=Option.some.inj h
  exact gr 2 [] [hW 5,hH (.frz 0),rp 3 (eL l1 e_i64)]
def QlR (Γ:Gam) (rv:List Qad) (cf:Cf):Prop:=Go Tryz.prog Tryz.f17 [] Γ (one (lL 9 rv Qad.enc)) [] cf
theorem QfY (Γ:Gam) (rv:List Qad) {x0 l v r1 r2 r3 load r7 open_} (h:QcJ x0 l v r1 r2 r3 load r7 open_=some rv):QlR Γ rv ⟨[.c 131071],⟨161,[vP 3 0 6,vP 19 1 9],[oX 6 30 (Qac.enc x0),oX 9 49 [lI l.type_,lO 2 2 (l.visits++[v]) Qaa.enc,lI r1.1.place,lI r3.1,lI (subK .i64 (addK .i64 l.driven r2.1) l.time),lI (addK .i64 l.miles r2.2.1),lL 1 load e_i64,lI (orK .i64 l.done r7),lI open_],oS 2 54 (l.visits++[v]) Qaa.enc]⟩⟩:=by
 unfold QcJ at h
 obtain ⟨r10,h22,h⟩:=Qaf h
 obtain rfl:=Option.some.inj h
 exact gr 2 [] [hW 4,hH (.frz 2),rp 2 (oO (Eq.refl ((l.visits++[v]).map Qaa.enc).length)),cC (Qli h22)]
theorem Qiq (Γ:Gam) (rv:List Qad) {x0 l v x1 x2 r1 r2 r3 load g} (h:Qcb x0 l v x1 x2 r1 r2 r3 load g=some rv):QlR Γ rv ⟨[.c 8191],⟨161,[vP 3 0 6,vP 4 1 9,vP 5 2 2,vP 7 3 14,vP 8 4 16,vP 9 5 4,vI 12 r2.2.1,vI 14 (subK .i64 (addK .i64 l.driven r2.1) l.time),vI 15 r3.1,vL 17 1 load e_i64,vI 18 g],[oX 6 30 (Qac.enc x0),oX 9 49 (Qad.enc l),oX 2 54 (Qaa.enc v),oX 14 79 (Qai.enc x1),oX 16 83 (Qag.enc x2),oX 4 81 (Qas.enc r1.1)]⟩⟩:=by
 unfold Qcb at h
 rcases Qah h with ⟨h12,h⟩|⟨h12,h⟩
 ·obtain rfl:=Option.some.inj h
  exact gr 6 [] [rp 6 (bT h12),tT,hW 3,hH (.nilS 6 0 9)]
 ·obtain ⟨r6,h13,h⟩:=Qaf h
  rcases Qah h with ⟨h14,h⟩|⟨h14,h⟩
  ·obtain ⟨r7,h15,h⟩:=Qaf h
   obtain ⟨h16,h⟩:=Qar h
   obtain ⟨h17,h⟩:=Qar h
   rcases Qah h with ⟨h18,h⟩|⟨h18,h⟩
   ·obtain ⟨r8,h19,h⟩:=Qaf h
    exact gn 14 [3,19] [0,6,9] [rp 4 (bF h12),cC (Qef h13),rp 2 (bF h12),nF h14,hH (.draw 21 []),cC (QdS h15),hH (.draw 9 [(7,7)]),aN Qaa.enc h16,oO (Eq.refl ([v].map Qaa.enc).length),aO Qaa.enc h17,bT h18,hH (.draw 7 []),cC (QdS h19)] (QfY Γ rv h)
   ·rcases Qah h with ⟨h20,h⟩|⟨h20,h⟩
    ·obtain ⟨r9,h21,h⟩:=Qaf h
     exact gn 17 [3,19] [0,6,9] [rp 4 (bF h12),cC (Qef h13),rp 2 (bF h12),nF h14,hH (.draw 21 []),cC (QdS h15),hH (.draw 9 [(7,7)]),aN Qaa.enc h16,oO (Eq.refl ([v].map Qaa.enc).length),aO Qaa.enc h17,bF h18,bT h20,hH (.draw 7 []),cC (QdS h21)] (QfY Γ rv h)
    ·exact gn 17 [3,19] [0,6,9] [rp 4 (bF h12),cC (Qef h13),rp 2 (bF h12),nF h14,hH (.draw 21 []),cC (QdS h15),hH (.draw 9 [(7,7)]),aN Qaa.enc h16,oO (Eq.refl ([v].map Qaa.enc).length),aO Qaa.enc h17,bF h18,bF h20] (QfY Γ rv h)
  ·obtain rfl:=Option.some.inj h
   exact gr 6 [] [rp 4 (bF h12),cC (Qef h13),rp 2 (bF h12),nT h14,hW 3,hH (.nilS 6 0 9)]
theorem QpU {x0 l v} {rv:List Qad} (h:QfO x0 l v=some rv):AFn Tryz.prog 17 [.agg (Qac.enc x0),.agg (Qad.enc l),.agg (Qaa.enc v)] [] (one (lL 9 rv Qad.enc)) []:=by
 refine QaK Tryz.func17 (by kernel_rfl) (by kernel_rfl) (fun Γ=>?_)
 unfold QfO at h
 obtain ⟨r,h0,h⟩:=Qaf h
 rcases Qah h with ⟨h1,h⟩|⟨h1,h⟩
 ·obtain ⟨x1,h2,h⟩:=Qaf h
  obtain ⟨x2,h3,h⟩:=Qaf h
  obtain ⟨r1,h4,h⟩:=Qaf h
  obtain ⟨r2,h5,h⟩:=Qaf h
  rcases Qah h with ⟨h6,h⟩|⟨h6,h⟩
  ·obtain rfl:=Option.some.inj h
   exact gr 23 [] [cC (Qfb h0),nF h1,cE Qai.enc h2,cE Qag.enc h3,cC (Qbk h4),cC (QeY h5),rp 5 hP,rp 3 (oI ((neI r2.2.2 0)=false)),oR True ((neI r2.2.2 0)=false),bT h6,hW 3,hH (.nilS 6 0 9)]
  ·obtain ⟨r3,h7,h⟩:=Qaf h
   rcases Qah h with ⟨h8,h⟩|⟨h8,h⟩
   ·obtain rfl:=Option.some.inj h
    exact gr 30 [] [cC (Qfb h0),nF h1,cE Qai.enc h2,cE Qag.enc h3,cC (Qbk h4),cC (QeY h5),rp 5 hP,rp 3 (oI ((neI r2.2.2 0)=false)),oR True ((neI r2.2.2 0)=false),bF h6,cC (Qhf h7),bT h8,hW 3,hH (.nilS 6 0 9)]
   ·obtain ⟨r4,h9,h⟩:=Qaf h
    rcases Qah h with ⟨h10,h⟩|⟨h10,h⟩
    ·obtain ⟨r5,h11,h⟩:=Qaf h
     exact gn 36 [3,4,5,7,8,9,12,14,15,17,18] [0,1,2,3,4,5] [cC (Qfb h0),nF h1,cE Qai.enc h2,cE Qag.enc h3,cC (Qbk h4),cC (QeY h5),rp 5 hP,rp 3 (oI ((neI r2.2.2 0)=false)),oR True ((neI r2.2.2 0)=false),bF h6,cC (Qhf h7),bF h8,cC (Qnw h9),bT h10,cC (QrB h11)] (Qiq Γ rv h)
    ·exact gn 36 [3,4,5,7,8,9,12,14,15,17,18] [0,1,2,3,4,5] [cC (Qfb h0),nF h1,cE Qai.enc h2,cE Qag.enc h3,cC (Qbk h4),cC (QeY h5),rp 5 hP,rp 3 (oI ((neI r2.2.2 0)=false)),oR True ((neI r2.2.2 0)=false),bF h6,cC (Qhf h7),bF h8,cC (Qnw h9),bF h10] (Qiq Γ rv h)
 ·obtain rfl:=Option.some.inj h
  exact gr 8 [] [cC (Qfb h0),nT h1,hW 3,hH (.nilS 6 0 9)]
end Go.Proofs.YtfjiafgldchinaaGreatDoor
