/- Part MV of the proof: texts L1. -/
import Derived.Test.YtfjiafgldchinaaGreatDoorMU
import Derived.Test.YtfjiafgldchinaaGreatDoorProg
namespace Go.Proofs.YtfjiafgldchinaaGreatDoor
set_option linter.unusedVariables false
set_option linter.unusedSectionVars false
set_option linter.unusedSimpArgs false
set_option maxHeartbeats 4000000
set_option maxRecDepth 100000
theorem QpX {s0 arrive} {rv:Int×Int} (h:Qnz s0 arrive=some rv):AFn Tryz.prog 89 [.agg (Qar.enc s0),.one (lI arrive)] [] (.tup [.one (lI rv.1),.one (lI rv.2)]) []:=by
 refine QaS Tryz.func89 (by kernel_rfl) (by kernel_rfl) (fun Γ=>?_)
 unfold Qnz at h
 rcases Qah h with ⟨h0,h⟩|⟨h0,h⟩
 ·obtain rfl:=Option.some.inj h
  exact gr 10 [] [bT h0]
 ·obtain rfl:=Option.some.inj h
  exact gr 11 [] [bF h0]
theorem Qgz {s0 arrive} {rv:Int×Int} (h:QjV s0 arrive=some rv):AFn Tryz.prog 47 [.agg (Qar.enc s0),.one (lI arrive)] [] (.tup [.one (lI rv.1),.one (lI rv.2)]) []:=by
 refine QaS Tryz.func47 (by kernel_rfl) (by kernel_rfl) (fun Γ=>?_)
 unfold QjV at h
 obtain ⟨r,h0,h⟩:=Qae h
 rcases Qah h with ⟨h1,h⟩|⟨h1,h⟩
 ·obtain rfl:=Option.some.inj h
  exact gr 10 [] [cC (QpX h0),bT h1]
 ·obtain rfl:=Option.some.inj h
  exact gr 11 [] [cC (QpX h0),bF h1]
theorem Quy {a b} {rv:Int} (h:Qpn a b=some rv):AFn Tryz.prog 117 [.one (lI a),.one (lI b)] [] (one (lI rv)) []:=by
 refine QaS Tryz.func117 (by kernel_rfl) (by kernel_rfl) (fun Γ=>?_)
 unfold Qpn at h
 obtain rfl:=Option.some.inj h
 exact gr 4 [] []
def Qj9 (Γ:Gam) (rv:List Int×Int) (cf:Cf):Prop:=Go Tryz.prog Tryz.f72 [] Γ (.tup [.one (lL 1 rv.1 Qax),.one (lI rv.2)]) [] cf
def QhC (Γ:Gam) (rv:List Int×Int) (a:List Int) (b:List Int) (l:List Int) (l1:List Int) (v:Int):Prop:=Qj9 Γ rv ⟨[.c 244,.l 244,.b 0,.c 31],⟨38,[vL 0 1 a Qax,vL 1 1 b Qax,(2,one (.fn (.func 117) [])),vO 8 0 1 l1 Qax,vI 19 (lenI a),vI 20 v],[oS 1 3 l1 Qax]⟩⟩
def Qhk (Γ:Gam) (rv:List Int×Int) (a:List Int) (b:List Int) (l:List Int) (l2:List Int):Prop:=Qj9 Γ rv ⟨[.c 31],⟨38,[vO 8 0 1 l2 Qax],[oS 1 3 l2 Qax]⟩⟩
theorem Qmx (Γ:Gam) (rv:List Int×Int) {a b l} {s:List Int×Int} {e:List Int} (h:QaK (fun s=>Qbl a b l s.1 s.2) s=some e) (hD:Qhk Γ rv a b l e):QhC Γ rv a b l s.1 s.2:=by
 refine QaC (C:=fun (s:List Int×Int)=>QhC Γ rv a b l s.1 s.2) (D:=fun (e:List Int)=>Qhk Γ rv a b l e) ?_ h hD
 clear h hD s e
 rintro ⟨l1,v⟩ z_ h hI hE
 replace h:Qbl a b l l1 v=_:=h
 unfold Qbl at h
 rcases Qah h with ⟨h2,h⟩|⟨h2,h⟩
 ·obtain ⟨x0,h3,h⟩:=Qae h
  obtain ⟨x1,h4,h⟩:=Qae h
  obtain ⟨r,h5,h⟩:=Qae h
  obtain ⟨x2,h6,h⟩:=Qae h
  exact gn 13 [0,1,2,8,19,20] [0] [bT h2,hH (.draw 13 []),cE Qax h3,cE Qax h4,cC (Quy h5),oO (Qxg h6),oO (Qxf Qax h6),rE Qax h6,hH (.rows ((setI l1 v r).map Qax)),hH (.relen 0 ((setI l1 v r).map Qax).length),oO (setM Qax l1 v r),rp 2 (oO (QzP Qax l1 v r))] (hI _ (oJ h))
 ·exact gn 5 [8] [0] [bF h2] (hE _ (oJ h))
theorem Qoy {a b} {rv:List Int×Int} (h:QfZ a b=some rv):AFn Tryz.prog 72 [.one (lL 1 a Qax),.one (lL 1 b Qax),.one (.fn (.func 117) [])] [] (.tup [.one (lL 1 rv.1 Qax),.one (lI rv.2)]) []:=by
 refine QaS Tryz.func72 (by kernel_rfl) (by kernel_rfl) (fun Γ=>?_)
 unfold QfZ at h
 rcases Qah h with ⟨h0,h⟩|⟨h0,h⟩
 ·obtain rfl:=Option.some.inj h
  exact gr 8 [] [nL Qax a,nL Qax b,bT h0,hW 4,hH (.nilS 6 0 1)]
 ·obtain ⟨l,h1,h⟩:=Qae h
  obtain ⟨e0,h7,h⟩:=Qae h
  refine gn 14 [0,1,2,8,19,20] [0] [nL Qax a,nL Qax b,bF h0,nL Qax a,hH (.cells [lI 0]),hH (.rows (l.map Qax)),oO (mk1 h1),oO (mk2 h1),oO (mk3 h1),oO (mk4 h1),oO (mk5 Qax h1),nL Qax a] (Qmx Γ rv h7 ?_)
  obtain ⟨l2,rfl⟩:∃ x,x=e0:=⟨_,rfl⟩
  replace h:(some (l2,0):Option (List Int×Int))=some _:=h
  obtain rfl:=Option.some.inj h
  exact gr 2 [] [hW 5,hH (.frz 0),rp 3 (eL l2 Qax)]
theorem Qwo {a b} {rv:List Int×Int} (h:Qqu a b=some rv):AFn Tryz.prog 90 [.one (lL 1 a Qax),.one (lL 1 b Qax)] [] (.tup [.one (lL 1 rv.1 Qax),.one (lI rv.2)]) []:=by
 refine QaS Tryz.func90 (by kernel_rfl) (by kernel_rfl) (fun Γ=>?_)
 unfold Qqu at h
 obtain ⟨r,h0,h⟩:=Qae h
 obtain rfl:=Option.some.inj h
 exact gr 4 [] [cC (Qoy h0)]
theorem QgX {x0 l v} {rv:List Int} (h:Qk3 x0 l v=some rv):AFn Tryz.prog 48 [.agg (Qab.enc x0),.agg (Qad.enc l),.agg (Qaa.enc v)] [] (one (lL 1 rv Qax)) []:=by
 refine QaS Tryz.func48 (by kernel_rfl) (by kernel_rfl) (fun Γ=>?_)
 unfold Qk3 at h
 rcases Qah h with ⟨h0,h⟩|⟨h0,h⟩
 ·obtain ⟨x1,h1,h⟩:=Qae h
  obtain ⟨r,h2,h⟩:=Qae h
  obtain rfl:=Option.some.inj h
  exact gr 11 [] [bT h0,hH (.draw 14 []),cE Qaf.enc h1,cC (Qwo h2)]
 ·obtain ⟨x2,h3,h⟩:=Qae h
  obtain ⟨r1,h4,h⟩:=Qae h
  obtain rfl:=Option.some.inj h
  exact gr 11 [] [bF h0,hH (.draw 14 []),cE Qaf.enc h3,cC (Qtb h4)]
def Quv (Γ:Gam) (rv:List Qad) (cf:Cf):Prop:=Go Tryz.prog Tryz.f16 [] Γ (one (lL 9 rv Qad.enc)) [] cf
theorem QiC (Γ:Gam) (rv:List Qad) {l v r x1 r2 r3 r4 l1 open_} (h:QeM l v r x1 r2 r3 r4 l1 open_=some rv):Quv Γ rv ⟨[.c 262143],⟨178,[vP 9 0 14,vP 14 1 9],[oX 14 79 (Qag.enc x1),oX 9 47 [lI l.type_,lO 2 2 ((cpyL l1 l.visits)++[v]) Qaa.enc,lI r.1.place,lI r3.1,lI (subK .i64 (addK .i64 l.driven r2.1) l.time),lI (addK .i64 l.miles r2.2.1),lL 1 r4 Qax,lI (orK .i64 l.done (shlK .i64 1 (cvK .u64 v.order))),lI open_],oS 2 54 ((cpyL l1 l.visits)++[v]) Qaa.enc]⟩⟩:=by
 unfold QeM at h
 obtain ⟨r6,h19,h⟩:=Qae h
 obtain rfl:=Option.some.inj h
 exact gr 2 [] [hW 4,hH (.frz 2),rp 2 (oO (Eq.refl (((cpyL l1 l.visits)++[v]).map Qaa.enc).length)),cC (Qr4 h19)]
theorem QeN {x0 l v} {rv:List Qad} (h:QiB x0 l v=some rv):AFn Tryz.prog 16 [.agg (Qab.enc x0),.agg (Qad.enc l),.agg (Qaa.enc v)] [] (one (lL 9 rv Qad.enc)) []:=by
 refine QaS Tryz.func16 (by kernel_rfl) (by kernel_rfl) (fun Γ=>?_)
 unfold QiB at h
 rcases Qah h with ⟨h0,h⟩|⟨h0,h⟩
 ·obtain rfl:=Option.some.inj h
  exact gr 8 [] [rp 5 hP,rp 3 (oI ((ltI l.type_ 0)=false)),nL Qag.enc x0.types,hP,hP,rp 2 (oI ((ltI l.type_ 0)=false)),oR True ((ltI l.type_ 0)=false),bT h0,hW 3,hH (.nilS 6 0 9)]
 ·obtain ⟨r,h1,h⟩:=Qae h
  rcases Qah h with ⟨h2,h⟩|⟨h2,h⟩
  ·obtain rfl:=Option.some.inj h
   exact gr 15 [] [rp 5 hP,rp 3 (oI ((ltI l.type_ 0)=false)),nL Qag.enc x0.types,hP,hP,rp 2 (oI ((ltI l.type_ 0)=false)),oR True ((ltI l.type_ 0)=false),bF h0,cC (Qfm h1),rp 6 (bT h2),tT,hW 3,hH (.nilS 6 0 9)]
  ·obtain ⟨r1,h3,h⟩:=Qae h
   rcases Qah h with ⟨h4,h⟩|⟨h4,h⟩
   ·obtain ⟨x1,h5,h⟩:=Qae h
    obtain ⟨r2,h6,h⟩:=Qae h
    rcases Qah h with ⟨h7,h⟩|⟨h7,h⟩
    ·obtain rfl:=Option.some.inj h
     exact gr 24 [] [rp 5 hP,rp 3 (oI ((ltI l.type_ 0)=false)),nL Qag.enc x0.types,hP,hP,rp 2 (oI ((ltI l.type_ 0)=false)),oR True ((ltI l.type_ 0)=false),bF h0,cC (Qfm h1),rp 4 (bF h2),cC (Qfp h3),bF h2,bF h2,nF h4,cE Qag.enc h5,cC (QeK h6),rp 16 hP,rp 9 (oI ((neI r2.2.2 0)=false)),oR True ((neI r2.2.2 0)=false),rp 3 (oI (((neI r2.2.2 0)||(gtI (subK .i64 (addK .i64 l.driven r2.1) l.time) x1.drive))=false)),oR True (((neI r2.2.2 0)||(gtI (subK .i64 (addK .i64 l.driven r2.1) l.time) x1.drive))=false),bT h7,hW 3,hH (.nilS 6 0 9)]
    ·obtain ⟨r3,h8,h⟩:=Qae h
     obtain ⟨r4,h9,h⟩:=Qae h
     rcases Qah h with ⟨h10,h⟩|⟨h10,h⟩
     ·obtain rfl:=Option.some.inj h
      exact gr 33 [] [rp 5 hP,rp 3 (oI ((ltI l.type_ 0)=false)),nL Qag.enc x0.types,hP,hP,rp 2 (oI ((ltI l.type_ 0)=false)),oR True ((ltI l.type_ 0)=false),bF h0,cC (Qfm h1),rp 4 (bF h2),cC (Qfp h3),bF h2,bF h2,nF h4,cE Qag.enc h5,cC (QeK h6),rp 16 hP,rp 9 (oI ((neI r2.2.2 0)=false)),oR True ((neI r2.2.2 0)=false),rp 3 (oI (((neI r2.2.2 0)||(gtI (subK .i64 (addK .i64 l.driven r2.1) l.time) x1.drive))=false)),oR True (((neI r2.2.2 0)||(gtI (subK .i64 (addK .i64 l.driven r2.1) l.time) x1.drive))=false),bF h7,cC (Qgz h8),cC (QgX h9),rp 6 (bT h10),tT,hW 3,hH (.nilS 6 0 9)]
     ·obtain ⟨r5,h11,h⟩:=Qae h
      rcases Qah h with ⟨h12,h⟩|⟨h12,h⟩
      ·obtain ⟨l1,h13,h⟩:=Qae h
       obtain ⟨h14,h⟩:=Qat h
       obtain ⟨h15,h⟩:=Qat h
       rcases Qah h with ⟨h16,h⟩|⟨h16,h⟩
       ·exact gn 49 [9,14] [4,5,8] [rp 5 hP,rp 3 (oI ((ltI l.type_ 0)=false)),nL Qag.enc x0.types,hP,hP,rp 2 (oI ((ltI l.type_ 0)=false)),oR True ((ltI l.type_ 0)=false),bF h0,cC (Qfm h1),rp 4 (bF h2),cC (Qfp h3),bF h2,bF h2,nF h4,cE Qag.enc h5,cC (QeK h6),rp 16 hP,rp 9 (oI ((neI r2.2.2 0)=false)),oR True ((neI r2.2.2 0)=false),rp 3 (oI (((neI r2.2.2 0)||(gtI (subK .i64 (addK .i64 l.driven r2.1) l.time) x1.drive))=false)),oR True (((neI r2.2.2 0)||(gtI (subK .i64 (addK .i64 l.driven r2.1) l.time) x1.drive))=false),bF h7,cC (Qgz h8),cC (QgX h9),rp 4 (bF h10),cC (Qgd h11),rp 2 (bF h10),nF h12,rp 2 (nL Qaa.enc l.visits),hH (.cells [lI 0,.bool false]),hH (.rows (l1.map Qaa.enc)),oO (mk1 h13),oO (mk2 h13),oO (mk3 h13),oO (mk4 h13),oO (mk5 Qaa.enc h13),cY Qaa.enc l1 l.visits,hH (.relen 6 ((cpyL l1 l.visits).map Qaa.enc).length),rp 3 (oO (QBV Qaa.enc l1 l.visits)),oO (Eq.refl ([v].map Qaa.enc).length),aO Qaa.enc h14,oO (h15),bT h16] (QiC Γ rv h)
       ·obtain ⟨x2,h17,h⟩:=Qae h
        rcases Qah h with ⟨h18,h⟩|⟨h18,h⟩
        ·exact gn 52 [9,14] [4,5,8] [rp 5 hP,rp 3 (oI ((ltI l.type_ 0)=false)),nL Qag.enc x0.types,hP,hP,rp 2 (oI ((ltI l.type_ 0)=false)),oR True ((ltI l.type_ 0)=false),bF h0,cC (Qfm h1),rp 4 (bF h2),cC (Qfp h3),bF h2,bF h2,nF h4,cE Qag.enc h5,cC (QeK h6),rp 16 hP,rp 9 (oI ((neI r2.2.2 0)=false)),oR True ((neI r2.2.2 0)=false),rp 3 (oI (((neI r2.2.2 0)||(gtI (subK .i64 (addK .i64 l.driven r2.1) l.time) x1.drive))=false)),oR True (((neI r2.2.2 0)||(gtI (subK .i64 (addK .i64 l.driven r2.1) l.time) x1.drive))=false),bF h7,cC (Qgz h8),cC (QgX h9),rp 4 (bF h10),cC (Qgd h11),rp 2 (bF h10),nF h12,rp 2 (nL Qaa.enc l.visits),hH (.cells [lI 0,.bool false]),hH (.rows (l1.map Qaa.enc)),oO (mk1 h13),oO (mk2 h13),oO (mk3 h13),oO (mk4 h13),oO (mk5 Qaa.enc h13),cY Qaa.enc l1 l.visits,hH (.relen 6 ((cpyL l1 l.visits).map Qaa.enc).length),rp 3 (oO (QBV Qaa.enc l1 l.visits)),oO (Eq.refl ([v].map Qaa.enc).length),aO Qaa.enc h14,oO (h15),bF h16,cE Qaf.enc h17,bT h18] (QiC Γ rv h)
        ·exact gn 52 [9,14] [4,5,8] [rp 5 hP,rp 3 (oI ((ltI l.type_ 0)=false)),nL Qag.enc x0.types,hP,hP,rp 2 (oI ((ltI l.type_ 0)=false)),oR True ((ltI l.type_ 0)=false),bF h0,cC (Qfm h1),rp 4 (bF h2),cC (Qfp h3),bF h2,bF h2,nF h4,cE Qag.enc h5,cC (QeK h6),rp 16 hP,rp 9 (oI ((neI r2.2.2 0)=false)),oR True ((neI r2.2.2 0)=false),rp 3 (oI (((neI r2.2.2 0)||(gtI (subK .i64 (addK .i64 l.driven r2.1) l.time) x1.drive))=false)),oR True (((neI r2.2.2 0)||(gtI (subK .i64 (addK .i64 l.driven r2.1) l.time) x1.drive))=false),bF h7,cC (Qgz h8),cC (QgX h9),rp 4 (bF h10),cC (Qgd h11),rp 2 (bF h10),nF h12,rp 2 (nL Qaa.enc l.visits),hH (.cells [lI 0,.bool false]),hH (.rows (l1.map Qaa.enc)),oO (mk1 h13),oO (mk2 h13),oO (mk3 h13),oO (mk4 h13),oO (mk5 Qaa.enc h13),cY Qaa.enc l1 l.visits,hH (.relen 6 ((cpyL l1 l.visits).map Qaa.enc).length),rp 3 (oO (QBV Qaa.enc l1 l.visits)),oO (Eq.refl ([v].map Qaa.enc).length),aO Qaa.enc h14,oO (h15),bF h16,cE Qaf.enc h17,bF h18] (QiC Γ rv h)
      ·obtain rfl:=Option.some.inj h
       exact gr 33 [] [rp 5 hP,rp 3 (oI ((ltI l.type_ 0)=false)),nL Qag.enc x0.types,hP,hP,rp 2 (oI ((ltI l.type_ 0)=false)),oR True ((ltI l.type_ 0)=false),bF h0,cC (Qfm h1),rp 4 (bF h2),cC (Qfp h3),bF h2,bF h2,nF h4,cE Qag.enc h5,cC (QeK h6),rp 16 hP,rp 9 (oI ((neI r2.2.2 0)=false)),oR True ((neI r2.2.2 0)=false),rp 3 (oI (((neI r2.2.2 0)||(gtI (subK .i64 (addK .i64 l.driven r2.1) l.time) x1.drive))=false)),oR True (((neI r2.2.2 0)||(gtI (subK .i64 (addK .i64 l.driven r2.1) l.time) x1.drive))=false),bF h7,cC (Qgz h8),cC (QgX h9),rp 4 (bF h10),cC (Qgd h11),rp 2 (bF h10),nT h12,hW 3,hH (.nilS 6 0 9)]
   ·obtain rfl:=Option.some.inj h
    exact gr 15 [] [rp 5 hP,rp 3 (oI ((ltI l.type_ 0)=false)),nL Qag.enc x0.types,hP,hP,rp 2 (oI ((ltI l.type_ 0)=false)),oR True ((ltI l.type_ 0)=false),bF h0,cC (Qfm h1),rp 4 (bF h2),cC (Qfp h3),bF h2,bF h2,nT h4,hW 3,hH (.nilS 6 0 9)]
def QkM (Γ:Gam) (rv:List Int) (cf:Cf):Prop:=Go Tryz.prog Tryz.f143 [] Γ (one (lL 1 rv Qax)) [] cf
def QnW (Γ:Gam) (rv:List Int) (before:List Qau) (l:List Int) (l2:List Int) (more1:Bool) (v:Int):Prop:=QkM Γ rv ⟨[.c 7468,.l 7468,.b 2,.b 1,.l 116,.b 0,.c 15],⟨68,[vL 1 2 before Qau.enc,vO 5 0 1 l2 Qax,vB 6 more1,vL 16 2 before Qau.enc,vI 17 (lenI before),vI 18 v],[oS 1 3 l2 Qax]⟩⟩
def Qm4 (Γ:Gam) (rv:List Int) (before:List Qau) (l:List Int) (l3:List Int) (more2:Bool):Prop:=QkM Γ rv ⟨[.b 1,.l 116,.b 0,.c 15],⟨68,[vL 1 2 before Qau.enc,vO 5 0 1 l3 Qax,vB 6 more2],[oS 1 3 l3 Qax]⟩⟩
def QnV (Γ:Gam) (rv:List Int) (before:List Qau) (l:List Int) (l1:List Int) (more:Bool):Prop:=QkM Γ rv ⟨[.c 116,.l 116,.b 0,.c 15],⟨68,[vL 1 2 before Qau.enc,vO 5 0 1 l1 Qax,vB 6 more],[oS 1 3 l1 Qax]⟩⟩
def Qm3 (Γ:Gam) (rv:List Int) (before:List Qau) (l:List Int) (l4:List Int):Prop:=QkM Γ rv ⟨[.c 15],⟨68,[vO 5 0 1 l4 Qax],[oS 1 3 l4 Qax]⟩⟩
theorem QrL (Γ:Gam) (rv:List Int) {before l} {s:List Int×Bool×Int} {e:List Int×Bool} (h:QaK (fun s=>QcY before l s.1 s.2.1 s.2.2) s=some e) (hD:Qm4 Γ rv before l e.1 e.2):QnW Γ rv before l s.1 s.2.1 s.2.2:=by
 refine QaC (C:=fun (s:List Int×Bool×Int)=>QnW Γ rv before l s.1 s.2.1 s.2.2) (D:=fun (e:List Int×Bool)=>Qm4 Γ rv before l e.1 e.2) ?_ h hD
 clear h hD s e
 rintro ⟨l2,more1,v⟩ z_ h hI hE
 replace h:QcY before l l2 more1 v=_:=h
 unfold QcY at h
 rcases Qah h with ⟨h2,h⟩|⟨h2,h⟩
 ·obtain ⟨x0,h3,h⟩:=Qae h
  rcases Qah h with ⟨h4,h⟩|⟨h4,h⟩
  ·exact gn 18 [1,5,6,16,17,18] [0] [bT h2,cE Qau.enc h3,hH (.draw 6 []),rp 6 hP,oO (zL 0),oO (lT 0 2),oO (zL 1),oO (lT 1 2),oI ((ltI x0.x0 0)=false),oR True ((ltI x0.x0 0)=false),oI (((ltI x0.x0 0)||(ltI x0.x1 0))=false),nL Qax l2,rp 5 hP,rp 2 (oI (((ltI x0.x0 0)||(ltI x0.x1 0))=false)),oR True (((ltI x0.x0 0)||(ltI x0.x1 0))=false),oI ((((ltI x0.x0 0)||(ltI x0.x1 0))||(geI x0.x0 (lenI l2)))=false),nL Qax l2,hP,hP,rp 2 (oI ((((ltI x0.x0 0)||(ltI x0.x1 0))||(geI x0.x0 (lenI l2)))=false)),oR True ((((ltI x0.x0 0)||(ltI x0.x1 0))||(geI x0.x0 (lenI l2)))=false),bT h4] (hI _ (oJ h))
  ·obtain ⟨x1,h5,h⟩:=Qae h
   obtain ⟨x2,h6,h⟩:=Qae h
   obtain ⟨h7,h⟩:=Qat h
   rcases Qah h with ⟨h8,h⟩|⟨h8,h⟩
   ·exact gn 27 [1,5,6,16,17,18] [0] [bT h2,cE Qau.enc h3,hH (.draw 6 []),rp 6 hP,oO (zL 0),oO (lT 0 2),oO (zL 1),oO (lT 1 2),oI ((ltI x0.x0 0)=false),oR True ((ltI x0.x0 0)=false),oI (((ltI x0.x0 0)||(ltI x0.x1 0))=false),nL Qax l2,rp 5 hP,rp 2 (oI (((ltI x0.x0 0)||(ltI x0.x1 0))=false)),oR True (((ltI x0.x0 0)||(ltI x0.x1 0))=false),oI ((((ltI x0.x0 0)||(ltI x0.x1 0))||(geI x0.x0 (lenI l2)))=false),nL Qax l2,hP,hP,rp 2 (oI ((((ltI x0.x0 0)||(ltI x0.x1 0))||(geI x0.x0 (lenI l2)))=false)),oR True ((((ltI x0.x0 0)||(ltI x0.x1 0))||(geI x0.x0 (lenI l2)))=false),bF h4,hH (.draw 13 []),oO (Qxg h5),oO (Qxf Qax h5),rE Qax h5,oO (Qxg h6),oO (Qxf Qax h6),rE Qax h6,oO (h7),oO (Qxg h5),oO (Qxf Qax h5),rE Qax h5,bT h8,oO (Qxg h5),oO (Qxf Qax h5),rE Qax h5,hH (.rows ((setI l2 x0.x1 (orK .i64 (orK .i64 x1 x2) (shlK .i64 1 x0.x0))).map Qax)),hH (.relen 0 ((setI l2 x0.x1 (orK .i64 (orK .i64 x1 x2) (shlK .i64 1 x0.x0))).map Qax).length),oO (setM Qax l2 x0.x1 (orK .i64 (orK .i64 x1 x2) (shlK .i64 1 x0.x0))),rp 5 (oO (QzP Qax l2 x0.x1 (orK .i64 (orK .i64 x1 x2) (shlK .i64 1 x0.x0))))] (hI _ (oJ h))
   ·exact gn 25 [1,5,6,16,17,18] [0] [bT h2,cE Qau.enc h3,hH (.draw 6 []),rp 6 hP,oO (zL 0),oO (lT 0 2),oO (zL 1),oO (lT 1 2),oI ((ltI x0.x0 0)=false),oR True ((ltI x0.x0 0)=false),oI (((ltI x0.x0 0)||(ltI x0.x1 0))=false),nL Qax l2,rp 5 hP,rp 2 (oI (((ltI x0.x0 0)||(ltI x0.x1 0))=false)),oR True (((ltI x0.x0 0)||(ltI x0.x1 0))=false),oI ((((ltI x0.x0 0)||(ltI x0.x1 0))||(geI x0.x0 (lenI l2)))=false),nL Qax l2,hP,hP,rp 2 (oI ((((ltI x0.x0 0)||(ltI x0.x1 0))||(geI x0.x0 (lenI l2)))=false)),oR True ((((ltI x0.x0 0)||(ltI x0.x1 0))||(geI x0.x0 (lenI l2)))=false),bF h4,hH (.draw 13 []),oO (Qxg h5),oO (Qxf Qax h5),rE Qax h5,oO (Qxg h6),oO (Qxf Qax h6),rE Qax h6,oO (h7),oO (Qxg h5),oO (Qxf Qax h5),rE Qax h5,bF h8] (hI _ (oJ h))
 ·exact gn 5 [1,5,6] [0] [bF h2] (hE _ (oJ h))
theorem QrK (Γ:Gam) (rv:List Int) {before l} {s:List Int×Bool} {e:List Int} (h:QaK (fun s=>QcX before l s.1 s.2) s=some e) (hD:Qm3 Γ rv before l e):QnV Γ rv before l s.1 s.2:=by
 refine QaC (C:=fun (s:List Int×Bool)=>QnV Γ rv before l s.1 s.2) (D:=fun (e:List Int)=>Qm3 Γ rv before l e) ?_ h hD
 clear h hD s e
 rintro ⟨l1,more⟩ z_ h hI hE
 replace h:QcX before l l1 more=_:=h
 unfold QcX at h
 rcases Qah h with ⟨h1,h⟩|⟨h1,h⟩
 ·obtain ⟨e0,h9,h⟩:=Qae h
  refine gn 12 [1,5,6,16,17,18] [0] [bT h1,nL Qau.enc before] (QrL Γ rv h9 ?_)
  obtain ⟨l3,more2⟩:=e0
  replace h:(some (.inl (l3,more2)):Option ((List Int×Bool)⊕(List Int)))=some _:=h
  exact gn 2 [1,5,6] [0] [] (hI _ (oJ h))
 ·exact gn 5 [5] [0] [bF h1] (hE _ (oJ h))
theorem QtZ {orders before} {rv:List Int} (h:Qel orders before=some rv):AFn Tryz.prog 143 [.one (lI orders),.one (lL 2 before Qau.enc)] [] (one (lL 1 rv Qax)) []:=by
 refine QaS Tryz.func143 (by kernel_rfl) (by kernel_rfl) (fun Γ=>?_)
 unfold Qel at h
 obtain ⟨l,h0,h⟩:=Qae h
 obtain ⟨e1,h10,h⟩:=Qae h
 refine gn 9 [1,5,6] [0] [hH (.cells [lI 0]),hH (.rows (l.map Qax)),oO (mk1 h0),oO (mk2 h0),oO (mk3 h0),oO (mk4 h0),oO (mk5 Qax h0)] (QrK Γ rv h10 ?_)
 obtain ⟨l4,rfl⟩:∃ x,x=e1:=⟨_,rfl⟩
 replace h:(some l4:Option (List Int))=some _:=h
 obtain rfl:=Option.some.inj h
 exact gr 2 [] [hW 4,hH (.frz 0),rp 3 (eL l4 Qax)]
def QcW (Γ:Gam) (rv:Int) (cf:Cf):Prop:=Go Tryz.prog Tryz.f122 [] Γ (one (lI rv)) [] cf
def QmY (Γ:Gam) (rv:Int) (x0:Qab) (set_:Int) (r:List Int) (v:Int):Prop:=QcW Γ rv ⟨[.c 244,.l 244,.b 0,.c 31],⟨102,[vI 1 set_,vP 2 0 6,vL 5 1 r Qax,vL 21 1 r Qax,vI 22 (lenI r),vI 23 v],[oX 6 30 (Qab.enc x0)]⟩⟩
def Ql0 (Γ:Gam) (rv:Int) (x0:Qab) (set_:Int) (r:List Int):Prop:=QcW Γ rv ⟨[.c 31],⟨102,[vI 1 set_,vP 2 0 6,vL 5 1 r Qax],[oX 6 30 (Qab.enc x0)]⟩⟩
def QmZ (Γ:Gam) (rv:Int) (x0:Qab) (set_:Int) (r:List Int) (v1:Int):Prop:=QcW Γ rv ⟨[.c 500,.l 500,.b 2,.c 63],⟨102,[vI 1 set_,vP 2 0 6,vL 5 1 r Qax,vL 33 1 r Qax,vI 34 (lenI r),vI 35 v1],[oX 6 30 (Qab.enc x0)]⟩⟩
def Ql1 (Γ:Gam) (rv:Int) (x0:Qab) (set_:Int) (r:List Int):Prop:=QcW Γ rv ⟨[.c 63],⟨102,[vI 1 set_,vP 2 0 6,vL 5 1 r Qax],[oX 6 30 (Qab.enc x0)]⟩⟩
def Qm0 (Γ:Gam) (rv:Int) (x0:Qab) (set_:Int) (r:List Int) (v2:Int):Prop:=QcW Γ rv ⟨[.c 1012,.l 1012,.b 4,.c 127],⟨102,[vI 1 set_,vP 2 0 6,vL 5 1 r Qax,vL 47 2 x0.apart Qau.enc,vI 48 (lenI x0.apart),vI 49 v2],[oX 6 30 (Qab.enc x0)]⟩⟩
def Ql2 (Γ:Gam) (rv:Int) (x0:Qab) (set_:Int) (r:List Int):Prop:=QcW Γ rv ⟨[.c 127],⟨102,[vI 1 set_,vP 2 0 6,vL 5 1 r Qax],[oX 6 30 (Qab.enc x0)]⟩⟩
def Qm1 (Γ:Gam) (rv:Int) (x0:Qab) (set_:Int) (r:List Int) (v3:Int):Prop:=QcW Γ rv ⟨[.c 2036,.l 2036,.b 6,.c 255],⟨102,[vI 1 set_,vP 2 0 6,vL 5 1 r Qax,vL 65 2 x0.before Qau.enc,vI 66 (lenI x0.before),vI 67 v3],[oX 6 30 (Qab.enc x0)]⟩⟩
def Ql3 (Γ:Gam) (rv:Int) (x0:Qab) (set_:Int) (r:List Int):Prop:=QcW Γ rv ⟨[.c 255],⟨102,[vP 2 0 6,vL 5 1 r Qax],[oX 6 30 (Qab.enc x0)]⟩⟩
def Qm2 (Γ:Gam) (rv:Int) (r:List Int) (r5:List Int) (v4:Int):Prop:=QcW Γ rv ⟨[.c 8180,.l 8180,.b 8,.c 1023],⟨102,[vL 14 1 r5 Qax,vL 89 1 r Qax,vI 90 (lenI r),vI 91 v4],[]⟩⟩
def Ql4 (Γ:Gam) (rv:Int) (r:List Int) (r5:List Int):Prop:=QcW Γ rv ⟨[.c 1023],⟨102,[],[]⟩⟩
theorem QqS (Γ:Gam) (rv:Int) {x0 set_ r} {s:Int} {e:(Unit)⊕(Int)} (h:QaK (fun s=>QaZ x0 set_ r s) s=some e) (hD:sel e (fun e=>Ql0 Γ rv x0 set_ r) (fun e=>e=rv)):QmY Γ rv x0 set_ r s:=by
 refine QaC (C:=fun (s:Int)=>QmY Γ rv x0 set_ r s) (D:=fun (e:(Unit)⊕(Int))=>sel e (fun e=>Ql0 Γ rv x0 set_ r) (fun e=>e=rv)) ?_ h hD
 clear h hD s e
 intro v z_ h hI hE
 replace h:QaZ x0 set_ r v=_:=h
 unfold QaZ at h
 rcases Qah h with ⟨h2,h⟩|⟨h2,h⟩
 ·obtain ⟨x1,h3,h⟩:=Qae h
  rcases Qah h with ⟨h4,h⟩|⟨h4,h⟩
  ·obtain rfl:=(hE _ (oJ h):_=rv)
   exact gr 14 [] [bT h2,cE Qax h3,nL Qaf.enc x0.orders,bT h4]
  ·exact gn 16 [1,2,5,21,22,23] [0] [bT h2,cE Qax h3,nL Qaf.enc x0.orders,bF h4] (hI _ (oJ h))
 ·exact gn 5 [1,2,5] [0] [bF h2] (hE _ (oJ h))
theorem QqT (Γ:Gam) (rv:Int) {x0 set_ r} {s:Int} {e:(Unit)⊕(Int)} (h:QaK (fun s=>QaY x0 set_ r s) s=some e) (hD:sel e (fun e=>Ql1 Γ rv x0 set_ r) (fun e=>e=rv)):QmZ Γ rv x0 set_ r s:=by
 refine QaC (C:=fun (s:Int)=>QmZ Γ rv x0 set_ r s) (D:=fun (e:(Unit)⊕(Int))=>sel e (fun e=>Ql1 Γ rv x0 set_ r) (fun e=>e=rv)) ?_ h hD
 clear h hD s e
 intro v1 z_ h hI hE
 replace h:QaY x0 set_ r v1=_:=h
 unfold QaY at h
 rcases Qah h with ⟨h6,h⟩|⟨h6,h⟩
 ·obtain ⟨x2,h7,h⟩:=Qae h
  obtain ⟨x3,h8,h⟩:=Qae h
  rcases Qah h with ⟨h9,h⟩|⟨h9,h⟩
  ·obtain rfl:=(hE _ (oJ h):_=rv)
   exact gr 14 [] [bT h6,cE Qax h7,cE Qaf.enc h8,bT h9]
  ·exact gn 16 [1,2,5,33,34,35] [0] [bT h6,cE Qax h7,cE Qaf.enc h8,bF h9] (hI _ (oJ h))
 ·exact gn 5 [1,2,5] [0] [bF h6] (hE _ (oJ h))
theorem QqU (Γ:Gam) (rv:Int) {x0 set_ r} {s:Int} {e:(Unit)⊕(Int)} (h:QaK (fun s=>QaT x0 set_ r s) s=some e) (hD:sel e (fun e=>Ql2 Γ rv x0 set_ r) (fun e=>e=rv)):Qm0 Γ rv x0 set_ r s:=by
 refine QaC (C:=fun (s:Int)=>Qm0 Γ rv x0 set_ r s) (D:=fun (e:(Unit)⊕(Int))=>sel e (fun e=>Ql2 Γ rv x0 set_ r) (fun e=>e=rv)) ?_ h hD
 clear h hD s e
 intro v2 z_ h hI hE
 replace h:QaT x0 set_ r v2=_:=h
 unfold QaT at h
 rcases Qah h with ⟨h11,h⟩|⟨h11,h⟩
 ·obtain ⟨x4,h12,h⟩:=Qae h
  obtain ⟨r1,h13,h⟩:=Qae h
  rcases Qah h with ⟨h14,h⟩|⟨h14,h⟩
  ·obtain ⟨r2,h15,h⟩:=Qae h
   rcases Qah h with ⟨h16,h⟩|⟨h16,h⟩
   ·obtain rfl:=(hE _ (oJ h):_=rv)
    exact gr 14 [] [bT h11,cE Qau.enc h12,oO (zL 0),oO (lT 0 2),cC (QaB h13),rp 2 (bT h14),oO (zL 1),oO (lT 1 2),rp 2 (bT h14),cC (QaB h15),bT h14,bT h16]
   ·exact gn 16 [1,2,5,47,48,49] [0] [bT h11,cE Qau.enc h12,oO (zL 0),oO (lT 0 2),cC (QaB h13),rp 2 (bT h14),oO (zL 1),oO (lT 1 2),rp 2 (bT h14),cC (QaB h15),bT h14,bF h16] (hI _ (oJ h))
  ·exact gn 16 [1,2,5,47,48,49] [0] [bT h11,cE Qau.enc h12,oO (zL 0),oO (lT 0 2),cC (QaB h13),rp 5 (bF h14),fF] (hI _ (oJ h))
 ·exact gn 5 [1,2,5] [0] [bF h11] (hE _ (oJ h))
theorem QqV (Γ:Gam) (rv:Int) {x0 set_ r} {s:Int} {e:(Unit)⊕(Int)} (h:QaK (fun s=>QaQ x0 set_ r s) s=some e) (hD:sel e (fun e=>Ql3 Γ rv x0 set_ r) (fun e=>e=rv)):Qm1 Γ rv x0 set_ r s:=by
 refine QaC (C:=fun (s:Int)=>Qm1 Γ rv x0 set_ r s) (D:=fun (e:(Unit)⊕(Int))=>sel e (fun e=>Ql3 Γ rv x0 set_ r) (fun e=>e=rv)) ?_ h hD
 clear h hD s e
 intro v3 z_ h hI hE
 replace h:QaQ x0 set_ r v3=_:=h
 unfold QaQ at h
 rcases Qah h with ⟨h18,h⟩|⟨h18,h⟩
 ·obtain ⟨x5,h19,h⟩:=Qae h
  obtain ⟨r3,h20,h⟩:=Qae h
  rcases Qah h with ⟨h21,h⟩|⟨h21,h⟩
  ·obtain ⟨r4,h22,h⟩:=Qae h
   rcases Qah h with ⟨h23,h⟩|⟨h23,h⟩
   ·exact gn 16 [1,2,5,65,66,67] [0] [bT h18,cE Qau.enc h19,oO (zL 1),oO (lT 1 2),cC (QaB h20),rp 2 (bT h21),oO (zL 0),oO (lT 0 2),rp 2 (bT h21),cC (QaB h22),rp 2 (bT h21),nF h23] (hI _ (oJ h))
   ·obtain rfl:=(hE _ (oJ h):_=rv)
    exact gr 14 [] [bT h18,cE Qau.enc h19,oO (zL 1),oO (lT 1 2),cC (QaB h20),rp 2 (bT h21),oO (zL 0),oO (lT 0 2),rp 2 (bT h21),cC (QaB h22),rp 2 (bT h21),nT h23]
  ·exact gn 16 [1,2,5,65,66,67] [0] [bT h18,cE Qau.enc h19,oO (zL 1),oO (lT 1 2),cC (QaB h20),rp 6 (bF h21),fF] (hI _ (oJ h))
 ·exact gn 5 [2,5] [0] [bF h18] (hE _ (oJ h))
theorem QqW (Γ:Gam) (rv:Int) {r r5} {s:Int} {e:(Unit)⊕(Int)} (h:QaK (fun s=>QaN r r5 s) s=some e) (hD:sel e (fun e=>Ql4 Γ rv r r5) (fun e=>e=rv)):Qm2 Γ rv r r5 s:=by
 refine QaC (C:=fun (s:Int)=>Qm2 Γ rv r r5 s) (D:=fun (e:(Unit)⊕(Int))=>sel e (fun e=>Ql4 Γ rv r r5) (fun e=>e=rv)) ?_ h hD
 clear h hD s e
 intro v4 z_ h hI hE
 replace h:QaN r r5 v4=_:=h
 unfold QaN at h
 rcases Qah h with ⟨h26,h⟩|⟨h26,h⟩
 ·obtain ⟨x6,h27,h⟩:=Qae h
  obtain ⟨x7,h28,h⟩:=Qae h
  obtain ⟨r6,h29,h⟩:=Qae h
  rcases Qah h with ⟨h30,h⟩|⟨h30,h⟩
  ·obtain rfl:=(hE _ (oJ h):_=rv)
   exact gr 14 [] [bT h26,cE Qax h27,cE Qax h28,cC (QaB h29),bT h30]
  ·exact gn 16 [14,89,90,91] [] [bT h26,cE Qax h27,cE Qax h28,cC (QaB h29),bF h30] (hI _ (oJ h))
 ·exact gn 5 [] [] [bF h26] (hE _ (oJ h))
theorem Qtv {x0 set_} {rv:Int} (h:Qdz x0 set_=some rv):AFn Tryz.prog 122 [.agg (Qab.enc x0),.one (lI set_)] [] (one (lI rv)) []:=by
 refine QaS Tryz.func122 (by kernel_rfl) (by kernel_rfl) (fun Γ=>?_)
 unfold Qdz at h
 rcases Qah h with ⟨h0,h⟩|⟨h0,h⟩
 ·obtain rfl:=Option.some.inj h
  exact gr 8 [] [bT h0]
 ·obtain ⟨r,h1,h⟩:=Qae h
  obtain ⟨e0,h5,h⟩:=Qae h
  refine gn 14 [1,2,5,21,22,23] [0] [bF h0,cC (Qml h1),nL Qax r] (QqS Γ rv h5 ?_)
  rcases e0 with e0|e0
  ·replace h:(bnd (QaK (fun s=>QaY x0 set_ r s) 0) (fun e=>sel e (fun (_:Unit)=>bnd (QaK (fun s=>QaT x0 set_ r s) 0) (fun e=>sel e (fun (_:Unit)=>bnd (QaK (fun s=>QaQ x0 set_ r s) 0) (fun e=>sel e (fun (_:Unit)=>bnd (Qel (lenI x0.orders) x0.before) fun r5=>bnd (QaK (fun s=>QaN r r5 s) 0) (fun e=>sel e (fun (_:Unit)=>some 0) (fun r7=>some r7))) (fun r8=>some r8))) (fun r9=>some r9))) (fun r10=>some r10)):Option Int)=some _:=h
   obtain ⟨e1,h10,h⟩:=Qae h
   refine gn 5 [1,2,5,33,34,35] [0] [nL Qax r] (QqT Γ rv h10 ?_)
   rcases e1 with e1|e1
   ·replace h:(bnd (QaK (fun s=>QaT x0 set_ r s) 0) (fun e=>sel e (fun (_:Unit)=>bnd (QaK (fun s=>QaQ x0 set_ r s) 0) (fun e=>sel e (fun (_:Unit)=>bnd (Qel (lenI x0.orders) x0.before) fun r5=>bnd (QaK (fun s=>QaN r r5 s) 0) (fun e=>sel e (fun (_:Unit)=>some 0) (fun r7=>some r7))) (fun r8=>some r8))) (fun r9=>some r9)):Option Int)=some _:=h
    obtain ⟨e2,h17,h⟩:=Qae h
    refine gn 5 [1,2,5,47,48,49] [0] [nL Qau.enc x0.apart] (QqU Γ rv h17 ?_)
    rcases e2 with e2|e2
    ·replace h:(bnd (QaK (fun s=>QaQ x0 set_ r s) 0) (fun e=>sel e (fun (_:Unit)=>bnd (Qel (lenI x0.orders) x0.before) fun r5=>bnd (QaK (fun s=>QaN r r5 s) 0) (fun e=>sel e (fun (_:Unit)=>some 0) (fun r7=>some r7))) (fun r8=>some r8)):Option Int)=some _:=h
     obtain ⟨e3,h24,h⟩:=Qae h
     refine gn 5 [1,2,5,65,66,67] [0] [nL Qau.enc x0.before] (QqV Γ rv h24 ?_)
     rcases e3 with e3|e3
     ·replace h:(bnd (Qel (lenI x0.orders) x0.before) fun r5=>bnd (QaK (fun s=>QaN r r5 s) 0) (fun e=>sel e (fun (_:Unit)=>some 0) (fun r7=>some r7)):Option Int)=some _:=h
      obtain ⟨r5,h25,h⟩:=Qae h
      obtain ⟨e4,h31,h⟩:=Qae h
      refine gn 7 [14,89,90,91] [] [nL Qaf.enc x0.orders,cC (QtZ h25),nL Qax r] (QqW Γ rv h31 ?_)
      rcases e4 with e4|e4
      ·replace h:(some 0:Option Int)=some _:=h
       obtain rfl:=Option.some.inj h
       exact gr 2 [] []
      ·obtain ⟨r7,rfl⟩:∃ x,x=e4:=⟨_,rfl⟩
       replace h:(some r7:Option Int)=some _:=h
       exact Option.some.inj h
     ·obtain ⟨r8,rfl⟩:∃ x,x=e3:=⟨_,rfl⟩
      replace h:(some r8:Option Int)=some _:=h
      exact Option.some.inj h
    ·obtain ⟨r9,rfl⟩:∃ x,x=e2:=⟨_,rfl⟩
     replace h:(some r9:Option Int)=some _:=h
     exact Option.some.inj h
   ·obtain ⟨r10,rfl⟩:∃ x,x=e1:=⟨_,rfl⟩
    replace h:(some r10:Option Int)=some _:=h
    exact Option.some.inj h
  ·obtain ⟨r11,rfl⟩:∃ x,x=e0:=⟨_,rfl⟩
   replace h:(some r11:Option Int)=some _:=h
   exact Option.some.inj h
def Qlw (Γ:Gam) (rv:Bool) (cf:Cf):Prop:=Go Tryz.prog Tryz.f93 [] Γ (one (.bool rv)) [] cf
def Qiw (Γ:Gam) (rv:Bool) (x0:Qab) (set_:Int) (v:Int):Prop:=Qlw Γ rv ⟨[.c 52,.l 52,.b 0,.c 7],⟨29,[vI 1 set_,vP 2 0 6,vL 8 16 x0.orders Qaf.enc,vI 9 (lenI x0.orders),vI 10 v],[oX 6 30 (Qab.enc x0)]⟩⟩
def QhZ (Γ:Gam) (rv:Bool) (x0:Qab) (set_:Int):Prop:=Qlw Γ rv ⟨[.c 7],⟨29,[vI 1 set_,vP 2 0 6],[oX 6 30 (Qab.enc x0)]⟩⟩
theorem Qnu (Γ:Gam) (rv:Bool) {x0 set_} {s:Int} {e:(Unit)⊕(Bool)} (h:QaK (fun s=>QbD x0 set_ s) s=some e) (hD:sel e (fun e=>QhZ Γ rv x0 set_) (fun e=>e=rv)):Qiw Γ rv x0 set_ s:=by
 refine QaC (C:=fun (s:Int)=>Qiw Γ rv x0 set_ s) (D:=fun (e:(Unit)⊕(Bool))=>sel e (fun e=>QhZ Γ rv x0 set_) (fun e=>e=rv)) ?_ h hD
 clear h hD s e
 intro v z_ h hI hE
 replace h:QbD x0 set_ v=_:=h
 unfold QbD at h
 rcases Qah h with ⟨h0,h⟩|⟨h0,h⟩
 ·obtain ⟨x1,h1,h⟩:=Qae h
  obtain ⟨h2,h⟩:=Qat h
  rcases Qah h with ⟨h3,h⟩|⟨h3,h⟩
  ·obtain rfl:=(hE _ (oJ h):_=rv)
   exact gr 14 [] [bT h0,cE Qaf.enc h1,hP,hP,hP,oO (h2),oI ((eqI (andK .i64 (shrK .i64 set_ v) 1) 1)=true),oR True ((eqI (andK .i64 (shrK .i64 set_ v) 1) 1)=true),bT h3]
  ·exact gn 16 [1,2,8,9,10] [0] [bT h0,cE Qaf.enc h1,hP,hP,hP,oO (h2),oI ((eqI (andK .i64 (shrK .i64 set_ v) 1) 1)=true),oR True ((eqI (andK .i64 (shrK .i64 set_ v) 1) 1)=true),bF h3] (hI _ (oJ h))
 ·exact gn 5 [1,2] [0] [bF h0] (hE _ (oJ h))
theorem QkJ {x0 set_} {rv:Bool} (h:Qff x0 set_=some rv):AFn Tryz.prog 93 [.agg (Qab.enc x0),.one (lI set_)] [] (one (.bool rv)) []:=by
 refine QaS Tryz.func93 (by kernel_rfl) (by kernel_rfl) (fun Γ=>?_)
 unfold Qff at h
 obtain ⟨e0,h4,h⟩:=Qae h
 refine gn 7 [1,2,8,9,10] [0] [nL Qaf.enc x0.orders] (Qnu Γ rv h4 ?_)
 rcases e0 with e0|e0
 ·replace h:(bnd (Qdz x0 set_) fun r=>some (neI r 0):Option Bool)=some _:=h
  obtain ⟨r,h5,h⟩:=Qae h
  obtain rfl:=Option.some.inj h
  exact gr 2 [] [cC (Qtv h5)]
 ·obtain ⟨r1,rfl⟩:∃ x,x=e0:=⟨_,rfl⟩
  replace h:(some r1:Option Bool)=some _:=h
  exact Option.some.inj h
def QuK (Γ:Gam) (rv:List Qaa) (cf:Cf):Prop:=Go Tryz.prog Tryz.f94 [] Γ (one (lL 2 rv Qaa.enc)) [] cf
theorem QmW (Γ:Gam) (rv:List Qaa) {l at_ l1} (h:QfX l at_ l1=some rv):QuK Γ rv ⟨[.c 31],⟨35,[vL 0 16 l Qaf.enc,vI 1 at_,vO 5 0 2 l1 Qaa.enc],[oS 2 54 l1 Qaa.enc]⟩⟩:=by
 unfold QfX at h
 obtain ⟨x1,h5,h⟩:=Qae h
 rcases Qah h with ⟨h6,h⟩|⟨h6,h⟩
 ·obtain ⟨h7,h⟩:=Qat h
  obtain rfl:=Option.some.inj h
  exact gr 7 [] [cE Qaf.enc h5,bT h6,oO (Eq.refl ([(Qaa.mk at_ true)].map Qaa.enc).length),aO Qaa.enc h7,hW 5,hH (.frz 2),rp 4 (oO (Eq.refl ((l1++[(Qaa.mk at_ true)]).map Qaa.enc).length))]
 ·obtain rfl:=Option.some.inj h
  exact gr 7 [] [cE Qaf.enc h5,bF h6,hW 5,hH (.frz 0),rp 3 (eL l1 Qaa.enc)]
theorem QiP {l at_} {rv:List Qaa} (h:Qgu l at_=some rv):AFn Tryz.prog 94 [.one (lL 16 l Qaf.enc),.one (lI at_)] [] (one (lL 2 rv Qaa.enc)) []:=by
 refine QaS Tryz.func94 (by kernel_rfl) (by kernel_rfl) (fun Γ=>?_)
 unfold Qgu at h
 obtain ⟨r,h0,h⟩:=Qae h
 rcases Qah h with ⟨h1,h⟩|⟨h1,h⟩
 ·obtain ⟨x0,h2,h⟩:=Qae h
  rcases Qah h with ⟨h3,h⟩|⟨h3,h⟩
  ·obtain ⟨h4,h⟩:=Qat h
   exact gn 14 [0,1,5] [1] [cC (QgM h0),nF h1,cE Qaf.enc h2,bT h3,oO (Eq.refl ([(Qaa.mk at_ false)].map Qaa.enc).length),aN (l:=([(Qaa.mk at_ false)]:List Qaa)) Qaa.enc h4] (QmW Γ rv h)
  ·exact gn 14 [0,1,5] [0] [cC (QgM h0),nF h1,cE Qaf.enc h2,bF h3,hW 1,hH (.adopt 5 2 54)] (QmW Γ rv h)
 ·obtain rfl:=Option.some.inj h
  exact gr 10 [] [cC (QgM h0),nT h1,hW 3,hH (.nilS 4 0 2)]
def Qd6 (Γ:Gam) (rv:Int) (cf:Cf):Prop:=Go Tryz.prog Tryz.f154 [] Γ (one (lI rv)) [] cf
def QdA (Γ:Gam) (rv:Int) (s0:List Qaa) (v:Qaa) (v1:Int):Prop:=Qd6 Γ rv ⟨[.c 52,.l 52,.b 0,.c 7],⟨19,[vL 0 2 s0 Qaa.enc,vP 3 0 2,vI 7 (lenI s0),vI 8 v1],[oX 2 54 (Qaa.enc v)]⟩⟩
def Qdn (Γ:Gam) (rv:Int) (s0:List Qaa) (v:Qaa):Prop:=Qd6 Γ rv ⟨[.c 7],⟨19,[],[]⟩⟩
theorem Qgc (Γ:Gam) (rv:Int) {s0 v} {s:Int} {e:(Unit)⊕(Int)} (h:QaK (fun s=>QaG s0 v s) s=some e) (hD:sel e (fun e=>Qdn Γ rv s0 v) (fun e=>e=rv)):QdA Γ rv s0 v s:=by
 refine QaC (C:=fun (s:Int)=>QdA Γ rv s0 v s) (D:=fun (e:(Unit)⊕(Int))=>sel e (fun e=>Qdn Γ rv s0 v) (fun e=>e=rv)) ?_ h hD
 clear h hD s e
 intro v1 z_ h hI hE
 replace h:QaG s0 v v1=_:=h
 unfold QaG at h
 rcases Qah h with ⟨h0,h⟩|⟨h0,h⟩
 ·obtain ⟨x0,h1,h⟩:=Qae h
  rcases Qah h with ⟨h2,h⟩|⟨h2,h⟩
  ·obtain rfl:=(hE _ (oJ h):_=rv)
   exact gr 14 [] [bT h0,hH (.draw 6 []),cE Qaa.enc h1,bT h2]
  ·exact gn 16 [0,3,7,8] [0] [bT h0,hH (.draw 6 []),cE Qaa.enc h1,bF h2] (hI _ (oJ h))
 ·exact gn 5 [] [] [bF h0] (hE _ (oJ h))
theorem QgW {s0 v} {rv:Int} (h:QbX s0 v=some rv):AFn Tryz.prog 154 [.one (lL 2 s0 Qaa.enc),.agg (Qaa.enc v)] [] (one (lI rv)) []:=by
 refine QaS Tryz.func154 (by kernel_rfl) (by kernel_rfl) (fun Γ=>?_)
 unfold QbX at h
 obtain ⟨e0,h3,h⟩:=Qae h
 refine gn 7 [0,3,7,8] [0] [nL Qaa.enc s0] (Qgc Γ rv h3 ?_)
 rcases e0 with e0|e0
 ·replace h:(some (-1):Option Int)=some _:=h
  obtain rfl:=Option.some.inj h
  exact gr 2 [] []
 ·obtain ⟨r,rfl⟩:∃ x,x=e0:=⟨_,rfl⟩
  replace h:(some r:Option Int)=some _:=h
  exact Option.some.inj h
theorem Qet {l v} {rv:Int} (h:QfD l v=some rv):AFn Tryz.prog 144 [.one (lL 2 l Qaa.enc),.agg (Qaa.enc v)] [] (one (lI rv)) []:=by
 refine QaS Tryz.func144 (by kernel_rfl) (by kernel_rfl) (fun Γ=>?_)
 unfold QfD at h
 obtain ⟨r,h0,h⟩:=Qae h
 obtain rfl:=Option.some.inj h
 exact gr 4 [] [cC (QgW h0)]
def Qfg (Γ:Gam) (rv:Bool) (cf:Cf):Prop:=Go Tryz.prog Tryz.f123 [] Γ (one (.bool rv)) [] cf
def Qmb (Γ:Gam) (rv:Bool) (x0:Qab) (l:List Qaa) (v:Qaa) (r1:List Qaa) (v1:Int):Prop:=Qfg Γ rv ⟨[.c 116,.l 116,.b 0,.c 15],⟨63,[vL 1 2 l Qaa.enc,vP 3 0 6,vP 5 1 2,vL 21 2 r1 Qaa.enc,vI 22 (lenI r1),vI 23 v1],[oX 6 30 (Qab.enc x0),oX 2 54 (Qaa.enc v)]⟩⟩
def Qlx (Γ:Gam) (rv:Bool) (x0:Qab) (l:List Qaa) (v:Qaa) (r1:List Qaa):Prop:=Qfg Γ rv ⟨[.c 15],⟨63,[vL 1 2 l Qaa.enc,vP 3 0 6,vP 5 1 2],[oX 6 30 (Qab.enc x0),oX 2 54 (Qaa.enc v)]⟩⟩
def Qmd (Γ:Gam) (rv:Bool) (x0:Qab) (l:List Qaa) (v:Qaa) (v2:Int) (r3:List Qaa) (v3:Int):Prop:=Qfg Γ rv ⟨[.c 125340,.l 125340,.b 4,.b 3,.c 1959,.l 244,.b 2,.c 31],⟨63,[vL 1 2 l Qaa.enc,vP 3 0 6,vP 5 1 2,vL 36 2 x0.before Qau.enc,vI 37 (lenI x0.before),vI 38 v2,vL 51 2 r3 Qaa.enc,vI 52 (lenI r3),vI 53 v3],[oX 6 30 (Qab.enc x0),oX 2 54 (Qaa.enc v)]⟩⟩
def Qlz (Γ:Gam) (rv:Bool) (x0:Qab) (l:List Qaa) (v:Qaa) (v2:Int) (r3:List Qaa):Prop:=Qfg Γ rv ⟨[.b 3,.c 1959,.l 244,.b 2,.c 31],⟨63,[vL 1 2 l Qaa.enc,vP 3 0 6,vP 5 1 2,vL 36 2 x0.before Qau.enc,vI 37 (lenI x0.before),vI 38 v2],[oX 6 30 (Qab.enc x0),oX 2 54 (Qaa.enc v)]⟩⟩
def Qmc (Γ:Gam) (rv:Bool) (x0:Qab) (l:List Qaa) (v:Qaa) (v2:Int):Prop:=Qfg Γ rv ⟨[.c 244,.l 244,.b 2,.c 31],⟨63,[vL 1 2 l Qaa.enc,vP 3 0 6,vP 5 1 2,vL 36 2 x0.before Qau.enc,vI 37 (lenI x0.before),vI 38 v2],[oX 6 30 (Qab.enc x0),oX 2 54 (Qaa.enc v)]⟩⟩
def Qly (Γ:Gam) (rv:Bool) (x0:Qab) (l:List Qaa) (v:Qaa):Prop:=Qfg Γ rv ⟨[.c 31],⟨63,[],[]⟩⟩
theorem Qqc (Γ:Gam) (rv:Bool) {x0 l v r1} {s:Int} {e:(Unit)⊕(Bool)} (h:QaK (fun s=>Qcl x0 l v r1 s) s=some e) (hD:sel e (fun e=>Qlx Γ rv x0 l v r1) (fun e=>e=rv)):Qmb Γ rv x0 l v r1 s:=by
 refine QaC (C:=fun (s:Int)=>Qmb Γ rv x0 l v r1 s) (D:=fun (e:(Unit)⊕(Bool))=>sel e (fun e=>Qlx Γ rv x0 l v r1) (fun e=>e=rv)) ?_ h hD
 clear h hD s e
 intro v1 z_ h hI hE
 replace h:Qcl x0 l v r1 v1=_:=h
 unfold Qcl at h
 rcases Qah h with ⟨h3,h⟩|⟨h3,h⟩
 ·obtain ⟨x1,h4,h⟩:=Qae h
  rcases Qah h with ⟨h5,h⟩|⟨h5,h⟩
  ·exact gn 14 [1,3,5] [0,1] [bT h3,cE Qaa.enc h4,bT h5] (hE _ (oJ h))
  ·obtain ⟨r2,h6,h⟩:=Qae h
   rcases Qah h with ⟨h7,h⟩|⟨h7,h⟩
   ·obtain rfl:=(hE _ (oJ h):_=rv)
    exact gr 19 [] [bT h3,cE Qaa.enc h4,bF h5,cC (Qet h6),bT h7]
   ·exact gn 21 [1,3,5,21,22,23] [0,1] [bT h3,cE Qaa.enc h4,bF h5,cC (Qet h6),bF h7] (hI _ (oJ h))
 ·exact gn 5 [1,3,5] [0,1] [bF h3] (hE _ (oJ h))
theorem Qqe (Γ:Gam) (rv:Bool) {x0 l v v2 r3} {s:Int} {e:(Unit)⊕(Bool)} (h:QaK (fun s=>QcJ x0 l v v2 r3 s) s=some e) (hD:sel e (fun e=>Qlz Γ rv x0 l v v2 r3) (fun e=>e=rv)):Qmd Γ rv x0 l v v2 r3 s:=by
 refine QaC (C:=fun (s:Int)=>Qmd Γ rv x0 l v v2 r3 s) (D:=fun (e:(Unit)⊕(Bool))=>sel e (fun e=>Qlz Γ rv x0 l v v2 r3) (fun e=>e=rv)) ?_ h hD
 clear h hD s e
 intro v3 z_ h hI hE
 replace h:QcJ x0 l v v2 r3 v3=_:=h
 unfold QcJ at h
 rcases Qah h with ⟨h13,h⟩|⟨h13,h⟩
 ·obtain ⟨x3,h14,h⟩:=Qae h
  obtain ⟨r4,h15,h⟩:=Qae h
  rcases Qah h with ⟨h16,h⟩|⟨h16,h⟩
  ·obtain rfl:=(hE _ (oJ h):_=rv)
   exact gr 14 [] [bT h13,cE Qaa.enc h14,cC (Qet h15),bT h16]
  ·exact gn 16 [1,3,5,36,37,38,51,52,53] [0,1] [bT h13,cE Qaa.enc h14,cC (Qet h15),bF h16] (hI _ (oJ h))
 ·exact gn 5 [1,3,5,36,37,38] [0,1] [bF h13] (hE _ (oJ h))
theorem Qqd (Γ:Gam) (rv:Bool) {x0 l v} {s:Int} {e:(Unit)⊕(Bool)} (h:QaK (fun s=>Qcm x0 l v s) s=some e) (hD:sel e (fun e=>Qly Γ rv x0 l v) (fun e=>e=rv)):Qmc Γ rv x0 l v s:=by
 refine QaC (C:=fun (s:Int)=>Qmc Γ rv x0 l v s) (D:=fun (e:(Unit)⊕(Bool))=>sel e (fun e=>Qly Γ rv x0 l v) (fun e=>e=rv)) ?_ h hD
 clear h hD s e
 intro v2 z_ h hI hE
 replace h:Qcm x0 l v v2=_:=h
 unfold Qcm at h
 rcases Qah h with ⟨h9,h⟩|⟨h9,h⟩
 ·obtain ⟨x2,h10,h⟩:=Qae h
  rcases Qah h with ⟨h11,h⟩|⟨h11,h⟩
  ·exact gn 16 [1,3,5,36,37,38] [0,1] [bT h9,cE Qau.enc h10,oO (zL 1),oO (lT 1 2),bT h11] (hI _ (oJ h))
  ·obtain ⟨r3,h12,h⟩:=Qae h
   obtain ⟨e1,h17,h⟩:=Qae h
   refine gn 18 [1,3,5,36,37,38,51,52,53] [0,1] [bT h9,cE Qau.enc h10,oO (zL 1),oO (lT 1 2),bF h11,oO (zL 0),oO (lT 0 2),cC (QiP h12),nL Qaa.enc r3] (Qqe Γ rv h17 ?_)
   rcases e1 with e1|e1
   ·replace h:(some (.inl (addK .i64 v2 1)):Option ((Int)⊕((Unit)⊕(Bool))))=some _:=h
    exact gn 3 [1,3,5,36,37,38] [0,1] [] (hI _ (oJ h))
   ·obtain ⟨r5,rfl⟩:∃ x,x=e1:=⟨_,rfl⟩
    replace h:(some (.inr (.inr r5)):Option ((Int)⊕((Unit)⊕(Bool))))=some _:=h
    exact (hE _ (oJ h):_=rv)
 ·exact gn 5 [] [] [bF h9] (hE _ (oJ h))
theorem Qn0 {x0 l v} {rv:Bool} (h:Qh0 x0 l v=some rv):AFn Tryz.prog 123 [.agg (Qab.enc x0),.one (lL 2 l Qaa.enc),.agg (Qaa.enc v)] [] (one (.bool rv)) []:=by
 refine QaS Tryz.func123 (by kernel_rfl) (by kernel_rfl) (fun Γ=>?_)
 unfold Qh0 at h
 obtain ⟨r,h0,h⟩:=Qae h
 rcases Qah h with ⟨h1,h⟩|⟨h1,h⟩
 ·obtain rfl:=Option.some.inj h
  exact gr 8 [] [cC (Qet h0),bT h1]
 ·obtain ⟨r1,h2,h⟩:=Qae h
  obtain ⟨e0,h8,h⟩:=Qae h
  refine gn 12 [1,3,5,21,22,23] [0,1] [cC (Qet h0),bF h1,cC (QiP h2),nL Qaa.enc r1] (Qqc Γ rv h8 ?_)
  rcases e0 with e0|e0
  ·replace h:(bnd (QaK (fun s=>Qcm x0 l v s) 0) (fun e=>sel e (fun (_:Unit)=>some true) (fun r6=>some r6)):Option Bool)=some _:=h
   obtain ⟨e2,h18,h⟩:=Qae h
   refine gn 5 [1,3,5,36,37,38] [0,1] [nL Qau.enc x0.before] (Qqd Γ rv h18 ?_)
   rcases e2 with e2|e2
   ·replace h:(some true:Option Bool)=some _:=h
    obtain rfl:=Option.some.inj h
    exact gr 2 [] []
   ·obtain ⟨r6,rfl⟩:∃ x,x=e2:=⟨_,rfl⟩
    replace h:(some r6:Option Bool)=some _:=h
    exact Option.some.inj h
  ·obtain ⟨r7,rfl⟩:∃ x,x=e0:=⟨_,rfl⟩
   replace h:(some r7:Option Bool)=some _:=h
   exact Option.some.inj h
def QiQ (Γ:Gam) (rv:List Qaa) (cf:Cf):Prop:=Go Tryz.prog Tryz.f96 [] Γ (one (lL 2 rv Qaa.enc)) [] cf
def Qna (Γ:Gam) (rv:List Qaa) (x0:Qab) (set_:Int) (l:List Qaa) (v:Int) (r:List Qaa) (l2:List Qaa) (v1:Int):Prop:=QiQ Γ rv ⟨[.c 59804,.l 59804,.b 2,.b 1,.c 935,.l 116,.b 0,.c 15],⟨53,[vI 1 set_,vL 2 2 l Qaa.enc,vP 3 0 6,vO 7 1 2 l2 Qaa.enc,vL 13 16 x0.orders Qaf.enc,vI 14 (lenI x0.orders),vI 15 v,vL 36 2 r Qaa.enc,vI 37 (lenI r),vI 38 v1],[oX 6 30 (Qab.enc x0),oS 2 54 l2 Qaa.enc]⟩⟩
def Qma (Γ:Gam) (rv:List Qaa) (x0:Qab) (set_:Int) (l:List Qaa) (v:Int) (r:List Qaa) (l3:List Qaa):Prop:=QiQ Γ rv ⟨[.b 1,.c 935,.l 116,.b 0,.c 15],⟨53,[vI 1 set_,vL 2 2 l Qaa.enc,vP 3 0 6,vO 7 1 2 l3 Qaa.enc,vL 13 16 x0.orders Qaf.enc,vI 14 (lenI x0.orders),vI 15 v],[oX 6 30 (Qab.enc x0),oS 2 54 l3 Qaa.enc]⟩⟩
def Qm9 (Γ:Gam) (rv:List Qaa) (x0:Qab) (set_:Int) (l:List Qaa) (l1:List Qaa) (v:Int):Prop:=QiQ Γ rv ⟨[.c 116,.l 116,.b 0,.c 15],⟨53,[vI 1 set_,vL 2 2 l Qaa.enc,vP 3 0 6,vO 7 1 2 l1 Qaa.enc,vL 13 16 x0.orders Qaf.enc,vI 14 (lenI x0.orders),vI 15 v],[oX 6 30 (Qab.enc x0),oS 2 54 l1 Qaa.enc]⟩⟩
def Ql9 (Γ:Gam) (rv:List Qaa) (x0:Qab) (set_:Int) (l:List Qaa) (l4:List Qaa):Prop:=QiQ Γ rv ⟨[.c 15],⟨53,[vO 7 0 2 l4 Qaa.enc],[oS 2 54 l4 Qaa.enc]⟩⟩
theorem Qq1 (Γ:Gam) (rv:List Qaa) {x0 set_ l v r} {s:List Qaa×Int} {e:List Qaa} (h:QaK (fun s=>Qc5 x0 set_ l v r s.1 s.2) s=some e) (hD:Qma Γ rv x0 set_ l v r e):Qna Γ rv x0 set_ l v r s.1 s.2:=by
 refine QaC (C:=fun (s:List Qaa×Int)=>Qna Γ rv x0 set_ l v r s.1 s.2) (D:=fun (e:List Qaa)=>Qma Γ rv x0 set_ l v r e) ?_ h hD
 clear h hD s e
 rintro ⟨l2,v1⟩ z_ h hI hE
 replace h:Qc5 x0 set_ l v r l2 v1=_:=h
 unfold Qc5 at h
 rcases Qah h with ⟨h6,h⟩|⟨h6,h⟩
 ·obtain ⟨x2,h7,h⟩:=Qae h
  obtain ⟨r1,h8,h⟩:=Qae h
  rcases Qah h with ⟨h9,h⟩|⟨h9,h⟩
  ·obtain ⟨h10,h⟩:=Qat h
   exact gn 16 [1,2,3,7,13,14,15,36,37,38] [0,4] [bT h6,cE Qaa.enc h7,cC (Qn0 h8),bT h9,oO (Eq.refl ([x2].map Qaa.enc).length),aO Qaa.enc h10] (hI _ (oJ h))
  ·exact gn 16 [1,2,3,7,13,14,15,36,37,38] [0,1] [bT h6,cE Qaa.enc h7,cC (Qn0 h8),bF h9] (hI _ (oJ h))
 ·exact gn 5 [1,2,3,7,13,14,15] [0,1] [bF h6] (hE _ (oJ h))
theorem Qq0 (Γ:Gam) (rv:List Qaa) {x0 set_ l} {s:List Qaa×Int} {e:List Qaa} (h:QaK (fun s=>QcF x0 set_ l s.1 s.2) s=some e) (hD:Ql9 Γ rv x0 set_ l e):Qm9 Γ rv x0 set_ l s.1 s.2:=by
 refine QaC (C:=fun (s:List Qaa×Int)=>Qm9 Γ rv x0 set_ l s.1 s.2) (D:=fun (e:List Qaa)=>Ql9 Γ rv x0 set_ l e) ?_ h hD
 clear h hD s e
 rintro ⟨l1,v⟩ z_ h hI hE
 replace h:QcF x0 set_ l l1 v=_:=h
 unfold QcF at h
 rcases Qah h with ⟨h0,h⟩|⟨h0,h⟩
 ·obtain ⟨x1,h1,h⟩:=Qae h
  rcases Qah h with ⟨h2,h⟩|⟨h2,h⟩
  ·exact gn 16 [1,2,3,7,13,14,15] [0,1] [bT h0,cE Qaf.enc h1,rp 6 (bT h2),rp 4 tT] (hI _ (oJ h))
  ·obtain ⟨h3,h⟩:=Qat h
   rcases Qah h with ⟨h4,h⟩|⟨h4,h⟩
   ·exact gn 16 [1,2,3,7,13,14,15] [0,1] [bT h0,cE Qaf.enc h1,rp 3 (bF h2),oO (h3),rp 3 (bF h2),hP,hP,hP,oI ((eqI (andK .i64 (shrK .i64 set_ v) 1) 0)=false),oR True ((eqI (andK .i64 (shrK .i64 set_ v) 1) 0)=false),bT h4] (hI _ (oJ h))
   ·obtain ⟨r,h5,h⟩:=Qae h
    obtain ⟨e0,h11,h⟩:=Qae h
    refine gn 18 [1,2,3,7,13,14,15,36,37,38] [0,1] [bT h0,cE Qaf.enc h1,rp 3 (bF h2),oO (h3),rp 3 (bF h2),hP,hP,hP,oI ((eqI (andK .i64 (shrK .i64 set_ v) 1) 0)=false),oR True ((eqI (andK .i64 (shrK .i64 set_ v) 1) 0)=false),bF h4,cC (QiP h5),nL Qaa.enc r] (Qq1 Γ rv h11 ?_)
    obtain ⟨l3,rfl⟩:∃ x,x=e0:=⟨_,rfl⟩
    replace h:(some (.inl (l3,(addK .i64 v 1))):Option ((List Qaa×Int)⊕(List Qaa)))=some _:=h
    exact gn 3 [1,2,3,7,13,14,15] [0,1] [] (hI _ (oJ h))
 ·exact gn 5 [7] [1] [bF h0] (hE _ (oJ h))
theorem Qtz {x0 set_ l} {rv:List Qaa} (h:QjS x0 set_ l=some rv):AFn Tryz.prog 96 [.agg (Qab.enc x0),.one (lI set_),.one (lL 2 l Qaa.enc)] [] (one (lL 2 rv Qaa.enc)) []:=by
 refine QaS Tryz.func96 (by kernel_rfl) (by kernel_rfl) (fun Γ=>?_)
 unfold QjS at h
 obtain ⟨e1,h12,h⟩:=Qae h
 refine gn 9 [1,2,3,7,13,14,15] [0,1] [nL Qaf.enc x0.orders,hW 3,hH (.adopt 7 2 54)] (Qq0 Γ rv h12 ?_)
 obtain ⟨l4,rfl⟩:∃ x,x=e1:=⟨_,rfl⟩
 replace h:(some l4:Option (List Qaa))=some _:=h
 obtain rfl:=Option.some.inj h
 exact gr 2 [] [hW 4,hH (.frz 0),rp 3 (eL l4 Qaa.enc)]
theorem Qd5 {s0} {rv:List Qaa} (h:Qbv s0=some rv):AFn Tryz.prog 97 [.one (lL 2 s0 Qaa.enc)] [] (one (.sl true 2 (rv.map Qaa.enc))) []:=by
 refine QaS Tryz.func97 (by kernel_rfl) (by kernel_rfl) (fun Γ=>?_)
 unfold Qbv at h
 obtain ⟨l,h0,h⟩:=Qae h
 obtain rfl:=Option.some.inj h
 exact gr 4 [] [rp 2 (nL Qaa.enc s0),hH (.rows (l.map Qaa.enc)),oO (Eq.refl (lenI s0)),oO (sl1 h0),oO (sl2 h0),oO (sl3 Qaa.enc h0),oO (Int.le_refl (lenI s0)),oO (sl3 Qaa.enc h0),oO (sl6 Qaa.enc h0)]
def Qo5 (Γ:Gam) (rv:Bool×Int×List (List Qaa)×Qab×Int) (cf:Cf):Prop:=Go Tryz.prog Tryz.f95 [0,1,2,3,4] Γ (one (.bool rv.1)) [oX 1 3 [lI rv.2.1],oX 1 113 [lO 5 1 rv.2.2.1 es_T_api_Visit.enc],oX 6 30 [lL 1 rv.2.2.2.1.net.places Qh6,lL 6 rv.2.2.2.1.net.arcs Qao.enc,lL 14 rv.2.2.2.1.types Qag.enc,lL 16 rv.2.2.2.1.orders Qaf.enc,lL 2 rv.2.2.2.1.apart Qau.enc,lL 2 rv.2.2.2.1.before Qau.enc],oX 1 3 [lI rv.2.2.2.2],oX 1 154 [.fn (.func 95) [.op 0 1 0 0,.op 1 1 0 0,.op 2 6 0 0,.op 3 1 0 0,.op 4 1 0 0]],oS 1 32 rv.2.2.1 es_T_api_Visit.enc] cf
def Ql8 (Γ:Gam) (rv:Bool×Int×List (List Qaa)×Qab×Int) (self:(List Qaa)→Int→(List (List Qaa))→Qab→Int→Option (Bool×Int×List (List Qaa)×Qab×Int)) (l:List Qaa) (c:Int) (r:List Qaa) (l1:List (List Qaa)) (x0:Int) (x1:Qab) (x2:Int) (v:Int):Prop:=Qo5 Γ rv ⟨[.c 116,.l 116,.b 0,.c 15],⟨39,[vL 0 2 l Qaa.enc,vP 5 4 1,vL 24 2 r Qaa.enc,vI 25 (lenI r),vI 26 v],[oX 1 3 [lI x0],oX 1 113 [lO 5 1 l1 es_T_api_Visit.enc],oX 6 30 (Qab.enc x1),oX 1 3 [lI x2],oX 1 154 [.fn (.func 95) [.op 0 1 0 0,.op 1 1 0 0,.op 2 6 0 0,.op 3 1 0 0,.op 4 1 0 0]],oS 1 32 l1 es_T_api_Visit.enc]⟩⟩
def Qlv (Γ:Gam) (rv:Bool×Int×List (List Qaa)×Qab×Int) (self:(List Qaa)→Int→(List (List Qaa))→Qab→Int→Option (Bool×Int×List (List Qaa)×Qab×Int)) (l:List Qaa) (c:Int) (r:List Qaa) (l2:List (List Qaa)) (x4:Int) (x5:Qab) (x6:Int):Prop:=Qo5 Γ rv ⟨[.c 15],⟨39,[],[oX 1 3 [lI x4],oX 1 113 [lO 5 1 l2 es_T_api_Visit.enc],oX 6 30 (Qab.enc x5),oX 1 3 [lI x6],oX 1 154 [.fn (.func 95) [.op 0 1 0 0,.op 1 1 0 0,.op 2 6 0 0,.op 3 1 0 0,.op 4 1 0 0]],oS 1 32 l2 es_T_api_Visit.enc]⟩⟩
theorem Qqb (Γ:Gam) (rv:Bool×Int×List (List Qaa)×Qab×Int) {self:(List Qaa)→Int→(List (List Qaa))→Qab→Int→Option (Bool×Int×List (List Qaa)×Qab×Int)} (hself:∀ {l:List Qaa} {c:Int} {c1:List (List Qaa)} {c2:Qab} {c3:Int} {rv:Bool×Int×List (List Qaa)×Qab×Int},self l c c1 c2 c3=some rv→AFn Tryz.prog 95 [.one (lL 2 l Qaa.enc),.one (.op 0 1 0 0),.one (.op 1 1 0 0),.one (.op 2 6 0 0),.one (.op 3 1 0 0),.one (.op 4 1 0 0)] [bX 1 3 [lI c],bX 1 113 [lO 5 1 c1 es_T_api_Visit.enc],bX 6 30 (Qab.enc c2),bX 1 3 [lI c3],bX 1 154 [.fn (.func 95) [.op 0 1 0 0,.op 1 1 0 0,.op 2 6 0 0,.op 3 1 0 0,.op 4 1 0 0]],bS 1 32 c1 es_T_api_Visit.enc] (one (.bool rv.1)) [oX 1 3 [lI rv.2.1],oX 1 113 [lO 5 1 rv.2.2.1 es_T_api_Visit.enc],oX 6 30 [lL 1 rv.2.2.2.1.net.places Qh6,lL 6 rv.2.2.2.1.net.arcs Qao.enc,lL 14 rv.2.2.2.1.types Qag.enc,lL 16 rv.2.2.2.1.orders Qaf.enc,lL 2 rv.2.2.2.1.apart Qau.enc,lL 2 rv.2.2.2.1.before Qau.enc],oX 1 3 [lI rv.2.2.2.2],oX 1 154 [.fn (.func 95) [.op 0 1 0 0,.op 1 1 0 0,.op 2 6 0 0,.op 3 1 0 0,.op 4 1 0 0]],oS 1 32 rv.2.2.1 es_T_api_Visit.enc]) {l c r} {s:List (List Qaa)×Int×Qab×Int×Int} {e:(List (List Qaa)×Int×Qab×Int)⊕(Bool×Int×List (List Qaa)×Qab×Int)} (h:QaK (fun s=>Qck self l c r s.1 s.2.1 s.2.2.1 s.2.2.2.1 s.2.2.2.2) s=some e) (hD:sel e (fun e=>Qlv Γ rv self l c r e.1 e.2.1 e.2.2.1 e.2.2.2) (fun e=>e=rv)):Ql8 Γ rv self l c r s.1 s.2.1 s.2.2.1 s.2.2.2.1 s.2.2.2.2:=by
 refine QaC (C:=fun (s:List (List Qaa)×Int×Qab×Int×Int)=>Ql8 Γ rv self l c r s.1 s.2.1 s.2.2.1 s.2.2.2.1 s.2.2.2.2) (D:=fun (e:(List (List Qaa)×Int×Qab×Int)⊕(Bool×Int×List (List Qaa)×Qab×Int))=>sel e (fun e=>Qlv Γ rv self l c r e.1 e.2.1 e.2.2.1 e.2.2.2) (fun e=>e=rv)) ?_ h hD
 clear h hD s e
 rintro ⟨l1,x0,x1,x2,v⟩ z_ h hI hE
 replace h:Qck self l c r l1 x0 x1 x2 v=_:=h
 unfold Qck at h
 rcases Qah h with ⟨h3,h⟩|⟨h3,h⟩
 ·obtain ⟨x3,h4,h⟩:=Qae h
  obtain ⟨r1,h5,h⟩:=Qae h
  obtain ⟨h6,h⟩:=Qat h
  obtain ⟨r2,h7,h⟩:=Qae h
  rcases Qah h with ⟨h8,h⟩|⟨h8,h⟩
  ·exact gn 16 [0,5,24,25,26] [0,1,2,3,4,9] [bT h3,cE Qaa.enc h4,hH (.draw 6 []),cC (Qd5 h5),oO (Eq.refl ([x3].map Qaa.enc).length),hH (.rows ((r1++[x3]).map Qaa.enc)),hH (.frz 8),oO (appM Qaa.enc r1 [x3]),oO (neA Qaa.enc r1 [x3] (by simp)),oO (okLe (l:=((r1++[x3]):List Qaa)) Qaa.enc h6),oO (QFl (l:=((r1++[x3]):List Qaa)) (b:=16) Qaa.enc (by decide) h6),oO (Eq.refl ((r1++[x3]).map Qaa.enc).length),cI [0,1,2,3,4,5] (hself h7),nF h8] (hI _ (oJ h))
  ·obtain rfl:=(hE _ (oJ h):_=rv)
   exact gr 14 [0,1,2,3,4,9] [bT h3,cE Qaa.enc h4,hH (.draw 6 []),cC (Qd5 h5),oO (Eq.refl ([x3].map Qaa.enc).length),hH (.rows ((r1++[x3]).map Qaa.enc)),hH (.frz 8),oO (appM Qaa.enc r1 [x3]),oO (neA Qaa.enc r1 [x3] (by simp)),oO (okLe (l:=((r1++[x3]):List Qaa)) Qaa.enc h6),oO (QFl (l:=((r1++[x3]):List Qaa)) (b:=16) Qaa.enc (by decide) h6),oO (Eq.refl ((r1++[x3]).map Qaa.enc).length),cI [0,1,2,3,4,5] (hself h7),nT h8]
 ·exact gn 5 [] [0,1,2,3,4,5] [bF h3] (hE _ (oJ h))
theorem QqY {self:(List Qaa)→Int→(List (List Qaa))→Qab→Int→Option (Bool×Int×List (List Qaa)×Qab×Int)} (hself:∀ {l:List Qaa} {c:Int} {c1:List (List Qaa)} {c2:Qab} {c3:Int} {rv:Bool×Int×List (List Qaa)×Qab×Int},self l c c1 c2 c3=some rv→AFn Tryz.prog 95 [.one (lL 2 l Qaa.enc),.one (.op 0 1 0 0),.one (.op 1 1 0 0),.one (.op 2 6 0 0),.one (.op 3 1 0 0),.one (.op 4 1 0 0)] [bX 1 3 [lI c],bX 1 113 [lO 5 1 c1 es_T_api_Visit.enc],bX 6 30 (Qab.enc c2),bX 1 3 [lI c3],bX 1 154 [.fn (.func 95) [.op 0 1 0 0,.op 1 1 0 0,.op 2 6 0 0,.op 3 1 0 0,.op 4 1 0 0]],bS 1 32 c1 es_T_api_Visit.enc] (one (.bool rv.1)) [oX 1 3 [lI rv.2.1],oX 1 113 [lO 5 1 rv.2.2.1 es_T_api_Visit.enc],oX 6 30 [lL 1 rv.2.2.2.1.net.places Qh6,lL 6 rv.2.2.2.1.net.arcs Qao.enc,lL 14 rv.2.2.2.1.types Qag.enc,lL 16 rv.2.2.2.1.orders Qaf.enc,lL 2 rv.2.2.2.1.apart Qau.enc,lL 2 rv.2.2.2.1.before Qau.enc],oX 1 3 [lI rv.2.2.2.2],oX 1 154 [.fn (.func 95) [.op 0 1 0 0,.op 1 1 0 0,.op 2 6 0 0,.op 3 1 0 0,.op 4 1 0 0]],oS 1 32 rv.2.2.1 es_T_api_Visit.enc]) {l c c1 c2 c3} {rv:Bool×Int×List (List Qaa)×Qab×Int} (h:Qem self l c c1 c2 c3=some rv):AFn Tryz.prog 95 [.one (lL 2 l Qaa.enc),.one (.op 0 1 0 0),.one (.op 1 1 0 0),.one (.op 2 6 0 0),.one (.op 3 1 0 0),.one (.op 4 1 0 0)] [bX 1 3 [lI c],bX 1 113 [lO 5 1 c1 es_T_api_Visit.enc],bX 6 30 (Qab.enc c2),bX 1 3 [lI c3],bX 1 154 [.fn (.func 95) [.op 0 1 0 0,.op 1 1 0 0,.op 2 6 0 0,.op 3 1 0 0,.op 4 1 0 0]],bS 1 32 c1 es_T_api_Visit.enc] (one (.bool rv.1)) [oX 1 3 [lI rv.2.1],oX 1 113 [lO 5 1 rv.2.2.1 es_T_api_Visit.enc],oX 6 30 [lL 1 rv.2.2.2.1.net.places Qh6,lL 6 rv.2.2.2.1.net.arcs Qao.enc,lL 14 rv.2.2.2.1.types Qag.enc,lL 16 rv.2.2.2.1.orders Qaf.enc,lL 2 rv.2.2.2.1.apart Qau.enc,lL 2 rv.2.2.2.1.before Qau.enc],oX 1 3 [lI rv.2.2.2.2],oX 1 154 [.fn (.func 95) [.op 0 1 0 0,.op 1 1 0 0,.op 2 6 0 0,.op 3 1 0 0,.op 4 1 0 0]],oS 1 32 rv.2.2.1 es_T_api_Visit.enc]:=by
 refine QaS Tryz.func95 (by kernel_rfl) (by kernel_rfl) (fun Γ=>?_)
 unfold Qem at h
 rcases Qah h with ⟨h0,h⟩|⟨h0,h⟩
 ·obtain ⟨h1,h⟩:=Qat h
  obtain rfl:=Option.some.inj h
  exact gr 10 [0,1,2,3,4,7] [nL Qaa.enc l,bT h0,oO (Eq.refl ([l].map es_T_api_Visit.enc).length),aO es_T_api_Visit.enc h1,nL es_T_api_Visit.enc (c1++[l])]
 ·obtain ⟨r,h2,h⟩:=Qae h
  obtain ⟨e0,h9,h⟩:=Qae h
  refine gn 12 [0,5,24,25,26] [0,1,2,3,4,5] [nL Qaa.enc l,bF h0,cC (Qtz h2),nL Qaa.enc r] (Qqb Γ rv hself h9 ?_)
  rcases e0 with e0|e0
  ·obtain ⟨l2,x4,x5,x6⟩:=e0
   replace h:(some (true,x4,l2,x5,x6):Option (Bool×Int×List (List Qaa)×Qab×Int))=some _:=h
   obtain rfl:=Option.some.inj h
   exact gr 2 [0,1,2,3,4,5] []
  ·obtain ⟨r3,rfl⟩:∃ x,x=e0:=⟨_,rfl⟩
   replace h:(some r3:Option (Bool×Int×List (List Qaa)×Qab×Int))=some _:=h
   exact Option.some.inj h
theorem Qm7:∀ fuel_,∀ {l:List Qaa} {c:Int} {c1:List (List Qaa)} {c2:Qab} {c3:Int} {rv:Bool×Int×List (List Qaa)×Qab×Int},QcE fuel_ l c c1 c2 c3=some rv→AFn Tryz.prog 95 [.one (lL 2 l Qaa.enc),.one (.op 0 1 0 0),.one (.op 1 1 0 0),.one (.op 2 6 0 0),.one (.op 3 1 0 0),.one (.op 4 1 0 0)] [bX 1 3 [lI c],bX 1 113 [lO 5 1 c1 es_T_api_Visit.enc],bX 6 30 (Qab.enc c2),bX 1 3 [lI c3],bX 1 154 [.fn (.func 95) [.op 0 1 0 0,.op 1 1 0 0,.op 2 6 0 0,.op 3 1 0 0,.op 4 1 0 0]],bS 1 32 c1 es_T_api_Visit.enc] (one (.bool rv.1)) [oX 1 3 [lI rv.2.1],oX 1 113 [lO 5 1 rv.2.2.1 es_T_api_Visit.enc],oX 6 30 [lL 1 rv.2.2.2.1.net.places Qh6,lL 6 rv.2.2.2.1.net.arcs Qao.enc,lL 14 rv.2.2.2.1.types Qag.enc,lL 16 rv.2.2.2.1.orders Qaf.enc,lL 2 rv.2.2.2.1.apart Qau.enc,lL 2 rv.2.2.2.1.before Qau.enc],oX 1 3 [lI rv.2.2.2.2],oX 1 154 [.fn (.func 95) [.op 0 1 0 0,.op 1 1 0 0,.op 2 6 0 0,.op 3 1 0 0,.op 4 1 0 0]],oS 1 32 rv.2.2.1 es_T_api_Visit.enc]
 | 0=>fun h=>nomatch h
 | fuel_+1=>fun h=>QqY (Qm7 fuel_) h
theorem QnY:∀ {l:List Qaa} {c:Int} {c1:List (List Qaa)} {c2:Qab} {c3:Int} {rv:Bool×Int×List (List Qaa)×Qab×Int},QkN l c c1 c2 c3=some rv→AFn Tryz.prog 95 [.one (lL 2 l Qaa.enc),.one (.op 0 1 0 0),.one (.op 1 1 0 0),.one (.op 2 6 0 0),.one (.op 3 1 0 0),.one (.op 4 1 0 0)] [bX 1 3 [lI c],bX 1 113 [lO 5 1 c1 es_T_api_Visit.enc],bX 6 30 (Qab.enc c2),bX 1 3 [lI c3],bX 1 154 [.fn (.func 95) [.op 0 1 0 0,.op 1 1 0 0,.op 2 6 0 0,.op 3 1 0 0,.op 4 1 0 0]],bS 1 32 c1 es_T_api_Visit.enc] (one (.bool rv.1)) [oX 1 3 [lI rv.2.1],oX 1 113 [lO 5 1 rv.2.2.1 es_T_api_Visit.enc],oX 6 30 [lL 1 rv.2.2.2.1.net.places Qh6,lL 6 rv.2.2.2.1.net.arcs Qao.enc,lL 14 rv.2.2.2.1.types Qag.enc,lL 16 rv.2.2.2.1.orders Qaf.enc,lL 2 rv.2.2.2.1.apart Qau.enc,lL 2 rv.2.2.2.1.before Qau.enc],oX 1 3 [lI rv.2.2.2.2],oX 1 154 [.fn (.func 95) [.op 0 1 0 0,.op 1 1 0 0,.op 2 6 0 0,.op 3 1 0 0,.op 4 1 0 0]],oS 1 32 rv.2.2.1 es_T_api_Visit.enc]:=Qm7 _
def QqZ (Γ:Gam) (rv:List (List Qaa)×Int) (cf:Cf):Prop:=Go Tryz.prog Tryz.f55 [] Γ (.tup [.one (lL 1 rv.1 es_T_api_Visit.enc),.one (lI rv.2)]) [] cf
def QnZ (Γ:Gam) (rv:List (List Qaa)×Int) (x0:Qab) (set_:Int) (x1:Int) (v:Int):Prop:=QqZ Γ rv ⟨[.c 500,.l 500,.b 0,.c 63],⟨51,[vP 2 0 6,vP 3 1 1,vP 6 2 1,vI 29 (lenI x0.orders),vI 30 v],[oX 6 30 (Qab.enc x0),oX 1 3 [lI set_],oX 1 3 [lI x1]]⟩⟩
def Qm8 (Γ:Gam) (rv:List (List Qaa)×Int) (x0:Qab) (set_:Int) (x2:Int):Prop:=QqZ Γ rv ⟨[.c 63],⟨51,[vP 2 0 6,vP 3 1 1,vP 6 2 1],[oX 6 30 (Qab.enc x0),oX 1 3 [lI set_],oX 1 3 [lI x2]]⟩⟩
theorem QrO (Γ:Gam) (rv:List (List Qaa)×Int) {x0 set_} {s:Int×Int} {e:Int} (h:QaK (fun s=>QcZ x0 set_ s.1 s.2) s=some e) (hD:Qm8 Γ rv x0 set_ e):QnZ Γ rv x0 set_ s.1 s.2:=by
 refine QaC (C:=fun (s:Int×Int)=>QnZ Γ rv x0 set_ s.1 s.2) (D:=fun (e:Int)=>Qm8 Γ rv x0 set_ e) ?_ h hD
 clear h hD s e
 rintro ⟨x1,v⟩ z_ h hI hE
 replace h:QcZ x0 set_ x1 v=_:=h
 unfold QcZ at h
 rcases Qah h with ⟨h6,h⟩|⟨h6,h⟩
 ·obtain ⟨h7,h⟩:=Qat h
  rcases Qah h with ⟨h8,h⟩|⟨h8,h⟩
  ·obtain ⟨r1,h9,h⟩:=Qae h
   exact gn 16 [2,3,6,29,30] [0,1,2] [bT h6,oO (h7),bT h8,hH (.draw 7 []),cC (QiP h9),nL Qaa.enc r1] (hI _ (oJ h))
  ·exact gn 16 [2,3,6,29,30] [0,1,2] [bT h6,oO (h7),bF h8] (hI _ (oJ h))
 ·exact gn 5 [2,3,6] [0,1,2] [bF h6] (hE _ (oJ h))
theorem QpV {x0 set_} {rv:List (List Qaa)×Int} (h:Qgw x0 set_=some rv):AFn Tryz.prog 55 [.agg (Qab.enc x0),.one (lI set_)] [] (.tup [.one (lL 1 rv.1 es_T_api_Visit.enc),.one (lI rv.2)]) []:=by
 refine QaS Tryz.func55 (by kernel_rfl) (by kernel_rfl) (fun Γ=>?_)
 unfold Qgw at h
 rcases Qah h with ⟨h0,h⟩|⟨h0,h⟩
 ·obtain rfl:=Option.some.inj h
  exact gr 8 [] [rp 7 (bT h0),tT,hW 4,hH (.nilS 4 0 1)]
 ·obtain ⟨h1,h⟩:=Qat h
  rcases Qah h with ⟨h2,h⟩|⟨h2,h⟩
  ·obtain rfl:=Option.some.inj h
   exact gr 8 [] [rp 4 (bF h0),nL Qaf.enc x0.orders,bF h0,oO (h1),bF h0,bF h0,bT h2,hW 4,hH (.nilS 4 0 1)]
  ·rcases Qah h with ⟨h3,h⟩|⟨h3,h⟩
   ·obtain rfl:=Option.some.inj h
    exact gr 13 [] [rp 4 (bF h0),nL Qaf.enc x0.orders,bF h0,oO (h1),bF h0,bF h0,bF h2,rp 4 (bT h3),tT,hW 4,hH (.nilS 4 0 1)]
   ·obtain ⟨r,h4,h⟩:=Qae h
    rcases Qah h with ⟨h5,h⟩|⟨h5,h⟩
    ·obtain rfl:=Option.some.inj h
     exact gr 13 [] [rp 4 (bF h0),nL Qaf.enc x0.orders,bF h0,oO (h1),bF h0,bF h0,bF h2,rp 3 (bF h3),cC (QkJ h4),bF h3,bT h5,hW 4,hH (.nilS 4 0 1)]
    ·obtain ⟨e0,h10,h⟩:=Qae h
     refine gn 19 [2,3,6,29,30] [0,1,2] [rp 4 (bF h0),nL Qaf.enc x0.orders,bF h0,oO (h1),bF h0,bF h0,bF h2,rp 3 (bF h3),cC (QkJ h4),bF h3,bF h5,nL Qaf.enc x0.orders] (QrO Γ rv h10 ?_)
     obtain ⟨x2,rfl⟩:∃ x,x=e0:=⟨_,rfl⟩
     replace h:(bnd (QkN [] x2 [] x0 set_) fun r2=>br r2.1 (some (r2.2.2.1,0)) (some ([],4)):Option (List (List Qaa)×Int))=some _:=h
     obtain ⟨r2,h11,h⟩:=Qae h
     rcases Qah h with ⟨h12,h⟩|⟨h12,h⟩
     ·obtain rfl:=Option.some.inj h
      exact gr 13 [] [hW 14,hH (.adoptB 3 0 1 32),cI [2,3,0,1,4,5] (AFn.nilA 0 2 (QnY h11)),nF h12,hW 6,hH (.frz 6),rp 3 (oO (Eq.refl (r2.2.2.1.map es_T_api_Visit.enc).length))]
     ·obtain rfl:=Option.some.inj h
      exact gr 12 [] [hW 14,hH (.adoptB 3 0 1 32),cI [2,3,0,1,4,5] (AFn.nilA 0 2 (QnY h11)),nT h12,hW 4,hH (.nilS 4 0 1)]
theorem Qbk {q} {y:Qab} {rv:Int×Qan} (h:QaX q=some rv):AFn Tryz.prog 58 [.one (.op 0 8 0 0)] [bX 8 120 [lO 1 9 q.items Qad.enc,lI q.first_,lL 1 y.net.places Qh6,lL 6 y.net.arcs Qao.enc,lL 14 y.types Qag.enc,lL 16 y.orders Qaf.enc,lL 2 y.apart Qau.enc,lL 2 y.before Qau.enc],bS 9 47 q.items Qad.enc] (one (lI rv.1)) [oX 8 120 [lO 1 9 rv.2.items Qad.enc,lI rv.2.first_,lL 1 y.net.places Qh6,lL 6 y.net.arcs Qao.enc,lL 14 y.types Qag.enc,lL 16 y.orders Qaf.enc,lL 2 y.apart Qau.enc,lL 2 y.before Qau.enc],oS 9 47 rv.2.items Qad.enc]:=by
 refine QaS Tryz.func58 (by kernel_rfl) (by kernel_rfl) (fun Γ=>?_)
 unfold QaX at h
 obtain rfl:=Option.some.inj h
 exact gr 4 [0,1] [hH (.draw 11 []),nL Qad.enc q.items]
theorem Qcn {q} {y:Qab} {rv:Qad×Qan} (h:Qa5 q=some rv):AFn Tryz.prog 59 [.one (.op 0 8 0 0)] [bX 8 120 [lO 1 9 q.items Qad.enc,lI q.first_,lL 1 y.net.places Qh6,lL 6 y.net.arcs Qao.enc,lL 14 y.types Qag.enc,lL 16 y.orders Qaf.enc,lL 2 y.apart Qau.enc,lL 2 y.before Qau.enc],bS 9 47 q.items Qad.enc] (gG [lI rv.1.type_,lL 2 rv.1.visits Qaa.enc,lI rv.1.place,lI rv.1.time,lI rv.1.driven,lI rv.1.miles,lL 1 rv.1.load Qax,lI rv.1.done,lI rv.1.open_]) [oX 8 120 [lO 1 9 rv.2.items Qad.enc,lI rv.2.first_,lL 1 y.net.places Qh6,lL 6 y.net.arcs Qao.enc,lL 14 y.types Qag.enc,lL 16 y.orders Qaf.enc,lL 2 y.apart Qau.enc,lL 2 y.before Qau.enc],oS 9 47 rv.2.items Qad.enc]:=by
 refine QaS Tryz.func59 (by kernel_rfl) (by kernel_rfl) (fun Γ=>?_)
 unfold Qa5 at h
 obtain ⟨x0,h0,h⟩:=Qae h
 obtain rfl:=Option.some.inj h
 exact gr 8 [0,1] [hH (.draw 11 []),oO (Qxg h0),oO (Qxf Qad.enc h0),rE Qad.enc h0]
theorem Qdv {q l} {y:Qab} {rv:Qan} (h:Qa0 q l=some rv):AFn Tryz.prog 56 [.one (.op 0 8 0 0),.one (lL 9 l Qad.enc)] [bX 8 120 [lO 1 9 q.items Qad.enc,lI q.first_,lL 1 y.net.places Qh6,lL 6 y.net.arcs Qao.enc,lL 14 y.types Qag.enc,lL 16 y.orders Qaf.enc,lL 2 y.apart Qau.enc,lL 2 y.before Qau.enc],bS 9 47 q.items Qad.enc] (.tup []) [oX 8 120 [lO 1 9 rv.items Qad.enc,lI rv.first_,lL 1 y.net.places Qh6,lL 6 y.net.arcs Qao.enc,lL 14 y.types Qag.enc,lL 16 y.orders Qaf.enc,lL 2 y.apart Qau.enc,lL 2 y.before Qau.enc],oS 9 47 rv.items Qad.enc]:=by
 refine QaS Tryz.func56 (by kernel_rfl) (by kernel_rfl) (fun Γ=>?_)
 unfold Qa0 at h
 obtain ⟨h0,h⟩:=Qat h
 obtain rfl:=Option.some.inj h
 exact gr 1 [0,2] [aO Qad.enc h0]
def Qk2 (Γ:Gam) (rv:Qbw) (cf:Cf):Prop:=Go Tryz.prog Tryz.f57 [0] Γ (.tup []) [oX 8 120 [lO 1 9 rv.queue.items Qad.enc,lI rv.queue.first_,lL 1 rv.x.net.places Qh6,lL 6 rv.x.net.arcs Qao.enc,lL 14 rv.x.types Qag.enc,lL 16 rv.x.orders Qaf.enc,lL 2 rv.x.apart Qau.enc,lL 2 rv.x.before Qau.enc],oS 9 47 rv.queue.items Qad.enc] cf
def Qh8 (Γ:Gam) (rv:Qbw) (l:Qbw) (v:Qaa) (r:Int×Qan) (l1:List Qad) (first_:Int) (v1:Int):Prop:=Qk2 Γ rv ⟨[.c 28,.l 28,.b 0],⟨25,[vP 0 0 8,vP 3 1 2,vI 7 r.1,vI 8 v1],[oX 8 120 [lO 2 9 l1 Qad.enc,lI first_,lL 1 l.x.net.places Qh6,lL 6 l.x.net.arcs Qao.enc,lL 14 l.x.types Qag.enc,lL 16 l.x.orders Qaf.enc,lL 2 l.x.apart Qau.enc,lL 2 l.x.before Qau.enc],oX 2 54 (Qaa.enc v),oS 9 47 l1 Qad.enc]⟩⟩
def QhA (Γ:Gam) (rv:Qbw) (l:Qbw) (v:Qaa) (r:Int×Qan) (l2:List Qad) (first_1:Int):Prop:=Qk2 Γ rv ⟨[],⟨25,[],[oX 8 120 [lO 1 9 l2 Qad.enc,lI first_1,lL 1 l.x.net.places Qh6,lL 6 l.x.net.arcs Qao.enc,lL 14 l.x.types Qag.enc,lL 16 l.x.orders Qaf.enc,lL 2 l.x.apart Qau.enc,lL 2 l.x.before Qau.enc],oS 9 47 l2 Qad.enc]⟩⟩
theorem Qnl (Γ:Gam) (rv:Qbw) {l v r} {s:List Qad×Int×Int} {e:List Qad×Int} (h:QaK (fun s=>Qbd l v r s.1 s.2.1 s.2.2) s=some e) (hD:QhA Γ rv l v r e.1 e.2):Qh8 Γ rv l v r s.1 s.2.1 s.2.2:=by
 refine QaC (C:=fun (s:List Qad×Int×Int)=>Qh8 Γ rv l v r s.1 s.2.1 s.2.2) (D:=fun (e:List Qad×Int)=>QhA Γ rv l v r e.1 e.2) ?_ h hD
 clear h hD s e
 rintro ⟨l1,first_,v1⟩ z_ h hI hE
 replace h:Qbd l v r l1 first_ v1=_:=h
 unfold Qbd at h
 rcases Qah h with ⟨h1,h⟩|⟨h1,h⟩
 ·obtain ⟨r1,h2,h⟩:=Qae h
  obtain ⟨r2,h3,h⟩:=Qae h
  obtain ⟨r3,h4,h⟩:=Qae h
  exact gn 11 [0,3,7,8] [0,1,4] [bT h1,hH (.draw 13 [(0,10),(2,10)]),cI [0,2] (Qcn (y:=l.x) h2),cC (QeN h3),oO (Eq.refl (true,8,([[lL 1 l.x.net.places Qh6,lL 6 l.x.net.arcs Qao.enc,lL 14 l.x.types Qag.enc,lL 16 l.x.orders Qaf.enc,lL 2 l.x.apart Qau.enc,lL 2 l.x.before Qau.enc]]:List (List Lf)))),cI [0,3] (Qdv (y:=l.x) h4)] (hI _ (oJ h))
 ·exact gn 5 [] [0,2] [bF h1] (hE _ (oJ h))
theorem Qpq {l v} {rv:Qbw} (h:QeY l v=some rv):AFn Tryz.prog 57 [.one (.op 0 8 0 0),.agg (Qaa.enc v)] [bX 8 120 [lO 1 9 l.queue.items Qad.enc,lI l.queue.first_,lL 1 l.x.net.places Qh6,lL 6 l.x.net.arcs Qao.enc,lL 14 l.x.types Qag.enc,lL 16 l.x.orders Qaf.enc,lL 2 l.x.apart Qau.enc,lL 2 l.x.before Qau.enc],bS 9 47 l.queue.items Qad.enc] (.tup []) [oX 8 120 [lO 1 9 rv.queue.items Qad.enc,lI rv.queue.first_,lL 1 rv.x.net.places Qh6,lL 6 rv.x.net.arcs Qao.enc,lL 14 rv.x.types Qag.enc,lL 16 rv.x.orders Qaf.enc,lL 2 rv.x.apart Qau.enc,lL 2 rv.x.before Qau.enc],oS 9 47 rv.queue.items Qad.enc]:=by
 refine QaS Tryz.func57 (by kernel_rfl) (by kernel_rfl) (fun Γ=>?_)
 unfold QeY at h
 obtain ⟨r,h0,h⟩:=Qae h
 obtain ⟨e0,h5,h⟩:=Qae h
 refine gn 6 [0,3,7,8] [0,2,3] [cI [0,1] (Qbk (y:=l.x) h0)] (Qnl Γ rv h5 ?_)
 obtain ⟨l2,first_1⟩:=e0
 replace h:(some (Qbw.mk (Qan.mk l2 first_1) l.x):Option Qbw)=some _:=h
 obtain rfl:=Option.some.inj h
 exact gr 0 [0,1] []
theorem QgC {a b} {rv:Bool} (h:QeL a b=some rv):AFn Tryz.prog 14 [.agg (Qad.enc a),.agg (Qad.enc b)] [] (one (.bool rv)) []:=by
 refine QaS Tryz.func14 (by kernel_rfl) (by kernel_rfl) (fun Γ=>?_)
 unfold QeL at h
 rcases Qah h with ⟨h0,h⟩|⟨h0,h⟩
 ·obtain rfl:=Option.some.inj h
  exact gr 8 [] [rp 18 hP,rp 4 (oI ((neI a.type_ b.type_)=false)),oR True ((neI a.type_ b.type_)=false),rp 4 (oI (((neI a.type_ b.type_)||(neI a.place b.place))=false)),oR True (((neI a.type_ b.type_)||(neI a.place b.place))=false),rp 4 (oI ((((neI a.type_ b.type_)||(neI a.place b.place))||(neI a.done b.done))=false)),oR True ((((neI a.type_ b.type_)||(neI a.place b.place))||(neI a.done b.done))=false),bT h0]
 ·rcases Qah h with ⟨h1,h⟩|⟨h1,h⟩
  ·obtain ⟨r,h2,h⟩:=Qae h
   obtain rfl:=Option.some.inj h
   exact gr 9 [] [rp 18 hP,rp 4 (oI ((neI a.type_ b.type_)=false)),oR True ((neI a.type_ b.type_)=false),rp 4 (oI (((neI a.type_ b.type_)||(neI a.place b.place))=false)),oR True (((neI a.type_ b.type_)||(neI a.place b.place))=false),rp 4 (oI ((((neI a.type_ b.type_)||(neI a.place b.place))||(neI a.done b.done))=false)),oR True ((((neI a.type_ b.type_)||(neI a.place b.place))||(neI a.done b.done))=false),bF h0,rp 12 hP,rp 4 (oI ((leI a.time b.time)=true)),oR True ((leI a.time b.time)=true),rp 4 (oI (((leI a.time b.time)&&(leI a.driven b.driven))=true)),oR True (((leI a.time b.time)&&(leI a.driven b.driven))=true),rp 5 (bT h1),cC (Qgd h2),bT h1]
  ·obtain rfl:=Option.some.inj h
   exact gr 9 [] [rp 18 hP,rp 4 (oI ((neI a.type_ b.type_)=false)),oR True ((neI a.type_ b.type_)=false),rp 4 (oI (((neI a.type_ b.type_)||(neI a.place b.place))=false)),oR True (((neI a.type_ b.type_)||(neI a.place b.place))=false),rp 4 (oI ((((neI a.type_ b.type_)||(neI a.place b.place))||(neI a.done b.done))=false)),oR True ((((neI a.type_ b.type_)||(neI a.place b.place))||(neI a.done b.done))=false),bF h0,rp 12 hP,rp 4 (oI ((leI a.time b.time)=true)),oR True ((leI a.time b.time)=true),rp 4 (oI (((leI a.time b.time)&&(leI a.driven b.driven))=true)),oR True (((leI a.time b.time)&&(leI a.driven b.driven))=true),rp 6 (bF h1)]
def Qnj (Γ:Gam) (rv:List Qad) (cf:Cf):Prop:=Go Tryz.prog Tryz.f60 [] Γ (one (lL 9 rv Qad.enc)) [] cf
def QpN (Γ:Gam) (rv:List Qad) (l:List Qad) (next_:Qad) (v:Int):Prop:=Qnj Γ rv ⟨[.c 52,.l 52,.b 0,.c 7],⟨40,[vL 0 9 l Qad.enc,vP 3 0 9,vL 10 9 l Qad.enc,vI 11 (lenI l),vI 12 v],[oX 9 47 (Qad.enc next_)]⟩⟩
def Qoq (Γ:Gam) (rv:List Qad) (l:List Qad) (next_:Qad):Prop:=Qnj Γ rv ⟨[.c 7],⟨40,[vL 0 9 l Qad.enc,vP 3 0 9],[oX 9 47 (Qad.enc next_)]⟩⟩
def QpO (Γ:Gam) (rv:List Qad) (l:List Qad) (next_:Qad) (l1:List Qad) (v1:Int):Prop:=Qnj Γ rv ⟨[.c 244,.l 244,.b 2,.c 31],⟨40,[vP 3 0 9,vO 7 1 9 l1 Qad.enc,vL 21 9 l Qad.enc,vI 22 (lenI l),vI 23 v1],[oX 9 47 (Qad.enc next_),oS 9 47 l1 Qad.enc]⟩⟩
def Qor (Γ:Gam) (rv:List Qad) (l:List Qad) (next_:Qad) (l2:List Qad):Prop:=Qnj Γ rv ⟨[.c 31],⟨40,[vP 3 0 9,vO 7 1 9 l2 Qad.enc],[oX 9 47 (Qad.enc next_),oS 9 47 l2 Qad.enc]⟩⟩
theorem Qs8 (Γ:Gam) (rv:List Qad) {l next_} {s:Int} {e:(Unit)⊕(List Qad)} (h:QaK (fun s=>Qeu l next_ s) s=some e) (hD:sel e (fun e=>Qoq Γ rv l next_) (fun e=>e=rv)):QpN Γ rv l next_ s:=by
 refine QaC (C:=fun (s:Int)=>QpN Γ rv l next_ s) (D:=fun (e:(Unit)⊕(List Qad))=>sel e (fun e=>Qoq Γ rv l next_) (fun e=>e=rv)) ?_ h hD
 clear h hD s e
 intro v z_ h hI hE
 replace h:Qeu l next_ v=_:=h
 unfold Qeu at h
 rcases Qah h with ⟨h0,h⟩|⟨h0,h⟩
 ·obtain ⟨x0,h1,h⟩:=Qae h
  obtain ⟨r,h2,h⟩:=Qae h
  rcases Qah h with ⟨h3,h⟩|⟨h3,h⟩
  ·obtain rfl:=(hE _ (oJ h):_=rv)
   exact gr 14 [] [bT h0,cE Qad.enc h1,cC (QgC h2),bT h3]
  ·exact gn 16 [0,3,10,11,12] [0] [bT h0,cE Qad.enc h1,cC (QgC h2),bF h3] (hI _ (oJ h))
 ·exact gn 5 [0,3] [0] [bF h0] (hE _ (oJ h))
theorem Qs9 (Γ:Gam) (rv:List Qad) {l next_} {s:List Qad×Int} {e:List Qad} (h:QaK (fun s=>Qd4 l next_ s.1 s.2) s=some e) (hD:Qor Γ rv l next_ e):QpO Γ rv l next_ s.1 s.2:=by
 refine QaC (C:=fun (s:List Qad×Int)=>QpO Γ rv l next_ s.1 s.2) (D:=fun (e:List Qad)=>Qor Γ rv l next_ e) ?_ h hD
 clear h hD s e
 rintro ⟨l1,v1⟩ z_ h hI hE
 replace h:Qd4 l next_ l1 v1=_:=h
 unfold Qd4 at h
 rcases Qah h with ⟨h5,h⟩|⟨h5,h⟩
 ·obtain ⟨x1,h6,h⟩:=Qae h
  obtain ⟨r1,h7,h⟩:=Qae h
  rcases Qah h with ⟨h8,h⟩|⟨h8,h⟩
  ·exact gn 16 [3,7,21,22,23] [0,1] [bT h5,cE Qad.enc h6,cC (QgC h7),nF h8] (hI _ (oJ h))
  ·obtain ⟨h9,h⟩:=Qat h
   exact gn 16 [3,7,21,22,23] [0,4] [bT h5,cE Qad.enc h6,cC (QgC h7),nT h8,oO (Eq.refl ([x1].map Qad.enc).length),aO Qad.enc h9] (hI _ (oJ h))
 ·exact gn 5 [3,7] [0,1] [bF h5] (hE _ (oJ h))
theorem Qvw {l next_} {rv:List Qad} (h:Qop l next_=some rv):AFn Tryz.prog 60 [.one (lL 9 l Qad.enc),.agg (Qad.enc next_)] [] (one (lL 9 rv Qad.enc)) []:=by
 refine QaS Tryz.func60 (by kernel_rfl) (by kernel_rfl) (fun Γ=>?_)
 unfold Qop at h
 obtain ⟨e0,h4,h⟩:=Qae h
 refine gn 7 [0,3,10,11,12] [0] [nL Qad.enc l] (Qs8 Γ rv h4 ?_)
 rcases e0 with e0|e0
 ·replace h:(bnd (QaK (fun s=>Qd4 l next_ s.1 s.2) ([],0)) (fun l2=>chk (okN (l2++[next_]).length 104) (some (l2++[next_]))):Option (List Qad))=some _:=h
  obtain ⟨e1,h10,h⟩:=Qae h
  refine gn 7 [3,7,21,22,23] [0,1] [nL Qad.enc l,hW 3,hH (.adopt 7 9 47)] (Qs9 Γ rv h10 ?_)
  obtain ⟨l2,rfl⟩:∃ x,x=e1:=⟨_,rfl⟩
  replace h:(chk (okN (l2++[next_]).length 104) (some (l2++[next_])):Option (List Qad))=some _:=h
  obtain ⟨h11,h⟩:=Qat h
  obtain rfl:=Option.some.inj h
  exact gr 2 [] [oO (Eq.refl ([next_].map Qad.enc).length),aO Qad.enc h11,hW 1,hH (.frz 3),rp 2 (oO (Eq.refl ((l2++[next_]).map Qad.enc).length))]
 ·obtain ⟨r2,rfl⟩:∃ x,x=e0:=⟨_,rfl⟩
  replace h:(some r2:Option (List Qad))=some _:=h
  exact Option.some.inj h
def QiA (Γ:Gam) (rv:List Qad×Int) (cf:Cf):Prop:=Go Tryz.prog Tryz.f20 [] Γ (.tup [.one (lL 9 rv.1 Qad.enc),.one (lI rv.2)]) [] cf
def QpL (Γ:Gam) (rv:List Qad×Int) (r:List (List Qaa)×Int) (r1:List Qad) (out:List Qad) (v:Int) (x2:List Qaa) (l:List Qad) (x3:Qab) (first_:Int) (x4:Qab) (v1:Int):Prop:=QiA Γ rv ⟨[.c 4171380,.l 4171380,.b 2,.c 521423,.b 1,.c 16295,.l 2036,.b 0,.c 255],⟨89,[vP 3 0 6,vL 10 9 r1 Qad.enc,vL 11 9 out Qad.enc,vP 14 1 8,vL 43 1 r.1 es_T_api_Visit.enc,vI 44 (lenI r.1),vI 45 v,vL 57 2 x2 Qaa.enc,vI 58 (lenI x2),vI 59 v1],[oX 6 30 (Qab.enc x3),oX 8 120 [lO 2 9 l Qad.enc,lI first_,lL 1 x4.net.places Qh6,lL 6 x4.net.arcs Qao.enc,lL 14 x4.types Qag.enc,lL 16 x4.orders Qaf.enc,lL 2 x4.apart Qau.enc,lL 2 x4.before Qau.enc],oS 9 47 l Qad.enc]⟩⟩
def Qom (Γ:Gam) (rv:List Qad×Int) (r:List (List Qaa)×Int) (r1:List Qad) (out:List Qad) (v:Int) (x2:List Qaa) (l1:List Qad) (x6:Qab) (first_1:Int) (x7:Qab):Prop:=QiA Γ rv ⟨[.c 521423,.b 1,.c 16295,.l 2036,.b 0,.c 255],⟨89,[vP 3 0 6,vL 10 9 r1 Qad.enc,vL 11 9 out Qad.enc,vP 14 1 8,vL 43 1 r.1 es_T_api_Visit.enc,vI 44 (lenI r.1),vI 45 v],[oX 6 30 (Qab.enc x6),oX 8 120 [lO 2 9 l1 Qad.enc,lI first_1,lL 1 x7.net.places Qh6,lL 6 x7.net.arcs Qao.enc,lL 14 x7.types Qag.enc,lL 16 x7.orders Qaf.enc,lL 2 x7.apart Qau.enc,lL 2 x7.before Qau.enc],oS 9 47 l1 Qad.enc]⟩⟩
def QpM (Γ:Gam) (rv:List Qad×Int) (r:List (List Qaa)×Int) (r1:List Qad) (v:Int) (l2:List Qad) (x8:Qab) (first_2:Int) (x9:Qab) (out1:List Qad):Prop:=QiA Γ rv ⟨[.c 2085692,.l 2085692,.b 4,.b 1,.c 16295,.l 2036,.b 0,.c 255],⟨89,[vP 3 0 6,vL 10 9 r1 Qad.enc,vL 11 9 out1 Qad.enc,vP 14 1 8,vL 43 1 r.1 es_T_api_Visit.enc,vI 44 (lenI r.1),vI 45 v],[oX 6 30 (Qab.enc x8),oX 8 120 [lO 2 9 l2 Qad.enc,lI first_2,lL 1 x9.net.places Qh6,lL 6 x9.net.arcs Qao.enc,lL 14 x9.types Qag.enc,lL 16 x9.orders Qaf.enc,lL 2 x9.apart Qau.enc,lL 2 x9.before Qau.enc],oS 9 47 l2 Qad.enc]⟩⟩
def Qon (Γ:Gam) (rv:List Qad×Int) (r:List (List Qaa)×Int) (r1:List Qad) (v:Int) (x10:Qab) (out2:List Qad):Prop:=QiA Γ rv ⟨[.b 1,.c 16295,.l 2036,.b 0,.c 255],⟨89,[vP 3 0 6,vL 10 9 r1 Qad.enc,vL 11 9 out2 Qad.enc,vL 43 1 r.1 es_T_api_Visit.enc,vI 44 (lenI r.1),vI 45 v],[oX 6 30 (Qab.enc x10)]⟩⟩
def QpK (Γ:Gam) (rv:List Qad×Int) (r:List (List Qaa)×Int) (r1:List Qad) (x1:Qab) (out:List Qad) (v:Int):Prop:=QiA Γ rv ⟨[.c 2036,.l 2036,.b 0,.c 255],⟨89,[vP 3 0 6,vL 10 9 r1 Qad.enc,vL 11 9 out Qad.enc,vL 43 1 r.1 es_T_api_Visit.enc,vI 44 (lenI r.1),vI 45 v],[oX 6 30 (Qab.enc x1)]⟩⟩
def Qol (Γ:Gam) (rv:List Qad×Int) (r:List (List Qaa)×Int) (r1:List Qad) (out3:List Qad):Prop:=QiA Γ rv ⟨[.c 255],⟨89,[vL 11 9 out3 Qad.enc],[]⟩⟩
theorem Qs6 (Γ:Gam) (rv:List Qad×Int) {r r1 out v x2} {s:List Qad×Qab×Int×Qab×Int} {e:List Qad×Qab×Int×Qab} (h:QaK (fun s=>Qfi r r1 out v x2 s.1 s.2.1 s.2.2.1 s.2.2.2.1 s.2.2.2.2) s=some e) (hD:Qom Γ rv r r1 out v x2 e.1 e.2.1 e.2.2.1 e.2.2.2):QpL Γ rv r r1 out v x2 s.1 s.2.1 s.2.2.1 s.2.2.2.1 s.2.2.2.2:=by
 refine QaC (C:=fun (s:List Qad×Qab×Int×Qab×Int)=>QpL Γ rv r r1 out v x2 s.1 s.2.1 s.2.2.1 s.2.2.2.1 s.2.2.2.2) (D:=fun (e:List Qad×Qab×Int×Qab)=>Qom Γ rv r r1 out v x2 e.1 e.2.1 e.2.2.1 e.2.2.2) ?_ h hD
 clear h hD s e
 rintro ⟨l,x3,first_,x4,v1⟩ z_ h hI hE
 replace h:Qfi r r1 out v x2 l x3 first_ x4 v1=_:=h
 unfold Qfi at h
 rcases Qah h with ⟨h7,h⟩|⟨h7,h⟩
 ·obtain ⟨x5,h8,h⟩:=Qae h
  obtain ⟨r3,h9,h⟩:=Qae h
  exact gn 13 [3,10,11,14,43,44,45,57,58,59] [0,1,4] [bT h7,cE Qaa.enc h8,cI [1,2] (Qpq h9)] (hI _ (oJ h))
 ·exact gn 5 [3,10,11,14,43,44,45] [0,1,2] [bF h7] (hE _ (oJ h))
theorem Qs7 (Γ:Gam) (rv:List Qad×Int) {r r1 v} {s:List Qad×Qab×Int×Qab×List Qad} {e:Qab×List Qad} (h:QaK (fun s=>Qdu r r1 v s.1 s.2.1 s.2.2.1 s.2.2.2.1 s.2.2.2.2) s=some e) (hD:Qon Γ rv r r1 v e.1 e.2):QpM Γ rv r r1 v s.1 s.2.1 s.2.2.1 s.2.2.2.1 s.2.2.2.2:=by
 refine QaC (C:=fun (s:List Qad×Qab×Int×Qab×List Qad)=>QpM Γ rv r r1 v s.1 s.2.1 s.2.2.1 s.2.2.2.1 s.2.2.2.2) (D:=fun (e:Qab×List Qad)=>Qon Γ rv r r1 v e.1 e.2) ?_ h hD
 clear h hD s e
 rintro ⟨l2,x8,first_2,x9,out1⟩ z_ h hI hE
 replace h:Qdu r r1 v l2 x8 first_2 x9 out1=_:=h
 unfold Qdu at h
 obtain ⟨r4,h11,h⟩:=Qae h
 rcases Qah h with ⟨h12,h⟩|⟨h12,h⟩
 ·obtain ⟨r5,h13,h⟩:=Qae h
  obtain ⟨r6,h14,h⟩:=Qae h
  rcases Qah h with ⟨h15,h⟩|⟨h15,h⟩
  ·obtain ⟨r7,h16,h⟩:=Qae h
   exact gn 16 [3,10,11,14,43,44,45] [0,1,4] [cI [1,2] (Qbk (y:=x9) h11),bT h12,cI [1,3] (Qcn (y:=x9) h13),cC (QgB h14),bT h15,cC (Qvw h16)] (hI _ (oJ h))
  ·exact gn 16 [3,10,11,14,43,44,45] [0,1,4] [cI [1,2] (Qbk (y:=x9) h11),bT h12,cI [1,3] (Qcn (y:=x9) h13),cC (QgB h14),bF h15] (hI _ (oJ h))
 ·exact gn 5 [3,10,11,43,44,45] [0] [cI [1,2] (Qbk (y:=x9) h11),bF h12] (hE _ (oJ h))
theorem Qs5 (Γ:Gam) (rv:List Qad×Int) {r r1} {s:Qab×List Qad×Int} {e:List Qad} (h:QaK (fun s=>Qd3 r r1 s.1 s.2.1 s.2.2) s=some e) (hD:Qol Γ rv r r1 e):QpK Γ rv r r1 s.1 s.2.1 s.2.2:=by
 refine QaC (C:=fun (s:Qab×List Qad×Int)=>QpK Γ rv r r1 s.1 s.2.1 s.2.2) (D:=fun (e:List Qad)=>Qol Γ rv r r1 e) ?_ h hD
 clear h hD s e
 rintro ⟨x1,out,v⟩ z_ h hI hE
 replace h:Qd3 r r1 x1 out v=_:=h
 unfold Qd3 at h
 rcases Qah h with ⟨h4,h⟩|⟨h4,h⟩
 ·obtain ⟨x2,h5,h⟩:=Qae h
  obtain ⟨r2,h6,h⟩:=Qae h
  obtain ⟨e0,h10,h⟩:=Qae h
  refine gn 18 [3,10,11,14,43,44,45,57,58,59] [0,1,3] [bT h4,cE es_T_api_Visit.enc h5,hW 14,hH (.adoptB 1 0 9 47),cI [1,2] (Qdv (y:=x1) h6),nL Qaa.enc x2] (Qs6 Γ rv h10 ?_)
  obtain ⟨l1,x6,first_1,x7⟩:=e0
  replace h:(bnd (QaK (fun s=>Qdu r r1 v s.1 s.2.1 s.2.2.1 s.2.2.2.1 s.2.2.2.2) (l1,x6,first_1,x7,out)) (fun e0=>(fun x10 out2=>some (.inl (x10,out2,(addK .i64 v 1)))) e0.1 e0.2):Option ((Qab×List Qad×Int)⊕(List Qad)))=some _:=h
  obtain ⟨e1,h17,h⟩:=Qae h
  refine gn 2 [3,10,11,14,43,44,45] [0,1,2] [] (Qs7 Γ rv h17 ?_)
  obtain ⟨x10,out2⟩:=e1
  replace h:(some (.inl (x10,out2,(addK .i64 v 1))):Option ((Qab×List Qad×Int)⊕(List Qad)))=some _:=h
  exact gn 3 [3,10,11,43,44,45] [0] [] (hI _ (oJ h))
 ·exact gn 5 [11] [] [bF h4] (hE _ (oJ h))
theorem QiS {x0 kind set_} {rv:List Qad×Int} (h:Qhz x0 kind set_=some rv):AFn Tryz.prog 20 [.agg (Qab.enc x0),.one (lI kind),.one (lI set_)] [] (.tup [.one (lL 9 rv.1 Qad.enc),.one (lI rv.2)]) []:=by
 refine QaS Tryz.func20 (by kernel_rfl) (by kernel_rfl) (fun Γ=>?_)
 unfold Qhz at h
 rcases Qah h with ⟨h0,h⟩|⟨h0,h⟩
 ·obtain rfl:=Option.some.inj h
  exact gr 8 [] [rp 4 hP,rp 2 (oI ((ltI kind 0)=false)),nL Qag.enc x0.types,hP,hP,rp 2 (oI ((ltI kind 0)=false)),oR True ((ltI kind 0)=false),bT h0,hW 4,hH (.nilS 6 0 9)]
 ·obtain ⟨r,h1,h⟩:=Qae h
  rcases Qah h with ⟨h2,h⟩|⟨h2,h⟩
  ·obtain rfl:=Option.some.inj h
   exact gr 15 [] [rp 4 hP,rp 2 (oI ((ltI kind 0)=false)),nL Qag.enc x0.types,hP,hP,rp 2 (oI ((ltI kind 0)=false)),oR True ((ltI kind 0)=false),bF h0,cC (QpV h1),bT h2,hW 5,hH (.nilS 6 0 9)]
  ·obtain ⟨r1,h3,h⟩:=Qae h
   obtain ⟨e2,h18,h⟩:=Qae h
   refine gn 23 [3,10,11,43,44,45] [0] [rp 4 hP,rp 2 (oI ((ltI kind 0)=false)),nL Qag.enc x0.types,hP,hP,rp 2 (oI ((ltI kind 0)=false)),oR True ((ltI kind 0)=false),bF h0,cC (QpV h1),bF h2,cC (QdW h3),nL es_T_api_Visit.enc r.1,hW 3,hH (.nilS 11 0 9)] (Qs5 Γ rv h18 ?_)
   obtain ⟨out3,rfl⟩:∃ x,x=e2:=⟨_,rfl⟩
   replace h:(some (out3,0):Option (List Qad×Int))=some _:=h
   obtain rfl:=Option.some.inj h
   exact gr 2 [] []
theorem Qf0 {rv:Bool} (h:Qdw=some rv):AFn Tryz.prog 8 [] [] (one (.bool rv)) []:=by
 refine QaS Tryz.func8 (by kernel_rfl) (by kernel_rfl) (fun Γ=>?_)
 unfold Qdw at h
 obtain ⟨r,h0,h⟩:=Qae h
 rcases Qah h with ⟨h1,h⟩|⟨h1,h⟩
 ·obtain rfl:=Option.some.inj h
  exact gr 18 [] [hW 15,hH (.frz 0),hH (.nilS 14 5 2),hH (.nilS 16 5 2),hW 9,hH (.frz 4),hW 9,hH (.frz 6),hW 6,hH (.frz 1),hH (.frz 2),hH (.frz 5),hH (.frz 7),hH (.nilS 30 4 2),hH (.nilS 30 5 2),rp 6 (oO (Eq.refl ([(Qai.mk 0 10)].map Qai.enc).length)),rp 2 (oO (Eq.refl ([5].map Qax).length)),rp 2 (oO (Eq.refl ([3].map Qax).length)),rp 5 (oO (Eq.refl ([Qj3,Qj4].map Qh6).length)),rp 5 (oO (Eq.refl ([(Qao.mk 0 1 0 4 [(Qai.mk 0 10)] []),(Qao.mk 1 0 0 4 [(Qai.mk 0 10)] [])].map Qao.enc).length)),rp 3 (oO (Eq.refl ([(Qag.mk Qj6 1 0 0 [5] 0 0 0 90 50 5 0 0 0)].map Qag.enc).length)),rp 3 (oO (Eq.refl ([(Qaf.mk Qj5 [3] (Qar.mk (-1) 0 0 0) (Qar.mk 1 0 80 0) 0 0 1 (-1) (-1) false)].map Qaf.enc).length)),cC (QdW h0),nL Qad.enc r,rp 6 (bT h1),tT]
 ·obtain ⟨x0,h2,h⟩:=Qae h
  rcases Qah h with ⟨h3,h⟩|⟨h3,h⟩
  ·obtain rfl:=Option.some.inj h
   exact gr 18 [] [hW 15,hH (.frz 0),hH (.nilS 14 5 2),hH (.nilS 16 5 2),hW 9,hH (.frz 4),hW 9,hH (.frz 6),hW 6,hH (.frz 1),hH (.frz 2),hH (.frz 5),hH (.frz 7),hH (.nilS 30 4 2),hH (.nilS 30 5 2),rp 6 (oO (Eq.refl ([(Qai.mk 0 10)].map Qai.enc).length)),rp 2 (oO (Eq.refl ([5].map Qax).length)),rp 2 (oO (Eq.refl ([3].map Qax).length)),rp 5 (oO (Eq.refl ([Qj3,Qj4].map Qh6).length)),rp 5 (oO (Eq.refl ([(Qao.mk 0 1 0 4 [(Qai.mk 0 10)] []),(Qao.mk 1 0 0 4 [(Qai.mk 0 10)] [])].map Qao.enc).length)),rp 3 (oO (Eq.refl ([(Qag.mk Qj6 1 0 0 [5] 0 0 0 90 50 5 0 0 0)].map Qag.enc).length)),rp 3 (oO (Eq.refl ([(Qaf.mk Qj5 [3] (Qar.mk (-1) 0 0 0) (Qar.mk 1 0 80 0) 0 0 1 (-1) (-1) false)].map Qaf.enc).length)),cC (QdW h0),nL Qad.enc r,bF h1,bF h1,cE Qad.enc h2,rp 4 (bF h1),bT h3]
  ·obtain ⟨x1,h4,h⟩:=Qae h
   obtain ⟨r1,h5,h⟩:=Qae h
   rcases Qah h with ⟨h6,h⟩|⟨h6,h⟩
   ·obtain rfl:=Option.some.inj h
    exact gr 25 [] [hW 15,hH (.frz 0),hH (.nilS 14 5 2),hH (.nilS 16 5 2),hW 9,hH (.frz 4),hW 9,hH (.frz 6),hW 6,hH (.frz 1),hH (.frz 2),hH (.frz 5),hH (.frz 7),hH (.nilS 30 4 2),hH (.nilS 30 5 2),rp 6 (oO (Eq.refl ([(Qai.mk 0 10)].map Qai.enc).length)),rp 2 (oO (Eq.refl ([5].map Qax).length)),rp 2 (oO (Eq.refl ([3].map Qax).length)),rp 5 (oO (Eq.refl ([Qj3,Qj4].map Qh6).length)),rp 5 (oO (Eq.refl ([(Qao.mk 0 1 0 4 [(Qai.mk 0 10)] []),(Qao.mk 1 0 0 4 [(Qai.mk 0 10)] [])].map Qao.enc).length)),rp 3 (oO (Eq.refl ([(Qag.mk Qj6 1 0 0 [5] 0 0 0 90 50 5 0 0 0)].map Qag.enc).length)),rp 3 (oO (Eq.refl ([(Qaf.mk Qj5 [3] (Qar.mk (-1) 0 0 0) (Qar.mk 1 0 80 0) 0 0 1 (-1) (-1) false)].map Qaf.enc).length)),cC (QdW h0),nL Qad.enc r,bF h1,bF h1,cE Qad.enc h2,rp 4 (bF h1),bF h3,hW 2,hH (.nilB 3 4 2),hH (.nilB 3 5 2),hH (.draw 7 []),cE Qad.enc h4,cC (QeN h5),nL Qad.enc r1,rp 6 (bT h6),rp 19 tT]
   ·obtain ⟨x2,h7,h⟩:=Qae h
    rcases Qah h with ⟨h8,h⟩|⟨h8,h⟩
    ·obtain rfl:=Option.some.inj h
     exact gr 25 [] [hW 15,hH (.frz 0),hH (.nilS 14 5 2),hH (.nilS 16 5 2),hW 9,hH (.frz 4),hW 9,hH (.frz 6),hW 6,hH (.frz 1),hH (.frz 2),hH (.frz 5),hH (.frz 7),hH (.nilS 30 4 2),hH (.nilS 30 5 2),rp 6 (oO (Eq.refl ([(Qai.mk 0 10)].map Qai.enc).length)),rp 2 (oO (Eq.refl ([5].map Qax).length)),rp 2 (oO (Eq.refl ([3].map Qax).length)),rp 5 (oO (Eq.refl ([Qj3,Qj4].map Qh6).length)),rp 5 (oO (Eq.refl ([(Qao.mk 0 1 0 4 [(Qai.mk 0 10)] []),(Qao.mk 1 0 0 4 [(Qai.mk 0 10)] [])].map Qao.enc).length)),rp 3 (oO (Eq.refl ([(Qag.mk Qj6 1 0 0 [5] 0 0 0 90 50 5 0 0 0)].map Qag.enc).length)),rp 3 (oO (Eq.refl ([(Qaf.mk Qj5 [3] (Qar.mk (-1) 0 0 0) (Qar.mk 1 0 80 0) 0 0 1 (-1) (-1) false)].map Qaf.enc).length)),cC (QdW h0),nL Qad.enc r,bF h1,bF h1,cE Qad.enc h2,rp 4 (bF h1),bF h3,hW 2,hH (.nilB 3 4 2),hH (.nilB 3 5 2),hH (.draw 7 []),cE Qad.enc h4,cC (QeN h5),nL Qad.enc r1,bF h6,bF h6,cE Qad.enc h7,rp 4 (bF h6),rp 6 (bT h8),rp 13 tT]
    ·rcases Qah h with ⟨h9,h⟩|⟨h9,h⟩
     ·obtain rfl:=Option.some.inj h
      exact gr 25 [] [hW 15,hH (.frz 0),hH (.nilS 14 5 2),hH (.nilS 16 5 2),hW 9,hH (.frz 4),hW 9,hH (.frz 6),hW 6,hH (.frz 1),hH (.frz 2),hH (.frz 5),hH (.frz 7),hH (.nilS 30 4 2),hH (.nilS 30 5 2),rp 6 (oO (Eq.refl ([(Qai.mk 0 10)].map Qai.enc).length)),rp 2 (oO (Eq.refl ([5].map Qax).length)),rp 2 (oO (Eq.refl ([3].map Qax).length)),rp 5 (oO (Eq.refl ([Qj3,Qj4].map Qh6).length)),rp 5 (oO (Eq.refl ([(Qao.mk 0 1 0 4 [(Qai.mk 0 10)] []),(Qao.mk 1 0 0 4 [(Qai.mk 0 10)] [])].map Qao.enc).length)),rp 3 (oO (Eq.refl ([(Qag.mk Qj6 1 0 0 [5] 0 0 0 90 50 5 0 0 0)].map Qag.enc).length)),rp 3 (oO (Eq.refl ([(Qaf.mk Qj5 [3] (Qar.mk (-1) 0 0 0) (Qar.mk 1 0 80 0) 0 0 1 (-1) (-1) false)].map Qaf.enc).length)),cC (QdW h0),nL Qad.enc r,bF h1,bF h1,cE Qad.enc h2,rp 4 (bF h1),bF h3,hW 2,hH (.nilB 3 4 2),hH (.nilB 3 5 2),hH (.draw 7 []),cE Qad.enc h4,cC (QeN h5),nL Qad.enc r1,bF h6,bF h6,cE Qad.enc h7,rp 4 (bF h6),bF h8,bF h8,cE Qad.enc h7,rp 4 (bF h8),rp 6 (bT h9),rp 7 tT]
     ·rcases Qah h with ⟨h10,h⟩|⟨h10,h⟩
      ·obtain rfl:=Option.some.inj h
       exact gr 25 [] [hW 15,hH (.frz 0),hH (.nilS 14 5 2),hH (.nilS 16 5 2),hW 9,hH (.frz 4),hW 9,hH (.frz 6),hW 6,hH (.frz 1),hH (.frz 2),hH (.frz 5),hH (.frz 7),hH (.nilS 30 4 2),hH (.nilS 30 5 2),rp 6 (oO (Eq.refl ([(Qai.mk 0 10)].map Qai.enc).length)),rp 2 (oO (Eq.refl ([5].map Qax).length)),rp 2 (oO (Eq.refl ([3].map Qax).length)),rp 5 (oO (Eq.refl ([Qj3,Qj4].map Qh6).length)),rp 5 (oO (Eq.refl ([(Qao.mk 0 1 0 4 [(Qai.mk 0 10)] []),(Qao.mk 1 0 0 4 [(Qai.mk 0 10)] [])].map Qao.enc).length)),rp 3 (oO (Eq.refl ([(Qag.mk Qj6 1 0 0 [5] 0 0 0 90 50 5 0 0 0)].map Qag.enc).length)),rp 3 (oO (Eq.refl ([(Qaf.mk Qj5 [3] (Qar.mk (-1) 0 0 0) (Qar.mk 1 0 80 0) 0 0 1 (-1) (-1) false)].map Qaf.enc).length)),cC (QdW h0),nL Qad.enc r,bF h1,bF h1,cE Qad.enc h2,rp 4 (bF h1),bF h3,hW 2,hH (.nilB 3 4 2),hH (.nilB 3 5 2),hH (.draw 7 []),cE Qad.enc h4,cC (QeN h5),nL Qad.enc r1,bF h6,bF h6,cE Qad.enc h7,rp 4 (bF h6),bF h8,bF h8,cE Qad.enc h7,rp 4 (bF h8),bF h9,bF h9,cE Qad.enc h7,rp 4 (bF h9),rp 6 (bT h10),tT]
      ·obtain ⟨x3,h11,h⟩:=Qae h
       rcases Qah h with ⟨h12,h⟩|⟨h12,h⟩
       ·obtain rfl:=Option.some.inj h
        exact gr 25 [] [hW 15,hH (.frz 0),hH (.nilS 14 5 2),hH (.nilS 16 5 2),hW 9,hH (.frz 4),hW 9,hH (.frz 6),hW 6,hH (.frz 1),hH (.frz 2),hH (.frz 5),hH (.frz 7),hH (.nilS 30 4 2),hH (.nilS 30 5 2),rp 6 (oO (Eq.refl ([(Qai.mk 0 10)].map Qai.enc).length)),rp 2 (oO (Eq.refl ([5].map Qax).length)),rp 2 (oO (Eq.refl ([3].map Qax).length)),rp 5 (oO (Eq.refl ([Qj3,Qj4].map Qh6).length)),rp 5 (oO (Eq.refl ([(Qao.mk 0 1 0 4 [(Qai.mk 0 10)] []),(Qao.mk 1 0 0 4 [(Qai.mk 0 10)] [])].map Qao.enc).length)),rp 3 (oO (Eq.refl ([(Qag.mk Qj6 1 0 0 [5] 0 0 0 90 50 5 0 0 0)].map Qag.enc).length)),rp 3 (oO (Eq.refl ([(Qaf.mk Qj5 [3] (Qar.mk (-1) 0 0 0) (Qar.mk 1 0 80 0) 0 0 1 (-1) (-1) false)].map Qaf.enc).length)),cC (QdW h0),nL Qad.enc r,bF h1,bF h1,cE Qad.enc h2,rp 4 (bF h1),bF h3,hW 2,hH (.nilB 3 4 2),hH (.nilB 3 5 2),hH (.draw 7 []),cE Qad.enc h4,cC (QeN h5),nL Qad.enc r1,bF h6,bF h6,cE Qad.enc h7,rp 4 (bF h6),bF h8,bF h8,cE Qad.enc h7,rp 4 (bF h8),bF h9,bF h9,cE Qad.enc h7,rp 4 (bF h9),rp 2 (bF h10),cE Qad.enc h11,rp 4 (bF h10),bT h12]
       ·obtain ⟨r2,h13,h⟩:=Qae h
        obtain ⟨r3,h14,h⟩:=Qae h
        obtain rfl:=Option.some.inj h
        exact gr 30 [] [hW 15,hH (.frz 0),hH (.nilS 14 5 2),hH (.nilS 16 5 2),hW 9,hH (.frz 4),hW 9,hH (.frz 6),hW 6,hH (.frz 1),hH (.frz 2),hH (.frz 5),hH (.frz 7),hH (.nilS 30 4 2),hH (.nilS 30 5 2),rp 6 (oO (Eq.refl ([(Qai.mk 0 10)].map Qai.enc).length)),rp 2 (oO (Eq.refl ([5].map Qax).length)),rp 2 (oO (Eq.refl ([3].map Qax).length)),rp 5 (oO (Eq.refl ([Qj3,Qj4].map Qh6).length)),rp 5 (oO (Eq.refl ([(Qao.mk 0 1 0 4 [(Qai.mk 0 10)] []),(Qao.mk 1 0 0 4 [(Qai.mk 0 10)] [])].map Qao.enc).length)),rp 3 (oO (Eq.refl ([(Qag.mk Qj6 1 0 0 [5] 0 0 0 90 50 5 0 0 0)].map Qag.enc).length)),rp 3 (oO (Eq.refl ([(Qaf.mk Qj5 [3] (Qar.mk (-1) 0 0 0) (Qar.mk 1 0 80 0) 0 0 1 (-1) (-1) false)].map Qaf.enc).length)),cC (QdW h0),nL Qad.enc r,bF h1,bF h1,cE Qad.enc h2,rp 4 (bF h1),bF h3,hW 2,hH (.nilB 3 4 2),hH (.nilB 3 5 2),hH (.draw 7 []),cE Qad.enc h4,cC (QeN h5),nL Qad.enc r1,bF h6,bF h6,cE Qad.enc h7,rp 4 (bF h6),bF h8,bF h8,cE Qad.enc h7,rp 4 (bF h8),bF h9,bF h9,cE Qad.enc h7,rp 4 (bF h9),rp 2 (bF h10),cE Qad.enc h11,rp 4 (bF h10),bF h12,hH (.draw 12 []),cE Qad.enc h7,cC (QgB h13),cC (QiS h14),rp 8 hP,oI (r2.2.2=true),oR True (r2.2.2=true),oI ((r2.2.2&&(eqI r2.1 20))=true),oR True ((r2.2.2&&(eqI r2.1 20))=true),oI (((r2.2.2&&(eqI r2.1 20))&&(eqI r3.2 0))=true),nL Qad.enc r3.1,hP,hP,oI (((r2.2.2&&(eqI r2.1 20))&&(eqI r3.2 0))=true),oR True (((r2.2.2&&(eqI r2.1 20))&&(eqI r3.2 0))=true)]
def QnN (Γ:Gam) (rv:Bool) (cf:Cf):Prop:=Go Tryz.prog Tryz.f74 [] Γ (one (.bool rv)) [] cf
def Qle (Γ:Gam) (rv:Bool) (t:Qag) (skills:Int) (bit:Int):Prop:=QnN Γ rv ⟨[.c 116,.l 116,.b 0,.c 15],⟨30,[vI 1 skills,vP 2 0 14,vI 5 bit],[oX 14 79 (Qag.enc t)]⟩⟩
def Qkh (Γ:Gam) (rv:Bool) (t:Qag) (skills:Int):Prop:=QnN Γ rv ⟨[.c 15],⟨30,[],[]⟩⟩
theorem Qpy (Γ:Gam) (rv:Bool) {t skills} {s:Int} {e:(Unit)⊕(Bool)} (h:QaK (fun s=>QcO t skills s) s=some e) (hD:sel e (fun e=>Qkh Γ rv t skills) (fun e=>e=rv)):Qle Γ rv t skills s:=by
 refine QaC (C:=fun (s:Int)=>Qle Γ rv t skills s) (D:=fun (e:(Unit)⊕(Bool))=>sel e (fun e=>Qkh Γ rv t skills) (fun e=>e=rv)) ?_ h hD
 clear h hD s e
 intro bit z_ h hI hE
 replace h:QcO t skills bit=_:=h
 unfold QcO at h
 rcases Qah h with ⟨h1,h⟩|⟨h1,h⟩
 ·obtain ⟨h2,h⟩:=Qat h
  rcases Qah h with ⟨h3,h⟩|⟨h3,h⟩
  ·obtain ⟨h4,h⟩:=Qat h
   rcases Qah h with ⟨h5,h⟩|⟨h5,h⟩
   ·obtain rfl:=(hE _ (oJ h):_=rv)
    exact gr 12 [] [bT h1,oO (h2),oO (oA (n:=2)),rp 4 (bT h3),oO (h4),bT h3,oO (oA (n:=2)),bT h3,bT h3,bT h5]
   ·exact gn 14 [1,2,5] [0] [bT h1,oO (h2),oO (oA (n:=2)),rp 4 (bT h3),oO (h4),bT h3,oO (oA (n:=2)),bT h3,bT h3,bF h5] (hI _ (oJ h))
  ·exact gn 14 [1,2,5] [0] [bT h1,oO (h2),oO (oA (n:=2)),rp 7 (bF h3),fF] (hI _ (oJ h))
 ·exact gn 5 [] [] [bF h1] (hE _ (oJ h))
theorem QmG {t skills} {rv:Bool} (h:QcU t skills=some rv):AFn Tryz.prog 74 [.agg (Qag.enc t),.one (lI skills)] [] (one (.bool rv)) []:=by
 refine QaS Tryz.func74 (by kernel_rfl) (by kernel_rfl) (fun Γ=>?_)
 unfold QcU at h
 rcases Qah h with ⟨h0,h⟩|⟨h0,h⟩
 ·obtain rfl:=Option.some.inj h
  exact gr 8 [] [hP,hP,hP,oI ((ltI t.skills 0)=false),oR True ((ltI t.skills 0)=false),bT h0]
 ·obtain ⟨e0,h6,h⟩:=Qae h
  refine gn 12 [1,2,5] [0] [hP,hP,hP,oI ((ltI t.skills 0)=false),oR True ((ltI t.skills 0)=false),bF h0] (Qpy Γ rv h6 ?_)
  rcases e0 with e0|e0
  ·replace h:(some true:Option Bool)=some _:=h
   obtain rfl:=Option.some.inj h
   exact gr 2 [] []
  ·obtain ⟨r,rfl⟩:∃ x,x=e0:=⟨_,rfl⟩
   replace h:(some r:Option Bool)=some _:=h
   exact Option.some.inj h
def QnL (Γ:Gam) (rv:Bool) (cf:Cf):Prop:=Go Tryz.prog Tryz.f113 [] Γ (one (.bool rv)) [] cf
def Qlc (Γ:Gam) (rv:Bool) (l:List (List Int)) (dims:Int) (i:Int):Prop:=QnL Γ rv ⟨[.c 116,.l 116,.b 0,.c 15],⟨25,[vL 0 1 l QbL,vI 1 dims,vI 5 i],[]⟩⟩
def Qke (Γ:Gam) (rv:Bool) (l:List (List Int)) (dims:Int):Prop:=QnL Γ rv ⟨[.c 15],⟨25,[],[]⟩⟩
theorem Qpw (Γ:Gam) (rv:Bool) {l dims} {s:Int} {e:(Unit)⊕(Bool)} (h:QaK (fun s=>Qcp l dims s) s=some e) (hD:sel e (fun e=>Qke Γ rv l dims) (fun e=>e=rv)):Qlc Γ rv l dims s:=by
 refine QaC (C:=fun (s:Int)=>Qlc Γ rv l dims s) (D:=fun (e:(Unit)⊕(Bool))=>sel e (fun e=>Qke Γ rv l dims) (fun e=>e=rv)) ?_ h hD
 clear h hD s e
 intro i z_ h hI hE
 replace h:Qcp l dims i=_:=h
 unfold Qcp at h
 rcases Qah h with ⟨h1,h⟩|⟨h1,h⟩
 ·obtain ⟨x0,h2,h⟩:=Qae h
  rcases Qah h with ⟨h3,h⟩|⟨h3,h⟩
  ·obtain rfl:=(hE _ (oJ h):_=rv)
   exact gr 12 [] [nL QbL l,bT h1,cE QbL h2,nL Qax x0,bT h3]
  ·exact gn 14 [0,1,5] [] [nL QbL l,bT h1,cE QbL h2,nL Qax x0,bF h3] (hI _ (oJ h))
 ·exact gn 5 [] [] [nL QbL l,bF h1] (hE _ (oJ h))
theorem QmB {l dims} {rv:Bool} (h:Qg0 l dims=some rv):AFn Tryz.prog 113 [.one (lL 1 l QbL),.one (lI dims)] [] (one (.bool rv)) []:=by
 refine QaS Tryz.func113 (by kernel_rfl) (by kernel_rfl) (fun Γ=>?_)
 unfold Qg0 at h
 rcases Qah h with ⟨h0,h⟩|⟨h0,h⟩
 ·obtain rfl:=Option.some.inj h
  exact gr 8 [] [hP,hP,hP,oI ((ltI dims 0)=false),oR True ((ltI dims 0)=false),bT h0]
 ·obtain ⟨e0,h4,h⟩:=Qae h
  refine gn 12 [0,1,5] [] [hP,hP,hP,oI ((ltI dims 0)=false),oR True ((ltI dims 0)=false),bF h0] (Qpw Γ rv h4 ?_)
  rcases e0 with e0|e0
  ·replace h:(some true:Option Bool)=some _:=h
   obtain rfl:=Option.some.inj h
   exact gr 2 [] []
  ·obtain ⟨r,rfl⟩:∃ x,x=e0:=⟨_,rfl⟩
   replace h:(some r:Option Bool)=some _:=h
   exact Option.some.inj h
def QhI (Γ:Gam) (rv:List Int×Int) (cf:Cf):Prop:=Go Tryz.prog Tryz.f77 [] Γ (.tup [.one (lL 1 rv.1 Qax),.one (lI rv.2)]) [] cf
def QlL (Γ:Gam) (rv:List Int×Int) (l:List (List Int)) (dims:Int) (l1:List Int) (d:Int) (n:Int) (i:Int):Prop:=QhI Γ rv ⟨[.c 62612,.l 62612,.b 2,.c 7827,.b 1,.c 979,.l 244,.b 0,.c 31],⟨39,[vL 0 1 l QbL,vI 1 dims,vO 6 0 1 l1 Qax,vI 7 d,vI 8 n,vI 9 i],[oS 1 3 l1 Qax]⟩⟩
def Qlb (Γ:Gam) (rv:List Int×Int) (l:List (List Int)) (dims:Int) (l1:List Int) (d:Int) (n1:Int):Prop:=QhI Γ rv ⟨[.c 7827,.b 1,.c 979,.l 244,.b 0,.c 31],⟨39,[vL 0 1 l QbL,vI 1 dims,vO 6 0 1 l1 Qax,vI 7 d,vI 8 n1],[oS 1 3 l1 Qax]⟩⟩
def QlK (Γ:Gam) (rv:List Int×Int) (l:List (List Int)) (dims:Int) (l1:List Int) (d:Int):Prop:=QhI Γ rv ⟨[.c 244,.l 244,.b 0,.c 31],⟨39,[vL 0 1 l QbL,vI 1 dims,vO 6 0 1 l1 Qax,vI 7 d],[oS 1 3 l1 Qax]⟩⟩
def Qla (Γ:Gam) (rv:List Int×Int) (l:List (List Int)) (dims:Int) (l2:List Int):Prop:=QhI Γ rv ⟨[.c 31],⟨39,[vO 6 0 1 l2 Qax],[oS 1 3 l2 Qax]⟩⟩
theorem Qp1 (Γ:Gam) (rv:List Int×Int) {l dims l1 d} {s:Int×Int} {e:Int} (h:QaK (fun s=>Qci l dims l1 d s.1 s.2) s=some e) (hD:Qlb Γ rv l dims l1 d e):QlL Γ rv l dims l1 d s.1 s.2:=by
 refine QaC (C:=fun (s:Int×Int)=>QlL Γ rv l dims l1 d s.1 s.2) (D:=fun (e:Int)=>Qlb Γ rv l dims l1 d e) ?_ h hD
 clear h hD s e
 rintro ⟨n,i⟩ z_ h hI hE
 replace h:Qci l dims l1 d n i=_:=h
 unfold Qci at h
 rcases Qah h with ⟨h3,h⟩|⟨h3,h⟩
 ·obtain ⟨x0,h4,h⟩:=Qae h
  obtain ⟨x1,h5,h⟩:=Qae h
  exact gn 11 [0,1,6,7,8,9] [0] [nL QbL l,bT h3,cE QbL h4,cE Qax h5] (hI _ (oJ h))
 ·exact gn 5 [0,1,6,7,8] [0] [nL QbL l,bF h3] (hE _ (oJ h))
theorem Qp0 (Γ:Gam) (rv:List Int×Int) {l dims} {s:List Int×Int} {e:List Int} (h:QaK (fun s=>Qch l dims s.1 s.2) s=some e) (hD:Qla Γ rv l dims e):QlK Γ rv l dims s.1 s.2:=by
 refine QaC (C:=fun (s:List Int×Int)=>QlK Γ rv l dims s.1 s.2) (D:=fun (e:List Int)=>Qla Γ rv l dims e) ?_ h hD
 clear h hD s e
 rintro ⟨l1,d⟩ z_ h hI hE
 replace h:Qch l dims l1 d=_:=h
 unfold Qch at h
 rcases Qah h with ⟨h2,h⟩|⟨h2,h⟩
 ·obtain ⟨e0,h6,h⟩:=Qae h
  refine gn 14 [0,1,6,7,8,9] [0] [bT h2] (Qp1 Γ rv h6 ?_)
  obtain ⟨n1,rfl⟩:∃ x,x=e0:=⟨_,rfl⟩
  replace h:(chk (okN (l1++[n1]).length 8) (some (.inl ((l1++[n1]),(addK .i64 d 1)))):Option ((List Int×Int)⊕(List Int)))=some _:=h
  obtain ⟨h7,h⟩:=Qat h
  exact gn 4 [0,1,6,7] [2] [oO (Eq.refl ([n1].map Qax).length),aO Qax h7] (hI _ (oJ h))
 ·exact gn 5 [6] [0] [bF h2] (hE _ (oJ h))
theorem Qsk {l dims} {rv:List Int×Int} (h:Qfs l dims=some rv):AFn Tryz.prog 77 [.one (lL 1 l QbL),.one (lI dims)] [] (.tup [.one (lL 1 rv.1 Qax),.one (lI rv.2)]) []:=by
 refine QaS Tryz.func77 (by kernel_rfl) (by kernel_rfl) (fun Γ=>?_)
 unfold Qfs at h
 obtain ⟨r,h0,h⟩:=Qae h
 rcases Qah h with ⟨h1,h⟩|⟨h1,h⟩
 ·obtain ⟨e1,h8,h⟩:=Qae h
  refine gn 14 [0,1,6,7] [0] [cC (QmB h0),nF h1,hW 10,hH (.adopt 6 1 3)] (Qp0 Γ rv h8 ?_)
  obtain ⟨l2,rfl⟩:∃ x,x=e1:=⟨_,rfl⟩
  replace h:(some (l2,0):Option (List Int×Int))=some _:=h
  obtain rfl:=Option.some.inj h
  exact gr 2 [] [hW 5,hH (.frz 0),rp 3 (eL l2 Qax)]
 ·obtain rfl:=Option.some.inj h
  exact gr 8 [] [cC (QmB h0),nT h1,hW 4,hH (.nilS 4 0 1)]
def QnK (Γ:Gam) (rv:Bool) (cf:Cf):Prop:=Go Tryz.prog Tryz.f35 [] Γ (one (.bool rv)) [] cf
def Qk9 (Γ:Gam) (rv:Bool) (a:List Int) (capacity:List Int) (i:Int):Prop:=QnK Γ rv ⟨[.c 116,.l 116,.b 0,.c 15],⟨26,[vL 0 1 a Qax,vL 1 1 capacity Qax,vI 5 i],[]⟩⟩
def Qkc (Γ:Gam) (rv:Bool) (a:List Int) (capacity:List Int):Prop:=QnK Γ rv ⟨[.c 15],⟨26,[],[]⟩⟩
theorem Qpv (Γ:Gam) (rv:Bool) {a capacity} {s:Int} {e:(Unit)⊕(Bool)} (h:QaK (fun s=>Qco a capacity s) s=some e) (hD:sel e (fun e=>Qkc Γ rv a capacity) (fun e=>e=rv)):Qk9 Γ rv a capacity s:=by
 refine QaC (C:=fun (s:Int)=>Qk9 Γ rv a capacity s) (D:=fun (e:(Unit)⊕(Bool))=>sel e (fun e=>Qkc Γ rv a capacity) (fun e=>e=rv)) ?_ h hD
 clear h hD s e
 intro i z_ h hI hE
 replace h:Qco a capacity i=_:=h
 unfold Qco at h
 rcases Qah h with ⟨h1,h⟩|⟨h1,h⟩
 ·obtain ⟨x0,h2,h⟩:=Qae h
  obtain ⟨x1,h3,h⟩:=Qae h
  rcases Qah h with ⟨h4,h⟩|⟨h4,h⟩
  ·obtain rfl:=(hE _ (oJ h):_=rv)
   exact gr 12 [] [nL Qax a,bT h1,hH (.draw 9 []),cE Qax h2,cE Qax h3,bT h4]
  ·exact gn 14 [0,1,5] [] [nL Qax a,bT h1,hH (.draw 9 []),cE Qax h2,cE Qax h3,bF h4] (hI _ (oJ h))
 ·exact gn 5 [] [] [nL Qax a,bF h1] (hE _ (oJ h))
theorem Qmz {a capacity} {rv:Bool} (h:QeP a capacity=some rv):AFn Tryz.prog 35 [.one (lL 1 a Qax),.one (lL 1 capacity Qax)] [] (one (.bool rv)) []:=by
 refine QaS Tryz.func35 (by kernel_rfl) (by kernel_rfl) (fun Γ=>?_)
 unfold QeP at h
 rcases Qah h with ⟨h0,h⟩|⟨h0,h⟩
 ·obtain rfl:=Option.some.inj h
  exact gr 8 [] [nL Qax a,nL Qax capacity,bT h0]
 ·obtain ⟨e0,h5,h⟩:=Qae h
  refine gn 12 [0,1,5] [] [nL Qax a,nL Qax capacity,bF h0] (Qpv Γ rv h5 ?_)
  rcases e0 with e0|e0
  ·replace h:(some true:Option Bool)=some _:=h
   obtain rfl:=Option.some.inj h
   exact gr 2 [] []
  ·obtain ⟨r,rfl⟩:∃ x,x=e0:=⟨_,rfl⟩
   replace h:(some r:Option Bool)=some _:=h
   exact Option.some.inj h
theorem Qb1 {n p} {rv:Bool} (h:Qe0 n p=some rv):AFn Tryz.prog 83 [.agg (Qak.enc n),.one (lI p)] [] (one (.bool rv)) []:=by
 refine QaS Tryz.func83 (by kernel_rfl) (by kernel_rfl) (fun Γ=>?_)
 unfold Qe0 at h
 obtain rfl:=Option.some.inj h
 exact gr 4 [] [rp 4 hP,rp 2 (oI ((geI p 0)=true)),nL Qh6 n.places,hP,hP,rp 2 (oI ((geI p 0)=true)),oR True ((geI p 0)=true)]
def QnM (Γ:Gam) (rv:Qao×Bool) (cf:Cf):Prop:=Go Tryz.prog Tryz.f84 [] Γ (.tup [.agg [lI rv.1.from_,lI rv.1.to_,lI rv.1.profile,lI rv.1.miles,lL 2 rv.1.travel Qai.enc,lL 2 rv.1.slow Qai.enc],.one (.bool rv.2)]) [] cf
def Qld (Γ:Gam) (rv:Qao×Bool) (n:Qak) (profile:Int) (from_:Int) (to_:Int) (i:Int):Prop:=QnM Γ rv ⟨[.c 52,.l 52,.b 0,.c 7],⟨42,[vI 1 profile,vI 2 from_,vI 3 to_,vP 4 0 2,vP 8 1 6,vI 10 i],[oX 2 25 (Qak.enc n),oX 6 77 [lI 0,lI 0,lI 0,lI 0,.nils,.nils]]⟩⟩
def Qkg (Γ:Gam) (rv:Qao×Bool) (n:Qak) (profile:Int) (from_:Int) (to_:Int):Prop:=QnM Γ rv ⟨[.c 7],⟨42,[vP 8 0 6],[oX 6 77 [lI 0,lI 0,lI 0,lI 0,.nils,.nils]]⟩⟩
theorem Qpx (Γ:Gam) (rv:Qao×Bool) {n profile from_ to_} {s:Int} {e:(Unit)⊕(Qao×Bool)} (h:QaK (fun s=>Qea n profile from_ to_ s) s=some e) (hD:sel e (fun e=>Qkg Γ rv n profile from_ to_) (fun e=>e=rv)):Qld Γ rv n profile from_ to_ s:=by
 refine QaC (C:=fun (s:Int)=>Qld Γ rv n profile from_ to_ s) (D:=fun (e:(Unit)⊕(Qao×Bool))=>sel e (fun e=>Qkg Γ rv n profile from_ to_) (fun e=>e=rv)) ?_ h hD
 clear h hD s e
 intro i z_ h hI hE
 replace h:Qea n profile from_ to_ i=_:=h
 unfold Qea at h
 rcases Qah h with ⟨h0,h⟩|⟨h0,h⟩
 ·obtain ⟨x0,h1,h⟩:=Qae h
  rcases Qah h with ⟨h2,h⟩|⟨h2,h⟩
  ·obtain rfl:=(hE _ (oJ h):_=rv)
   exact gr 14 [] [nL Qao.enc n.arcs,bT h0,cE Qao.enc h1,rp 10 hP,rp 3 (oI ((eqI x0.from_ from_)=true)),oR True ((eqI x0.from_ from_)=true),rp 3 (oI (((eqI x0.from_ from_)&&(eqI x0.to_ to_))=true)),oR True (((eqI x0.from_ from_)&&(eqI x0.to_ to_))=true),bT h2]
  ·exact gn 16 [1,2,3,4,8,10] [0,1] [nL Qao.enc n.arcs,bT h0,cE Qao.enc h1,rp 10 hP,rp 3 (oI ((eqI x0.from_ from_)=true)),oR True ((eqI x0.from_ from_)=true),rp 3 (oI (((eqI x0.from_ from_)&&(eqI x0.to_ to_))=true)),oR True (((eqI x0.from_ from_)&&(eqI x0.to_ to_))=true),bF h2] (hI _ (oJ h))
 ·exact gn 5 [8] [1] [nL Qao.enc n.arcs,bF h0] (hE _ (oJ h))
theorem QmC {n profile from_ to_} {rv:Qao×Bool} (h:Qg1 n profile from_ to_=some rv):AFn Tryz.prog 84 [.agg (Qak.enc n),.one (lI profile),.one (lI from_),.one (lI to_)] [] (.tup [.agg [lI rv.1.from_,lI rv.1.to_,lI rv.1.profile,lI rv.1.miles,lL 2 rv.1.travel Qai.enc,lL 2 rv.1.slow Qai.enc],.one (.bool rv.2)]) []:=by
 refine QaS Tryz.func84 (by kernel_rfl) (by kernel_rfl) (fun Γ=>?_)
 unfold Qg1 at h
 obtain ⟨e0,h3,h⟩:=Qae h
 refine gn 7 [1,2,3,4,8,10] [0,1] [] (Qpx Γ rv h3 ?_)
 rcases e0 with e0|e0
 ·replace h:(some ((Qao.mk 0 0 0 0 [] []),false):Option (Qao×Bool))=some _:=h
  obtain rfl:=Option.some.inj h
  exact gr 2 [] [hW 5,hH (.nilB 0 4 2),hH (.nilB 0 5 2)]
 ·obtain ⟨r,rfl⟩:∃ x,x=e0:=⟨_,rfl⟩
  replace h:(some r:Option (Qao×Bool))=some _:=h
  exact Option.some.inj h
def QlM (Γ:Gam) (rv:Int) (cf:Cf):Prop:=Go Tryz.prog Tryz.f116 [] Γ (one (lI rv)) [] cf
def QiV (Γ:Gam) (rv:Int) (l:List Qai) (t:Int) (i:Int):Prop:=QlM Γ rv ⟨[.c 116,.l 116,.b 0,.c 15],⟨93,[vL 0 2 l Qai.enc,vI 1 t,vI 5 i],[]⟩⟩
def Qia (Γ:Gam) (rv:Int) (l:List Qai) (t:Int):Prop:=QlM Γ rv ⟨[.c 15],⟨93,[vL 0 2 l Qai.enc,vI 1 t],[]⟩⟩
theorem Qn5 (Γ:Gam) (rv:Int) {l t} {s:Int} {e:(Unit)⊕(Int)} (h:QaK (fun s=>Qdf l t s) s=some e) (hD:sel e (fun e=>Qia Γ rv l t) (fun e=>e=rv)):QiV Γ rv l t s:=by
 refine QaC (C:=fun (s:Int)=>QiV Γ rv l t s) (D:=fun (e:(Unit)⊕(Int))=>sel e (fun e=>Qia Γ rv l t) (fun e=>e=rv)) ?_ h hD
 clear h hD s e
 intro i z_ h hI hE
 replace h:Qdf l t i=_:=h
 unfold Qdf at h
 rcases Qah h with ⟨h2,h⟩|⟨h2,h⟩
 ·obtain ⟨x0,h3,h⟩:=Qae h
  obtain ⟨x1,h4,h⟩:=Qae h
  rcases Qah h with ⟨h5,h⟩|⟨h5,h⟩
  ·obtain ⟨h6,h⟩:=Qat h
   obtain rfl:=(hE _ (oJ h):_=rv)
   exact gr 16 [] [nL Qai.enc l,bT h2,cE Qai.enc h3,cE Qai.enc h4,rp 5 hP,rp 3 (oI ((leI x0.t t)=true)),oR True ((leI x0.t t)=true),bT h5,hH (.draw 27 []),oO (h6)]
  ·exact gn 18 [0,1,5] [] [nL Qai.enc l,bT h2,cE Qai.enc h3,cE Qai.enc h4,rp 5 hP,rp 3 (oI ((leI x0.t t)=true)),oR True ((leI x0.t t)=true),bF h5] (hI _ (oJ h))
 ·exact gn 5 [0,1] [] [nL Qai.enc l,bF h2] (hE _ (oJ h))
theorem Qp2 {l t} {rv:Int} (h:QfL l t=some rv):AFn Tryz.prog 116 [.one (lL 2 l Qai.enc),.one (lI t)] [] (one (lI rv)) []:=by
 refine QaS Tryz.func116 (by kernel_rfl) (by kernel_rfl) (fun Γ=>?_)
 unfold QfL at h
 obtain ⟨r,h0,h⟩:=Qae h
 rcases Qah h with ⟨h1,h⟩|⟨h1,h⟩
 ·obtain rfl:=Option.some.inj h
  exact gr 8 [] [cC (QhJ h0),nL Qac.enc r,rp 6 hP,oI ((gtI (lenI r) 0)=false),oR True ((gtI (lenI r) 0)=false),oI (((gtI (lenI r) 0)||(ltI t 0))=false),oR True (((gtI (lenI r) 0)||(ltI t 0))=false),bT h1]
 ·obtain ⟨e0,h7,h⟩:=Qae h
  refine gn 12 [0,1,5] [] [cC (QhJ h0),nL Qac.enc r,rp 6 hP,oI ((gtI (lenI r) 0)=false),oR True ((gtI (lenI r) 0)=false),oI (((gtI (lenI r) 0)||(ltI t 0))=false),oR True (((gtI (lenI r) 0)||(ltI t 0))=false),bF h1] (Qn5 Γ rv h7 ?_)
  rcases e0 with e0|e0
  ·replace h:(bnd (getI l 0) fun x2=>br (gtI t x2.t) (bnd (getI l (subK .i64 (lenI l) 1)) fun x3=>some (subK .i64 (addK .i64 t x3.a) x3.t)) (some (subK .i64 (addK .i64 t x2.a) x2.t)):Option Int)=some _:=h
   obtain ⟨x2,h8,h⟩:=Qae h
   rcases Qah h with ⟨h9,h⟩|⟨h9,h⟩
   ·obtain ⟨x3,h10,h⟩:=Qae h
    obtain rfl:=Option.some.inj h
    exact gr 9 [] [cE Qai.enc h8,bT h9,nL Qai.enc l,cE Qai.enc h10]
   ·obtain rfl:=Option.some.inj h
    exact gr 9 [] [cE Qai.enc h8,bF h9]
  ·obtain ⟨r1,rfl⟩:∃ x,x=e0:=⟨_,rfl⟩
   replace h:(some r1:Option Int)=some _:=h
   exact Option.some.inj h
def QlN (Γ:Gam) (rv:Int) (cf:Cf):Prop:=Go Tryz.prog Tryz.f85 [] Γ (one (lI rv)) [] cf
def QiY (Γ:Gam) (rv:Int) (a:Qao) (t:Int) (n:Int) (i:Int):Prop:=QlN Γ rv ⟨[.c 116,.l 116,.b 0,.c 15],⟨35,[vI 1 t,vP 2 0 6,vI 5 n,vI 6 i],[oX 6 77 (Qao.enc a)]⟩⟩
def Qib (Γ:Gam) (rv:Int) (a:Qao) (t:Int) (n1:Int):Prop:=QlN Γ rv ⟨[.c 15],⟨35,[vI 5 n1],[]⟩⟩
theorem Qn6 (Γ:Gam) (rv:Int) {a t} {s:Int×Int} {e:Int} (h:QaK (fun s=>Qft a t s.1 s.2) s=some e) (hD:Qib Γ rv a t e):QiY Γ rv a t s.1 s.2:=by
 refine QaC (C:=fun (s:Int×Int)=>QiY Γ rv a t s.1 s.2) (D:=fun (e:Int)=>Qib Γ rv a t e) ?_ h hD
 clear h hD s e
 rintro ⟨n,i⟩ z_ h hI hE
 replace h:Qft a t n i=_:=h
 unfold Qft at h
 rcases Qah h with ⟨h1,h⟩|⟨h1,h⟩
 ·obtain ⟨x0,h2,h⟩:=Qae h
  rcases Qah h with ⟨h3,h⟩|⟨h3,h⟩
  ·exact gn 14 [1,2,5,6] [0] [nL Qai.enc a.slow,bT h1,cE Qai.enc h2,bT h3,cE Qai.enc h2] (hI _ (oJ h))
  ·exact gn 14 [1,2,5,6] [0] [nL Qai.enc a.slow,bT h1,cE Qai.enc h2,bF h3] (hI _ (oJ h))
 ·exact gn 5 [5] [] [nL Qai.enc a.slow,bF h1] (hE _ (oJ h))
theorem Qp3 {a t} {rv:Int} (h:QfM a t=some rv):AFn Tryz.prog 85 [.agg (Qao.enc a),.one (lI t)] [] (one (lI rv)) []:=by
 refine QaS Tryz.func85 (by kernel_rfl) (by kernel_rfl) (fun Γ=>?_)
 unfold QfM at h
 obtain ⟨r,h0,h⟩:=Qae h
 obtain ⟨e0,h4,h⟩:=Qae h
 refine gn 9 [1,2,5,6] [0] [cC (Qp2 h0)] (Qn6 Γ rv h4 ?_)
 obtain ⟨n1,rfl⟩:∃ x,x=e0:=⟨_,rfl⟩
 replace h:(some n1:Option Int)=some _:=h
 obtain rfl:=Option.some.inj h
 exact gr 2 [] []
theorem Qte {n profile from_ to_ t} {rv:Int×Int×Int} (h:Qey n profile from_ to_ t=some rv):AFn Tryz.prog 42 [.agg (Qak.enc n),.one (lI profile),.one (lI from_),.one (lI to_),.one (lI t)] [] (.tup [.one (lI rv.1),.one (lI rv.2.1),.one (lI rv.2.2)]) []:=by
 refine QaS Tryz.func42 (by kernel_rfl) (by kernel_rfl) (fun Γ=>?_)
 unfold Qey at h
 obtain ⟨r,h0,h⟩:=Qae h
 rcases Qah h with ⟨h1,h⟩|⟨h1,h⟩
 ·obtain ⟨r1,h2,h⟩:=Qae h
  rcases Qah h with ⟨h3,h⟩|⟨h3,h⟩
  ·rcases Qah h with ⟨h4,h⟩|⟨h4,h⟩
   ·obtain rfl:=Option.some.inj h
    exact gr 13 [] [cC (Qb1 h0),rp 3 (nF h1),cC (Qb1 h2),nF h1,nF h1,nF h3,bT h4]
   ·obtain ⟨r2,h5,h⟩:=Qae h
    rcases Qah h with ⟨h6,h⟩|⟨h6,h⟩
    ·obtain ⟨r3,h7,h⟩:=Qae h
     obtain rfl:=Option.some.inj h
     exact gr 21 [] [cC (Qb1 h0),rp 3 (nF h1),cC (Qb1 h2),nF h1,nF h1,nF h3,bF h4,cC (QmC h5),nF h6,hH (.draw 8 []),cC (Qp3 h7)]
    ·obtain rfl:=Option.some.inj h
     exact gr 20 [] [cC (Qb1 h0),rp 3 (nF h1),cC (Qb1 h2),nF h1,nF h1,nF h3,bF h4,cC (QmC h5),nT h6]
  ·obtain rfl:=Option.some.inj h
   exact gr 8 [] [cC (Qb1 h0),rp 3 (nF h1),cC (Qb1 h2),nF h1,nF h1,nT h3]
 ·obtain rfl:=Option.some.inj h
  exact gr 8 [] [cC (Qb1 h0),rp 5 (nT h1),tT]
def QlW (Γ:Gam) (rv:Bool) (cf:Cf):Prop:=Go Tryz.prog Tryz.f86 [] Γ (one (.bool rv)) [] cf
def QjJ (Γ:Gam) (rv:Bool) (l:List Qaa) (at_:Int) (i:Int):Prop:=QlW Γ rv ⟨[.c 52,.l 52,.b 0,.c 7],⟨22,[vL 0 2 l Qaa.enc,vI 1 at_,vI 5 i],[]⟩⟩
def Qis (Γ:Gam) (rv:Bool) (l:List Qaa) (at_:Int):Prop:=QlW Γ rv ⟨[.c 7],⟨22,[],[]⟩⟩
theorem Qof (Γ:Gam) (rv:Bool) {l at_} {s:Int} {e:(Unit)⊕(Bool)} (h:QaK (fun s=>QbU l at_ s) s=some e) (hD:sel e (fun e=>Qis Γ rv l at_) (fun e=>e=rv)):QjJ Γ rv l at_ s:=by
 refine QaC (C:=fun (s:Int)=>QjJ Γ rv l at_ s) (D:=fun (e:(Unit)⊕(Bool))=>sel e (fun e=>Qis Γ rv l at_) (fun e=>e=rv)) ?_ h hD
 clear h hD s e
 intro i z_ h hI hE
 replace h:QbU l at_ i=_:=h
 unfold QbU at h
 rcases Qah h with ⟨h0,h⟩|⟨h0,h⟩
 ·obtain ⟨x0,h1,h⟩:=Qae h
  obtain ⟨x1,h2,h⟩:=Qae h
  rcases Qah h with ⟨h3,h⟩|⟨h3,h⟩
  ·obtain rfl:=(hE _ (oJ h):_=rv)
   exact gr 12 [] [bT h0,hH (.draw 11 []),cE Qaa.enc h1,cE Qaa.enc h2,bT h3]
  ·exact gn 14 [0,1,5] [] [bT h0,hH (.draw 11 []),cE Qaa.enc h1,cE Qaa.enc h2,bF h3] (hI _ (oJ h))
 ·exact gn 5 [] [] [bF h0] (hE _ (oJ h))
theorem Qdk {l at_} {rv:Bool} (h:QfO l at_=some rv):AFn Tryz.prog 86 [.one (lL 2 l Qaa.enc),.one (lI at_)] [] (one (.bool rv)) []:=by
 refine QaS Tryz.func86 (by kernel_rfl) (by kernel_rfl) (fun Γ=>?_)
 unfold QfO at h
 obtain ⟨e0,h4,h⟩:=Qae h
 refine gn 7 [0,1,5] [] [] (Qof Γ rv h4 ?_)
 rcases e0 with e0|e0
 ·replace h:(some true:Option Bool)=some _:=h
  obtain rfl:=Option.some.inj h
  exact gr 2 [] []
 ·obtain ⟨r,rfl⟩:∃ x,x=e0:=⟨_,rfl⟩
  replace h:(some r:Option Bool)=some _:=h
  exact Option.some.inj h
def QiJ (Γ:Gam) (rv:Qay) (cf:Cf):Prop:=Go Tryz.prog Tryz.f43 [] Γ (gG [lI rv.cost,lI rv.moved,lI rv.other,lI rv.work]) [] cf
def QgV (Γ:Gam) (rv:Qay) (x0:Qab) (r:Qam) (s0:Qap) (x1:Qag) (moved:Int) (other:Int) (i:Int):Prop:=QiJ Γ rv ⟨[.c 1012,.l 1012,.b 0,.c 127],⟨128,[vP 3 0 6,vP 4 1 4,vP 6 2 4,vP 9 3 4,vI 10 i],[oX 6 30 (Qab.enc x0),oX 4 66 (Qam.enc r),oX 4 98 [lI 0,lI 0,lI 0,lI 0],oX 4 98 [lI (addK .i64 (addK .i64 x1.fixed (mulK .i64 x1.perMile s0.miles)) (mulK .i64 x1.perTick (subK .i64 s0.end_ x1.open_))),lI moved,lI other,lI (mulK .i64 (quoK .i64 (subK .i64 s0.end_ x1.open_) 64) (quoK .i64 (subK .i64 s0.end_ x1.open_) 64))]]⟩⟩
def Qgs (Γ:Gam) (rv:Qay) (x0:Qab) (r:Qam) (s0:Qap) (x1:Qag) (moved2:Int) (other1:Int):Prop:=QiJ Γ rv ⟨[.c 127],⟨128,[vP 6 0 4,vP 9 1 4],[oX 4 98 [lI 0,lI 0,lI 0,lI 0],oX 4 98 [lI (addK .i64 (addK .i64 x1.fixed (mulK .i64 x1.perMile s0.miles)) (mulK .i64 x1.perTick (subK .i64 s0.end_ x1.open_))),lI moved2,lI other1,lI (mulK .i64 (quoK .i64 (subK .i64 s0.end_ x1.open_) 64) (quoK .i64 (subK .i64 s0.end_ x1.open_) 64))]]⟩⟩
theorem QjI (Γ:Gam) (rv:Qay) {x0 r s0 x1 other i x2 moved1} {x:(Int×Int×Int)⊕(Int×Int)} (h:QeH x0 r s0 x1 other i x2 moved1=some x) (hI:∀ s:Int×Int×Int,x=.inl s→QgV Γ rv x0 r s0 x1 s.1 s.2.1 s.2.2) (hE:∀ e:Int×Int,x=.inr e→Qgs Γ rv x0 r s0 x1 e.1 e.2):QiJ Γ rv ⟨[.c 64807,.b 1,.c 4051,.l 1012,.b 0,.c 127],⟨128,[vP 3 0 6,vP 4 1 4,vP 6 2 4,vP 9 3 4,vI 10 i,vI 11 x2.order],[oX 6 30 (Qab.enc x0),oX 4 66 (Qam.enc r),oX 4 98 [lI 0,lI 0,lI 0,lI 0],oX 4 98 [lI (addK .i64 (addK .i64 x1.fixed (mulK .i64 x1.perMile s0.miles)) (mulK .i64 x1.perTick (subK .i64 s0.end_ x1.open_))),lI moved1,lI other,lI (mulK .i64 (quoK .i64 (subK .i64 s0.end_ x1.open_) 64) (quoK .i64 (subK .i64 s0.end_ x1.open_) 64))]]⟩⟩:=by
 unfold QeH at h
 obtain ⟨x4,h10,h⟩:=Qae h
 rcases Qah h with ⟨h11,h⟩|⟨h11,h⟩
 ·rcases Qah h with ⟨h12,h⟩|⟨h12,h⟩
  ·exact gn 7 [3,4,6,9,10] [0,1,2,3] [hH (.draw 18 []),cE Qaf.enc h10,rp 4 (bT h11),cE Qaf.enc h10,rp 6 (bT h11),bT h12] (hI _ (oJ h))
  ·exact gn 7 [3,4,6,9,10] [0,1,2,3] [hH (.draw 18 []),cE Qaf.enc h10,rp 4 (bT h11),cE Qaf.enc h10,rp 6 (bT h11),bF h12] (hI _ (oJ h))
 ·exact gn 7 [3,4,6,9,10] [0,1,2,3] [hH (.draw 18 []),cE Qaf.enc h10,rp 10 (bF h11),fF] (hI _ (oJ h))
theorem QoV (Γ:Gam) (rv:Qay) {x0 r s0 x1} {s:Int×Int×Int} {e:Int×Int} (h:QaK (fun s=>QbK x0 r s0 x1 s.1 s.2.1 s.2.2) s=some e) (hD:Qgs Γ rv x0 r s0 x1 e.1 e.2):QgV Γ rv x0 r s0 x1 s.1 s.2.1 s.2.2:=by
 refine QaC (C:=fun (s:Int×Int×Int)=>QgV Γ rv x0 r s0 x1 s.1 s.2.1 s.2.2) (D:=fun (e:Int×Int)=>Qgs Γ rv x0 r s0 x1 e.1 e.2) ?_ h hD
 clear h hD s e
 rintro ⟨moved,other,i⟩ z_ h hI hE
 replace h:QbK x0 r s0 x1 moved other i=_:=h
 unfold QbK at h
 rcases Qah h with ⟨h2,h⟩|⟨h2,h⟩
 ·obtain ⟨x2,h3,h⟩:=Qae h
  rcases Qah h with ⟨h4,h⟩|⟨h4,h⟩
  ·exact gn 16 [3,4,6,9,10] [0,1,2,3] [nL Qaa.enc r.visits,bT h2,cE Qaa.enc h3,rp 4 hP,rp 2 (oI ((ltI x2.order 0)=false)),nL Qaf.enc x0.orders,hP,hP,rp 2 (oI ((ltI x2.order 0)=false)),oR True ((ltI x2.order 0)=false),rp 6 (bT h4),tT] (hI _ (oJ h))
  ·obtain ⟨r1,h5,h⟩:=Qae h
   rcases Qah h with ⟨h6,h⟩|⟨h6,h⟩
   ·obtain ⟨x3,h7,h⟩:=Qae h
    rcases Qah h with ⟨h8,h⟩|⟨h8,h⟩
    ·rcases Qah h with ⟨h9,h⟩|⟨h9,h⟩
     ·exact gn 19 [3,4,6,9,10,11] [0,1,2,3] [nL Qaa.enc r.visits,bT h2,cE Qaa.enc h3,rp 4 hP,rp 2 (oI ((ltI x2.order 0)=false)),nL Qaf.enc x0.orders,hP,hP,rp 2 (oI ((ltI x2.order 0)=false)),oR True ((ltI x2.order 0)=false),rp 4 (bF h4),cC (Qdk h5),bF h4,bF h4,nF h6,hH (.draw 18 []),cE Qaf.enc h7,rp 4 (bT h8),cE Qaf.enc h7,rp 6 (bT h8),bT h9] (QjI Γ rv h hI hE)
     ·exact gn 19 [3,4,6,9,10,11] [0,1,2,3] [nL Qaa.enc r.visits,bT h2,cE Qaa.enc h3,rp 4 hP,rp 2 (oI ((ltI x2.order 0)=false)),nL Qaf.enc x0.orders,hP,hP,rp 2 (oI ((ltI x2.order 0)=false)),oR True ((ltI x2.order 0)=false),rp 4 (bF h4),cC (Qdk h5),bF h4,bF h4,nF h6,hH (.draw 18 []),cE Qaf.enc h7,rp 4 (bT h8),cE Qaf.enc h7,rp 6 (bT h8),bF h9] (QjI Γ rv h hI hE)
    ·rcases Qah h with ⟨h13,h⟩|⟨h13,h⟩
     ·rcases Qah h with ⟨h14,h⟩|⟨h14,h⟩
      ·exact gn 26 [3,4,6,9,10] [0,1,2,3] [nL Qaa.enc r.visits,bT h2,cE Qaa.enc h3,rp 4 hP,rp 2 (oI ((ltI x2.order 0)=false)),nL Qaf.enc x0.orders,hP,hP,rp 2 (oI ((ltI x2.order 0)=false)),oR True ((ltI x2.order 0)=false),rp 4 (bF h4),cC (Qdk h5),bF h4,bF h4,nF h6,hH (.draw 18 []),cE Qaf.enc h7,rp 10 (bF h8),fF,hH (.draw 18 []),cE Qaf.enc h7,rp 4 (bT h13),cE Qaf.enc h7,rp 6 (bT h13),bT h14] (hI _ (oJ h))
      ·exact gn 26 [3,4,6,9,10] [0,1,2,3] [nL Qaa.enc r.visits,bT h2,cE Qaa.enc h3,rp 4 hP,rp 2 (oI ((ltI x2.order 0)=false)),nL Qaf.enc x0.orders,hP,hP,rp 2 (oI ((ltI x2.order 0)=false)),oR True ((ltI x2.order 0)=false),rp 4 (bF h4),cC (Qdk h5),bF h4,bF h4,nF h6,hH (.draw 18 []),cE Qaf.enc h7,rp 10 (bF h8),fF,hH (.draw 18 []),cE Qaf.enc h7,rp 4 (bT h13),cE Qaf.enc h7,rp 6 (bT h13),bF h14] (hI _ (oJ h))
     ·exact gn 26 [3,4,6,9,10] [0,1,2,3] [nL Qaa.enc r.visits,bT h2,cE Qaa.enc h3,rp 4 hP,rp 2 (oI ((ltI x2.order 0)=false)),nL Qaf.enc x0.orders,hP,hP,rp 2 (oI ((ltI x2.order 0)=false)),oR True ((ltI x2.order 0)=false),rp 4 (bF h4),cC (Qdk h5),bF h4,bF h4,nF h6,hH (.draw 18 []),cE Qaf.enc h7,rp 10 (bF h8),fF,hH (.draw 18 []),cE Qaf.enc h7,rp 10 (bF h13),fF] (hI _ (oJ h))
   ·exact gn 16 [3,4,6,9,10] [0,1,2,3] [nL Qaa.enc r.visits,bT h2,cE Qaa.enc h3,rp 4 hP,rp 2 (oI ((ltI x2.order 0)=false)),nL Qaf.enc x0.orders,hP,hP,rp 2 (oI ((ltI x2.order 0)=false)),oR True ((ltI x2.order 0)=false),rp 4 (bF h4),cC (Qdk h5),bF h4,bF h4,nT h6] (hI _ (oJ h))
 ·exact gn 5 [6,9] [2,3] [nL Qaa.enc r.visits,bF h2] (hE _ (oJ h))
theorem QqF {x0 r s0} {rv:Qay} (h:Qdy x0 r s0=some rv):AFn Tryz.prog 43 [.agg (Qab.enc x0),.agg (Qam.enc r),.agg (Qap.enc s0)] [] (gG [lI rv.cost,lI rv.moved,lI rv.other,lI rv.work]) []:=by
 refine QaS Tryz.func43 (by kernel_rfl) (by kernel_rfl) (fun Γ=>?_)
 unfold Qdy at h
 rcases Qah h with ⟨h0,h⟩|⟨h0,h⟩
 ·obtain rfl:=Option.some.inj h
  exact gr 8 [] [rp 5 hP,rp 3 (oI ((ltI r.type_ 0)=false)),nL Qag.enc x0.types,hP,hP,rp 2 (oI ((ltI r.type_ 0)=false)),oR True ((ltI r.type_ 0)=false),bT h0]
 ·obtain ⟨x1,h1,h⟩:=Qae h
  obtain ⟨e0,h15,h⟩:=Qae h
  refine gn 18 [3,4,6,9,10] [0,1,3,5] [rp 5 hP,rp 3 (oI ((ltI r.type_ 0)=false)),nL Qag.enc x0.types,hP,hP,rp 2 (oI ((ltI r.type_ 0)=false)),oR True ((ltI r.type_ 0)=false),bF h0,cE Qag.enc h1,rp 2 (oO (oA (n:=64)))] (QoV Γ rv h15 ?_)
  obtain ⟨moved2,other1⟩:=e0
  replace h:(some (Qay.mk (addK .i64 (addK .i64 x1.fixed (mulK .i64 x1.perMile s0.miles)) (mulK .i64 x1.perTick (subK .i64 s0.end_ x1.open_))) moved2 other1 (mulK .i64 (quoK .i64 (subK .i64 s0.end_ x1.open_) 64) (quoK .i64 (subK .i64 s0.end_ x1.open_) 64))):Option Qay)=some _:=h
  obtain rfl:=Option.some.inj h
  exact gr 2 [] []
theorem QlV {s0} {rv:Bool} (h:QhV s0=some rv):AFn Tryz.prog 87 [.agg (Qay.enc s0)] [] (one (.bool rv)) []:=by
 refine QaS Tryz.func87 (by kernel_rfl) (by kernel_rfl) (fun Γ=>?_)
 unfold QhV at h
 obtain rfl:=Option.some.inj h
 exact gr 4 [] [rp 28 hP,rp 2 (oI ((geI s0.cost 0)=true)),oR True ((geI s0.cost 0)=true),rp 2 (oI (((geI s0.cost 0)&&(leI s0.cost 1073741824))=true)),oR True (((geI s0.cost 0)&&(leI s0.cost 1073741824))=true),rp 2 (oI ((((geI s0.cost 0)&&(leI s0.cost 1073741824))&&(geI s0.moved 0))=true)),oR True ((((geI s0.cost 0)&&(leI s0.cost 1073741824))&&(geI s0.moved 0))=true),rp 2 (oI (((((geI s0.cost 0)&&(leI s0.cost 1073741824))&&(geI s0.moved 0))&&(leI s0.moved 15))=true)),oR True (((((geI s0.cost 0)&&(leI s0.cost 1073741824))&&(geI s0.moved 0))&&(leI s0.moved 15))=true),rp 2 (oI ((((((geI s0.cost 0)&&(leI s0.cost 1073741824))&&(geI s0.moved 0))&&(leI s0.moved 15))&&(geI s0.other 0))=true)),oR True ((((((geI s0.cost 0)&&(leI s0.cost 1073741824))&&(geI s0.moved 0))&&(leI s0.moved 15))&&(geI s0.other 0))=true),rp 2 (oI (((((((geI s0.cost 0)&&(leI s0.cost 1073741824))&&(geI s0.moved 0))&&(leI s0.moved 15))&&(geI s0.other 0))&&(leI s0.other 15))=true)),oR True (((((((geI s0.cost 0)&&(leI s0.cost 1073741824))&&(geI s0.moved 0))&&(leI s0.moved 15))&&(geI s0.other 0))&&(leI s0.other 15))=true),rp 2 (oI ((((((((geI s0.cost 0)&&(leI s0.cost 1073741824))&&(geI s0.moved 0))&&(leI s0.moved 15))&&(geI s0.other 0))&&(leI s0.other 15))&&(geI s0.work 0))=true)),oR True ((((((((geI s0.cost 0)&&(leI s0.cost 1073741824))&&(geI s0.moved 0))&&(leI s0.moved 15))&&(geI s0.other 0))&&(leI s0.other 15))&&(geI s0.work 0))=true)]
theorem Qp6 {s0} {rv:Int×Int} (h:QcI s0=some rv):AFn Tryz.prog 44 [.agg (Qay.enc s0)] [] (.tup [.one (lI rv.1),.one (lI rv.2)]) []:=by
 refine QaS Tryz.func44 (by kernel_rfl) (by kernel_rfl) (fun Γ=>?_)
 unfold QcI at h
 rcases Qah h with ⟨h0,h⟩|⟨h0,h⟩
 ·obtain rfl:=Option.some.inj h
  exact gr 8 [] [rp 12 hP,rp 2 (oI ((ltI s0.cost 0)=false)),oR True ((ltI s0.cost 0)=false),rp 2 (oI (((ltI s0.cost 0)||(ltI s0.moved 0))=false)),oR True (((ltI s0.cost 0)||(ltI s0.moved 0))=false),rp 2 (oI ((((ltI s0.cost 0)||(ltI s0.moved 0))||(ltI s0.other 0))=false)),oR True ((((ltI s0.cost 0)||(ltI s0.moved 0))||(ltI s0.other 0))=false),bT h0]
 ·obtain ⟨r,h1,h⟩:=Qae h
  rcases Qah h with ⟨h2,h⟩|⟨h2,h⟩
  ·obtain rfl:=Option.some.inj h
   exact gr 14 [] [rp 12 hP,rp 2 (oI ((ltI s0.cost 0)=false)),oR True ((ltI s0.cost 0)=false),rp 2 (oI (((ltI s0.cost 0)||(ltI s0.moved 0))=false)),oR True (((ltI s0.cost 0)||(ltI s0.moved 0))=false),rp 2 (oI ((((ltI s0.cost 0)||(ltI s0.moved 0))||(ltI s0.other 0))=false)),oR True ((((ltI s0.cost 0)||(ltI s0.moved 0))||(ltI s0.other 0))=false),bF h0,cC (QlV h1),nF h2]
  ·obtain rfl:=Option.some.inj h
   exact gr 13 [] [rp 12 hP,rp 2 (oI ((ltI s0.cost 0)=false)),oR True ((ltI s0.cost 0)=false),rp 2 (oI (((ltI s0.cost 0)||(ltI s0.moved 0))=false)),oR True (((ltI s0.cost 0)||(ltI s0.moved 0))=false),rp 2 (oI ((((ltI s0.cost 0)||(ltI s0.moved 0))||(ltI s0.other 0))=false)),oR True ((((ltI s0.cost 0)||(ltI s0.moved 0))||(ltI s0.other 0))=false),bF h0,cC (QlV h1),nT h2]
theorem QgJ {x0 v} {rv:Qar×Bool} (h:Qdr x0 v=some rv):AFn Tryz.prog 120 [.agg (Qab.enc x0),.agg (Qaa.enc v)] [] (.tup [.agg [lI rv.1.place,lI rv.1.open_,lI rv.1.close,lI rv.1.service],.one (.bool rv.2)]) []:=by
 refine QaS Tryz.func120 (by kernel_rfl) (by kernel_rfl) (fun Γ=>?_)
 unfold Qdr at h
 rcases Qah h with ⟨h0,h⟩|⟨h0,h⟩
 ·obtain rfl:=Option.some.inj h
  exact gr 8 [] [rp 5 hP,rp 3 (oI ((ltI v.order 0)=false)),nL Qaf.enc x0.orders,hP,hP,rp 2 (oI ((ltI v.order 0)=false)),oR True ((ltI v.order 0)=false),bT h0]
 ·obtain ⟨x1,h1,h⟩:=Qae h
  rcases Qah h with ⟨h2,h⟩|⟨h2,h⟩
  ·obtain rfl:=Option.some.inj h
   exact gr 16 [] [rp 5 hP,rp 3 (oI ((ltI v.order 0)=false)),nL Qaf.enc x0.orders,hP,hP,rp 2 (oI ((ltI v.order 0)=false)),oR True ((ltI v.order 0)=false),bF h0,cE Qaf.enc h1,bT h2,cE Qaf.enc h1,hH (.draw 6 [(2,4)])]
  ·obtain rfl:=Option.some.inj h
   exact gr 16 [] [rp 5 hP,rp 3 (oI ((ltI v.order 0)=false)),nL Qaf.enc x0.orders,hP,hP,rp 2 (oI ((ltI v.order 0)=false)),oR True ((ltI v.order 0)=false),bF h0,cE Qaf.enc h1,bF h2,hH (.draw 6 [(2,4)])]
def QkE (Γ:Gam) (rv:Bool) (cf:Cf):Prop:=Go Tryz.prog Tryz.f118 [] Γ (one (.bool rv)) [] cf
def QhU (Γ:Gam) (rv:Bool) (x0:Qab) (r:Qam) (i:Int):Prop:=QkE Γ rv ⟨[.c 116,.l 116,.b 0,.c 15],⟨54,[vP 2 0 6,vP 3 1 4,vI 5 i],[oX 6 30 (Qab.enc x0),oX 4 66 (Qam.enc r)]⟩⟩
def Qhv (Γ:Gam) (rv:Bool) (x0:Qab) (r:Qam):Prop:=QkE Γ rv ⟨[.c 15],⟨54,[],[]⟩⟩
theorem QmQ (Γ:Gam) (rv:Bool) {x0 r} {s:Int} {e:(Unit)⊕(Bool)} (h:QaK (fun s=>Qbt x0 r s) s=some e) (hD:sel e (fun e=>Qhv Γ rv x0 r) (fun e=>e=rv)):QhU Γ rv x0 r s:=by
 refine QaC (C:=fun (s:Int)=>QhU Γ rv x0 r s) (D:=fun (e:(Unit)⊕(Bool))=>sel e (fun e=>Qhv Γ rv x0 r) (fun e=>e=rv)) ?_ h hD
 clear h hD s e
 intro i z_ h hI hE
 replace h:Qbt x0 r i=_:=h
 unfold Qbt at h
 rcases Qah h with ⟨h1,h⟩|⟨h1,h⟩
 ·obtain ⟨x1,h2,h⟩:=Qae h
  obtain ⟨r1,h3,h⟩:=Qae h
  rcases Qah h with ⟨h4,h⟩|⟨h4,h⟩
  ·exact gn 16 [2,3,5] [0,1] [nL Qaa.enc r.visits,bT h1,hH (.draw 13 [(2,11)]),cE Qaa.enc h2,cC (QgJ h3),nF h4] (hI _ (oJ h))
  ·obtain rfl:=(hE _ (oJ h):_=rv)
   exact gr 14 [] [nL Qaa.enc r.visits,bT h1,hH (.draw 13 [(2,11)]),cE Qaa.enc h2,cC (QgJ h3),nT h4]
 ·exact gn 5 [] [] [nL Qaa.enc r.visits,bF h1] (hE _ (oJ h))
theorem QeG {x0 r} {rv:Bool} (h:QcB x0 r=some rv):AFn Tryz.prog 118 [.agg (Qab.enc x0),.agg (Qam.enc r)] [] (one (.bool rv)) []:=by
 refine QaS Tryz.func118 (by kernel_rfl) (by kernel_rfl) (fun Γ=>?_)
 unfold QcB at h
 rcases Qah h with ⟨h0,h⟩|⟨h0,h⟩
 ·obtain rfl:=Option.some.inj h
  exact gr 8 [] [rp 5 hP,rp 3 (oI ((ltI r.type_ 0)=false)),nL Qag.enc x0.types,rp 13 hP,rp 2 (oI ((ltI r.type_ 0)=false)),oR True ((ltI r.type_ 0)=false),rp 2 (oI (((ltI r.type_ 0)||(geI r.type_ (lenI x0.types)))=false)),oR True (((ltI r.type_ 0)||(geI r.type_ (lenI x0.types)))=false),rp 2 (oI ((((ltI r.type_ 0)||(geI r.type_ (lenI x0.types)))||(ltI r.start 0))=false)),oR True ((((ltI r.type_ 0)||(geI r.type_ (lenI x0.types)))||(ltI r.start 0))=false),rp 2 (oI (((((ltI r.type_ 0)||(geI r.type_ (lenI x0.types)))||(ltI r.start 0))||(gtI r.start 4096))=false)),nL Qaa.enc r.visits,hP,hP,oI (((((ltI r.type_ 0)||(geI r.type_ (lenI x0.types)))||(ltI r.start 0))||(gtI r.start 4096))=false),oR True (((((ltI r.type_ 0)||(geI r.type_ (lenI x0.types)))||(ltI r.start 0))||(gtI r.start 4096))=false),bT h0]
 ·obtain ⟨e0,h5,h⟩:=Qae h
  refine gn 12 [2,3,5] [0,1] [rp 5 hP,rp 3 (oI ((ltI r.type_ 0)=false)),nL Qag.enc x0.types,rp 13 hP,rp 2 (oI ((ltI r.type_ 0)=false)),oR True ((ltI r.type_ 0)=false),rp 2 (oI (((ltI r.type_ 0)||(geI r.type_ (lenI x0.types)))=false)),oR True (((ltI r.type_ 0)||(geI r.type_ (lenI x0.types)))=false),rp 2 (oI ((((ltI r.type_ 0)||(geI r.type_ (lenI x0.types)))||(ltI r.start 0))=false)),oR True ((((ltI r.type_ 0)||(geI r.type_ (lenI x0.types)))||(ltI r.start 0))=false),rp 2 (oI (((((ltI r.type_ 0)||(geI r.type_ (lenI x0.types)))||(ltI r.start 0))||(gtI r.start 4096))=false)),nL Qaa.enc r.visits,hP,hP,oI (((((ltI r.type_ 0)||(geI r.type_ (lenI x0.types)))||(ltI r.start 0))||(gtI r.start 4096))=false),oR True (((((ltI r.type_ 0)||(geI r.type_ (lenI x0.types)))||(ltI r.start 0))||(gtI r.start 4096))=false),bF h0] (QmQ Γ rv h5 ?_)
  rcases e0 with e0|e0
  ·replace h:(some true:Option Bool)=some _:=h
   obtain rfl:=Option.some.inj h
   exact gr 2 [] []
  ·obtain ⟨r2,rfl⟩:∃ x,x=e0:=⟨_,rfl⟩
   replace h:(some r2:Option Bool)=some _:=h
   exact Option.some.inj h
theorem QmS {t s0 yes} {rv:Qav} (h:QfV t s0 yes=some rv):AFn Tryz.prog 119 [.agg (Qag.enc t),.agg (Qav.enc s0),.one (.bool yes)] [] (gG [lI rv.place,lI rv.time,lI rv.driven,lI rv.miles]) []:=by
 refine QaS Tryz.func119 (by kernel_rfl) (by kernel_rfl) (fun Γ=>?_)
 unfold QfV at h
 rcases Qah h with ⟨h0,h⟩|⟨h0,h⟩
 ·obtain rfl:=Option.some.inj h
  exact gr 11 [] [bT h0]
 ·obtain rfl:=Option.some.inj h
  exact gr 9 [] [bF h0]
theorem Qhb {x0 profile from_ to_ t} {rv:Int×Int×Bool} (h:QkL x0 profile from_ to_ t=some rv):AFn Tryz.prog 142 [.agg (Qab.enc x0),.one (lI profile),.one (lI from_),.one (lI to_),.one (lI t)] [] (.tup [.one (lI rv.1),.one (lI rv.2.1),.one (.bool rv.2.2)]) []:=by
 refine QaS Tryz.func142 (by kernel_rfl) (by kernel_rfl) (fun Γ=>?_)
 unfold QkL at h
 obtain ⟨r,h0,h⟩:=Qae h
 obtain rfl:=Option.some.inj h
 exact gr 6 [] [cC (Qte h0)]
end Go.Proofs.YtfjiafgldchinaaGreatDoor
