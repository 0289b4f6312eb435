/- Part MV of the proof: texts L1. -/
import Derived.Test.YtfjiafgldchinaaGreatDoorMU
import Derived.Test.YtfjiafgldchinaaGreatDoorProg
namespace Go.Proofs.YtfjiafgldchinaaGreatDoor
set_option linter.unusedVariables false
set_option linter.unusedSectionVars false
set_option linter.unusedSimpArgs false
set_option maxHeartbeats 4000000
set_option maxRecDepth 100000
theorem QnX {s0 arrive} {rv:Int×Int} (h:QlY s0 arrive=some rv):AFn Tryz.prog 89 [.agg (Qap.enc s0),.one (lI arrive)] [] (.tup [.one (lI rv.1),.one (lI rv.2)]) []:=by
 refine QaM Tryz.func89 (by kernel_rfl) (by kernel_rfl) (fun Γ=>?_)
 unfold QlY at h
 rcases Qai h with ⟨h0,h⟩|⟨h0,h⟩
 ·obtain rfl:=Option.some.inj h
  exact gr 10 [] [bT h0]
 ·obtain rfl:=Option.some.inj h
  exact gr 11 [] [bF h0]
theorem Qfx {s0 arrive} {rv:Int×Int} (h:QiF s0 arrive=some rv):AFn Tryz.prog 47 [.agg (Qap.enc s0),.one (lI arrive)] [] (.tup [.one (lI rv.1),.one (lI rv.2)]) []:=by
 refine QaM Tryz.func47 (by kernel_rfl) (by kernel_rfl) (fun Γ=>?_)
 unfold QiF at h
 obtain ⟨r,h0,h⟩:=Qae h
 rcases Qai h with ⟨h1,h⟩|⟨h1,h⟩
 ·obtain rfl:=Option.some.inj h
  exact gr 10 [] [cC (QnX h0),bT h1]
 ·obtain rfl:=Option.some.inj h
  exact gr 11 [] [cC (QnX h0),bF h1]
theorem Qry {a b} {rv:Int} (h:Qno a b=some rv):AFn Tryz.prog 117 [.one (lI a),.one (lI b)] [] (one (lI rv)) []:=by
 refine QaM Tryz.func117 (by kernel_rfl) (by kernel_rfl) (fun Γ=>?_)
 unfold Qno at h
 obtain rfl:=Option.some.inj h
 exact gr 4 [] []
def QiO (Γ:Gam) (rv:List Int×Int) (cf:Cf):Prop:=Go Tryz.prog Tryz.f72 [] Γ (.tup [.one (lL 1 rv.1 e_i64),.one (lI rv.2)]) [] cf
def QgI (Γ:Gam) (rv:List Int×Int) (a:List Int) (b:List Int) (l:List Int) (l1:List Int) (v:Int):Prop:=QiO Γ rv ⟨[.c 244,.l 244,.b 0,.c 31],⟨38,[vL 0 1 a e_i64,vL 1 1 b e_i64,(2,one (.fn (.func 117) [])),vO 8 0 1 l1 e_i64,vI 19 (lenI a),vI 20 v],[oS 1 3 l1 e_i64]⟩⟩
def Qgr (Γ:Gam) (rv:List Int×Int) (a:List Int) (b:List Int) (l:List Int) (l2:List Int):Prop:=QiO Γ rv ⟨[.c 31],⟨38,[vO 8 0 1 l2 e_i64],[oS 1 3 l2 e_i64]⟩⟩
theorem Qk8 (Γ:Gam) (rv:List Int×Int) {a b l} {s:List Int×Int} {e:List Int} (h:loopF (fun s=>Qa4 a b l s.1 s.2) s=some e) (hD:Qgr Γ rv a b l e):QgI Γ rv a b l s.1 s.2:=by
 refine Qaz (C:=fun (s:List Int×Int)=>QgI Γ rv a b l s.1 s.2) (D:=fun (e:List Int)=>Qgr Γ rv a b l e) ?_ h hD
 clear h hD s e
 rintro ⟨l1,v⟩ z_ h hI hE
 replace h:Qa4 a b l l1 v=_:=h
 unfold Qa4 at h
 rcases Qai h with ⟨h2,h⟩|⟨h2,h⟩
 ·obtain ⟨x0,h3,h⟩:=Qae h
  obtain ⟨x1,h4,h⟩:=Qae h
  obtain ⟨r,h5,h⟩:=Qae h
  obtain ⟨x2,h6,h⟩:=Qae h
  exact gn 13 [0,1,2,8,19,20] [0] [bT h2,hH (.draw 13 []),cE e_i64 h3,cE e_i64 h4,cC (Qry h5),oO (getLo h6),oO (getHi e_i64 h6),rE e_i64 h6,hH (.rows ((setI l1 v r).map e_i64)),hH (.relen 0 ((setI l1 v r).map e_i64).length),oO (setM e_i64 l1 v r),rp 2 (oO (Qxw e_i64 l1 v r))] (hI _ (oJ h))
 ·exact gn 5 [8] [0] [bF h2] (hE _ (oJ h))
theorem QmK {a b} {rv:List Int×Int} (h:Qe4 a b=some rv):AFn Tryz.prog 72 [.one (lL 1 a e_i64),.one (lL 1 b e_i64),.one (.fn (.func 117) [])] [] (.tup [.one (lL 1 rv.1 e_i64),.one (lI rv.2)]) []:=by
 refine QaM Tryz.func72 (by kernel_rfl) (by kernel_rfl) (fun Γ=>?_)
 unfold Qe4 at h
 rcases Qai h with ⟨h0,h⟩|⟨h0,h⟩
 ·obtain rfl:=Option.some.inj h
  exact gr 8 [] [nL e_i64 a,nL e_i64 b,bT h0,hW 4,hH (.nilS 6 0 1)]
 ·obtain ⟨l,h1,h⟩:=Qae h
  obtain ⟨e0,h7,h⟩:=Qae h
  refine gn 14 [0,1,2,8,19,20] [0] [nL e_i64 a,nL e_i64 b,bF h0,nL e_i64 a,hH (.cells [lI 0]),hH (.rows (l.map e_i64)),oO (mk1 h1),oO (mk2 h1),oO (mk3 h1),oO (mk4 h1),oO (mk5 e_i64 h1),nL e_i64 a] (Qk8 Γ rv h7 ?_)
  obtain ⟨l2,rfl⟩:∃ x,x=e0:=⟨_,rfl⟩
  replace h:(some (l2,0):Option (List Int×Int))=some _:=h
  obtain rfl:=Option.some.inj h
  exact gr 2 [] [hW 5,hH (.frz 0),rp 3 (eL l2 e_i64)]
theorem QsH {a b} {rv:List Int×Int} (h:Qos a b=some rv):AFn Tryz.prog 90 [.one (lL 1 a e_i64),.one (lL 1 b e_i64)] [] (.tup [.one (lL 1 rv.1 e_i64),.one (lI rv.2)]) []:=by
 refine QaM Tryz.func90 (by kernel_rfl) (by kernel_rfl) (fun Γ=>?_)
 unfold Qos at h
 obtain ⟨r,h0,h⟩:=Qae h
 obtain rfl:=Option.some.inj h
 exact gr 4 [] [cC (QmK h0)]
theorem QfX {x0 l v} {rv:List Int} (h:Qjv x0 l v=some rv):AFn Tryz.prog 48 [.agg (Qac.enc x0),.agg (Qad.enc l),.agg (Qab.enc v)] [] (one (lL 1 rv e_i64)) []:=by
 refine QaM Tryz.func48 (by kernel_rfl) (by kernel_rfl) (fun Γ=>?_)
 unfold Qjv at h
 rcases Qai h with ⟨h0,h⟩|⟨h0,h⟩
 ·obtain ⟨x1,h1,h⟩:=Qae h
  obtain ⟨r,h2,h⟩:=Qae h
  obtain rfl:=Option.some.inj h
  exact gr 11 [] [bT h0,hH (.draw 14 []),cE Qag.enc h1,cC (QsH h2)]
 ·obtain ⟨x2,h3,h⟩:=Qae h
  obtain ⟨r1,h4,h⟩:=Qae h
  obtain rfl:=Option.some.inj h
  exact gr 11 [] [bF h0,hH (.draw 14 []),cE Qag.enc h3,cC (Qqp h4)]
def Qrx (Γ:Gam) (rv:List Qad) (cf:Cf):Prop:=Go Tryz.prog Tryz.f16 [] Γ (one (lL 9 rv Qad.enc)) [] cf
theorem Qhy (Γ:Gam) (rv:List Qad) {l v r x1 r2 r3 r4 l1 open_} (h:Qd1 l v r x1 r2 r3 r4 l1 open_=some rv):Qrx Γ rv ⟨[.c 262143],⟨178,[vP 9 0 14,vP 14 1 9],[oX 14 79 (Qah.enc x1),oX 9 47 [lI l.type_,lO 2 2 ((cpyL l1 l.visits)++[v]) Qab.enc,lI r.1.place,lI r3.1,lI (subK .i64 (addK .i64 l.driven r2.1) l.time),lI (addK .i64 l.miles r2.2.1),lL 1 r4 e_i64,lI (orK .i64 l.done (shlK .i64 1 (cvK .u64 v.order))),lI open_],oS 2 54 ((cpyL l1 l.visits)++[v]) Qab.enc]⟩⟩:=by
 unfold Qd1 at h
 obtain ⟨r6,h19,h⟩:=Qae h
 obtain rfl:=Option.some.inj h
 exact gr 2 [] [hW 4,hH (.frz 2),rp 2 (oO (Eq.refl (((cpyL l1 l.visits)++[v]).map Qab.enc).length)),cC (Qpy h19)]
theorem Qcd {x0 l v} {rv:List Qad} (h:Qdw x0 l v=some rv):AFn Tryz.prog 16 [.agg (Qac.enc x0),.agg (Qad.enc l),.agg (Qab.enc v)] [] (one (lL 9 rv Qad.enc)) []:=by
 refine QaM Tryz.func16 (by kernel_rfl) (by kernel_rfl) (fun Γ=>?_)
 unfold Qdw at h
 rcases Qai h with ⟨h0,h⟩|⟨h0,h⟩
 ·obtain rfl:=Option.some.inj h
  exact gr 8 [] [rp 5 hP,rp 3 (oI ((ltI l.type_ 0)=false)),nL Qah.enc x0.types,hP,hP,rp 2 (oI ((ltI l.type_ 0)=false)),oR True ((ltI l.type_ 0)=false),bT h0,hW 3,hH (.nilS 6 0 9)]
 ·obtain ⟨r,h1,h⟩:=Qae h
  rcases Qai h with ⟨h2,h⟩|⟨h2,h⟩
  ·obtain rfl:=Option.some.inj h
   exact gr 15 [] [rp 5 hP,rp 3 (oI ((ltI l.type_ 0)=false)),nL Qah.enc x0.types,hP,hP,rp 2 (oI ((ltI l.type_ 0)=false)),oR True ((ltI l.type_ 0)=false),bF h0,cC (Qey h1),rp 6 (bT h2),tT,hW 3,hH (.nilS 6 0 9)]
  ·obtain ⟨r1,h3,h⟩:=Qae h
   rcases Qai h with ⟨h4,h⟩|⟨h4,h⟩
   ·obtain ⟨x1,h5,h⟩:=Qae h
    obtain ⟨r2,h6,h⟩:=Qae h
    rcases Qai h with ⟨h7,h⟩|⟨h7,h⟩
    ·obtain rfl:=Option.some.inj h
     exact gr 24 [] [rp 5 hP,rp 3 (oI ((ltI l.type_ 0)=false)),nL Qah.enc x0.types,hP,hP,rp 2 (oI ((ltI l.type_ 0)=false)),oR True ((ltI l.type_ 0)=false),bF h0,cC (Qey h1),rp 4 (bF h2),cC (QeB h3),bF h2,bF h2,nF h4,cE Qah.enc h5,cC (QdY h6),rp 16 hP,rp 9 (oI ((neI r2.2.2 0)=false)),oR True ((neI r2.2.2 0)=false),rp 3 (oI (((neI r2.2.2 0)||(gtI (subK .i64 (addK .i64 l.driven r2.1) l.time) x1.drive))=false)),oR True (((neI r2.2.2 0)||(gtI (subK .i64 (addK .i64 l.driven r2.1) l.time) x1.drive))=false),bT h7,hW 3,hH (.nilS 6 0 9)]
    ·obtain ⟨r3,h8,h⟩:=Qae h
     obtain ⟨r4,h9,h⟩:=Qae h
     rcases Qai h with ⟨h10,h⟩|⟨h10,h⟩
     ·obtain rfl:=Option.some.inj h
      exact gr 33 [] [rp 5 hP,rp 3 (oI ((ltI l.type_ 0)=false)),nL Qah.enc x0.types,hP,hP,rp 2 (oI ((ltI l.type_ 0)=false)),oR True ((ltI l.type_ 0)=false),bF h0,cC (Qey h1),rp 4 (bF h2),cC (QeB h3),bF h2,bF h2,nF h4,cE Qah.enc h5,cC (QdY h6),rp 16 hP,rp 9 (oI ((neI r2.2.2 0)=false)),oR True ((neI r2.2.2 0)=false),rp 3 (oI (((neI r2.2.2 0)||(gtI (subK .i64 (addK .i64 l.driven r2.1) l.time) x1.drive))=false)),oR True (((neI r2.2.2 0)||(gtI (subK .i64 (addK .i64 l.driven r2.1) l.time) x1.drive))=false),bF h7,cC (Qfx h8),cC (QfX h9),rp 6 (bT h10),tT,hW 3,hH (.nilS 6 0 9)]
     ·obtain ⟨r5,h11,h⟩:=Qae h
      rcases Qai h with ⟨h12,h⟩|⟨h12,h⟩
      ·obtain ⟨l1,h13,h⟩:=Qae h
       obtain ⟨h14,h⟩:=Qas h
       obtain ⟨h15,h⟩:=Qas h
       rcases Qai h with ⟨h16,h⟩|⟨h16,h⟩
       ·exact gn 49 [9,14] [4,5,8] [rp 5 hP,rp 3 (oI ((ltI l.type_ 0)=false)),nL Qah.enc x0.types,hP,hP,rp 2 (oI ((ltI l.type_ 0)=false)),oR True ((ltI l.type_ 0)=false),bF h0,cC (Qey h1),rp 4 (bF h2),cC (QeB h3),bF h2,bF h2,nF h4,cE Qah.enc h5,cC (QdY h6),rp 16 hP,rp 9 (oI ((neI r2.2.2 0)=false)),oR True ((neI r2.2.2 0)=false),rp 3 (oI (((neI r2.2.2 0)||(gtI (subK .i64 (addK .i64 l.driven r2.1) l.time) x1.drive))=false)),oR True (((neI r2.2.2 0)||(gtI (subK .i64 (addK .i64 l.driven r2.1) l.time) x1.drive))=false),bF h7,cC (Qfx h8),cC (QfX h9),rp 4 (bF h10),cC (Qfe h11),rp 2 (bF h10),nF h12,rp 2 (nL Qab.enc l.visits),hH (.cells [lI 0,.bool false]),hH (.rows (l1.map Qab.enc)),oO (mk1 h13),oO (mk2 h13),oO (mk3 h13),oO (mk4 h13),oO (mk5 Qab.enc h13),cY Qab.enc l1 l.visits,hH (.relen 6 ((cpyL l1 l.visits).map Qab.enc).length),rp 3 (oO (Qxu Qab.enc l1 l.visits)),oO (Eq.refl ([v].map Qab.enc).length),aO Qab.enc h14,oO (h15),bT h16] (Qhy Γ rv h)
       ·obtain ⟨x2,h17,h⟩:=Qae h
        rcases Qai h with ⟨h18,h⟩|⟨h18,h⟩
        ·exact gn 52 [9,14] [4,5,8] [rp 5 hP,rp 3 (oI ((ltI l.type_ 0)=false)),nL Qah.enc x0.types,hP,hP,rp 2 (oI ((ltI l.type_ 0)=false)),oR True ((ltI l.type_ 0)=false),bF h0,cC (Qey h1),rp 4 (bF h2),cC (QeB h3),bF h2,bF h2,nF h4,cE Qah.enc h5,cC (QdY h6),rp 16 hP,rp 9 (oI ((neI r2.2.2 0)=false)),oR True ((neI r2.2.2 0)=false),rp 3 (oI (((neI r2.2.2 0)||(gtI (subK .i64 (addK .i64 l.driven r2.1) l.time) x1.drive))=false)),oR True (((neI r2.2.2 0)||(gtI (subK .i64 (addK .i64 l.driven r2.1) l.time) x1.drive))=false),bF h7,cC (Qfx h8),cC (QfX h9),rp 4 (bF h10),cC (Qfe h11),rp 2 (bF h10),nF h12,rp 2 (nL Qab.enc l.visits),hH (.cells [lI 0,.bool false]),hH (.rows (l1.map Qab.enc)),oO (mk1 h13),oO (mk2 h13),oO (mk3 h13),oO (mk4 h13),oO (mk5 Qab.enc h13),cY Qab.enc l1 l.visits,hH (.relen 6 ((cpyL l1 l.visits).map Qab.enc).length),rp 3 (oO (Qxu Qab.enc l1 l.visits)),oO (Eq.refl ([v].map Qab.enc).length),aO Qab.enc h14,oO (h15),bF h16,cE Qag.enc h17,bT h18] (Qhy Γ rv h)
        ·exact gn 52 [9,14] [4,5,8] [rp 5 hP,rp 3 (oI ((ltI l.type_ 0)=false)),nL Qah.enc x0.types,hP,hP,rp 2 (oI ((ltI l.type_ 0)=false)),oR True ((ltI l.type_ 0)=false),bF h0,cC (Qey h1),rp 4 (bF h2),cC (QeB h3),bF h2,bF h2,nF h4,cE Qah.enc h5,cC (QdY h6),rp 16 hP,rp 9 (oI ((neI r2.2.2 0)=false)),oR True ((neI r2.2.2 0)=false),rp 3 (oI (((neI r2.2.2 0)||(gtI (subK .i64 (addK .i64 l.driven r2.1) l.time) x1.drive))=false)),oR True (((neI r2.2.2 0)||(gtI (subK .i64 (addK .i64 l.driven r2.1) l.time) x1.drive))=false),bF h7,cC (Qfx h8),cC (QfX h9),rp 4 (bF h10),cC (Qfe h11),rp 2 (bF h10),nF h12,rp 2 (nL Qab.enc l.visits),hH (.cells [lI 0,.bool false]),hH (.rows (l1.map Qab.enc)),oO (mk1 h13),oO (mk2 h13),oO (mk3 h13),oO (mk4 h13),oO (mk5 Qab.enc h13),cY Qab.enc l1 l.visits,hH (.relen 6 ((cpyL l1 l.visits).map Qab.enc).length),rp 3 (oO (Qxu Qab.enc l1 l.visits)),oO (Eq.refl ([v].map Qab.enc).length),aO Qab.enc h14,oO (h15),bF h16,cE Qag.enc h17,bF h18] (Qhy Γ rv h)
      ·obtain rfl:=Option.some.inj h
       exact gr 33 [] [rp 5 hP,rp 3 (oI ((ltI l.type_ 0)=false)),nL Qah.enc x0.types,hP,hP,rp 2 (oI ((ltI l.type_ 0)=false)),oR True ((ltI l.type_ 0)=false),bF h0,cC (Qey h1),rp 4 (bF h2),cC (QeB h3),bF h2,bF h2,nF h4,cE Qah.enc h5,cC (QdY h6),rp 16 hP,rp 9 (oI ((neI r2.2.2 0)=false)),oR True ((neI r2.2.2 0)=false),rp 3 (oI (((neI r2.2.2 0)||(gtI (subK .i64 (addK .i64 l.driven r2.1) l.time) x1.drive))=false)),oR True (((neI r2.2.2 0)||(gtI (subK .i64 (addK .i64 l.driven r2.1) l.time) x1.drive))=false),bF h7,cC (Qfx h8),cC (QfX h9),rp 4 (bF h10),cC (Qfe h11),rp 2 (bF h10),nT h12,hW 3,hH (.nilS 6 0 9)]
   ·obtain rfl:=Option.some.inj h
    exact gr 15 [] [rp 5 hP,rp 3 (oI ((ltI l.type_ 0)=false)),nL Qah.enc x0.types,hP,hP,rp 2 (oI ((ltI l.type_ 0)=false)),oR True ((ltI l.type_ 0)=false),bF h0,cC (Qey h1),rp 4 (bF h2),cC (QeB h3),bF h2,bF h2,nT h4,hW 3,hH (.nilS 6 0 9)]
def Qjj (Γ:Gam) (rv:List Int) (cf:Cf):Prop:=Go Tryz.prog Tryz.f143 [] Γ (one (lL 1 rv e_i64)) [] cf
def Qmk (Γ:Gam) (rv:List Int) (before:List Qar) (l:List Int) (l2:List Int) (more1:Bool) (v:Int):Prop:=Qjj Γ rv ⟨[.c 7468,.l 7468,.b 2,.b 1,.l 116,.b 0,.c 15],⟨68,[vL 1 2 before Qar.enc,vO 5 0 1 l2 e_i64,vB 6 more1,vL 16 2 before Qar.enc,vI 17 (lenI before),vI 18 v],[oS 1 3 l2 e_i64]⟩⟩
def Qly (Γ:Gam) (rv:List Int) (before:List Qar) (l:List Int) (l3:List Int) (more2:Bool):Prop:=Qjj Γ rv ⟨[.b 1,.l 116,.b 0,.c 15],⟨68,[vL 1 2 before Qar.enc,vO 5 0 1 l3 e_i64,vB 6 more2],[oS 1 3 l3 e_i64]⟩⟩
def Qmj (Γ:Gam) (rv:List Int) (before:List Qar) (l:List Int) (l1:List Int) (more:Bool):Prop:=Qjj Γ rv ⟨[.c 116,.l 116,.b 0,.c 15],⟨68,[vL 1 2 before Qar.enc,vO 5 0 1 l1 e_i64,vB 6 more],[oS 1 3 l1 e_i64]⟩⟩
def Qlx (Γ:Gam) (rv:List Int) (before:List Qar) (l:List Int) (l4:List Int):Prop:=Qjj Γ rv ⟨[.c 15],⟨68,[vO 5 0 1 l4 e_i64],[oS 1 3 l4 e_i64]⟩⟩
theorem Qph (Γ:Gam) (rv:List Int) {before l} {s:List Int×Bool×Int} {e:List Int×Bool} (h:loopF (fun s=>QhO before l s.1 s.2.1 s.2.2) s=some e) (hD:Qly Γ rv before l e.1 e.2):Qmk Γ rv before l s.1 s.2.1 s.2.2:=by
 refine Qaz (C:=fun (s:List Int×Bool×Int)=>Qmk Γ rv before l s.1 s.2.1 s.2.2) (D:=fun (e:List Int×Bool)=>Qly Γ rv before l e.1 e.2) ?_ h hD
 clear h hD s e
 rintro ⟨l2,more1,v⟩ z_ h hI hE
 replace h:QhO before l l2 more1 v=_:=h
 unfold QhO at h
 rcases Qai h with ⟨h2,h⟩|⟨h2,h⟩
 ·obtain ⟨x0,h3,h⟩:=Qae h
  rcases Qai h with ⟨h4,h⟩|⟨h4,h⟩
  ·exact gn 18 [1,5,6,16,17,18] [0] [bT h2,cE Qar.enc h3,hH (.draw 6 []),rp 6 hP,oO (zL 0),oO (lT 0 2),oO (zL 1),oO (lT 1 2),oI ((ltI x0.x0 0)=false),oR True ((ltI x0.x0 0)=false),oI (((ltI x0.x0 0)||(ltI x0.x1 0))=false),nL e_i64 l2,rp 5 hP,rp 2 (oI (((ltI x0.x0 0)||(ltI x0.x1 0))=false)),oR True (((ltI x0.x0 0)||(ltI x0.x1 0))=false),oI ((((ltI x0.x0 0)||(ltI x0.x1 0))||(geI x0.x0 (lenI l2)))=false),nL e_i64 l2,hP,hP,rp 2 (oI ((((ltI x0.x0 0)||(ltI x0.x1 0))||(geI x0.x0 (lenI l2)))=false)),oR True ((((ltI x0.x0 0)||(ltI x0.x1 0))||(geI x0.x0 (lenI l2)))=false),bT h4] (hI _ (oJ h))
  ·obtain ⟨x1,h5,h⟩:=Qae h
   obtain ⟨x2,h6,h⟩:=Qae h
   obtain ⟨h7,h⟩:=Qas h
   rcases Qai h with ⟨h8,h⟩|⟨h8,h⟩
   ·exact gn 27 [1,5,6,16,17,18] [0] [bT h2,cE Qar.enc h3,hH (.draw 6 []),rp 6 hP,oO (zL 0),oO (lT 0 2),oO (zL 1),oO (lT 1 2),oI ((ltI x0.x0 0)=false),oR True ((ltI x0.x0 0)=false),oI (((ltI x0.x0 0)||(ltI x0.x1 0))=false),nL e_i64 l2,rp 5 hP,rp 2 (oI (((ltI x0.x0 0)||(ltI x0.x1 0))=false)),oR True (((ltI x0.x0 0)||(ltI x0.x1 0))=false),oI ((((ltI x0.x0 0)||(ltI x0.x1 0))||(geI x0.x0 (lenI l2)))=false),nL e_i64 l2,hP,hP,rp 2 (oI ((((ltI x0.x0 0)||(ltI x0.x1 0))||(geI x0.x0 (lenI l2)))=false)),oR True ((((ltI x0.x0 0)||(ltI x0.x1 0))||(geI x0.x0 (lenI l2)))=false),bF h4,hH (.draw 13 []),oO (getLo h5),oO (getHi e_i64 h5),rE e_i64 h5,oO (getLo h6),oO (getHi e_i64 h6),rE e_i64 h6,oO (h7),oO (getLo h5),oO (getHi e_i64 h5),rE e_i64 h5,bT h8,oO (getLo h5),oO (getHi e_i64 h5),rE e_i64 h5,hH (.rows ((setI l2 x0.x1 (orK .i64 (orK .i64 x1 x2) (shlK .i64 1 x0.x0))).map e_i64)),hH (.relen 0 ((setI l2 x0.x1 (orK .i64 (orK .i64 x1 x2) (shlK .i64 1 x0.x0))).map e_i64).length),oO (setM e_i64 l2 x0.x1 (orK .i64 (orK .i64 x1 x2) (shlK .i64 1 x0.x0))),rp 5 (oO (Qxw e_i64 l2 x0.x1 (orK .i64 (orK .i64 x1 x2) (shlK .i64 1 x0.x0))))] (hI _ (oJ h))
   ·exact gn 25 [1,5,6,16,17,18] [0] [bT h2,cE Qar.enc h3,hH (.draw 6 []),rp 6 hP,oO (zL 0),oO (lT 0 2),oO (zL 1),oO (lT 1 2),oI ((ltI x0.x0 0)=false),oR True ((ltI x0.x0 0)=false),oI (((ltI x0.x0 0)||(ltI x0.x1 0))=false),nL e_i64 l2,rp 5 hP,rp 2 (oI (((ltI x0.x0 0)||(ltI x0.x1 0))=false)),oR True (((ltI x0.x0 0)||(ltI x0.x1 0))=false),oI ((((ltI x0.x0 0)||(ltI x0.x1 0))||(geI x0.x0 (lenI l2)))=false),nL e_i64 l2,hP,hP,rp 2 (oI ((((ltI x0.x0 0)||(ltI x0.x1 0))||(geI x0.x0 (lenI l2)))=false)),oR True ((((ltI x0.x0 0)||(ltI x0.x1 0))||(geI x0.x0 (lenI l2)))=false),bF h4,hH (.draw 13 []),oO (getLo h5),oO (getHi e_i64 h5),rE e_i64 h5,oO (getLo h6),oO (getHi e_i64 h6),rE e_i64 h6,oO (h7),oO (getLo h5),oO (getHi e_i64 h5),rE e_i64 h5,bF h8] (hI _ (oJ h))
 ·exact gn 5 [1,5,6] [0] [bF h2] (hE _ (oJ h))
theorem Qpg (Γ:Gam) (rv:List Int) {before l} {s:List Int×Bool} {e:List Int} (h:loopF (fun s=>QhN before l s.1 s.2) s=some e) (hD:Qlx Γ rv before l e):Qmj Γ rv before l s.1 s.2:=by
 refine Qaz (C:=fun (s:List Int×Bool)=>Qmj Γ rv before l s.1 s.2) (D:=fun (e:List Int)=>Qlx Γ rv before l e) ?_ h hD
 clear h hD s e
 rintro ⟨l1,more⟩ z_ h hI hE
 replace h:QhN before l l1 more=_:=h
 unfold QhN at h
 rcases Qai h with ⟨h1,h⟩|⟨h1,h⟩
 ·obtain ⟨e0,h9,h⟩:=Qae h
  refine gn 12 [1,5,6,16,17,18] [0] [bT h1,nL Qar.enc before] (Qph Γ rv h9 ?_)
  obtain ⟨l3,more2⟩:=e0
  replace h:(some (.inl (l3,more2)):Option ((List Int×Bool)⊕(List Int)))=some _:=h
  exact gn 2 [1,5,6] [0] [] (hI _ (oJ h))
 ·exact gn 5 [5] [0] [bF h1] (hE _ (oJ h))
theorem QqY {orders before} {rv:List Int} (h:Qgl orders before=some rv):AFn Tryz.prog 143 [.one (lI orders),.one (lL 2 before Qar.enc)] [] (one (lL 1 rv e_i64)) []:=by
 refine QaM Tryz.func143 (by kernel_rfl) (by kernel_rfl) (fun Γ=>?_)
 unfold Qgl at h
 obtain ⟨l,h0,h⟩:=Qae h
 obtain ⟨e1,h10,h⟩:=Qae h
 refine gn 9 [1,5,6] [0] [hH (.cells [lI 0]),hH (.rows (l.map e_i64)),oO (mk1 h0),oO (mk2 h0),oO (mk3 h0),oO (mk4 h0),oO (mk5 e_i64 h0)] (Qpg Γ rv h10 ?_)
 obtain ⟨l4,rfl⟩:∃ x,x=e1:=⟨_,rfl⟩
 replace h:(some l4:Option (List Int))=some _:=h
 obtain rfl:=Option.some.inj h
 exact gr 2 [] [hW 4,hH (.frz 0),rp 3 (eL l4 e_i64)]
def Qcg (Γ:Gam) (rv:Int) (cf:Cf):Prop:=Go Tryz.prog Tryz.f122 [] Γ (one (lI rv)) [] cf
def Qls (Γ:Gam) (rv:Int) (x0:Qac) (set_:Int) (r:List Int) (v:Int):Prop:=Qcg Γ rv ⟨[.c 244,.l 244,.b 0,.c 31],⟨102,[vI 1 set_,vP 2 0 6,vL 5 1 r e_i64,vL 21 1 r e_i64,vI 22 (lenI r),vI 23 v],[oX 6 30 (Qac.enc x0)]⟩⟩
def QkI (Γ:Gam) (rv:Int) (x0:Qac) (set_:Int) (r:List Int):Prop:=Qcg Γ rv ⟨[.c 31],⟨102,[vI 1 set_,vP 2 0 6,vL 5 1 r e_i64],[oX 6 30 (Qac.enc x0)]⟩⟩
def Qlt (Γ:Gam) (rv:Int) (x0:Qac) (set_:Int) (r:List Int) (v1:Int):Prop:=Qcg Γ rv ⟨[.c 500,.l 500,.b 2,.c 63],⟨102,[vI 1 set_,vP 2 0 6,vL 5 1 r e_i64,vL 33 1 r e_i64,vI 34 (lenI r),vI 35 v1],[oX 6 30 (Qac.enc x0)]⟩⟩
def QkJ (Γ:Gam) (rv:Int) (x0:Qac) (set_:Int) (r:List Int):Prop:=Qcg Γ rv ⟨[.c 63],⟨102,[vI 1 set_,vP 2 0 6,vL 5 1 r e_i64],[oX 6 30 (Qac.enc x0)]⟩⟩
def Qlu (Γ:Gam) (rv:Int) (x0:Qac) (set_:Int) (r:List Int) (v2:Int):Prop:=Qcg Γ rv ⟨[.c 1012,.l 1012,.b 4,.c 127],⟨102,[vI 1 set_,vP 2 0 6,vL 5 1 r e_i64,vL 47 2 x0.apart Qar.enc,vI 48 (lenI x0.apart),vI 49 v2],[oX 6 30 (Qac.enc x0)]⟩⟩
def QkK (Γ:Gam) (rv:Int) (x0:Qac) (set_:Int) (r:List Int):Prop:=Qcg Γ rv ⟨[.c 127],⟨102,[vI 1 set_,vP 2 0 6,vL 5 1 r e_i64],[oX 6 30 (Qac.enc x0)]⟩⟩
def Qlv (Γ:Gam) (rv:Int) (x0:Qac) (set_:Int) (r:List Int) (v3:Int):Prop:=Qcg Γ rv ⟨[.c 2036,.l 2036,.b 6,.c 255],⟨102,[vI 1 set_,vP 2 0 6,vL 5 1 r e_i64,vL 65 2 x0.before Qar.enc,vI 66 (lenI x0.before),vI 67 v3],[oX 6 30 (Qac.enc x0)]⟩⟩
def QkL (Γ:Gam) (rv:Int) (x0:Qac) (set_:Int) (r:List Int):Prop:=Qcg Γ rv ⟨[.c 255],⟨102,[vP 2 0 6,vL 5 1 r e_i64],[oX 6 30 (Qac.enc x0)]⟩⟩
def Qlw (Γ:Gam) (rv:Int) (r:List Int) (r5:List Int) (v4:Int):Prop:=Qcg Γ rv ⟨[.c 8180,.l 8180,.b 8,.c 1023],⟨102,[vL 14 1 r5 e_i64,vL 89 1 r e_i64,vI 90 (lenI r),vI 91 v4],[]⟩⟩
def QkM (Γ:Gam) (rv:Int) (r:List Int) (r5:List Int):Prop:=Qcg Γ rv ⟨[.c 1023],⟨102,[],[]⟩⟩
theorem QoM (Γ:Gam) (rv:Int) {x0 set_ r} {s:Int} {e:(Unit)⊕(Int)} (h:loopF (fun s=>Qg3 x0 set_ r s) s=some e) (hD:sel e (fun e=>QkI Γ rv x0 set_ r) (fun e=>e=rv)):Qls Γ rv x0 set_ r s:=by
 refine Qaz (C:=fun (s:Int)=>Qls Γ rv x0 set_ r s) (D:=fun (e:(Unit)⊕(Int))=>sel e (fun e=>QkI Γ rv x0 set_ r) (fun e=>e=rv)) ?_ h hD
 clear h hD s e
 intro v z_ h hI hE
 replace h:Qg3 x0 set_ r v=_:=h
 unfold Qg3 at h
 rcases Qai h with ⟨h2,h⟩|⟨h2,h⟩
 ·obtain ⟨x1,h3,h⟩:=Qae h
  rcases Qai h with ⟨h4,h⟩|⟨h4,h⟩
  ·obtain rfl:=(hE _ (oJ h):_=rv)
   exact gr 14 [] [bT h2,cE e_i64 h3,nL Qag.enc x0.orders,bT h4]
  ·exact gn 16 [1,2,5,21,22,23] [0] [bT h2,cE e_i64 h3,nL Qag.enc x0.orders,bF h4] (hI _ (oJ h))
 ·exact gn 5 [1,2,5] [0] [bF h2] (hE _ (oJ h))
theorem QoN (Γ:Gam) (rv:Int) {x0 set_ r} {s:Int} {e:(Unit)⊕(Int)} (h:loopF (fun s=>Qfu x0 set_ r s) s=some e) (hD:sel e (fun e=>QkJ Γ rv x0 set_ r) (fun e=>e=rv)):Qlt Γ rv x0 set_ r s:=by
 refine Qaz (C:=fun (s:Int)=>Qlt Γ rv x0 set_ r s) (D:=fun (e:(Unit)⊕(Int))=>sel e (fun e=>QkJ Γ rv x0 set_ r) (fun e=>e=rv)) ?_ h hD
 clear h hD s e
 intro v1 z_ h hI hE
 replace h:Qfu x0 set_ r v1=_:=h
 unfold Qfu at h
 rcases Qai h with ⟨h6,h⟩|⟨h6,h⟩
 ·obtain ⟨x2,h7,h⟩:=Qae h
  obtain ⟨x3,h8,h⟩:=Qae h
  rcases Qai h with ⟨h9,h⟩|⟨h9,h⟩
  ·obtain rfl:=(hE _ (oJ h):_=rv)
   exact gr 14 [] [bT h6,cE e_i64 h7,cE Qag.enc h8,bT h9]
  ·exact gn 16 [1,2,5,33,34,35] [0] [bT h6,cE e_i64 h7,cE Qag.enc h8,bF h9] (hI _ (oJ h))
 ·exact gn 5 [1,2,5] [0] [bF h6] (hE _ (oJ h))
theorem QoO (Γ:Gam) (rv:Int) {x0 set_ r} {s:Int} {e:(Unit)⊕(Int)} (h:loopF (fun s=>Qer x0 set_ r s) s=some e) (hD:sel e (fun e=>QkK Γ rv x0 set_ r) (fun e=>e=rv)):Qlu Γ rv x0 set_ r s:=by
 refine Qaz (C:=fun (s:Int)=>Qlu Γ rv x0 set_ r s) (D:=fun (e:(Unit)⊕(Int))=>sel e (fun e=>QkK Γ rv x0 set_ r) (fun e=>e=rv)) ?_ h hD
 clear h hD s e
 intro v2 z_ h hI hE
 replace h:Qer x0 set_ r v2=_:=h
 unfold Qer at h
 rcases Qai h with ⟨h11,h⟩|⟨h11,h⟩
 ·obtain ⟨x4,h12,h⟩:=Qae h
  obtain ⟨r1,h13,h⟩:=Qae h
  rcases Qai h with ⟨h14,h⟩|⟨h14,h⟩
  ·obtain ⟨r2,h15,h⟩:=Qae h
   rcases Qai h with ⟨h16,h⟩|⟨h16,h⟩
   ·obtain rfl:=(hE _ (oJ h):_=rv)
    exact gr 14 [] [bT h11,cE Qar.enc h12,oO (zL 0),oO (lT 0 2),cC (Qax h13),rp 2 (bT h14),oO (zL 1),oO (lT 1 2),rp 2 (bT h14),cC (Qax h15),bT h14,bT h16]
   ·exact gn 16 [1,2,5,47,48,49] [0] [bT h11,cE Qar.enc h12,oO (zL 0),oO (lT 0 2),cC (Qax h13),rp 2 (bT h14),oO (zL 1),oO (lT 1 2),rp 2 (bT h14),cC (Qax h15),bT h14,bF h16] (hI _ (oJ h))
  ·exact gn 16 [1,2,5,47,48,49] [0] [bT h11,cE Qar.enc h12,oO (zL 0),oO (lT 0 2),cC (Qax h13),rp 5 (bF h14),fF] (hI _ (oJ h))
 ·exact gn 5 [1,2,5] [0] [bF h11] (hE _ (oJ h))
theorem QoP (Γ:Gam) (rv:Int) {x0 set_ r} {s:Int} {e:(Unit)⊕(Int)} (h:loopF (fun s=>QdD x0 set_ r s) s=some e) (hD:sel e (fun e=>QkL Γ rv x0 set_ r) (fun e=>e=rv)):Qlv Γ rv x0 set_ r s:=by
 refine Qaz (C:=fun (s:Int)=>Qlv Γ rv x0 set_ r s) (D:=fun (e:(Unit)⊕(Int))=>sel e (fun e=>QkL Γ rv x0 set_ r) (fun e=>e=rv)) ?_ h hD
 clear h hD s e
 intro v3 z_ h hI hE
 replace h:QdD x0 set_ r v3=_:=h
 unfold QdD at h
 rcases Qai h with ⟨h18,h⟩|⟨h18,h⟩
 ·obtain ⟨x5,h19,h⟩:=Qae h
  obtain ⟨r3,h20,h⟩:=Qae h
  rcases Qai h with ⟨h21,h⟩|⟨h21,h⟩
  ·obtain ⟨r4,h22,h⟩:=Qae h
   rcases Qai h with ⟨h23,h⟩|⟨h23,h⟩
   ·exact gn 16 [1,2,5,65,66,67] [0] [bT h18,cE Qar.enc h19,oO (zL 1),oO (lT 1 2),cC (Qax h20),rp 2 (bT h21),oO (zL 0),oO (lT 0 2),rp 2 (bT h21),cC (Qax h22),rp 2 (bT h21),nF h23] (hI _ (oJ h))
   ·obtain rfl:=(hE _ (oJ h):_=rv)
    exact gr 14 [] [bT h18,cE Qar.enc h19,oO (zL 1),oO (lT 1 2),cC (Qax h20),rp 2 (bT h21),oO (zL 0),oO (lT 0 2),rp 2 (bT h21),cC (Qax h22),rp 2 (bT h21),nT h23]
  ·exact gn 16 [1,2,5,65,66,67] [0] [bT h18,cE Qar.enc h19,oO (zL 1),oO (lT 1 2),cC (Qax h20),rp 6 (bF h21),fF] (hI _ (oJ h))
 ·exact gn 5 [2,5] [0] [bF h18] (hE _ (oJ h))
theorem QoQ (Γ:Gam) (rv:Int) {r r5} {s:Int} {e:(Unit)⊕(Int)} (h:loopF (fun s=>QcP r r5 s) s=some e) (hD:sel e (fun e=>QkM Γ rv r r5) (fun e=>e=rv)):Qlw Γ rv r r5 s:=by
 refine Qaz (C:=fun (s:Int)=>Qlw Γ rv r r5 s) (D:=fun (e:(Unit)⊕(Int))=>sel e (fun e=>QkM Γ rv r r5) (fun e=>e=rv)) ?_ h hD
 clear h hD s e
 intro v4 z_ h hI hE
 replace h:QcP r r5 v4=_:=h
 unfold QcP at h
 rcases Qai h with ⟨h26,h⟩|⟨h26,h⟩
 ·obtain ⟨x6,h27,h⟩:=Qae h
  obtain ⟨x7,h28,h⟩:=Qae h
  obtain ⟨r6,h29,h⟩:=Qae h
  rcases Qai h with ⟨h30,h⟩|⟨h30,h⟩
  ·obtain rfl:=(hE _ (oJ h):_=rv)
   exact gr 14 [] [bT h26,cE e_i64 h27,cE e_i64 h28,cC (Qax h29),bT h30]
  ·exact gn 16 [14,89,90,91] [] [bT h26,cE e_i64 h27,cE e_i64 h28,cC (Qax h29),bF h30] (hI _ (oJ h))
 ·exact gn 5 [] [] [bF h26] (hE _ (oJ h))
theorem QqC {x0 set_} {rv:Int} (h:QkH x0 set_=some rv):AFn Tryz.prog 122 [.agg (Qac.enc x0),.one (lI set_)] [] (one (lI rv)) []:=by
 refine QaM Tryz.func122 (by kernel_rfl) (by kernel_rfl) (fun Γ=>?_)
 unfold QkH at h
 rcases Qai h with ⟨h0,h⟩|⟨h0,h⟩
 ·obtain rfl:=Option.some.inj h
  exact gr 8 [] [bT h0]
 ·obtain ⟨r,h1,h⟩:=Qae h
  obtain ⟨e0,h5,h⟩:=Qae h
  refine gn 14 [1,2,5,21,22,23] [0] [bF h0,cC (Qk0 h1),nL e_i64 r] (QoM Γ rv h5 ?_)
  rcases e0 with e0|e0
  ·replace h:(bnd (loopF (fun s=>Qfu x0 set_ r s) 0) (fun e=>sel e (fun (_:Unit)=>bnd (loopF (fun s=>Qer x0 set_ r s) 0) (fun e=>sel e (fun (_:Unit)=>bnd (loopF (fun s=>QdD x0 set_ r s) 0) (fun e=>sel e (fun (_:Unit)=>bnd (Qgl (lenI x0.orders) x0.before) fun r5=>bnd (loopF (fun s=>QcP r r5 s) 0) (fun e=>sel e (fun (_:Unit)=>some 0) (fun r7=>some r7))) (fun r8=>some r8))) (fun r9=>some r9))) (fun r10=>some r10)):Option Int)=some _:=h
   obtain ⟨e1,h10,h⟩:=Qae h
   refine gn 5 [1,2,5,33,34,35] [0] [nL e_i64 r] (QoN Γ rv h10 ?_)
   rcases e1 with e1|e1
   ·replace h:(bnd (loopF (fun s=>Qer x0 set_ r s) 0) (fun e=>sel e (fun (_:Unit)=>bnd (loopF (fun s=>QdD x0 set_ r s) 0) (fun e=>sel e (fun (_:Unit)=>bnd (Qgl (lenI x0.orders) x0.before) fun r5=>bnd (loopF (fun s=>QcP r r5 s) 0) (fun e=>sel e (fun (_:Unit)=>some 0) (fun r7=>some r7))) (fun r8=>some r8))) (fun r9=>some r9)):Option Int)=some _:=h
    obtain ⟨e2,h17,h⟩:=Qae h
    refine gn 5 [1,2,5,47,48,49] [0] [nL Qar.enc x0.apart] (QoO Γ rv h17 ?_)
    rcases e2 with e2|e2
    ·replace h:(bnd (loopF (fun s=>QdD x0 set_ r s) 0) (fun e=>sel e (fun (_:Unit)=>bnd (Qgl (lenI x0.orders) x0.before) fun r5=>bnd (loopF (fun s=>QcP r r5 s) 0) (fun e=>sel e (fun (_:Unit)=>some 0) (fun r7=>some r7))) (fun r8=>some r8)):Option Int)=some _:=h
     obtain ⟨e3,h24,h⟩:=Qae h
     refine gn 5 [1,2,5,65,66,67] [0] [nL Qar.enc x0.before] (QoP Γ rv h24 ?_)
     rcases e3 with e3|e3
     ·replace h:(bnd (Qgl (lenI x0.orders) x0.before) fun r5=>bnd (loopF (fun s=>QcP r r5 s) 0) (fun e=>sel e (fun (_:Unit)=>some 0) (fun r7=>some r7)):Option Int)=some _:=h
      obtain ⟨r5,h25,h⟩:=Qae h
      obtain ⟨e4,h31,h⟩:=Qae h
      refine gn 7 [14,89,90,91] [] [nL Qag.enc x0.orders,cC (QqY h25),nL e_i64 r] (QoQ Γ rv h31 ?_)
      rcases e4 with e4|e4
      ·replace h:(some 0:Option Int)=some _:=h
       obtain rfl:=Option.some.inj h
       exact gr 2 [] []
      ·obtain ⟨r7,rfl⟩:∃ x,x=e4:=⟨_,rfl⟩
       replace h:(some r7:Option Int)=some _:=h
       exact Option.some.inj h
     ·obtain ⟨r8,rfl⟩:∃ x,x=e3:=⟨_,rfl⟩
      replace h:(some r8:Option Int)=some _:=h
      exact Option.some.inj h
    ·obtain ⟨r9,rfl⟩:∃ x,x=e2:=⟨_,rfl⟩
     replace h:(some r9:Option Int)=some _:=h
     exact Option.some.inj h
   ·obtain ⟨r10,rfl⟩:∃ x,x=e1:=⟨_,rfl⟩
    replace h:(some r10:Option Int)=some _:=h
    exact Option.some.inj h
  ·obtain ⟨r11,rfl⟩:∃ x,x=e0:=⟨_,rfl⟩
   replace h:(some r11:Option Int)=some _:=h
   exact Option.some.inj h
def Qj8 (Γ:Gam) (rv:Bool) (cf:Cf):Prop:=Go Tryz.prog Tryz.f93 [] Γ (one (.bool rv)) [] cf
def Qhu (Γ:Gam) (rv:Bool) (x0:Qac) (set_:Int) (v:Int):Prop:=Qj8 Γ rv ⟨[.c 52,.l 52,.b 0,.c 7],⟨29,[vI 1 set_,vP 2 0 6,vL 8 16 x0.orders Qag.enc,vI 9 (lenI x0.orders),vI 10 v],[oX 6 30 (Qac.enc x0)]⟩⟩
def Qg6 (Γ:Gam) (rv:Bool) (x0:Qac) (set_:Int):Prop:=Qj8 Γ rv ⟨[.c 7],⟨29,[vI 1 set_,vP 2 0 6],[oX 6 30 (Qac.enc x0)]⟩⟩
theorem QlV (Γ:Gam) (rv:Bool) {x0 set_} {s:Int} {e:(Unit)⊕(Bool)} (h:loopF (fun s=>Qed x0 set_ s) s=some e) (hD:sel e (fun e=>Qg6 Γ rv x0 set_) (fun e=>e=rv)):Qhu Γ rv x0 set_ s:=by
 refine Qaz (C:=fun (s:Int)=>Qhu Γ rv x0 set_ s) (D:=fun (e:(Unit)⊕(Bool))=>sel e (fun e=>Qg6 Γ rv x0 set_) (fun e=>e=rv)) ?_ h hD
 clear h hD s e
 intro v z_ h hI hE
 replace h:Qed x0 set_ v=_:=h
 unfold Qed at h
 rcases Qai h with ⟨h0,h⟩|⟨h0,h⟩
 ·obtain ⟨x1,h1,h⟩:=Qae h
  obtain ⟨h2,h⟩:=Qas h
  rcases Qai h with ⟨h3,h⟩|⟨h3,h⟩
  ·obtain rfl:=(hE _ (oJ h):_=rv)
   exact gr 14 [] [bT h0,cE Qag.enc h1,hP,hP,hP,oO (h2),oI ((eqI (andK .i64 (shrK .i64 set_ v) 1) 1)=true),oR True ((eqI (andK .i64 (shrK .i64 set_ v) 1) 1)=true),bT h3]
  ·exact gn 16 [1,2,8,9,10] [0] [bT h0,cE Qag.enc h1,hP,hP,hP,oO (h2),oI ((eqI (andK .i64 (shrK .i64 set_ v) 1) 1)=true),oR True ((eqI (andK .i64 (shrK .i64 set_ v) 1) 1)=true),bF h3] (hI _ (oJ h))
 ·exact gn 5 [1,2] [0] [bF h0] (hE _ (oJ h))
theorem Qjf {x0 set_} {rv:Bool} (h:QhI x0 set_=some rv):AFn Tryz.prog 93 [.agg (Qac.enc x0),.one (lI set_)] [] (one (.bool rv)) []:=by
 refine QaM Tryz.func93 (by kernel_rfl) (by kernel_rfl) (fun Γ=>?_)
 unfold QhI at h
 obtain ⟨e0,h4,h⟩:=Qae h
 refine gn 7 [1,2,8,9,10] [0] [nL Qag.enc x0.orders] (QlV Γ rv h4 ?_)
 rcases e0 with e0|e0
 ·replace h:(bnd (QkH x0 set_) fun r=>some (neI r 0):Option Bool)=some _:=h
  obtain ⟨r,h5,h⟩:=Qae h
  obtain rfl:=Option.some.inj h
  exact gr 2 [] [cC (QqC h5)]
 ·obtain ⟨r1,rfl⟩:∃ x,x=e0:=⟨_,rfl⟩
  replace h:(some r1:Option Bool)=some _:=h
  exact Option.some.inj h
def QrD (Γ:Gam) (rv:List Qab) (cf:Cf):Prop:=Go Tryz.prog Tryz.f94 [] Γ (one (lL 2 rv Qab.enc)) [] cf
theorem Qlp (Γ:Gam) (rv:List Qab) {l at_ l1} (h:QhL l at_ l1=some rv):QrD Γ rv ⟨[.c 31],⟨35,[vL 0 16 l Qag.enc,vI 1 at_,vO 5 0 2 l1 Qab.enc],[oS 2 54 l1 Qab.enc]⟩⟩:=by
 unfold QhL at h
 obtain ⟨x1,h5,h⟩:=Qae h
 rcases Qai h with ⟨h6,h⟩|⟨h6,h⟩
 ·obtain ⟨h7,h⟩:=Qas h
  obtain rfl:=Option.some.inj h
  exact gr 7 [] [cE Qag.enc h5,bT h6,oO (Eq.refl ([(Qab.mk at_ true)].map Qab.enc).length),aO Qab.enc h7,hW 5,hH (.frz 2),rp 4 (oO (Eq.refl ((l1++[(Qab.mk at_ true)]).map Qab.enc).length))]
 ·obtain rfl:=Option.some.inj h
  exact gr 7 [] [cE Qag.enc h5,bF h6,hW 5,hH (.frz 0),rp 3 (eL l1 Qab.enc)]
theorem QhM {l at_} {rv:List Qab} (h:QhG l at_=some rv):AFn Tryz.prog 94 [.one (lL 16 l Qag.enc),.one (lI at_)] [] (one (lL 2 rv Qab.enc)) []:=by
 refine QaM Tryz.func94 (by kernel_rfl) (by kernel_rfl) (fun Γ=>?_)
 unfold QhG at h
 obtain ⟨r,h0,h⟩:=Qae h
 rcases Qai h with ⟨h1,h⟩|⟨h1,h⟩
 ·obtain ⟨x0,h2,h⟩:=Qae h
  rcases Qai h with ⟨h3,h⟩|⟨h3,h⟩
  ·obtain ⟨h4,h⟩:=Qas h
   exact gn 14 [0,1,5] [1] [cC (QfJ h0),nF h1,cE Qag.enc h2,bT h3,oO (Eq.refl ([(Qab.mk at_ false)].map Qab.enc).length),aN (l:=([(Qab.mk at_ false)]:List Qab)) Qab.enc h4] (Qlp Γ rv h)
  ·exact gn 14 [0,1,5] [0] [cC (QfJ h0),nF h1,cE Qag.enc h2,bF h3,hW 1,hH (.adopt 5 2 54)] (Qlp Γ rv h)
 ·obtain rfl:=Option.some.inj h
  exact gr 10 [] [cC (QfJ h0),nT h1,hW 3,hH (.nilS 4 0 2)]
def Qdm (Γ:Gam) (rv:Int) (cf:Cf):Prop:=Go Tryz.prog Tryz.f154 [] Γ (one (lI rv)) [] cf
def QcQ (Γ:Gam) (rv:Int) (s0:List Qab) (v:Qab) (v1:Int):Prop:=Qdm Γ rv ⟨[.c 52,.l 52,.b 0,.c 7],⟨19,[vL 0 2 s0 Qab.enc,vP 3 0 2,vI 7 (lenI s0),vI 8 v1],[oX 2 54 (Qab.enc v)]⟩⟩
def QcE (Γ:Gam) (rv:Int) (s0:List Qab) (v:Qab):Prop:=Qdm Γ rv ⟨[.c 7],⟨19,[],[]⟩⟩
theorem Qfd (Γ:Gam) (rv:Int) {s0 v} {s:Int} {e:(Unit)⊕(Int)} (h:loopF (fun s=>Qbe s0 v s) s=some e) (hD:sel e (fun e=>QcE Γ rv s0 v) (fun e=>e=rv)):QcQ Γ rv s0 v s:=by
 refine Qaz (C:=fun (s:Int)=>QcQ Γ rv s0 v s) (D:=fun (e:(Unit)⊕(Int))=>sel e (fun e=>QcE Γ rv s0 v) (fun e=>e=rv)) ?_ h hD
 clear h hD s e
 intro v1 z_ h hI hE
 replace h:Qbe s0 v v1=_:=h
 unfold Qbe at h
 rcases Qai h with ⟨h0,h⟩|⟨h0,h⟩
 ·obtain ⟨x0,h1,h⟩:=Qae h
  rcases Qai h with ⟨h2,h⟩|⟨h2,h⟩
  ·obtain rfl:=(hE _ (oJ h):_=rv)
   exact gr 14 [] [bT h0,hH (.draw 6 []),cE Qab.enc h1,bT h2]
  ·exact gn 16 [0,3,7,8] [0] [bT h0,hH (.draw 6 []),cE Qab.enc h1,bF h2] (hI _ (oJ h))
 ·exact gn 5 [] [] [bF h0] (hE _ (oJ h))
theorem QfW {s0 v} {rv:Int} (h:Qcb s0 v=some rv):AFn Tryz.prog 154 [.one (lL 2 s0 Qab.enc),.agg (Qab.enc v)] [] (one (lI rv)) []:=by
 refine QaM Tryz.func154 (by kernel_rfl) (by kernel_rfl) (fun Γ=>?_)
 unfold Qcb at h
 obtain ⟨e0,h3,h⟩:=Qae h
 refine gn 7 [0,3,7,8] [0] [nL Qab.enc s0] (Qfd Γ rv h3 ?_)
 rcases e0 with e0|e0
 ·replace h:(some (-1):Option Int)=some _:=h
  obtain rfl:=Option.some.inj h
  exact gr 2 [] []
 ·obtain ⟨r,rfl⟩:∃ x,x=e0:=⟨_,rfl⟩
  replace h:(some r:Option Int)=some _:=h
  exact Option.some.inj h
theorem QdL {l v} {rv:Int} (h:Qg7 l v=some rv):AFn Tryz.prog 144 [.one (lL 2 l Qab.enc),.agg (Qab.enc v)] [] (one (lI rv)) []:=by
 refine QaM Tryz.func144 (by kernel_rfl) (by kernel_rfl) (fun Γ=>?_)
 unfold Qg7 at h
 obtain ⟨r,h0,h⟩:=Qae h
 obtain rfl:=Option.some.inj h
 exact gr 4 [] [cC (QfW h0)]
def Qet (Γ:Gam) (rv:Bool) (cf:Cf):Prop:=Go Tryz.prog Tryz.f123 [] Γ (one (.bool rv)) [] cf
def QkT (Γ:Gam) (rv:Bool) (x0:Qac) (l:List Qab) (v:Qab) (r1:List Qab) (v1:Int):Prop:=Qet Γ rv ⟨[.c 116,.l 116,.b 0,.c 15],⟨63,[vL 1 2 l Qab.enc,vP 3 0 6,vP 5 1 2,vL 21 2 r1 Qab.enc,vI 22 (lenI r1),vI 23 v1],[oX 6 30 (Qac.enc x0),oX 2 54 (Qab.enc v)]⟩⟩
def Qj9 (Γ:Gam) (rv:Bool) (x0:Qac) (l:List Qab) (v:Qab) (r1:List Qab):Prop:=Qet Γ rv ⟨[.c 15],⟨63,[vL 1 2 l Qab.enc,vP 3 0 6,vP 5 1 2],[oX 6 30 (Qac.enc x0),oX 2 54 (Qab.enc v)]⟩⟩
def QkV (Γ:Gam) (rv:Bool) (x0:Qac) (l:List Qab) (v:Qab) (v2:Int) (r3:List Qab) (v3:Int):Prop:=Qet Γ rv ⟨[.c 125340,.l 125340,.b 4,.b 3,.c 1959,.l 244,.b 2,.c 31],⟨63,[vL 1 2 l Qab.enc,vP 3 0 6,vP 5 1 2,vL 36 2 x0.before Qar.enc,vI 37 (lenI x0.before),vI 38 v2,vL 51 2 r3 Qab.enc,vI 52 (lenI r3),vI 53 v3],[oX 6 30 (Qac.enc x0),oX 2 54 (Qab.enc v)]⟩⟩
def Qkb (Γ:Gam) (rv:Bool) (x0:Qac) (l:List Qab) (v:Qab) (v2:Int) (r3:List Qab):Prop:=Qet Γ rv ⟨[.b 3,.c 1959,.l 244,.b 2,.c 31],⟨63,[vL 1 2 l Qab.enc,vP 3 0 6,vP 5 1 2,vL 36 2 x0.before Qar.enc,vI 37 (lenI x0.before),vI 38 v2],[oX 6 30 (Qac.enc x0),oX 2 54 (Qab.enc v)]⟩⟩
def QkU (Γ:Gam) (rv:Bool) (x0:Qac) (l:List Qab) (v:Qab) (v2:Int):Prop:=Qet Γ rv ⟨[.c 244,.l 244,.b 2,.c 31],⟨63,[vL 1 2 l Qab.enc,vP 3 0 6,vP 5 1 2,vL 36 2 x0.before Qar.enc,vI 37 (lenI x0.before),vI 38 v2],[oX 6 30 (Qac.enc x0),oX 2 54 (Qab.enc v)]⟩⟩
def Qka (Γ:Gam) (rv:Bool) (x0:Qac) (l:List Qab) (v:Qab):Prop:=Qet Γ rv ⟨[.c 31],⟨63,[],[]⟩⟩
theorem Qoi (Γ:Gam) (rv:Bool) {x0 l v r1} {s:Int} {e:(Unit)⊕(Bool)} (h:loopF (fun s=>Qge x0 l v r1 s) s=some e) (hD:sel e (fun e=>Qj9 Γ rv x0 l v r1) (fun e=>e=rv)):QkT Γ rv x0 l v r1 s:=by
 refine Qaz (C:=fun (s:Int)=>QkT Γ rv x0 l v r1 s) (D:=fun (e:(Unit)⊕(Bool))=>sel e (fun e=>Qj9 Γ rv x0 l v r1) (fun e=>e=rv)) ?_ h hD
 clear h hD s e
 intro v1 z_ h hI hE
 replace h:Qge x0 l v r1 v1=_:=h
 unfold Qge at h
 rcases Qai h with ⟨h3,h⟩|⟨h3,h⟩
 ·obtain ⟨x1,h4,h⟩:=Qae h
  rcases Qai h with ⟨h5,h⟩|⟨h5,h⟩
  ·exact gn 14 [1,3,5] [0,1] [bT h3,cE Qab.enc h4,bT h5] (hE _ (oJ h))
  ·obtain ⟨r2,h6,h⟩:=Qae h
   rcases Qai h with ⟨h7,h⟩|⟨h7,h⟩
   ·obtain rfl:=(hE _ (oJ h):_=rv)
    exact gr 19 [] [bT h3,cE Qab.enc h4,bF h5,cC (QdL h6),bT h7]
   ·exact gn 21 [1,3,5,21,22,23] [0,1] [bT h3,cE Qab.enc h4,bF h5,cC (QdL h6),bF h7] (hI _ (oJ h))
 ·exact gn 5 [1,3,5] [0,1] [bF h3] (hE _ (oJ h))
theorem Qok (Γ:Gam) (rv:Bool) {x0 l v v2 r3} {s:Int} {e:(Unit)⊕(Bool)} (h:loopF (fun s=>Qgf x0 l v v2 r3 s) s=some e) (hD:sel e (fun e=>Qkb Γ rv x0 l v v2 r3) (fun e=>e=rv)):QkV Γ rv x0 l v v2 r3 s:=by
 refine Qaz (C:=fun (s:Int)=>QkV Γ rv x0 l v v2 r3 s) (D:=fun (e:(Unit)⊕(Bool))=>sel e (fun e=>Qkb Γ rv x0 l v v2 r3) (fun e=>e=rv)) ?_ h hD
 clear h hD s e
 intro v3 z_ h hI hE
 replace h:Qgf x0 l v v2 r3 v3=_:=h
 unfold Qgf at h
 rcases Qai h with ⟨h13,h⟩|⟨h13,h⟩
 ·obtain ⟨x3,h14,h⟩:=Qae h
  obtain ⟨r4,h15,h⟩:=Qae h
  rcases Qai h with ⟨h16,h⟩|⟨h16,h⟩
  ·obtain rfl:=(hE _ (oJ h):_=rv)
   exact gr 14 [] [bT h13,cE Qab.enc h14,cC (QdL h15),bT h16]
  ·exact gn 16 [1,3,5,36,37,38,51,52,53] [0,1] [bT h13,cE Qab.enc h14,cC (QdL h15),bF h16] (hI _ (oJ h))
 ·exact gn 5 [1,3,5,36,37,38] [0,1] [bF h13] (hE _ (oJ h))
theorem Qoj (Γ:Gam) (rv:Bool) {x0 l v} {s:Int} {e:(Unit)⊕(Bool)} (h:loopF (fun s=>QeV x0 l v s) s=some e) (hD:sel e (fun e=>Qka Γ rv x0 l v) (fun e=>e=rv)):QkU Γ rv x0 l v s:=by
 refine Qaz (C:=fun (s:Int)=>QkU Γ rv x0 l v s) (D:=fun (e:(Unit)⊕(Bool))=>sel e (fun e=>Qka Γ rv x0 l v) (fun e=>e=rv)) ?_ h hD
 clear h hD s e
 intro v2 z_ h hI hE
 replace h:QeV x0 l v v2=_:=h
 unfold QeV at h
 rcases Qai h with ⟨h9,h⟩|⟨h9,h⟩
 ·obtain ⟨x2,h10,h⟩:=Qae h
  rcases Qai h with ⟨h11,h⟩|⟨h11,h⟩
  ·exact gn 16 [1,3,5,36,37,38] [0,1] [bT h9,cE Qar.enc h10,oO (zL 1),oO (lT 1 2),bT h11] (hI _ (oJ h))
  ·obtain ⟨r3,h12,h⟩:=Qae h
   obtain ⟨e1,h17,h⟩:=Qae h
   refine gn 18 [1,3,5,36,37,38,51,52,53] [0,1] [bT h9,cE Qar.enc h10,oO (zL 1),oO (lT 1 2),bF h11,oO (zL 0),oO (lT 0 2),cC (QhM h12),nL Qab.enc r3] (Qok Γ rv h17 ?_)
   rcases e1 with e1|e1
   ·replace h:(some (.inl (addK .i64 v2 1)):Option ((Int)⊕((Unit)⊕(Bool))))=some _:=h
    exact gn 3 [1,3,5,36,37,38] [0,1] [] (hI _ (oJ h))
   ·obtain ⟨r5,rfl⟩:∃ x,x=e1:=⟨_,rfl⟩
    replace h:(some (.inr (.inr r5)):Option ((Int)⊕((Unit)⊕(Bool))))=some _:=h
    exact (hE _ (oJ h):_=rv)
 ·exact gn 5 [] [] [bF h9] (hE _ (oJ h))
theorem Qmo {x0 l v} {rv:Bool} (h:QlW x0 l v=some rv):AFn Tryz.prog 123 [.agg (Qac.enc x0),.one (lL 2 l Qab.enc),.agg (Qab.enc v)] [] (one (.bool rv)) []:=by
 refine QaM Tryz.func123 (by kernel_rfl) (by kernel_rfl) (fun Γ=>?_)
 unfold QlW at h
 obtain ⟨r,h0,h⟩:=Qae h
 rcases Qai h with ⟨h1,h⟩|⟨h1,h⟩
 ·obtain rfl:=Option.some.inj h
  exact gr 8 [] [cC (QdL h0),bT h1]
 ·obtain ⟨r1,h2,h⟩:=Qae h
  obtain ⟨e0,h8,h⟩:=Qae h
  refine gn 12 [1,3,5,21,22,23] [0,1] [cC (QdL h0),bF h1,cC (QhM h2),nL Qab.enc r1] (Qoi Γ rv h8 ?_)
  rcases e0 with e0|e0
  ·replace h:(bnd (loopF (fun s=>QeV x0 l v s) 0) (fun e=>sel e (fun (_:Unit)=>some true) (fun r6=>some r6)):Option Bool)=some _:=h
   obtain ⟨e2,h18,h⟩:=Qae h
   refine gn 5 [1,3,5,36,37,38] [0,1] [nL Qar.enc x0.before] (Qoj Γ rv h18 ?_)
   rcases e2 with e2|e2
   ·replace h:(some true:Option Bool)=some _:=h
    obtain rfl:=Option.some.inj h
    exact gr 2 [] []
   ·obtain ⟨r6,rfl⟩:∃ x,x=e2:=⟨_,rfl⟩
    replace h:(some r6:Option Bool)=some _:=h
    exact Option.some.inj h
  ·obtain ⟨r7,rfl⟩:∃ x,x=e0:=⟨_,rfl⟩
   replace h:(some r7:Option Bool)=some _:=h
   exact Option.some.inj h
def QhQ (Γ:Gam) (rv:List Qab) (cf:Cf):Prop:=Go Tryz.prog Tryz.f96 [] Γ (one (lL 2 rv Qab.enc)) [] cf
def QlD (Γ:Gam) (rv:List Qab) (x0:Qac) (set_:Int) (l:List Qab) (v:Int) (r:List Qab) (l2:List Qab) (v1:Int):Prop:=QhQ Γ rv ⟨[.c 59804,.l 59804,.b 2,.b 1,.c 935,.l 116,.b 0,.c 15],⟨53,[vI 1 set_,vL 2 2 l Qab.enc,vP 3 0 6,vO 7 1 2 l2 Qab.enc,vL 13 16 x0.orders Qag.enc,vI 14 (lenI x0.orders),vI 15 v,vL 36 2 r Qab.enc,vI 37 (lenI r),vI 38 v1],[oX 6 30 (Qac.enc x0),oS 2 54 l2 Qab.enc]⟩⟩
def QkS (Γ:Gam) (rv:List Qab) (x0:Qac) (set_:Int) (l:List Qab) (v:Int) (r:List Qab) (l3:List Qab):Prop:=QhQ Γ rv ⟨[.b 1,.c 935,.l 116,.b 0,.c 15],⟨53,[vI 1 set_,vL 2 2 l Qab.enc,vP 3 0 6,vO 7 1 2 l3 Qab.enc,vL 13 16 x0.orders Qag.enc,vI 14 (lenI x0.orders),vI 15 v],[oX 6 30 (Qac.enc x0),oS 2 54 l3 Qab.enc]⟩⟩
def QlC (Γ:Gam) (rv:List Qab) (x0:Qac) (set_:Int) (l:List Qab) (l1:List Qab) (v:Int):Prop:=QhQ Γ rv ⟨[.c 116,.l 116,.b 0,.c 15],⟨53,[vI 1 set_,vL 2 2 l Qab.enc,vP 3 0 6,vO 7 1 2 l1 Qab.enc,vL 13 16 x0.orders Qag.enc,vI 14 (lenI x0.orders),vI 15 v],[oX 6 30 (Qac.enc x0),oS 2 54 l1 Qab.enc]⟩⟩
def QkR (Γ:Gam) (rv:List Qab) (x0:Qac) (set_:Int) (l:List Qab) (l4:List Qab):Prop:=QhQ Γ rv ⟨[.c 15],⟨53,[vO 7 0 2 l4 Qab.enc],[oS 2 54 l4 Qab.enc]⟩⟩
theorem QoV (Γ:Gam) (rv:List Qab) {x0 set_ l v r} {s:List Qab×Int} {e:List Qab} (h:loopF (fun s=>Qg5 x0 set_ l v r s.1 s.2) s=some e) (hD:QkS Γ rv x0 set_ l v r e):QlD Γ rv x0 set_ l v r s.1 s.2:=by
 refine Qaz (C:=fun (s:List Qab×Int)=>QlD Γ rv x0 set_ l v r s.1 s.2) (D:=fun (e:List Qab)=>QkS Γ rv x0 set_ l v r e) ?_ h hD
 clear h hD s e
 rintro ⟨l2,v1⟩ z_ h hI hE
 replace h:Qg5 x0 set_ l v r l2 v1=_:=h
 unfold Qg5 at h
 rcases Qai h with ⟨h6,h⟩|⟨h6,h⟩
 ·obtain ⟨x2,h7,h⟩:=Qae h
  obtain ⟨r1,h8,h⟩:=Qae h
  rcases Qai h with ⟨h9,h⟩|⟨h9,h⟩
  ·obtain ⟨h10,h⟩:=Qas h
   exact gn 16 [1,2,3,7,13,14,15,36,37,38] [0,4] [bT h6,cE Qab.enc h7,cC (Qmo h8),bT h9,oO (Eq.refl ([x2].map Qab.enc).length),aO Qab.enc h10] (hI _ (oJ h))
  ·exact gn 16 [1,2,3,7,13,14,15,36,37,38] [0,1] [bT h6,cE Qab.enc h7,cC (Qmo h8),bF h9] (hI _ (oJ h))
 ·exact gn 5 [1,2,3,7,13,14,15] [0,1] [bF h6] (hE _ (oJ h))
theorem QoU (Γ:Gam) (rv:List Qab) {x0 set_ l} {s:List Qab×Int} {e:List Qab} (h:loopF (fun s=>Qg4 x0 set_ l s.1 s.2) s=some e) (hD:QkR Γ rv x0 set_ l e):QlC Γ rv x0 set_ l s.1 s.2:=by
 refine Qaz (C:=fun (s:List Qab×Int)=>QlC Γ rv x0 set_ l s.1 s.2) (D:=fun (e:List Qab)=>QkR Γ rv x0 set_ l e) ?_ h hD
 clear h hD s e
 rintro ⟨l1,v⟩ z_ h hI hE
 replace h:Qg4 x0 set_ l l1 v=_:=h
 unfold Qg4 at h
 rcases Qai h with ⟨h0,h⟩|⟨h0,h⟩
 ·obtain ⟨x1,h1,h⟩:=Qae h
  rcases Qai h with ⟨h2,h⟩|⟨h2,h⟩
  ·exact gn 16 [1,2,3,7,13,14,15] [0,1] [bT h0,cE Qag.enc h1,rp 6 (bT h2),rp 4 tT] (hI _ (oJ h))
  ·obtain ⟨h3,h⟩:=Qas h
   rcases Qai h with ⟨h4,h⟩|⟨h4,h⟩
   ·exact gn 16 [1,2,3,7,13,14,15] [0,1] [bT h0,cE Qag.enc h1,rp 3 (bF h2),oO (h3),rp 3 (bF h2),hP,hP,hP,oI ((eqI (andK .i64 (shrK .i64 set_ v) 1) 0)=false),oR True ((eqI (andK .i64 (shrK .i64 set_ v) 1) 0)=false),bT h4] (hI _ (oJ h))
   ·obtain ⟨r,h5,h⟩:=Qae h
    obtain ⟨e0,h11,h⟩:=Qae h
    refine gn 18 [1,2,3,7,13,14,15,36,37,38] [0,1] [bT h0,cE Qag.enc h1,rp 3 (bF h2),oO (h3),rp 3 (bF h2),hP,hP,hP,oI ((eqI (andK .i64 (shrK .i64 set_ v) 1) 0)=false),oR True ((eqI (andK .i64 (shrK .i64 set_ v) 1) 0)=false),bF h4,cC (QhM h5),nL Qab.enc r] (QoV Γ rv h11 ?_)
    obtain ⟨l3,rfl⟩:∃ x,x=e0:=⟨_,rfl⟩
    replace h:(some (.inl (l3,(addK .i64 v 1))):Option ((List Qab×Int)⊕(List Qab)))=some _:=h
    exact gn 3 [1,2,3,7,13,14,15] [0,1] [] (hI _ (oJ h))
 ·exact gn 5 [7] [1] [bF h0] (hE _ (oJ h))
theorem QqG {x0 set_ l} {rv:List Qab} (h:Qna x0 set_ l=some rv):AFn Tryz.prog 96 [.agg (Qac.enc x0),.one (lI set_),.one (lL 2 l Qab.enc)] [] (one (lL 2 rv Qab.enc)) []:=by
 refine QaM Tryz.func96 (by kernel_rfl) (by kernel_rfl) (fun Γ=>?_)
 unfold Qna at h
 obtain ⟨e1,h12,h⟩:=Qae h
 refine gn 9 [1,2,3,7,13,14,15] [0,1] [nL Qag.enc x0.orders,hW 3,hH (.adopt 7 2 54)] (QoU Γ rv h12 ?_)
 obtain ⟨l4,rfl⟩:∃ x,x=e1:=⟨_,rfl⟩
 replace h:(some l4:Option (List Qab))=some _:=h
 obtain rfl:=Option.some.inj h
 exact gr 2 [] [hW 4,hH (.frz 0),rp 3 (eL l4 Qab.enc)]
theorem Qdl {s0} {rv:List Qab} (h:Qcn s0=some rv):AFn Tryz.prog 97 [.one (lL 2 s0 Qab.enc)] [] (one (.sl true 2 (rv.map Qab.enc))) []:=by
 refine QaM Tryz.func97 (by kernel_rfl) (by kernel_rfl) (fun Γ=>?_)
 unfold Qcn at h
 obtain ⟨l,h0,h⟩:=Qae h
 obtain rfl:=Option.some.inj h
 exact gr 4 [] [rp 2 (nL Qab.enc s0),hH (.rows (l.map Qab.enc)),oO (Eq.refl (lenI s0)),oO (sl1 h0),oO (sl2 h0),oO (sl3 Qab.enc h0),oO (Int.le_refl (lenI s0)),oO (sl3 Qab.enc h0),oO (sl6 Qab.enc h0)]
def Qm9 (Γ:Gam) (rv:Bool×Int×List (List Qab)×Qac×Int) (cf:Cf):Prop:=Go Tryz.prog Tryz.f95 [0,1,2,3,4] Γ (one (.bool rv.1)) [oX 1 3 [lI rv.2.1],oX 1 113 [lO 5 1 rv.2.2.1 es_T_api_Visit.enc],oX 6 30 [lL 1 rv.2.2.2.1.net.places e_str,lL 6 rv.2.2.2.1.net.arcs Qan.enc,lL 14 rv.2.2.2.1.types Qah.enc,lL 16 rv.2.2.2.1.orders Qag.enc,lL 2 rv.2.2.2.1.apart Qar.enc,lL 2 rv.2.2.2.1.before Qar.enc],oX 1 3 [lI rv.2.2.2.2],oX 1 154 [.fn (.func 95) [.op 0 1 0 0,.op 1 1 0 0,.op 2 6 0 0,.op 3 1 0 0,.op 4 1 0 0]],oS 1 32 rv.2.2.1 es_T_api_Visit.enc] cf
def QkQ (Γ:Gam) (rv:Bool×Int×List (List Qab)×Qac×Int) (self:(List Qab)→Int→(List (List Qab))→Qac→Int→Option (Bool×Int×List (List Qab)×Qac×Int)) (l:List Qab) (c:Int) (r:List Qab) (l1:List (List Qab)) (x0:Int) (x1:Qac) (x2:Int) (v:Int):Prop:=Qm9 Γ rv ⟨[.c 116,.l 116,.b 0,.c 15],⟨39,[vL 0 2 l Qab.enc,vP 5 4 1,vL 24 2 r Qab.enc,vI 25 (lenI r),vI 26 v],[oX 1 3 [lI x0],oX 1 113 [lO 5 1 l1 es_T_api_Visit.enc],oX 6 30 (Qac.enc x1),oX 1 3 [lI x2],oX 1 154 [.fn (.func 95) [.op 0 1 0 0,.op 1 1 0 0,.op 2 6 0 0,.op 3 1 0 0,.op 4 1 0 0]],oS 1 32 l1 es_T_api_Visit.enc]⟩⟩
def Qj6 (Γ:Gam) (rv:Bool×Int×List (List Qab)×Qac×Int) (self:(List Qab)→Int→(List (List Qab))→Qac→Int→Option (Bool×Int×List (List Qab)×Qac×Int)) (l:List Qab) (c:Int) (r:List Qab) (l2:List (List Qab)) (x4:Int) (x5:Qac) (x6:Int):Prop:=Qm9 Γ rv ⟨[.c 15],⟨39,[],[oX 1 3 [lI x4],oX 1 113 [lO 5 1 l2 es_T_api_Visit.enc],oX 6 30 (Qac.enc x5),oX 1 3 [lI x6],oX 1 154 [.fn (.func 95) [.op 0 1 0 0,.op 1 1 0 0,.op 2 6 0 0,.op 3 1 0 0,.op 4 1 0 0]],oS 1 32 l2 es_T_api_Visit.enc]⟩⟩
theorem Qoh (Γ:Gam) (rv:Bool×Int×List (List Qab)×Qac×Int) {self:(List Qab)→Int→(List (List Qab))→Qac→Int→Option (Bool×Int×List (List Qab)×Qac×Int)} (hself:∀ {l:List Qab} {c:Int} {c1:List (List Qab)} {c2:Qac} {c3:Int} {rv:Bool×Int×List (List Qab)×Qac×Int},self l c c1 c2 c3=some rv→AFn Tryz.prog 95 [.one (lL 2 l Qab.enc),.one (.op 0 1 0 0),.one (.op 1 1 0 0),.one (.op 2 6 0 0),.one (.op 3 1 0 0),.one (.op 4 1 0 0)] [bX 1 3 [lI c],bX 1 113 [lO 5 1 c1 es_T_api_Visit.enc],bX 6 30 (Qac.enc c2),bX 1 3 [lI c3],bX 1 154 [.fn (.func 95) [.op 0 1 0 0,.op 1 1 0 0,.op 2 6 0 0,.op 3 1 0 0,.op 4 1 0 0]],bS 1 32 c1 es_T_api_Visit.enc] (one (.bool rv.1)) [oX 1 3 [lI rv.2.1],oX 1 113 [lO 5 1 rv.2.2.1 es_T_api_Visit.enc],oX 6 30 [lL 1 rv.2.2.2.1.net.places e_str,lL 6 rv.2.2.2.1.net.arcs Qan.enc,lL 14 rv.2.2.2.1.types Qah.enc,lL 16 rv.2.2.2.1.orders Qag.enc,lL 2 rv.2.2.2.1.apart Qar.enc,lL 2 rv.2.2.2.1.before Qar.enc],oX 1 3 [lI rv.2.2.2.2],oX 1 154 [.fn (.func 95) [.op 0 1 0 0,.op 1 1 0 0,.op 2 6 0 0,.op 3 1 0 0,.op 4 1 0 0]],oS 1 32 rv.2.2.1 es_T_api_Visit.enc]) {l c r} {s:List (List Qab)×Int×Qac×Int×Int} {e:(List (List Qab)×Int×Qac×Int)⊕(Bool×Int×List (List Qab)×Qac×Int)} (h:loopF (fun s=>Qgd self l c r s.1 s.2.1 s.2.2.1 s.2.2.2.1 s.2.2.2.2) s=some e) (hD:sel e (fun e=>Qj6 Γ rv self l c r e.1 e.2.1 e.2.2.1 e.2.2.2) (fun e=>e=rv)):QkQ Γ rv self l c r s.1 s.2.1 s.2.2.1 s.2.2.2.1 s.2.2.2.2:=by
 refine Qaz (C:=fun (s:List (List Qab)×Int×Qac×Int×Int)=>QkQ Γ rv self l c r s.1 s.2.1 s.2.2.1 s.2.2.2.1 s.2.2.2.2) (D:=fun (e:(List (List Qab)×Int×Qac×Int)⊕(Bool×Int×List (List Qab)×Qac×Int))=>sel e (fun e=>Qj6 Γ rv self l c r e.1 e.2.1 e.2.2.1 e.2.2.2) (fun e=>e=rv)) ?_ h hD
 clear h hD s e
 rintro ⟨l1,x0,x1,x2,v⟩ z_ h hI hE
 replace h:Qgd self l c r l1 x0 x1 x2 v=_:=h
 unfold Qgd at h
 rcases Qai h with ⟨h3,h⟩|⟨h3,h⟩
 ·obtain ⟨x3,h4,h⟩:=Qae h
  obtain ⟨r1,h5,h⟩:=Qae h
  obtain ⟨h6,h⟩:=Qas h
  obtain ⟨r2,h7,h⟩:=Qae h
  rcases Qai h with ⟨h8,h⟩|⟨h8,h⟩
  ·exact gn 16 [0,5,24,25,26] [0,1,2,3,4,9] [bT h3,cE Qab.enc h4,hH (.draw 6 []),cC (Qdl h5),oO (Eq.refl ([x3].map Qab.enc).length),hH (.rows ((r1++[x3]).map Qab.enc)),hH (.frz 8),oO (appM Qab.enc r1 [x3]),oO (neA Qab.enc r1 [x3] (by simp)),oO (okLe (l:=((r1++[x3]):List Qab)) Qab.enc h6),oO (okLe2 (l:=((r1++[x3]):List Qab)) (b:=16) Qab.enc (by decide) h6),oO (Eq.refl ((r1++[x3]).map Qab.enc).length),cI [0,1,2,3,4,5] (hself h7),nF h8] (hI _ (oJ h))
  ·obtain rfl:=(hE _ (oJ h):_=rv)
   exact gr 14 [0,1,2,3,4,9] [bT h3,cE Qab.enc h4,hH (.draw 6 []),cC (Qdl h5),oO (Eq.refl ([x3].map Qab.enc).length),hH (.rows ((r1++[x3]).map Qab.enc)),hH (.frz 8),oO (appM Qab.enc r1 [x3]),oO (neA Qab.enc r1 [x3] (by simp)),oO (okLe (l:=((r1++[x3]):List Qab)) Qab.enc h6),oO (okLe2 (l:=((r1++[x3]):List Qab)) (b:=16) Qab.enc (by decide) h6),oO (Eq.refl ((r1++[x3]).map Qab.enc).length),cI [0,1,2,3,4,5] (hself h7),nT h8]
 ·exact gn 5 [] [0,1,2,3,4,5] [bF h3] (hE _ (oJ h))
theorem QoS {self:(List Qab)→Int→(List (List Qab))→Qac→Int→Option (Bool×Int×List (List Qab)×Qac×Int)} (hself:∀ {l:List Qab} {c:Int} {c1:List (List Qab)} {c2:Qac} {c3:Int} {rv:Bool×Int×List (List Qab)×Qac×Int},self l c c1 c2 c3=some rv→AFn Tryz.prog 95 [.one (lL 2 l Qab.enc),.one (.op 0 1 0 0),.one (.op 1 1 0 0),.one (.op 2 6 0 0),.one (.op 3 1 0 0),.one (.op 4 1 0 0)] [bX 1 3 [lI c],bX 1 113 [lO 5 1 c1 es_T_api_Visit.enc],bX 6 30 (Qac.enc c2),bX 1 3 [lI c3],bX 1 154 [.fn (.func 95) [.op 0 1 0 0,.op 1 1 0 0,.op 2 6 0 0,.op 3 1 0 0,.op 4 1 0 0]],bS 1 32 c1 es_T_api_Visit.enc] (one (.bool rv.1)) [oX 1 3 [lI rv.2.1],oX 1 113 [lO 5 1 rv.2.2.1 es_T_api_Visit.enc],oX 6 30 [lL 1 rv.2.2.2.1.net.places e_str,lL 6 rv.2.2.2.1.net.arcs Qan.enc,lL 14 rv.2.2.2.1.types Qah.enc,lL 16 rv.2.2.2.1.orders Qag.enc,lL 2 rv.2.2.2.1.apart Qar.enc,lL 2 rv.2.2.2.1.before Qar.enc],oX 1 3 [lI rv.2.2.2.2],oX 1 154 [.fn (.func 95) [.op 0 1 0 0,.op 1 1 0 0,.op 2 6 0 0,.op 3 1 0 0,.op 4 1 0 0]],oS 1 32 rv.2.2.1 es_T_api_Visit.enc]) {l c c1 c2 c3} {rv:Bool×Int×List (List Qab)×Qac×Int} (h:Qj5 self l c c1 c2 c3=some rv):AFn Tryz.prog 95 [.one (lL 2 l Qab.enc),.one (.op 0 1 0 0),.one (.op 1 1 0 0),.one (.op 2 6 0 0),.one (.op 3 1 0 0),.one (.op 4 1 0 0)] [bX 1 3 [lI c],bX 1 113 [lO 5 1 c1 es_T_api_Visit.enc],bX 6 30 (Qac.enc c2),bX 1 3 [lI c3],bX 1 154 [.fn (.func 95) [.op 0 1 0 0,.op 1 1 0 0,.op 2 6 0 0,.op 3 1 0 0,.op 4 1 0 0]],bS 1 32 c1 es_T_api_Visit.enc] (one (.bool rv.1)) [oX 1 3 [lI rv.2.1],oX 1 113 [lO 5 1 rv.2.2.1 es_T_api_Visit.enc],oX 6 30 [lL 1 rv.2.2.2.1.net.places e_str,lL 6 rv.2.2.2.1.net.arcs Qan.enc,lL 14 rv.2.2.2.1.types Qah.enc,lL 16 rv.2.2.2.1.orders Qag.enc,lL 2 rv.2.2.2.1.apart Qar.enc,lL 2 rv.2.2.2.1.before Qar.enc],oX 1 3 [lI rv.2.2.2.2],oX 1 154 [.fn (.func 95) [.op 0 1 0 0,.op 1 1 0 0,.op 2 6 0 0,.op 3 1 0 0,.op 4 1 0 0]],oS 1 32 rv.2.2.1 es_T_api_Visit.enc]:=by
 refine QaM Tryz.func95 (by kernel_rfl) (by kernel_rfl) (fun Γ=>?_)
 unfold Qj5 at h
 rcases Qai h with ⟨h0,h⟩|⟨h0,h⟩
 ·obtain ⟨h1,h⟩:=Qas h
  obtain rfl:=Option.some.inj h
  exact gr 10 [0,1,2,3,4,7] [nL Qab.enc l,bT h0,oO (Eq.refl ([l].map es_T_api_Visit.enc).length),aO es_T_api_Visit.enc h1,nL es_T_api_Visit.enc (c1++[l])]
 ·obtain ⟨r,h2,h⟩:=Qae h
  obtain ⟨e0,h9,h⟩:=Qae h
  refine gn 12 [0,5,24,25,26] [0,1,2,3,4,5] [nL Qab.enc l,bF h0,cC (QqG h2),nL Qab.enc r] (Qoh Γ rv hself h9 ?_)
  rcases e0 with e0|e0
  ·obtain ⟨l2,x4,x5,x6⟩:=e0
   replace h:(some (true,x4,l2,x5,x6):Option (Bool×Int×List (List Qab)×Qac×Int))=some _:=h
   obtain rfl:=Option.some.inj h
   exact gr 2 [0,1,2,3,4,5] []
  ·obtain ⟨r3,rfl⟩:∃ x,x=e0:=⟨_,rfl⟩
   replace h:(some r3:Option (Bool×Int×List (List Qab)×Qac×Int))=some _:=h
   exact Option.some.inj h
theorem QlA:∀ fuel_,∀ {l:List Qab} {c:Int} {c1:List (List Qab)} {c2:Qac} {c3:Int} {rv:Bool×Int×List (List Qab)×Qac×Int},Qj7 fuel_ l c c1 c2 c3=some rv→AFn Tryz.prog 95 [.one (lL 2 l Qab.enc),.one (.op 0 1 0 0),.one (.op 1 1 0 0),.one (.op 2 6 0 0),.one (.op 3 1 0 0),.one (.op 4 1 0 0)] [bX 1 3 [lI c],bX 1 113 [lO 5 1 c1 es_T_api_Visit.enc],bX 6 30 (Qac.enc c2),bX 1 3 [lI c3],bX 1 154 [.fn (.func 95) [.op 0 1 0 0,.op 1 1 0 0,.op 2 6 0 0,.op 3 1 0 0,.op 4 1 0 0]],bS 1 32 c1 es_T_api_Visit.enc] (one (.bool rv.1)) [oX 1 3 [lI rv.2.1],oX 1 113 [lO 5 1 rv.2.2.1 es_T_api_Visit.enc],oX 6 30 [lL 1 rv.2.2.2.1.net.places e_str,lL 6 rv.2.2.2.1.net.arcs Qan.enc,lL 14 rv.2.2.2.1.types Qah.enc,lL 16 rv.2.2.2.1.orders Qag.enc,lL 2 rv.2.2.2.1.apart Qar.enc,lL 2 rv.2.2.2.1.before Qar.enc],oX 1 3 [lI rv.2.2.2.2],oX 1 154 [.fn (.func 95) [.op 0 1 0 0,.op 1 1 0 0,.op 2 6 0 0,.op 3 1 0 0,.op 4 1 0 0]],oS 1 32 rv.2.2.1 es_T_api_Visit.enc]
 | 0=>fun h=>nomatch h
 | fuel_+1=>fun h=>QoS (QlA fuel_) h
theorem Qmm:∀ {l:List Qab} {c:Int} {c1:List (List Qab)} {c2:Qac} {c3:Int} {rv:Bool×Int×List (List Qab)×Qac×Int},QlU l c c1 c2 c3=some rv→AFn Tryz.prog 95 [.one (lL 2 l Qab.enc),.one (.op 0 1 0 0),.one (.op 1 1 0 0),.one (.op 2 6 0 0),.one (.op 3 1 0 0),.one (.op 4 1 0 0)] [bX 1 3 [lI c],bX 1 113 [lO 5 1 c1 es_T_api_Visit.enc],bX 6 30 (Qac.enc c2),bX 1 3 [lI c3],bX 1 154 [.fn (.func 95) [.op 0 1 0 0,.op 1 1 0 0,.op 2 6 0 0,.op 3 1 0 0,.op 4 1 0 0]],bS 1 32 c1 es_T_api_Visit.enc] (one (.bool rv.1)) [oX 1 3 [lI rv.2.1],oX 1 113 [lO 5 1 rv.2.2.1 es_T_api_Visit.enc],oX 6 30 [lL 1 rv.2.2.2.1.net.places e_str,lL 6 rv.2.2.2.1.net.arcs Qan.enc,lL 14 rv.2.2.2.1.types Qah.enc,lL 16 rv.2.2.2.1.orders Qag.enc,lL 2 rv.2.2.2.1.apart Qar.enc,lL 2 rv.2.2.2.1.before Qar.enc],oX 1 3 [lI rv.2.2.2.2],oX 1 154 [.fn (.func 95) [.op 0 1 0 0,.op 1 1 0 0,.op 2 6 0 0,.op 3 1 0 0,.op 4 1 0 0]],oS 1 32 rv.2.2.1 es_T_api_Visit.enc]:=QlA _
def QoT (Γ:Gam) (rv:List (List Qab)×Int) (cf:Cf):Prop:=Go Tryz.prog Tryz.f55 [] Γ (.tup [.one (lL 1 rv.1 es_T_api_Visit.enc),.one (lI rv.2)]) [] cf
def Qmn (Γ:Gam) (rv:List (List Qab)×Int) (x0:Qac) (set_:Int) (x1:Int) (v:Int):Prop:=QoT Γ rv ⟨[.c 500,.l 500,.b 0,.c 63],⟨51,[vP 2 0 6,vP 3 1 1,vP 6 2 1,vI 29 (lenI x0.orders),vI 30 v],[oX 6 30 (Qac.enc x0),oX 1 3 [lI set_],oX 1 3 [lI x1]]⟩⟩
def QlB (Γ:Gam) (rv:List (List Qab)×Int) (x0:Qac) (set_:Int) (x2:Int):Prop:=QoT Γ rv ⟨[.c 63],⟨51,[vP 2 0 6,vP 3 1 1,vP 6 2 1],[oX 6 30 (Qac.enc x0),oX 1 3 [lI set_],oX 1 3 [lI x2]]⟩⟩
theorem Qpk (Γ:Gam) (rv:List (List Qab)×Int) {x0 set_} {s:Int×Int} {e:Int} (h:loopF (fun s=>QhP x0 set_ s.1 s.2) s=some e) (hD:QlB Γ rv x0 set_ e):Qmn Γ rv x0 set_ s.1 s.2:=by
 refine Qaz (C:=fun (s:Int×Int)=>Qmn Γ rv x0 set_ s.1 s.2) (D:=fun (e:Int)=>QlB Γ rv x0 set_ e) ?_ h hD
 clear h hD s e
 rintro ⟨x1,v⟩ z_ h hI hE
 replace h:QhP x0 set_ x1 v=_:=h
 unfold QhP at h
 rcases Qai h with ⟨h6,h⟩|⟨h6,h⟩
 ·obtain ⟨h7,h⟩:=Qas h
  rcases Qai h with ⟨h8,h⟩|⟨h8,h⟩
  ·obtain ⟨r1,h9,h⟩:=Qae h
   exact gn 16 [2,3,6,29,30] [0,1,2] [bT h6,oO (h7),bT h8,hH (.draw 7 []),cC (QhM h9),nL Qab.enc r1] (hI _ (oJ h))
  ·exact gn 16 [2,3,6,29,30] [0,1,2] [bT h6,oO (h7),bF h8] (hI _ (oJ h))
 ·exact gn 5 [2,3,6] [0,1,2] [bF h6] (hE _ (oJ h))
theorem QnV {x0 set_} {rv:List (List Qab)×Int} (h:Qog x0 set_=some rv):AFn Tryz.prog 55 [.agg (Qac.enc x0),.one (lI set_)] [] (.tup [.one (lL 1 rv.1 es_T_api_Visit.enc),.one (lI rv.2)]) []:=by
 refine QaM Tryz.func55 (by kernel_rfl) (by kernel_rfl) (fun Γ=>?_)
 unfold Qog at h
 rcases Qai h with ⟨h0,h⟩|⟨h0,h⟩
 ·obtain rfl:=Option.some.inj h
  exact gr 8 [] [rp 7 (bT h0),tT,hW 4,hH (.nilS 4 0 1)]
 ·obtain ⟨h1,h⟩:=Qas h
  rcases Qai h with ⟨h2,h⟩|⟨h2,h⟩
  ·obtain rfl:=Option.some.inj h
   exact gr 8 [] [rp 4 (bF h0),nL Qag.enc x0.orders,bF h0,oO (h1),bF h0,bF h0,bT h2,hW 4,hH (.nilS 4 0 1)]
  ·rcases Qai h with ⟨h3,h⟩|⟨h3,h⟩
   ·obtain rfl:=Option.some.inj h
    exact gr 13 [] [rp 4 (bF h0),nL Qag.enc x0.orders,bF h0,oO (h1),bF h0,bF h0,bF h2,rp 4 (bT h3),tT,hW 4,hH (.nilS 4 0 1)]
   ·obtain ⟨r,h4,h⟩:=Qae h
    rcases Qai h with ⟨h5,h⟩|⟨h5,h⟩
    ·obtain rfl:=Option.some.inj h
     exact gr 13 [] [rp 4 (bF h0),nL Qag.enc x0.orders,bF h0,oO (h1),bF h0,bF h0,bF h2,rp 3 (bF h3),cC (Qjf h4),bF h3,bT h5,hW 4,hH (.nilS 4 0 1)]
    ·obtain ⟨e0,h10,h⟩:=Qae h
     refine gn 19 [2,3,6,29,30] [0,1,2] [rp 4 (bF h0),nL Qag.enc x0.orders,bF h0,oO (h1),bF h0,bF h0,bF h2,rp 3 (bF h3),cC (Qjf h4),bF h3,bF h5,nL Qag.enc x0.orders] (Qpk Γ rv h10 ?_)
     obtain ⟨x2,rfl⟩:∃ x,x=e0:=⟨_,rfl⟩
     replace h:(bnd (QlU [] x2 [] x0 set_) fun r2=>br r2.1 (some (r2.2.2.1,0)) (some ([],4)):Option (List (List Qab)×Int))=some _:=h
     obtain ⟨r2,h11,h⟩:=Qae h
     rcases Qai h with ⟨h12,h⟩|⟨h12,h⟩
     ·obtain rfl:=Option.some.inj h
      exact gr 13 [] [hW 14,hH (.adoptB 3 0 1 32),cI [2,3,0,1,4,5] (AFn.nilA 0 2 (Qmm h11)),nF h12,hW 6,hH (.frz 6),rp 3 (oO (Eq.refl (r2.2.2.1.map es_T_api_Visit.enc).length))]
     ·obtain rfl:=Option.some.inj h
      exact gr 12 [] [hW 14,hH (.adoptB 3 0 1 32),cI [2,3,0,1,4,5] (AFn.nilA 0 2 (Qmm h11)),nT h12,hW 4,hH (.nilS 4 0 1)]
theorem Qa3 {q} {y:Qac} {rv:Int×Qao} (h:Qbh q=some rv):AFn Tryz.prog 58 [.one (.op 0 8 0 0)] [bX 8 120 [lO 1 9 q.items Qad.enc,lI q.first_,lL 1 y.net.places e_str,lL 6 y.net.arcs Qan.enc,lL 14 y.types Qah.enc,lL 16 y.orders Qag.enc,lL 2 y.apart Qar.enc,lL 2 y.before Qar.enc],bS 9 47 q.items Qad.enc] (one (lI rv.1)) [oX 8 120 [lO 1 9 rv.2.items Qad.enc,lI rv.2.first_,lL 1 y.net.places e_str,lL 6 y.net.arcs Qan.enc,lL 14 y.types Qah.enc,lL 16 y.orders Qag.enc,lL 2 y.apart Qar.enc,lL 2 y.before Qar.enc],oS 9 47 rv.2.items Qad.enc]:=by
 refine QaM Tryz.func58 (by kernel_rfl) (by kernel_rfl) (fun Γ=>?_)
 unfold Qbh at h
 obtain rfl:=Option.some.inj h
 exact gr 4 [0,1] [hH (.draw 11 []),nL Qad.enc q.items]
theorem QbQ {q} {y:Qac} {rv:Qad×Qao} (h:Qbp q=some rv):AFn Tryz.prog 59 [.one (.op 0 8 0 0)] [bX 8 120 [lO 1 9 q.items Qad.enc,lI q.first_,lL 1 y.net.places e_str,lL 6 y.net.arcs Qan.enc,lL 14 y.types Qah.enc,lL 16 y.orders Qag.enc,lL 2 y.apart Qar.enc,lL 2 y.before Qar.enc],bS 9 47 q.items Qad.enc] (gG [lI rv.1.type_,lL 2 rv.1.visits Qab.enc,lI rv.1.place,lI rv.1.time,lI rv.1.driven,lI rv.1.miles,lL 1 rv.1.load e_i64,lI rv.1.done,lI rv.1.open_]) [oX 8 120 [lO 1 9 rv.2.items Qad.enc,lI rv.2.first_,lL 1 y.net.places e_str,lL 6 y.net.arcs Qan.enc,lL 14 y.types Qah.enc,lL 16 y.orders Qag.enc,lL 2 y.apart Qar.enc,lL 2 y.before Qar.enc],oS 9 47 rv.2.items Qad.enc]:=by
 refine QaM Tryz.func59 (by kernel_rfl) (by kernel_rfl) (fun Γ=>?_)
 unfold Qbp at h
 obtain ⟨x0,h0,h⟩:=Qae h
 obtain rfl:=Option.some.inj h
 exact gr 8 [0,1] [hH (.draw 11 []),oO (getLo h0),oO (getHi Qad.enc h0),rE Qad.enc h0]
theorem QcM {q l} {y:Qac} {rv:Qao} (h:Qbg q l=some rv):AFn Tryz.prog 56 [.one (.op 0 8 0 0),.one (lL 9 l Qad.enc)] [bX 8 120 [lO 1 9 q.items Qad.enc,lI q.first_,lL 1 y.net.places e_str,lL 6 y.net.arcs Qan.enc,lL 14 y.types Qah.enc,lL 16 y.orders Qag.enc,lL 2 y.apart Qar.enc,lL 2 y.before Qar.enc],bS 9 47 q.items Qad.enc] (.tup []) [oX 8 120 [lO 1 9 rv.items Qad.enc,lI rv.first_,lL 1 y.net.places e_str,lL 6 y.net.arcs Qan.enc,lL 14 y.types Qah.enc,lL 16 y.orders Qag.enc,lL 2 y.apart Qar.enc,lL 2 y.before Qar.enc],oS 9 47 rv.items Qad.enc]:=by
 refine QaM Tryz.func56 (by kernel_rfl) (by kernel_rfl) (fun Γ=>?_)
 unfold Qbg at h
 obtain ⟨h0,h⟩:=Qas h
 obtain rfl:=Option.some.inj h
 exact gr 1 [0,2] [aO Qad.enc h0]
def Qju (Γ:Gam) (rv:QbD) (cf:Cf):Prop:=Go Tryz.prog Tryz.f57 [0] Γ (.tup []) [oX 8 120 [lO 1 9 rv.queue.items Qad.enc,lI rv.queue.first_,lL 1 rv.x.net.places e_str,lL 6 rv.x.net.arcs Qan.enc,lL 14 rv.x.types Qah.enc,lL 16 rv.x.orders Qag.enc,lL 2 rv.x.apart Qar.enc,lL 2 rv.x.before Qar.enc],oS 9 47 rv.queue.items Qad.enc] cf
def Qhc (Γ:Gam) (rv:QbD) (l:QbD) (v:Qab) (r:Int×Qao) (l1:List Qad) (first_:Int) (v1:Int):Prop:=Qju Γ rv ⟨[.c 28,.l 28,.b 0],⟨25,[vP 0 0 8,vP 3 1 2,vI 7 r.1,vI 8 v1],[oX 8 120 [lO 2 9 l1 Qad.enc,lI first_,lL 1 l.x.net.places e_str,lL 6 l.x.net.arcs Qan.enc,lL 14 l.x.types Qah.enc,lL 16 l.x.orders Qag.enc,lL 2 l.x.apart Qar.enc,lL 2 l.x.before Qar.enc],oX 2 54 (Qab.enc v),oS 9 47 l1 Qad.enc]⟩⟩
def QgG (Γ:Gam) (rv:QbD) (l:QbD) (v:Qab) (r:Int×Qao) (l2:List Qad) (first_1:Int):Prop:=Qju Γ rv ⟨[],⟨25,[],[oX 8 120 [lO 1 9 l2 Qad.enc,lI first_1,lL 1 l.x.net.places e_str,lL 6 l.x.net.arcs Qan.enc,lL 14 l.x.types Qah.enc,lL 16 l.x.orders Qag.enc,lL 2 l.x.apart Qar.enc,lL 2 l.x.before Qar.enc],oS 9 47 l2 Qad.enc]⟩⟩
theorem QlL (Γ:Gam) (rv:QbD) {l v r} {s:List Qad×Int×Int} {e:List Qad×Int} (h:loopF (fun s=>Qd9 l v r s.1 s.2.1 s.2.2) s=some e) (hD:QgG Γ rv l v r e.1 e.2):Qhc Γ rv l v r s.1 s.2.1 s.2.2:=by
 refine Qaz (C:=fun (s:List Qad×Int×Int)=>Qhc Γ rv l v r s.1 s.2.1 s.2.2) (D:=fun (e:List Qad×Int)=>QgG Γ rv l v r e.1 e.2) ?_ h hD
 clear h hD s e
 rintro ⟨l1,first_,v1⟩ z_ h hI hE
 replace h:Qd9 l v r l1 first_ v1=_:=h
 unfold Qd9 at h
 rcases Qai h with ⟨h1,h⟩|⟨h1,h⟩
 ·obtain ⟨r1,h2,h⟩:=Qae h
  obtain ⟨r2,h3,h⟩:=Qae h
  obtain ⟨r3,h4,h⟩:=Qae h
  exact gn 11 [0,3,7,8] [0,1,4] [bT h1,hH (.draw 13 [(0,10),(2,10)]),cI [0,2] (QbQ (y:=l.x) h2),cC (Qcd h3),oO (Eq.refl (true,8,([[lL 1 l.x.net.places e_str,lL 6 l.x.net.arcs Qan.enc,lL 14 l.x.types Qah.enc,lL 16 l.x.orders Qag.enc,lL 2 l.x.apart Qar.enc,lL 2 l.x.before Qar.enc]]:List (List Lf)))),cI [0,3] (QcM (y:=l.x) h4)] (hI _ (oJ h))
 ·exact gn 5 [] [0,2] [bF h1] (hE _ (oJ h))
theorem Qnr {l v} {rv:QbD} (h:Qhz l v=some rv):AFn Tryz.prog 57 [.one (.op 0 8 0 0),.agg (Qab.enc v)] [bX 8 120 [lO 1 9 l.queue.items Qad.enc,lI l.queue.first_,lL 1 l.x.net.places e_str,lL 6 l.x.net.arcs Qan.enc,lL 14 l.x.types Qah.enc,lL 16 l.x.orders Qag.enc,lL 2 l.x.apart Qar.enc,lL 2 l.x.before Qar.enc],bS 9 47 l.queue.items Qad.enc] (.tup []) [oX 8 120 [lO 1 9 rv.queue.items Qad.enc,lI rv.queue.first_,lL 1 rv.x.net.places e_str,lL 6 rv.x.net.arcs Qan.enc,lL 14 rv.x.types Qah.enc,lL 16 rv.x.orders Qag.enc,lL 2 rv.x.apart Qar.enc,lL 2 rv.x.before Qar.enc],oS 9 47 rv.queue.items Qad.enc]:=by
 refine QaM Tryz.func57 (by kernel_rfl) (by kernel_rfl) (fun Γ=>?_)
 unfold Qhz at h
 obtain ⟨r,h0,h⟩:=Qae h
 obtain ⟨e0,h5,h⟩:=Qae h
 refine gn 6 [0,3,7,8] [0,2,3] [cI [0,1] (Qa3 (y:=l.x) h0)] (QlL Γ rv h5 ?_)
 obtain ⟨l2,first_1⟩:=e0
 replace h:(some (QbD.mk (Qao.mk l2 first_1) l.x):Option QbD)=some _:=h
 obtain rfl:=Option.some.inj h
 exact gr 0 [0,1] []
theorem Qdn {a b} {rv:Bool} (h:Qd0 a b=some rv):AFn Tryz.prog 14 [.agg (Qad.enc a),.agg (Qad.enc b)] [] (one (.bool rv)) []:=by
 refine QaM Tryz.func14 (by kernel_rfl) (by kernel_rfl) (fun Γ=>?_)
 unfold Qd0 at h
 rcases Qai h with ⟨h0,h⟩|⟨h0,h⟩
 ·obtain rfl:=Option.some.inj h
  exact gr 8 [] [rp 18 hP,rp 4 (oI ((neI a.type_ b.type_)=false)),oR True ((neI a.type_ b.type_)=false),rp 4 (oI (((neI a.type_ b.type_)||(neI a.place b.place))=false)),oR True (((neI a.type_ b.type_)||(neI a.place b.place))=false),rp 4 (oI ((((neI a.type_ b.type_)||(neI a.place b.place))||(neI a.done b.done))=false)),oR True ((((neI a.type_ b.type_)||(neI a.place b.place))||(neI a.done b.done))=false),bT h0]
 ·rcases Qai h with ⟨h1,h⟩|⟨h1,h⟩
  ·obtain ⟨r,h2,h⟩:=Qae h
   obtain rfl:=Option.some.inj h
   exact gr 9 [] [rp 18 hP,rp 4 (oI ((neI a.type_ b.type_)=false)),oR True ((neI a.type_ b.type_)=false),rp 4 (oI (((neI a.type_ b.type_)||(neI a.place b.place))=false)),oR True (((neI a.type_ b.type_)||(neI a.place b.place))=false),rp 4 (oI ((((neI a.type_ b.type_)||(neI a.place b.place))||(neI a.done b.done))=false)),oR True ((((neI a.type_ b.type_)||(neI a.place b.place))||(neI a.done b.done))=false),bF h0,rp 12 hP,rp 4 (oI ((leI a.time b.time)=true)),oR True ((leI a.time b.time)=true),rp 4 (oI (((leI a.time b.time)&&(leI a.driven b.driven))=true)),oR True (((leI a.time b.time)&&(leI a.driven b.driven))=true),rp 5 (bT h1),cC (Qfe h2),bT h1]
  ·obtain rfl:=Option.some.inj h
   exact gr 9 [] [rp 18 hP,rp 4 (oI ((neI a.type_ b.type_)=false)),oR True ((neI a.type_ b.type_)=false),rp 4 (oI (((neI a.type_ b.type_)||(neI a.place b.place))=false)),oR True (((neI a.type_ b.type_)||(neI a.place b.place))=false),rp 4 (oI ((((neI a.type_ b.type_)||(neI a.place b.place))||(neI a.done b.done))=false)),oR True ((((neI a.type_ b.type_)||(neI a.place b.place))||(neI a.done b.done))=false),bF h0,rp 12 hP,rp 4 (oI ((leI a.time b.time)=true)),oR True ((leI a.time b.time)=true),rp 4 (oI (((leI a.time b.time)&&(leI a.driven b.driven))=true)),oR True (((leI a.time b.time)&&(leI a.driven b.driven))=true),rp 6 (bF h1)]
def QlJ (Γ:Gam) (rv:List Qad) (cf:Cf):Prop:=Go Tryz.prog Tryz.f60 [] Γ (one (lL 9 rv Qad.enc)) [] cf
def QnO (Γ:Gam) (rv:List Qad) (l:List Qad) (next_:Qad) (v:Int):Prop:=QlJ Γ rv ⟨[.c 52,.l 52,.b 0,.c 7],⟨40,[vL 0 9 l Qad.enc,vP 3 0 9,vL 10 9 l Qad.enc,vI 11 (lenI l),vI 12 v],[oX 9 47 (Qad.enc next_)]⟩⟩
def QmC (Γ:Gam) (rv:List Qad) (l:List Qad) (next_:Qad):Prop:=QlJ Γ rv ⟨[.c 7],⟨40,[vL 0 9 l Qad.enc,vP 3 0 9],[oX 9 47 (Qad.enc next_)]⟩⟩
def QnP (Γ:Gam) (rv:List Qad) (l:List Qad) (next_:Qad) (l1:List Qad) (v1:Int):Prop:=QlJ Γ rv ⟨[.c 244,.l 244,.b 2,.c 31],⟨40,[vP 3 0 9,vO 7 1 9 l1 Qad.enc,vL 21 9 l Qad.enc,vI 22 (lenI l),vI 23 v1],[oX 9 47 (Qad.enc next_),oS 9 47 l1 Qad.enc]⟩⟩
def QmD (Γ:Gam) (rv:List Qad) (l:List Qad) (next_:Qad) (l2:List Qad):Prop:=QlJ Γ rv ⟨[.c 31],⟨40,[vP 3 0 9,vO 7 1 9 l2 Qad.enc],[oX 9 47 (Qad.enc next_),oS 9 47 l2 Qad.enc]⟩⟩
theorem Qqn (Γ:Gam) (rv:List Qad) {l next_} {s:Int} {e:(Unit)⊕(List Qad)} (h:loopF (fun s=>Qkn l next_ s) s=some e) (hD:sel e (fun e=>QmC Γ rv l next_) (fun e=>e=rv)):QnO Γ rv l next_ s:=by
 refine Qaz (C:=fun (s:Int)=>QnO Γ rv l next_ s) (D:=fun (e:(Unit)⊕(List Qad))=>sel e (fun e=>QmC Γ rv l next_) (fun e=>e=rv)) ?_ h hD
 clear h hD s e
 intro v z_ h hI hE
 replace h:Qkn l next_ v=_:=h
 unfold Qkn at h
 rcases Qai h with ⟨h0,h⟩|⟨h0,h⟩
 ·obtain ⟨x0,h1,h⟩:=Qae h
  obtain ⟨r,h2,h⟩:=Qae h
  rcases Qai h with ⟨h3,h⟩|⟨h3,h⟩
  ·obtain rfl:=(hE _ (oJ h):_=rv)
   exact gr 14 [] [bT h0,cE Qad.enc h1,cC (Qdn h2),bT h3]
  ·exact gn 16 [0,3,10,11,12] [0] [bT h0,cE Qad.enc h1,cC (Qdn h2),bF h3] (hI _ (oJ h))
 ·exact gn 5 [0,3] [0] [bF h0] (hE _ (oJ h))
theorem Qqo (Γ:Gam) (rv:List Qad) {l next_} {s:List Qad×Int} {e:List Qad} (h:loopF (fun s=>QhS l next_ s.1 s.2) s=some e) (hD:QmD Γ rv l next_ e):QnP Γ rv l next_ s.1 s.2:=by
 refine Qaz (C:=fun (s:List Qad×Int)=>QnP Γ rv l next_ s.1 s.2) (D:=fun (e:List Qad)=>QmD Γ rv l next_ e) ?_ h hD
 clear h hD s e
 rintro ⟨l1,v1⟩ z_ h hI hE
 replace h:QhS l next_ l1 v1=_:=h
 unfold QhS at h
 rcases Qai h with ⟨h5,h⟩|⟨h5,h⟩
 ·obtain ⟨x1,h6,h⟩:=Qae h
  obtain ⟨r1,h7,h⟩:=Qae h
  rcases Qai h with ⟨h8,h⟩|⟨h8,h⟩
  ·exact gn 16 [3,7,21,22,23] [0,1] [bT h5,cE Qad.enc h6,cC (Qdn h7),nF h8] (hI _ (oJ h))
  ·obtain ⟨h9,h⟩:=Qas h
   exact gn 16 [3,7,21,22,23] [0,4] [bT h5,cE Qad.enc h6,cC (Qdn h7),nT h8,oO (Eq.refl ([x1].map Qad.enc).length),aO Qad.enc h9] (hI _ (oJ h))
 ·exact gn 5 [3,7] [0,1] [bF h5] (hE _ (oJ h))
theorem Qr7 {l next_} {rv:List Qad} (h:Qqm l next_=some rv):AFn Tryz.prog 60 [.one (lL 9 l Qad.enc),.agg (Qad.enc next_)] [] (one (lL 9 rv Qad.enc)) []:=by
 refine QaM Tryz.func60 (by kernel_rfl) (by kernel_rfl) (fun Γ=>?_)
 unfold Qqm at h
 obtain ⟨e0,h4,h⟩:=Qae h
 refine gn 7 [0,3,10,11,12] [0] [nL Qad.enc l] (Qqn Γ rv h4 ?_)
 rcases e0 with e0|e0
 ·replace h:(bnd (loopF (fun s=>QhS l next_ s.1 s.2) ([],0)) (fun l2=>chk (okN (l2++[next_]).length 104) (some (l2++[next_]))):Option (List Qad))=some _:=h
  obtain ⟨e1,h10,h⟩:=Qae h
  refine gn 7 [3,7,21,22,23] [0,1] [nL Qad.enc l,hW 3,hH (.adopt 7 9 47)] (Qqo Γ rv h10 ?_)
  obtain ⟨l2,rfl⟩:∃ x,x=e1:=⟨_,rfl⟩
  replace h:(chk (okN (l2++[next_]).length 104) (some (l2++[next_])):Option (List Qad))=some _:=h
  obtain ⟨h11,h⟩:=Qas h
  obtain rfl:=Option.some.inj h
  exact gr 2 [] [oO (Eq.refl ([next_].map Qad.enc).length),aO Qad.enc h11,hW 1,hH (.frz 3),rp 2 (oO (Eq.refl ((l2++[next_]).map Qad.enc).length))]
 ·obtain ⟨r2,rfl⟩:∃ x,x=e0:=⟨_,rfl⟩
  replace h:(some r2:Option (List Qad))=some _:=h
  exact Option.some.inj h
def Qhx (Γ:Gam) (rv:List Qad×Int) (cf:Cf):Prop:=Go Tryz.prog Tryz.f20 [] Γ (.tup [.one (lL 9 rv.1 Qad.enc),.one (lI rv.2)]) [] cf
def QnM (Γ:Gam) (rv:List Qad×Int) (r:List (List Qab)×Int) (r1:List Qad) (out:List Qad) (v:Int) (x2:List Qab) (l:List Qad) (x3:Qac) (first_:Int) (x4:Qac) (v1:Int):Prop:=Qhx Γ rv ⟨[.c 4171380,.l 4171380,.b 2,.c 521423,.b 1,.c 16295,.l 2036,.b 0,.c 255],⟨89,[vP 3 0 6,vL 10 9 r1 Qad.enc,vL 11 9 out Qad.enc,vP 14 1 8,vL 43 1 r.1 es_T_api_Visit.enc,vI 44 (lenI r.1),vI 45 v,vL 57 2 x2 Qab.enc,vI 58 (lenI x2),vI 59 v1],[oX 6 30 (Qac.enc x3),oX 8 120 [lO 2 9 l Qad.enc,lI first_,lL 1 x4.net.places e_str,lL 6 x4.net.arcs Qan.enc,lL 14 x4.types Qah.enc,lL 16 x4.orders Qag.enc,lL 2 x4.apart Qar.enc,lL 2 x4.before Qar.enc],oS 9 47 l Qad.enc]⟩⟩
def Qmz (Γ:Gam) (rv:List Qad×Int) (r:List (List Qab)×Int) (r1:List Qad) (out:List Qad) (v:Int) (x2:List Qab) (l1:List Qad) (x6:Qac) (first_1:Int) (x7:Qac):Prop:=Qhx Γ rv ⟨[.c 521423,.b 1,.c 16295,.l 2036,.b 0,.c 255],⟨89,[vP 3 0 6,vL 10 9 r1 Qad.enc,vL 11 9 out Qad.enc,vP 14 1 8,vL 43 1 r.1 es_T_api_Visit.enc,vI 44 (lenI r.1),vI 45 v],[oX 6 30 (Qac.enc x6),oX 8 120 [lO 2 9 l1 Qad.enc,lI first_1,lL 1 x7.net.places e_str,lL 6 x7.net.arcs Qan.enc,lL 14 x7.types Qah.enc,lL 16 x7.orders Qag.enc,lL 2 x7.apart Qar.enc,lL 2 x7.before Qar.enc],oS 9 47 l1 Qad.enc]⟩⟩
def QnN (Γ:Gam) (rv:List Qad×Int) (r:List (List Qab)×Int) (r1:List Qad) (v:Int) (l2:List Qad) (x8:Qac) (first_2:Int) (x9:Qac) (out1:List Qad):Prop:=Qhx Γ rv ⟨[.c 2085692,.l 2085692,.b 4,.b 1,.c 16295,.l 2036,.b 0,.c 255],⟨89,[vP 3 0 6,vL 10 9 r1 Qad.enc,vL 11 9 out1 Qad.enc,vP 14 1 8,vL 43 1 r.1 es_T_api_Visit.enc,vI 44 (lenI r.1),vI 45 v],[oX 6 30 (Qac.enc x8),oX 8 120 [lO 2 9 l2 Qad.enc,lI first_2,lL 1 x9.net.places e_str,lL 6 x9.net.arcs Qan.enc,lL 14 x9.types Qah.enc,lL 16 x9.orders Qag.enc,lL 2 x9.apart Qar.enc,lL 2 x9.before Qar.enc],oS 9 47 l2 Qad.enc]⟩⟩
def QmA (Γ:Gam) (rv:List Qad×Int) (r:List (List Qab)×Int) (r1:List Qad) (v:Int) (x10:Qac) (out2:List Qad):Prop:=Qhx Γ rv ⟨[.b 1,.c 16295,.l 2036,.b 0,.c 255],⟨89,[vP 3 0 6,vL 10 9 r1 Qad.enc,vL 11 9 out2 Qad.enc,vL 43 1 r.1 es_T_api_Visit.enc,vI 44 (lenI r.1),vI 45 v],[oX 6 30 (Qac.enc x10)]⟩⟩
def QnL (Γ:Gam) (rv:List Qad×Int) (r:List (List Qab)×Int) (r1:List Qad) (x1:Qac) (out:List Qad) (v:Int):Prop:=Qhx Γ rv ⟨[.c 2036,.l 2036,.b 0,.c 255],⟨89,[vP 3 0 6,vL 10 9 r1 Qad.enc,vL 11 9 out Qad.enc,vL 43 1 r.1 es_T_api_Visit.enc,vI 44 (lenI r.1),vI 45 v],[oX 6 30 (Qac.enc x1)]⟩⟩
def Qmy (Γ:Gam) (rv:List Qad×Int) (r:List (List Qab)×Int) (r1:List Qad) (out3:List Qad):Prop:=Qhx Γ rv ⟨[.c 255],⟨89,[vL 11 9 out3 Qad.enc],[]⟩⟩
theorem Qqk (Γ:Gam) (rv:List Qad×Int) {r r1 out v x2} {s:List Qad×Qac×Int×Qac×Int} {e:List Qad×Qac×Int×Qac} (h:loopF (fun s=>Qkm r r1 out v x2 s.1 s.2.1 s.2.2.1 s.2.2.2.1 s.2.2.2.2) s=some e) (hD:Qmz Γ rv r r1 out v x2 e.1 e.2.1 e.2.2.1 e.2.2.2):QnM Γ rv r r1 out v x2 s.1 s.2.1 s.2.2.1 s.2.2.2.1 s.2.2.2.2:=by
 refine Qaz (C:=fun (s:List Qad×Qac×Int×Qac×Int)=>QnM Γ rv r r1 out v x2 s.1 s.2.1 s.2.2.1 s.2.2.2.1 s.2.2.2.2) (D:=fun (e:List Qad×Qac×Int×Qac)=>Qmz Γ rv r r1 out v x2 e.1 e.2.1 e.2.2.1 e.2.2.2) ?_ h hD
 clear h hD s e
 rintro ⟨l,x3,first_,x4,v1⟩ z_ h hI hE
 replace h:Qkm r r1 out v x2 l x3 first_ x4 v1=_:=h
 unfold Qkm at h
 rcases Qai h with ⟨h7,h⟩|⟨h7,h⟩
 ·obtain ⟨x5,h8,h⟩:=Qae h
  obtain ⟨r3,h9,h⟩:=Qae h
  exact gn 13 [3,10,11,14,43,44,45,57,58,59] [0,1,4] [bT h7,cE Qab.enc h8,cI [1,2] (Qnr h9)] (hI _ (oJ h))
 ·exact gn 5 [3,10,11,14,43,44,45] [0,1,2] [bF h7] (hE _ (oJ h))
theorem Qql (Γ:Gam) (rv:List Qad×Int) {r r1 v} {s:List Qad×Qac×Int×Qac×List Qad} {e:Qac×List Qad} (h:loopF (fun s=>QhR r r1 v s.1 s.2.1 s.2.2.1 s.2.2.2.1 s.2.2.2.2) s=some e) (hD:QmA Γ rv r r1 v e.1 e.2):QnN Γ rv r r1 v s.1 s.2.1 s.2.2.1 s.2.2.2.1 s.2.2.2.2:=by
 refine Qaz (C:=fun (s:List Qad×Qac×Int×Qac×List Qad)=>QnN Γ rv r r1 v s.1 s.2.1 s.2.2.1 s.2.2.2.1 s.2.2.2.2) (D:=fun (e:Qac×List Qad)=>QmA Γ rv r r1 v e.1 e.2) ?_ h hD
 clear h hD s e
 rintro ⟨l2,x8,first_2,x9,out1⟩ z_ h hI hE
 replace h:QhR r r1 v l2 x8 first_2 x9 out1=_:=h
 unfold QhR at h
 obtain ⟨r4,h11,h⟩:=Qae h
 rcases Qai h with ⟨h12,h⟩|⟨h12,h⟩
 ·obtain ⟨r5,h13,h⟩:=Qae h
  obtain ⟨r6,h14,h⟩:=Qae h
  rcases Qai h with ⟨h15,h⟩|⟨h15,h⟩
  ·obtain ⟨r7,h16,h⟩:=Qae h
   exact gn 16 [3,10,11,14,43,44,45] [0,1,4] [cI [1,2] (Qa3 (y:=x9) h11),bT h12,cI [1,3] (QbQ (y:=x9) h13),cC (QdM h14),bT h15,cC (Qr7 h16)] (hI _ (oJ h))
  ·exact gn 16 [3,10,11,14,43,44,45] [0,1,4] [cI [1,2] (Qa3 (y:=x9) h11),bT h12,cI [1,3] (QbQ (y:=x9) h13),cC (QdM h14),bF h15] (hI _ (oJ h))
 ·exact gn 5 [3,10,11,43,44,45] [0] [cI [1,2] (Qa3 (y:=x9) h11),bF h12] (hE _ (oJ h))
theorem Qqj (Γ:Gam) (rv:List Qad×Int) {r r1} {s:Qac×List Qad×Int} {e:List Qad} (h:loopF (fun s=>Qkl r r1 s.1 s.2.1 s.2.2) s=some e) (hD:Qmy Γ rv r r1 e):QnL Γ rv r r1 s.1 s.2.1 s.2.2:=by
 refine Qaz (C:=fun (s:Qac×List Qad×Int)=>QnL Γ rv r r1 s.1 s.2.1 s.2.2) (D:=fun (e:List Qad)=>Qmy Γ rv r r1 e) ?_ h hD
 clear h hD s e
 rintro ⟨x1,out,v⟩ z_ h hI hE
 replace h:Qkl r r1 x1 out v=_:=h
 unfold Qkl at h
 rcases Qai h with ⟨h4,h⟩|⟨h4,h⟩
 ·obtain ⟨x2,h5,h⟩:=Qae h
  obtain ⟨r2,h6,h⟩:=Qae h
  obtain ⟨e0,h10,h⟩:=Qae h
  refine gn 18 [3,10,11,14,43,44,45,57,58,59] [0,1,3] [bT h4,cE es_T_api_Visit.enc h5,hW 14,hH (.adoptB 1 0 9 47),cI [1,2] (QcM (y:=x1) h6),nL Qab.enc x2] (Qqk Γ rv h10 ?_)
  obtain ⟨l1,x6,first_1,x7⟩:=e0
  replace h:(bnd (loopF (fun s=>QhR r r1 v s.1 s.2.1 s.2.2.1 s.2.2.2.1 s.2.2.2.2) (l1,x6,first_1,x7,out)) (fun e0=>(fun x10 out2=>some (.inl (x10,out2,(addK .i64 v 1)))) e0.1 e0.2):Option ((Qac×List Qad×Int)⊕(List Qad)))=some _:=h
  obtain ⟨e1,h17,h⟩:=Qae h
  refine gn 2 [3,10,11,14,43,44,45] [0,1,2] [] (Qql Γ rv h17 ?_)
  obtain ⟨x10,out2⟩:=e1
  replace h:(some (.inl (x10,out2,(addK .i64 v 1))):Option ((Qac×List Qad×Int)⊕(List Qad)))=some _:=h
  exact gn 3 [3,10,11,43,44,45] [0] [] (hI _ (oJ h))
 ·exact gn 5 [11] [] [bF h4] (hE _ (oJ h))
theorem Qr6 {x0 kind set_} {rv:List Qad×Int} (h:Qqi x0 kind set_=some rv):AFn Tryz.prog 20 [.agg (Qac.enc x0),.one (lI kind),.one (lI set_)] [] (.tup [.one (lL 9 rv.1 Qad.enc),.one (lI rv.2)]) []:=by
 refine QaM Tryz.func20 (by kernel_rfl) (by kernel_rfl) (fun Γ=>?_)
 unfold Qqi at h
 rcases Qai h with ⟨h0,h⟩|⟨h0,h⟩
 ·obtain rfl:=Option.some.inj h
  exact gr 8 [] [rp 4 hP,rp 2 (oI ((ltI kind 0)=false)),nL Qah.enc x0.types,hP,hP,rp 2 (oI ((ltI kind 0)=false)),oR True ((ltI kind 0)=false),bT h0,hW 4,hH (.nilS 6 0 9)]
 ·obtain ⟨r,h1,h⟩:=Qae h
  rcases Qai h with ⟨h2,h⟩|⟨h2,h⟩
  ·obtain rfl:=Option.some.inj h
   exact gr 15 [] [rp 4 hP,rp 2 (oI ((ltI kind 0)=false)),nL Qah.enc x0.types,hP,hP,rp 2 (oI ((ltI kind 0)=false)),oR True ((ltI kind 0)=false),bF h0,cC (QnV h1),bT h2,hW 5,hH (.nilS 6 0 9)]
  ·obtain ⟨r1,h3,h⟩:=Qae h
   obtain ⟨e2,h18,h⟩:=Qae h
   refine gn 23 [3,10,11,43,44,45] [0] [rp 4 hP,rp 2 (oI ((ltI kind 0)=false)),nL Qah.enc x0.types,hP,hP,rp 2 (oI ((ltI kind 0)=false)),oR True ((ltI kind 0)=false),bF h0,cC (QnV h1),bF h2,cC (Qci h3),nL es_T_api_Visit.enc r.1,hW 3,hH (.nilS 11 0 9)] (Qqj Γ rv h18 ?_)
   obtain ⟨out3,rfl⟩:∃ x,x=e2:=⟨_,rfl⟩
   replace h:(some (out3,0):Option (List Qad×Int))=some _:=h
   obtain rfl:=Option.some.inj h
   exact gr 2 [] []
theorem QcR {rv:Bool} (h:QbE=some rv):AFn Tryz.prog 8 [] [] (one (.bool rv)) []:=by
 refine QaM Tryz.func8 (by kernel_rfl) (by kernel_rfl) (fun Γ=>?_)
 unfold QbE at h
 obtain ⟨r,h0,h⟩:=Qae h
 rcases Qai h with ⟨h1,h⟩|⟨h1,h⟩
 ·obtain rfl:=Option.some.inj h
  exact gr 18 [] [hW 15,hH (.frz 0),hH (.nilS 14 5 2),hH (.nilS 16 5 2),hW 9,hH (.frz 4),hW 9,hH (.frz 6),hW 6,hH (.frz 1),hH (.frz 2),hH (.frz 5),hH (.frz 7),hH (.nilS 30 4 2),hH (.nilS 30 5 2),rp 6 (oO (Eq.refl ([(Qaj.mk 0 10)].map Qaj.enc).length)),rp 2 (oO (Eq.refl ([5].map e_i64).length)),rp 2 (oO (Eq.refl ([3].map e_i64).length)),rp 5 (oO (Eq.refl ([QiI,QiJ].map e_str).length)),rp 5 (oO (Eq.refl ([(Qan.mk 0 1 0 4 [(Qaj.mk 0 10)] []),(Qan.mk 1 0 0 4 [(Qaj.mk 0 10)] [])].map Qan.enc).length)),rp 3 (oO (Eq.refl ([(Qah.mk QiL 1 0 0 [5] 0 0 0 90 50 5 0 0 0)].map Qah.enc).length)),rp 3 (oO (Eq.refl ([(Qag.mk QiK [3] (Qap.mk (-1) 0 0 0) (Qap.mk 1 0 80 0) 0 0 1 (-1) (-1) false)].map Qag.enc).length)),cC (Qci h0),nL Qad.enc r,rp 6 (bT h1),tT]
 ·obtain ⟨x0,h2,h⟩:=Qae h
  rcases Qai h with ⟨h3,h⟩|⟨h3,h⟩
  ·obtain rfl:=Option.some.inj h
   exact gr 18 [] [hW 15,hH (.frz 0),hH (.nilS 14 5 2),hH (.nilS 16 5 2),hW 9,hH (.frz 4),hW 9,hH (.frz 6),hW 6,hH (.frz 1),hH (.frz 2),hH (.frz 5),hH (.frz 7),hH (.nilS 30 4 2),hH (.nilS 30 5 2),rp 6 (oO (Eq.refl ([(Qaj.mk 0 10)].map Qaj.enc).length)),rp 2 (oO (Eq.refl ([5].map e_i64).length)),rp 2 (oO (Eq.refl ([3].map e_i64).length)),rp 5 (oO (Eq.refl ([QiI,QiJ].map e_str).length)),rp 5 (oO (Eq.refl ([(Qan.mk 0 1 0 4 [(Qaj.mk 0 10)] []),(Qan.mk 1 0 0 4 [(Qaj.mk 0 10)] [])].map Qan.enc).length)),rp 3 (oO (Eq.refl ([(Qah.mk QiL 1 0 0 [5] 0 0 0 90 50 5 0 0 0)].map Qah.enc).length)),rp 3 (oO (Eq.refl ([(Qag.mk QiK [3] (Qap.mk (-1) 0 0 0) (Qap.mk 1 0 80 0) 0 0 1 (-1) (-1) false)].map Qag.enc).length)),cC (Qci h0),nL Qad.enc r,bF h1,bF h1,cE Qad.enc h2,rp 4 (bF h1),bT h3]
  ·obtain ⟨x1,h4,h⟩:=Qae h
   obtain ⟨r1,h5,h⟩:=Qae h
   rcases Qai h with ⟨h6,h⟩|⟨h6,h⟩
   ·obtain rfl:=Option.some.inj h
    exact gr 25 [] [hW 15,hH (.frz 0),hH (.nilS 14 5 2),hH (.nilS 16 5 2),hW 9,hH (.frz 4),hW 9,hH (.frz 6),hW 6,hH (.frz 1),hH (.frz 2),hH (.frz 5),hH (.frz 7),hH (.nilS 30 4 2),hH (.nilS 30 5 2),rp 6 (oO (Eq.refl ([(Qaj.mk 0 10)].map Qaj.enc).length)),rp 2 (oO (Eq.refl ([5].map e_i64).length)),rp 2 (oO (Eq.refl ([3].map e_i64).length)),rp 5 (oO (Eq.refl ([QiI,QiJ].map e_str).length)),rp 5 (oO (Eq.refl ([(Qan.mk 0 1 0 4 [(Qaj.mk 0 10)] []),(Qan.mk 1 0 0 4 [(Qaj.mk 0 10)] [])].map Qan.enc).length)),rp 3 (oO (Eq.refl ([(Qah.mk QiL 1 0 0 [5] 0 0 0 90 50 5 0 0 0)].map Qah.enc).length)),rp 3 (oO (Eq.refl ([(Qag.mk QiK [3] (Qap.mk (-1) 0 0 0) (Qap.mk 1 0 80 0) 0 0 1 (-1) (-1) false)].map Qag.enc).length)),cC (Qci h0),nL Qad.enc r,bF h1,bF h1,cE Qad.enc h2,rp 4 (bF h1),bF h3,hW 2,hH (.nilB 3 4 2),hH (.nilB 3 5 2),hH (.draw 7 []),cE Qad.enc h4,cC (Qcd h5),nL Qad.enc r1,rp 6 (bT h6),rp 19 tT]
   ·obtain ⟨x2,h7,h⟩:=Qae h
    rcases Qai h with ⟨h8,h⟩|⟨h8,h⟩
    ·obtain rfl:=Option.some.inj h
     exact gr 25 [] [hW 15,hH (.frz 0),hH (.nilS 14 5 2),hH (.nilS 16 5 2),hW 9,hH (.frz 4),hW 9,hH (.frz 6),hW 6,hH (.frz 1),hH (.frz 2),hH (.frz 5),hH (.frz 7),hH (.nilS 30 4 2),hH (.nilS 30 5 2),rp 6 (oO (Eq.refl ([(Qaj.mk 0 10)].map Qaj.enc).length)),rp 2 (oO (Eq.refl ([5].map e_i64).length)),rp 2 (oO (Eq.refl ([3].map e_i64).length)),rp 5 (oO (Eq.refl ([QiI,QiJ].map e_str).length)),rp 5 (oO (Eq.refl ([(Qan.mk 0 1 0 4 [(Qaj.mk 0 10)] []),(Qan.mk 1 0 0 4 [(Qaj.mk 0 10)] [])].map Qan.enc).length)),rp 3 (oO (Eq.refl ([(Qah.mk QiL 1 0 0 [5] 0 0 0 90 50 5 0 0 0)].map Qah.enc).length)),rp 3 (oO (Eq.refl ([(Qag.mk QiK [3] (Qap.mk (-1) 0 0 0) (Qap.mk 1 0 80 0) 0 0 1 (-1) (-1) false)].map Qag.enc).length)),cC (Qci h0),nL Qad.enc r,bF h1,bF h1,cE Qad.enc h2,rp 4 (bF h1),bF h3,hW 2,hH (.nilB 3 4 2),hH (.nilB 3 5 2),hH (.draw 7 []),cE Qad.enc h4,cC (Qcd h5),nL Qad.enc r1,bF h6,bF h6,cE Qad.enc h7,rp 4 (bF h6),rp 6 (bT h8),rp 13 tT]
    ·rcases Qai h with ⟨h9,h⟩|⟨h9,h⟩
     ·obtain rfl:=Option.some.inj h
      exact gr 25 [] [hW 15,hH (.frz 0),hH (.nilS 14 5 2),hH (.nilS 16 5 2),hW 9,hH (.frz 4),hW 9,hH (.frz 6),hW 6,hH (.frz 1),hH (.frz 2),hH (.frz 5),hH (.frz 7),hH (.nilS 30 4 2),hH (.nilS 30 5 2),rp 6 (oO (Eq.refl ([(Qaj.mk 0 10)].map Qaj.enc).length)),rp 2 (oO (Eq.refl ([5].map e_i64).length)),rp 2 (oO (Eq.refl ([3].map e_i64).length)),rp 5 (oO (Eq.refl ([QiI,QiJ].map e_str).length)),rp 5 (oO (Eq.refl ([(Qan.mk 0 1 0 4 [(Qaj.mk 0 10)] []),(Qan.mk 1 0 0 4 [(Qaj.mk 0 10)] [])].map Qan.enc).length)),rp 3 (oO (Eq.refl ([(Qah.mk QiL 1 0 0 [5] 0 0 0 90 50 5 0 0 0)].map Qah.enc).length)),rp 3 (oO (Eq.refl ([(Qag.mk QiK [3] (Qap.mk (-1) 0 0 0) (Qap.mk 1 0 80 0) 0 0 1 (-1) (-1) false)].map Qag.enc).length)),cC (Qci h0),nL Qad.enc r,bF h1,bF h1,cE Qad.enc h2,rp 4 (bF h1),bF h3,hW 2,hH (.nilB 3 4 2),hH (.nilB 3 5 2),hH (.draw 7 []),cE Qad.enc h4,cC (Qcd h5),nL Qad.enc r1,bF h6,bF h6,cE Qad.enc h7,rp 4 (bF h6),bF h8,bF h8,cE Qad.enc h7,rp 4 (bF h8),rp 6 (bT h9),rp 7 tT]
     ·rcases Qai h with ⟨h10,h⟩|⟨h10,h⟩
      ·obtain rfl:=Option.some.inj h
       exact gr 25 [] [hW 15,hH (.frz 0),hH (.nilS 14 5 2),hH (.nilS 16 5 2),hW 9,hH (.frz 4),hW 9,hH (.frz 6),hW 6,hH (.frz 1),hH (.frz 2),hH (.frz 5),hH (.frz 7),hH (.nilS 30 4 2),hH (.nilS 30 5 2),rp 6 (oO (Eq.refl ([(Qaj.mk 0 10)].map Qaj.enc).length)),rp 2 (oO (Eq.refl ([5].map e_i64).length)),rp 2 (oO (Eq.refl ([3].map e_i64).length)),rp 5 (oO (Eq.refl ([QiI,QiJ].map e_str).length)),rp 5 (oO (Eq.refl ([(Qan.mk 0 1 0 4 [(Qaj.mk 0 10)] []),(Qan.mk 1 0 0 4 [(Qaj.mk 0 10)] [])].map Qan.enc).length)),rp 3 (oO (Eq.refl ([(Qah.mk QiL 1 0 0 [5] 0 0 0 90 50 5 0 0 0)].map Qah.enc).length)),rp 3 (oO (Eq.refl ([(Qag.mk QiK [3] (Qap.mk (-1) 0 0 0) (Qap.mk 1 0 80 0) 0 0 1 (-1) (-1) false)].map Qag.enc).length)),cC (Qci h0),nL Qad.enc r,bF h1,bF h1,cE Qad.enc h2,rp 4 (bF h1),bF h3,hW 2,hH (.nilB 3 4 2),hH (.nilB 3 5 2),hH (.draw 7 []),cE Qad.enc h4,cC (Qcd h5),nL Qad.enc r1,bF h6,bF h6,cE Qad.enc h7,rp 4 (bF h6),bF h8,bF h8,cE Qad.enc h7,rp 4 (bF h8),bF h9,bF h9,cE Qad.enc h7,rp 4 (bF h9),rp 6 (bT h10),tT]
      ·obtain ⟨x3,h11,h⟩:=Qae h
       rcases Qai h with ⟨h12,h⟩|⟨h12,h⟩
       ·obtain rfl:=Option.some.inj h
        exact gr 25 [] [hW 15,hH (.frz 0),hH (.nilS 14 5 2),hH (.nilS 16 5 2),hW 9,hH (.frz 4),hW 9,hH (.frz 6),hW 6,hH (.frz 1),hH (.frz 2),hH (.frz 5),hH (.frz 7),hH (.nilS 30 4 2),hH (.nilS 30 5 2),rp 6 (oO (Eq.refl ([(Qaj.mk 0 10)].map Qaj.enc).length)),rp 2 (oO (Eq.refl ([5].map e_i64).length)),rp 2 (oO (Eq.refl ([3].map e_i64).length)),rp 5 (oO (Eq.refl ([QiI,QiJ].map e_str).length)),rp 5 (oO (Eq.refl ([(Qan.mk 0 1 0 4 [(Qaj.mk 0 10)] []),(Qan.mk 1 0 0 4 [(Qaj.mk 0 10)] [])].map Qan.enc).length)),rp 3 (oO (Eq.refl ([(Qah.mk QiL 1 0 0 [5] 0 0 0 90 50 5 0 0 0)].map Qah.enc).length)),rp 3 (oO (Eq.refl ([(Qag.mk QiK [3] (Qap.mk (-1) 0 0 0) (Qap.mk 1 0 80 0) 0 0 1 (-1) (-1) false)].map Qag.enc).length)),cC (Qci h0),nL Qad.enc r,bF h1,bF h1,cE Qad.enc h2,rp 4 (bF h1),bF h3,hW 2,hH (.nilB 3 4 2),hH (.nilB 3 5 2),hH (.draw 7 []),cE Qad.enc h4,cC (Qcd h5),nL Qad.enc r1,bF h6,bF h6,cE Qad.enc h7,rp 4 (bF h6),bF h8,bF h8,cE Qad.enc h7,rp 4 (bF h8),bF h9,bF h9,cE Qad.enc h7,rp 4 (bF h9),rp 2 (bF h10),cE Qad.enc h11,rp 4 (bF h10),bT h12]
       ·obtain ⟨r2,h13,h⟩:=Qae h
        obtain ⟨r3,h14,h⟩:=Qae h
        obtain rfl:=Option.some.inj h
        exact gr 30 [] [hW 15,hH (.frz 0),hH (.nilS 14 5 2),hH (.nilS 16 5 2),hW 9,hH (.frz 4),hW 9,hH (.frz 6),hW 6,hH (.frz 1),hH (.frz 2),hH (.frz 5),hH (.frz 7),hH (.nilS 30 4 2),hH (.nilS 30 5 2),rp 6 (oO (Eq.refl ([(Qaj.mk 0 10)].map Qaj.enc).length)),rp 2 (oO (Eq.refl ([5].map e_i64).length)),rp 2 (oO (Eq.refl ([3].map e_i64).length)),rp 5 (oO (Eq.refl ([QiI,QiJ].map e_str).length)),rp 5 (oO (Eq.refl ([(Qan.mk 0 1 0 4 [(Qaj.mk 0 10)] []),(Qan.mk 1 0 0 4 [(Qaj.mk 0 10)] [])].map Qan.enc).length)),rp 3 (oO (Eq.refl ([(Qah.mk QiL 1 0 0 [5] 0 0 0 90 50 5 0 0 0)].map Qah.enc).length)),rp 3 (oO (Eq.refl ([(Qag.mk QiK [3] (Qap.mk (-1) 0 0 0) (Qap.mk 1 0 80 0) 0 0 1 (-1) (-1) false)].map Qag.enc).length)),cC (Qci h0),nL Qad.enc r,bF h1,bF h1,cE Qad.enc h2,rp 4 (bF h1),bF h3,hW 2,hH (.nilB 3 4 2),hH (.nilB 3 5 2),hH (.draw 7 []),cE Qad.enc h4,cC (Qcd h5),nL Qad.enc r1,bF h6,bF h6,cE Qad.enc h7,rp 4 (bF h6),bF h8,bF h8,cE Qad.enc h7,rp 4 (bF h8),bF h9,bF h9,cE Qad.enc h7,rp 4 (bF h9),rp 2 (bF h10),cE Qad.enc h11,rp 4 (bF h10),bF h12,hH (.draw 12 []),cE Qad.enc h7,cC (QdM h13),cC (Qr6 h14),rp 8 hP,oI (r2.2.2=true),oR True (r2.2.2=true),oI ((r2.2.2&&(eqI r2.1 20))=true),oR True ((r2.2.2&&(eqI r2.1 20))=true),oI (((r2.2.2&&(eqI r2.1 20))&&(eqI r3.2 0))=true),nL Qad.enc r3.1,hP,hP,oI (((r2.2.2&&(eqI r2.1 20))&&(eqI r3.2 0))=true),oR True (((r2.2.2&&(eqI r2.1 20))&&(eqI r3.2 0))=true)]
def QmL (Γ:Gam) (rv:Int) (cf:Cf):Prop:=Go Tryz.prog Tryz.f33 [] Γ (one (lI rv)) [] cf
def Qkp (Γ:Gam) (rv:Int) (i:Int) (n:Int) (k:Int):Prop:=QmL Γ rv ⟨[.c 116,.l 116,.b 0,.c 15],⟨13,[vI 0 i,vI 3 n,vI 4 k],[]⟩⟩
def QjD (Γ:Gam) (rv:Int) (i:Int) (n1:Int):Prop:=QmL Γ rv ⟨[.c 15],⟨13,[vI 3 n1],[]⟩⟩
theorem Qn1 (Γ:Gam) (rv:Int) {i} {s:Int×Int} {e:Int} (h:loopF (fun s=>QbI i s.1 s.2) s=some e) (hD:QjD Γ rv i e):Qkp Γ rv i s.1 s.2:=by
 refine Qaz (C:=fun (s:Int×Int)=>Qkp Γ rv i s.1 s.2) (D:=fun (e:Int)=>QjD Γ rv i e) ?_ h hD
 clear h hD s e
 rintro ⟨n,k⟩ z_ h hI hE
 replace h:QbI i n k=_:=h
 unfold QbI at h
 rcases Qai h with ⟨h0,h⟩|⟨h0,h⟩
 ·exact gn 11 [0,3,4] [] [bT h0] (hI _ (oJ h))
 ·exact gn 5 [3] [] [bF h0] (hE _ (oJ h))
theorem Qc9 {i} {rv:Int} (h:Qdc i=some rv):AFn Tryz.prog 33 [.one (lI i)] [] (one (lI rv)) []:=by
 refine QaM Tryz.func33 (by kernel_rfl) (by kernel_rfl) (fun Γ=>?_)
 unfold Qdc at h
 obtain ⟨e0,h1,h⟩:=Qae h
 refine gn 9 [0,3,4] [] [] (Qn1 Γ rv h1 ?_)
 obtain ⟨n1,rfl⟩:∃ x,x=e0:=⟨_,rfl⟩
 replace h:(some n1:Option Int)=some _:=h
 obtain rfl:=Option.some.inj h
 exact gr 2 [] []
theorem Qaq {set_ i} {rv:Bool} (h:QaL set_ i=some rv):AFn Tryz.prog 75 [.one (lI set_),.one (lI i)] [] (one (.bool rv)) []:=by
 refine QaM Tryz.func75 (by kernel_rfl) (by kernel_rfl) (fun Γ=>?_)
 unfold QaL at h
 rcases Qai h with ⟨h0,h⟩|⟨h0,h⟩
 ·obtain ⟨r,h1,h⟩:=Qae h
  obtain ⟨h2,h⟩:=Qas h
  obtain rfl:=Option.some.inj h
  exact gr 4 [] [hP,hP,hP,oI ((geI i 0)=true),oR True ((geI i 0)=true),rp 3 (bT h0),cC (Qc9 h1),bT h0,oO (h2),bT h0,oO (oA (n:=2)),bT h0,bT h0]
 ·obtain rfl:=Option.some.inj h
  exact gr 4 [] [hP,hP,hP,oI ((geI i 0)=true),oR True ((geI i 0)=true),rp 7 (bF h0)]
def QjE (Γ:Gam) (rv:List Int) (cf:Cf):Prop:=Go Tryz.prog Tryz.f32 [] Γ (one (lL 1 rv e_i64)) [] cf
def Qhe (Γ:Gam) (rv:List Int) (set_:Int) (l:List Int) (i:Int):Prop:=QjE Γ rv ⟨[.c 116,.l 116,.b 0,.c 15],⟨17,[vI 0 set_,vO 3 0 1 l e_i64,vI 4 i],[oS 1 3 l e_i64]⟩⟩
def QgN (Γ:Gam) (rv:List Int) (set_:Int) (l1:List Int):Prop:=QjE Γ rv ⟨[.c 15],⟨17,[vO 3 0 1 l1 e_i64],[oS 1 3 l1 e_i64]⟩⟩
theorem QlP (Γ:Gam) (rv:List Int) {set_} {s:List Int×Int} {e:List Int} (h:loopF (fun s=>QaW set_ s.1 s.2) s=some e) (hD:QgN Γ rv set_ e):Qhe Γ rv set_ s.1 s.2:=by
 refine Qaz (C:=fun (s:List Int×Int)=>Qhe Γ rv set_ s.1 s.2) (D:=fun (e:List Int)=>QgN Γ rv set_ e) ?_ h hD
 clear h hD s e
 rintro ⟨l,i⟩ z_ h hI hE
 replace h:QaW set_ l i=_:=h
 unfold QaW at h
 rcases Qai h with ⟨h0,h⟩|⟨h0,h⟩
 ·obtain ⟨r,h1,h⟩:=Qae h
  rcases Qai h with ⟨h2,h⟩|⟨h2,h⟩
  ·obtain ⟨h3,h⟩:=Qas h
   exact gn 14 [0,3,4] [2] [bT h0,cC (Qaq h1),bT h2,oO (Eq.refl ([i].map e_i64).length),aO e_i64 h3] (hI _ (oJ h))
  ·exact gn 14 [0,3,4] [0] [bT h0,cC (Qaq h1),bF h2] (hI _ (oJ h))
 ·exact gn 5 [3] [0] [bF h0] (hE _ (oJ h))
theorem QfQ {set_} {rv:List Int} (h:Qcz set_=some rv):AFn Tryz.prog 32 [.one (lI set_)] [] (one (lL 1 rv e_i64)) []:=by
 refine QaM Tryz.func32 (by kernel_rfl) (by kernel_rfl) (fun Γ=>?_)
 unfold Qcz at h
 obtain ⟨e0,h4,h⟩:=Qae h
 refine gn 9 [0,3,4] [0] [hW 12,hH (.adopt 3 1 3)] (QlP Γ rv h4 ?_)
 obtain ⟨l1,rfl⟩:∃ x,x=e0:=⟨_,rfl⟩
 replace h:(some l1:Option (List Int))=some _:=h
 obtain rfl:=Option.some.inj h
 exact gr 2 [] [hW 4,hH (.frz 0),rp 3 (eL l1 e_i64)]
def Qmd (Γ:Gam) (rv:Bool) (cf:Cf):Prop:=Go Tryz.prog Tryz.f74 [] Γ (one (.bool rv)) [] cf
def QjM (Γ:Gam) (rv:Bool) (t:Qah) (skills:Int) (bit:Int):Prop:=Qmd Γ rv ⟨[.c 116,.l 116,.b 0,.c 15],⟨30,[vI 1 skills,vP 2 0 14,vI 5 bit],[oX 14 79 (Qah.enc t)]⟩⟩
def QiW (Γ:Gam) (rv:Bool) (t:Qah) (skills:Int):Prop:=Qmd Γ rv ⟨[.c 15],⟨30,[],[]⟩⟩
theorem Qny (Γ:Gam) (rv:Bool) {t skills} {s:Int} {e:(Unit)⊕(Bool)} (h:loopF (fun s=>Qca t skills s) s=some e) (hD:sel e (fun e=>QiW Γ rv t skills) (fun e=>e=rv)):QjM Γ rv t skills s:=by
 refine Qaz (C:=fun (s:Int)=>QjM Γ rv t skills s) (D:=fun (e:(Unit)⊕(Bool))=>sel e (fun e=>QiW Γ rv t skills) (fun e=>e=rv)) ?_ h hD
 clear h hD s e
 intro bit z_ h hI hE
 replace h:Qca t skills bit=_:=h
 unfold Qca at h
 rcases Qai h with ⟨h1,h⟩|⟨h1,h⟩
 ·obtain ⟨h2,h⟩:=Qas h
  rcases Qai h with ⟨h3,h⟩|⟨h3,h⟩
  ·obtain ⟨h4,h⟩:=Qas h
   rcases Qai h with ⟨h5,h⟩|⟨h5,h⟩
   ·obtain rfl:=(hE _ (oJ h):_=rv)
    exact gr 12 [] [bT h1,oO (h2),oO (oA (n:=2)),rp 4 (bT h3),oO (h4),bT h3,oO (oA (n:=2)),bT h3,bT h3,bT h5]
   ·exact gn 14 [1,2,5] [0] [bT h1,oO (h2),oO (oA (n:=2)),rp 4 (bT h3),oO (h4),bT h3,oO (oA (n:=2)),bT h3,bT h3,bF h5] (hI _ (oJ h))
  ·exact gn 14 [1,2,5] [0] [bT h1,oO (h2),oO (oA (n:=2)),rp 7 (bF h3),fF] (hI _ (oJ h))
 ·exact gn 5 [] [] [bF h1] (hE _ (oJ h))
theorem Qds {t skills} {rv:Bool} (h:Qdj t skills=some rv):AFn Tryz.prog 74 [.agg (Qah.enc t),.one (lI skills)] [] (one (.bool rv)) []:=by
 refine QaM Tryz.func74 (by kernel_rfl) (by kernel_rfl) (fun Γ=>?_)
 unfold Qdj at h
 rcases Qai h with ⟨h0,h⟩|⟨h0,h⟩
 ·obtain rfl:=Option.some.inj h
  exact gr 8 [] [hP,hP,hP,oI ((ltI t.skills 0)=false),oR True ((ltI t.skills 0)=false),bT h0]
 ·obtain ⟨e0,h6,h⟩:=Qae h
  refine gn 12 [1,2,5] [0] [hP,hP,hP,oI ((ltI t.skills 0)=false),oR True ((ltI t.skills 0)=false),bF h0] (Qny Γ rv h6 ?_)
  rcases e0 with e0|e0
  ·replace h:(some true:Option Bool)=some _:=h
   obtain rfl:=Option.some.inj h
   exact gr 2 [] []
  ·obtain ⟨r,rfl⟩:∃ x,x=e0:=⟨_,rfl⟩
   replace h:(some r:Option Bool)=some _:=h
   exact Option.some.inj h
def Qeq (Γ:Gam) (rv:Bool) (cf:Cf):Prop:=Go Tryz.prog Tryz.f31 [] Γ (one (.bool rv)) [] cf
def QkD (Γ:Gam) (rv:Bool) (x0:Qac) (kind:Int) (set_:Int) (r:List Int) (i:Int):Prop:=Qeq Γ rv ⟨[.c 244,.l 244,.b 0,.c 31],⟨120,[vI 1 kind,vI 2 set_,vP 3 0 6,vL 7 1 r e_i64,vI 8 i],[oX 6 30 (Qac.enc x0)]⟩⟩
def QjX (Γ:Gam) (rv:Bool) (x0:Qac) (kind:Int) (set_:Int) (r:List Int):Prop:=Qeq Γ rv ⟨[.c 31],⟨120,[vI 2 set_,vP 3 0 6],[oX 6 30 (Qac.enc x0)]⟩⟩
def QkE (Γ:Gam) (rv:Bool) (x0:Qac) (set_:Int) (i1:Int):Prop:=Qeq Γ rv ⟨[.c 500,.l 500,.b 2,.c 63],⟨120,[vI 2 set_,vP 3 0 6,vI 9 i1],[oX 6 30 (Qac.enc x0)]⟩⟩
def QjY (Γ:Gam) (rv:Bool) (x0:Qac) (set_:Int):Prop:=Qeq Γ rv ⟨[.c 63],⟨120,[vI 2 set_,vP 3 0 6],[oX 6 30 (Qac.enc x0)]⟩⟩
def QkF (Γ:Gam) (rv:Bool) (x0:Qac) (set_:Int) (i2:Int):Prop:=Qeq Γ rv ⟨[.c 1012,.l 1012,.b 4,.c 127],⟨120,[vI 2 set_,vP 3 0 6,vI 10 i2],[oX 6 30 (Qac.enc x0)]⟩⟩
def QjZ (Γ:Gam) (rv:Bool) (x0:Qac) (set_:Int):Prop:=Qeq Γ rv ⟨[.c 127],⟨120,[],[]⟩⟩
theorem Qob (Γ:Gam) (rv:Bool) {x0 kind set_ r} {s:Int} {e:(Unit)⊕(Bool)} (h:loopF (fun s=>QbN x0 kind set_ r s) s=some e) (hD:sel e (fun e=>QjX Γ rv x0 kind set_ r) (fun e=>e=rv)):QkD Γ rv x0 kind set_ r s:=by
 refine Qaz (C:=fun (s:Int)=>QkD Γ rv x0 kind set_ r s) (D:=fun (e:(Unit)⊕(Bool))=>sel e (fun e=>QjX Γ rv x0 kind set_ r) (fun e=>e=rv)) ?_ h hD
 clear h hD s e
 intro i z_ h hI hE
 replace h:QbN x0 kind set_ r i=_:=h
 unfold QbN at h
 rcases Qai h with ⟨h2,h⟩|⟨h2,h⟩
 ·obtain ⟨x1,h3,h⟩:=Qae h
  rcases Qai h with ⟨h4,h⟩|⟨h4,h⟩
  ·obtain rfl:=(hE _ (oJ h):_=rv)
   exact gr 12 [] [nL e_i64 r,bT h2,hH (.draw 37 []),cE e_i64 h3,nL Qag.enc x0.orders,rp 10 (bT h4),rp 18 tT]
  ·obtain ⟨x2,h5,h⟩:=Qae h
   rcases Qai h with ⟨h6,h⟩|⟨h6,h⟩
   ·obtain rfl:=(hE _ (oJ h):_=rv)
    exact gr 12 [] [nL e_i64 r,bT h2,hH (.draw 37 []),cE e_i64 h3,nL Qag.enc x0.orders,rp 5 (bF h4),cE e_i64 h3,bF h4,bF h4,cE Qag.enc h5,rp 3 (bF h4),rp 17 (bT h6),tT]
   ·obtain ⟨x3,h7,h⟩:=Qae h
    obtain ⟨r1,h8,h⟩:=Qae h
    rcases Qai h with ⟨h9,h⟩|⟨h9,h⟩
    ·exact gn 14 [1,2,3,7,8] [0] [nL e_i64 r,bT h2,hH (.draw 37 []),cE e_i64 h3,nL Qag.enc x0.orders,rp 5 (bF h4),cE e_i64 h3,bF h4,bF h4,cE Qag.enc h5,rp 3 (bF h4),rp 4 (bF h6),cE Qah.enc h7,rp 6 (bF h6),cE e_i64 h3,bF h6,bF h6,cE Qag.enc h5,rp 3 (bF h6),cC (Qds h8),bF h6,bF h6,nF h9] (hI _ (oJ h))
    ·obtain rfl:=(hE _ (oJ h):_=rv)
     exact gr 12 [] [nL e_i64 r,bT h2,hH (.draw 37 []),cE e_i64 h3,nL Qag.enc x0.orders,rp 5 (bF h4),cE e_i64 h3,bF h4,bF h4,cE Qag.enc h5,rp 3 (bF h4),rp 4 (bF h6),cE Qah.enc h7,rp 6 (bF h6),cE e_i64 h3,bF h6,bF h6,cE Qag.enc h5,rp 3 (bF h6),cC (Qds h8),bF h6,bF h6,nT h9]
 ·exact gn 5 [2,3] [0] [nL e_i64 r,bF h2] (hE _ (oJ h))
theorem Qoc (Γ:Gam) (rv:Bool) {x0 set_} {s:Int} {e:(Unit)⊕(Bool)} (h:loopF (fun s=>QbO x0 set_ s) s=some e) (hD:sel e (fun e=>QjY Γ rv x0 set_) (fun e=>e=rv)):QkE Γ rv x0 set_ s:=by
 refine Qaz (C:=fun (s:Int)=>QkE Γ rv x0 set_ s) (D:=fun (e:(Unit)⊕(Bool))=>sel e (fun e=>QjY Γ rv x0 set_) (fun e=>e=rv)) ?_ h hD
 clear h hD s e
 intro i1 z_ h hI hE
 replace h:QbO x0 set_ i1=_:=h
 unfold QbO at h
 rcases Qai h with ⟨h11,h⟩|⟨h11,h⟩
 ·obtain ⟨x4,h12,h⟩:=Qae h
  obtain ⟨r2,h13,h⟩:=Qae h
  rcases Qai h with ⟨h14,h⟩|⟨h14,h⟩
  ·obtain ⟨r3,h15,h⟩:=Qae h
   rcases Qai h with ⟨h16,h⟩|⟨h16,h⟩
   ·obtain rfl:=(hE _ (oJ h):_=rv)
    exact gr 12 [] [nL Qar.enc x0.apart,bT h11,cE Qar.enc h12,oO (zL 0),oO (lT 0 2),cC (Qaq h13),rp 5 (bT h14),cE Qar.enc h12,bT h14,oO (zL 1),oO (lT 1 2),rp 2 (bT h14),cC (Qaq h15),bT h14,bT h16]
   ·exact gn 14 [2,3,9] [0] [nL Qar.enc x0.apart,bT h11,cE Qar.enc h12,oO (zL 0),oO (lT 0 2),cC (Qaq h13),rp 5 (bT h14),cE Qar.enc h12,bT h14,oO (zL 1),oO (lT 1 2),rp 2 (bT h14),cC (Qaq h15),bT h14,bF h16] (hI _ (oJ h))
  ·exact gn 14 [2,3,9] [0] [nL Qar.enc x0.apart,bT h11,cE Qar.enc h12,oO (zL 0),oO (lT 0 2),cC (Qaq h13),rp 9 (bF h14),fF] (hI _ (oJ h))
 ·exact gn 5 [2,3] [0] [nL Qar.enc x0.apart,bF h11] (hE _ (oJ h))
theorem Qod (Γ:Gam) (rv:Bool) {x0 set_} {s:Int} {e:(Unit)⊕(Bool)} (h:loopF (fun s=>Qbr x0 set_ s) s=some e) (hD:sel e (fun e=>QjZ Γ rv x0 set_) (fun e=>e=rv)):QkF Γ rv x0 set_ s:=by
 refine Qaz (C:=fun (s:Int)=>QkF Γ rv x0 set_ s) (D:=fun (e:(Unit)⊕(Bool))=>sel e (fun e=>QjZ Γ rv x0 set_) (fun e=>e=rv)) ?_ h hD
 clear h hD s e
 intro i2 z_ h hI hE
 replace h:Qbr x0 set_ i2=_:=h
 unfold Qbr at h
 rcases Qai h with ⟨h18,h⟩|⟨h18,h⟩
 ·obtain ⟨x5,h19,h⟩:=Qae h
  obtain ⟨r4,h20,h⟩:=Qae h
  rcases Qai h with ⟨h21,h⟩|⟨h21,h⟩
  ·obtain ⟨r5,h22,h⟩:=Qae h
   rcases Qai h with ⟨h23,h⟩|⟨h23,h⟩
   ·exact gn 14 [2,3,10] [0] [nL Qar.enc x0.before,bT h18,cE Qar.enc h19,oO (zL 1),oO (lT 1 2),cC (Qaq h20),rp 5 (bT h21),cE Qar.enc h19,bT h21,oO (zL 0),oO (lT 0 2),rp 2 (bT h21),cC (Qaq h22),rp 2 (bT h21),nF h23] (hI _ (oJ h))
   ·obtain rfl:=(hE _ (oJ h):_=rv)
    exact gr 12 [] [nL Qar.enc x0.before,bT h18,cE Qar.enc h19,oO (zL 1),oO (lT 1 2),cC (Qaq h20),rp 5 (bT h21),cE Qar.enc h19,bT h21,oO (zL 0),oO (lT 0 2),rp 2 (bT h21),cC (Qaq h22),rp 2 (bT h21),nT h23]
  ·exact gn 14 [2,3,10] [0] [nL Qar.enc x0.before,bT h18,cE Qar.enc h19,oO (zL 1),oO (lT 1 2),cC (Qaq h20),rp 10 (bF h21),fF] (hI _ (oJ h))
 ·exact gn 5 [] [] [nL Qar.enc x0.before,bF h18] (hE _ (oJ h))
theorem Qmf {x0 kind set_} {rv:Bool} (h:Qg0 x0 kind set_=some rv):AFn Tryz.prog 31 [.agg (Qac.enc x0),.one (lI kind),.one (lI set_)] [] (one (.bool rv)) []:=by
 refine QaM Tryz.func31 (by kernel_rfl) (by kernel_rfl) (fun Γ=>?_)
 unfold Qg0 at h
 rcases Qai h with ⟨h0,h⟩|⟨h0,h⟩
 ·obtain rfl:=Option.some.inj h
  exact gr 8 [] [rp 4 hP,rp 2 (oI ((ltI kind 0)=false)),nL Qah.enc x0.types,rp 5 hP,rp 2 (oI ((ltI kind 0)=false)),oR True ((ltI kind 0)=false),oI (((ltI kind 0)||(geI kind (lenI x0.types)))=false),oR True (((ltI kind 0)||(geI kind (lenI x0.types)))=false),bT h0]
 ·obtain ⟨r,h1,h⟩:=Qae h
  obtain ⟨e0,h10,h⟩:=Qae h
  refine gn 14 [1,2,3,7,8] [0] [rp 4 hP,rp 2 (oI ((ltI kind 0)=false)),nL Qah.enc x0.types,rp 5 hP,rp 2 (oI ((ltI kind 0)=false)),oR True ((ltI kind 0)=false),oI (((ltI kind 0)||(geI kind (lenI x0.types)))=false),oR True (((ltI kind 0)||(geI kind (lenI x0.types)))=false),bF h0,cC (QfQ h1)] (Qob Γ rv h10 ?_)
  rcases e0 with e0|e0
  ·replace h:(bnd (loopF (fun s=>QbO x0 set_ s) 0) (fun e=>sel e (fun (_:Unit)=>bnd (loopF (fun s=>Qbr x0 set_ s) 0) (fun e=>sel e (fun (_:Unit)=>some true) (fun r6=>some r6))) (fun r7=>some r7)):Option Bool)=some _:=h
   obtain ⟨e1,h17,h⟩:=Qae h
   refine gn 5 [2,3,9] [0] [] (Qoc Γ rv h17 ?_)
   rcases e1 with e1|e1
   ·replace h:(bnd (loopF (fun s=>Qbr x0 set_ s) 0) (fun e=>sel e (fun (_:Unit)=>some true) (fun r6=>some r6)):Option Bool)=some _:=h
    obtain ⟨e2,h24,h⟩:=Qae h
    refine gn 5 [2,3,10] [0] [] (Qod Γ rv h24 ?_)
    rcases e2 with e2|e2
    ·replace h:(some true:Option Bool)=some _:=h
     obtain rfl:=Option.some.inj h
     exact gr 2 [] []
    ·obtain ⟨r6,rfl⟩:∃ x,x=e2:=⟨_,rfl⟩
     replace h:(some r6:Option Bool)=some _:=h
     exact Option.some.inj h
   ·obtain ⟨r7,rfl⟩:∃ x,x=e1:=⟨_,rfl⟩
    replace h:(some r7:Option Bool)=some _:=h
    exact Option.some.inj h
  ·obtain ⟨r8,rfl⟩:∃ x,x=e0:=⟨_,rfl⟩
   replace h:(some r8:Option Bool)=some _:=h
   exact Option.some.inj h
def Qmb (Γ:Gam) (rv:Bool) (cf:Cf):Prop:=Go Tryz.prog Tryz.f113 [] Γ (one (.bool rv)) [] cf
def QjK (Γ:Gam) (rv:Bool) (l:List (List Int)) (dims:Int) (i:Int):Prop:=Qmb Γ rv ⟨[.c 116,.l 116,.b 0,.c 15],⟨25,[vL 0 1 l QdZ,vI 1 dims,vI 5 i],[]⟩⟩
def QiT (Γ:Gam) (rv:Bool) (l:List (List Int)) (dims:Int):Prop:=Qmb Γ rv ⟨[.c 15],⟨25,[],[]⟩⟩
theorem Qnw (Γ:Gam) (rv:Bool) {l dims} {s:Int} {e:(Unit)⊕(Bool)} (h:loopF (fun s=>QbU l dims s) s=some e) (hD:sel e (fun e=>QiT Γ rv l dims) (fun e=>e=rv)):QjK Γ rv l dims s:=by
 refine Qaz (C:=fun (s:Int)=>QjK Γ rv l dims s) (D:=fun (e:(Unit)⊕(Bool))=>sel e (fun e=>QiT Γ rv l dims) (fun e=>e=rv)) ?_ h hD
 clear h hD s e
 intro i z_ h hI hE
 replace h:QbU l dims i=_:=h
 unfold QbU at h
 rcases Qai h with ⟨h1,h⟩|⟨h1,h⟩
 ·obtain ⟨x0,h2,h⟩:=Qae h
  rcases Qai h with ⟨h3,h⟩|⟨h3,h⟩
  ·obtain rfl:=(hE _ (oJ h):_=rv)
   exact gr 12 [] [nL QdZ l,bT h1,cE QdZ h2,nL e_i64 x0,bT h3]
  ·exact gn 14 [0,1,5] [] [nL QdZ l,bT h1,cE QdZ h2,nL e_i64 x0,bF h3] (hI _ (oJ h))
 ·exact gn 5 [] [] [nL QdZ l,bF h1] (hE _ (oJ h))
theorem Qlc {l dims} {rv:Bool} (h:Qf0 l dims=some rv):AFn Tryz.prog 113 [.one (lL 1 l QdZ),.one (lI dims)] [] (one (.bool rv)) []:=by
 refine QaM Tryz.func113 (by kernel_rfl) (by kernel_rfl) (fun Γ=>?_)
 unfold Qf0 at h
 rcases Qai h with ⟨h0,h⟩|⟨h0,h⟩
 ·obtain rfl:=Option.some.inj h
  exact gr 8 [] [hP,hP,hP,oI ((ltI dims 0)=false),oR True ((ltI dims 0)=false),bT h0]
 ·obtain ⟨e0,h4,h⟩:=Qae h
  refine gn 12 [0,1,5] [] [hP,hP,hP,oI ((ltI dims 0)=false),oR True ((ltI dims 0)=false),bF h0] (Qnw Γ rv h4 ?_)
  rcases e0 with e0|e0
  ·replace h:(some true:Option Bool)=some _:=h
   obtain rfl:=Option.some.inj h
   exact gr 2 [] []
  ·obtain ⟨r,rfl⟩:∃ x,x=e0:=⟨_,rfl⟩
   replace h:(some r:Option Bool)=some _:=h
   exact Option.some.inj h
def QgO (Γ:Gam) (rv:List Int×Int) (cf:Cf):Prop:=Go Tryz.prog Tryz.f77 [] Γ (.tup [.one (lL 1 rv.1 e_i64),.one (lI rv.2)]) [] cf
def Qku (Γ:Gam) (rv:List Int×Int) (l:List (List Int)) (dims:Int) (l1:List Int) (d:Int) (n:Int) (i:Int):Prop:=QgO Γ rv ⟨[.c 62612,.l 62612,.b 2,.c 7827,.b 1,.c 979,.l 244,.b 0,.c 31],⟨39,[vL 0 1 l QdZ,vI 1 dims,vO 6 0 1 l1 e_i64,vI 7 d,vI 8 n,vI 9 i],[oS 1 3 l1 e_i64]⟩⟩
def QjJ (Γ:Gam) (rv:List Int×Int) (l:List (List Int)) (dims:Int) (l1:List Int) (d:Int) (n1:Int):Prop:=QgO Γ rv ⟨[.c 7827,.b 1,.c 979,.l 244,.b 0,.c 31],⟨39,[vL 0 1 l QdZ,vI 1 dims,vO 6 0 1 l1 e_i64,vI 7 d,vI 8 n1],[oS 1 3 l1 e_i64]⟩⟩
def Qkt (Γ:Gam) (rv:List Int×Int) (l:List (List Int)) (dims:Int) (l1:List Int) (d:Int):Prop:=QgO Γ rv ⟨[.c 244,.l 244,.b 0,.c 31],⟨39,[vL 0 1 l QdZ,vI 1 dims,vO 6 0 1 l1 e_i64,vI 7 d],[oS 1 3 l1 e_i64]⟩⟩
def QjI (Γ:Gam) (rv:List Int×Int) (l:List (List Int)) (dims:Int) (l2:List Int):Prop:=QgO Γ rv ⟨[.c 31],⟨39,[vO 6 0 1 l2 e_i64],[oS 1 3 l2 e_i64]⟩⟩
theorem Qn5 (Γ:Gam) (rv:List Int×Int) {l dims l1 d} {s:Int×Int} {e:Int} (h:loopF (fun s=>QbM l dims l1 d s.1 s.2) s=some e) (hD:QjJ Γ rv l dims l1 d e):Qku Γ rv l dims l1 d s.1 s.2:=by
 refine Qaz (C:=fun (s:Int×Int)=>Qku Γ rv l dims l1 d s.1 s.2) (D:=fun (e:Int)=>QjJ Γ rv l dims l1 d e) ?_ h hD
 clear h hD s e
 rintro ⟨n,i⟩ z_ h hI hE
 replace h:QbM l dims l1 d n i=_:=h
 unfold QbM at h
 rcases Qai h with ⟨h3,h⟩|⟨h3,h⟩
 ·obtain ⟨x0,h4,h⟩:=Qae h
  obtain ⟨x1,h5,h⟩:=Qae h
  exact gn 11 [0,1,6,7,8,9] [0] [nL QdZ l,bT h3,cE QdZ h4,cE e_i64 h5] (hI _ (oJ h))
 ·exact gn 5 [0,1,6,7,8] [0] [nL QdZ l,bF h3] (hE _ (oJ h))
theorem Qn4 (Γ:Gam) (rv:List Int×Int) {l dims} {s:List Int×Int} {e:List Int} (h:loopF (fun s=>QbL l dims s.1 s.2) s=some e) (hD:QjI Γ rv l dims e):Qkt Γ rv l dims s.1 s.2:=by
 refine Qaz (C:=fun (s:List Int×Int)=>Qkt Γ rv l dims s.1 s.2) (D:=fun (e:List Int)=>QjI Γ rv l dims e) ?_ h hD
 clear h hD s e
 rintro ⟨l1,d⟩ z_ h hI hE
 replace h:QbL l dims l1 d=_:=h
 unfold QbL at h
 rcases Qai h with ⟨h2,h⟩|⟨h2,h⟩
 ·obtain ⟨e0,h6,h⟩:=Qae h
  refine gn 14 [0,1,6,7,8,9] [0] [bT h2] (Qn5 Γ rv h6 ?_)
  obtain ⟨n1,rfl⟩:∃ x,x=e0:=⟨_,rfl⟩
  replace h:(chk (okN (l1++[n1]).length 8) (some (.inl ((l1++[n1]),(addK .i64 d 1)))):Option ((List Int×Int)⊕(List Int)))=some _:=h
  obtain ⟨h7,h⟩:=Qas h
  exact gn 4 [0,1,6,7] [2] [oO (Eq.refl ([n1].map e_i64).length),aO e_i64 h7] (hI _ (oJ h))
 ·exact gn 5 [6] [0] [bF h2] (hE _ (oJ h))
theorem QpK {l dims} {rv:List Int×Int} (h:QfC l dims=some rv):AFn Tryz.prog 77 [.one (lL 1 l QdZ),.one (lI dims)] [] (.tup [.one (lL 1 rv.1 e_i64),.one (lI rv.2)]) []:=by
 refine QaM Tryz.func77 (by kernel_rfl) (by kernel_rfl) (fun Γ=>?_)
 unfold QfC at h
 obtain ⟨r,h0,h⟩:=Qae h
 rcases Qai h with ⟨h1,h⟩|⟨h1,h⟩
 ·obtain ⟨e1,h8,h⟩:=Qae h
  refine gn 14 [0,1,6,7] [0] [cC (Qlc h0),nF h1,hW 10,hH (.adopt 6 1 3)] (Qn4 Γ rv h8 ?_)
  obtain ⟨l2,rfl⟩:∃ x,x=e1:=⟨_,rfl⟩
  replace h:(some (l2,0):Option (List Int×Int))=some _:=h
  obtain rfl:=Option.some.inj h
  exact gr 2 [] [hW 5,hH (.frz 0),rp 3 (eL l2 e_i64)]
 ·obtain rfl:=Option.some.inj h
  exact gr 8 [] [cC (Qlc h0),nT h1,hW 4,hH (.nilS 4 0 1)]
def Qme (Γ:Gam) (rv:List Int×Int) (cf:Cf):Prop:=Go Tryz.prog Tryz.f34 [] Γ (.tup [.one (lL 1 rv.1 e_i64),.one (lI rv.2)]) [] cf
def QjN (Γ:Gam) (rv:List Int×Int) (l:List Qag) (dims:Int) (r1:List Int) (l1:List (List Int)) (i:Int):Prop:=Qme Γ rv ⟨[.c 500,.l 500,.b 0,.c 63],⟨49,[vL 0 16 l Qag.enc,vI 2 dims,vL 8 1 r1 e_i64,vO 9 0 1 l1 QdZ,vI 10 i],[oS 1 45 l1 QdZ]⟩⟩
def Qi3 (Γ:Gam) (rv:List Int×Int) (l:List Qag) (dims:Int) (r1:List Int) (l2:List (List Int)):Prop:=Qme Γ rv ⟨[.c 63],⟨49,[vI 2 dims,vO 9 0 1 l2 QdZ],[oS 1 45 l2 QdZ]⟩⟩
theorem Qnz (Γ:Gam) (rv:List Int×Int) {l dims r1} {s:List (List Int)×Int} {e:(List (List Int))⊕(List Int×Int)} (h:loopF (fun s=>Qbs l dims r1 s.1 s.2) s=some e) (hD:sel e (fun e=>Qi3 Γ rv l dims r1 e) (fun e=>e=rv)):QjN Γ rv l dims r1 s.1 s.2:=by
 refine Qaz (C:=fun (s:List (List Int)×Int)=>QjN Γ rv l dims r1 s.1 s.2) (D:=fun (e:(List (List Int))⊕(List Int×Int))=>sel e (fun e=>Qi3 Γ rv l dims r1 e) (fun e=>e=rv)) ?_ h hD
 clear h hD s e
 rintro ⟨l1,i⟩ z_ h hI hE
 replace h:Qbs l dims r1 l1 i=_:=h
 unfold Qbs at h
 rcases Qai h with ⟨h4,h⟩|⟨h4,h⟩
 ·obtain ⟨x0,h5,h⟩:=Qae h
  rcases Qai h with ⟨h6,h⟩|⟨h6,h⟩
  ·obtain rfl:=(hE _ (oJ h):_=rv)
   exact gr 13 [] [nL e_i64 r1,bT h4,cE e_i64 h5,nL Qag.enc l,bT h6,hW 4,hH (.nilS 6 0 1)]
  ·obtain ⟨x1,h7,h⟩:=Qae h
   obtain ⟨h8,h⟩:=Qas h
   exact gn 16 [0,2,8,9,10] [2] [nL e_i64 r1,bT h4,cE e_i64 h5,nL Qag.enc l,bF h6,cE e_i64 h5,cE Qag.enc h7,oO (Eq.refl ([x1.load].map QdZ).length),aO QdZ h8] (hI _ (oJ h))
 ·exact gn 5 [2,9] [0] [nL e_i64 r1,bF h4] (hE _ (oJ h))
theorem QhD {l set_ dims} {rv:List Int×Int} (h:QeX l set_ dims=some rv):AFn Tryz.prog 34 [.one (lL 16 l Qag.enc),.one (lI set_),.one (lI dims)] [] (.tup [.one (lL 1 rv.1 e_i64),.one (lI rv.2)]) []:=by
 refine QaM Tryz.func34 (by kernel_rfl) (by kernel_rfl) (fun Γ=>?_)
 unfold QeX at h
 rcases Qai h with ⟨h0,h⟩|⟨h0,h⟩
 ·obtain rfl:=Option.some.inj h
  exact gr 8 [] [rp 4 (bT h0),tT,hW 4,hH (.nilS 6 0 1)]
 ·obtain ⟨r,h1,h⟩:=Qae h
  rcases Qai h with ⟨h2,h⟩|⟨h2,h⟩
  ·obtain ⟨r1,h3,h⟩:=Qae h
   obtain ⟨e0,h9,h⟩:=Qae h
   refine gn 16 [0,2,8,9,10] [0] [bF h0,bF h0,cC (Qau h1),bF h0,bF h0,nF h2,cC (QfQ h3),hW 10,hH (.adopt 9 1 45)] (Qnz Γ rv h9 ?_)
   rcases e0 with e0|e0
   ·obtain ⟨l2,rfl⟩:∃ x,x=e0:=⟨_,rfl⟩
    replace h:(bnd (QfC l2 dims) fun r2=>some (r2.1,r2.2):Option (List Int×Int))=some _:=h
    obtain ⟨r2,h10,h⟩:=Qae h
    obtain rfl:=Option.some.inj h
    exact gr 2 [] [hW 4,hH (.frz 0),rp 2 (eL l2 QdZ),cC (QpK h10)]
   ·obtain ⟨r3,rfl⟩:∃ x,x=e0:=⟨_,rfl⟩
    replace h:(some r3:Option (List Int×Int))=some _:=h
    exact Option.some.inj h
  ·obtain rfl:=Option.some.inj h
   exact gr 8 [] [bF h0,bF h0,cC (Qau h1),bF h0,bF h0,nT h2,hW 4,hH (.nilS 6 0 1)]
def Qma (Γ:Gam) (rv:Bool) (cf:Cf):Prop:=Go Tryz.prog Tryz.f35 [] Γ (one (.bool rv)) [] cf
def QjG (Γ:Gam) (rv:Bool) (a:List Int) (capacity:List Int) (i:Int):Prop:=Qma Γ rv ⟨[.c 116,.l 116,.b 0,.c 15],⟨26,[vL 0 1 a e_i64,vL 1 1 capacity e_i64,vI 5 i],[]⟩⟩
def QiR (Γ:Gam) (rv:Bool) (a:List Int) (capacity:List Int):Prop:=Qma Γ rv ⟨[.c 15],⟨26,[],[]⟩⟩
theorem Qnv (Γ:Gam) (rv:Bool) {a capacity} {s:Int} {e:(Unit)⊕(Bool)} (h:loopF (fun s=>QbT a capacity s) s=some e) (hD:sel e (fun e=>QiR Γ rv a capacity) (fun e=>e=rv)):QjG Γ rv a capacity s:=by
 refine Qaz (C:=fun (s:Int)=>QjG Γ rv a capacity s) (D:=fun (e:(Unit)⊕(Bool))=>sel e (fun e=>QiR Γ rv a capacity) (fun e=>e=rv)) ?_ h hD
 clear h hD s e
 intro i z_ h hI hE
 replace h:QbT a capacity i=_:=h
 unfold QbT at h
 rcases Qai h with ⟨h1,h⟩|⟨h1,h⟩
 ·obtain ⟨x0,h2,h⟩:=Qae h
  obtain ⟨x1,h3,h⟩:=Qae h
  rcases Qai h with ⟨h4,h⟩|⟨h4,h⟩
  ·obtain rfl:=(hE _ (oJ h):_=rv)
   exact gr 12 [] [nL e_i64 a,bT h1,hH (.draw 9 []),cE e_i64 h2,cE e_i64 h3,bT h4]
  ·exact gn 14 [0,1,5] [] [nL e_i64 a,bT h1,hH (.draw 9 []),cE e_i64 h2,cE e_i64 h3,bF h4] (hI _ (oJ h))
 ·exact gn 5 [] [] [nL e_i64 a,bF h1] (hE _ (oJ h))
theorem Qdq {a capacity} {rv:Bool} (h:Qdh a capacity=some rv):AFn Tryz.prog 35 [.one (lL 1 a e_i64),.one (lL 1 capacity e_i64)] [] (one (.bool rv)) []:=by
 refine QaM Tryz.func35 (by kernel_rfl) (by kernel_rfl) (fun Γ=>?_)
 unfold Qdh at h
 rcases Qai h with ⟨h0,h⟩|⟨h0,h⟩
 ·obtain rfl:=Option.some.inj h
  exact gr 8 [] [nL e_i64 a,nL e_i64 capacity,bT h0]
 ·obtain ⟨e0,h5,h⟩:=Qae h
  refine gn 12 [0,1,5] [] [nL e_i64 a,nL e_i64 capacity,bF h0] (Qnv Γ rv h5 ?_)
  rcases e0 with e0|e0
  ·replace h:(some true:Option Bool)=some _:=h
   obtain rfl:=Option.some.inj h
   exact gr 2 [] []
  ·obtain ⟨r,rfl⟩:∃ x,x=e0:=⟨_,rfl⟩
   replace h:(some r:Option Bool)=some _:=h
   exact Option.some.inj h
theorem Qj0 {x0 l} {rv:List Qaf} (h:Qcu x0 l=some rv):AFn Tryz.prog 36 [.agg (Qac.enc x0),.agg (Qaf.enc l)] [] (one (lL 9 rv Qaf.enc)) []:=by
 refine QaM Tryz.func36 (by kernel_rfl) (by kernel_rfl) (fun Γ=>?_)
 unfold Qcu at h
 obtain ⟨x1,h0,h⟩:=Qae h
 obtain rfl:=Option.some.inj h
 exact gr 10 [] [hH (.draw 11 []),cE Qah.enc h0,hW 11,hH (.frz 3),rp 2 (oO (Eq.refl ([l,(Qaf.mk l.type_ l.visits l.place (addK .i64 l.time x1.rest_) 0 l.miles l.load l.done l.open_)].map Qaf.enc).length))]
def Qlm (Γ:Gam) (rv:List Qaf) (cf:Cf):Prop:=Go Tryz.prog Tryz.f10 [] Γ (one (lL 9 rv Qaf.enc)) [] cf
def Qi9 (Γ:Gam) (rv:List Qaf) (x0:Qac) (kind:Int) (x1:Qah) (r1:List Int) (open_:Int) (open_1:Int) (i:Int):Prop:=Qlm Γ rv ⟨[.c 1012,.l 1012,.b 0,.c 127],⟨78,[vI 1 kind,vP 3 0 6,vP 7 1 14,vI 8 open_1,vL 9 1 r1 e_i64,vI 10 i],[oX 6 30 (Qac.enc x0),oX 14 79 [.str x1.name,lI x1.count,lI x1.from_,lI x1.to_,lL 1 x1.cap e_i64,lI x1.skills,lI x1.profile,lI open_,lI x1.close,lI x1.drive,lI x1.rest_,lI x1.fixed,lI x1.perMile,lI x1.perTick]]⟩⟩
def Qix (Γ:Gam) (rv:List Qaf) (x0:Qac) (kind:Int) (x1:Qah) (r1:List Int) (open_2:Int) (open_3:Int):Prop:=Qlm Γ rv ⟨[.c 127],⟨78,[vI 1 kind,vP 3 0 6,vP 7 1 14,vI 8 open_3],[oX 6 30 (Qac.enc x0),oX 14 79 [.str x1.name,lI x1.count,lI x1.from_,lI x1.to_,lL 1 x1.cap e_i64,lI x1.skills,lI x1.profile,lI open_2,lI x1.close,lI x1.drive,lI x1.rest_,lI x1.fixed,lI x1.perMile,lI x1.perTick]]⟩⟩
theorem Qm1 (Γ:Gam) (rv:List Qaf) {x0 kind x1 r1} {s:Int×Int×Int} {e:Int×Int} (h:loopF (fun s=>Qbk x0 kind x1 r1 s.1 s.2.1 s.2.2) s=some e) (hD:Qix Γ rv x0 kind x1 r1 e.1 e.2):Qi9 Γ rv x0 kind x1 r1 s.1 s.2.1 s.2.2:=by
 refine Qaz (C:=fun (s:Int×Int×Int)=>Qi9 Γ rv x0 kind x1 r1 s.1 s.2.1 s.2.2) (D:=fun (e:Int×Int)=>Qix Γ rv x0 kind x1 r1 e.1 e.2) ?_ h hD
 clear h hD s e
 rintro ⟨open_,open_1,i⟩ z_ h hI hE
 replace h:Qbk x0 kind x1 r1 open_ open_1 i=_:=h
 unfold Qbk at h
 rcases Qai h with ⟨h4,h⟩|⟨h4,h⟩
 ·obtain ⟨x2,h5,h⟩:=Qae h
  obtain ⟨x3,h6,h⟩:=Qae h
  rcases Qai h with ⟨h7,h⟩|⟨h7,h⟩
  ·obtain ⟨r2,h8,h⟩:=Qae h
   exact gn 14 [1,3,7,8,9,10] [0,1] [nL e_i64 r1,bT h4,hH (.draw 11 []),cE e_i64 h5,cE Qag.enc h6,bT h7,cE e_i64 h5,cC (Qc9 h8)] (hI _ (oJ h))
  ·exact gn 14 [1,3,7,8,9,10] [0,1] [nL e_i64 r1,bT h4,hH (.draw 11 []),cE e_i64 h5,cE Qag.enc h6,bF h7] (hI _ (oJ h))
 ·exact gn 5 [1,3,7,8] [0,1] [nL e_i64 r1,bF h4] (hE _ (oJ h))
theorem QoC {x0 kind set_} {rv:List Qaf} (h:Qft x0 kind set_=some rv):AFn Tryz.prog 10 [.agg (Qac.enc x0),.one (lI kind),.one (lI set_)] [] (one (lL 9 rv Qaf.enc)) []:=by
 refine QaM Tryz.func10 (by kernel_rfl) (by kernel_rfl) (fun Γ=>?_)
 unfold Qft at h
 obtain ⟨r,h0,h⟩:=Qae h
 rcases Qai h with ⟨h1,h⟩|⟨h1,h⟩
 ·obtain ⟨x1,h2,h⟩:=Qae h
  obtain ⟨r1,h3,h⟩:=Qae h
  obtain ⟨e0,h9,h⟩:=Qae h
  refine gn 18 [1,3,7,8,9,10] [0,1] [cC (Qmf h0),nF h1,cE Qah.enc h2,cC (QfQ h3)] (Qm1 Γ rv h9 ?_)
  obtain ⟨open_2,open_3⟩:=e0
  replace h:(bnd (QeX x0.orders open_3 (lenI x1.cap)) fun r3=>br (neI r3.2 0) (some []) (bnd (Qdh r3.1 x1.cap) fun r4=>br r4 (bnd (Qcu x0 (Qaf.mk kind [] x1.from_ open_2 0 0 r3.1 0 open_3)) fun r5=>some r5) (some [])):Option (List Qaf))=some _:=h
  obtain ⟨r3,h10,h⟩:=Qae h
  rcases Qai h with ⟨h11,h⟩|⟨h11,h⟩
  ·obtain rfl:=Option.some.inj h
   exact gr 8 [] [nL e_i64 x1.cap,cC (QhD h10),rp 6 (bT h11),tT,hW 3,hH (.nilS 6 0 9)]
  ·obtain ⟨r4,h12,h⟩:=Qae h
   rcases Qai h with ⟨h13,h⟩|⟨h13,h⟩
   ·obtain ⟨r5,h14,h⟩:=Qae h
    obtain rfl:=Option.some.inj h
    exact gr 9 [] [nL e_i64 x1.cap,cC (QhD h10),rp 4 (bF h11),cC (Qdq h12),rp 2 (bF h11),nF h13,hW 12,hH (.nilS 76 1 2),cC (Qj0 h14)]
   ·obtain rfl:=Option.some.inj h
    exact gr 8 [] [nL e_i64 x1.cap,cC (QhD h10),rp 4 (bF h11),cC (Qdq h12),rp 2 (bF h11),nT h13,hW 3,hH (.nilS 6 0 9)]
 ·obtain rfl:=Option.some.inj h
  exact gr 8 [] [cC (Qmf h0),nT h1,hW 3,hH (.nilS 6 0 9)]
def Qgc (Γ:Gam) (rv:Bool) (cf:Cf):Prop:=Go Tryz.prog Tryz.f37 [] Γ (one (.bool rv)) [] cf
def QjR (Γ:Gam) (rv:Bool) (a:Qaf) (b:Qaf) (i:Int):Prop:=Qgc Γ rv ⟨[.c 116,.l 116,.b 0,.c 15],⟨106,[vP 2 0 9,vP 3 1 9,vI 5 i],[oX 9 49 (Qaf.enc a),oX 9 49 (Qaf.enc b)]⟩⟩
def Qi7 (Γ:Gam) (rv:Bool) (a:Qaf) (b:Qaf):Prop:=Qgc Γ rv ⟨[.c 15],⟨106,[vP 2 0 9,vP 3 1 9],[oX 9 49 (Qaf.enc a),oX 9 49 (Qaf.enc b)]⟩⟩
def QjS (Γ:Gam) (rv:Bool) (a:Qaf) (b:Qaf) (i1:Int):Prop:=Qgc Γ rv ⟨[.c 244,.l 244,.b 2,.c 31],⟨106,[vP 2 0 9,vP 3 1 9,vI 6 i1],[oX 9 49 (Qaf.enc a),oX 9 49 (Qaf.enc b)]⟩⟩
def Qi8 (Γ:Gam) (rv:Bool) (a:Qaf) (b:Qaf):Prop:=Qgc Γ rv ⟨[.c 31],⟨106,[vP 2 0 9,vP 3 1 9],[oX 9 49 (Qaf.enc a),oX 9 49 (Qaf.enc b)]⟩⟩
theorem QnA (Γ:Gam) (rv:Bool) {a b} {s:Int} {e:(Unit)⊕(Bool)} (h:loopF (fun s=>Qdv a b s) s=some e) (hD:sel e (fun e=>Qi7 Γ rv a b) (fun e=>e=rv)):QjR Γ rv a b s:=by
 refine Qaz (C:=fun (s:Int)=>QjR Γ rv a b s) (D:=fun (e:(Unit)⊕(Bool))=>sel e (fun e=>Qi7 Γ rv a b) (fun e=>e=rv)) ?_ h hD
 clear h hD s e
 intro i z_ h hI hE
 replace h:Qdv a b i=_:=h
 unfold Qdv at h
 rcases Qai h with ⟨h1,h⟩|⟨h1,h⟩
 ·obtain ⟨x0,h2,h⟩:=Qae h
  obtain ⟨x1,h3,h⟩:=Qae h
  rcases Qai h with ⟨h4,h⟩|⟨h4,h⟩
  ·exact gn 14 [2,3,5] [0,1] [nL Qab.enc a.visits,bT h1,hH (.draw 11 []),cE Qab.enc h2,cE Qab.enc h3,nF h4] (hI _ (oJ h))
  ·obtain rfl:=(hE _ (oJ h):_=rv)
   exact gr 12 [] [nL Qab.enc a.visits,bT h1,hH (.draw 11 []),cE Qab.enc h2,cE Qab.enc h3,nT h4]
 ·exact gn 5 [2,3] [0,1] [nL Qab.enc a.visits,bF h1] (hE _ (oJ h))
theorem QnB (Γ:Gam) (rv:Bool) {a b} {s:Int} {e:(Unit)⊕(Bool)} (h:loopF (fun s=>QcD a b s) s=some e) (hD:sel e (fun e=>Qi8 Γ rv a b) (fun e=>e=rv)):QjS Γ rv a b s:=by
 refine Qaz (C:=fun (s:Int)=>QjS Γ rv a b s) (D:=fun (e:(Unit)⊕(Bool))=>sel e (fun e=>Qi8 Γ rv a b) (fun e=>e=rv)) ?_ h hD
 clear h hD s e
 intro i1 z_ h hI hE
 replace h:QcD a b i1=_:=h
 unfold QcD at h
 rcases Qai h with ⟨h6,h⟩|⟨h6,h⟩
 ·obtain ⟨x2,h7,h⟩:=Qae h
  obtain ⟨x3,h8,h⟩:=Qae h
  rcases Qai h with ⟨h9,h⟩|⟨h9,h⟩
  ·obtain rfl:=(hE _ (oJ h):_=rv)
   exact gr 12 [] [nL e_i64 a.load,bT h6,hH (.draw 11 []),cE e_i64 h7,cE e_i64 h8,bT h9]
  ·exact gn 14 [2,3,6] [0,1] [nL e_i64 a.load,bT h6,hH (.draw 11 []),cE e_i64 h7,cE e_i64 h8,bF h9] (hI _ (oJ h))
 ·exact gn 5 [2,3] [0,1] [nL e_i64 a.load,bF h6] (hE _ (oJ h))
theorem Qll {a b} {rv:Bool} (h:QeZ a b=some rv):AFn Tryz.prog 37 [.agg (Qaf.enc a),.agg (Qaf.enc b)] [] (one (.bool rv)) []:=by
 refine QaM Tryz.func37 (by kernel_rfl) (by kernel_rfl) (fun Γ=>?_)
 unfold QeZ at h
 rcases Qai h with ⟨h0,h⟩|⟨h0,h⟩
 ·obtain rfl:=Option.some.inj h
  exact gr 8 [] [nL Qab.enc a.visits,nL Qab.enc b.visits,hP,hP,hP,rp 2 (oI ((neI (lenI a.visits) (lenI b.visits))=false)),nL e_i64 a.load,hP,hP,hP,rp 2 (oI ((neI (lenI a.visits) (lenI b.visits))=false)),nL e_i64 b.load,hP,hP,rp 2 (oI ((neI (lenI a.visits) (lenI b.visits))=false)),oR True ((neI (lenI a.visits) (lenI b.visits))=false),bT h0]
 ·obtain ⟨e0,h5,h⟩:=Qae h
  refine gn 12 [2,3,5] [0,1] [nL Qab.enc a.visits,nL Qab.enc b.visits,hP,hP,hP,rp 2 (oI ((neI (lenI a.visits) (lenI b.visits))=false)),nL e_i64 a.load,hP,hP,hP,rp 2 (oI ((neI (lenI a.visits) (lenI b.visits))=false)),nL e_i64 b.load,hP,hP,rp 2 (oI ((neI (lenI a.visits) (lenI b.visits))=false)),oR True ((neI (lenI a.visits) (lenI b.visits))=false),bF h0] (QnA Γ rv h5 ?_)
  rcases e0 with e0|e0
  ·replace h:(bnd (loopF (fun s=>QcD a b s) 0) (fun e=>sel e (fun (_:Unit)=>some (((((((eqI a.type_ b.type_)&&(eqI a.place b.place))&&(eqI a.time b.time))&&(eqI a.driven b.driven))&&(eqI a.miles b.miles))&&(eqI a.done b.done))&&(eqI a.open_ b.open_))) (fun r=>some r)):Option Bool)=some _:=h
   obtain ⟨e1,h10,h⟩:=Qae h
   refine gn 5 [2,3,6] [0,1] [] (QnB Γ rv h10 ?_)
   rcases e1 with e1|e1
   ·replace h:(some (((((((eqI a.type_ b.type_)&&(eqI a.place b.place))&&(eqI a.time b.time))&&(eqI a.driven b.driven))&&(eqI a.miles b.miles))&&(eqI a.done b.done))&&(eqI a.open_ b.open_)):Option Bool)=some _:=h
    obtain rfl:=Option.some.inj h
    exact gr 2 [] [rp 36 hP,rp 4 (oI ((eqI a.type_ b.type_)=true)),oR True ((eqI a.type_ b.type_)=true),rp 4 (oI (((eqI a.type_ b.type_)&&(eqI a.place b.place))=true)),oR True (((eqI a.type_ b.type_)&&(eqI a.place b.place))=true),rp 4 (oI ((((eqI a.type_ b.type_)&&(eqI a.place b.place))&&(eqI a.time b.time))=true)),oR True ((((eqI a.type_ b.type_)&&(eqI a.place b.place))&&(eqI a.time b.time))=true),rp 4 (oI (((((eqI a.type_ b.type_)&&(eqI a.place b.place))&&(eqI a.time b.time))&&(eqI a.driven b.driven))=true)),oR True (((((eqI a.type_ b.type_)&&(eqI a.place b.place))&&(eqI a.time b.time))&&(eqI a.driven b.driven))=true),rp 4 (oI ((((((eqI a.type_ b.type_)&&(eqI a.place b.place))&&(eqI a.time b.time))&&(eqI a.driven b.driven))&&(eqI a.miles b.miles))=true)),oR True ((((((eqI a.type_ b.type_)&&(eqI a.place b.place))&&(eqI a.time b.time))&&(eqI a.driven b.driven))&&(eqI a.miles b.miles))=true),rp 4 (oI (((((((eqI a.type_ b.type_)&&(eqI a.place b.place))&&(eqI a.time b.time))&&(eqI a.driven b.driven))&&(eqI a.miles b.miles))&&(eqI a.done b.done))=true)),oR True (((((((eqI a.type_ b.type_)&&(eqI a.place b.place))&&(eqI a.time b.time))&&(eqI a.driven b.driven))&&(eqI a.miles b.miles))&&(eqI a.done b.done))=true)]
   ·obtain ⟨r,rfl⟩:∃ x,x=e1:=⟨_,rfl⟩
    replace h:(some r:Option Bool)=some _:=h
    exact Option.some.inj h
  ·obtain ⟨r1,rfl⟩:∃ x,x=e0:=⟨_,rfl⟩
   replace h:(some r1:Option Bool)=some _:=h
   exact Option.some.inj h
theorem Qko {a} {rv:Qaf} (h:QgK a=some rv):AFn Tryz.prog 38 [.agg (Qad.enc a)] [] (gG [lI rv.type_,lL 2 rv.visits Qab.enc,lI rv.place,lI rv.time,lI rv.driven,lI rv.miles,lL 1 rv.load e_i64,lI rv.done,lI rv.open_]) []:=by
 refine QaM Tryz.func38 (by kernel_rfl) (by kernel_rfl) (fun Γ=>?_)
 unfold QgK at h
 obtain rfl:=Option.some.inj h
 exact gr 4 [] []
def Ql7 (Γ:Gam) (rv:Bool) (cf:Cf):Prop:=Go Tryz.prog Tryz.f11 [] Γ (one (.bool rv)) [] cf
def QjB (Γ:Gam) (rv:Bool) (a:List Qad) (b:List Qaf) (i:Int):Prop:=Ql7 Γ rv ⟨[.c 116,.l 116,.b 0,.c 15],⟨28,[vL 0 9 a Qad.enc,vL 1 9 b Qaf.enc,vI 5 i],[]⟩⟩
def QiP (Γ:Gam) (rv:Bool) (a:List Qad) (b:List Qaf):Prop:=Ql7 Γ rv ⟨[.c 15],⟨28,[],[]⟩⟩
theorem Qnt (Γ:Gam) (rv:Bool) {a b} {s:Int} {e:(Unit)⊕(Bool)} (h:loopF (fun s=>QbS a b s) s=some e) (hD:sel e (fun e=>QiP Γ rv a b) (fun e=>e=rv)):QjB Γ rv a b s:=by
 refine Qaz (C:=fun (s:Int)=>QjB Γ rv a b s) (D:=fun (e:(Unit)⊕(Bool))=>sel e (fun e=>QiP Γ rv a b) (fun e=>e=rv)) ?_ h hD
 clear h hD s e
 intro i z_ h hI hE
 replace h:QbS a b i=_:=h
 unfold QbS at h
 rcases Qai h with ⟨h1,h⟩|⟨h1,h⟩
 ·obtain ⟨x0,h2,h⟩:=Qae h
  obtain ⟨r,h3,h⟩:=Qae h
  obtain ⟨x1,h4,h⟩:=Qae h
  obtain ⟨r1,h5,h⟩:=Qae h
  rcases Qai h with ⟨h6,h⟩|⟨h6,h⟩
  ·exact gn 14 [0,1,5] [] [nL Qad.enc a,bT h1,hH (.draw 11 []),cE Qad.enc h2,cC (Qko h3),cE Qaf.enc h4,cC (Qll h5),nF h6] (hI _ (oJ h))
  ·obtain rfl:=(hE _ (oJ h):_=rv)
   exact gr 12 [] [nL Qad.enc a,bT h1,hH (.draw 11 []),cE Qad.enc h2,cC (Qko h3),cE Qaf.enc h4,cC (Qll h5),nT h6]
 ·exact gn 5 [] [] [nL Qad.enc a,bF h1] (hE _ (oJ h))
theorem Qla {a b} {rv:Bool} (h:QfZ a b=some rv):AFn Tryz.prog 11 [.one (lL 9 a Qad.enc),.one (lL 9 b Qaf.enc)] [] (one (.bool rv)) []:=by
 refine QaM Tryz.func11 (by kernel_rfl) (by kernel_rfl) (fun Γ=>?_)
 unfold QfZ at h
 rcases Qai h with ⟨h0,h⟩|⟨h0,h⟩
 ·obtain rfl:=Option.some.inj h
  exact gr 8 [] [nL Qad.enc a,nL Qaf.enc b,bT h0]
 ·obtain ⟨e0,h7,h⟩:=Qae h
  refine gn 12 [0,1,5] [] [nL Qad.enc a,nL Qaf.enc b,bF h0] (Qnt Γ rv h7 ?_)
  rcases e0 with e0|e0
  ·replace h:(some true:Option Bool)=some _:=h
   obtain rfl:=Option.some.inj h
   exact gr 2 [] []
  ·obtain ⟨r2,rfl⟩:∃ x,x=e0:=⟨_,rfl⟩
   replace h:(some r2:Option Bool)=some _:=h
   exact Option.some.inj h
theorem Qbw {n p} {rv:Bool} (h:Qef n p=some rv):AFn Tryz.prog 83 [.agg (Qak.enc n),.one (lI p)] [] (one (.bool rv)) []:=by
 refine QaM Tryz.func83 (by kernel_rfl) (by kernel_rfl) (fun Γ=>?_)
 unfold Qef at h
 obtain rfl:=Option.some.inj h
 exact gr 4 [] [rp 4 hP,rp 2 (oI ((geI p 0)=true)),nL e_str n.places,hP,hP,rp 2 (oI ((geI p 0)=true)),oR True ((geI p 0)=true)]
def Qmc (Γ:Gam) (rv:Qan×Bool) (cf:Cf):Prop:=Go Tryz.prog Tryz.f84 [] Γ (.tup [.agg [lI rv.1.from_,lI rv.1.to_,lI rv.1.profile,lI rv.1.miles,lL 2 rv.1.travel Qaj.enc,lL 2 rv.1.slow Qaj.enc],.one (.bool rv.2)]) [] cf
def QjL (Γ:Gam) (rv:Qan×Bool) (n:Qak) (profile:Int) (from_:Int) (to_:Int) (i:Int):Prop:=Qmc Γ rv ⟨[.c 52,.l 52,.b 0,.c 7],⟨42,[vI 1 profile,vI 2 from_,vI 3 to_,vP 4 0 2,vP 8 1 6,vI 10 i],[oX 2 25 (Qak.enc n),oX 6 77 [lI 0,lI 0,lI 0,lI 0,.nils,.nils]]⟩⟩
def QiV (Γ:Gam) (rv:Qan×Bool) (n:Qak) (profile:Int) (from_:Int) (to_:Int):Prop:=Qmc Γ rv ⟨[.c 7],⟨42,[vP 8 0 6],[oX 6 77 [lI 0,lI 0,lI 0,lI 0,.nils,.nils]]⟩⟩
theorem Qnx (Γ:Gam) (rv:Qan×Bool) {n profile from_ to_} {s:Int} {e:(Unit)⊕(Qan×Bool)} (h:loopF (fun s=>Qdr n profile from_ to_ s) s=some e) (hD:sel e (fun e=>QiV Γ rv n profile from_ to_) (fun e=>e=rv)):QjL Γ rv n profile from_ to_ s:=by
 refine Qaz (C:=fun (s:Int)=>QjL Γ rv n profile from_ to_ s) (D:=fun (e:(Unit)⊕(Qan×Bool))=>sel e (fun e=>QiV Γ rv n profile from_ to_) (fun e=>e=rv)) ?_ h hD
 clear h hD s e
 intro i z_ h hI hE
 replace h:Qdr n profile from_ to_ i=_:=h
 unfold Qdr at h
 rcases Qai h with ⟨h0,h⟩|⟨h0,h⟩
 ·obtain ⟨x0,h1,h⟩:=Qae h
  rcases Qai h with ⟨h2,h⟩|⟨h2,h⟩
  ·obtain rfl:=(hE _ (oJ h):_=rv)
   exact gr 14 [] [nL Qan.enc n.arcs,bT h0,cE Qan.enc h1,rp 10 hP,rp 3 (oI ((eqI x0.from_ from_)=true)),oR True ((eqI x0.from_ from_)=true),rp 3 (oI (((eqI x0.from_ from_)&&(eqI x0.to_ to_))=true)),oR True (((eqI x0.from_ from_)&&(eqI x0.to_ to_))=true),bT h2]
  ·exact gn 16 [1,2,3,4,8,10] [0,1] [nL Qan.enc n.arcs,bT h0,cE Qan.enc h1,rp 10 hP,rp 3 (oI ((eqI x0.from_ from_)=true)),oR True ((eqI x0.from_ from_)=true),rp 3 (oI (((eqI x0.from_ from_)&&(eqI x0.to_ to_))=true)),oR True (((eqI x0.from_ from_)&&(eqI x0.to_ to_))=true),bF h2] (hI _ (oJ h))
 ·exact gn 5 [8] [1] [nL Qan.enc n.arcs,bF h0] (hE _ (oJ h))
theorem Qld {n profile from_ to_} {rv:Qan×Bool} (h:Qf1 n profile from_ to_=some rv):AFn Tryz.prog 84 [.agg (Qak.enc n),.one (lI profile),.one (lI from_),.one (lI to_)] [] (.tup [.agg [lI rv.1.from_,lI rv.1.to_,lI rv.1.profile,lI rv.1.miles,lL 2 rv.1.travel Qaj.enc,lL 2 rv.1.slow Qaj.enc],.one (.bool rv.2)]) []:=by
 refine QaM Tryz.func84 (by kernel_rfl) (by kernel_rfl) (fun Γ=>?_)
 unfold Qf1 at h
 obtain ⟨e0,h3,h⟩:=Qae h
 refine gn 7 [1,2,3,4,8,10] [0,1] [] (Qnx Γ rv h3 ?_)
 rcases e0 with e0|e0
 ·replace h:(some ((Qan.mk 0 0 0 0 [] []),false):Option (Qan×Bool))=some _:=h
  obtain rfl:=Option.some.inj h
  exact gr 2 [] [hW 5,hH (.nilB 0 4 2),hH (.nilB 0 5 2)]
 ·obtain ⟨r,rfl⟩:∃ x,x=e0:=⟨_,rfl⟩
  replace h:(some r:Option (Qan×Bool))=some _:=h
  exact Option.some.inj h
def Qkv (Γ:Gam) (rv:Int) (cf:Cf):Prop:=Go Tryz.prog Tryz.f116 [] Γ (one (lI rv)) [] cf
def QhU (Γ:Gam) (rv:Int) (l:List Qaj) (t:Int) (i:Int):Prop:=Qkv Γ rv ⟨[.c 116,.l 116,.b 0,.c 15],⟨93,[vL 0 2 l Qaj.enc,vI 1 t,vI 5 i],[]⟩⟩
def Qhf (Γ:Gam) (rv:Int) (l:List Qaj) (t:Int):Prop:=Qkv Γ rv ⟨[.c 15],⟨93,[vL 0 2 l Qaj.enc,vI 1 t],[]⟩⟩
theorem Qmr (Γ:Gam) (rv:Int) {l t} {s:Int} {e:(Unit)⊕(Int)} (h:loopF (fun s=>QcA l t s) s=some e) (hD:sel e (fun e=>Qhf Γ rv l t) (fun e=>e=rv)):QhU Γ rv l t s:=by
 refine Qaz (C:=fun (s:Int)=>QhU Γ rv l t s) (D:=fun (e:(Unit)⊕(Int))=>sel e (fun e=>Qhf Γ rv l t) (fun e=>e=rv)) ?_ h hD
 clear h hD s e
 intro i z_ h hI hE
 replace h:QcA l t i=_:=h
 unfold QcA at h
 rcases Qai h with ⟨h2,h⟩|⟨h2,h⟩
 ·obtain ⟨x0,h3,h⟩:=Qae h
  obtain ⟨x1,h4,h⟩:=Qae h
  rcases Qai h with ⟨h5,h⟩|⟨h5,h⟩
  ·obtain ⟨h6,h⟩:=Qas h
   obtain rfl:=(hE _ (oJ h):_=rv)
   exact gr 16 [] [nL Qaj.enc l,bT h2,cE Qaj.enc h3,cE Qaj.enc h4,rp 5 hP,rp 3 (oI ((leI x0.t t)=true)),oR True ((leI x0.t t)=true),bT h5,hH (.draw 27 []),oO (h6)]
  ·exact gn 18 [0,1,5] [] [nL Qaj.enc l,bT h2,cE Qaj.enc h3,cE Qaj.enc h4,rp 5 hP,rp 3 (oI ((leI x0.t t)=true)),oR True ((leI x0.t t)=true),bF h5] (hI _ (oJ h))
 ·exact gn 5 [0,1] [] [nL Qaj.enc l,bF h2] (hE _ (oJ h))
theorem Qn6 {l t} {rv:Int} (h:QeQ l t=some rv):AFn Tryz.prog 116 [.one (lL 2 l Qaj.enc),.one (lI t)] [] (one (lI rv)) []:=by
 refine QaM Tryz.func116 (by kernel_rfl) (by kernel_rfl) (fun Γ=>?_)
 unfold QeQ at h
 obtain ⟨r,h0,h⟩:=Qae h
 rcases Qai h with ⟨h1,h⟩|⟨h1,h⟩
 ·obtain rfl:=Option.some.inj h
  exact gr 8 [] [cC (QgP h0),nL Qaa.enc r,rp 6 hP,oI ((gtI (lenI r) 0)=false),oR True ((gtI (lenI r) 0)=false),oI (((gtI (lenI r) 0)||(ltI t 0))=false),oR True (((gtI (lenI r) 0)||(ltI t 0))=false),bT h1]
 ·obtain ⟨e0,h7,h⟩:=Qae h
  refine gn 12 [0,1,5] [] [cC (QgP h0),nL Qaa.enc r,rp 6 hP,oI ((gtI (lenI r) 0)=false),oR True ((gtI (lenI r) 0)=false),oI (((gtI (lenI r) 0)||(ltI t 0))=false),oR True (((gtI (lenI r) 0)||(ltI t 0))=false),bF h1] (Qmr Γ rv h7 ?_)
  rcases e0 with e0|e0
  ·replace h:(bnd (getI l 0) fun x2=>br (gtI t x2.t) (bnd (getI l (subK .i64 (lenI l) 1)) fun x3=>some (subK .i64 (addK .i64 t x3.a) x3.t)) (some (subK .i64 (addK .i64 t x2.a) x2.t)):Option Int)=some _:=h
   obtain ⟨x2,h8,h⟩:=Qae h
   rcases Qai h with ⟨h9,h⟩|⟨h9,h⟩
   ·obtain ⟨x3,h10,h⟩:=Qae h
    obtain rfl:=Option.some.inj h
    exact gr 9 [] [cE Qaj.enc h8,bT h9,nL Qaj.enc l,cE Qaj.enc h10]
   ·obtain rfl:=Option.some.inj h
    exact gr 9 [] [cE Qaj.enc h8,bF h9]
  ·obtain ⟨r1,rfl⟩:∃ x,x=e0:=⟨_,rfl⟩
   replace h:(some r1:Option Int)=some _:=h
   exact Option.some.inj h
def Qkx (Γ:Gam) (rv:Int) (cf:Cf):Prop:=Go Tryz.prog Tryz.f85 [] Γ (one (lI rv)) [] cf
def QhX (Γ:Gam) (rv:Int) (a:Qan) (t:Int) (n:Int) (i:Int):Prop:=Qkx Γ rv ⟨[.c 116,.l 116,.b 0,.c 15],⟨35,[vI 1 t,vP 2 0 6,vI 5 n,vI 6 i],[oX 6 77 (Qan.enc a)]⟩⟩
def Qhg (Γ:Gam) (rv:Int) (a:Qan) (t:Int) (n1:Int):Prop:=Qkx Γ rv ⟨[.c 15],⟨35,[vI 5 n1],[]⟩⟩
theorem Qms (Γ:Gam) (rv:Int) {a t} {s:Int×Int} {e:Int} (h:loopF (fun s=>QeF a t s.1 s.2) s=some e) (hD:Qhg Γ rv a t e):QhX Γ rv a t s.1 s.2:=by
 refine Qaz (C:=fun (s:Int×Int)=>QhX Γ rv a t s.1 s.2) (D:=fun (e:Int)=>Qhg Γ rv a t e) ?_ h hD
 clear h hD s e
 rintro ⟨n,i⟩ z_ h hI hE
 replace h:QeF a t n i=_:=h
 unfold QeF at h
 rcases Qai h with ⟨h1,h⟩|⟨h1,h⟩
 ·obtain ⟨x0,h2,h⟩:=Qae h
  rcases Qai h with ⟨h3,h⟩|⟨h3,h⟩
  ·exact gn 14 [1,2,5,6] [0] [nL Qaj.enc a.slow,bT h1,cE Qaj.enc h2,bT h3,cE Qaj.enc h2] (hI _ (oJ h))
  ·exact gn 14 [1,2,5,6] [0] [nL Qaj.enc a.slow,bT h1,cE Qaj.enc h2,bF h3] (hI _ (oJ h))
 ·exact gn 5 [5] [] [nL Qaj.enc a.slow,bF h1] (hE _ (oJ h))
theorem Qn7 {a t} {rv:Int} (h:QeS a t=some rv):AFn Tryz.prog 85 [.agg (Qan.enc a),.one (lI t)] [] (one (lI rv)) []:=by
 refine QaM Tryz.func85 (by kernel_rfl) (by kernel_rfl) (fun Γ=>?_)
 unfold QeS at h
 obtain ⟨r,h0,h⟩:=Qae h
 obtain ⟨e0,h4,h⟩:=Qae h
 refine gn 9 [1,2,5,6] [0] [cC (Qn6 h0)] (Qms Γ rv h4 ?_)
 obtain ⟨n1,rfl⟩:∃ x,x=e0:=⟨_,rfl⟩
 replace h:(some n1:Option Int)=some _:=h
 obtain rfl:=Option.some.inj h
 exact gr 2 [] []
theorem QdA {n profile from_ to_ t} {rv:Int×Int×Int} (h:Qdi n profile from_ to_ t=some rv):AFn Tryz.prog 42 [.agg (Qak.enc n),.one (lI profile),.one (lI from_),.one (lI to_),.one (lI t)] [] (.tup [.one (lI rv.1),.one (lI rv.2.1),.one (lI rv.2.2)]) []:=by
 refine QaM Tryz.func42 (by kernel_rfl) (by kernel_rfl) (fun Γ=>?_)
 unfold Qdi at h
 obtain ⟨r,h0,h⟩:=Qae h
 rcases Qai h with ⟨h1,h⟩|⟨h1,h⟩
 ·obtain ⟨r1,h2,h⟩:=Qae h
  rcases Qai h with ⟨h3,h⟩|⟨h3,h⟩
  ·rcases Qai h with ⟨h4,h⟩|⟨h4,h⟩
   ·obtain rfl:=Option.some.inj h
    exact gr 13 [] [cC (Qbw h0),rp 3 (nF h1),cC (Qbw h2),nF h1,nF h1,nF h3,bT h4]
   ·obtain ⟨r2,h5,h⟩:=Qae h
    rcases Qai h with ⟨h6,h⟩|⟨h6,h⟩
    ·obtain ⟨r3,h7,h⟩:=Qae h
     obtain rfl:=Option.some.inj h
     exact gr 21 [] [cC (Qbw h0),rp 3 (nF h1),cC (Qbw h2),nF h1,nF h1,nF h3,bF h4,cC (Qld h5),nF h6,hH (.draw 8 []),cC (Qn7 h7)]
    ·obtain rfl:=Option.some.inj h
     exact gr 20 [] [cC (Qbw h0),rp 3 (nF h1),cC (Qbw h2),nF h1,nF h1,nF h3,bF h4,cC (Qld h5),nT h6]
  ·obtain rfl:=Option.some.inj h
   exact gr 8 [] [cC (Qbw h0),rp 3 (nF h1),cC (Qbw h2),nF h1,nF h1,nT h3]
 ·obtain rfl:=Option.some.inj h
  exact gr 8 [] [cC (Qbw h0),rp 5 (nT h1),tT]
def QkB (Γ:Gam) (rv:Bool) (cf:Cf):Prop:=Go Tryz.prog Tryz.f86 [] Γ (one (.bool rv)) [] cf
def Qiv (Γ:Gam) (rv:Bool) (l:List Qab) (at_:Int) (i:Int):Prop:=QkB Γ rv ⟨[.c 52,.l 52,.b 0,.c 7],⟨22,[vL 0 2 l Qab.enc,vI 1 at_,vI 5 i],[]⟩⟩
def Qhq (Γ:Gam) (rv:Bool) (l:List Qab) (at_:Int):Prop:=QkB Γ rv ⟨[.c 7],⟨22,[],[]⟩⟩
theorem Qmw (Γ:Gam) (rv:Bool) {l at_} {s:Int} {e:(Unit)⊕(Bool)} (h:loopF (fun s=>Qbq l at_ s) s=some e) (hD:sel e (fun e=>Qhq Γ rv l at_) (fun e=>e=rv)):Qiv Γ rv l at_ s:=by
 refine Qaz (C:=fun (s:Int)=>Qiv Γ rv l at_ s) (D:=fun (e:(Unit)⊕(Bool))=>sel e (fun e=>Qhq Γ rv l at_) (fun e=>e=rv)) ?_ h hD
 clear h hD s e
 intro i z_ h hI hE
 replace h:Qbq l at_ i=_:=h
 unfold Qbq at h
 rcases Qai h with ⟨h0,h⟩|⟨h0,h⟩
 ·obtain ⟨x0,h1,h⟩:=Qae h
  obtain ⟨x1,h2,h⟩:=Qae h
  rcases Qai h with ⟨h3,h⟩|⟨h3,h⟩
  ·obtain rfl:=(hE _ (oJ h):_=rv)
   exact gr 12 [] [bT h0,hH (.draw 11 []),cE Qab.enc h1,cE Qab.enc h2,bT h3]
  ·exact gn 14 [0,1,5] [] [bT h0,hH (.draw 11 []),cE Qab.enc h1,cE Qab.enc h2,bF h3] (hI _ (oJ h))
 ·exact gn 5 [] [] [bF h0] (hE _ (oJ h))
theorem QcC {l at_} {rv:Bool} (h:QeU l at_=some rv):AFn Tryz.prog 86 [.one (lL 2 l Qab.enc),.one (lI at_)] [] (one (.bool rv)) []:=by
 refine QaM Tryz.func86 (by kernel_rfl) (by kernel_rfl) (fun Γ=>?_)
 unfold QeU at h
 obtain ⟨e0,h4,h⟩:=Qae h
 refine gn 7 [0,1,5] [] [] (Qmw Γ rv h4 ?_)
 rcases e0 with e0|e0
 ·replace h:(some true:Option Bool)=some _:=h
  obtain rfl:=Option.some.inj h
  exact gr 2 [] []
 ·obtain ⟨r,rfl⟩:∃ x,x=e0:=⟨_,rfl⟩
  replace h:(some r:Option Bool)=some _:=h
  exact Option.some.inj h
def QhF (Γ:Gam) (rv:QaK) (cf:Cf):Prop:=Go Tryz.prog Tryz.f43 [] Γ (gG [lI rv.cost,lI rv.moved,lI rv.other,lI rv.work]) [] cf
def QfU (Γ:Gam) (rv:QaK) (x0:Qac) (r:Qaw) (s0:QaB) (x1:Qah) (moved:Int) (other:Int) (i:Int):Prop:=QhF Γ rv ⟨[.c 1012,.l 1012,.b 0,.c 127],⟨128,[vP 3 0 6,vP 4 1 4,vP 6 2 4,vP 9 3 4,vI 10 i],[oX 6 30 (Qac.enc x0),oX 4 66 (Qaw.enc r),oX 4 98 [lI 0,lI 0,lI 0,lI 0],oX 4 98 [lI (addK .i64 (addK .i64 x1.fixed (mulK .i64 x1.perMile s0.miles)) (mulK .i64 x1.perTick (subK .i64 s0.end_ x1.open_))),lI moved,lI other,lI (mulK .i64 (quoK .i64 (subK .i64 s0.end_ x1.open_) 64) (quoK .i64 (subK .i64 s0.end_ x1.open_) 64))]]⟩⟩
def Qfr (Γ:Gam) (rv:QaK) (x0:Qac) (r:Qaw) (s0:QaB) (x1:Qah) (moved2:Int) (other1:Int):Prop:=QhF Γ rv ⟨[.c 127],⟨128,[vP 6 0 4,vP 9 1 4],[oX 4 98 [lI 0,lI 0,lI 0,lI 0],oX 4 98 [lI (addK .i64 (addK .i64 x1.fixed (mulK .i64 x1.perMile s0.miles)) (mulK .i64 x1.perTick (subK .i64 s0.end_ x1.open_))),lI moved2,lI other1,lI (mulK .i64 (quoK .i64 (subK .i64 s0.end_ x1.open_) 64) (quoK .i64 (subK .i64 s0.end_ x1.open_) 64))]]⟩⟩
theorem Qiu (Γ:Gam) (rv:QaK) {x0 r s0 x1 other i x2 moved1} {x:(Int×Int×Int)⊕(Int×Int)} (h:QdX x0 r s0 x1 other i x2 moved1=some x) (hI:∀ s:Int×Int×Int,x=.inl s→QfU Γ rv x0 r s0 x1 s.1 s.2.1 s.2.2) (hE:∀ e:Int×Int,x=.inr e→Qfr Γ rv x0 r s0 x1 e.1 e.2):QhF Γ rv ⟨[.c 64807,.b 1,.c 4051,.l 1012,.b 0,.c 127],⟨128,[vP 3 0 6,vP 4 1 4,vP 6 2 4,vP 9 3 4,vI 10 i,vI 11 x2.order],[oX 6 30 (Qac.enc x0),oX 4 66 (Qaw.enc r),oX 4 98 [lI 0,lI 0,lI 0,lI 0],oX 4 98 [lI (addK .i64 (addK .i64 x1.fixed (mulK .i64 x1.perMile s0.miles)) (mulK .i64 x1.perTick (subK .i64 s0.end_ x1.open_))),lI moved1,lI other,lI (mulK .i64 (quoK .i64 (subK .i64 s0.end_ x1.open_) 64) (quoK .i64 (subK .i64 s0.end_ x1.open_) 64))]]⟩⟩:=by
 unfold QdX at h
 obtain ⟨x4,h10,h⟩:=Qae h
 rcases Qai h with ⟨h11,h⟩|⟨h11,h⟩
 ·rcases Qai h with ⟨h12,h⟩|⟨h12,h⟩
  ·exact gn 7 [3,4,6,9,10] [0,1,2,3] [hH (.draw 18 []),cE Qag.enc h10,rp 4 (bT h11),cE Qag.enc h10,rp 6 (bT h11),bT h12] (hI _ (oJ h))
  ·exact gn 7 [3,4,6,9,10] [0,1,2,3] [hH (.draw 18 []),cE Qag.enc h10,rp 4 (bT h11),cE Qag.enc h10,rp 6 (bT h11),bF h12] (hI _ (oJ h))
 ·exact gn 7 [3,4,6,9,10] [0,1,2,3] [hH (.draw 18 []),cE Qag.enc h10,rp 10 (bF h11),fF] (hI _ (oJ h))
theorem Qm0 (Γ:Gam) (rv:QaK) {x0 r s0 x1} {s:Int×Int×Int} {e:Int×Int} (h:loopF (fun s=>Qbj x0 r s0 x1 s.1 s.2.1 s.2.2) s=some e) (hD:Qfr Γ rv x0 r s0 x1 e.1 e.2):QfU Γ rv x0 r s0 x1 s.1 s.2.1 s.2.2:=by
 refine Qaz (C:=fun (s:Int×Int×Int)=>QfU Γ rv x0 r s0 x1 s.1 s.2.1 s.2.2) (D:=fun (e:Int×Int)=>Qfr Γ rv x0 r s0 x1 e.1 e.2) ?_ h hD
 clear h hD s e
 rintro ⟨moved,other,i⟩ z_ h hI hE
 replace h:Qbj x0 r s0 x1 moved other i=_:=h
 unfold Qbj at h
 rcases Qai h with ⟨h2,h⟩|⟨h2,h⟩
 ·obtain ⟨x2,h3,h⟩:=Qae h
  rcases Qai h with ⟨h4,h⟩|⟨h4,h⟩
  ·exact gn 16 [3,4,6,9,10] [0,1,2,3] [nL Qab.enc r.visits,bT h2,cE Qab.enc h3,rp 4 hP,rp 2 (oI ((ltI x2.order 0)=false)),nL Qag.enc x0.orders,hP,hP,rp 2 (oI ((ltI x2.order 0)=false)),oR True ((ltI x2.order 0)=false),rp 6 (bT h4),tT] (hI _ (oJ h))
  ·obtain ⟨r1,h5,h⟩:=Qae h
   rcases Qai h with ⟨h6,h⟩|⟨h6,h⟩
   ·obtain ⟨x3,h7,h⟩:=Qae h
    rcases Qai h with ⟨h8,h⟩|⟨h8,h⟩
    ·rcases Qai h with ⟨h9,h⟩|⟨h9,h⟩
     ·exact gn 19 [3,4,6,9,10,11] [0,1,2,3] [nL Qab.enc r.visits,bT h2,cE Qab.enc h3,rp 4 hP,rp 2 (oI ((ltI x2.order 0)=false)),nL Qag.enc x0.orders,hP,hP,rp 2 (oI ((ltI x2.order 0)=false)),oR True ((ltI x2.order 0)=false),rp 4 (bF h4),cC (QcC h5),bF h4,bF h4,nF h6,hH (.draw 18 []),cE Qag.enc h7,rp 4 (bT h8),cE Qag.enc h7,rp 6 (bT h8),bT h9] (Qiu Γ rv h hI hE)
     ·exact gn 19 [3,4,6,9,10,11] [0,1,2,3] [nL Qab.enc r.visits,bT h2,cE Qab.enc h3,rp 4 hP,rp 2 (oI ((ltI x2.order 0)=false)),nL Qag.enc x0.orders,hP,hP,rp 2 (oI ((ltI x2.order 0)=false)),oR True ((ltI x2.order 0)=false),rp 4 (bF h4),cC (QcC h5),bF h4,bF h4,nF h6,hH (.draw 18 []),cE Qag.enc h7,rp 4 (bT h8),cE Qag.enc h7,rp 6 (bT h8),bF h9] (Qiu Γ rv h hI hE)
    ·rcases Qai h with ⟨h13,h⟩|⟨h13,h⟩
     ·rcases Qai h with ⟨h14,h⟩|⟨h14,h⟩
      ·exact gn 26 [3,4,6,9,10] [0,1,2,3] [nL Qab.enc r.visits,bT h2,cE Qab.enc h3,rp 4 hP,rp 2 (oI ((ltI x2.order 0)=false)),nL Qag.enc x0.orders,hP,hP,rp 2 (oI ((ltI x2.order 0)=false)),oR True ((ltI x2.order 0)=false),rp 4 (bF h4),cC (QcC h5),bF h4,bF h4,nF h6,hH (.draw 18 []),cE Qag.enc h7,rp 10 (bF h8),fF,hH (.draw 18 []),cE Qag.enc h7,rp 4 (bT h13),cE Qag.enc h7,rp 6 (bT h13),bT h14] (hI _ (oJ h))
      ·exact gn 26 [3,4,6,9,10] [0,1,2,3] [nL Qab.enc r.visits,bT h2,cE Qab.enc h3,rp 4 hP,rp 2 (oI ((ltI x2.order 0)=false)),nL Qag.enc x0.orders,hP,hP,rp 2 (oI ((ltI x2.order 0)=false)),oR True ((ltI x2.order 0)=false),rp 4 (bF h4),cC (QcC h5),bF h4,bF h4,nF h6,hH (.draw 18 []),cE Qag.enc h7,rp 10 (bF h8),fF,hH (.draw 18 []),cE Qag.enc h7,rp 4 (bT h13),cE Qag.enc h7,rp 6 (bT h13),bF h14] (hI _ (oJ h))
     ·exact gn 26 [3,4,6,9,10] [0,1,2,3] [nL Qab.enc r.visits,bT h2,cE Qab.enc h3,rp 4 hP,rp 2 (oI ((ltI x2.order 0)=false)),nL Qag.enc x0.orders,hP,hP,rp 2 (oI ((ltI x2.order 0)=false)),oR True ((ltI x2.order 0)=false),rp 4 (bF h4),cC (QcC h5),bF h4,bF h4,nF h6,hH (.draw 18 []),cE Qag.enc h7,rp 10 (bF h8),fF,hH (.draw 18 []),cE Qag.enc h7,rp 10 (bF h13),fF] (hI _ (oJ h))
   ·exact gn 16 [3,4,6,9,10] [0,1,2,3] [nL Qab.enc r.visits,bT h2,cE Qab.enc h3,rp 4 hP,rp 2 (oI ((ltI x2.order 0)=false)),nL Qag.enc x0.orders,hP,hP,rp 2 (oI ((ltI x2.order 0)=false)),oR True ((ltI x2.order 0)=false),rp 4 (bF h4),cC (QcC h5),bF h4,bF h4,nT h6] (hI _ (oJ h))
 ·exact gn 5 [6,9] [2,3] [nL Qab.enc r.visits,bF h2] (hE _ (oJ h))
theorem QoB {x0 r s0} {rv:QaK} (h:Qeo x0 r s0=some rv):AFn Tryz.prog 43 [.agg (Qac.enc x0),.agg (Qaw.enc r),.agg (QaB.enc s0)] [] (gG [lI rv.cost,lI rv.moved,lI rv.other,lI rv.work]) []:=by
 refine QaM Tryz.func43 (by kernel_rfl) (by kernel_rfl) (fun Γ=>?_)
 unfold Qeo at h
 rcases Qai h with ⟨h0,h⟩|⟨h0,h⟩
 ·obtain rfl:=Option.some.inj h
  exact gr 8 [] [rp 5 hP,rp 3 (oI ((ltI r.type_ 0)=false)),nL Qah.enc x0.types,hP,hP,rp 2 (oI ((ltI r.type_ 0)=false)),oR True ((ltI r.type_ 0)=false),bT h0]
 ·obtain ⟨x1,h1,h⟩:=Qae h
  obtain ⟨e0,h15,h⟩:=Qae h
  refine gn 18 [3,4,6,9,10] [0,1,3,5] [rp 5 hP,rp 3 (oI ((ltI r.type_ 0)=false)),nL Qah.enc x0.types,hP,hP,rp 2 (oI ((ltI r.type_ 0)=false)),oR True ((ltI r.type_ 0)=false),bF h0,cE Qah.enc h1,rp 2 (oO (oA (n:=64)))] (Qm0 Γ rv h15 ?_)
  obtain ⟨moved2,other1⟩:=e0
  replace h:(some (QaK.mk (addK .i64 (addK .i64 x1.fixed (mulK .i64 x1.perMile s0.miles)) (mulK .i64 x1.perTick (subK .i64 s0.end_ x1.open_))) moved2 other1 (mulK .i64 (quoK .i64 (subK .i64 s0.end_ x1.open_) 64) (quoK .i64 (subK .i64 s0.end_ x1.open_) 64))):Option QaK)=some _:=h
  obtain rfl:=Option.some.inj h
  exact gr 2 [] []
theorem QkA {s0} {rv:Bool} (h:QgY s0=some rv):AFn Tryz.prog 87 [.agg (QaK.enc s0)] [] (one (.bool rv)) []:=by
 refine QaM Tryz.func87 (by kernel_rfl) (by kernel_rfl) (fun Γ=>?_)
 unfold QgY at h
 obtain rfl:=Option.some.inj h
 exact gr 4 [] [rp 28 hP,rp 2 (oI ((geI s0.cost 0)=true)),oR True ((geI s0.cost 0)=true),rp 2 (oI (((geI s0.cost 0)&&(leI s0.cost 1073741824))=true)),oR True (((geI s0.cost 0)&&(leI s0.cost 1073741824))=true),rp 2 (oI ((((geI s0.cost 0)&&(leI s0.cost 1073741824))&&(geI s0.moved 0))=true)),oR True ((((geI s0.cost 0)&&(leI s0.cost 1073741824))&&(geI s0.moved 0))=true),rp 2 (oI (((((geI s0.cost 0)&&(leI s0.cost 1073741824))&&(geI s0.moved 0))&&(leI s0.moved 15))=true)),oR True (((((geI s0.cost 0)&&(leI s0.cost 1073741824))&&(geI s0.moved 0))&&(leI s0.moved 15))=true),rp 2 (oI ((((((geI s0.cost 0)&&(leI s0.cost 1073741824))&&(geI s0.moved 0))&&(leI s0.moved 15))&&(geI s0.other 0))=true)),oR True ((((((geI s0.cost 0)&&(leI s0.cost 1073741824))&&(geI s0.moved 0))&&(leI s0.moved 15))&&(geI s0.other 0))=true),rp 2 (oI (((((((geI s0.cost 0)&&(leI s0.cost 1073741824))&&(geI s0.moved 0))&&(leI s0.moved 15))&&(geI s0.other 0))&&(leI s0.other 15))=true)),oR True (((((((geI s0.cost 0)&&(leI s0.cost 1073741824))&&(geI s0.moved 0))&&(leI s0.moved 15))&&(geI s0.other 0))&&(leI s0.other 15))=true),rp 2 (oI ((((((((geI s0.cost 0)&&(leI s0.cost 1073741824))&&(geI s0.moved 0))&&(leI s0.moved 15))&&(geI s0.other 0))&&(leI s0.other 15))&&(geI s0.work 0))=true)),oR True ((((((((geI s0.cost 0)&&(leI s0.cost 1073741824))&&(geI s0.moved 0))&&(leI s0.moved 15))&&(geI s0.other 0))&&(leI s0.other 15))&&(geI s0.work 0))=true)]
theorem Qoa {s0} {rv:Int×Int} (h:Qda s0=some rv):AFn Tryz.prog 44 [.agg (QaK.enc s0)] [] (.tup [.one (lI rv.1),.one (lI rv.2)]) []:=by
 refine QaM Tryz.func44 (by kernel_rfl) (by kernel_rfl) (fun Γ=>?_)
 unfold Qda at h
 rcases Qai h with ⟨h0,h⟩|⟨h0,h⟩
 ·obtain rfl:=Option.some.inj h
  exact gr 8 [] [rp 12 hP,rp 2 (oI ((ltI s0.cost 0)=false)),oR True ((ltI s0.cost 0)=false),rp 2 (oI (((ltI s0.cost 0)||(ltI s0.moved 0))=false)),oR True (((ltI s0.cost 0)||(ltI s0.moved 0))=false),rp 2 (oI ((((ltI s0.cost 0)||(ltI s0.moved 0))||(ltI s0.other 0))=false)),oR True ((((ltI s0.cost 0)||(ltI s0.moved 0))||(ltI s0.other 0))=false),bT h0]
 ·obtain ⟨r,h1,h⟩:=Qae h
  rcases Qai h with ⟨h2,h⟩|⟨h2,h⟩
  ·obtain rfl:=Option.some.inj h
   exact gr 14 [] [rp 12 hP,rp 2 (oI ((ltI s0.cost 0)=false)),oR True ((ltI s0.cost 0)=false),rp 2 (oI (((ltI s0.cost 0)||(ltI s0.moved 0))=false)),oR True (((ltI s0.cost 0)||(ltI s0.moved 0))=false),rp 2 (oI ((((ltI s0.cost 0)||(ltI s0.moved 0))||(ltI s0.other 0))=false)),oR True ((((ltI s0.cost 0)||(ltI s0.moved 0))||(ltI s0.other 0))=false),bF h0,cC (QkA h1),nF h2]
  ·obtain rfl:=Option.some.inj h
   exact gr 13 [] [rp 12 hP,rp 2 (oI ((ltI s0.cost 0)=false)),oR True ((ltI s0.cost 0)=false),rp 2 (oI (((ltI s0.cost 0)||(ltI s0.moved 0))=false)),oR True (((ltI s0.cost 0)||(ltI s0.moved 0))=false),rp 2 (oI ((((ltI s0.cost 0)||(ltI s0.moved 0))||(ltI s0.other 0))=false)),oR True ((((ltI s0.cost 0)||(ltI s0.moved 0))||(ltI s0.other 0))=false),bF h0,cC (QkA h1),nT h2]
theorem QgZ {x0 l} {rv:Int×Int×Bool} (h:Qfs x0 l=some rv):AFn Tryz.prog 13 [.agg (Qac.enc x0),.agg (Qaf.enc l)] [] (.tup [.one (lI rv.1),.one (lI rv.2.1),.one (.bool rv.2.2)]) []:=by
 refine QaM Tryz.func13 (by kernel_rfl) (by kernel_rfl) (fun Γ=>?_)
 unfold Qfs at h
 rcases Qai h with ⟨h0,h⟩|⟨h0,h⟩
 ·obtain rfl:=Option.some.inj h
  exact gr 8 [] [nL Qab.enc l.visits,rp 4 hP,rp 2 (oI ((eqI (lenI l.visits) 0)=false)),oR True ((eqI (lenI l.visits) 0)=false),bT h0]
 ·obtain ⟨x1,h1,h⟩:=Qae h
  obtain ⟨r,h2,h⟩:=Qae h
  rcases Qai h with ⟨h3,h⟩|⟨h3,h⟩
  ·obtain rfl:=Option.some.inj h
   exact gr 17 [] [nL Qab.enc l.visits,rp 4 hP,rp 2 (oI ((eqI (lenI l.visits) 0)=false)),oR True ((eqI (lenI l.visits) 0)=false),bF h0,cE Qah.enc h1,cC (QdA h2),rp 16 hP,rp 9 (oI ((neI r.2.2 0)=false)),oR True ((neI r.2.2 0)=false),rp 3 (oI (((neI r.2.2 0)||(gtI (subK .i64 (addK .i64 l.driven r.1) l.time) x1.drive))=false)),oR True (((neI r.2.2 0)||(gtI (subK .i64 (addK .i64 l.driven r.1) l.time) x1.drive))=false),bT h3]
  ·obtain ⟨r1,h4,h⟩:=Qae h
   obtain ⟨r2,h5,h⟩:=Qae h
   obtain rfl:=Option.some.inj h
   exact gr 22 [] [nL Qab.enc l.visits,rp 4 hP,rp 2 (oI ((eqI (lenI l.visits) 0)=false)),oR True ((eqI (lenI l.visits) 0)=false),bF h0,cE Qah.enc h1,cC (QdA h2),rp 16 hP,rp 9 (oI ((neI r.2.2 0)=false)),oR True ((neI r.2.2 0)=false),rp 3 (oI (((neI r.2.2 0)||(gtI (subK .i64 (addK .i64 l.driven r.1) l.time) x1.drive))=false)),oR True (((neI r.2.2 0)||(gtI (subK .i64 (addK .i64 l.driven r.1) l.time) x1.drive))=false),bF h3,hW 15,hH (.nilS 69 2 1),hH (.nilS 75 2 4),cC (QoB h4),cC (Qoa h5)]
def Qiw (Γ:Gam) (rv:Bool) (cf:Cf):Prop:=Go Tryz.prog Tryz.f15 [] Γ (one (.bool rv)) [] cf
def QgB (Γ:Gam) (rv:Bool) (a:Qaf) (b:Qaf) (i:Int):Prop:=Qiw Γ rv ⟨[.c 116,.l 116,.b 0,.c 15],⟨78,[vP 2 0 9,vP 3 1 9,vI 5 i],[oX 9 49 (Qaf.enc a),oX 9 49 (Qaf.enc b)]⟩⟩
def Qf5 (Γ:Gam) (rv:Bool) (a:Qaf) (b:Qaf):Prop:=Qiw Γ rv ⟨[.c 15],⟨78,[vP 2 0 9,vP 3 1 9],[oX 9 49 (Qaf.enc a),oX 9 49 (Qaf.enc b)]⟩⟩
theorem QkY (Γ:Gam) (rv:Bool) {a b} {s:Int} {e:(Unit)⊕(Bool)} (h:loopF (fun s=>Qcx a b s) s=some e) (hD:sel e (fun e=>Qf5 Γ rv a b) (fun e=>e=rv)):QgB Γ rv a b s:=by
 refine Qaz (C:=fun (s:Int)=>QgB Γ rv a b s) (D:=fun (e:(Unit)⊕(Bool))=>sel e (fun e=>Qf5 Γ rv a b) (fun e=>e=rv)) ?_ h hD
 clear h hD s e
 intro i z_ h hI hE
 replace h:Qcx a b i=_:=h
 unfold Qcx at h
 rcases Qai h with ⟨h1,h⟩|⟨h1,h⟩
 ·obtain ⟨x0,h2,h⟩:=Qae h
  obtain ⟨x1,h3,h⟩:=Qae h
  rcases Qai h with ⟨h4,h⟩|⟨h4,h⟩
  ·obtain rfl:=(hE _ (oJ h):_=rv)
   exact gr 12 [] [nL e_i64 a.load,bT h1,hH (.draw 11 []),cE e_i64 h2,cE e_i64 h3,bT h4]
  ·exact gn 14 [2,3,5] [0,1] [nL e_i64 a.load,bT h1,hH (.draw 11 []),cE e_i64 h2,cE e_i64 h3,bF h4] (hI _ (oJ h))
 ·exact gn 5 [2,3] [0,1] [nL e_i64 a.load,bF h1] (hE _ (oJ h))
theorem Qhr {a b} {rv:Bool} (h:QdC a b=some rv):AFn Tryz.prog 15 [.agg (Qaf.enc a),.agg (Qaf.enc b)] [] (one (.bool rv)) []:=by
 refine QaM Tryz.func15 (by kernel_rfl) (by kernel_rfl) (fun Γ=>?_)
 unfold QdC at h
 rcases Qai h with ⟨h0,h⟩|⟨h0,h⟩
 ·obtain rfl:=Option.some.inj h
  exact gr 8 [] [rp 21 hP,rp 4 (oI ((neI a.type_ b.type_)=false)),oR True ((neI a.type_ b.type_)=false),rp 4 (oI (((neI a.type_ b.type_)||(neI a.place b.place))=false)),oR True (((neI a.type_ b.type_)||(neI a.place b.place))=false),rp 4 (oI ((((neI a.type_ b.type_)||(neI a.place b.place))||(neI a.done b.done))=false)),oR True ((((neI a.type_ b.type_)||(neI a.place b.place))||(neI a.done b.done))=false),rp 2 (oI (((((neI a.type_ b.type_)||(neI a.place b.place))||(neI a.done b.done))||(neI a.open_ b.open_))=false)),nL e_i64 a.load,hP,hP,hP,rp 2 (oI (((((neI a.type_ b.type_)||(neI a.place b.place))||(neI a.done b.done))||(neI a.open_ b.open_))=false)),nL e_i64 b.load,hP,hP,rp 2 (oI (((((neI a.type_ b.type_)||(neI a.place b.place))||(neI a.done b.done))||(neI a.open_ b.open_))=false)),oR True (((((neI a.type_ b.type_)||(neI a.place b.place))||(neI a.done b.done))||(neI a.open_ b.open_))=false),bT h0]
 ·obtain ⟨e0,h5,h⟩:=Qae h
  refine gn 12 [2,3,5] [0,1] [rp 21 hP,rp 4 (oI ((neI a.type_ b.type_)=false)),oR True ((neI a.type_ b.type_)=false),rp 4 (oI (((neI a.type_ b.type_)||(neI a.place b.place))=false)),oR True (((neI a.type_ b.type_)||(neI a.place b.place))=false),rp 4 (oI ((((neI a.type_ b.type_)||(neI a.place b.place))||(neI a.done b.done))=false)),oR True ((((neI a.type_ b.type_)||(neI a.place b.place))||(neI a.done b.done))=false),rp 2 (oI (((((neI a.type_ b.type_)||(neI a.place b.place))||(neI a.done b.done))||(neI a.open_ b.open_))=false)),nL e_i64 a.load,hP,hP,hP,rp 2 (oI (((((neI a.type_ b.type_)||(neI a.place b.place))||(neI a.done b.done))||(neI a.open_ b.open_))=false)),nL e_i64 b.load,hP,hP,rp 2 (oI (((((neI a.type_ b.type_)||(neI a.place b.place))||(neI a.done b.done))||(neI a.open_ b.open_))=false)),oR True (((((neI a.type_ b.type_)||(neI a.place b.place))||(neI a.done b.done))||(neI a.open_ b.open_))=false),bF h0] (QkY Γ rv h5 ?_)
  rcases e0 with e0|e0
  ·replace h:(some (((leI a.time b.time)&&(leI a.driven b.driven))&&(leI a.miles b.miles)):Option Bool)=some _:=h
   obtain rfl:=Option.some.inj h
   exact gr 2 [] [rp 12 hP,rp 4 (oI ((leI a.time b.time)=true)),oR True ((leI a.time b.time)=true),rp 4 (oI (((leI a.time b.time)&&(leI a.driven b.driven))=true)),oR True (((leI a.time b.time)&&(leI a.driven b.driven))=true)]
  ·obtain ⟨r,rfl⟩:∃ x,x=e0:=⟨_,rfl⟩
   replace h:(some r:Option Bool)=some _:=h
   exact Option.some.inj h
def QpL (Γ:Gam) (rv:Qap×Int) (cf:Cf):Prop:=Go Tryz.prog Tryz.f50 [] Γ (.tup [.agg [lI rv.1.place,lI rv.1.open_,lI rv.1.close,lI rv.1.service],.one (lI rv.2)]) [] cf
theorem Qi4 (Γ:Gam) (rv:Qap×Int) {x1} (h:Qdt x1=some rv):QpL Γ rv ⟨[.c 31],⟨34,[vP 4 0 4,vP 6 1 4],[oX 4 81 [lI 0,lI 0,lI 0,lI 0],oX 4 81 (Qap.enc x1)]⟩⟩:=by
 unfold Qdt at h
 rcases Qai h with ⟨h4,h⟩|⟨h4,h⟩
 ·obtain rfl:=Option.some.inj h
  exact gr 6 [] [bT h4]
 ·obtain rfl:=Option.some.inj h
  exact gr 7 [] [bF h4]
theorem Qa1 {l v} {rv:Qap×Int} (h:Qdk l v=some rv):AFn Tryz.prog 50 [.one (lL 16 l Qag.enc),.agg (Qab.enc v)] [] (.tup [.agg [lI rv.1.place,lI rv.1.open_,lI rv.1.close,lI rv.1.service],.one (lI rv.2)]) []:=by
 refine QaM Tryz.func50 (by kernel_rfl) (by kernel_rfl) (fun Γ=>?_)
 unfold Qdk at h
 obtain ⟨r,h0,h⟩:=Qae h
 rcases Qai h with ⟨h1,h⟩|⟨h1,h⟩
 ·obtain ⟨x0,h2,h⟩:=Qae h
  rcases Qai h with ⟨h3,h⟩|⟨h3,h⟩
  ·exact gn 14 [4,6] [1,2] [nL Qag.enc l,cC (Qau h0),nF h1,cE Qag.enc h2,bT h3,cE Qag.enc h2] (Qi4 Γ rv h)
  ·exact gn 14 [4,6] [1,2] [nL Qag.enc l,cC (Qau h0),nF h1,cE Qag.enc h2,bF h3] (Qi4 Γ rv h)
 ·obtain rfl:=Option.some.inj h
  exact gr 8 [] [nL Qag.enc l,cC (Qau h0),nT h1]
def Qct (Γ:Gam) (rv:Bool) (cf:Cf):Prop:=Go Tryz.prog Tryz.f49 [] Γ (one (.bool rv)) [] cf
def QjT (Γ:Gam) (rv:Bool) (x0:Qac) (l:Qaf) (v:Qab) (x1:Qag) (r1:Bool) (i:Int):Prop:=Qct Γ rv ⟨[.c 500,.l 500,.b 0,.c 63],⟨152,[vP 3 0 6,vP 4 1 9,vP 5 2 2,vB 9 r1,vI 10 i],[oX 6 30 (Qac.enc x0),oX 9 49 (Qaf.enc l),oX 2 54 (Qab.enc v)]⟩⟩
def Qja (Γ:Gam) (rv:Bool) (x0:Qac) (l:Qaf) (v:Qab) (x1:Qag) (r1:Bool):Prop:=Qct Γ rv ⟨[.c 63],⟨152,[vP 3 0 6,vP 4 1 9,vP 5 2 2,vB 9 r1],[oX 6 30 (Qac.enc x0),oX 9 49 (Qaf.enc l),oX 2 54 (Qab.enc v)]⟩⟩
def QjU (Γ:Gam) (rv:Bool) (x0:Qac) (l:Qaf) (v:Qab) (x1:Qag) (r1:Bool) (i1:Int):Prop:=Qct Γ rv ⟨[.c 1012,.l 1012,.b 2,.c 127],⟨152,[vP 3 0 6,vP 4 1 9,vP 5 2 2,vB 9 r1,vI 12 i1],[oX 6 30 (Qac.enc x0),oX 9 49 (Qaf.enc l),oX 2 54 (Qab.enc v)]⟩⟩
def Qjb (Γ:Gam) (rv:Bool) (x0:Qac) (l:Qaf) (v:Qab) (x1:Qag) (r1:Bool):Prop:=Qct Γ rv ⟨[.c 127],⟨152,[],[]⟩⟩
def QjV (Γ:Gam) (rv:Bool) (x0:Qac) (l:Qaf) (v:Qab) (x1:Qag) (r1:Bool) (i2:Int):Prop:=Qct Γ rv ⟨[.c 500,.l 500,.b 0,.c 63],⟨152,[vP 3 0 6,vP 4 1 9,vP 5 2 2,vB 9 r1,vI 10 i2],[oX 6 30 (Qac.enc x0),oX 9 49 (Qaf.enc l),oX 2 54 (Qab.enc v)]⟩⟩
def Qjc (Γ:Gam) (rv:Bool) (x0:Qac) (l:Qaf) (v:Qab) (x1:Qag) (r1:Bool):Prop:=Qct Γ rv ⟨[.c 63],⟨152,[vP 3 0 6,vP 4 1 9,vP 5 2 2,vB 9 r1],[oX 6 30 (Qac.enc x0),oX 9 49 (Qaf.enc l),oX 2 54 (Qab.enc v)]⟩⟩
def QjW (Γ:Gam) (rv:Bool) (x0:Qac) (l:Qaf) (v:Qab) (x1:Qag) (r1:Bool) (i3:Int):Prop:=Qct Γ rv ⟨[.c 1012,.l 1012,.b 2,.c 127],⟨152,[vP 3 0 6,vP 4 1 9,vP 5 2 2,vB 9 r1,vI 12 i3],[oX 6 30 (Qac.enc x0),oX 9 49 (Qaf.enc l),oX 2 54 (Qab.enc v)]⟩⟩
def Qjd (Γ:Gam) (rv:Bool) (x0:Qac) (l:Qaf) (v:Qab) (x1:Qag) (r1:Bool):Prop:=Qct Γ rv ⟨[.c 127],⟨152,[],[]⟩⟩
theorem QnC (Γ:Gam) (rv:Bool) {x0 l v x1 r1} {s:Int} {e:(Unit)⊕(Bool)} (h:loopF (fun s=>QbW x0 l v x1 r1 s) s=some e) (hD:sel e (fun e=>Qja Γ rv x0 l v x1 r1) (fun e=>e=rv)):QjT Γ rv x0 l v x1 r1 s:=by
 refine Qaz (C:=fun (s:Int)=>QjT Γ rv x0 l v x1 r1 s) (D:=fun (e:(Unit)⊕(Bool))=>sel e (fun e=>Qja Γ rv x0 l v x1 r1) (fun e=>e=rv)) ?_ h hD
 clear h hD s e
 intro i z_ h hI hE
 replace h:QbW x0 l v x1 r1 i=_:=h
 unfold QbW at h
 rcases Qai h with ⟨h12,h⟩|⟨h12,h⟩
 ·obtain ⟨x3,h13,h⟩:=Qae h
  rcases Qai h with ⟨h14,h⟩|⟨h14,h⟩
  ·obtain ⟨r4,h15,h⟩:=Qae h
   rcases Qai h with ⟨h16,h⟩|⟨h16,h⟩
   ·obtain rfl:=(hE _ (oJ h):_=rv)
    exact gr 14 [] [nL Qar.enc x0.apart,bT h12,cE Qar.enc h13,oO (zL 0),oO (lT 0 2),rp 6 (bT h14),oO (zL 1),oO (lT 1 2),rp 2 (bT h14),cC (Qaq h15),bT h14,rp 6 (bT h16),rp 8 kF,rp 2 (bT h16),tT]
   ·rcases Qai h with ⟨h17,h⟩|⟨h17,h⟩
    ·obtain ⟨r5,h18,h⟩:=Qae h
     rcases Qai h with ⟨h19,h⟩|⟨h19,h⟩
     ·obtain rfl:=(hE _ (oJ h):_=rv)
      exact gr 14 [] [nL Qar.enc x0.apart,bT h12,cE Qar.enc h13,oO (zL 0),oO (lT 0 2),rp 6 (bT h14),oO (zL 1),oO (lT 1 2),rp 2 (bT h14),cC (Qaq h15),bT h14,bF h16,oO (zL 1),oO (lT 1 2),rp 5 (bF h16),rp 6 (bT h17),oO (zL 0),oO (lT 0 2),rp 2 (bT h17),cC (Qaq h18),bF h16,bT h17,bF h16,bT h19]
     ·exact gn 16 [3,4,5,9,10] [0,1,2] [nL Qar.enc x0.apart,bT h12,cE Qar.enc h13,oO (zL 0),oO (lT 0 2),rp 6 (bT h14),oO (zL 1),oO (lT 1 2),rp 2 (bT h14),cC (Qaq h15),bT h14,bF h16,oO (zL 1),oO (lT 1 2),rp 5 (bF h16),rp 6 (bT h17),oO (zL 0),oO (lT 0 2),rp 2 (bT h17),cC (Qaq h18),bF h16,bT h17,bF h16,bF h19] (hI _ (oJ h))
    ·exact gn 16 [3,4,5,9,10] [0,1,2] [nL Qar.enc x0.apart,bT h12,cE Qar.enc h13,oO (zL 0),oO (lT 0 2),rp 6 (bT h14),oO (zL 1),oO (lT 1 2),rp 2 (bT h14),cC (Qaq h15),bT h14,bF h16,oO (zL 1),oO (lT 1 2),rp 5 (bF h16),rp 8 (bF h17),bF h16,bF h17,bF h16,fF] (hI _ (oJ h))
  ·rcases Qai h with ⟨h20,h⟩|⟨h20,h⟩
   ·obtain ⟨r6,h21,h⟩:=Qae h
    rcases Qai h with ⟨h22,h⟩|⟨h22,h⟩
    ·obtain rfl:=(hE _ (oJ h):_=rv)
     exact gr 14 [] [nL Qar.enc x0.apart,bT h12,cE Qar.enc h13,oO (zL 0),oO (lT 0 2),rp 9 (bF h14),fF,oO (zL 1),oO (lT 1 2),rp 5 fF,rp 6 (bT h20),oO (zL 0),oO (lT 0 2),rp 2 (bT h20),cC (Qaq h21),fF,bT h20,fF,bT h22]
    ·exact gn 16 [3,4,5,9,10] [0,1,2] [nL Qar.enc x0.apart,bT h12,cE Qar.enc h13,oO (zL 0),oO (lT 0 2),rp 9 (bF h14),fF,oO (zL 1),oO (lT 1 2),rp 5 fF,rp 6 (bT h20),oO (zL 0),oO (lT 0 2),rp 2 (bT h20),cC (Qaq h21),fF,bT h20,fF,bF h22] (hI _ (oJ h))
   ·exact gn 16 [3,4,5,9,10] [0,1,2] [nL Qar.enc x0.apart,bT h12,cE Qar.enc h13,oO (zL 0),oO (lT 0 2),rp 9 (bF h14),fF,oO (zL 1),oO (lT 1 2),rp 5 fF,rp 8 (bF h20),fF,bF h20,fF,fF] (hI _ (oJ h))
 ·exact gn 5 [3,4,5,9] [0,1,2] [nL Qar.enc x0.apart,bF h12] (hE _ (oJ h))
theorem QnD (Γ:Gam) (rv:Bool) {x0 l v x1 r1} {s:Int} {e:(Unit)⊕(Bool)} (h:loopF (fun s=>Qbt x0 l v x1 r1 s) s=some e) (hD:sel e (fun e=>Qjb Γ rv x0 l v x1 r1) (fun e=>e=rv)):QjU Γ rv x0 l v x1 r1 s:=by
 refine Qaz (C:=fun (s:Int)=>QjU Γ rv x0 l v x1 r1 s) (D:=fun (e:(Unit)⊕(Bool))=>sel e (fun e=>Qjb Γ rv x0 l v x1 r1) (fun e=>e=rv)) ?_ h hD
 clear h hD s e
 intro i1 z_ h hI hE
 replace h:Qbt x0 l v x1 r1 i1=_:=h
 unfold Qbt at h
 rcases Qai h with ⟨h24,h⟩|⟨h24,h⟩
 ·obtain ⟨x4,h25,h⟩:=Qae h
  rcases Qai h with ⟨h26,h⟩|⟨h26,h⟩
  ·obtain ⟨r7,h27,h⟩:=Qae h
   rcases Qai h with ⟨h28,h⟩|⟨h28,h⟩
   ·obtain ⟨r8,h29,h⟩:=Qae h
    rcases Qai h with ⟨h30,h⟩|⟨h30,h⟩
    ·obtain rfl:=(hE _ (oJ h):_=rv)
     exact gr 14 [] [nL Qar.enc x0.before,hP,hP,hP,oI ((ltI i1 (lenI x0.before))=true),oR True ((ltI i1 (lenI x0.before))=true),bT h24,cE Qar.enc h25,oO (zL 1),oO (lT 1 2),rp 3 (bT h26),oO (zL 0),oO (lT 0 2),rp 2 (bT h26),cC (Qaq h27),rp 2 (bT h26),rp 3 (nF h28),oO (zL 0),oO (lT 0 2),rp 2 (nF h28),cC (Qaq h29),bT h26,nF h28,bT h26,bT h30]
    ·exact gn 16 [3,4,5,9,12] [0,1,2] [nL Qar.enc x0.before,hP,hP,hP,oI ((ltI i1 (lenI x0.before))=true),oR True ((ltI i1 (lenI x0.before))=true),bT h24,cE Qar.enc h25,oO (zL 1),oO (lT 1 2),rp 3 (bT h26),oO (zL 0),oO (lT 0 2),rp 2 (bT h26),cC (Qaq h27),rp 2 (bT h26),rp 3 (nF h28),oO (zL 0),oO (lT 0 2),rp 2 (nF h28),cC (Qaq h29),bT h26,nF h28,bT h26,bF h30] (hI _ (oJ h))
   ·obtain rfl:=(hE _ (oJ h):_=rv)
    exact gr 14 [] [nL Qar.enc x0.before,hP,hP,hP,oI ((ltI i1 (lenI x0.before))=true),oR True ((ltI i1 (lenI x0.before))=true),bT h24,cE Qar.enc h25,oO (zL 1),oO (lT 1 2),rp 3 (bT h26),oO (zL 0),oO (lT 0 2),rp 2 (bT h26),cC (Qaq h27),rp 2 (bT h26),rp 5 (nT h28),bT h26,nT h28,bT h26,tT]
  ·exact gn 16 [3,4,5,9,12] [0,1,2] [nL Qar.enc x0.before,hP,hP,hP,oI ((ltI i1 (lenI x0.before))=true),oR True ((ltI i1 (lenI x0.before))=true),bT h24,cE Qar.enc h25,oO (zL 1),oO (lT 1 2),rp 7 (bF h26),rp 5 kF,rp 2 (bF h26),fF] (hI _ (oJ h))
 ·exact gn 5 [] [] [nL Qar.enc x0.before,hP,hP,hP,oI ((ltI i1 (lenI x0.before))=true),oR True ((ltI i1 (lenI x0.before))=true),bF h24] (hE _ (oJ h))
theorem QnE (Γ:Gam) (rv:Bool) {x0 l v x1 r1} {s:Int} {e:(Unit)⊕(Bool)} (h:loopF (fun s=>QbX x0 l v x1 r1 s) s=some e) (hD:sel e (fun e=>Qjc Γ rv x0 l v x1 r1) (fun e=>e=rv)):QjV Γ rv x0 l v x1 r1 s:=by
 refine Qaz (C:=fun (s:Int)=>QjV Γ rv x0 l v x1 r1 s) (D:=fun (e:(Unit)⊕(Bool))=>sel e (fun e=>Qjc Γ rv x0 l v x1 r1) (fun e=>e=rv)) ?_ h hD
 clear h hD s e
 intro i2 z_ h hI hE
 replace h:QbX x0 l v x1 r1 i2=_:=h
 unfold QbX at h
 rcases Qai h with ⟨h35,h⟩|⟨h35,h⟩
 ·obtain ⟨x6,h36,h⟩:=Qae h
  rcases Qai h with ⟨h37,h⟩|⟨h37,h⟩
  ·obtain ⟨r12,h38,h⟩:=Qae h
   rcases Qai h with ⟨h39,h⟩|⟨h39,h⟩
   ·obtain rfl:=(hE _ (oJ h):_=rv)
    exact gr 14 [] [nL Qar.enc x0.apart,bT h35,cE Qar.enc h36,oO (zL 0),oO (lT 0 2),rp 6 (bT h37),oO (zL 1),oO (lT 1 2),rp 2 (bT h37),cC (Qaq h38),bT h37,rp 6 (bT h39),rp 8 kF,rp 2 (bT h39),tT]
   ·rcases Qai h with ⟨h40,h⟩|⟨h40,h⟩
    ·obtain ⟨r13,h41,h⟩:=Qae h
     rcases Qai h with ⟨h42,h⟩|⟨h42,h⟩
     ·obtain rfl:=(hE _ (oJ h):_=rv)
      exact gr 14 [] [nL Qar.enc x0.apart,bT h35,cE Qar.enc h36,oO (zL 0),oO (lT 0 2),rp 6 (bT h37),oO (zL 1),oO (lT 1 2),rp 2 (bT h37),cC (Qaq h38),bT h37,bF h39,oO (zL 1),oO (lT 1 2),rp 5 (bF h39),rp 6 (bT h40),oO (zL 0),oO (lT 0 2),rp 2 (bT h40),cC (Qaq h41),bF h39,bT h40,bF h39,bT h42]
     ·exact gn 16 [3,4,5,9,10] [0,1,2] [nL Qar.enc x0.apart,bT h35,cE Qar.enc h36,oO (zL 0),oO (lT 0 2),rp 6 (bT h37),oO (zL 1),oO (lT 1 2),rp 2 (bT h37),cC (Qaq h38),bT h37,bF h39,oO (zL 1),oO (lT 1 2),rp 5 (bF h39),rp 6 (bT h40),oO (zL 0),oO (lT 0 2),rp 2 (bT h40),cC (Qaq h41),bF h39,bT h40,bF h39,bF h42] (hI _ (oJ h))
    ·exact gn 16 [3,4,5,9,10] [0,1,2] [nL Qar.enc x0.apart,bT h35,cE Qar.enc h36,oO (zL 0),oO (lT 0 2),rp 6 (bT h37),oO (zL 1),oO (lT 1 2),rp 2 (bT h37),cC (Qaq h38),bT h37,bF h39,oO (zL 1),oO (lT 1 2),rp 5 (bF h39),rp 8 (bF h40),bF h39,bF h40,bF h39,fF] (hI _ (oJ h))
  ·rcases Qai h with ⟨h43,h⟩|⟨h43,h⟩
   ·obtain ⟨r14,h44,h⟩:=Qae h
    rcases Qai h with ⟨h45,h⟩|⟨h45,h⟩
    ·obtain rfl:=(hE _ (oJ h):_=rv)
     exact gr 14 [] [nL Qar.enc x0.apart,bT h35,cE Qar.enc h36,oO (zL 0),oO (lT 0 2),rp 9 (bF h37),fF,oO (zL 1),oO (lT 1 2),rp 5 fF,rp 6 (bT h43),oO (zL 0),oO (lT 0 2),rp 2 (bT h43),cC (Qaq h44),fF,bT h43,fF,bT h45]
    ·exact gn 16 [3,4,5,9,10] [0,1,2] [nL Qar.enc x0.apart,bT h35,cE Qar.enc h36,oO (zL 0),oO (lT 0 2),rp 9 (bF h37),fF,oO (zL 1),oO (lT 1 2),rp 5 fF,rp 6 (bT h43),oO (zL 0),oO (lT 0 2),rp 2 (bT h43),cC (Qaq h44),fF,bT h43,fF,bF h45] (hI _ (oJ h))
   ·exact gn 16 [3,4,5,9,10] [0,1,2] [nL Qar.enc x0.apart,bT h35,cE Qar.enc h36,oO (zL 0),oO (lT 0 2),rp 9 (bF h37),fF,oO (zL 1),oO (lT 1 2),rp 5 fF,rp 8 (bF h43),fF,bF h43,fF,fF] (hI _ (oJ h))
 ·exact gn 5 [3,4,5,9] [0,1,2] [nL Qar.enc x0.apart,bF h35] (hE _ (oJ h))
theorem QnF (Γ:Gam) (rv:Bool) {x0 l v x1 r1} {s:Int} {e:(Unit)⊕(Bool)} (h:loopF (fun s=>Qbu x0 l v x1 r1 s) s=some e) (hD:sel e (fun e=>Qjd Γ rv x0 l v x1 r1) (fun e=>e=rv)):QjW Γ rv x0 l v x1 r1 s:=by
 refine Qaz (C:=fun (s:Int)=>QjW Γ rv x0 l v x1 r1 s) (D:=fun (e:(Unit)⊕(Bool))=>sel e (fun e=>Qjd Γ rv x0 l v x1 r1) (fun e=>e=rv)) ?_ h hD
 clear h hD s e
 intro i3 z_ h hI hE
 replace h:Qbu x0 l v x1 r1 i3=_:=h
 unfold Qbu at h
 rcases Qai h with ⟨h47,h⟩|⟨h47,h⟩
 ·obtain ⟨x7,h48,h⟩:=Qae h
  rcases Qai h with ⟨h49,h⟩|⟨h49,h⟩
  ·obtain ⟨r15,h50,h⟩:=Qae h
   rcases Qai h with ⟨h51,h⟩|⟨h51,h⟩
   ·obtain ⟨r16,h52,h⟩:=Qae h
    rcases Qai h with ⟨h53,h⟩|⟨h53,h⟩
    ·obtain rfl:=(hE _ (oJ h):_=rv)
     exact gr 14 [] [nL Qar.enc x0.before,hP,hP,hP,oI ((ltI i3 (lenI x0.before))=true),oR True ((ltI i3 (lenI x0.before))=true),bT h47,cE Qar.enc h48,oO (zL 1),oO (lT 1 2),rp 3 (bT h49),oO (zL 0),oO (lT 0 2),rp 2 (bT h49),cC (Qaq h50),rp 2 (bT h49),rp 3 (nF h51),oO (zL 0),oO (lT 0 2),rp 2 (nF h51),cC (Qaq h52),bT h49,nF h51,bT h49,bT h53]
    ·exact gn 16 [3,4,5,9,12] [0,1,2] [nL Qar.enc x0.before,hP,hP,hP,oI ((ltI i3 (lenI x0.before))=true),oR True ((ltI i3 (lenI x0.before))=true),bT h47,cE Qar.enc h48,oO (zL 1),oO (lT 1 2),rp 3 (bT h49),oO (zL 0),oO (lT 0 2),rp 2 (bT h49),cC (Qaq h50),rp 2 (bT h49),rp 3 (nF h51),oO (zL 0),oO (lT 0 2),rp 2 (nF h51),cC (Qaq h52),bT h49,nF h51,bT h49,bF h53] (hI _ (oJ h))
   ·obtain rfl:=(hE _ (oJ h):_=rv)
    exact gr 14 [] [nL Qar.enc x0.before,hP,hP,hP,oI ((ltI i3 (lenI x0.before))=true),oR True ((ltI i3 (lenI x0.before))=true),bT h47,cE Qar.enc h48,oO (zL 1),oO (lT 1 2),rp 3 (bT h49),oO (zL 0),oO (lT 0 2),rp 2 (bT h49),cC (Qaq h50),rp 2 (bT h49),rp 5 (nT h51),bT h49,nT h51,bT h49,tT]
  ·exact gn 16 [3,4,5,9,12] [0,1,2] [nL Qar.enc x0.before,hP,hP,hP,oI ((ltI i3 (lenI x0.before))=true),oR True ((ltI i3 (lenI x0.before))=true),bT h47,cE Qar.enc h48,oO (zL 1),oO (lT 1 2),rp 7 (bF h49),rp 5 kF,rp 2 (bF h49),fF] (hI _ (oJ h))
 ·exact gn 5 [] [] [nL Qar.enc x0.before,hP,hP,hP,oI ((ltI i3 (lenI x0.before))=true),oR True ((ltI i3 (lenI x0.before))=true),bF h47] (hE _ (oJ h))
theorem Qep {x0 l v} {rv:Bool} (h:Qd6 x0 l v=some rv):AFn Tryz.prog 49 [.agg (Qac.enc x0),.agg (Qaf.enc l),.agg (Qab.enc v)] [] (one (.bool rv)) []:=by
 refine QaM Tryz.func49 (by kernel_rfl) (by kernel_rfl) (fun Γ=>?_)
 unfold Qd6 at h
 obtain ⟨r,h0,h⟩:=Qae h
 rcases Qai h with ⟨h1,h⟩|⟨h1,h⟩
 ·obtain rfl:=Option.some.inj h
  exact gr 10 [] [cC (Qa1 h0),rp 8 (bT h1),tT]
 ·obtain ⟨x1,h2,h⟩:=Qae h
  rcases Qai h with ⟨h3,h⟩|⟨h3,h⟩
  ·obtain rfl:=Option.some.inj h
   exact gr 10 [] [cC (Qa1 h0),rp 5 (bF h1),cE Qag.enc h2,rp 3 (bF h1),bT h3]
  ·obtain ⟨r1,h4,h⟩:=Qae h
   rcases Qai h with ⟨h5,h⟩|⟨h5,h⟩
   ·obtain rfl:=Option.some.inj h
    exact gr 17 [] [cC (Qa1 h0),rp 5 (bF h1),cE Qag.enc h2,rp 3 (bF h1),bF h3,cC (Qaq h4),hH (.draw 35 []),hP,hP,oR True ((!v.drop)=true),rp 3 (bT h5),rp 6 kF,bT h5,bT h5,rp 17 tT]
   ·rcases Qai h with ⟨h6,h⟩|⟨h6,h⟩
    ·obtain ⟨r2,h7,h⟩:=Qae h
     rcases Qai h with ⟨h8,h⟩|⟨h8,h⟩
     ·obtain ⟨x2,h9,h⟩:=Qae h
      obtain ⟨r3,h10,h⟩:=Qae h
      rcases Qai h with ⟨h11,h⟩|⟨h11,h⟩
      ·obtain ⟨e0,h23,h⟩:=Qae h
       refine gn 21 [3,4,5,9,10] [0,1,2] [cC (Qa1 h0),rp 5 (bF h1),cE Qag.enc h2,rp 3 (bF h1),bF h3,cC (Qaq h4),hH (.draw 35 []),hP,hP,oR True ((!v.drop)=true),rp 3 (bF h5),rp 5 (bT h6),cC (Qaq h7),bT h6,bF h5,bT h6,bF h5,rp 5 (nF h8),cE Qah.enc h9,rp 6 (nF h8),cE Qag.enc h2,rp 3 (nF h8),cC (Qds h10),nF h8,nF h8,nF h11] (QnC Γ rv h23 ?_)
       rcases e0 with e0|e0
       ·replace h:(bnd (loopF (fun s=>Qbt x0 l v x1 r1 s) 0) (fun e=>sel e (fun (_:Unit)=>some true) (fun r9=>some r9)):Option Bool)=some _:=h
        obtain ⟨e1,h31,h⟩:=Qae h
        refine gn 5 [3,4,5,9,12] [0,1,2] [] (QnD Γ rv h31 ?_)
        rcases e1 with e1|e1
        ·replace h:(some true:Option Bool)=some _:=h
         obtain rfl:=Option.some.inj h
         exact gr 2 [] []
        ·obtain ⟨r9,rfl⟩:∃ x,x=e1:=⟨_,rfl⟩
         replace h:(some r9:Option Bool)=some _:=h
         exact Option.some.inj h
       ·obtain ⟨r10,rfl⟩:∃ x,x=e0:=⟨_,rfl⟩
        replace h:(some r10:Option Bool)=some _:=h
        exact Option.some.inj h
      ·obtain rfl:=Option.some.inj h
       exact gr 17 [] [cC (Qa1 h0),rp 5 (bF h1),cE Qag.enc h2,rp 3 (bF h1),bF h3,cC (Qaq h4),hH (.draw 35 []),hP,hP,oR True ((!v.drop)=true),rp 3 (bF h5),rp 5 (bT h6),cC (Qaq h7),bT h6,bF h5,bT h6,bF h5,rp 5 (nF h8),cE Qah.enc h9,rp 6 (nF h8),cE Qag.enc h2,rp 3 (nF h8),cC (Qds h10),nF h8,nF h8,nT h11]
     ·obtain rfl:=Option.some.inj h
      exact gr 17 [] [cC (Qa1 h0),rp 5 (bF h1),cE Qag.enc h2,rp 3 (bF h1),bF h3,cC (Qaq h4),hH (.draw 35 []),hP,hP,oR True ((!v.drop)=true),rp 3 (bF h5),rp 5 (bT h6),cC (Qaq h7),bT h6,bF h5,bT h6,bF h5,rp 16 (nT h8),tT]
    ·obtain ⟨x5,h32,h⟩:=Qae h
     obtain ⟨r11,h33,h⟩:=Qae h
     rcases Qai h with ⟨h34,h⟩|⟨h34,h⟩
     ·obtain ⟨e2,h46,h⟩:=Qae h
      refine gn 21 [3,4,5,9,10] [0,1,2] [cC (Qa1 h0),rp 5 (bF h1),cE Qag.enc h2,rp 3 (bF h1),bF h3,cC (Qaq h4),hH (.draw 35 []),hP,hP,oR True ((!v.drop)=true),rp 3 (bF h5),rp 6 (bF h6),bF h5,bF h6,bF h5,rp 5 fF,cE Qah.enc h32,rp 6 fF,cE Qag.enc h2,fF,fF,fF,cC (Qds h33),fF,fF,nF h34] (QnE Γ rv h46 ?_)
      rcases e2 with e2|e2
      ·replace h:(bnd (loopF (fun s=>Qbu x0 l v x1 r1 s) 0) (fun e=>sel e (fun (_:Unit)=>some true) (fun r17=>some r17)):Option Bool)=some _:=h
       obtain ⟨e3,h54,h⟩:=Qae h
       refine gn 5 [3,4,5,9,12] [0,1,2] [] (QnF Γ rv h54 ?_)
       rcases e3 with e3|e3
       ·replace h:(some true:Option Bool)=some _:=h
        obtain rfl:=Option.some.inj h
        exact gr 2 [] []
       ·obtain ⟨r17,rfl⟩:∃ x,x=e3:=⟨_,rfl⟩
        replace h:(some r17:Option Bool)=some _:=h
        exact Option.some.inj h
      ·obtain ⟨r18,rfl⟩:∃ x,x=e2:=⟨_,rfl⟩
       replace h:(some r18:Option Bool)=some _:=h
       exact Option.some.inj h
     ·obtain rfl:=Option.some.inj h
      exact gr 17 [] [cC (Qa1 h0),rp 5 (bF h1),cE Qag.enc h2,rp 3 (bF h1),bF h3,cC (Qaq h4),hH (.draw 35 []),hP,hP,oR True ((!v.drop)=true),rp 3 (bF h5),rp 6 (bF h6),bF h5,bF h6,bF h5,rp 5 fF,cE Qah.enc h32,rp 6 fF,cE Qag.enc h2,fF,fF,fF,cC (Qds h33),fF,fF,nT h34]
theorem Qkw {s0 arrive} {rv:Int×Int} (h:QgQ s0 arrive=some rv):AFn Tryz.prog 91 [.agg (Qap.enc s0),.one (lI arrive)] [] (.tup [.one (lI rv.1),.one (lI rv.2)]) []:=by
 refine QaM Tryz.func91 (by kernel_rfl) (by kernel_rfl) (fun Γ=>?_)
 unfold QgQ at h
 rcases Qai h with ⟨h0,h⟩|⟨h0,h⟩
 ·obtain rfl:=Option.some.inj h
  exact gr 8 [] [bT h0]
 ·rcases Qai h with ⟨h1,h⟩|⟨h1,h⟩
  ·obtain rfl:=Option.some.inj h
   exact gr 13 [] [bF h0,bT h1]
  ·obtain rfl:=Option.some.inj h
   exact gr 14 [] [bF h0,bF h1]
theorem Qgk {s0 arrive} {rv:Int×Int} (h:QeR s0 arrive=some rv):AFn Tryz.prog 51 [.agg (Qap.enc s0),.one (lI arrive)] [] (.tup [.one (lI rv.1),.one (lI rv.2)]) []:=by
 refine QaM Tryz.func51 (by kernel_rfl) (by kernel_rfl) (fun Γ=>?_)
 unfold QeR at h
 obtain ⟨r,h0,h⟩:=Qae h
 rcases Qai h with ⟨h1,h⟩|⟨h1,h⟩
 ·obtain rfl:=Option.some.inj h
  exact gr 10 [] [cC (Qkw h0),bT h1]
 ·obtain rfl:=Option.some.inj h
  exact gr 11 [] [cC (Qkw h0),bF h1]
def QmM (Γ:Gam) (rv:List Int×Int) (cf:Cf):Prop:=Go Tryz.prog Tryz.f52 [] Γ (.tup [.one (lL 1 rv.1 e_i64),.one (lI rv.2)]) [] cf
def Qkq (Γ:Gam) (rv:List Int×Int) (a:List Int) (b:List Int) (l:List Int) (i:Int):Prop:=QmM Γ rv ⟨[.c 244,.l 244,.b 0,.c 31],⟨32,[vL 0 1 a e_i64,vL 1 1 b e_i64,vO 6 0 1 l e_i64,vI 7 i],[oS 1 3 l e_i64]⟩⟩
def QjF (Γ:Gam) (rv:List Int×Int) (a:List Int) (b:List Int) (l1:List Int):Prop:=QmM Γ rv ⟨[.c 31],⟨32,[vO 6 0 1 l1 e_i64],[oS 1 3 l1 e_i64]⟩⟩
theorem Qn2 (Γ:Gam) (rv:List Int×Int) {a b} {s:List Int×Int} {e:List Int} (h:loopF (fun s=>QbJ a b s.1 s.2) s=some e) (hD:QjF Γ rv a b e):Qkq Γ rv a b s.1 s.2:=by
 refine Qaz (C:=fun (s:List Int×Int)=>Qkq Γ rv a b s.1 s.2) (D:=fun (e:List Int)=>QjF Γ rv a b e) ?_ h hD
 clear h hD s e
 rintro ⟨l,i⟩ z_ h hI hE
 replace h:QbJ a b l i=_:=h
 unfold QbJ at h
 rcases Qai h with ⟨h1,h⟩|⟨h1,h⟩
 ·obtain ⟨x0,h2,h⟩:=Qae h
  obtain ⟨x1,h3,h⟩:=Qae h
  obtain ⟨h4,h⟩:=Qas h
  exact gn 11 [0,1,6,7] [2] [nL e_i64 a,bT h1,hH (.draw 11 []),cE e_i64 h2,cE e_i64 h3,oO (Eq.refl ([(addK .i64 x0 x1)].map e_i64).length),aO e_i64 h4] (hI _ (oJ h))
 ·exact gn 5 [6] [0] [nL e_i64 a,bF h1] (hE _ (oJ h))
theorem Ql9 {a b} {rv:List Int×Int} (h:QfB a b=some rv):AFn Tryz.prog 52 [.one (lL 1 a e_i64),.one (lL 1 b e_i64)] [] (.tup [.one (lL 1 rv.1 e_i64),.one (lI rv.2)]) []:=by
 refine QaM Tryz.func52 (by kernel_rfl) (by kernel_rfl) (fun Γ=>?_)
 unfold QfB at h
 rcases Qai h with ⟨h0,h⟩|⟨h0,h⟩
 ·obtain rfl:=Option.some.inj h
  exact gr 8 [] [nL e_i64 a,nL e_i64 b,bT h0,hW 4,hH (.nilS 4 0 1)]
 ·obtain ⟨e0,h5,h⟩:=Qae h
  refine gn 14 [0,1,6,7] [0] [nL e_i64 a,nL e_i64 b,bF h0,hW 10,hH (.adopt 6 1 3)] (Qn2 Γ rv h5 ?_)
  obtain ⟨l1,rfl⟩:∃ x,x=e0:=⟨_,rfl⟩
  replace h:(some (l1,0):Option (List Int×Int))=some _:=h
  obtain rfl:=Option.some.inj h
  exact gr 2 [] [hW 5,hH (.frz 0),rp 3 (eL l1 e_i64)]
def QmO (Γ:Gam) (rv:List Int×Int) (cf:Cf):Prop:=Go Tryz.prog Tryz.f53 [] Γ (.tup [.one (lL 1 rv.1 e_i64),.one (lI rv.2)]) [] cf
def Qks (Γ:Gam) (rv:List Int×Int) (a:List Int) (b:List Int) (l:List Int) (i:Int):Prop:=QmO Γ rv ⟨[.c 244,.l 244,.b 0,.c 31],⟨32,[vL 0 1 a e_i64,vL 1 1 b e_i64,vO 6 0 1 l e_i64,vI 7 i],[oS 1 3 l e_i64]⟩⟩
def QjH (Γ:Gam) (rv:List Int×Int) (a:List Int) (b:List Int) (l1:List Int):Prop:=QmO Γ rv ⟨[.c 31],⟨32,[vO 6 0 1 l1 e_i64],[oS 1 3 l1 e_i64]⟩⟩
theorem Qn3 (Γ:Gam) (rv:List Int×Int) {a b} {s:List Int×Int} {e:List Int} (h:loopF (fun s=>QbK a b s.1 s.2) s=some e) (hD:QjH Γ rv a b e):Qks Γ rv a b s.1 s.2:=by
 refine Qaz (C:=fun (s:List Int×Int)=>Qks Γ rv a b s.1 s.2) (D:=fun (e:List Int)=>QjH Γ rv a b e) ?_ h hD
 clear h hD s e
 rintro ⟨l,i⟩ z_ h hI hE
 replace h:QbK a b l i=_:=h
 unfold QbK at h
 rcases Qai h with ⟨h1,h⟩|⟨h1,h⟩
 ·obtain ⟨x0,h2,h⟩:=Qae h
  obtain ⟨x1,h3,h⟩:=Qae h
  obtain ⟨h4,h⟩:=Qas h
  exact gn 11 [0,1,6,7] [2] [nL e_i64 a,bT h1,hH (.draw 11 []),cE e_i64 h2,cE e_i64 h3,oO (Eq.refl ([(subK .i64 x0 x1)].map e_i64).length),aO e_i64 h4] (hI _ (oJ h))
 ·exact gn 5 [6] [0] [nL e_i64 a,bF h1] (hE _ (oJ h))
theorem QpJ {a b} {rv:List Int×Int} (h:QeE a b=some rv):AFn Tryz.prog 53 [.one (lL 1 a e_i64),.one (lL 1 b e_i64)] [] (.tup [.one (lL 1 rv.1 e_i64),.one (lI rv.2)]) []:=by
 refine QaM Tryz.func53 (by kernel_rfl) (by kernel_rfl) (fun Γ=>?_)
 unfold QeE at h
 rcases Qai h with ⟨h0,h⟩|⟨h0,h⟩
 ·obtain rfl:=Option.some.inj h
  exact gr 8 [] [nL e_i64 a,nL e_i64 b,bT h0,hW 4,hH (.nilS 4 0 1)]
 ·obtain ⟨e0,h5,h⟩:=Qae h
  refine gn 14 [0,1,6,7] [0] [nL e_i64 a,nL e_i64 b,bF h0,hW 10,hH (.adopt 6 1 3)] (Qn3 Γ rv h5 ?_)
  obtain ⟨l1,rfl⟩:∃ x,x=e0:=⟨_,rfl⟩
  replace h:(some (l1,0):Option (List Int×Int))=some _:=h
  obtain rfl:=Option.some.inj h
  exact gr 2 [] [hW 5,hH (.frz 0),rp 3 (eL l1 e_i64)]
def QkC (Γ:Gam) (rv:List Qaf) (cf:Cf):Prop:=Go Tryz.prog Tryz.f17 [] Γ (one (lL 9 rv Qaf.enc)) [] cf
theorem Qe2 (Γ:Gam) (rv:List Qaf) {x0 l v r1 r2 r3 load r7 open_} (h:Qb7 x0 l v r1 r2 r3 load r7 open_=some rv):QkC Γ rv ⟨[.c 131071],⟨161,[vP 3 0 6,vP 19 1 9],[oX 6 30 (Qac.enc x0),oX 9 49 [lI l.type_,lO 2 2 (l.visits++[v]) Qab.enc,lI r1.1.place,lI r3.1,lI (subK .i64 (addK .i64 l.driven r2.1) l.time),lI (addK .i64 l.miles r2.2.1),lL 1 load e_i64,lI (orK .i64 l.done r7),lI open_],oS 2 54 (l.visits++[v]) Qab.enc]⟩⟩:=by
 unfold Qb7 at h
 obtain ⟨r10,h22,h⟩:=Qae h
 obtain rfl:=Option.some.inj h
 exact gr 2 [] [hW 4,hH (.frz 2),rp 2 (oO (Eq.refl ((l.visits++[v]).map Qab.enc).length)),cC (Qj0 h22)]
theorem Qhs (Γ:Gam) (rv:List Qaf) {x0 l v x1 x2 r1 r2 r3 load g} (h:QbH x0 l v x1 x2 r1 r2 r3 load g=some rv):QkC Γ rv ⟨[.c 8191],⟨161,[vP 3 0 6,vP 4 1 9,vP 5 2 2,vP 7 3 14,vP 8 4 16,vP 9 5 4,vI 12 r2.2.1,vI 14 (subK .i64 (addK .i64 l.driven r2.1) l.time),vI 15 r3.1,vL 17 1 load e_i64,vI 18 g],[oX 6 30 (Qac.enc x0),oX 9 49 (Qaf.enc l),oX 2 54 (Qab.enc v),oX 14 79 (Qah.enc x1),oX 16 83 (Qag.enc x2),oX 4 81 (Qap.enc r1.1)]⟩⟩:=by
 unfold QbH at h
 rcases Qai h with ⟨h12,h⟩|⟨h12,h⟩
 ·obtain rfl:=Option.some.inj h
  exact gr 6 [] [rp 6 (bT h12),tT,hW 3,hH (.nilS 6 0 9)]
 ·obtain ⟨r6,h13,h⟩:=Qae h
  rcases Qai h with ⟨h14,h⟩|⟨h14,h⟩
  ·obtain ⟨r7,h15,h⟩:=Qae h
   obtain ⟨h16,h⟩:=Qas h
   obtain ⟨h17,h⟩:=Qas h
   rcases Qai h with ⟨h18,h⟩|⟨h18,h⟩
   ·obtain ⟨r8,h19,h⟩:=Qae h
    exact gn 14 [3,19] [0,6,9] [rp 4 (bF h12),cC (Qdq h13),rp 2 (bF h12),nF h14,hH (.draw 21 []),cC (Qc9 h15),hH (.draw 9 [(7,7)]),aN Qab.enc h16,oO (Eq.refl ([v].map Qab.enc).length),aO Qab.enc h17,bT h18,hH (.draw 7 []),cC (Qc9 h19)] (Qe2 Γ rv h)
   ·rcases Qai h with ⟨h20,h⟩|⟨h20,h⟩
    ·obtain ⟨r9,h21,h⟩:=Qae h
     exact gn 17 [3,19] [0,6,9] [rp 4 (bF h12),cC (Qdq h13),rp 2 (bF h12),nF h14,hH (.draw 21 []),cC (Qc9 h15),hH (.draw 9 [(7,7)]),aN Qab.enc h16,oO (Eq.refl ([v].map Qab.enc).length),aO Qab.enc h17,bF h18,bT h20,hH (.draw 7 []),cC (Qc9 h21)] (Qe2 Γ rv h)
    ·exact gn 17 [3,19] [0,6,9] [rp 4 (bF h12),cC (Qdq h13),rp 2 (bF h12),nF h14,hH (.draw 21 []),cC (Qc9 h15),hH (.draw 9 [(7,7)]),aN Qab.enc h16,oO (Eq.refl ([v].map Qab.enc).length),aO Qab.enc h17,bF h18,bF h20] (Qe2 Γ rv h)
  ·obtain rfl:=Option.some.inj h
   exact gr 6 [] [rp 4 (bF h12),cC (Qdq h13),rp 2 (bF h12),nT h14,hW 3,hH (.nilS 6 0 9)]
theorem QjQ {x0 l v} {rv:List Qaf} (h:Qcs x0 l v=some rv):AFn Tryz.prog 17 [.agg (Qac.enc x0),.agg (Qaf.enc l),.agg (Qab.enc v)] [] (one (lL 9 rv Qaf.enc)) []:=by
 refine QaM Tryz.func17 (by kernel_rfl) (by kernel_rfl) (fun Γ=>?_)
 unfold Qcs at h
 obtain ⟨r,h0,h⟩:=Qae h
 rcases Qai h with ⟨h1,h⟩|⟨h1,h⟩
 ·obtain ⟨x1,h2,h⟩:=Qae h
  obtain ⟨x2,h3,h⟩:=Qae h
  obtain ⟨r1,h4,h⟩:=Qae h
  obtain ⟨r2,h5,h⟩:=Qae h
  rcases Qai h with ⟨h6,h⟩|⟨h6,h⟩
  ·obtain rfl:=Option.some.inj h
   exact gr 23 [] [cC (Qep h0),nF h1,cE Qah.enc h2,cE Qag.enc h3,cC (Qa1 h4),cC (QdA h5),rp 5 hP,rp 3 (oI ((neI r2.2.2 0)=false)),oR True ((neI r2.2.2 0)=false),bT h6,hW 3,hH (.nilS 6 0 9)]
  ·obtain ⟨r3,h7,h⟩:=Qae h
   rcases Qai h with ⟨h8,h⟩|⟨h8,h⟩
   ·obtain rfl:=Option.some.inj h
    exact gr 30 [] [cC (Qep h0),nF h1,cE Qah.enc h2,cE Qag.enc h3,cC (Qa1 h4),cC (QdA h5),rp 5 hP,rp 3 (oI ((neI r2.2.2 0)=false)),oR True ((neI r2.2.2 0)=false),bF h6,cC (Qgk h7),bT h8,hW 3,hH (.nilS 6 0 9)]
   ·obtain ⟨r4,h9,h⟩:=Qae h
    rcases Qai h with ⟨h10,h⟩|⟨h10,h⟩
    ·obtain ⟨r5,h11,h⟩:=Qae h
     exact gn 36 [3,4,5,7,8,9,12,14,15,17,18] [0,1,2,3,4,5] [cC (Qep h0),nF h1,cE Qah.enc h2,cE Qag.enc h3,cC (Qa1 h4),cC (QdA h5),rp 5 hP,rp 3 (oI ((neI r2.2.2 0)=false)),oR True ((neI r2.2.2 0)=false),bF h6,cC (Qgk h7),bF h8,cC (Ql9 h9),bT h10,cC (QpJ h11)] (Qhs Γ rv h)
    ·exact gn 36 [3,4,5,7,8,9,12,14,15,17,18] [0,1,2,3,4,5] [cC (Qep h0),nF h1,cE Qah.enc h2,cE Qag.enc h3,cC (Qa1 h4),cC (QdA h5),rp 5 hP,rp 3 (oI ((neI r2.2.2 0)=false)),oR True ((neI r2.2.2 0)=false),bF h6,cC (Qgk h7),bF h8,cC (Ql9 h9),bF h10] (Qhs Γ rv h)
 ·obtain rfl:=Option.some.inj h
  exact gr 8 [] [cC (Qep h0),nT h1,hW 3,hH (.nilS 6 0 9)]
def QdE (Γ:Gam) (rv:Bool) (cf:Cf):Prop:=Go Tryz.prog Tryz.f3 [] Γ (one (.bool rv)) [] cf
def QfY (Γ:Gam) (rv:Bool) (x0:Qac) (w:QaC) (a:List Qad) (b:List Qaf) (i:Int) (k:Int):Prop:=QdE Γ rv ⟨[.c 32276,.l 32276,.b 2,.c 4035,.b 1,.c 505,.l 252,.b 0],⟨159,[vP 3 0 6,vL 7 2 w.visits Qab.enc,vL 8 1 w.rests QgD,vL 9 9 a Qad.enc,vL 10 9 b Qaf.enc,vI 11 i,vI 12 k],[oX 6 30 (Qac.enc x0)]⟩⟩
def QfM (Γ:Gam) (rv:Bool) (x0:Qac) (w:QaC) (a:List Qad) (b:List Qaf) (i:Int):Prop:=QdE Γ rv ⟨[.c 4035,.b 1,.c 505,.l 252,.b 0],⟨159,[vP 3 0 6,vL 7 2 w.visits Qab.enc,vL 8 1 w.rests QgD,vL 9 9 a Qad.enc,vL 10 9 b Qaf.enc,vI 11 i],[oX 6 30 (Qac.enc x0)]⟩⟩
def Qd2 (Γ:Gam) (rv:Bool) (x0:Qac) (w:QaC) (a:List Qad) (b:List Qaf) (i:Int):Prop:=QdE Γ rv ⟨[.c 252,.l 252,.b 0],⟨159,[vP 3 0 6,vL 7 2 w.visits Qab.enc,vL 8 1 w.rests QgD,vL 9 9 a Qad.enc,vL 10 9 b Qaf.enc,vI 11 i],[oX 6 30 (Qac.enc x0)]⟩⟩
theorem Qkh (Γ:Gam) (rv:Bool) {x0 w a b i} {s:Int} {e:(Unit)⊕(Bool)} (h:loopF (fun s=>QaS x0 w a b i s) s=some e) (hD:sel e (fun e=>QfM Γ rv x0 w a b i) (fun e=>e=rv)):QfY Γ rv x0 w a b i s:=by
 refine Qaz (C:=fun (s:Int)=>QfY Γ rv x0 w a b i s) (D:=fun (e:(Unit)⊕(Bool))=>sel e (fun e=>QfM Γ rv x0 w a b i) (fun e=>e=rv)) ?_ h hD
 clear h hD s e
 intro k z_ h hI hE
 replace h:QaS x0 w a b i k=_:=h
 unfold QaS at h
 rcases Qai h with ⟨h7,h⟩|⟨h7,h⟩
 ·obtain ⟨x1,h8,h⟩:=Qae h
  obtain ⟨r5,h9,h⟩:=Qae h
  obtain ⟨x2,h10,h⟩:=Qae h
  obtain ⟨r6,h11,h⟩:=Qae h
  rcases Qai h with ⟨h12,h⟩|⟨h12,h⟩
  ·obtain rfl:=(hE _ (oJ h):_=rv)
   exact gr 16 [] [nL Qad.enc a,bT h7,hH (.draw 13 []),cE Qad.enc h8,cC (QdM h9),hH (.draw 13 []),cE Qaf.enc h10,cC (QgZ h11),hH (.draw 32 []),rp 8 hP,rp 2 (oI ((neI r5.1 r6.1)=false)),oR True ((neI r5.1 r6.1)=false),rp 2 (oI (((neI r5.1 r6.1)||(neI r5.2.1 r6.2.1))=false)),oR True (((neI r5.1 r6.1)||(neI r5.2.1 r6.2.1))=false),rp 18 (bT h12),tT]
  ·obtain ⟨x3,h13,h⟩:=Qae h
   obtain ⟨r7,h14,h⟩:=Qae h
   obtain ⟨x4,h15,h⟩:=Qae h
   obtain ⟨r8,h16,h⟩:=Qae h
   rcases Qai h with ⟨h17,h⟩|⟨h17,h⟩
   ·exact gn 18 [3,7,8,9,10,11,12] [0] [nL Qad.enc a,bT h7,hH (.draw 13 []),cE Qad.enc h8,cC (QdM h9),hH (.draw 13 []),cE Qaf.enc h10,cC (QgZ h11),hH (.draw 32 []),rp 8 hP,rp 2 (oI ((neI r5.1 r6.1)=false)),oR True ((neI r5.1 r6.1)=false),rp 2 (oI (((neI r5.1 r6.1)||(neI r5.2.1 r6.2.1))=false)),oR True (((neI r5.1 r6.1)||(neI r5.2.1 r6.2.1))=false),rp 3 (bF h12),cE Qad.enc h8,rp 3 (bF h12),cE Qad.enc h13,rp 2 (bF h12),cC (Qdn h14),rp 3 (bF h12),cE Qaf.enc h10,rp 3 (bF h12),cE Qaf.enc h15,rp 2 (bF h12),cC (Qhr h16),rp 2 (bF h12),nF h17] (hI _ (oJ h))
   ·obtain rfl:=(hE _ (oJ h):_=rv)
    exact gr 16 [] [nL Qad.enc a,bT h7,hH (.draw 13 []),cE Qad.enc h8,cC (QdM h9),hH (.draw 13 []),cE Qaf.enc h10,cC (QgZ h11),hH (.draw 32 []),rp 8 hP,rp 2 (oI ((neI r5.1 r6.1)=false)),oR True ((neI r5.1 r6.1)=false),rp 2 (oI (((neI r5.1 r6.1)||(neI r5.2.1 r6.2.1))=false)),oR True (((neI r5.1 r6.1)||(neI r5.2.1 r6.2.1))=false),rp 3 (bF h12),cE Qad.enc h8,rp 3 (bF h12),cE Qad.enc h13,rp 2 (bF h12),cC (Qdn h14),rp 3 (bF h12),cE Qaf.enc h10,rp 3 (bF h12),cE Qaf.enc h15,rp 2 (bF h12),cC (Qhr h16),rp 2 (bF h12),nT h17]
 ·exact gn 5 [3,7,8,9,10,11] [0] [nL Qad.enc a,bF h7] (hE _ (oJ h))
theorem QfL (Γ:Gam) (rv:Bool) {x0 w a b i k1} {x:(List Qad×List Qaf×Int)⊕(Bool)} (h:Qa5 x0 w a b i k1=some x) (hI:∀ s:List Qad×List Qaf×Int,x=.inl s→Qd2 Γ rv x0 w s.1 s.2.1 s.2.2) (hE:∀ e:Bool,x=.inr e→e=rv):QdE Γ rv ⟨[.c 32287,.b 1,.c 505,.l 252,.b 0],⟨159,[vP 3 0 6,vL 7 2 w.visits Qab.enc,vL 8 1 w.rests QgD,vL 9 9 a Qad.enc,vL 10 9 b Qaf.enc,vI 11 i,vI 19 k1],[oX 6 30 (Qac.enc x0)]⟩⟩:=by
 unfold Qa5 at h
 obtain ⟨x6,h25,h⟩:=Qae h
 obtain ⟨x7,h26,h⟩:=Qae h
 obtain ⟨r10,h27,h⟩:=Qae h
 obtain ⟨x8,h28,h⟩:=Qae h
 obtain ⟨r11,h29,h⟩:=Qae h
 exact gn 4 [3,7,8,9,10,11] [0] [hH (.draw 20 []),cE Qad.enc h25,cE Qab.enc h26,cC (Qcd h27),cE Qaf.enc h28,cE Qab.enc h26,cC (QjQ h29)] (hI _ (oJ h))
theorem Qkg (Γ:Gam) (rv:Bool) {x0 w} {s:List Qad×List Qaf×Int} {e:Bool} (h:loopF (fun s=>QbR x0 w s.1 s.2.1 s.2.2) s=some e) (hD:e=rv):Qd2 Γ rv x0 w s.1 s.2.1 s.2.2:=by
 refine Qaz (C:=fun (s:List Qad×List Qaf×Int)=>Qd2 Γ rv x0 w s.1 s.2.1 s.2.2) (D:=fun (e:Bool)=>e=rv) ?_ h hD
 clear h hD s e
 rintro ⟨a,b,i⟩ z_ h hI hE
 replace h:QbR x0 w a b i=_:=h
 unfold QbR at h
 obtain ⟨r4,h5,h⟩:=Qae h
 rcases Qai h with ⟨h6,h⟩|⟨h6,h⟩
 ·obtain ⟨e0,h18,h⟩:=Qae h
  refine gn 12 [3,7,8,9,10,11,12] [0] [cC (Qla h5),nF h6] (Qkh Γ rv h18 ?_)
  rcases e0 with e0|e0
  ·replace h:(br ((geI i (lenI w.visits))||(neI (lenI b) 2)) (br ((eqI (lenI b) 0)||(eqI (lenI b) 2)) (bnd (QbE) fun r9=>some (.inr r9)) (some (.inr false))) (br (ltI i (lenI w.rests)) (bnd (getI w.rests i) fun x5=>br x5 (Qa5 x0 w a b i 1) (Qa5 x0 w a b i 0)) (bnd (getI a 0) fun x9=>bnd (getI w.visits i) fun x10=>bnd (Qdw x0 x9 x10) fun r12=>bnd (getI b 0) fun x11=>bnd (Qcs x0 x11 x10) fun r13=>some (.inl (r12,r13,(addK .i64 i 1))))):Option ((List Qad×List Qaf×Int)⊕(Bool)))=some _:=h
   rcases Qai h with ⟨h19,h⟩|⟨h19,h⟩
   ·rcases Qai h with ⟨h20,h⟩|⟨h20,h⟩
    ·obtain ⟨r9,h21,h⟩:=Qae h
     obtain rfl:=(hE _ (oJ h):_=rv)
     exact gr 6 [] [nL Qab.enc w.visits,hP,hP,oI ((geI i (lenI w.visits))=false),nL Qaf.enc b,hP,hP,oI ((geI i (lenI w.visits))=false),oR True ((geI i (lenI w.visits))=false),bT h19,nL Qaf.enc b,hP,hP,oI ((eqI (lenI b) 0)=false),nL Qaf.enc b,hP,hP,oI ((eqI (lenI b) 0)=false),oR True ((eqI (lenI b) 0)=false),bT h20,cC (QcR h21),bT h20]
    ·obtain rfl:=(hE _ (oJ h):_=rv)
     exact gr 6 [] [nL Qab.enc w.visits,hP,hP,oI ((geI i (lenI w.visits))=false),nL Qaf.enc b,hP,hP,oI ((geI i (lenI w.visits))=false),oR True ((geI i (lenI w.visits))=false),bT h19,nL Qaf.enc b,hP,hP,oI ((eqI (lenI b) 0)=false),nL Qaf.enc b,hP,hP,oI ((eqI (lenI b) 0)=false),oR True ((eqI (lenI b) 0)=false),rp 2 (bF h20)]
   ·rcases Qai h with ⟨h22,h⟩|⟨h22,h⟩
    ·obtain ⟨x5,h23,h⟩:=Qae h
     rcases Qai h with ⟨h24,h⟩|⟨h24,h⟩
     ·exact gn 12 [3,7,8,9,10,11,19] [0] [nL Qab.enc w.visits,hP,hP,oI ((geI i (lenI w.visits))=false),nL Qaf.enc b,hP,hP,oI ((geI i (lenI w.visits))=false),oR True ((geI i (lenI w.visits))=false),bF h19,nL QgD w.rests,rp 3 (bT h22),cE QgD h23,rp 2 (bT h22),bT h24] (QfL Γ rv h hI hE)
     ·exact gn 12 [3,7,8,9,10,11,19] [0] [nL Qab.enc w.visits,hP,hP,oI ((geI i (lenI w.visits))=false),nL Qaf.enc b,hP,hP,oI ((geI i (lenI w.visits))=false),oR True ((geI i (lenI w.visits))=false),bF h19,nL QgD w.rests,rp 3 (bT h22),cE QgD h23,rp 2 (bT h22),bF h24] (QfL Γ rv h hI hE)
    ·obtain ⟨x9,h30,h⟩:=Qae h
     obtain ⟨x10,h31,h⟩:=Qae h
     obtain ⟨r12,h32,h⟩:=Qae h
     obtain ⟨x11,h33,h⟩:=Qae h
     obtain ⟨r13,h34,h⟩:=Qae h
     exact gn 16 [3,7,8,9,10,11] [0] [nL Qab.enc w.visits,hP,hP,oI ((geI i (lenI w.visits))=false),nL Qaf.enc b,hP,hP,oI ((geI i (lenI w.visits))=false),oR True ((geI i (lenI w.visits))=false),bF h19,nL QgD w.rests,rp 5 (bF h22),fF,hH (.draw 20 []),cE Qad.enc h30,cE Qab.enc h31,cC (Qcd h32),cE Qaf.enc h33,cE Qab.enc h31,cC (QjQ h34)] (hI _ (oJ h))
  ·obtain ⟨r14,rfl⟩:∃ x,x=e0:=⟨_,rfl⟩
   replace h:(some (.inr r14):Option ((List Qad×List Qaf×Int)⊕(Bool)))=some _:=h
   exact (hE _ (oJ h):_=rv)
 ·obtain rfl:=(hE _ (oJ h):_=rv)
  exact gr 8 [] [cC (Qla h5),nT h6]
theorem QlN {x0 at_ w} {rv:Bool} (h:Qea x0 at_ w=some rv):AFn Tryz.prog 3 [.agg (Qac.enc x0),.agg (Qar.enc at_),.agg (QaC.enc w)] [] (one (.bool rv)) []:=by
 refine QaM Tryz.func3 (by kernel_rfl) (by kernel_rfl) (fun Γ=>?_)
 unfold Qea at h
 obtain ⟨r,h0,h⟩:=Qae h
 rcases Qai h with ⟨h1,h⟩|⟨h1,h⟩
 ·obtain ⟨r1,h2,h⟩:=Qae h
  obtain rfl:=Option.some.inj h
  exact gr 10 [] [hH (.draw 6 []),cC (Qga h0),hP,hP,oI ((!r)=false),nL Qab.enc w.visits,hP,hP,oI ((!r)=false),oR True ((!r)=false),bT h1,cC (QcR h2)]
 ·obtain ⟨r2,h3,h⟩:=Qae h
  obtain ⟨r3,h4,h⟩:=Qae h
  obtain ⟨e1,h35,h⟩:=Qae h
  refine gn 15 [3,7,8,9,10,11] [0] [hH (.draw 6 []),cC (Qga h0),hP,hP,oI ((!r)=false),nL Qab.enc w.visits,hP,hP,oI ((!r)=false),oR True ((!r)=false),bF h1,hH (.draw 14 []),oO (zL 0),oO (lT 0 2),oO (zL 1),oO (lT 1 2),cC (Qci h3),oO (zL 0),oO (lT 0 2),oO (zL 1),oO (lT 1 2),cC (QoC h4)] (Qkg Γ rv h35 ?_)
  obtain ⟨r15,rfl⟩:∃ x,x=e1:=⟨_,rfl⟩
  replace h:(some r15:Option Bool)=some _:=h
  exact Option.some.inj h
theorem QfH {x0 v} {rv:Qap×Bool} (h:QcI x0 v=some rv):AFn Tryz.prog 120 [.agg (Qac.enc x0),.agg (Qab.enc v)] [] (.tup [.agg [lI rv.1.place,lI rv.1.open_,lI rv.1.close,lI rv.1.service],.one (.bool rv.2)]) []:=by
 refine QaM Tryz.func120 (by kernel_rfl) (by kernel_rfl) (fun Γ=>?_)
 unfold QcI at h
 rcases Qai h with ⟨h0,h⟩|⟨h0,h⟩
 ·obtain rfl:=Option.some.inj h
  exact gr 8 [] [rp 5 hP,rp 3 (oI ((ltI v.order 0)=false)),nL Qag.enc x0.orders,hP,hP,rp 2 (oI ((ltI v.order 0)=false)),oR True ((ltI v.order 0)=false),bT h0]
 ·obtain ⟨x1,h1,h⟩:=Qae h
  rcases Qai h with ⟨h2,h⟩|⟨h2,h⟩
  ·obtain rfl:=Option.some.inj h
   exact gr 16 [] [rp 5 hP,rp 3 (oI ((ltI v.order 0)=false)),nL Qag.enc x0.orders,hP,hP,rp 2 (oI ((ltI v.order 0)=false)),oR True ((ltI v.order 0)=false),bF h0,cE Qag.enc h1,bT h2,cE Qag.enc h1,hH (.draw 6 [(2,4)])]
  ·obtain rfl:=Option.some.inj h
   exact gr 16 [] [rp 5 hP,rp 3 (oI ((ltI v.order 0)=false)),nL Qag.enc x0.orders,hP,hP,rp 2 (oI ((ltI v.order 0)=false)),oR True ((ltI v.order 0)=false),bF h0,cE Qag.enc h1,bF h2,hH (.draw 6 [(2,4)])]
def Qi6 (Γ:Gam) (rv:Bool) (cf:Cf):Prop:=Go Tryz.prog Tryz.f118 [] Γ (one (.bool rv)) [] cf
def QgX (Γ:Gam) (rv:Bool) (x0:Qac) (r:Qaw) (i:Int):Prop:=Qi6 Γ rv ⟨[.c 116,.l 116,.b 0,.c 15],⟨54,[vP 2 0 6,vP 3 1 4,vI 5 i],[oX 6 30 (Qac.enc x0),oX 4 66 (Qaw.enc r)]⟩⟩
def QgA (Γ:Gam) (rv:Bool) (x0:Qac) (r:Qaw):Prop:=Qi6 Γ rv ⟨[.c 15],⟨54,[],[]⟩⟩
theorem Qlj (Γ:Gam) (rv:Bool) {x0 r} {s:Int} {e:(Unit)⊕(Bool)} (h:loopF (fun s=>Qa8 x0 r s) s=some e) (hD:sel e (fun e=>QgA Γ rv x0 r) (fun e=>e=rv)):QgX Γ rv x0 r s:=by
 refine Qaz (C:=fun (s:Int)=>QgX Γ rv x0 r s) (D:=fun (e:(Unit)⊕(Bool))=>sel e (fun e=>QgA Γ rv x0 r) (fun e=>e=rv)) ?_ h hD
 clear h hD s e
 intro i z_ h hI hE
 replace h:Qa8 x0 r i=_:=h
 unfold Qa8 at h
 rcases Qai h with ⟨h1,h⟩|⟨h1,h⟩
 ·obtain ⟨x1,h2,h⟩:=Qae h
  obtain ⟨r1,h3,h⟩:=Qae h
  rcases Qai h with ⟨h4,h⟩|⟨h4,h⟩
  ·exact gn 16 [2,3,5] [0,1] [nL Qab.enc r.visits,bT h1,hH (.draw 13 [(2,11)]),cE Qab.enc h2,cC (QfH h3),nF h4] (hI _ (oJ h))
  ·obtain rfl:=(hE _ (oJ h):_=rv)
   exact gr 14 [] [nL Qab.enc r.visits,bT h1,hH (.draw 13 [(2,11)]),cE Qab.enc h2,cC (QfH h3),nT h4]
 ·exact gn 5 [] [] [nL Qab.enc r.visits,bF h1] (hE _ (oJ h))
theorem Qit {x0 r} {rv:Bool} (h:Qc8 x0 r=some rv):AFn Tryz.prog 118 [.agg (Qac.enc x0),.agg (Qaw.enc r)] [] (one (.bool rv)) []:=by
 refine QaM Tryz.func118 (by kernel_rfl) (by kernel_rfl) (fun Γ=>?_)
 unfold Qc8 at h
 rcases Qai h with ⟨h0,h⟩|⟨h0,h⟩
 ·obtain rfl:=Option.some.inj h
  exact gr 8 [] [rp 5 hP,rp 3 (oI ((ltI r.type_ 0)=false)),nL Qah.enc x0.types,rp 13 hP,rp 2 (oI ((ltI r.type_ 0)=false)),oR True ((ltI r.type_ 0)=false),rp 2 (oI (((ltI r.type_ 0)||(geI r.type_ (lenI x0.types)))=false)),oR True (((ltI r.type_ 0)||(geI r.type_ (lenI x0.types)))=false),rp 2 (oI ((((ltI r.type_ 0)||(geI r.type_ (lenI x0.types)))||(ltI r.start 0))=false)),oR True ((((ltI r.type_ 0)||(geI r.type_ (lenI x0.types)))||(ltI r.start 0))=false),rp 2 (oI (((((ltI r.type_ 0)||(geI r.type_ (lenI x0.types)))||(ltI r.start 0))||(gtI r.start 4096))=false)),nL Qab.enc r.visits,hP,hP,oI (((((ltI r.type_ 0)||(geI r.type_ (lenI x0.types)))||(ltI r.start 0))||(gtI r.start 4096))=false),oR True (((((ltI r.type_ 0)||(geI r.type_ (lenI x0.types)))||(ltI r.start 0))||(gtI r.start 4096))=false),bT h0]
 ·obtain ⟨e0,h5,h⟩:=Qae h
  refine gn 12 [2,3,5] [0,1] [rp 5 hP,rp 3 (oI ((ltI r.type_ 0)=false)),nL Qah.enc x0.types,rp 13 hP,rp 2 (oI ((ltI r.type_ 0)=false)),oR True ((ltI r.type_ 0)=false),rp 2 (oI (((ltI r.type_ 0)||(geI r.type_ (lenI x0.types)))=false)),oR True (((ltI r.type_ 0)||(geI r.type_ (lenI x0.types)))=false),rp 2 (oI ((((ltI r.type_ 0)||(geI r.type_ (lenI x0.types)))||(ltI r.start 0))=false)),oR True ((((ltI r.type_ 0)||(geI r.type_ (lenI x0.types)))||(ltI r.start 0))=false),rp 2 (oI (((((ltI r.type_ 0)||(geI r.type_ (lenI x0.types)))||(ltI r.start 0))||(gtI r.start 4096))=false)),nL Qab.enc r.visits,hP,hP,oI (((((ltI r.type_ 0)||(geI r.type_ (lenI x0.types)))||(ltI r.start 0))||(gtI r.start 4096))=false),oR True (((((ltI r.type_ 0)||(geI r.type_ (lenI x0.types)))||(ltI r.start 0))||(gtI r.start 4096))=false),bF h0] (Qlj Γ rv h5 ?_)
  rcases e0 with e0|e0
  ·replace h:(some true:Option Bool)=some _:=h
   obtain rfl:=Option.some.inj h
   exact gr 2 [] []
  ·obtain ⟨r2,rfl⟩:∃ x,x=e0:=⟨_,rfl⟩
   replace h:(some r2:Option Bool)=some _:=h
   exact Option.some.inj h
theorem Qlk {t s0 yes} {rv:Qat} (h:QeY t s0 yes=some rv):AFn Tryz.prog 119 [.agg (Qah.enc t),.agg (Qat.enc s0),.one (.bool yes)] [] (gG [lI rv.place,lI rv.time,lI rv.driven,lI rv.miles]) []:=by
 refine QaM Tryz.func119 (by kernel_rfl) (by kernel_rfl) (fun Γ=>?_)
 unfold QeY at h
 rcases Qai h with ⟨h0,h⟩|⟨h0,h⟩
 ·obtain rfl:=Option.some.inj h
  exact gr 11 [] [bT h0]
 ·obtain rfl:=Option.some.inj h
  exact gr 9 [] [bF h0]
theorem Qgb {x0 profile from_ to_ t} {rv:Int×Int×Bool} (h:Qjh x0 profile from_ to_ t=some rv):AFn Tryz.prog 142 [.agg (Qac.enc x0),.one (lI profile),.one (lI from_),.one (lI to_),.one (lI t)] [] (.tup [.one (lI rv.1),.one (lI rv.2.1),.one (.bool rv.2.2)]) []:=by
 refine QaM Tryz.func142 (by kernel_rfl) (by kernel_rfl) (fun Γ=>?_)
 unfold Qjh at h
 obtain ⟨r,h0,h⟩:=Qae h
 obtain rfl:=Option.some.inj h
 exact gr 6 [] [cC (QdA h0)]
end Go.Proofs.YtfjiafgldchinaaGreatDoor
