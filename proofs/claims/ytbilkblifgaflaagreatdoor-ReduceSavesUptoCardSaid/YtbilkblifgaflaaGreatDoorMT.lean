/- Part MT of the proof: texts Kt Kd Ko. -/
import Derived.Test.YtbilkblifgaflaaGreatDoorMA
import Derived.Test.YtbilkblifgaflaaGreatDoorMC
namespace Go.Proofs.YtbilkblifgaflaaGreatDoor
set_option linter.unusedVariables false
set_option linter.unusedSectionVars false
set_option linter.unusedSimpArgs false
def Qaw (n:Int):List Lf:=[.int .i64 n]
def e_u8 (n:Int):List Lf:=[.int .u8 n]
def e_fn (n:Nat):List Lf:=[.fn (.func n) []]
def Qff (b:Bool):List Lf:=[.bool b]
def QeA (s:ByteArray):List Lf:=[.str s]
structure Qal where
  t:Int
  a:Int
instance:DecidableEq Qal:=fun a b=>decidable_of_iff (a.t=b.t∧a.a=b.a) (by cases a; cases b; simp)
structure Qai where
  from_:Int
  to_:Int
  profile:Int
  miles:Int
  travel:List Qal
  slow:List Qal
instance:DecidableEq Qai:=fun a b=>decidable_of_iff (a.from_=b.from_∧a.to_=b.to_∧a.profile=b.profile∧a.miles=b.miles∧a.travel=b.travel∧a.slow=b.slow) (by cases a; cases b; simp)
structure Qag where
  places:List ByteArray
  arcs:List Qai
instance:DecidableEq Qag:=fun a b=>decidable_of_iff (a.places=b.places∧a.arcs=b.arcs) (by cases a; cases b; simp)
structure Qaf where
  name:ByteArray
  count:Int
  from_:Int
  to_:Int
  cap:List Int
  skills:Int
  profile:Int
  open_:Int
  close:Int
  drive:Int
  rest_:Int
  fixed:Int
  perMile:Int
  perTick:Int
instance:DecidableEq Qaf:=fun a b=>decidable_of_iff (a.name=b.name∧a.count=b.count∧a.from_=b.from_∧a.to_=b.to_∧a.cap=b.cap∧a.skills=b.skills∧a.profile=b.profile∧a.open_=b.open_∧a.close=b.close∧a.drive=b.drive∧a.rest_=b.rest_∧a.fixed=b.fixed∧a.perMile=b.perMile∧a.perTick=b.perTick) (by cases a; cases b; simp)
structure Qap where
  place:Int
  open_:Int
  close:Int
  service:Int
instance:DecidableEq Qap:=fun a b=>decidable_of_iff (a.place=b.place∧a.open_=b.open_∧a.close=b.close∧a.service=b.service) (by cases a; cases b; simp)
structure Qac where
  name:ByteArray
  load:List Int
  pick:Qap
  drop:Qap
  skills:Int
  penalty:Int
  split:Int
  last_:Int
  now:Int
  off:Bool
instance:DecidableEq Qac:=fun a b=>decidable_of_iff (a.name=b.name∧a.load=b.load∧a.pick=b.pick∧a.drop=b.drop∧a.skills=b.skills∧a.penalty=b.penalty∧a.split=b.split∧a.last_=b.last_∧a.now=b.now∧a.off=b.off) (by cases a; cases b; simp)
structure Qav where
  x0:Int
  x1:Int
instance:DecidableEq Qav:=fun a b=>decidable_of_iff (a.x0=b.x0∧a.x1=b.x1) (by cases a; cases b; simp)
structure Qab where
  net:Qag
  types:List Qaf
  orders:List Qac
  apart:List Qav
  before:List Qav
instance:DecidableEq Qab:=fun a b=>decidable_of_iff (a.net=b.net∧a.types=b.types∧a.orders=b.orders∧a.apart=b.apart∧a.before=b.before) (by cases a; cases b; simp)
structure Qaa where
  err:Int
  at_:ByteArray
instance:DecidableEq Qaa:=fun a b=>decidable_of_iff (a.err=b.err∧a.at_=b.at_) (by cases a; cases b; simp)
structure QBH where
  x0:Int
  x1:Int
  x2:Int
  x3:Int
  x4:Int
  x5:Int
  x6:Int
  x7:Int
  x8:Int
  x9:Int
  x10:Int
  x11:Int
  x12:Int
  x13:Int
  x14:Int
  x15:Int
  x16:Int
  x17:Int
  x18:Int
  x19:Int
  x20:Int
  x21:Int
  x22:Int
  x23:Int
instance:DecidableEq QBH:=fun a b=>decidable_of_iff (a.x0=b.x0∧a.x1=b.x1∧a.x2=b.x2∧a.x3=b.x3∧a.x4=b.x4∧a.x5=b.x5∧a.x6=b.x6∧a.x7=b.x7∧a.x8=b.x8∧a.x9=b.x9∧a.x10=b.x10∧a.x11=b.x11∧a.x12=b.x12∧a.x13=b.x13∧a.x14=b.x14∧a.x15=b.x15∧a.x16=b.x16∧a.x17=b.x17∧a.x18=b.x18∧a.x19=b.x19∧a.x20=b.x20∧a.x21=b.x21∧a.x22=b.x22∧a.x23=b.x23) (by cases a; cases b; simp)
structure Qar where
  from_:Int
  to_:Int
  profile:Int
instance:DecidableEq Qar:=fun a b=>decidable_of_iff (a.from_=b.from_∧a.to_=b.to_∧a.profile=b.profile) (by cases a; cases b; simp)
structure Qaz where
  x:Qab
  first_:List (List Int)
instance:DecidableEq Qaz:=fun a b=>decidable_of_iff (a.x=b.x∧a.first_=b.first_) (by cases a; cases b; simp)
structure Qad where
  order:Int
  drop:Bool
instance:DecidableEq Qad:=fun a b=>decidable_of_iff (a.order=b.order∧a.drop=b.drop) (by cases a; cases b; simp)
structure Qax where
  type_:Int
  start:Int
  rests:List Bool
  visits:List Qad
instance:DecidableEq Qax:=fun a b=>decidable_of_iff (a.type_=b.type_∧a.start=b.start∧a.rests=b.rests∧a.visits=b.visits) (by cases a; cases b; simp)
structure QaE where
  x:Qab
  t:Qaf
  r:Qax
  stops:List Qap
instance:DecidableEq QaE:=fun a b=>decidable_of_iff (a.x=b.x∧a.t=b.t∧a.r=b.r∧a.stops=b.stops) (by cases a; cases b; simp)
structure QaD where
  arrive:Int
  begin:Int
  depart:Int
  rest_:Bool
instance:DecidableEq QaD:=fun a b=>decidable_of_iff (a.arrive=b.arrive∧a.begin=b.begin∧a.depart=b.depart∧a.rest_=b.rest_) (by cases a; cases b; simp)
structure QaN where
  rest_:Bool
  depart:Int
  times:List QaD
  end_:Int
  miles:Int
instance:DecidableEq QaN:=fun a b=>decidable_of_iff (a.rest_=b.rest_∧a.depart=b.depart∧a.times=b.times∧a.end_=b.end_∧a.miles=b.miles) (by cases a; cases b; simp)
structure Qaj where
  ready:Int
  since:Int
  sheet:QaN
instance:DecidableEq Qaj:=fun a b=>decidable_of_iff (a.ready=b.ready∧a.since=b.since∧a.sheet=b.sheet) (by cases a; cases b; simp)
structure Qca where
  cost:Int
  moved:Int
  other:Int
  work:Int
instance:DecidableEq Qca:=fun a b=>decidable_of_iff (a.cost=b.cost∧a.moved=b.moved∧a.other=b.other∧a.work=b.work) (by cases a; cases b; simp)
structure QA9 where
  x0:Int
  x1:Int
  x2:Int
  x3:Int
instance:DecidableEq QA9:=fun a b=>decidable_of_iff (a.x0=b.x0∧a.x1=b.x1∧a.x2=b.x2∧a.x3=b.x3) (by cases a; cases b; simp)
structure Qay where
  type_:Int
  set_:Int
  price:Int
  route:Qax
instance:DecidableEq Qay:=fun a b=>decidable_of_iff (a.type_=b.type_∧a.set_=b.set_∧a.price=b.price∧a.route=b.route) (by cases a; cases b; simp)
structure Qaq where
  ready:Int
  driven:Int
instance:DecidableEq Qaq:=fun a b=>decidable_of_iff (a.ready=b.ready∧a.driven=b.driven) (by cases a; cases b; simp)
structure Qau where
  x:Qab
  kind:Int
  set_:Int
  total:Int
  best:Qay
  found:Bool
instance:DecidableEq Qau:=fun a b=>decidable_of_iff (a.x=b.x∧a.kind=b.kind∧a.set_=b.set_∧a.total=b.total∧a.best=b.best∧a.found=b.found) (by cases a; cases b; simp)
structure QkK where
  place:Int
  time:Int
  driven:Int
  miles:Int
instance:DecidableEq QkK:=fun a b=>decidable_of_iff (a.place=b.place∧a.time=b.time∧a.driven=b.driven∧a.miles=b.miles) (by cases a; cases b; simp)
def Qal.enc (x:Qal):List Lf:=[lI x.t,lI x.a]
def Qai.enc (x:Qai):List Lf:=[lI x.from_,lI x.to_,lI x.profile,lI x.miles,lL 2 x.travel Qal.enc,lL 2 x.slow Qal.enc]
def Qag.enc (x:Qag):List Lf:=[lL 1 x.places QeA,lL 6 x.arcs Qai.enc]
def Qaf.enc (x:Qaf):List Lf:=[.str x.name,lI x.count,lI x.from_,lI x.to_,lL 1 x.cap Qaw,lI x.skills,lI x.profile,lI x.open_,lI x.close,lI x.drive,lI x.rest_,lI x.fixed,lI x.perMile,lI x.perTick]
def Qap.enc (x:Qap):List Lf:=[lI x.place,lI x.open_,lI x.close,lI x.service]
def Qac.enc (x:Qac):List Lf:=[.str x.name,lL 1 x.load Qaw,lI x.pick.place,lI x.pick.open_,lI x.pick.close,lI x.pick.service,lI x.drop.place,lI x.drop.open_,lI x.drop.close,lI x.drop.service,lI x.skills,lI x.penalty,lI x.split,lI x.last_,lI x.now,.bool x.off]
def Qav.enc (x:Qav):List Lf:=[lI x.x0,lI x.x1]
def Qab.enc (x:Qab):List Lf:=[lL 1 x.net.places QeA,lL 6 x.net.arcs Qai.enc,lL 14 x.types Qaf.enc,lL 16 x.orders Qac.enc,lL 2 x.apart Qav.enc,lL 2 x.before Qav.enc]
def Qaa.enc (x:Qaa):List Lf:=[lI x.err,.str x.at_]
def QBH.enc (x:QBH):List Lf:=[.int .u8 x.x0,.int .u8 x.x1,.int .u8 x.x2,.int .u8 x.x3,.int .u8 x.x4,.int .u8 x.x5,.int .u8 x.x6,.int .u8 x.x7,.int .u8 x.x8,.int .u8 x.x9,.int .u8 x.x10,.int .u8 x.x11,.int .u8 x.x12,.int .u8 x.x13,.int .u8 x.x14,.int .u8 x.x15,.int .u8 x.x16,.int .u8 x.x17,.int .u8 x.x18,.int .u8 x.x19,.int .u8 x.x20,.int .u8 x.x21,.int .u8 x.x22,.int .u8 x.x23]
def Qar.enc (x:Qar):List Lf:=[lI x.from_,lI x.to_,lI x.profile]
def QdN (l:List Int):List Lf:=[.sl false 1 (l.map Qaw)]
def Qaz.enc (x:Qaz):List Lf:=[lL 1 x.x.net.places QeA,lL 6 x.x.net.arcs Qai.enc,lL 14 x.x.types Qaf.enc,lL 16 x.x.orders Qac.enc,lL 2 x.x.apart Qav.enc,lL 2 x.x.before Qav.enc,lL 1 x.first_ QdN]
def Qad.enc (x:Qad):List Lf:=[lI x.order,.bool x.drop]
def Qax.enc (x:Qax):List Lf:=[lI x.type_,lI x.start,lL 1 x.rests Qff,lL 2 x.visits Qad.enc]
def QaE.enc (x:QaE):List Lf:=[lL 1 x.x.net.places QeA,lL 6 x.x.net.arcs Qai.enc,lL 14 x.x.types Qaf.enc,lL 16 x.x.orders Qac.enc,lL 2 x.x.apart Qav.enc,lL 2 x.x.before Qav.enc,.str x.t.name,lI x.t.count,lI x.t.from_,lI x.t.to_,lL 1 x.t.cap Qaw,lI x.t.skills,lI x.t.profile,lI x.t.open_,lI x.t.close,lI x.t.drive,lI x.t.rest_,lI x.t.fixed,lI x.t.perMile,lI x.t.perTick,lI x.r.type_,lI x.r.start,lL 1 x.r.rests Qff,lL 2 x.r.visits Qad.enc,lL 4 x.stops Qap.enc]
def QaD.enc (x:QaD):List Lf:=[lI x.arrive,lI x.begin,lI x.depart,.bool x.rest_]
def QaN.enc (x:QaN):List Lf:=[.bool x.rest_,lI x.depart,lL 4 x.times QaD.enc,lI x.end_,lI x.miles]
def Qaj.enc (x:Qaj):List Lf:=[lI x.ready,lI x.since,.bool x.sheet.rest_,lI x.sheet.depart,lL 4 x.sheet.times QaD.enc,lI x.sheet.end_,lI x.sheet.miles]
def Qca.enc (x:Qca):List Lf:=[lI x.cost,lI x.moved,lI x.other,lI x.work]
def QA9.enc (x:QA9):List Lf:=[lI x.x0,lI x.x1,lI x.x2,lI x.x3]
def Qay.enc (x:Qay):List Lf:=[lI x.type_,lI x.set_,lI x.price,lI x.route.type_,lI x.route.start,lL 1 x.route.rests Qff,lL 2 x.route.visits Qad.enc]
def Qaq.enc (x:Qaq):List Lf:=[lI x.ready,lI x.driven]
def Qau.enc (x:Qau):List Lf:=[lL 1 x.x.net.places QeA,lL 6 x.x.net.arcs Qai.enc,lL 14 x.x.types Qaf.enc,lL 16 x.x.orders Qac.enc,lL 2 x.x.apart Qav.enc,lL 2 x.x.before Qav.enc,lI x.kind,lI x.set_,lI x.total,lI x.best.type_,lI x.best.set_,lI x.best.price,lI x.best.route.type_,lI x.best.route.start,lL 1 x.best.route.rests Qff,lL 2 x.best.route.visits Qad.enc,.bool x.found]
def QkK.enc (x:QkK):List Lf:=[lI x.place,lI x.time,lI x.driven,lI x.miles]
def es_T_api_Fault.enc (l:List Qaa):List Lf:=[.sl false 2 (l.map Qaa.enc)]
def Qar.keq (a b:Qar):Bool:=eqI a.from_ b.from_&&(eqI a.to_ b.to_&&(eqI a.profile b.profile&&true))
theorem Qar.kq (a b:Qar):kEqs (Qar.enc a) (Qar.enc b)=some (Qar.keq a b):=rfl
def Qa1:ByteArray:=⟨#[32]⟩
def Qpc:ByteArray:=⟨#[48,49,50,51,52,53,54,55,56,57,97,98,99,100,101,102,103,104,105,106,107,108,109,110,111,112,113,114,115,116,117,118,119,120,121,122]⟩
def Qpb:ByteArray:=⟨#[48,48,48,49,48,50,48,51,48,52,48,53,48,54,48,55,48,56,48,57,49,48,49,49,49,50,49,51,49,52,49,53,49,54,49,55,49,56,49,57,50,48,50,49,50,50,50,51,50,52,50,53,50,54,50,55,50,56,50,57,51,48,51,49,51,50,51,51,51,52,51,53,51,54,51,55,51,56,51,57,52,48,52,49,52,50,52,51,52,52,52,53,52,54,52,55,52,56,52,57,53,48,53,49,53,50,53,51,53,52,53,53,53,54,53,55,53,56,53,57,54,48,54,49,54,50,54,51,54,52,54,53,54,54,54,55,54,56,54,57,55,48,55,49,55,50,55,51,55,52,55,53,55,54,55,55,55,56,55,57,56,48,56,49,56,50,56,51,56,52,56,53,56,54,56,55,56,56,56,57,57,48,57,49,57,50,57,51,57,52,57,53,57,54,57,55,57,56,57,57]⟩
def Qpd:ByteArray:=⟨#[0,1,2,2,3,3,3,3,4,4,4,4,4,4,4,4,5,5,5,5,5,5,5,5,5,5,5,5,5,5,5,5,6,6,6,6,6,6,6,6,6,6,6,6,6,6,6,6,6,6,6,6,6,6,6,6,6,6,6,6,6,6,6,6,7,7,7,7,7,7,7,7,7,7,7,7,7,7,7,7,7,7,7,7,7,7,7,7,7,7,7,7,7,7,7,7,7,7,7,7,7,7,7,7,7,7,7,7,7,7,7,7,7,7,7,7,7,7,7,7,7,7,7,7,7,7,7,7,8,8,8,8,8,8,8,8,8,8,8,8,8,8,8,8,8,8,8,8,8,8,8,8,8,8,8,8,8,8,8,8,8,8,8,8,8,8,8,8,8,8,8,8,8,8,8,8,8,8,8,8,8,8,8,8,8,8,8,8,8,8,8,8,8,8,8,8,8,8,8,8,8,8,8,8,8,8,8,8,8,8,8,8,8,8,8,8,8,8,8,8,8,8,8,8,8,8,8,8,8,8,8,8,8,8,8,8,8,8,8,8,8,8,8,8,8,8,8,8,8,8,8,8,8,8,8,8]⟩
def Qd6:ByteArray:=⟨#[112,108,97,99,101,115]⟩
def QbU:ByteArray:=⟨#[112,108,97,99,101,32]⟩
def Qg8:ByteArray:=⟨#[97,114,99,115]⟩
def QaT:ByteArray:=⟨#[97,114,99,32]⟩
def Qt7:ByteArray:=⟨#[97,112,97,114,116]⟩
def QsP:ByteArray:=⟨#[98,101,102,111,114,101]⟩
def Qob:ByteArray:=⟨#[110,101,116]⟩
def QqR:ByteArray:=⟨#[116,121,112,101,115]⟩
def Qpe:ByteArray:=⟨#[111,114,100,101,114,115]⟩
def QqQ:ByteArray:=⟨#[114,117,108,101,115]⟩
def QuU:ByteArray:=⟨#[104,117,98]⟩
def QuS:ByteArray:=⟨#[97,115,104]⟩
def QuT:ByteArray:=⟨#[98,97,121]⟩
def QyE:ByteArray:=⟨#[111,97]⟩
def QuV:ByteArray:=⟨#[118,97,110]⟩
def QyD:ByteArray:=⟨#[45]⟩
end Go.Proofs.YtbilkblifgaflaaGreatDoor
namespace Go.Proofs.YtbilkblifgaflaaGreatDoor
set_option linter.unusedVariables false
set_option linter.unusedSectionVars false
set_option linter.unusedSimpArgs false
noncomputable def QdX (x0:Qab) (i:Int):Option ((Int)⊕((Unit)⊕(Bool))):=br (ltI i (lenI x0.net.arcs)) (bnd (getI x0.net.arcs i) fun x1=>br (gtI (lenI x1.travel) 20) (some (.inr (.inr false))) (br (gtI (lenI x1.slow) 20) (some (.inr (.inr false))) (some (.inl (addK .i64 i 1))))) (some (.inr (.inl ())))
noncomputable def Qhh (x0:Qab):Option Bool:=br ((((gtI (lenI x0.orders) 3)||(gtI (lenI x0.types) 3))||(gtI (lenI x0.net.places) 6))||(gtI (lenI x0.net.arcs) 30)) (some false) (bnd (QaX (fun s=>QdX x0 s) 0) (fun e=>sel e (fun (_:Unit)=>some true) (fun r=>some r)))
noncomputable def Qbf (n:Int):Option (List Qaa):=br (ltI n 0) (none) (br (gtI (subK .i64 n (subK .i64 0 0)) 0) (bnd (mkI (subK .i64 n (subK .i64 0 0)) (subK .i64 n (subK .i64 0 0)) 24 (Qaa.mk 0 ByteArray.empty)) fun l=>bnd (slcI l 0 0) fun l1=>some l1) (some []))
noncomputable def QaO (slices:List (List Qaa)) (size:Int) (v:Int):Option ((Int×Int)⊕(Int)):=br (ltI v (lenI slices)) (bnd (getI slices v) fun x0=>br (ltI (addK .i64 size (lenI x0)) 0) (none) (some (.inl ((addK .i64 size (lenI x0)),(addK .i64 v 1))))) (some (.inr size))
noncomputable def QaK (slices:List (List Qaa)) (l:List Qaa) (v1:Int):Option ((List Qaa×Int)⊕(List Qaa)):=br (ltI v1 (lenI slices)) (bnd (getI slices v1) fun x1=>chk (okN (l++x1).length 24) (some (.inl ((l++x1),(addK .i64 v1 1))))) (some (.inr l))
noncomputable def Qb0 (slices:List (List Qaa)):Option (List Qaa):=bnd (QaX (fun s=>QaO slices s.1 s.2) (0,0)) (fun size1=>bnd (Qbf size1) fun r=>bnd (QaX (fun s=>QaK slices s.1 s.2) (r,0)) (fun l1=>some l1))
noncomputable def Qhz (word:ByteArray) (l:List Qaa) (l2:List Qaa) (v:Int) (x0:Qaa) (at_:ByteArray) (at_1:ByteArray):Option ((List Qaa×Int)⊕(List Qaa)):=chk (okN (l2++[(Qaa.mk x0.err at_1)]).length 24) (some (.inl ((l2++[(Qaa.mk x0.err at_1)]),(addK .i64 v 1))))
noncomputable def Qgg (word:ByteArray) (l:List Qaa) (l2:List Qaa) (v:Int):Option ((List Qaa×Int)⊕(List Qaa)):=br (ltI v (lenI l)) (bnd (getI l v) fun x0=>br (eqS x0.at_ ByteArray.empty) (Qhz word l l2 v x0 x0.at_ word) (chk (Qa1.size+x0.at_.size≤9223372036854775807) (chk (word.size+(catS Qa1 x0.at_).size≤9223372036854775807) (Qhz word l l2 v x0 x0.at_ (catS word (catS Qa1 x0.at_)))))) (some (.inr l2))
noncomputable def Qgm (word:ByteArray) (l:List Qaa):Option (List Qaa):=bnd (mkI 0 (lenI l) 24 (Qaa.mk 0 ByteArray.empty)) fun l1=>bnd (QaX (fun s=>Qgg word l s.1 s.2) (l1,0)) (fun l3=>some l3)
noncomputable def QsW (i:Int):Option ByteArray:=br (ltI i 10) (bnd (slcS Qpc i (addK .i64 i 1)) fun s0=>some (Qpc.extract (i:Int).toNat ((addK .i64 i 1):Int).toNat)) (bnd (slcS Qpb (mulK .i64 i 2) (addK .i64 (mulK .i64 i 2) 2)) fun s1=>some (Qpb.extract ((mulK .i64 i 2):Int).toNat ((addK .i64 (mulK .i64 i 2) 2):Int).toNat))
noncomputable def Qwi (x0:Int):Option Int:=some (shrK .i64 (mulK .i64 x0 78913) 18)
noncomputable def QvM (x2:Int) (n1:Int):Option Int:=br (geI x2 256) (bnd (getS Qpd (cvK .u8 (shrK .u64 x2 8))) fun b=>some (addK .i64 (addK .i64 n1 8) (cvK .i64 (QBU b)))) (bnd (getS Qpd (cvK .u8 x2)) fun b1=>some (addK .i64 n1 (cvK .i64 (QBU b1))))
noncomputable def QvL (x1:Int) (n:Int):Option Int:=br (geI x1 65536) (QvM (shrK .u64 x1 16) (addK .i64 n 16)) (QvM x1 n)
noncomputable def QBS (x0:Int):Option Int:=br (geI x0 4294967296) (QvL (shrK .u64 x0 32) 32) (QvL x0 0)
noncomputable def Qwj (d:Int):Option Int:=bnd (QBS d) fun r=>bnd (Qwi r) fun r1=>none
noncomputable def Qhw (i:Int) (u:Int):Option ByteArray:=bnd (Qwj u) fun r1=>none
noncomputable def Qmn (i:Int) (base:Int):Option ByteArray:=br (eqI base 10) (br ((leI 0 i)&&(ltI i 100)) (bnd (QsW i) fun r=>some r) (br (ltI i 0) (Qhw i (subK .u64 0 (cvK .u64 i))) (Qhw i (cvK .u64 i)))) (none)
noncomputable def Qug (i:Int):Option ByteArray:=bnd (Qmn i 10) fun r=>some r
noncomputable def QgA (i:Int):Option ByteArray:=bnd (Qug i) fun r=>some r
noncomputable def QgH (n:Int):Option ByteArray:=bnd (QgA n) fun r=>some r
noncomputable def Qu3 (c:Int):Option Bool:=some ((geI c 48)&&(leI c 57))
noncomputable def QvE (c:Int):Option Bool:=some ((((geI c 97)&&(leI c 122))||((geI c 65)&&(leI c 90)))||(eqI c 95))
noncomputable def QqX (s0:ByteArray) (b:UInt8) (v:Int):Option ((Int)⊕((Unit)⊕(Bool))):=br (ltI v (Qx2 s0)) (bnd (getS s0 v) fun b1=>bnd (QvE (QBU b1)) fun r1=>br r1 (some (.inl (addK .i64 v 1))) (bnd (Qu3 (QBU b1)) fun r2=>br r2 (some (.inl (addK .i64 v 1))) (some (.inr (.inr false))))) (some (.inr (.inl ())))
noncomputable def QqW (s0:ByteArray):Option Bool:=br ((eqS s0 ByteArray.empty)||(gtI (Qx2 s0) 16)) (some false) (bnd (getS s0 0) fun b=>bnd (Qu3 (QBU b)) fun r=>br r (some false) (bnd (QaX (fun s=>QqX s0 b s) 0) (fun e=>sel e (fun (_:Unit)=>some true) (fun r3=>some r3))))
noncomputable def QeD (n:Qag) (i:Int):Option Bool:=some ((geI i 0)&&(ltI i (lenI n.places)))
noncomputable def QfE (a:Qai):Option Qar:=some (Qar.mk a.from_ a.to_ a.profile)
noncomputable def QgB (n:Int) (least:Int) (most:Int):Option Bool:=some ((geI n least)&&(leI n most))
noncomputable def QgJ (l:List Qal) (v:Int) (x0:Qal) (r:ByteArray) (l3:List Qaa):Option ((List Qaa×Int)⊕(List Qaa)):=br (gtI v 0) (bnd (getI l (subK .i64 v 1)) fun x1=>br (leI x0.t x1.t) (chk (okN (l3++[(Qaa.mk 13 r)]).length 24) (some (.inl ((l3++[(Qaa.mk 13 r)]),(addK .i64 v 1))))) (br (ltI x0.a x1.a) (chk (okN (l3++[(Qaa.mk 13 r)]).length 24) (some (.inl ((l3++[(Qaa.mk 13 r)]),(addK .i64 v 1))))) (some (.inl (l3,(addK .i64 v 1)))))) (some (.inl (l3,(addK .i64 v 1))))
noncomputable def Qdf (l:List Qal) (l2:List Qaa) (v:Int):Option ((List Qaa×Int)⊕(List Qaa)):=br (ltI v (lenI l)) (bnd (getI l v) fun x0=>bnd (QgA v) fun r=>bnd (QgB x0.t 0 4096) fun r1=>br (((!r1)||(ltI x0.a x0.t))||(gtI x0.a (addK .i64 x0.t 4096))) (chk (okN (l2++[(Qaa.mk 2 r)]).length 24) (QgJ l v x0 r (l2++[(Qaa.mk 2 r)]))) (QgJ l v x0 r l2)) (some (.inr l2))
noncomputable def QgI (l:List Qal) (l1:List Qaa):Option (List Qaa):=bnd (QaX (fun s=>Qdf l s.1 s.2) (l1,0)) (fun l4=>some l4)
noncomputable def QeU (l:List Qal):Option (List Qaa):=br ((eqI (lenI l) 0)||(gtI (lenI l) 16)) (chk (okN [(Qaa.mk 4 ByteArray.empty)].length 24) (QgI l [(Qaa.mk 4 ByteArray.empty)])) (QgI l [])
noncomputable def QkX (t:Int):Option Bool:=some ((geI t 0)&&(leI t 4096))
noncomputable def Qeb (l:List Qal) (l2:List Int) (v:Int):Option ((List Int×Int)⊕(List Int)):=br (ltI v (lenI l)) (bnd (getI l v) fun x0=>bnd (QkX x0.t) fun r=>br r (br (gtI v 0) (bnd (getI l (subK .i64 v 1)) fun x1=>br (leI x0.t x1.t) (chk (okN (l2++[2]).length 8) (some (.inl ((l2++[2]),(addK .i64 v 1))))) (bnd (QkX x0.a) fun r1=>br r1 (some (.inl (l2,(addK .i64 v 1)))) (chk (okN (l2++[2]).length 8) (some (.inl ((l2++[2]),(addK .i64 v 1))))))) (bnd (QkX x0.a) fun r2=>br r2 (some (.inl (l2,(addK .i64 v 1)))) (chk (okN (l2++[2]).length 8) (some (.inl ((l2++[2]),(addK .i64 v 1))))))) (chk (okN (l2++[2]).length 8) (some (.inl ((l2++[2]),(addK .i64 v 1)))))) (some (.inr l2))
noncomputable def QhK (l:List Qal) (l1:List Int):Option (List Int):=bnd (QaX (fun s=>Qeb l s.1 s.2) (l1,0)) (fun l3=>some l3)
noncomputable def Qib (l:List Qal):Option (List Int):=br (gtI (lenI l) 16) (chk (okN [4].length 8) (QhK l [4])) (QhK l [])
noncomputable def Qe1 (a:Qai) (known:List (Qar×Bool)) (l:List Int) (r3:List Qaa) (l3:List Int) (v:Int):Option ((List Int×Int)⊕(List Int)):=br (ltI v (lenI r3)) (bnd (getI r3 v) fun x0=>chk (okN (l3++[x0.err]).length 8) (some (.inl ((l3++[x0.err]),(addK .i64 v 1))))) (some (.inr l3))
noncomputable def Qit (a:Qai) (known:List (Qar×Bool)) (l:List Int) (l2:List Int):Option (List Int):=bnd (QeU a.travel) fun r3=>bnd (QaX (fun s=>Qe1 a known l r3 s.1 s.2) (l2,0)) (fun l4=>bnd (Qib a.slow) fun r4=>chk (okN (l4++r4).length 8) (some (l4++r4)))
noncomputable def Qho (a:Qai) (known:List (Qar×Bool)) (l:List Int) (l1:List Int):Option (List Int):=bnd (QfE a) fun r2=>br (mGet Qar.keq known r2 false) (chk (okN (l1++[6]).length 8) (Qit a known l (l1++[6]))) (Qit a known l l1)
noncomputable def Qis (a:Qai) (known:List (Qar×Bool)) (l:List Int):Option (List Int):=br (((((ltI a.profile 0)||(gtI a.profile 7))||(ltI a.miles 0))||(gtI a.miles 10000))||(eqI a.from_ a.to_)) (chk (okN (l++[2]).length 8) (Qho a known l (l++[2]))) (Qho a known l l)
noncomputable def Qnj (a:Qai) (known:List (Qar×Bool)) (r6:List Qaa) (l7:List Int) (v1:Int):Option ((List Int×Int)⊕(List Int)):=br (ltI v1 (lenI r6)) (bnd (getI r6 v1) fun x1=>chk (okN (l7++[x1.err]).length 8) (some (.inl ((l7++[x1.err]),(addK .i64 v1 1))))) (some (.inr l7))
noncomputable def Qni (a:Qai) (known:List (Qar×Bool)) (l6:List Int):Option (List Int):=bnd (QeU a.travel) fun r6=>bnd (QaX (fun s=>Qnj a known r6 s.1 s.2) (l6,0)) (fun l8=>bnd (Qib a.slow) fun r7=>chk (okN (l8++r7).length 8) (some (l8++r7)))
noncomputable def Qka (a:Qai) (known:List (Qar×Bool)) (l5:List Int):Option (List Int):=bnd (QfE a) fun r5=>br (mGet Qar.keq known r5 false) (chk (okN (l5++[6]).length 8) (Qni a known (l5++[6]))) (Qni a known l5)
noncomputable def Qp7 (n:Qag) (a:Qai) (known:List (Qar×Bool)):Option (List Int):=bnd (QeD n a.from_) fun r=>br r (bnd (QeD n a.to_) fun r1=>br r1 (Qis a known []) (chk (okN [11].length 8) (Qis a known [11]))) (chk (okN [11].length 8) (br (((((ltI a.profile 0)||(gtI a.profile 7))||(ltI a.miles 0))||(gtI a.miles 10000))||(eqI a.from_ a.to_)) (chk (okN ([11]++[2]:List Int).length 8) (Qka a known ([11]++[2]))) (Qka a known [11])))
noncomputable def Qg4 (n:Qag) (l:List Qaa) (l2:List (ByteArray×Bool)) (v:Int) (x0:ByteArray) (l3:List Qaa):Option ((List Qaa×List (ByteArray×Bool)×Int)⊕(List Qaa)):=some (.inl (l3,(mPut eqY l2 x0 true),(addK .i64 v 1)))
noncomputable def QdR (n:Qag) (l:List Qaa) (l1:List Qaa) (l2:List (ByteArray×Bool)) (v:Int):Option ((List Qaa×List (ByteArray×Bool)×Int)⊕(List Qaa)):=br (ltI v (lenI n.places)) (bnd (getI n.places v) fun x0=>bnd (QgH v) fun r=>chk (QbU.size+r.size≤9223372036854775807) (bnd (QqW x0) fun r1=>br r1 (br (mGet eqY l2 x0 false) (chk (okN (l1++[(Qaa.mk 6 (catS QbU r))]).length 24) (Qg4 n l l2 v x0 (l1++[(Qaa.mk 6 (catS QbU r))]))) (Qg4 n l l2 v x0 l1)) (chk (okN (l1++[(Qaa.mk 5 (catS QbU r))]).length 24) (Qg4 n l l2 v x0 (l1++[(Qaa.mk 5 (catS QbU r))]))))) (some (.inr l1))
noncomputable def QdT (n:Qag) (l:List Qaa) (l7:List (Qar×Bool)) (v1:Int) (x1:Qai) (r2:List Int) (l8:List Qaa) (v2:Int):Option ((List Qaa×Int)⊕(List Qaa)):=br (ltI v2 (lenI r2)) (bnd (getI r2 v2) fun x2=>bnd (QgH v1) fun r3=>chk (QaT.size+r3.size≤9223372036854775807) (chk (okN (l8++[(Qaa.mk x2 (catS QaT r3))]).length 24) (some (.inl ((l8++[(Qaa.mk x2 (catS QaT r3))]),(addK .i64 v2 1)))))) (some (.inr l8))
noncomputable def QdS (n:Qag) (l:List Qaa) (l6:List Qaa) (l7:List (Qar×Bool)) (v1:Int):Option ((List Qaa×List (Qar×Bool)×Int)⊕(List Qaa)):=br (ltI v1 (lenI n.arcs)) (bnd (getI n.arcs v1) fun x1=>bnd (Qp7 n x1 l7) fun r2=>bnd (QaX (fun s=>QdT n l l7 v1 x1 r2 s.1 s.2) (l6,0)) (fun l9=>bnd (QfE x1) fun r4=>some (.inl (l9,(mPut Qar.keq l7 r4 true),(addK .i64 v1 1))))) (some (.inr l6))
noncomputable def Qe6 (n:Qag) (l:List Qaa) (l5:List Qaa):Option (List Qaa):=bnd (QaX (fun s=>QdS n l s.1 s.2.1 s.2.2) (l5,[],0)) (fun l10=>some l10)
noncomputable def Qg3 (n:Qag) (l:List Qaa):Option (List Qaa):=bnd (QaX (fun s=>QdR n l s.1 s.2.1 s.2.2) (l,[],0)) (fun l4=>br (gtI (lenI n.arcs) 1024) (chk (okN (l4++[(Qaa.mk 4 Qg8)]).length 24) (Qe6 n l (l4++[(Qaa.mk 4 Qg8)]))) (Qe6 n l l4))
noncomputable def Ql1 (n:Qag):Option (List Qaa):=br (gtI (lenI n.places) 24) (chk (okN [(Qaa.mk 4 Qd6)].length 24) (Qg3 n [(Qaa.mk 4 Qd6)])) (Qg3 n [])
noncomputable def Qa5 (n:Int) (least:Int) (most:Int):Option Bool:=some ((geI n least)&&(leI n most))
noncomputable def QjN (n:Int):Option Bool:=bnd (Qa5 n 0 1000) fun r=>some (!r)
noncomputable def QaS (s0:List Int) (v:Int):Option ((Int)⊕((Unit)⊕(Int))):=br (ltI v (lenI s0)) (bnd (getI s0 v) fun x0=>bnd (QjN x0) fun r=>br r (some (.inr (.inr v))) (some (.inl (addK .i64 v 1)))) (some (.inr (.inl ())))
noncomputable def Qct (s0:List Int):Option Int:=bnd (QaX (fun s=>QaS s0 s) 0) (fun e=>sel e (fun (_:Unit)=>some (-1)) (fun r1=>some r1))
noncomputable def Qbz (s0:List Int):Option Bool:=bnd (Qct s0) fun r=>some (geI r 0)
noncomputable def Qio (l:List Int) (first_:List Int):Option Bool:=bnd (Qa5 (lenI l) 1 3) fun r=>br ((!r)||(neI (lenI l) (lenI first_))) (some false) (bnd (Qbz l) fun r1=>some (!r1))
noncomputable def QaL (right:Bool) (e0:Int) (c:List Int):Option (List Int):=br right (some c) (chk (okN (c++[e0]).length 8) (some (c++[e0])))
noncomputable def Qng (x0:Qaf) (c:Qaf):Option Bool:=some (eqS x0.name c.name)
noncomputable def QaF (s0:List Qaf) (c:Qaf) (v:Int):Option ((Int)⊕((Unit)⊕(Int))):=br (ltI v (lenI s0)) (bnd (getI s0 v) fun x0=>bnd (Qng x0 c) fun r=>br r (some (.inr (.inr v))) (some (.inl (addK .i64 v 1)))) (some (.inr (.inl ())))
noncomputable def QbL (s0:List Qaf) (c:Qaf):Option Int:=bnd (QaX (fun s=>QaF s0 c s) 0) (fun e=>sel e (fun (_:Unit)=>some (-1)) (fun r1=>some r1))
noncomputable def Qbd (s0:List Qaf) (c:Qaf):Option Bool:=bnd (QbL s0 c) fun r=>some (geI r 0)
noncomputable def QnI (n:Qag) (l:List Qaf) (i:Int):Option (List Int):=bnd (getI l i) fun x0=>bnd (QqW x0.name) fun r=>bnd (QaL r 5 []) fun r1=>bnd (slcI l 0 i) fun l1=>bnd (Qbd l1 x0) fun r2=>bnd (QaL (!r2) 6 r1) fun r3=>bnd (Qa5 x0.count 0 10) fun r4=>bnd (QaL r4 22 r3) fun r5=>bnd (Qa5 x0.from_ 0 (subK .i64 (lenI n.places) 1)) fun r6=>br r6 (bnd (Qa5 x0.to_ 0 (subK .i64 (lenI n.places) 1)) fun r7=>bnd (QaL r7 11 r5) fun r8=>bnd (getI l 0) fun x1=>bnd (Qio x0.cap x1.cap) fun r9=>bnd (QaL r9 17 r8) fun r10=>bnd (Qa5 x0.skills 0 1073741823) fun r11=>bnd (QaL r11 18 r10) fun r12=>bnd (Qa5 x0.open_ 0 x0.close) fun r13=>bnd (QaL (r13&&(leI x0.close 4096)) 15 r12) fun r14=>bnd (Qa5 x0.drive 1 4096) fun r15=>br r15 (bnd (Qa5 x0.rest_ 0 4096) fun r16=>bnd (QaL r16 16 r14) fun r17=>bnd (Qa5 x0.profile 0 7) fun r18=>br r18 (bnd (Qa5 x0.fixed 0 100000) fun r19=>br r19 (bnd (Qa5 x0.perMile 0 100) fun r20=>br r20 (bnd (Qa5 x0.perTick 0 100) fun r21=>bnd (QaL r21 2 r17) fun r22=>some r22) (bnd (QaL false 2 r17) fun r23=>some r23)) (bnd (QaL false 2 r17) fun r24=>some r24)) (bnd (QaL false 2 r17) fun r25=>some r25)) (bnd (QaL false 16 r14) fun r26=>bnd (Qa5 x0.profile 0 7) fun r27=>br r27 (bnd (Qa5 x0.fixed 0 100000) fun r28=>br r28 (bnd (Qa5 x0.perMile 0 100) fun r29=>br r29 (bnd (Qa5 x0.perTick 0 100) fun r30=>bnd (QaL r30 2 r26) fun r31=>some r31) (bnd (QaL false 2 r26) fun r32=>some r32)) (bnd (QaL false 2 r26) fun r33=>some r33)) (bnd (QaL false 2 r26) fun r34=>some r34))) (bnd (QaL false 11 r5) fun r35=>bnd (getI l 0) fun x2=>bnd (Qio x0.cap x2.cap) fun r36=>bnd (QaL r36 17 r35) fun r37=>bnd (Qa5 x0.skills 0 1073741823) fun r38=>bnd (QaL r38 18 r37) fun r39=>bnd (Qa5 x0.open_ 0 x0.close) fun r40=>bnd (QaL (r40&&(leI x0.close 4096)) 15 r39) fun r41=>bnd (Qa5 x0.drive 1 4096) fun r42=>br r42 (bnd (Qa5 x0.rest_ 0 4096) fun r43=>bnd (QaL r43 16 r41) fun r44=>bnd (Qa5 x0.profile 0 7) fun r45=>br r45 (bnd (Qa5 x0.fixed 0 100000) fun r46=>br r46 (bnd (Qa5 x0.perMile 0 100) fun r47=>br r47 (bnd (Qa5 x0.perTick 0 100) fun r48=>bnd (QaL r48 2 r44) fun r49=>some r49) (bnd (QaL false 2 r44) fun r50=>some r50)) (bnd (QaL false 2 r44) fun r51=>some r51)) (bnd (QaL false 2 r44) fun r52=>some r52)) (bnd (QaL false 16 r41) fun r53=>bnd (Qa5 x0.profile 0 7) fun r54=>br r54 (bnd (Qa5 x0.fixed 0 100000) fun r55=>br r55 (bnd (Qa5 x0.perMile 0 100) fun r56=>br r56 (bnd (Qa5 x0.perTick 0 100) fun r57=>bnd (QaL r57 2 r53) fun r58=>some r58) (bnd (QaL false 2 r53) fun r59=>some r59)) (bnd (QaL false 2 r53) fun r60=>some r60)) (bnd (QaL false 2 r53) fun r61=>some r61)))
noncomputable def Qhg (n:Qag) (l:List Qaf) (v:Int) (r1:List Int) (l3:List Qaa) (v1:Int):Option ((List Qaa×Int)⊕(List Qaa)):=br (ltI v1 (lenI r1)) (bnd (getI r1 v1) fun x0=>bnd (QgH v) fun r2=>chk (okN (l3++[(Qaa.mk x0 r2)]).length 24) (some (.inl ((l3++[(Qaa.mk x0 r2)]),(addK .i64 v1 1))))) (some (.inr l3))
noncomputable def Qhf (n:Qag) (l:List Qaf) (l2:List Qaa) (v:Int):Option ((List Qaa×Int)⊕(List Qaa)):=br (ltI v (lenI l)) (bnd (QnI n l v) fun r1=>bnd (QaX (fun s=>Qhg n l v r1 s.1 s.2) (l2,0)) (fun l4=>some (.inl (l4,(addK .i64 v 1))))) (some (.inr l2))
noncomputable def Qin (n:Qag) (l:List Qaf) (l1:List Qaa):Option (List Qaa):=bnd (QaX (fun s=>Qhf n l s.1 s.2) (l1,0)) (fun l5=>some l5)
noncomputable def Qnt (n:Qag) (l:List Qaf):Option (List Qaa):=bnd (Qa5 (lenI l) 1 6) fun r=>br r (Qin n l []) (chk (okN [(Qaa.mk 4 ByteArray.empty)].length 24) (Qin n l [(Qaa.mk 4 ByteArray.empty)]))
noncomputable def QeZ (a:List Int) (dims:Int) (v:Int):Option ((Int)⊕((Unit)⊕(Bool))):=br (ltI v (lenI a)) (bnd (getI a v) fun x0=>br ((ltI x0 0)||(gtI x0 1000)) (some (.inr (.inr false))) (some (.inl (addK .i64 v 1)))) (some (.inr (.inl ())))
noncomputable def Qnv (a:List Int) (dims:Int):Option Bool:=bnd (QaX (fun s=>QeZ a dims s) 0) (fun e=>sel e (fun (_:Unit)=>some (eqI (lenI a) dims)) (fun r=>some r))
noncomputable def Qdu (n:Int) (least:Int) (most:Int):Option Bool:=some ((geI n least)&&(leI n most))
noncomputable def Qnx (n:Int):Option Bool:=some ((geI n 0)&&(leI n 4096))
noncomputable def QgL (s0:Qap):Option Int:=br (eqI s0.place (-1)&&(eqI s0.open_ 0&&(eqI s0.close 0&&(eqI s0.service 0&&true)))) (some 0) (br (geI s0.place 0) (bnd (Qnx s0.open_) fun r=>br r (bnd (Qnx s0.close) fun r1=>br (r1&&(leI s0.open_ s0.close)) (bnd (Qnx s0.service) fun r2=>br r2 (some 0) (some 2)) (some 2)) (some 2)) (some 2))
noncomputable def Qgv (o:Qac) (types:Int):Option Bool:=bnd (Qdu o.penalty (-1) 1000000) fun r=>br r (bnd (Qdu o.split 1 4) fun r1=>some (((((r1&&(((eqI o.split 1)||(eqI o.pick.place (-1)))||(eqI o.drop.place (-1))))&&(geI o.last_ (-1)))&&(ltI o.last_ types))&&(geI o.now (-1)))&&(ltI o.now types))) (some false)
noncomputable def QaP (right:Bool) (e0:Int) (c:List Int):Option (List Int):=br right (some c) (chk (okN (c++[e0]).length 8) (some (c++[e0])))
noncomputable def Qnk (x0:Qac) (c:Qac):Option Bool:=some (eqS x0.name c.name)
noncomputable def QaB (s0:List Qac) (c:Qac) (v:Int):Option ((Int)⊕((Unit)⊕(Int))):=br (ltI v (lenI s0)) (bnd (getI s0 v) fun x0=>bnd (Qnk x0 c) fun r=>br r (some (.inr (.inr v))) (some (.inl (addK .i64 v 1)))) (some (.inr (.inl ())))
noncomputable def QbD (s0:List Qac) (c:Qac):Option Int:=bnd (QaX (fun s=>QaB s0 c s) 0) (fun e=>sel e (fun (_:Unit)=>some (-1)) (fun r1=>some r1))
noncomputable def Qa0 (s0:List Qac) (c:Qac):Option Bool:=bnd (QbD s0 c) fun r=>some (geI r 0)
noncomputable def Qn4 (n:Qag) (dims:Int) (types:Int) (l:List Qac) (i:Int):Option (List Int):=bnd (getI l i) fun x0=>bnd (QqW x0.name) fun r=>bnd (QaP r 5 []) fun r1=>bnd (slcI l 0 i) fun l1=>bnd (Qa0 l1 x0) fun r2=>bnd (QaP (!r2) 6 r1) fun r3=>bnd (Qnv x0.load dims) fun r4=>bnd (QaP r4 17 r3) fun r5=>bnd (Qdu x0.pick.place (-1) (subK .i64 (lenI n.places) 1)) fun r6=>br r6 (bnd (Qdu x0.drop.place (-1) (subK .i64 (lenI n.places) 1)) fun r7=>bnd (QaP r7 11 r5) fun r8=>bnd (QaP ((neI x0.pick.place (-1))||(neI x0.drop.place (-1))) 19 r8) fun r9=>bnd (QgL x0.pick) fun r10=>br (eqI r10 0) (bnd (QgL x0.drop) fun r11=>bnd (QaP (eqI r11 0) 14 r9) fun r12=>bnd (Qdu x0.skills 0 1073741823) fun r13=>bnd (QaP r13 18 r12) fun r14=>bnd (Qgv x0 types) fun r15=>bnd (QaP r15 2 r14) fun r16=>some r16) (bnd (QaP false 14 r9) fun r17=>bnd (Qdu x0.skills 0 1073741823) fun r18=>bnd (QaP r18 18 r17) fun r19=>bnd (Qgv x0 types) fun r20=>bnd (QaP r20 2 r19) fun r21=>some r21)) (bnd (QaP false 11 r5) fun r22=>bnd (QaP ((neI x0.pick.place (-1))||(neI x0.drop.place (-1))) 19 r22) fun r23=>bnd (QgL x0.pick) fun r24=>br (eqI r24 0) (bnd (QgL x0.drop) fun r25=>bnd (QaP (eqI r25 0) 14 r23) fun r26=>bnd (Qdu x0.skills 0 1073741823) fun r27=>bnd (QaP r27 18 r26) fun r28=>bnd (Qgv x0 types) fun r29=>bnd (QaP r29 2 r28) fun r30=>some r30) (bnd (QaP false 14 r23) fun r31=>bnd (Qdu x0.skills 0 1073741823) fun r32=>bnd (QaP r32 18 r31) fun r33=>bnd (Qgv x0 types) fun r34=>bnd (QaP r34 2 r33) fun r35=>some r35))
noncomputable def Qhq (n:Qag) (dims:Int) (types:Int) (l:List Qac) (v:Int) (r:List Int) (l3:List Qaa) (v1:Int):Option ((List Qaa×Int)⊕(List Qaa)):=br (ltI v1 (lenI r)) (bnd (getI r v1) fun x0=>bnd (QgH v) fun r1=>chk (okN (l3++[(Qaa.mk x0 r1)]).length 24) (some (.inl ((l3++[(Qaa.mk x0 r1)]),(addK .i64 v1 1))))) (some (.inr l3))
noncomputable def Qhp (n:Qag) (dims:Int) (types:Int) (l:List Qac) (l2:List Qaa) (v:Int):Option ((List Qaa×Int)⊕(List Qaa)):=br (ltI v (lenI l)) (bnd (Qn4 n dims types l v) fun r=>bnd (QaX (fun s=>Qhq n dims types l v r s.1 s.2) (l2,0)) (fun l4=>some (.inl (l4,(addK .i64 v 1))))) (some (.inr l2))
noncomputable def Qiw (n:Qag) (dims:Int) (types:Int) (l:List Qac) (l1:List Qaa):Option (List Qaa):=bnd (QaX (fun s=>Qhp n dims types l s.1 s.2) (l1,0)) (fun l5=>some l5)
noncomputable def Qnw (n:Qag) (dims:Int) (types:Int) (l:List Qac):Option (List Qaa):=br (gtI (lenI l) 10) (chk (okN [(Qaa.mk 4 ByteArray.empty)].length 24) (Qiw n dims types l [(Qaa.mk 4 ByteArray.empty)])) (Qiw n dims types l [])
noncomputable def Qsc (l:List Qaf):Option Int:=br (eqI (lenI l) 0) (some 0) (bnd (getI l 0) fun x0=>some (lenI x0.cap))
noncomputable def Qi3 (self:Int→Option ByteArray) (n:Int):Option ByteArray:=br (ltI n 10) (some (QFW (cvK .i32 (addK .i64 48 (remK n 10))))) (bnd (self (quoK .i64 n 10)) fun r=>chk (r.size+(QFW (cvK .i32 (addK .i64 48 (remK n 10)))).size≤9223372036854775807) (some (catS r (QFW (cvK .i32 (addK .i64 48 (remK n 10)))))))
noncomputable def Qi4:Nat→Int→Option ByteArray|0=>fun _=>none|fuel_+1=>fun n=>Qi3 (Qi4 fuel_) n
noncomputable def Qpa (n:Int):Option ByteArray:=Qi4 QvU n
noncomputable def Qqn (a:Qav) (b:Qav):Option Bool:=br (eqI a.x0 b.x0&&(eqI a.x1 b.x1&&true)) (some true) (br (eqI a.x0 b.x1) (some (eqI a.x1 b.x0)) (some false))
noncomputable def Qqm (a:Qav) (b:Qav):Option Bool:=some (eqI a.x0 b.x0&&(eqI a.x1 b.x1&&true))
noncomputable def Qhd (n:Int) (c:Int):Option Bool:=some ((geI n 0)&&(ltI n c))
noncomputable def Qck (orders:Int) (word:ByteArray) (l:List Qav) (l2:List Qaa) (v:Int) (x0:Qav) (r:ByteArray) (l3:List Qav) (v1:Int):Option ((Int)⊕(List Qaa)):=br (ltI v1 (lenI l3)) (bnd (getI l3 v1) fun x1=>bnd (Qqm x0 x1) fun r3=>br r3 (chk (okN (l2++[(Qaa.mk 6 (catS (catS word Qa1) r))]).length 24) (some (.inr (l2++[(Qaa.mk 6 (catS (catS word Qa1) r))])))) (some (.inl (addK .i64 v1 1)))) (some (.inr l2))
noncomputable def QcI (orders:Int) (word:ByteArray) (l:List Qav) (l2:List Qaa) (v:Int):Option ((List Qaa×Int)⊕(List Qaa)):=br (ltI v (lenI l)) (bnd (getI l v) fun x0=>chk (word.size+Qa1.size≤9223372036854775807) (bnd (Qpa v) fun r=>chk ((catS word Qa1).size+r.size≤9223372036854775807) (bnd (Qhd x0.x0 orders) fun r1=>br r1 (bnd (Qhd x0.x1 orders) fun r2=>br r2 (br (eqI x0.x0 x0.x1) (chk (okN (l2++[(Qaa.mk 2 (catS (catS word Qa1) r))]).length 24) (some (.inl ((l2++[(Qaa.mk 2 (catS (catS word Qa1) r))]),(addK .i64 v 1))))) (bnd (slcI l 0 v) fun l3=>bnd (QaX (fun s=>Qck orders word l l2 v x0 r l3 s) 0) (fun l4=>some (.inl (l4,(addK .i64 v 1)))))) (chk (okN (l2++[(Qaa.mk 2 (catS (catS word Qa1) r))]).length 24) (some (.inl ((l2++[(Qaa.mk 2 (catS (catS word Qa1) r))]),(addK .i64 v 1)))))) (chk (okN (l2++[(Qaa.mk 2 (catS (catS word Qa1) r))]).length 24) (some (.inl ((l2++[(Qaa.mk 2 (catS (catS word Qa1) r))]),(addK .i64 v 1)))))))) (some (.inr l2))
noncomputable def QeT (orders:Int) (word:ByteArray) (l:List Qav) (l1:List Qaa):Option (List Qaa):=bnd (QaX (fun s=>QcI orders word l s.1 s.2) (l1,0)) (fun l5=>some l5)
noncomputable def QhD (orders:Int) (word:ByteArray) (l:List Qav):Option (List Qaa):=br (gtI (lenI l) 16) (chk (okN [(Qaa.mk 4 word)].length 24) (QeT orders word l [(Qaa.mk 4 word)])) (QeT orders word l [])
noncomputable def QbC (orders:Int) (word:ByteArray) (l:List Qav) (l2:List Qaa) (v:Int) (x0:Qav) (r:ByteArray) (l3:List Qav) (v1:Int):Option ((Int)⊕(List Qaa)):=br (ltI v1 (lenI l3)) (bnd (getI l3 v1) fun x1=>bnd (Qqn x0 x1) fun r3=>br r3 (chk (okN (l2++[(Qaa.mk 6 (catS (catS word Qa1) r))]).length 24) (some (.inr (l2++[(Qaa.mk 6 (catS (catS word Qa1) r))])))) (some (.inl (addK .i64 v1 1)))) (some (.inr l2))
noncomputable def QbQ (orders:Int) (word:ByteArray) (l:List Qav) (l2:List Qaa) (v:Int):Option ((List Qaa×Int)⊕(List Qaa)):=br (ltI v (lenI l)) (bnd (getI l v) fun x0=>chk (word.size+Qa1.size≤9223372036854775807) (bnd (Qpa v) fun r=>chk ((catS word Qa1).size+r.size≤9223372036854775807) (bnd (Qhd x0.x0 orders) fun r1=>br r1 (bnd (Qhd x0.x1 orders) fun r2=>br r2 (br (eqI x0.x0 x0.x1) (chk (okN (l2++[(Qaa.mk 2 (catS (catS word Qa1) r))]).length 24) (some (.inl ((l2++[(Qaa.mk 2 (catS (catS word Qa1) r))]),(addK .i64 v 1))))) (bnd (slcI l 0 v) fun l3=>bnd (QaX (fun s=>QbC orders word l l2 v x0 r l3 s) 0) (fun l4=>some (.inl (l4,(addK .i64 v 1)))))) (chk (okN (l2++[(Qaa.mk 2 (catS (catS word Qa1) r))]).length 24) (some (.inl ((l2++[(Qaa.mk 2 (catS (catS word Qa1) r))]),(addK .i64 v 1)))))) (chk (okN (l2++[(Qaa.mk 2 (catS (catS word Qa1) r))]).length 24) (some (.inl ((l2++[(Qaa.mk 2 (catS (catS word Qa1) r))]),(addK .i64 v 1)))))))) (some (.inr l2))
noncomputable def Qdp (orders:Int) (word:ByteArray) (l:List Qav) (l1:List Qaa):Option (List Qaa):=bnd (QaX (fun s=>QbQ orders word l s.1 s.2) (l1,0)) (fun l5=>some l5)
noncomputable def Qfp (orders:Int) (word:ByteArray) (l:List Qav):Option (List Qaa):=br (gtI (lenI l) 16) (chk (okN [(Qaa.mk 4 word)].length 24) (Qdp orders word l [(Qaa.mk 4 word)])) (Qdp orders word l [])
noncomputable def Qqj (orders:Int) (apart:List Qav) (before:List Qav):Option (List Qaa):=bnd (Qfp orders Qt7 apart) fun r=>bnd (QhD orders QsP before) fun r1=>chk (okN (r++r1).length 24) (some (r++r1))
noncomputable def Qiq (x0:Qab):Option (List Qaa):=bnd (Ql1 x0.net) fun r=>bnd (Qgm Qob r) fun r1=>bnd (Qnt x0.net x0.types) fun r2=>bnd (Qgm QqR r2) fun r3=>bnd (Qsc x0.types) fun r4=>bnd (Qnw x0.net r4 (lenI x0.types) x0.orders) fun r5=>bnd (Qgm Qpe r5) fun r6=>bnd (Qqj (lenI x0.orders) x0.apart x0.before) fun r7=>bnd (Qgm QqQ r7) fun r8=>bnd (Qb0 [r1,r3,r6,r8]) fun r9=>some r9
noncomputable def Qf4 (x0:Qab):Option Bool:=bnd (Qiq x0) fun r=>some (eqI (lenI r) 0)
noncomputable def Qos (l:List Qal):Option Bool:=bnd (QeU l) fun r=>some (eqI (lenI r) 0)
noncomputable def QgK (p:Qal) (t:Int):Option Int:=some (subK .i64 p.t t)
noncomputable def QaM (x0:List Qal) (target:Int) (i:Int) (j:Int):Option ((Int×Int)⊕(Int)):=br (ltI i j) (bnd (getI x0 (cvK .i64 (shrK .u64 (cvK .u64 (addK .i64 i j)) 1))) fun x1=>bnd (QgK x1 target) fun r=>br (ltI r 0) (some (.inl ((addK .i64 (cvK .i64 (shrK .u64 (cvK .u64 (addK .i64 i j)) 1)) 1),j))) (some (.inl (i,(cvK .i64 (shrK .u64 (cvK .u64 (addK .i64 i j)) 1)))))) (some (.inr i))
noncomputable def Qa9 (x0:List Qal) (target:Int):Option (Int×Bool):=bnd (QaX (fun s=>QaM x0 target s.1 s.2) (0,(lenI x0))) (fun i1=>br (ltI i1 (lenI x0)) (bnd (getI x0 i1) fun x2=>bnd (QgK x2 target) fun r1=>some (i1,(eqI r1 0))) (some (i1,false)))
noncomputable def Qme (l:List Qal) (t:Int):Option Int:=bnd (Qa9 l t) fun r=>br r.2 (bnd (getI l r.1) fun x0=>some x0.a) (br (eqI r.1 0) (bnd (getI l 0) fun x1=>some (subK .i64 (addK .i64 t x1.a) x1.t)) (br (eqI r.1 (lenI l)) (bnd (getI l (subK .i64 r.1 1)) fun x2=>some (subK .i64 (addK .i64 t x2.a) x2.t)) (bnd (getI l (subK .i64 r.1 1)) fun x3=>bnd (getI l r.1) fun x4=>chk (((subK .i64 x4.t x3.t):Int)≠0) (some (addK .i64 x3.a (quoK .i64 (subK .i64 (addK .i64 (mulK .i64 (subK .i64 t x3.t) (subK .i64 x4.a x3.a)) (subK .i64 x4.t x3.t)) 1) (subK .i64 x4.t x3.t)))))))
noncomputable def Qmd (l:List Qal) (t:Int):Option Int:=bnd (QgB t 0 1073741824) fun r=>br r (bnd (Qos l) fun r1=>br r1 (bnd (Qme l t) fun r2=>some r2) (some 0)) (some 0)
noncomputable def Qiu (a:Qai) (t:Int) (out:Int) (v:Int):Option ((Int×Int)⊕(Int)):=br (ltI v (lenI a.slow)) (bnd (getI a.slow v) fun x0=>br (leI x0.t t) (some (.inl ((addK .i64 out x0.a),(addK .i64 v 1)))) (some (.inl (out,(addK .i64 v 1))))) (some (.inr out))
noncomputable def QhJ (a:Qai) (t:Int):Option Int:=bnd (Qmd a.travel t) fun r=>bnd (QaX (fun s=>Qiu a t s.1 s.2) (r,0)) (fun out1=>some out1)
noncomputable def Qcy (n:Qag) (profile:Int) (from_:Int) (t:Int) (l:List Int) (l1:List Int) (v:Int):Option ((List Int×Int)⊕(List Int)):=br (ltI v (lenI l)) (bnd (getI l1 v) fun x0=>some (.inl ((setI l1 v (-1)),(addK .i64 v 1)))) (some (.inr l1))
noncomputable def Qcz (n:Qag) (profile:Int) (from_:Int) (l:List Int) (l4:List Int) (better1:Bool) (v1:Int):Option ((List Int×Bool×Int)⊕(List Int×Bool)):=br (ltI v1 (lenI n.arcs)) (bnd (getI n.arcs v1) fun x2=>br (neI x2.profile profile) (some (.inl (l4,better1,(addK .i64 v1 1)))) (bnd (QeD n x2.from_) fun r1=>br r1 (bnd (QeD n x2.to_) fun r2=>br r2 (bnd (getI l4 x2.from_) fun x3=>br (ltI x3 0) (some (.inl (l4,better1,(addK .i64 v1 1)))) (bnd (QhJ x2 x3) fun r3=>bnd (getI l4 x2.to_) fun x4=>br (ltI x4 0) (some (.inl ((setI l4 x2.to_ r3),true,(addK .i64 v1 1)))) (br (ltI r3 x4) (some (.inl ((setI l4 x2.to_ r3),true,(addK .i64 v1 1)))) (some (.inl (l4,better1,(addK .i64 v1 1))))))) (some (.inl (l4,better1,(addK .i64 v1 1))))) (some (.inl (l4,better1,(addK .i64 v1 1)))))) (some (.inr (l4,better1)))
noncomputable def Qes (n:Qag) (profile:Int) (from_:Int) (l:List Int) (l3:List Int) (better:Bool):Option ((List Int×Bool)⊕(List Int)):=br better (bnd (QaX (fun s=>Qcz n profile from_ l s.1 s.2.1 s.2.2) (l3,false,0)) (fun e0=>(fun l5 better2=>some (.inl (l5,better2))) e0.1 e0.2)) (some (.inr l3))
noncomputable def Qg5 (n:Qag) (profile:Int) (from_:Int) (t:Int):Option (List Int):=bnd (mkI (lenI n.places) (lenI n.places) 8 0) fun l=>bnd (QaX (fun s=>Qcy n profile from_ t l s.1 s.2) (l,0)) (fun l2=>bnd (QeD n from_) fun r=>br r (bnd (getI l2 from_) fun x1=>bnd (QaX (fun s=>Qes n profile from_ l s.1 s.2) ((setI l2 from_ t),true)) (fun l6=>some l6)) (some l2))
noncomputable def Qdd (x0:Qab) (l:List (List Int)) (v:Int):Option ((List (List Int)×Int)⊕(List (List Int))):=br (ltI v (lenI x0.types)) (bnd (getI x0.types v) fun x1=>bnd (Qg5 x0.net x1.profile x1.from_ x1.open_) fun r=>chk (okN (l++[r]).length 24) (some (.inl ((l++[r]),(addK .i64 v 1))))) (some (.inr l))
noncomputable def QiA (x0:Qab):Option Qaz:=bnd (QaX (fun s=>Qdd x0 s.1 s.2) ([],0)) (fun l1=>some (Qaz.mk x0 l1))
noncomputable def QjM (t:Qaf) (skills:Int):Option Bool:=some (((geI t.skills 0)&&(geI skills 0))&&(eqI (Quh .i64 skills t.skills) 0))
noncomputable def QbB (r:Qaz) (o:Qac) (place:Int) (least:Int) (v:Int):Option ((Int×Int)⊕(Int)):=br (ltI v (lenI r.x.types)) (bnd (getI r.x.types v) fun x0=>bnd (getI r.first_ v) fun x1=>bnd (getI x1 place) fun x2=>bnd (QjM x0 o.skills) fun r1=>br ((r1&&(geI x2 0))&&((ltI least 0)||(ltI x2 least))) (some (.inl (x2,(addK .i64 v 1)))) (some (.inl (least,(addK .i64 v 1))))) (some (.inr least))
noncomputable def Qfo (r:Qaz) (o:Qac) (place:Int):Option Int:=bnd (QaX (fun s=>QbB r o place s.1 s.2) ((-1),0)) (fun least1=>some least1)
noncomputable def Qe8 (t:Qaf) (c:Qac) (c1:Qaz) (c2:Int) (c3:Int):Option Bool:=bnd (QjM t c.skills) fun r=>br r (bnd (Qg5 c1.x.net t.profile c2 c3) fun r1=>bnd (getI r1 t.to_) fun x0=>some ((geI x0 0)&&(leI x0 t.close))) (some false)
noncomputable def QaC (s0:List Qaf) (c:Qac) (c1:Qaz) (c2:Int) (c3:Int) (v:Int):Option ((Int)⊕((Unit)⊕(Int))):=br (ltI v (lenI s0)) (bnd (getI s0 v) fun x0=>bnd (Qe8 x0 c c1 c2 c3) fun r=>br r (some (.inr (.inr v))) (some (.inl (addK .i64 v 1)))) (some (.inr (.inl ())))
noncomputable def QbJ (s0:List Qaf) (c:Qac) (c1:Qaz) (c2:Int) (c3:Int):Option Int:=bnd (QaX (fun s=>QaC s0 c c1 c2 c3 s) 0) (fun e=>sel e (fun (_:Unit)=>some (-1)) (fun r1=>some r1))
noncomputable def Qbq (s0:List Qaf) (c:Qac) (c1:Qaz) (c2:Int) (c3:Int):Option Bool:=bnd (QbJ s0 c c1 c2 c3) fun r=>some (geI r 0)
noncomputable def Qf3 (r:Qaz) (o:Qac) (place:Int) (depart:Int):Option Bool:=bnd (Qbq r.x.types o r place depart) fun r1=>some r1
noncomputable def QeS (k:Int) (c:Qaz) (c1:Qac) (c2:Qap) (c3:Int):Option Bool:=bnd (Qf3 c c1 c2.place (addK .i64 (addK .i64 c3 k) c2.service)) fun r=>some (!r)
noncomputable def Qd7 (c:Qaz) (c1:Qac) (c2:Qap) (c3:Int) (i:Int) (j:Int):Option ((Int×Int)⊕(Int)):=br (ltI i j) (bnd (QeS (cvK .i64 (shrK .u64 (cvK .u64 (addK .i64 i j)) 1)) c c1 c2 c3) fun r=>br r (some (.inl (i,(cvK .i64 (shrK .u64 (cvK .u64 (addK .i64 i j)) 1))))) (some (.inl ((addK .i64 (cvK .i64 (shrK .u64 (cvK .u64 (addK .i64 i j)) 1)) 1),j)))) (some (.inr i))
noncomputable def Qgz (n:Int) (c:Qaz) (c1:Qac) (c2:Qap) (c3:Int):Option Int:=bnd (QaX (fun s=>Qd7 c c1 c2 c3 s.1 s.2) (0,n)) (fun i1=>some i1)
noncomputable def Qd5 (r:Qaz) (o:Qac) (s0:Qap):Option Qap:=br (ltI s0.place 0) (some s0) (bnd (Qfo r o s0.place) fun r1=>br ((ltI r1 0)||(gtI r1 s0.close)) (some s0) (bnd (Qgz (addK .i64 (subK .i64 s0.close (maxI s0.open_ r1)) 1) r o s0 (maxI s0.open_ r1)) fun r2=>br (eqI r2 0) (some s0) (some (Qap.mk s0.place (maxI s0.open_ r1) (subK .i64 (addK .i64 (maxI s0.open_ r1) r2) 1) s0.service))))
noncomputable def QbK (s0:List Qac):Option (List Qac):=br (List.isEmpty s0) (amb (some []) (chk (okN s0.length 152) (some s0))) (chk (okN s0.length 152) (some s0))
noncomputable def Qe2 (x0:Qab) (r1:Qaz) (r2:List Qac) (l:List Qac) (v:Int):Option ((List Qac×Int)⊕(List Qac)):=br (ltI v (lenI r2)) (bnd (getI l v) fun x1=>br x1.off (some (.inl (l,(addK .i64 v 1)))) (bnd (Qd5 r1 x1 x1.pick) fun r3=>bnd (Qd5 r1 x1 x1.drop) fun r4=>some (.inl ((setI (setI l v (Qac.mk x1.name x1.load r3 x1.drop x1.skills x1.penalty x1.split x1.last_ x1.now x1.off)) v (Qac.mk x1.name x1.load r3 r4 x1.skills x1.penalty x1.split x1.last_ x1.now x1.off)),(addK .i64 v 1))))) (some (.inr l))
noncomputable def QgF (x0:Qab):Option (Qab×Int):=bnd (Qf4 x0) fun r=>br r (bnd (QiA x0) fun r1=>bnd (QbK x0.orders) fun r2=>bnd (QaX (fun s=>Qe2 x0 r1 r2 s.1 s.2) (r2,0)) (fun l1=>some ((Qab.mk x0.net x0.types l1 x0.apart x0.before),0))) (some ((Qab.mk (Qag.mk [] []) [] [] [] []),2))
noncomputable def QhI (n:Qag) (profile:Int) (from_:Int) (to_:Int) (v:Int):Option ((Int)⊕((Unit)⊕(Qai×Bool))):=br (ltI v (lenI n.arcs)) (bnd (getI n.arcs v) fun x0=>bnd (QfE x0) fun r=>br (eqI r.from_ from_&&(eqI r.to_ to_&&(eqI r.profile profile&&true))) (some (.inr (.inr (x0,true)))) (some (.inl (addK .i64 v 1)))) (some (.inr (.inl ())))
noncomputable def Qn1 (n:Qag) (profile:Int) (from_:Int) (to_:Int):Option (Qai×Bool):=bnd (QaX (fun s=>QhI n profile from_ to_ s) 0) (fun e=>sel e (fun (_:Unit)=>some ((Qai.mk 0 0 0 0 [] []),false)) (fun r1=>some r1))
noncomputable def Qn2 (n:Qag) (profile:Int) (from_:Int) (to_:Int) (t:Int):Option (Int×Int×Int):=bnd (QeD n from_) fun r=>br r (bnd (QeD n to_) fun r1=>br r1 (br (eqI from_ to_) (some (t,0,0)) (bnd (Qn1 n profile from_ to_) fun r2=>br r2.2 (bnd (QhJ r2.1 t) fun r3=>some (r3,r2.1.miles,0)) (some (0,0,12)))) (some (0,0,11))) (some (0,0,11))
noncomputable def QcH (r:Qaz) (a:Qai) (v:Int):Option ((Int)⊕((Unit)⊕(Bool))):=br (ltI v (lenI r.x.types)) (bnd (getI r.x.types v) fun x0=>bnd (getI r.first_ v) fun x1=>bnd (getI x1 a.from_) fun x2=>br ((neI x0.profile a.profile)||(ltI x2 0)) (some (.inl (addK .i64 v 1))) (bnd (Qn2 r.x.net a.profile a.from_ a.to_ x2) fun r1=>br ((eqI r1.2.2 0)&&(leI r1.1 x0.close)) (some (.inr (.inr true))) (some (.inl (addK .i64 v 1))))) (some (.inr (.inl ())))
noncomputable def QhC (r:Qaz) (a:Qai):Option Bool:=bnd (QaX (fun s=>QcH r a s) 0) (fun e=>sel e (fun (_:Unit)=>some false) (fun r2=>some r2))
noncomputable def Qfx (x0:Qab) (r1:Qaz) (l:List Qai) (v:Int):Option ((List Qai×Int)⊕(List Qai)):=br (ltI v (lenI x0.net.arcs)) (bnd (getI x0.net.arcs v) fun x1=>bnd (QhC r1 x1) fun r2=>br r2 (chk (okN (l++[x1]).length 80) (some (.inl ((l++[x1]),(addK .i64 v 1))))) (some (.inl (l,(addK .i64 v 1))))) (some (.inr l))
noncomputable def QhM (x0:Qab):Option (Qab×Int):=bnd (Qf4 x0) fun r=>br r (bnd (QiA x0) fun r1=>bnd (QaX (fun s=>Qfx x0 r1 s.1 s.2) ([],0)) (fun l1=>some ((Qab.mk (Qag.mk x0.net.places l1) x0.types x0.orders x0.apart x0.before),0))) (some ((Qab.mk (Qag.mk [] []) [] [] [] []),2))
noncomputable def Qgw (x0:Qab):Option (Qab×Int):=bnd (QgF x0) fun r=>br (neI r.2 0) (some ((Qab.mk (Qag.mk [] []) [] [] [] []),r.2)) (bnd (QhM r.1) fun r1=>some (r1.1,r1.2))
noncomputable def Qk8 (l:List Qac) (sum:Int) (v:Int):Option ((Int×Int)⊕(Int)):=br (ltI v (lenI l)) (bnd (getI l v) fun x0=>some (.inl ((addK .i64 sum (subK .i64 (addK .i64 (subK .i64 x0.pick.close x0.pick.open_) x0.drop.close) x0.drop.open_)),(addK .i64 v 1)))) (some (.inr sum))
noncomputable def QkZ (l:List Qac):Option Int:=bnd (QaX (fun s=>Qk8 l s.1 s.2) (0,0)) (fun sum1=>some sum1)
noncomputable def QkY (x0:Qab):Option (Int×Int×Int):=bnd (Qgw x0) fun r=>br (neI r.2 0) (some (0,0,r.2)) (bnd (QkZ x0.orders) fun r1=>bnd (QkZ r.1.orders) fun r2=>some ((subK .i64 r1 r2),(subK .i64 (lenI x0.net.arcs) (lenI r.1.net.arcs)),0))
noncomputable def QsT (set_:Int) (i:Int):Option Bool:=br ((geI i 0)&&(leI i 62)) (chk ((0:Int)≤i) (some (eqI (andK .i64 (shrK .i64 set_ i) 1) 1))) (some false)
noncomputable def Qlc (set_:Int) (l:List Int) (v:Int):Option ((List Int×Int)⊕(List Int)):=br (ltI v 63) (bnd (QsT set_ v) fun r=>br r (chk (okN (l++[v]).length 8) (some (.inl ((l++[v]),(addK .i64 v 1))))) (some (.inl (l,(addK .i64 v 1))))) (some (.inr l))
noncomputable def Qoq (set_:Int):Option (List Int):=bnd (QaX (fun s=>Qlc set_ s.1 s.2) ([],0)) (fun l1=>some l1)
noncomputable def Qla (before:List Qav) (l:List Int) (l2:List Int) (more1:Bool) (v:Int):Option ((List Int×Bool×Int)⊕(List Int×Bool)):=br (ltI v (lenI before)) (bnd (getI before v) fun x0=>br ((((ltI x0.x0 0)||(ltI x0.x1 0))||(geI x0.x0 (lenI l2)))||(geI x0.x1 (lenI l2))) (some (.inl (l2,more1,(addK .i64 v 1)))) (bnd (getI l2 x0.x1) fun x1=>bnd (getI l2 x0.x0) fun x2=>chk ((0:Int)≤x0.x0) (br (neI (orK .i64 (orK .i64 x1 x2) (shlK .i64 1 x0.x0)) x1) (some (.inl ((setI l2 x0.x1 (orK .i64 (orK .i64 x1 x2) (shlK .i64 1 x0.x0))),true,(addK .i64 v 1)))) (some (.inl (l2,more1,(addK .i64 v 1))))))) (some (.inr (l2,more1)))
noncomputable def Qk9 (before:List Qav) (l:List Int) (l1:List Int) (more:Bool):Option ((List Int×Bool)⊕(List Int)):=br more (bnd (QaX (fun s=>Qla before l s.1 s.2.1 s.2.2) (l1,false,0)) (fun e0=>(fun l3 more2=>some (.inl (l3,more2))) e0.1 e0.2)) (some (.inr l1))
noncomputable def Qjo (orders:Int) (before:List Qav):Option (List Int):=bnd (mkI (maxI orders 0) (maxI orders 0) 8 0) fun l=>bnd (QaX (fun s=>Qk9 before l s.1 s.2) (l,true)) (fun l4=>some l4)
noncomputable def Qkd (x0:Qab) (set_:Int) (r:List Int) (v:Int):Option ((Int)⊕((Unit)⊕(Int))):=br (ltI v (lenI r)) (bnd (getI r v) fun x1=>br (geI x1 (lenI x0.orders)) (some (.inr (.inr 2))) (some (.inl (addK .i64 v 1)))) (some (.inr (.inl ())))
noncomputable def Qid (x0:Qab) (set_:Int) (r:List Int) (v1:Int):Option ((Int)⊕((Unit)⊕(Int))):=br (ltI v1 (lenI r)) (bnd (getI r v1) fun x2=>bnd (getI x0.orders x2) fun x3=>br x3.off (some (.inr (.inr 9))) (some (.inl (addK .i64 v1 1)))) (some (.inr (.inl ())))
noncomputable def Qg6 (x0:Qab) (set_:Int) (r:List Int) (v2:Int):Option ((Int)⊕((Unit)⊕(Int))):=br (ltI v2 (lenI x0.apart)) (bnd (getI x0.apart v2) fun x4=>bnd (QsT set_ x4.x0) fun r1=>br r1 (bnd (QsT set_ x4.x1) fun r2=>br r2 (some (.inr (.inr 20))) (some (.inl (addK .i64 v2 1)))) (some (.inl (addK .i64 v2 1)))) (some (.inr (.inl ())))
noncomputable def Qf5 (x0:Qab) (set_:Int) (r:List Int) (v3:Int):Option ((Int)⊕((Unit)⊕(Int))):=br (ltI v3 (lenI x0.before)) (bnd (getI x0.before v3) fun x5=>bnd (QsT set_ x5.x1) fun r3=>br r3 (bnd (QsT set_ x5.x0) fun r4=>br r4 (some (.inl (addK .i64 v3 1))) (some (.inr (.inr 21)))) (some (.inl (addK .i64 v3 1)))) (some (.inr (.inl ())))
noncomputable def Qe9 (r:List Int) (r5:List Int) (v4:Int):Option ((Int)⊕((Unit)⊕(Int))):=br (ltI v4 (lenI r)) (bnd (getI r v4) fun x6=>bnd (getI r5 x6) fun x7=>bnd (QsT x7 x6) fun r6=>br r6 (some (.inr (.inr 21))) (some (.inl (addK .i64 v4 1)))) (some (.inr (.inl ())))
noncomputable def QsN (x0:Qab) (set_:Int):Option Int:=br (ltI set_ 0) (some 2) (bnd (Qoq set_) fun r=>bnd (QaX (fun s=>Qkd x0 set_ r s) 0) (fun e=>sel e (fun (_:Unit)=>bnd (QaX (fun s=>Qid x0 set_ r s) 0) (fun e=>sel e (fun (_:Unit)=>bnd (QaX (fun s=>Qg6 x0 set_ r s) 0) (fun e=>sel e (fun (_:Unit)=>bnd (QaX (fun s=>Qf5 x0 set_ r s) 0) (fun e=>sel e (fun (_:Unit)=>bnd (Qjo (lenI x0.orders) x0.before) fun r5=>bnd (QaX (fun s=>Qe9 r r5 s) 0) (fun e=>sel e (fun (_:Unit)=>some 0) (fun r7=>some r7))) (fun r8=>some r8))) (fun r9=>some r9))) (fun r10=>some r10))) (fun r11=>some r11)))
noncomputable def Qtc (l:List Qac) (at_:Int):Option Bool:=some ((geI at_ 0)&&(ltI at_ (lenI l)))
noncomputable def Qk5 (l:List Qac) (at_:Int) (l1:List Qad):Option (List Qad):=bnd (getI l at_) fun x1=>br (geI x1.drop.place 0) (chk (okN (l1++[(Qad.mk at_ true)]).length 16) (some (l1++[(Qad.mk at_ true)]))) (some l1)
noncomputable def Qjn (l:List Qac) (at_:Int):Option (List Qad):=bnd (Qtc l at_) fun r=>br r (bnd (getI l at_) fun x0=>br (geI x0.pick.place 0) (chk (okN [(Qad.mk at_ false)].length 16) (Qk5 l at_ [(Qad.mk at_ false)])) (Qk5 l at_ [])) (some [])
noncomputable def Qcu (s0:List Qad) (v:Qad) (v1:Int):Option ((Int)⊕((Unit)⊕(Int))):=br (ltI v1 (lenI s0)) (bnd (getI s0 v1) fun x0=>br (eqI v.order x0.order&&(eqB v.drop x0.drop&&true)) (some (.inr (.inr v1))) (some (.inl (addK .i64 v1 1)))) (some (.inr (.inl ())))
noncomputable def QcL (s0:List Qad) (v:Qad):Option Int:=bnd (QaX (fun s=>Qcu s0 v s) 0) (fun e=>sel e (fun (_:Unit)=>some (-1)) (fun r=>some r))
noncomputable def Qhs (l:List Qad) (v:Qad):Option Int:=bnd (QcL l v) fun r=>some r
noncomputable def Qji (l:List Qad) (v:Int):Option ((Int)⊕((Unit)⊕(Bool))):=br (ltI v (lenI l)) (bnd (getI l v) fun x0=>bnd (slcI l 0 v) fun l1=>bnd (Qhs l1 x0) fun r=>br (geI r 0) (some (.inr (.inr true))) (some (.inl (addK .i64 v 1)))) (some (.inr (.inl ())))
noncomputable def QqU (l:List Qad):Option Bool:=bnd (QaX (fun s=>Qji l s) 0) (fun e=>sel e (fun (_:Unit)=>some false) (fun r1=>some r1))
noncomputable def Qdv (s0:List Qad) (v:Qad):Option Bool:=bnd (QcL s0 v) fun r=>some (geI r 0)
noncomputable def QiE (x0:Qab) (l:List Qad) (v:Int) (r:List Qad) (last_:Int) (v1:Int):Option ((Int×Int)⊕((Unit)⊕(Bool))):=br (ltI v1 (lenI r)) (bnd (getI r v1) fun x2=>bnd (Qhs l x2) fun r2=>br (leI r2 last_) (some (.inr (.inr false))) (some (.inl (r2,(addK .i64 v1 1))))) (some (.inr (.inl ())))
noncomputable def QiD (x0:Qab) (l:List Qad) (v:Int):Option ((Int)⊕((Unit)⊕(Bool))):=br (ltI v (lenI l)) (bnd (getI l v) fun x1=>bnd (Qjn x0.orders x1.order) fun r=>bnd (Qdv r x1) fun r1=>br r1 (bnd (QaX (fun s=>QiE x0 l v r s.1 s.2) ((-1),0)) (fun e=>sel e (fun (_:Unit)=>some (.inl (addK .i64 v 1))) (fun r3=>some (.inr (.inr r3))))) (some (.inr (.inr false)))) (some (.inr (.inl ())))
noncomputable def Qpz (x0:Qab) (l:List Qad):Option Bool:=bnd (QaX (fun s=>QiD x0 l s) 0) (fun e=>sel e (fun (_:Unit)=>some true) (fun r4=>some r4))
noncomputable def QqS (v:Qad) (c:Int):Option Bool:=some (eqI v.order c)
noncomputable def QbE (s0:List Qad) (c:Int) (v:Int):Option ((Int)⊕((Unit)⊕(Int))):=br (ltI v (lenI s0)) (bnd (getI s0 v) fun x0=>bnd (QqS x0 c) fun r=>br r (some (.inr (.inr v))) (some (.inl (addK .i64 v 1)))) (some (.inr (.inl ())))
noncomputable def QcB (s0:List Qad) (c:Int):Option Int:=bnd (QaX (fun s=>QbE s0 c s) 0) (fun e=>sel e (fun (_:Unit)=>some (-1)) (fun r1=>some r1))
noncomputable def Qcl (s0:List Qad) (c:Int):Option Bool:=bnd (QcB s0 c) fun r=>some (geI r 0)
noncomputable def Qk1 (l:List Qad) (o:Int):Option Bool:=bnd (Qcl l o) fun r=>some r
noncomputable def Qml (v:Qad) (c:Int):Option Bool:=some (eqI v.order c)
noncomputable def Qbo (s0:List Qad) (c:Int) (v:Int):Option ((Int)⊕((Unit)⊕(Int))):=br (ltI v (lenI s0)) (bnd (getI s0 v) fun x0=>bnd (Qml x0 c) fun r=>br r (some (.inr (.inr v))) (some (.inl (addK .i64 v 1)))) (some (.inr (.inl ())))
noncomputable def Qcm (s0:List Qad) (c:Int):Option Int:=bnd (QaX (fun s=>Qbo s0 c s) 0) (fun e=>sel e (fun (_:Unit)=>some (-1)) (fun r1=>some r1))
noncomputable def Qpy (l:List Qad) (a:Int) (b:Int):Option Bool:=bnd (Qcm l b) fun r=>br (ltI r 0) (some true) (bnd (Qk1 l a) fun r1=>br r1 (bnd (slcI l r (lenI l)) fun l1=>bnd (Qk1 l1 a) fun r2=>some (!r2)) (some false))
noncomputable def Qod (v:Qad) (c:Qab):Option Bool:=some ((ltI v.order 0)||(geI v.order (lenI c.orders)))
noncomputable def Qbr (s0:List Qad) (c:Qab) (v:Int):Option ((Int)⊕((Unit)⊕(Int))):=br (ltI v (lenI s0)) (bnd (getI s0 v) fun x0=>bnd (Qod x0 c) fun r=>br r (some (.inr (.inr v))) (some (.inl (addK .i64 v 1)))) (some (.inr (.inl ())))
noncomputable def Qco (s0:List Qad) (c:Qab):Option Int:=bnd (QaX (fun s=>Qbr s0 c s) 0) (fun e=>sel e (fun (_:Unit)=>some (-1)) (fun r1=>some r1))
noncomputable def Qb6 (s0:List Qad) (c:Qab):Option Bool:=bnd (Qco s0 c) fun r=>some (geI r 0)
noncomputable def Qoe (v:Qad) (c:Qab):Option Bool:=bnd (getI c.orders v.order) fun x0=>some x0.off
noncomputable def Qbs (s0:List Qad) (c:Qab) (v:Int):Option ((Int)⊕((Unit)⊕(Int))):=br (ltI v (lenI s0)) (bnd (getI s0 v) fun x0=>bnd (Qoe x0 c) fun r=>br r (some (.inr (.inr v))) (some (.inl (addK .i64 v 1)))) (some (.inr (.inl ())))
noncomputable def Qcp (s0:List Qad) (c:Qab):Option Int:=bnd (QaX (fun s=>Qbs s0 c s) 0) (fun e=>sel e (fun (_:Unit)=>some (-1)) (fun r1=>some r1))
noncomputable def Qb7 (s0:List Qad) (c:Qab):Option Bool:=bnd (Qcp s0 c) fun r=>some (geI r 0)
noncomputable def Qje (x0:Qab) (r:Qax) (v:Int):Option ((Int)⊕((Unit)⊕(Int))):=br (ltI v (lenI x0.apart)) (bnd (getI x0.apart v) fun x1=>bnd (Qk1 r.visits x1.x0) fun r5=>br r5 (bnd (Qk1 r.visits x1.x1) fun r6=>br r6 (some (.inr (.inr 20))) (some (.inl (addK .i64 v 1)))) (some (.inl (addK .i64 v 1)))) (some (.inr (.inl ())))
noncomputable def QhE (x0:Qab) (r:Qax) (v1:Int):Option ((Int)⊕((Unit)⊕(Int))):=br (ltI v1 (lenI x0.before)) (bnd (getI x0.before v1) fun x2=>bnd (Qpy r.visits x2.x0 x2.x1) fun r7=>br r7 (some (.inl (addK .i64 v1 1))) (some (.inr (.inr 21)))) (some (.inr (.inl ())))
noncomputable def Qnp (x0:Qab) (r:Qax):Option Int:=br (eqI (lenI r.visits) 0) (some 2) (bnd (Qb6 r.visits x0) fun r1=>br r1 (some 2) (bnd (Qb7 r.visits x0) fun r2=>br r2 (some 9) (bnd (QqU r.visits) fun r3=>br r3 (some 6) (bnd (Qpz x0 r.visits) fun r4=>br r4 (bnd (QaX (fun s=>Qje x0 r s) 0) (fun e=>sel e (fun (_:Unit)=>bnd (QaX (fun s=>QhE x0 r s) 0) (fun e=>sel e (fun (_:Unit)=>some 0) (fun r8=>some r8))) (fun r9=>some r9))) (some 19)))))
noncomputable def Qo3 (x0:Qab) (r:Qax) (v:Int):Option ((Int)⊕((Unit)⊕(Int))):=br (ltI v (lenI r.visits)) (bnd (getI r.visits v) fun x1=>bnd (getI x0.types r.type_) fun x2=>bnd (getI x0.orders x1.order) fun x3=>bnd (QjM x2 x3.skills) fun r1=>br r1 (some (.inl (addK .i64 v 1))) (some (.inr (.inr 18)))) (some (.inr (.inl ())))
noncomputable def Qxa (x0:Qab) (r:Qax):Option Int:=bnd (QaX (fun s=>Qo3 x0 r s) 0) (fun e=>sel e (fun (_:Unit)=>some 0) (fun r2=>some r2))
noncomputable def QiB (r:Qax) (set_:Int) (v:Int):Option ((Int×Int)⊕((Int)⊕(Int×Int))):=br (ltI v (lenI r.visits)) (bnd (getI r.visits v) fun x0=>br ((ltI x0.order 0)||(gtI x0.order 62)) (some (.inr (.inr (0,2)))) (chk ((0:Int)≤x0.order) (some (.inl ((orK .i64 set_ (shlK .i64 1 x0.order)),(addK .i64 v 1)))))) (some (.inr (.inl set_)))
noncomputable def Qpx (r:Qax):Option (Int×Int):=bnd (QaX (fun s=>QiB r s.1 s.2) (0,0)) (fun e=>sel e (fun set_1=>some (set_1,0)) (fun r1=>some r1))
noncomputable def Qw0 (a:Int) (b:Int):Option Int:=some (addK .i64 a b)
noncomputable def QgM (a:List Int) (b:List Int) (l:List Int) (l1:List Int) (v:Int):Option ((List Int×Int)⊕(List Int)):=br (ltI v (lenI a)) (bnd (getI a v) fun x0=>bnd (getI b v) fun x1=>bnd (Qw0 x0 x1) fun r=>bnd (getI l1 v) fun x2=>some (.inl ((setI l1 v r),(addK .i64 v 1)))) (some (.inr l1))
noncomputable def QkQ (a:List Int) (b:List Int):Option (List Int×Int):=br (neI (lenI a) (lenI b)) (some ([],2)) (bnd (mkI (lenI a) (lenI a) 8 0) fun l=>bnd (QaX (fun s=>QgM a b l s.1 s.2) (l,0)) (fun l2=>some (l2,0)))
noncomputable def Qwn (a:List Int) (b:List Int):Option (List Int×Int):=bnd (QkQ a b) fun r=>some (r.1,r.2)
noncomputable def Qnc (x0:Qab) (l:List Int) (r:List Int) (sum:List Int) (v:Int):Option ((List Int×Int)⊕(List Int)):=br (ltI v (lenI r)) (bnd (getI r v) fun x1=>bnd (getI x0.orders x1) fun x2=>br (ltI x2.pick.place 0) (bnd (Qwn sum x2.load) fun r1=>some (.inl (r1.1,(addK .i64 v 1)))) (some (.inl (sum,(addK .i64 v 1))))) (some (.inr sum))
noncomputable def Qvb (x0:Qab) (set_:Int) (dims:Int):Option (List Int):=bnd (mkI dims dims 8 0) fun l=>bnd (Qoq set_) fun r=>bnd (QaX (fun s=>Qnc x0 l r s.1 s.2) (l,0)) (fun sum1=>some sum1)
noncomputable def Qvg (a:Int) (b:Int):Option Int:=some (subK .i64 a b)
noncomputable def Qgn (a:List Int) (b:List Int) (l:List Int) (l1:List Int) (v:Int):Option ((List Int×Int)⊕(List Int)):=br (ltI v (lenI a)) (bnd (getI a v) fun x0=>bnd (getI b v) fun x1=>bnd (Qvg x0 x1) fun r=>bnd (getI l1 v) fun x2=>some (.inl ((setI l1 v r),(addK .i64 v 1)))) (some (.inr l1))
noncomputable def QjR (a:List Int) (b:List Int):Option (List Int×Int):=br (neI (lenI a) (lenI b)) (some ([],2)) (bnd (mkI (lenI a) (lenI a) 8 0) fun l=>bnd (QaX (fun s=>Qgn a b l s.1 s.2) (l,0)) (fun l2=>some (l2,0)))
noncomputable def Qyo (a:List Int) (b:List Int):Option (List Int×Int):=bnd (QjR a b) fun r=>some (r.1,r.2)
noncomputable def Qnb (x0:Qab) (r:Qax) (l:List (List Int)) (now:List Int) (v:Int):Option ((List (List Int)×List Int×Int)⊕((List (List Int))⊕(List (List Int)×Int))):=br (ltI v (lenI r.visits)) (bnd (getI r.visits v) fun x1=>br x1.drop (bnd (getI x0.orders x1.order) fun x2=>bnd (Qyo now x2.load) fun r5=>br (neI r5.2 0) (some (.inr (.inr ([],r5.2)))) (chk (okN (l++[r5.1]).length 24) (some (.inl ((l++[r5.1]),r5.1,(addK .i64 v 1)))))) (bnd (getI x0.orders x1.order) fun x3=>bnd (Qwn now x3.load) fun r6=>br (neI r6.2 0) (some (.inr (.inr ([],r6.2)))) (chk (okN (l++[r6.1]).length 24) (some (.inl ((l++[r6.1]),r6.1,(addK .i64 v 1))))))) (some (.inr (.inl l)))
noncomputable def Qva (x0:Qab) (r:Qax):Option (List (List Int)×Int):=bnd (Qnp x0 r) fun r1=>br (neI r1 0) (some ([],r1)) (bnd (Qpx r) fun r2=>br (neI r2.2 0) (some ([],r2.2)) (bnd (Qsc x0.types) fun r3=>bnd (Qvb x0 r2.1 r3) fun r4=>bnd (QaX (fun s=>Qnb x0 r s.1 s.2.1 s.2.2) ([r4],r4,0)) (fun e=>sel e (fun l1=>some (l1,0)) (fun r7=>some r7))))
noncomputable def QoJ (a:List Int) (capacity:List Int) (v:Int):Option ((Int)⊕((Unit)⊕(Bool))):=br (ltI v (lenI a)) (bnd (getI a v) fun x0=>bnd (getI capacity v) fun x1=>br (gtI x0 x1) (some (.inr (.inr false))) (some (.inl (addK .i64 v 1)))) (some (.inr (.inl ())))
noncomputable def QwW (a:List Int) (capacity:List Int):Option Bool:=br (neI (lenI a) (lenI capacity)) (some false) (bnd (QaX (fun s=>QoJ a capacity s) 0) (fun e=>sel e (fun (_:Unit)=>some true) (fun r=>some r)))
noncomputable def QtR (a:List Int) (c:Qab) (c1:Qax):Option Bool:=bnd (getI c.types c1.type_) fun x0=>bnd (QwW a x0.cap) fun r=>some (!r)
noncomputable def Qb5 (s0:List (List Int)) (c:Qab) (c1:Qax) (v:Int):Option ((Int)⊕((Unit)⊕(Int))):=br (ltI v (lenI s0)) (bnd (getI s0 v) fun x0=>bnd (QtR x0 c c1) fun r=>br r (some (.inr (.inr v))) (some (.inl (addK .i64 v 1)))) (some (.inr (.inl ())))
noncomputable def Qdw (s0:List (List Int)) (c:Qab) (c1:Qax):Option Int:=bnd (QaX (fun s=>Qb5 s0 c c1 s) 0) (fun e=>sel e (fun (_:Unit)=>some (-1)) (fun r1=>some r1))
noncomputable def QcX (s0:List (List Int)) (c:Qab) (c1:Qax):Option Bool:=bnd (Qdw s0 c c1) fun r=>some (geI r 0)
noncomputable def QwB (x0:Qab) (r:Qax):Option Int:=br ((ltI r.type_ 0)||(geI r.type_ (lenI x0.types))) (some 2) (bnd (Qva x0 r) fun r1=>br (neI r1.2 0) (some r1.2) (bnd (QcX r1.1 x0 r) fun r2=>br r2 (some 17) (some 0)))
noncomputable def QoY (x1:Qap):Option (Qap×Int):=br (ltI x1.place 0) (some ((Qap.mk 0 0 0 0),19)) (some (x1,0))
noncomputable def QuD (l:List Qac) (v:Qad):Option (Qap×Int):=bnd (Qtc l v.order) fun r=>br r (bnd (getI l v.order) fun x0=>br v.drop (QoY x0.drop) (QoY x0.pick)) (some ((Qap.mk 0 0 0 0),2))
noncomputable def QoF (x0:Qab) (r:Qax) (x1:Qaf) (l:List Qap) (v:Int):Option ((List Qap×Int)⊕((List Qap)⊕(QaE×Bool))):=br (ltI v (lenI r.visits)) (bnd (getI r.visits v) fun x2=>bnd (QuD x0.orders x2) fun r1=>br ((neI r1.2 0)||(ltI r1.1.place 0)) (some (.inr (.inr ((QaE.mk (Qab.mk (Qag.mk [] []) [] [] [] []) (Qaf.mk ByteArray.empty 0 0 0 [] 0 0 0 0 0 0 0 0 0) (Qax.mk 0 0 [] []) []),false)))) (chk (okN (l++[r1.1]).length 32) (some (.inl ((l++[r1.1]),(addK .i64 v 1)))))) (some (.inr (.inl l)))
noncomputable def QwI (x0:Qab) (r:Qax):Option (QaE×Bool):=br (((((ltI r.type_ 0)||(geI r.type_ (lenI x0.types)))||(ltI r.start 0))||(gtI r.start 4096))||(gtI (lenI r.visits) 20)) (some ((QaE.mk (Qab.mk (Qag.mk [] []) [] [] [] []) (Qaf.mk ByteArray.empty 0 0 0 [] 0 0 0 0 0 0 0 0 0) (Qax.mk 0 0 [] []) []),false)) (bnd (getI x0.types r.type_) fun x1=>bnd (QaX (fun s=>QoF x0 r x1 s.1 s.2) ([],0)) (fun e=>sel e (fun l1=>some ((QaE.mk x0 x1 r l1),true)) (fun r2=>some r2)))
noncomputable def QjK (p:QaE):Option Qaj:=some (Qaj.mk (maxI p.t.open_ p.r.start) 0 (QaN.mk false 0 [] 0 0))
noncomputable def Qq0 (s0:Qap) (arrive:Int):Option (Int×Int):=br (gtI (maxI arrive s0.open_) s0.close) (some (0,14)) (some ((maxI arrive s0.open_),0))
noncomputable def QnG (p:QaE) (visits:Int):Option Int:=br (eqI visits 0) (some p.t.from_) (bnd (getI p.stops (subK .i64 visits 1)) fun x0=>some x0.place)
noncomputable def QdU (s0:List QaD):Option (List QaD):=br (List.isEmpty s0) (amb (some []) (chk (okN s0.length 32) (some s0))) (chk (okN s0.length 32) (some s0))
noncomputable def Qim (p:QaE) (l:Qaj) (depart:Int) (since:Int) (rest_1:Bool) (depart1:Int) (r2:Int×Int×Int) (l2:List QaD) (ready:Int) (end_:Int):Option (Qaj×Int):=br (gtI (subK .i64 (addK .i64 since r2.1) depart) p.t.drive) (some ((Qaj.mk 0 0 (QaN.mk false 0 [] 0 0)),16)) (some ((Qaj.mk ready (subK .i64 (addK .i64 since r2.1) depart) (QaN.mk rest_1 depart1 l2 end_ (addK .i64 l.sheet.miles r2.2.1))),0))
noncomputable def Qil (p:QaE) (l:Qaj) (done:Int) (depart:Int) (since:Int) (l1:List QaD) (rest_1:Bool) (depart1:Int) (to_:Int):Option (Qaj×Int):=bnd (QnG p done) fun r1=>bnd (Qn2 p.x.net p.t.profile r1 to_ depart) fun r2=>br (neI r2.2.2 0) (some ((Qaj.mk 0 0 (QaN.mk false 0 [] 0 0)),12)) (br (eqI done (lenI p.stops)) (br (gtI r2.1 p.t.close) (some ((Qaj.mk 0 0 (QaN.mk false 0 [] 0 0)),15)) (Qim p l depart since rest_1 depart1 r2 l1 r2.1 r2.1)) (bnd (getI p.stops done) fun x2=>bnd (Qq0 x2 r2.1) fun r3=>br (neI r3.2 0) (some ((Qaj.mk 0 0 (QaN.mk false 0 [] 0 0)),14)) (chk (okN (l1++[(QaD.mk r2.1 r3.1 0 false)]).length 32) (Qim p l depart since rest_1 depart1 r2 (l1++[(QaD.mk r2.1 r3.1 0 false)]) (addK .i64 r3.1 x2.service) l.sheet.end_))))
noncomputable def Qik (p:QaE) (l:Qaj) (done:Int) (depart:Int) (since:Int) (l1:List QaD) (rest_1:Bool) (depart1:Int):Option (Qaj×Int):=br (eqI done (lenI p.stops)) (Qil p l done depart since l1 rest_1 depart1 p.t.to_) (bnd (getI p.stops done) fun x1=>Qil p l done depart since l1 rest_1 depart1 x1.place)
noncomputable def Qij (p:QaE) (l:Qaj) (done:Int) (rest_:Bool) (depart:Int) (since:Int):Option (Qaj×Int):=bnd (QdU l.sheet.times) fun r=>br (eqI done 0) (Qik p l done depart since r rest_ depart) (bnd (getI r (subK .i64 done 1)) fun x0=>Qik p l done depart since (setI (setI r (subK .i64 done 1) (QaD.mk x0.arrive x0.begin x0.depart rest_)) (subK .i64 done 1) (QaD.mk x0.arrive x0.begin depart rest_)) l.sheet.rest_ l.sheet.depart)
noncomputable def Qk4 (p:QaE) (l:Qaj) (done:Int) (rest_:Bool):Option (Qaj×Int):=br rest_ (Qij p l done rest_ (addK .i64 l.ready p.t.rest_) 0) (Qij p l done rest_ l.ready l.since)
noncomputable def Qmh (l:Qaj) (m:Qaj):Option Bool:=some ((eqI l.ready m.ready)&&(leI l.since m.since))
noncomputable def Qmi (m:Qaj) (c:Qaj):Option Bool:=bnd (Qmh m c) fun r=>some r
noncomputable def Qbj (s0:List Qaj) (c:Qaj) (v:Int):Option ((Int)⊕((Unit)⊕(Int))):=br (ltI v (lenI s0)) (bnd (getI s0 v) fun x0=>bnd (Qmi x0 c) fun r=>br r (some (.inr (.inr v))) (some (.inl (addK .i64 v 1)))) (some (.inr (.inl ())))
noncomputable def Qb8 (s0:List Qaj) (c:Qaj):Option Int:=bnd (QaX (fun s=>Qbj s0 c s) 0) (fun e=>sel e (fun (_:Unit)=>some (-1)) (fun r1=>some r1))
noncomputable def QbW (s0:List Qaj) (c:Qaj):Option Bool:=bnd (Qb8 s0 c) fun r=>some (geI r 0)
noncomputable def Qii (p:QaE) (l:List Qaj) (done:Int) (choices:List Bool) (v:Int) (x0:Qaj) (l3:List Qaj) (v1:Int):Option ((List Qaj×Int)⊕(List Qaj)):=br (ltI v1 (lenI choices)) (bnd (getI choices v1) fun x1=>bnd (Qk4 p x0 done x1) fun r=>br (eqI r.2 0) (bnd (QbW l3 r.1) fun r1=>br r1 (some (.inl (l3,(addK .i64 v1 1)))) (chk (okN (l3++[r.1]).length 72) (some (.inl ((l3++[r.1]),(addK .i64 v1 1)))))) (some (.inl (l3,(addK .i64 v1 1))))) (some (.inr l3))
noncomputable def Qih (p:QaE) (l:List Qaj) (done:Int) (choices:List Bool) (l2:List Qaj) (v:Int):Option ((List Qaj×Int)⊕(List Qaj)):=br (ltI v (lenI l)) (bnd (getI l v) fun x0=>bnd (QaX (fun s=>Qii p l done choices v x0 s.1 s.2) (l2,0)) (fun l4=>some (.inl (l4,(addK .i64 v 1))))) (some (.inr l2))
noncomputable def Qig (p:QaE) (l:List Qaj) (done:Int) (choices:List Bool):Option (List Qaj):=bnd (QaX (fun s=>Qih p l done choices s.1 s.2) ([],0)) (fun l5=>some l5)
noncomputable def Qpr (p:QaE) (l:List Qaj) (done:Int):Option (List Qaj):=br (ltI done (lenI p.r.rests)) (bnd (slcI p.r.rests done (addK .i64 done 1)) fun l1=>Qig p l done l1) (Qig p l done [false,true])
noncomputable def Qi9 (p:QaE) (rests:List Bool) (r:Qaj) (rest_:Int) (x0:Qaj) (v:Int):Option ((Int×Qaj×Int)⊕((Qaj)⊕(QaN×Int))):=br (ltI v (lenI rests)) (bnd (getI rests v) fun x1=>bnd (Qk4 (QaE.mk p.x (Qaf.mk p.t.name p.t.count p.t.from_ p.t.to_ p.t.cap p.t.skills p.t.profile p.t.open_ p.t.close p.t.drive rest_ p.t.fixed p.t.perMile p.t.perTick) p.r p.stops) x0 v x1) fun r1=>br (neI r1.2 0) (some (.inr (.inr ((QaN.mk false 0 [] 0 0),r1.2)))) (some (.inl (rest_,r1.1,(addK .i64 v 1))))) (some (.inr (.inl x0)))
noncomputable def Qnf (p:QaE) (rests:List Bool):Option (QaN×Int):=bnd (QjK p) fun r=>bnd (QaX (fun s=>Qi9 p rests r s.1 s.2.1 s.2.2) (p.t.rest_,r,0)) (fun e=>sel e (fun x2=>some (x2.sheet,0)) (fun r2=>some r2))
noncomputable def QoE (r:Qax) (r1:QaE×Bool) (l:List Qaj) (v:Int):Option ((List Qaj×Int)⊕(List Qaj)):=br (ltI v (addK .i64 (lenI r.visits) 1)) (bnd (Qpr r1.1 l v) fun r3=>some (.inl (r3,(addK .i64 v 1)))) (some (.inr l))
noncomputable def Qlg (l3:List Qaj) (x2:Qaj) (v1:Int):Option ((Qaj×Int)⊕(Qaj)):=br (ltI v1 (lenI l3)) (bnd (getI l3 v1) fun x3=>br (ltI x3.sheet.end_ x2.sheet.end_) (some (.inl (x3,(addK .i64 v1 1)))) (some (.inl (x2,(addK .i64 v1 1))))) (some (.inr x2))
noncomputable def QwF (x0:Qab) (r:Qax):Option (QaN×Int):=bnd (QwI x0 r) fun r1=>br ((!r1.2)||(gtI (lenI r.rests) (addK .i64 (lenI r.visits) 1))) (some ((QaN.mk false 0 [] 0 0),2)) (bnd (QjK r1.1) fun r2=>bnd (QaX (fun s=>QoE r r1 s.1 s.2) ([r2],0)) (fun l1=>br (eqI (lenI l1) 0) (bnd (mkI (addK .i64 (lenI r.visits) 1) (addK .i64 (lenI r.visits) 1) 1 false) fun l2=>bnd (Qnf r1.1 (cpyL l2 r.rests)) fun r4=>some (r4.1,r4.2)) (bnd (getI l1 0) fun x1=>bnd (slcI l1 1 (lenI l1)) fun l3=>bnd (QaX (fun s=>Qlg l3 s.1 s.2) (x1,0)) (fun x4=>some (x4.sheet,0)))))
noncomputable def QoZ (kind:Int) (own:Int):Option Bool:=some ((neI kind (-1))&&(neI kind own))
noncomputable def Qnl (x0:Qab) (r:Qax) (s0:QaN) (x1:Qaf) (l:List (Int×Int)) (other:Int) (v:Int) (x2:Qad) (x3:Qac) (moved1:Int):Option ((List (Int×Int)×Int×Int×Int)⊕(Int×Int)):=bnd (QoZ x3.last_ r.type_) fun r2=>br r2 (some (.inl ((mPut eqI l x2.order (addK .i64 (mGet eqI l x2.order 0) 1)),moved1,(addK .i64 other 1),(addK .i64 v 1)))) (some (.inl ((mPut eqI l x2.order (addK .i64 (mGet eqI l x2.order 0) 1)),moved1,other,(addK .i64 v 1))))
noncomputable def Qnm (x0:Qab) (r:Qax) (s0:QaN) (x1:Qaf) (l:List (Int×Int)) (moved:Int) (other:Int) (v:Int):Option ((List (Int×Int)×Int×Int×Int)⊕(Int×Int)):=br (ltI v (lenI r.visits)) (bnd (getI r.visits v) fun x2=>br ((ltI x2.order 0)||(geI x2.order (lenI x0.orders))) (some (.inl ((mPut eqI l x2.order (addK .i64 (mGet eqI l x2.order 0) 1)),moved,other,(addK .i64 v 1)))) (br (gtI (mGet eqI (mPut eqI l x2.order (addK .i64 (mGet eqI l x2.order 0) 1)) x2.order 0) 1) (some (.inl ((mPut eqI l x2.order (addK .i64 (mGet eqI l x2.order 0) 1)),moved,other,(addK .i64 v 1)))) (bnd (getI x0.orders x2.order) fun x3=>bnd (QoZ x3.now r.type_) fun r1=>br r1 (Qnl x0 r s0 x1 l other v x2 x3 (addK .i64 moved 1)) (Qnl x0 r s0 x1 l other v x2 x3 moved)))) (some (.inr (moved,other)))
noncomputable def Qvq (x0:Qab) (r:Qax) (s0:QaN):Option Qca:=br ((ltI r.type_ 0)||(geI r.type_ (lenI x0.types))) (some (Qca.mk 0 0 0 0)) (bnd (getI x0.types r.type_) fun x1=>bnd (QaX (fun s=>Qnm x0 r s0 x1 s.1 s.2.1 s.2.2.1 s.2.2.2) ([],0,0,0)) (fun e0=>(fun moved2 other1=>some (Qca.mk (addK .i64 (addK .i64 x1.fixed (mulK .i64 x1.perMile s0.miles)) (mulK .i64 x1.perTick (subK .i64 s0.end_ x1.open_))) moved2 other1 (mulK .i64 (quoK .i64 (subK .i64 s0.end_ x1.open_) 64) (quoK .i64 (subK .i64 s0.end_ x1.open_) 64)))) e0.1 e0.2))
noncomputable def QqO (x0:Qab) (r:Qax):Option (QaN×Qca×Int):=br ((ltI r.type_ 0)||(geI r.type_ (lenI x0.types))) (some ((QaN.mk false 0 [] 0 0),(Qca.mk 0 0 0 0),2)) (bnd (Qnp x0 r) fun r1=>br (neI r1 0) (some ((QaN.mk false 0 [] 0 0),(Qca.mk 0 0 0 0),r1)) (bnd (Qxa x0 r) fun r2=>br (neI r2 0) (some ((QaN.mk false 0 [] 0 0),(Qca.mk 0 0 0 0),r2)) (bnd (QwB x0 r) fun r3=>br (neI r3 0) (some ((QaN.mk false 0 [] 0 0),(Qca.mk 0 0 0 0),r3)) (bnd (QwF x0 r) fun r4=>br (neI r4.2 0) (some ((QaN.mk false 0 [] 0 0),(Qca.mk 0 0 0 0),r4.2)) (bnd (Qvq x0 r r4.1) fun r5=>some (r4.1,r5,0))))))
noncomputable def Qvr (s0:Qca):Option QA9:=some (QA9.mk s0.cost s0.moved s0.other s0.work)
noncomputable def Qt3 (s0:Qca):Option (Int×Int):=bnd (Qvr s0) fun r=>br (ltI r.x0 0) (some (0,2)) (br (ltI r.x1 0) (some (0,2)) (br (ltI r.x2 0) (some (0,2)) (br (ltI r.x3 0) (some (0,2)) (br ((((gtI s0.cost 1073741824)||(geI s0.moved 16))||(geI s0.other 16))||(geI s0.work 65536)) (some (0,4)) (some ((addK .i64 (mulK .i64 (addK .i64 (mulK .i64 (addK .i64 (mulK .i64 s0.cost 16) s0.moved) 16) s0.other) 65536) s0.work),0))))))
noncomputable def Qtf (x0:Qab) (r:Qax):Option (Int×Int):=bnd (QqO x0 r) fun r1=>br (neI r1.2.2 0) (some (0,r1.2.2)) (bnd (Qt3 r1.2.1) fun r2=>some (r2.1,r2.2))
noncomputable def QiC (v:Qad):Option Int:=br v.drop (some 1) (some 0)
noncomputable def Qnd (vals:List Int) (v:Int):Option ((Int)⊕((Unit)⊕(Int))):=br (ltI v (lenI vals)) (bnd (getI vals v) fun x0=>br (neI x0 0) (some (.inr (.inr x0))) (some (.inl (addK .i64 v 1)))) (some (.inr (.inl ())))
noncomputable def Qvc (vals:List Int):Option Int:=bnd (QaX (fun s=>Qnd vals s) 0) (fun e=>sel e (fun (_:Unit)=>some 0) (fun r=>some r))
noncomputable def Qne (x0:Int):Option Bool:=some (neI x0 x0)
noncomputable def QjJ (x0:Int) (y:Int):Option Int:=bnd (Qne x0) fun r=>bnd (Qne y) fun r1=>br r (br r1 (some 0) (some (-1))) (br r1 (some 1) (br (ltI x0 y) (some (-1)) (br (gtI x0 y) (some 1) (some 0))))
noncomputable def Qoj (a:Qad) (b:Qad):Option Int:=bnd (QjJ a.order b.order) fun r=>bnd (QiC a) fun r1=>bnd (QiC b) fun r2=>bnd (QjJ r1 r2) fun r3=>bnd (Qvc [r,r3]) fun r4=>some r4
noncomputable def QaV (s1:List Qad) (s2:List Qad) (v:Int):Option ((Int)⊕((Unit)⊕(Int))):=br (ltI v (lenI s1)) (bnd (getI s1 v) fun x0=>br (geI v (lenI s2)) (some (.inr (.inr 1))) (bnd (getI s2 v) fun x1=>bnd (Qoj x0 x1) fun r=>br (neI r 0) (some (.inr (.inr r))) (some (.inl (addK .i64 v 1))))) (some (.inr (.inl ())))
noncomputable def Qbe (s1:List Qad) (s2:List Qad):Option Int:=bnd (QaX (fun s=>QaV s1 s2 s) 0) (fun e=>sel e (fun (_:Unit)=>br (ltI (lenI s1) (lenI s2)) (some (-1)) (some 0)) (fun r1=>some r1))
noncomputable def QsQ (a:List Qad) (b:List Qad):Option Bool:=bnd (Qbe a b) fun r=>some (ltI r 0)
noncomputable def Qu8 (a:Qay) (b:Qay):Option Bool:=br (neI a.price b.price) (some (ltI a.price b.price)) (bnd (QsQ a.route.visits b.route.visits) fun r=>some r)
noncomputable def Qjg (x0:Qab) (l:List Qad) (v:Qad) (r1:List Qad) (v1:Int):Option ((Int)⊕((Unit)⊕(Bool))):=br (ltI v1 (lenI r1)) (bnd (getI r1 v1) fun x1=>br (eqI x1.order v.order&&(eqB x1.drop v.drop&&true)) (some (.inr (.inl ()))) (bnd (Qhs l x1) fun r2=>br (ltI r2 0) (some (.inr (.inr false))) (some (.inl (addK .i64 v1 1))))) (some (.inr (.inl ())))
noncomputable def Qjh (x0:Qab) (l:List Qad) (v:Qad) (v2:Int) (r3:List Qad) (v3:Int):Option ((Int)⊕((Unit)⊕(Bool))):=br (ltI v3 (lenI r3)) (bnd (getI r3 v3) fun x3=>bnd (Qhs l x3) fun r4=>br (ltI r4 0) (some (.inr (.inr false))) (some (.inl (addK .i64 v3 1)))) (some (.inr (.inl ())))
noncomputable def QhF (x0:Qab) (l:List Qad) (v:Qad) (v2:Int):Option ((Int)⊕((Unit)⊕(Bool))):=br (ltI v2 (lenI x0.before)) (bnd (getI x0.before v2) fun x2=>br (neI x2.x1 v.order) (some (.inl (addK .i64 v2 1))) (bnd (Qjn x0.orders x2.x0) fun r3=>bnd (QaX (fun s=>Qjh x0 l v v2 r3 s) 0) (fun e=>sel e (fun (_:Unit)=>some (.inl (addK .i64 v2 1))) (fun r5=>some (.inr (.inr r5)))))) (some (.inr (.inl ())))
noncomputable def QqT (x0:Qab) (l:List Qad) (v:Qad):Option Bool:=bnd (Qhs l v) fun r=>br (geI r 0) (some false) (bnd (Qjn x0.orders v.order) fun r1=>bnd (QaX (fun s=>Qjg x0 l v r1 s) 0) (fun e=>sel e (fun (_:Unit)=>bnd (QaX (fun s=>QhF x0 l v s) 0) (fun e=>sel e (fun (_:Unit)=>some true) (fun r6=>some r6))) (fun r7=>some r7)))
noncomputable def Qkg (x0:Qab) (set_:Int) (l:List Qad) (v:Int) (r:List Qad) (l2:List Qad) (v1:Int):Option ((List Qad×Int)⊕(List Qad)):=br (ltI v1 (lenI r)) (bnd (getI r v1) fun x2=>bnd (QqT x0 l x2) fun r1=>br r1 (chk (okN (l2++[x2]).length 16) (some (.inl ((l2++[x2]),(addK .i64 v1 1))))) (some (.inl (l2,(addK .i64 v1 1))))) (some (.inr l2))
noncomputable def Qkf (x0:Qab) (set_:Int) (l:List Qad) (l1:List Qad) (v:Int):Option ((List Qad×Int)⊕(List Qad)):=br (ltI v (lenI x0.orders)) (bnd (getI x0.orders v) fun x1=>br (gtI v 62) (some (.inl (l1,(addK .i64 v 1)))) (chk ((0:Int)≤v) (br ((eqI (andK .i64 (shrK .i64 set_ v) 1) 0)||x1.off) (some (.inl (l1,(addK .i64 v 1)))) (bnd (Qjn x0.orders v) fun r=>bnd (QaX (fun s=>Qkg x0 set_ l v r s.1 s.2) (l1,0)) (fun l3=>some (.inl (l3,(addK .i64 v 1)))))))) (some (.inr l1))
noncomputable def QsR (x0:Qab) (set_:Int) (l:List Qad):Option (List Qad):=bnd (QaX (fun s=>Qkf x0 set_ l s.1 s.2) ([],0)) (fun l4=>some l4)
noncomputable def Qci (s0:List Qaq) (v:Qaq) (v1:Int):Option ((Int)⊕((Unit)⊕(Int))):=br (ltI v1 (lenI s0)) (bnd (getI s0 v1) fun x0=>br (eqI v.ready x0.ready&&(eqI v.driven x0.driven&&true)) (some (.inr (.inr v1))) (some (.inl (addK .i64 v1 1)))) (some (.inr (.inl ())))
noncomputable def QdW (s0:List Qaq) (v:Qaq):Option Int:=bnd (QaX (fun s=>Qci s0 v s) 0) (fun e=>sel e (fun (_:Unit)=>some (-1)) (fun r=>some r))
noncomputable def Qc6 (s0:List Qaq) (v:Qaq):Option Bool:=bnd (QdW s0 v) fun r=>some (geI r 0)
noncomputable def Qjq (l:List Qaq) (s0:Qaq):Option (List Qaq):=bnd (Qc6 l s0) fun r=>br r (some l) (chk (okN (l++[s0]).length 16) (some (l++[s0])))
noncomputable def QsY (s0:Qap) (arrive:Int):Option (Int×Int):=bnd (Qq0 s0 arrive) fun r=>br (neI r.2 0) (some (0,r.2)) (some ((addK .i64 r.1 s0.service),0))
noncomputable def Qet (s0:List Qad):Option (List Qad):=bnd (slcI s0 0 (lenI s0)) fun l=>some l
noncomputable def Qfr (best:Qay) (some_:Bool) (next_:Qay):Option Qay:=br some_ (bnd (Qu8 next_ best) fun r=>br r (some next_) (some best)) (some next_)
noncomputable def QiN (s0:Qau) (l:List Qaq) (depart:Int) (driven:Int):Option (List Qaq×Qau):=bnd (Qjq l (Qaq.mk depart driven)) fun r=>bnd (getI s0.x.types s0.kind) fun x0=>bnd (Qjq r (Qaq.mk (addK .i64 depart x0.rest_) 0)) fun r1=>some (r1,s0)
noncomputable def Qhe (from_:Int) (l:List Qaq) (stop:Qap) (x0:Qaf) (l1:List Qaq) (x1:Qau) (v:Int):Option ((List Qaq×Qau×Int)⊕(List Qaq×Qau)):=br (ltI v (lenI l)) (bnd (getI l v) fun x2=>bnd (Qn2 x1.x.net x0.profile from_ stop.place x2.ready) fun r=>br ((neI r.2.2 0)||(gtI (subK .i64 (addK .i64 x2.driven r.1) x2.ready) x0.drive)) (some (.inl (l1,x1,(addK .i64 v 1)))) (bnd (QsY stop r.1) fun r1=>br (neI r1.2 0) (some (.inl (l1,x1,(addK .i64 v 1)))) (bnd (QiN x1 l1 r1.1 (subK .i64 (addK .i64 x2.driven r.1) x2.ready)) fun r2=>some (.inl (r2.1,r2.2,(addK .i64 v 1)))))) (some (.inr (l1,x1)))
noncomputable def Qmg (s0:Qau) (from_:Int) (l:List Qaq) (stop:Qap):Option (List Qaq×Qau):=bnd (getI s0.x.types s0.kind) fun x0=>bnd (QaX (fun s=>Qhe from_ l stop x0 s.1 s.2.1 s.2.2) ([],s0,0)) (fun e0=>(fun l2 x3=>some (l2,x3)) e0.1 e0.2)
noncomputable def QhV (self:Qau→(List Qad)→Int→(List Qaq)→Option Qau) (visits:List Qad) (from_:Int) (l:List Qaq) (r2:List Qad) (x0:Qau) (v:Int):Option ((Qau×Int)⊕(Qau)):=br (ltI v (lenI r2)) (bnd (getI r2 v) fun x1=>bnd (QuD x0.x.orders x1) fun r3=>br (neI r3.2 0) (some (.inl (x0,(addK .i64 v 1)))) (bnd (Qmg x0 from_ l r3.1) fun r4=>br (gtI (lenI r4.1) 0) (bnd (Qet visits) fun r5=>chk (okN (r5++[x1]).length 16) (bnd (self r4.2 (r5++[x1]) r3.1.place r4.1) fun r6=>some (.inl (r6,(addK .i64 v 1))))) (some (.inl (r4.2,(addK .i64 v 1)))))) (some (.inr x0))
noncomputable def QkM (self:Qau→(List Qad)→Int→(List Qaq)→Option Qau) (s0:Qau) (visits:List Qad) (from_:Int) (l:List Qaq):Option Qau:=br (eqI (lenI visits) s0.total) (bnd (Qtf s0.x (Qax.mk s0.kind 0 [] visits)) fun r=>br (eqI r.2 0) (bnd (Qfr s0.best s0.found (Qay.mk s0.kind s0.set_ r.1 (Qax.mk s0.kind 0 [] visits))) fun r1=>some (Qau.mk s0.x s0.kind s0.set_ s0.total r1 true)) (some s0)) (bnd (QsR s0.x s0.set_ visits) fun r2=>bnd (QaX (fun s=>QhV self visits from_ l r2 s.1 s.2) (s0,0)) (fun x2=>some x2))
noncomputable def QkN:Nat→Qau→(List Qad)→Int→(List Qaq)→Option Qau|0=>fun _ _ _ _=>none|fuel_+1=>fun s0 visits from_ l=>QkM (QkN fuel_) s0 visits from_ l
noncomputable def Qnz (s0:Qau) (visits:List Qad) (from_:Int) (l:List Qaq):Option Qau:=QkN QvU s0 visits from_ l
noncomputable def Qgj (s0:Qau) (depart:Int) (driven:Int):Option (List Qaq×Qau):=bnd (Qjq [] (Qaq.mk depart driven)) fun r=>bnd (getI s0.x.types s0.kind) fun x0=>bnd (Qjq r (Qaq.mk (addK .i64 depart x0.rest_) 0)) fun r1=>some (r1,s0)
noncomputable def Qqz (x0:Qab) (kind:Int) (set_:Int) (r1:List Int) (total:Int) (v:Int):Option ((Int×Int)⊕(Int)):=br (ltI v (lenI r1)) (bnd (getI r1 v) fun x1=>bnd (Qjn x0.orders x1) fun r2=>some (.inl ((addK .i64 total (lenI r2)),(addK .i64 v 1)))) (some (.inr total))
noncomputable def Qyb (x0:Qab) (kind:Int) (set_:Int):Option (Qay×Int):=br (((ltI kind 0)||(geI kind (lenI x0.types)))||(leI set_ 0)) (some ((Qay.mk 0 0 0 (Qax.mk 0 0 [] [])),2)) (chk ((0:Int)≤(lenI x0.orders)) (br (neI (shrK .i64 set_ (lenI x0.orders)) 0) (some ((Qay.mk 0 0 0 (Qax.mk 0 0 [] [])),2)) (bnd (QsN x0 set_) fun r=>br (neI r 0) (some ((Qay.mk 0 0 0 (Qax.mk 0 0 [] [])),24)) (bnd (Qoq set_) fun r1=>bnd (QaX (fun s=>Qqz x0 kind set_ r1 s.1 s.2) (0,0)) (fun total1=>bnd (getI x0.types kind) fun x2=>bnd (Qgj (Qau.mk x0 kind set_ total1 (Qay.mk 0 0 0 (Qax.mk 0 0 [] [])) false) x2.open_ 0) fun r3=>bnd (Qnz r3.2 [] x2.from_ r3.1) fun r4=>br r4.found (some (r4.best,0)) (some ((Qay.mk 0 0 0 (Qax.mk 0 0 [] [])),24)))))))
noncomputable def Qs3 (x0:Qab) (l:List Qay) (v:Int) (l1:List Qay) (set_:Int):Option ((List Qay×Int)⊕(List Qay)):=chk ((0:Int)≤(lenI x0.orders)) (br (eqI (shrK .i64 set_ (lenI x0.orders)) 0) (bnd (Qyb x0 v set_) fun r=>br (eqI r.2 0) (chk (okN (l1++[r.1]).length 88) (some (.inl ((l1++[r.1]),(addK .i64 set_ 1))))) (some (.inl (l1,(addK .i64 set_ 1))))) (some (.inr l1)))
noncomputable def Qs2 (x0:Qab) (l:List Qay) (v:Int):Option ((List Qay×Int)⊕(List Qay)):=br (ltI v (lenI x0.types)) (bnd (QaX (fun s=>Qs3 x0 l v s.1 s.2) (l,1)) (fun l2=>some (.inl (l2,(addK .i64 v 1))))) (some (.inr l))
noncomputable def Qzy (x0:Qab):Option (List Qay×Int):=bnd (QaX (fun s=>Qs2 x0 s.1 s.2) ([],0)) (fun l3=>some (l3,0))
noncomputable def QqE (a:Qac):Option Bool:=some true
noncomputable def Qgl (x0:Qab) (set_:Int) (v:Int):Option ((Int×Int)⊕(Int)):=br (ltI v (lenI x0.orders)) (bnd (getI x0.orders v) fun x1=>br x1.off (some (.inl (set_,(addK .i64 v 1)))) (bnd (QqE x1) fun r=>br r (chk ((0:Int)≤v) (some (.inl ((orK .i64 set_ (shlK .i64 1 v)),(addK .i64 v 1))))) (some (.inl (set_,(addK .i64 v 1)))))) (some (.inr set_))
noncomputable def QjO (x0:Qab):Option Int:=bnd (QaX (fun s=>Qgl x0 s.1 s.2) (0,0)) (fun set_1=>some set_1)
noncomputable def QtV (x0:Qab):Option Int:=bnd (QjO x0) fun r=>some r
noncomputable def Qiz (r:List Qay×Int) (left:Int) (v:Int):Option ((Int×Int)⊕(Int)):=br (ltI v (lenI r.1)) (bnd (getI r.1 v) fun x1=>some (.inl ((Quh .i64 left x1.set_),(addK .i64 v 1)))) (some (.inr left))
noncomputable def Qpv (x0:Qab):Option Int:=bnd (Qzy x0) fun r=>bnd (QtV x0) fun r1=>bnd (QaX (fun s=>Qiz r s.1 s.2) (r1,0)) (fun left1=>some left1)
noncomputable def Qjb:Option Qab:=some (Qab.mk (Qag.mk [QuU,QuS,QuT] [(Qai.mk 0 1 0 0 [(Qal.mk 0 20)] []),(Qai.mk 1 0 0 0 [(Qal.mk 0 20)] []),(Qai.mk 0 2 0 0 [(Qal.mk 0 150)] [])]) [(Qaf.mk QuV 1 0 0 [5] 0 0 0 100 1000 0 0 0 0)] [(Qac.mk QyE [1] (Qap.mk (-1) 0 0 0) (Qap.mk 1 0 200 5) 0 0 1 (-1) (-1) false)] [] [])
noncomputable def QhQ:Option Qab:=some (Qab.mk (Qag.mk [QuU,QuS,QuT] [(Qai.mk 0 1 0 0 [(Qal.mk 0 20)] []),(Qai.mk 1 0 0 0 [(Qal.mk 0 20)] []),(Qai.mk 0 2 0 0 [(Qal.mk 0 150)] [])]) [(Qaf.mk QuV 1 0 0 [5] 0 0 0 100 1000 0 0 0 0)] [(Qac.mk QyE [1] (Qap.mk (-1) 0 0 0) (Qap.mk 1 0 200 5) 0 0 1 (-1) (-1) false)] [] [])
noncomputable def Qee:Option Bool:=bnd (Qjb) fun r=>bnd (Qgw r) fun r1=>bnd (Qjb) fun r2=>bnd (QkY r2) fun r3=>bnd (QhQ) fun r4=>bnd (getI r4.orders 0) fun x0=>br ((eqI r1.2 0)&&(eqI (lenI r1.1.orders) 1)) (bnd (getI r1.1.orders 0) fun x1=>br (((((eqI x1.drop.place 1&&(eqI x1.drop.open_ 20&&(eqI x1.drop.close 75&&(eqI x1.drop.service 5&&true))))&&(eqI (lenI r1.1.net.arcs) 2))&&(eqI r3.1 145))&&(eqI r3.2.1 1))&&(eqI r3.2.2 0)) (bnd (Qpv (Qab.mk r4.net r4.types (setI r4.orders 0 (Qac.mk x0.name x0.load x0.pick x0.drop 1 x0.penalty x0.split x0.last_ x0.now x0.off)) r4.apart r4.before)) fun r5=>some (eqI r5 1)) (some false)) (some false)
noncomputable def Qgs (word:ByteArray) (l:List Qaa) (l1:List Qaa) (i:Int) (at_:ByteArray):Option ((List Qaa×Int)⊕(List Qaa)):=bnd (getI l i) fun x1=>chk (okN (l1++[(Qaa.mk x1.err at_)]).length 24) (some (.inl ((l1++[(Qaa.mk x1.err at_)]),(addK .i64 i 1))))
noncomputable def Qfi (word:ByteArray) (l:List Qaa) (l1:List Qaa) (i:Int):Option ((List Qaa×Int)⊕(List Qaa)):=br (ltI i (lenI l)) (bnd (getI l i) fun x0=>br (eqS x0.at_ ByteArray.empty) (Qgs word l l1 i word) (chk (word.size+Qa1.size≤9223372036854775807) (chk ((catS word Qa1).size+x0.at_.size≤9223372036854775807) (Qgs word l l1 i (catS (catS word Qa1) x0.at_))))) (some (.inr l1))
noncomputable def Qg0 (word:ByteArray) (l:List Qaa):Option (List Qaa):=bnd (QaX (fun s=>Qfi word l s.1 s.2) ([],0)) (fun l2=>some l2)
noncomputable def Qex (n:Int) (s0:ByteArray) (left:Int) (d:Int):Option ((ByteArray×Int×Bool)⊕(ByteArray)):=chk ((QtQ [(cvK .u8 (addK .i64 48 d))]).size+s0.size≤9223372036854775807) (some (.inl ((catS (QtQ [(cvK .u8 (addK .i64 48 d))]) s0),(quoK .i64 left 10),(neI (quoK .i64 left 10) 0))))
noncomputable def QgO (n:Int) (s0:ByteArray) (left:Int) (again:Bool):Option ((ByteArray×Int×Bool)⊕(ByteArray)):=br again (br (ltI (remK left 10) 0) (Qex n s0 left (subK .i64 0 (remK left 10))) (Qex n s0 left (remK left 10))) (some (.inr s0))
noncomputable def Qa8 (n:Int):Option ByteArray:=bnd (QaX (fun s=>QgO n s.1 s.2.1 s.2.2) (ByteArray.empty,n,true)) (fun s1=>br (ltI n 0) (chk (QyD.size+s1.size≤9223372036854775807) (some (catS QyD s1))) (some s1))
noncomputable def QjV (c:Int):Option Bool:=some ((geI c 48)&&(leI c 57))
noncomputable def Qmj (c:Int):Option Bool:=some ((((geI c 97)&&(leI c 122))||((geI c 65)&&(leI c 90)))||(eqI c 95))
noncomputable def QfH (s0:ByteArray) (b:UInt8) (i:Int):Option ((Int)⊕((Unit)⊕(Bool))):=br (ltI i (Qx2 s0)) (bnd (getS s0 i) fun b1=>bnd (Qmj (QBU b1)) fun r1=>br r1 (some (.inl (addK .i64 i 1))) (bnd (QjV (QBU b1)) fun r2=>br r2 (some (.inl (addK .i64 i 1))) (some (.inr (.inr false))))) (some (.inr (.inl ())))
noncomputable def QdO (s0:ByteArray):Option Bool:=br ((ltI (Qx2 s0) 1)||(gtI (Qx2 s0) 16)) (some false) (bnd (getS s0 0) fun b=>bnd (QjV (QBU b)) fun r=>br r (some false) (bnd (QaX (fun s=>QfH s0 b s) 0) (fun e=>sel e (fun (_:Unit)=>some true) (fun r3=>some r3))))
noncomputable def Qdy (l:List Qal) (i:Int) (x0:Qal) (l3:List Qaa):Option ((List Qaa×Int)⊕(List Qaa)):=br (gtI i 0) (bnd (getI l (subK .i64 i 1)) fun x1=>br (leI x0.t x1.t) (bnd (Qa8 i) fun r1=>chk (okN (l3++[(Qaa.mk 13 r1)]).length 24) (some (.inl ((l3++[(Qaa.mk 13 r1)]),(addK .i64 i 1))))) (br (ltI x0.a x1.a) (bnd (Qa8 i) fun r2=>chk (okN (l3++[(Qaa.mk 13 r2)]).length 24) (some (.inl ((l3++[(Qaa.mk 13 r2)]),(addK .i64 i 1))))) (some (.inl (l3,(addK .i64 i 1)))))) (some (.inl (l3,(addK .i64 i 1))))
noncomputable def Qcx (l:List Qal) (l2:List Qaa) (i:Int):Option ((List Qaa×Int)⊕(List Qaa)):=br (ltI i (lenI l)) (bnd (getI l i) fun x0=>br ((((ltI x0.t 0)||(gtI x0.t 4096))||(ltI x0.a x0.t))||(gtI x0.a (addK .i64 x0.t 4096))) (bnd (Qa8 i) fun r=>chk (okN (l2++[(Qaa.mk 2 r)]).length 24) (Qdy l i x0 (l2++[(Qaa.mk 2 r)]))) (Qdy l i x0 l2)) (some (.inr l2))
noncomputable def Qeg (l:List Qal) (l1:List Qaa):Option (List Qaa):=bnd (QaX (fun s=>Qcx l s.1 s.2) (l1,0)) (fun l4=>some l4)
noncomputable def Qcw (l:List Qal):Option (List Qaa):=br ((ltI (lenI l) 1)||(gtI (lenI l) 16)) (chk (okN [(Qaa.mk 4 ByteArray.empty)].length 24) (Qeg l [(Qaa.mk 4 ByteArray.empty)])) (Qeg l [])
noncomputable def QgD (t:Int):Option Bool:=some ((geI t 0)&&(leI t 4096))
noncomputable def Qba (n:Qag) (i:Int) (r:ByteArray) (x0:Qai) (l:List Qaa) (l1:List Qaa) (twice:Bool) (k:Int):Option ((Bool×Int)⊕(Bool)):=br (ltI k i) (bnd (getI n.arcs k) fun x1=>some (.inl ((twice||(((eqI x0.from_ x1.from_)&&(eqI x0.to_ x1.to_))&&(eqI x0.profile x1.profile))),(addK .i64 k 1)))) (some (.inr twice))
noncomputable def Qbb (r:ByteArray) (x0:Qai) (l:List Qaa) (r1:List Qaa) (l3:List Qaa) (k1:Int):Option ((List Qaa×Int)⊕(List Qaa)):=br (ltI k1 (lenI r1)) (bnd (getI r1 k1) fun x2=>chk (okN (l3++[(Qaa.mk x2.err (catS QaT r))]).length 24) (some (.inl ((l3++[(Qaa.mk x2.err (catS QaT r))]),(addK .i64 k1 1))))) (some (.inr l3))
noncomputable def Qbc (r:ByteArray) (x0:Qai) (l:List Qaa) (l6:List Qaa) (k2:Int):Option ((List Qaa×Int)⊕(List Qaa)):=br (ltI k2 (lenI x0.slow)) (bnd (getI x0.slow k2) fun x3=>bnd (QgD x3.t) fun r2=>br r2 (bnd (QgD x3.a) fun r3=>br r3 (br (gtI k2 0) (bnd (getI x0.slow (subK .i64 k2 1)) fun x4=>br (leI x3.t x4.t) (chk (okN (l6++[(Qaa.mk 2 (catS QaT r))]).length 24) (some (.inl ((l6++[(Qaa.mk 2 (catS QaT r))]),(addK .i64 k2 1))))) (some (.inl (l6,(addK .i64 k2 1))))) (some (.inl (l6,(addK .i64 k2 1))))) (chk (okN (l6++[(Qaa.mk 2 (catS QaT r))]).length 24) (some (.inl ((l6++[(Qaa.mk 2 (catS QaT r))]),(addK .i64 k2 1)))))) (chk (okN (l6++[(Qaa.mk 2 (catS QaT r))]).length 24) (some (.inl ((l6++[(Qaa.mk 2 (catS QaT r))]),(addK .i64 k2 1)))))) (some (.inr l6))
noncomputable def QbH (r:ByteArray) (x0:Qai) (l:List Qaa) (l5:List Qaa):Option (List Qaa):=bnd (QaX (fun s=>Qbc r x0 l s.1 s.2) (l5,0)) (fun l7=>some l7)
noncomputable def QbT (r:ByteArray) (x0:Qai) (l:List Qaa) (l2:List Qaa):Option (List Qaa):=bnd (Qcw x0.travel) fun r1=>bnd (QaX (fun s=>Qbb r x0 l r1 s.1 s.2) (l2,0)) (fun l4=>br (gtI (lenI x0.slow) 16) (chk (okN (l4++[(Qaa.mk 4 (catS QaT r))]).length 24) (QbH r x0 l (l4++[(Qaa.mk 4 (catS QaT r))]))) (QbH r x0 l l4))
noncomputable def QcD (n:Qag) (i:Int) (r:ByteArray) (x0:Qai) (l:List Qaa) (l1:List Qaa):Option (List Qaa):=bnd (QaX (fun s=>Qba n i r x0 l l1 s.1 s.2) (false,0)) (fun twice1=>br twice1 (chk (okN (l1++[(Qaa.mk 6 (catS QaT r))]).length 24) (QbT r x0 l (l1++[(Qaa.mk 6 (catS QaT r))]))) (QbT r x0 l l1))
noncomputable def QcC (n:Qag) (i:Int) (r:ByteArray) (x0:Qai) (l:List Qaa):Option (List Qaa):=br (((((ltI x0.profile 0)||(gtI x0.profile 7))||(ltI x0.miles 0))||(gtI x0.miles 10000))||(eqI x0.from_ x0.to_)) (chk (okN (l++[(Qaa.mk 2 (catS QaT r))]).length 24) (QcD n i r x0 l (l++[(Qaa.mk 2 (catS QaT r))]))) (QcD n i r x0 l l)
noncomputable def Qei (n:Qag) (i:Int):Option (List Qaa):=bnd (Qa8 i) fun r=>chk (QaT.size+r.size≤9223372036854775807) (bnd (getI n.arcs i) fun x0=>br ((((ltI x0.from_ 0)||(geI x0.from_ (lenI n.places)))||(ltI x0.to_ 0))||(geI x0.to_ (lenI n.places))) (chk (okN [(Qaa.mk 11 (catS QaT r))].length 24) (QcC n i r x0 [(Qaa.mk 11 (catS QaT r))])) (QcC n i r x0 []))
noncomputable def QaR (n:Qag) (l:List Qaa) (l1:List Qaa) (i:Int) (r:ByteArray) (twice:Bool) (k:Int):Option ((Bool×Int)⊕(Bool)):=br (ltI k i) (br twice (some (.inl (true,(addK .i64 k 1)))) (bnd (getI n.places k) fun x1=>bnd (getI n.places i) fun x2=>some (.inl ((eqS x1 x2),(addK .i64 k 1))))) (some (.inr twice))
noncomputable def QaQ (n:Qag) (l:List Qaa) (l1:List Qaa) (i:Int):Option ((List Qaa×Int)⊕(List Qaa)):=br (ltI i (lenI n.places)) (bnd (Qa8 i) fun r=>chk (QbU.size+r.size≤9223372036854775807) (bnd (getI n.places i) fun x0=>bnd (QdO x0) fun r1=>br r1 (bnd (QaX (fun s=>QaR n l l1 i r s.1 s.2) (false,0)) (fun twice1=>br twice1 (chk (okN (l1++[(Qaa.mk 6 (catS QbU r))]).length 24) (some (.inl ((l1++[(Qaa.mk 6 (catS QbU r))]),(addK .i64 i 1))))) (some (.inl (l1,(addK .i64 i 1)))))) (chk (okN (l1++[(Qaa.mk 5 (catS QbU r))]).length 24) (some (.inl ((l1++[(Qaa.mk 5 (catS QbU r))]),(addK .i64 i 1))))))) (some (.inr l1))
noncomputable def QbO (n:Qag) (l:List Qaa):Option (List Qaa):=bnd (QaX (fun s=>QaQ n l s.1 s.2) (l,0)) (fun l2=>some l2)
noncomputable def Qcj (n:Qag):Option (List Qaa):=br (gtI (lenI n.places) 24) (chk (okN [(Qaa.mk 4 Qd6)].length 24) (QbO n [(Qaa.mk 4 Qd6)])) (QbO n [])
noncomputable def Qbt (n:Qag) (l:List Qaa) (l1:List Qaa) (i:Int):Option ((List Qaa×Int)⊕(List Qaa)):=br (ltI i (lenI n.arcs)) (bnd (Qei n i) fun r1=>chk (okN (l1++r1).length 24) (some (.inl ((l1++r1),(addK .i64 i 1))))) (some (.inr l1))
noncomputable def Qeh (n:Qag) (l:List Qaa):Option (List Qaa):=bnd (QaX (fun s=>Qbt n l s.1 s.2) (l,0)) (fun l2=>some l2)
noncomputable def QfU (n:Qag):Option (List Qaa):=bnd (Qcj n) fun r=>br (gtI (lenI n.arcs) 1024) (chk (okN (r++[(Qaa.mk 4 Qg8)]).length 24) (Qeh n (r++[(Qaa.mk 4 Qg8)]))) (Qeh n r)
noncomputable def QaU (n:Int) (lo:Int) (hi:Int):Option Bool:=some ((geI n lo)&&(leI n hi))
noncomputable def QfC (l:List Qaf):Option Int:=br (eqI (lenI l) 0) (some 0) (bnd (getI l 0) fun x0=>some (lenI x0.cap))
noncomputable def Qbu (l:List Qaf) (at_:Int) (name:ByteArray) (i:Int):Option ((Int)⊕((Unit)⊕(Bool))):=br (ltI i at_) (bnd (getI l i) fun x0=>br (eqS x0.name name) (some (.inr (.inr true))) (some (.inl (addK .i64 i 1)))) (some (.inr (.inl ())))
noncomputable def QfW (l:List Qaf) (at_:Int) (name:ByteArray):Option Bool:=bnd (QaX (fun s=>Qbu l at_ name s) 0) (fun e=>sel e (fun (_:Unit)=>some false) (fun r=>some r))
noncomputable def Qa6 (l:List Int) (i:Int):Option ((Int)⊕((Unit)⊕(Bool))):=br (ltI i (lenI l)) (bnd (getI l i) fun x0=>bnd (QaU x0 0 1000) fun r1=>br r1 (some (.inl (addK .i64 i 1))) (some (.inr (.inr false)))) (some (.inr (.inl ())))
noncomputable def Qdz (l:List Int) (dims:Int):Option Bool:=bnd (QaU (lenI l) 1 3) fun r=>br ((!r)||(neI (lenI l) dims)) (some false) (bnd (QaX (fun s=>Qa6 l s) 0) (fun e=>sel e (fun (_:Unit)=>some true) (fun r2=>some r2)))
noncomputable def QdH (x0:Qaf) (l8:List Int):Option (List Int):=bnd (QaU x0.profile 0 7) fun r11=>br r11 (bnd (QaU x0.fixed 0 100000) fun r12=>br r12 (bnd (QaU x0.perMile 0 100) fun r13=>br r13 (bnd (QaU x0.perTick 0 100) fun r14=>br r14 (some l8) (chk (okN (l8++[2]).length 8) (some (l8++[2])))) (chk (okN (l8++[2]).length 8) (some (l8++[2])))) (chk (okN (l8++[2]).length 8) (some (l8++[2])))) (chk (okN (l8++[2]).length 8) (some (l8++[2])))
noncomputable def QdG (x0:Qaf) (l7:List Int):Option (List Int):=bnd (QaU x0.drive 1 4096) fun r9=>br r9 (bnd (QaU x0.rest_ 0 4096) fun r10=>br r10 (QdH x0 l7) (chk (okN (l7++[16]).length 8) (QdH x0 (l7++[16])))) (chk (okN (l7++[16]).length 8) (bnd (QaU x0.profile 0 7) fun r15=>br r15 (bnd (QaU x0.fixed 0 100000) fun r16=>br r16 (bnd (QaU x0.perMile 0 100) fun r17=>br r17 (bnd (QaU x0.perTick 0 100) fun r18=>br r18 (some (l7++[16])) (chk (okN ((l7++[16])++[2]).length 8) (some ((l7++[16])++[2])))) (chk (okN ((l7++[16])++[2]).length 8) (some ((l7++[16])++[2])))) (chk (okN ((l7++[16])++[2]).length 8) (some ((l7++[16])++[2])))) (chk (okN ((l7++[16])++[2]).length 8) (some ((l7++[16])++[2])))))
noncomputable def QdF (x0:Qaf) (l6:List Int):Option (List Int):=bnd (QaU x0.open_ 0 x0.close) fun r8=>br ((!r8)||(gtI x0.close 4096)) (chk (okN (l6++[15]).length 8) (QdG x0 (l6++[15]))) (QdG x0 l6)
noncomputable def QdE (x0:Qaf) (l5:List Int):Option (List Int):=bnd (QaU x0.skills 0 1073741823) fun r7=>br r7 (QdF x0 l5) (chk (okN (l5++[18]).length 8) (QdF x0 (l5++[18])))
noncomputable def QdD (l:List Qaf) (x0:Qaf) (l4:List Int):Option (List Int):=bnd (QfC l) fun r5=>bnd (Qdz x0.cap r5) fun r6=>br r6 (QdE x0 l4) (chk (okN (l4++[17]).length 8) (QdE x0 (l4++[17])))
noncomputable def Qhn (x0:Qaf) (l12:List Int):Option (List Int):=bnd (QaU x0.profile 0 7) fun r25=>br r25 (bnd (QaU x0.fixed 0 100000) fun r26=>br r26 (bnd (QaU x0.perMile 0 100) fun r27=>br r27 (bnd (QaU x0.perTick 0 100) fun r28=>br r28 (some l12) (chk (okN (l12++[2]).length 8) (some (l12++[2])))) (chk (okN (l12++[2]).length 8) (some (l12++[2])))) (chk (okN (l12++[2]).length 8) (some (l12++[2])))) (chk (okN (l12++[2]).length 8) (some (l12++[2])))
noncomputable def Qhm (x0:Qaf) (l11:List Int):Option (List Int):=bnd (QaU x0.drive 1 4096) fun r23=>br r23 (bnd (QaU x0.rest_ 0 4096) fun r24=>br r24 (Qhn x0 l11) (chk (okN (l11++[16]).length 8) (Qhn x0 (l11++[16])))) (chk (okN (l11++[16]).length 8) (bnd (QaU x0.profile 0 7) fun r29=>br r29 (bnd (QaU x0.fixed 0 100000) fun r30=>br r30 (bnd (QaU x0.perMile 0 100) fun r31=>br r31 (bnd (QaU x0.perTick 0 100) fun r32=>br r32 (some (l11++[16])) (chk (okN ((l11++[16])++[2]).length 8) (some ((l11++[16])++[2])))) (chk (okN ((l11++[16])++[2]).length 8) (some ((l11++[16])++[2])))) (chk (okN ((l11++[16])++[2]).length 8) (some ((l11++[16])++[2])))) (chk (okN ((l11++[16])++[2]).length 8) (some ((l11++[16])++[2])))))
noncomputable def Qhl (x0:Qaf) (l10:List Int):Option (List Int):=bnd (QaU x0.open_ 0 x0.close) fun r22=>br ((!r22)||(gtI x0.close 4096)) (chk (okN (l10++[15]).length 8) (Qhm x0 (l10++[15]))) (Qhm x0 l10)
noncomputable def QhZ (x0:Qaf) (l9:List Int):Option (List Int):=bnd (QaU x0.skills 0 1073741823) fun r21=>br r21 (Qhl x0 l9) (chk (okN (l9++[18]).length 8) (Qhl x0 (l9++[18])))
noncomputable def QdC (n:Qag) (l:List Qaf) (x0:Qaf) (l3:List Int):Option (List Int):=bnd (QaU x0.from_ 0 (subK .i64 (lenI n.places) 1)) fun r3=>br r3 (bnd (QaU x0.to_ 0 (subK .i64 (lenI n.places) 1)) fun r4=>br r4 (QdD l x0 l3) (chk (okN (l3++[11]).length 8) (QdD l x0 (l3++[11])))) (chk (okN (l3++[11]).length 8) (bnd (QfC l) fun r19=>bnd (Qdz x0.cap r19) fun r20=>br r20 (QhZ x0 (l3++[11])) (chk (okN ((l3++[11])++[17]).length 8) (QhZ x0 ((l3++[11])++[17])))))
noncomputable def QdB (n:Qag) (l:List Qaf) (x0:Qaf) (l2:List Int):Option (List Int):=bnd (QaU x0.count 0 10) fun r2=>br r2 (QdC n l x0 l2) (chk (okN (l2++[22]).length 8) (QdC n l x0 (l2++[22])))
noncomputable def QdA (n:Qag) (l:List Qaf) (at_:Int) (x0:Qaf) (l1:List Int):Option (List Int):=bnd (QfW l at_ x0.name) fun r1=>br r1 (chk (okN (l1++[6]).length 8) (QdB n l x0 (l1++[6]))) (QdB n l x0 l1)
noncomputable def Qel (n:Qag) (l:List Qaf) (at_:Int):Option (List Int):=bnd (getI l at_) fun x0=>bnd (QdO x0.name) fun r=>br r (QdA n l at_ x0 []) (chk (okN [5].length 8) (QdA n l at_ x0 [5]))
noncomputable def Qek (n:Qag) (l:List Qaf) (i:Int) (r1:List Int) (l3:List Qaa) (k:Int):Option ((List Qaa×Int)⊕(List Qaa)):=br (ltI k (lenI r1)) (bnd (getI r1 k) fun x0=>bnd (Qa8 i) fun r2=>chk (okN (l3++[(Qaa.mk x0 r2)]).length 24) (some (.inl ((l3++[(Qaa.mk x0 r2)]),(addK .i64 k 1))))) (some (.inr l3))
noncomputable def Qcd (n:Qag) (l:List Qaf) (l2:List Qaa) (i:Int):Option ((List Qaa×Int)⊕(List Qaa)):=br (ltI i (lenI l)) (bnd (Qel n l i) fun r1=>bnd (QaX (fun s=>Qek n l i r1 s.1 s.2) (l2,0)) (fun l4=>some (.inl (l4,(addK .i64 i 1))))) (some (.inr l2))
noncomputable def Qej (n:Qag) (l:List Qaf) (l1:List Qaa):Option (List Qaa):=bnd (QaX (fun s=>Qcd n l s.1 s.2) (l1,0)) (fun l5=>some l5)
noncomputable def QfV (n:Qag) (l:List Qaf):Option (List Qaa):=bnd (QaU (lenI l) 1 6) fun r=>br r (Qej n l []) (chk (okN [(Qaa.mk 4 ByteArray.empty)].length 24) (Qej n l [(Qaa.mk 4 ByteArray.empty)]))
noncomputable def Qbl (a:List Int) (i:Int):Option ((Int)⊕((Unit)⊕(Bool))):=br (ltI i (lenI a)) (bnd (getI a i) fun x0=>br (ltI x0 0) (some (.inr (.inr false))) (br (gtI x0 1000) (some (.inr (.inr false))) (some (.inl (addK .i64 i 1))))) (some (.inr (.inl ())))
noncomputable def Qef (a:List Int) (dims:Int):Option Bool:=br (neI (lenI a) dims) (some false) (bnd (QaX (fun s=>Qbl a s) 0) (fun e=>sel e (fun (_:Unit)=>some true) (fun r=>some r)))
noncomputable def Qb2 (n:Int) (low:Int) (high:Int):Option Bool:=some ((geI n low)&&(leI n high))
noncomputable def Qcc (s0:Qap):Option Int:=br ((((eqI s0.place (-1))&&(eqI s0.open_ 0))&&(eqI s0.close 0))&&(eqI s0.service 0)) (some 0) (br ((((((ltI s0.place 0)||(ltI s0.open_ 0))||(gtI s0.open_ s0.close))||(gtI s0.close 4096))||(ltI s0.service 0))||(gtI s0.service 4096)) (some 2) (some 0))
noncomputable def Qbn (places:Int) (dims:Int) (types:Int) (l:List Qac) (at_:Int) (x0:Qac) (l1:List Int) (i:Int):Option ((Int)⊕(List Int)):=br (ltI i at_) (bnd (getI l i) fun x1=>br (eqS x1.name x0.name) (chk (okN (l1++[6]).length 8) (some (.inr (l1++[6])))) (some (.inl (addK .i64 i 1)))) (some (.inr l1))
noncomputable def Qcf (types:Int) (x0:Qac) (l6:List Int):Option (List Int):=bnd (Qb2 x0.penalty (-1) 1000000) fun r6=>br r6 (bnd (Qb2 x0.split 1 4) fun r7=>br ((((((!r7)||((gtI x0.split 1)&&((neI x0.pick.place (-1))&&(neI x0.drop.place (-1)))))||(ltI x0.last_ (-1)))||(geI x0.last_ types))||(ltI x0.now (-1)))||(geI x0.now types)) (chk (okN (l6++[2]).length 8) (some (l6++[2]))) (some l6)) (chk (okN (l6++[2]).length 8) (some (l6++[2])))
noncomputable def QdJ (types:Int) (x0:Qac) (l8:List Int):Option (List Int):=bnd (Qb2 x0.penalty (-1) 1000000) fun r10=>br r10 (bnd (Qb2 x0.split 1 4) fun r11=>br ((((((!r11)||((gtI x0.split 1)&&((neI x0.pick.place (-1))&&(neI x0.drop.place (-1)))))||(ltI x0.last_ (-1)))||(geI x0.last_ types))||(ltI x0.now (-1)))||(geI x0.now types)) (chk (okN (l8++[2]).length 8) (some (l8++[2]))) (some l8)) (chk (okN (l8++[2]).length 8) (some (l8++[2])))
noncomputable def Qbm (types:Int) (x0:Qac) (l7:List Int):Option (List Int):=bnd (Qb2 x0.skills 0 1073741823) fun r9=>br r9 (QdJ types x0 l7) (chk (okN (l7++[18]).length 8) (QdJ types x0 (l7++[18])))
noncomputable def QbY (types:Int) (x0:Qac) (l5:List Int):Option (List Int):=bnd (Qcc x0.pick) fun r4=>br (neI r4 0) (chk (okN (l5++[14]).length 8) (bnd (Qb2 x0.skills 0 1073741823) fun r5=>br r5 (Qcf types x0 (l5++[14])) (chk (okN ((l5++[14])++[18]).length 8) (Qcf types x0 ((l5++[14])++[18]))))) (bnd (Qcc x0.drop) fun r8=>br (neI r8 0) (chk (okN (l5++[14]).length 8) (Qbm types x0 (l5++[14]))) (Qbm types x0 l5))
noncomputable def Qbv (types:Int) (x0:Qac) (l4:List Int):Option (List Int):=br ((eqI x0.pick.place (-1))&&(eqI x0.drop.place (-1))) (chk (okN (l4++[19]).length 8) (QbY types x0 (l4++[19]))) (QbY types x0 l4)
noncomputable def Qeq (types:Int) (x0:Qac) (l10:List Int):Option (List Int):=bnd (Qb2 x0.penalty (-1) 1000000) fun r14=>br r14 (bnd (Qb2 x0.split 1 4) fun r15=>br ((((((!r15)||((gtI x0.split 1)&&((neI x0.pick.place (-1))&&(neI x0.drop.place (-1)))))||(ltI x0.last_ (-1)))||(geI x0.last_ types))||(ltI x0.now (-1)))||(geI x0.now types)) (chk (okN (l10++[2]).length 8) (some (l10++[2]))) (some l10)) (chk (okN (l10++[2]).length 8) (some (l10++[2])))
noncomputable def Qd1 (types:Int) (x0:Qac) (l12:List Int):Option (List Int):=bnd (Qb2 x0.penalty (-1) 1000000) fun r18=>br r18 (bnd (Qb2 x0.split 1 4) fun r19=>br ((((((!r19)||((gtI x0.split 1)&&((neI x0.pick.place (-1))&&(neI x0.drop.place (-1)))))||(ltI x0.last_ (-1)))||(geI x0.last_ types))||(ltI x0.now (-1)))||(geI x0.now types)) (chk (okN (l12++[2]).length 8) (some (l12++[2]))) (some l12)) (chk (okN (l12++[2]).length 8) (some (l12++[2])))
noncomputable def Qd0 (types:Int) (x0:Qac) (l11:List Int):Option (List Int):=bnd (Qb2 x0.skills 0 1073741823) fun r17=>br r17 (Qd1 types x0 l11) (chk (okN (l11++[18]).length 8) (Qd1 types x0 (l11++[18])))
noncomputable def Qep (types:Int) (x0:Qac) (l9:List Int):Option (List Int):=bnd (Qcc x0.pick) fun r12=>br (neI r12 0) (chk (okN (l9++[14]).length 8) (bnd (Qb2 x0.skills 0 1073741823) fun r13=>br r13 (Qeq types x0 (l9++[14])) (chk (okN ((l9++[14])++[18]).length 8) (Qeq types x0 ((l9++[14])++[18]))))) (bnd (Qcc x0.drop) fun r16=>br (neI r16 0) (chk (okN (l9++[14]).length 8) (Qd0 types x0 (l9++[14]))) (Qd0 types x0 l9))
noncomputable def Qa7 (places:Int) (types:Int) (x0:Qac) (l3:List Int):Option (List Int):=bnd (Qb2 x0.pick.place (-1) (subK .i64 places 1)) fun r2=>br r2 (bnd (Qb2 x0.drop.place (-1) (subK .i64 places 1)) fun r3=>br r3 (Qbv types x0 l3) (chk (okN (l3++[11]).length 8) (Qbv types x0 (l3++[11])))) (chk (okN (l3++[11]).length 8) (br ((eqI x0.pick.place (-1))&&(eqI x0.drop.place (-1))) (chk (okN ((l3++[11])++[19]).length 8) (Qep types x0 ((l3++[11])++[19]))) (Qep types x0 (l3++[11]))))
noncomputable def QdI (places:Int) (dims:Int) (types:Int) (l:List Qac) (at_:Int) (x0:Qac) (l1:List Int):Option (List Int):=bnd (QaX (fun s=>Qbn places dims types l at_ x0 l1 s) 0) (fun l2=>bnd (Qef x0.load dims) fun r1=>br r1 (Qa7 places types x0 l2) (chk (okN (l2++[17]).length 8) (Qa7 places types x0 (l2++[17]))))
noncomputable def Qeo (places:Int) (dims:Int) (types:Int) (l:List Qac) (at_:Int):Option (List Int):=bnd (getI l at_) fun x0=>bnd (QdO x0.name) fun r=>br r (QdI places dims types l at_ x0 []) (chk (okN [5].length 8) (QdI places dims types l at_ x0 [5]))
noncomputable def Qen (n:Qag) (dims:Int) (types:Int) (l:List Qac) (i:Int) (r:List Int) (l3:List Qaa) (k:Int):Option ((List Qaa×Int)⊕(List Qaa)):=br (ltI k (lenI r)) (bnd (getI r k) fun x0=>bnd (Qa8 i) fun r1=>chk (okN (l3++[(Qaa.mk x0 r1)]).length 24) (some (.inl ((l3++[(Qaa.mk x0 r1)]),(addK .i64 k 1))))) (some (.inr l3))
noncomputable def Qce (n:Qag) (dims:Int) (types:Int) (l:List Qac) (l2:List Qaa) (i:Int):Option ((List Qaa×Int)⊕(List Qaa)):=br (ltI i (lenI l)) (bnd (Qeo (lenI n.places) dims types l i) fun r=>bnd (QaX (fun s=>Qen n dims types l i r s.1 s.2) (l2,0)) (fun l4=>some (.inl (l4,(addK .i64 i 1))))) (some (.inr l2))
noncomputable def Qem (n:Qag) (dims:Int) (types:Int) (l:List Qac) (l1:List Qaa):Option (List Qaa):=bnd (QaX (fun s=>Qce n dims types l s.1 s.2) (l1,0)) (fun l5=>some l5)
noncomputable def QfX (n:Qag) (dims:Int) (types:Int) (l:List Qac):Option (List Qaa):=br (gtI (lenI l) 10) (chk (okN [(Qaa.mk 4 ByteArray.empty)].length 24) (Qem n dims types l [(Qaa.mk 4 ByteArray.empty)])) (Qem n dims types l [])
noncomputable def Qez (n1:Int) (s0:ByteArray):Option ((Int×ByteArray)⊕(Int×ByteArray)):=br (geI n1 10) (chk ((QtQ [(cvK .u8 (addK .i64 48 (remK n1 10)))]).size+s0.size≤9223372036854775807) (some (.inl ((quoK .i64 n1 10),(catS (QtQ [(cvK .u8 (addK .i64 48 (remK n1 10)))]) s0))))) (some (.inr (n1,s0)))
noncomputable def QfK (n:Int):Option ByteArray:=bnd (QaX (fun s=>Qez s.1 s.2) (n,ByteArray.empty)) (fun e0=>(fun n2 s1=>chk ((QtQ [(cvK .u8 (addK .i64 48 n2))]).size+s1.size≤9223372036854775807) (some (catS (QtQ [(cvK .u8 (addK .i64 48 n2))]) s1))) e0.1 e0.2)
noncomputable def QbM (orders:Int) (l:List Qav) (word:ByteArray) (turned:Bool) (l2:List Qaa) (i:Int) (x0:Qav) (r:ByteArray) (twice:Bool) (k:Int):Option ((Bool×Int)⊕(Bool)):=br (ltI k i) (br twice (some (.inl (true,(addK .i64 k 1)))) (bnd (getI l k) fun x1=>br (eqI x1.x0 x0.x0) (br (eqI x1.x1 x0.x1) (some (.inl (true,(addK .i64 k 1)))) (br turned (br (eqI x1.x0 x0.x1) (some (.inl ((eqI x1.x1 x0.x0),(addK .i64 k 1)))) (some (.inl (false,(addK .i64 k 1))))) (some (.inl (false,(addK .i64 k 1)))))) (br turned (br (eqI x1.x0 x0.x1) (some (.inl ((eqI x1.x1 x0.x0),(addK .i64 k 1)))) (some (.inl (false,(addK .i64 k 1))))) (some (.inl (false,(addK .i64 k 1))))))) (some (.inr twice))
noncomputable def Qbx (orders:Int) (l:List Qav) (word:ByteArray) (turned:Bool) (l2:List Qaa) (i:Int):Option ((List Qaa×Int)⊕(List Qaa)):=br (ltI i (lenI l)) (bnd (getI l i) fun x0=>chk (word.size+Qa1.size≤9223372036854775807) (bnd (QfK i) fun r=>chk ((catS word Qa1).size+r.size≤9223372036854775807) (br (((((ltI x0.x0 0)||(geI x0.x0 orders))||(ltI x0.x1 0))||(geI x0.x1 orders))||(eqI x0.x0 x0.x1)) (chk (okN (l2++[(Qaa.mk 2 (catS (catS word Qa1) r))]).length 24) (some (.inl ((l2++[(Qaa.mk 2 (catS (catS word Qa1) r))]),(addK .i64 i 1))))) (bnd (QaX (fun s=>QbM orders l word turned l2 i x0 r s.1 s.2) (false,0)) (fun twice1=>br twice1 (chk (okN (l2++[(Qaa.mk 6 (catS (catS word Qa1) r))]).length 24) (some (.inl ((l2++[(Qaa.mk 6 (catS (catS word Qa1) r))]),(addK .i64 i 1))))) (some (.inl (l2,(addK .i64 i 1))))))))) (some (.inr l2))
noncomputable def Qd2 (orders:Int) (l:List Qav) (word:ByteArray) (turned:Bool) (l1:List Qaa):Option (List Qaa):=bnd (QaX (fun s=>Qbx orders l word turned s.1 s.2) (l1,0)) (fun l3=>some l3)
noncomputable def QeB (orders:Int) (l:List Qav) (word:ByteArray) (turned:Bool):Option (List Qaa):=br (gtI (lenI l) 16) (chk (okN [(Qaa.mk 4 word)].length 24) (Qd2 orders l word turned [(Qaa.mk 4 word)])) (Qd2 orders l word turned [])
noncomputable def Qfv (orders:Int) (l:List Qav) (word:ByteArray) (turned:Bool) (l2:List Qaa) (i:Int) (x0:Qav) (r:ByteArray) (twice:Bool) (k:Int):Option ((Bool×Int)⊕(Bool)):=br (ltI k i) (br twice (some (.inl (true,(addK .i64 k 1)))) (bnd (getI l k) fun x1=>br (eqI x1.x0 x0.x0) (br (eqI x1.x1 x0.x1) (some (.inl (true,(addK .i64 k 1)))) (br turned (br (eqI x1.x0 x0.x1) (some (.inl ((eqI x1.x1 x0.x0),(addK .i64 k 1)))) (some (.inl (false,(addK .i64 k 1))))) (some (.inl (false,(addK .i64 k 1)))))) (br turned (br (eqI x1.x0 x0.x1) (some (.inl ((eqI x1.x1 x0.x0),(addK .i64 k 1)))) (some (.inl (false,(addK .i64 k 1))))) (some (.inl (false,(addK .i64 k 1))))))) (some (.inr twice))
noncomputable def Qfu (orders:Int) (l:List Qav) (word:ByteArray) (turned:Bool) (l2:List Qaa) (i:Int):Option ((List Qaa×Int)⊕(List Qaa)):=br (ltI i (lenI l)) (bnd (getI l i) fun x0=>chk (word.size+Qa1.size≤9223372036854775807) (bnd (QfK i) fun r=>chk ((catS word Qa1).size+r.size≤9223372036854775807) (br (((((ltI x0.x0 0)||(geI x0.x0 orders))||(ltI x0.x1 0))||(geI x0.x1 orders))||(eqI x0.x0 x0.x1)) (chk (okN (l2++[(Qaa.mk 2 (catS (catS word Qa1) r))]).length 24) (some (.inl ((l2++[(Qaa.mk 2 (catS (catS word Qa1) r))]),(addK .i64 i 1))))) (bnd (QaX (fun s=>Qfv orders l word turned l2 i x0 r s.1 s.2) (false,0)) (fun twice1=>br twice1 (chk (okN (l2++[(Qaa.mk 6 (catS (catS word Qa1) r))]).length 24) (some (.inl ((l2++[(Qaa.mk 6 (catS (catS word Qa1) r))]),(addK .i64 i 1))))) (some (.inl (l2,(addK .i64 i 1))))))))) (some (.inr l2))
noncomputable def Qft (orders:Int) (l:List Qav) (word:ByteArray) (turned:Bool) (l1:List Qaa):Option (List Qaa):=bnd (QaX (fun s=>Qfu orders l word turned s.1 s.2) (l1,0)) (fun l3=>some l3)
noncomputable def QgQ (orders:Int) (l:List Qav) (word:ByteArray) (turned:Bool):Option (List Qaa):=br (gtI (lenI l) 16) (chk (okN [(Qaa.mk 4 word)].length 24) (Qft orders l word turned [(Qaa.mk 4 word)])) (Qft orders l word turned [])
noncomputable def QfY (orders:Int) (apart:List Qav) (before:List Qav):Option (List Qaa):=bnd (QgQ orders apart Qt7 true) fun r=>bnd (QeB orders before QsP false) fun r1=>chk (okN (r++r1).length 24) (some (r++r1))
noncomputable def Qf7 (word:ByteArray) (l:List Qaa) (l1:List Qaa) (i:Int) (at_:ByteArray):Option ((List Qaa×Int)⊕(List Qaa)):=bnd (getI l i) fun x1=>chk (okN (l1++[(Qaa.mk x1.err at_)]).length 24) (some (.inl ((l1++[(Qaa.mk x1.err at_)]),(addK .i64 i 1))))
noncomputable def Qf8 (word:ByteArray) (l:List Qaa) (l1:List Qaa) (i:Int):Option ((List Qaa×Int)⊕(List Qaa)):=br (ltI i (lenI l)) (bnd (getI l i) fun x0=>br (eqS x0.at_ ByteArray.empty) (Qf7 word l l1 i word) (chk (word.size+Qa1.size≤9223372036854775807) (chk ((catS word Qa1).size+x0.at_.size≤9223372036854775807) (Qf7 word l l1 i (catS (catS word Qa1) x0.at_))))) (some (.inr l1))
noncomputable def QeR (word:ByteArray) (l:List Qaa):Option (List Qaa):=bnd (QaX (fun s=>Qf8 word l s.1 s.2) ([],0)) (fun l2=>some l2)
noncomputable def QbZ (x0:Qab):Option (List Qaa):=bnd (QfU x0.net) fun r=>bnd (QeR Qob r) fun r1=>bnd (QfV x0.net x0.types) fun r2=>bnd (Qg0 QqR r2) fun r3=>chk (okN (r1++r3).length 24) (bnd (QfC x0.types) fun r4=>bnd (QfX x0.net r4 (lenI x0.types) x0.orders) fun r5=>bnd (Qg0 Qpe r5) fun r6=>chk (okN ((r1++r3)++r6).length 24) (bnd (QfY (lenI x0.orders) x0.apart x0.before) fun r7=>bnd (Qg0 QqQ r7) fun r8=>chk (okN (((r1++r3)++r6)++r8).length 24) (some (((r1++r3)++r6)++r8))))
noncomputable def Qd4 (t:Qaf) (skills:Int) (bit:Int):Option ((Int)⊕((Unit)⊕(Bool))):=br (gtI bit 0) (chk ((bit:Int)≠0) (br (eqI (remK (quoK .i64 skills bit) 2) 1) (chk ((bit:Int)≠0) (br (eqI (remK (quoK .i64 t.skills bit) 2) 0) (some (.inr (.inr false))) (some (.inl (mulK .i64 bit 2))))) (some (.inl (mulK .i64 bit 2))))) (some (.inr (.inl ())))
noncomputable def QhH (t:Qaf) (skills:Int):Option Bool:=br ((ltI t.skills 0)||(ltI skills 0)) (some false) (bnd (QaX (fun s=>Qd4 t skills s) 1) (fun e=>sel e (fun (_:Unit)=>some true) (fun r=>some r)))
noncomputable def Qdo (x0:Qab) (o:Qac) (l:List Qaf) (i:Int):Option ((List Qaf×Int)⊕(List Qaf)):=br (ltI i (lenI x0.types)) (bnd (getI x0.types i) fun x1=>bnd (QhH x1 o.skills) fun r=>br r (chk (okN (l++[x1]).length 136) (some (.inl ((l++[x1]),(addK .i64 i 1))))) (some (.inl (l,(addK .i64 i 1))))) (some (.inr l))
noncomputable def Qi0 (x0:Qab) (o:Qac):Option (List Qaf):=bnd (QaX (fun s=>Qdo x0 o s.1 s.2) ([],0)) (fun l1=>some l1)
noncomputable def QeQ (l:List Qal) (t:Int) (i:Int):Option ((Int)⊕((Unit)⊕(Int))):=br (ltI (addK .i64 i 1) (lenI l)) (bnd (getI l i) fun x0=>bnd (getI l (addK .i64 i 1)) fun x1=>br ((leI x0.t t)&&(ltI t x1.t)) (chk (((subK .i64 x1.t x0.t):Int)≠0) (some (.inr (.inr (addK .i64 x0.a (quoK .i64 (subK .i64 (subK .i64 (addK .i64 (mulK .i64 (subK .i64 t x0.t) (subK .i64 x1.a x0.a)) x1.t) x0.t) 1) (subK .i64 x1.t x0.t))))))) (some (.inl (addK .i64 i 1)))) (some (.inr (.inl ())))
noncomputable def QhA (l:List Qal) (t:Int):Option Int:=bnd (Qcw l) fun r=>br (((gtI (lenI r) 0)||(ltI t 0))||(gtI t 1073741824)) (some 0) (bnd (QaX (fun s=>QeQ l t s) 0) (fun e=>sel e (fun (_:Unit)=>bnd (getI l 0) fun x2=>br (gtI t x2.t) (bnd (getI l (subK .i64 (lenI l) 1)) fun x3=>some (subK .i64 (addK .i64 t x3.a) x3.t)) (some (subK .i64 (addK .i64 t x2.a) x2.t))) (fun r1=>some r1)))
noncomputable def Qhj (a:Qai) (t:Int) (n:Int) (i:Int):Option ((Int×Int)⊕(Int)):=br (ltI i (lenI a.slow)) (bnd (getI a.slow i) fun x0=>br (leI x0.t t) (some (.inl ((addK .i64 n x0.a),(addK .i64 i 1)))) (some (.inl (n,(addK .i64 i 1))))) (some (.inr n))
noncomputable def Qgh (a:Qai) (t:Int):Option Int:=bnd (QhA a.travel t) fun r=>bnd (QaX (fun s=>Qhj a t s.1 s.2) (r,0)) (fun n1=>some n1)
noncomputable def QbR (n:Qag) (profile:Int) (from_:Int) (t:Int) (l:List Int) (p:Int):Option ((List Int×Int)⊕(List Int)):=br (ltI p (lenI n.places)) (br (eqI p from_) (chk (okN (l++[t]).length 8) (some (.inl ((l++[t]),(addK .i64 p 1))))) (chk (okN (l++[(-1)]).length 8) (some (.inl ((l++[(-1)]),(addK .i64 p 1)))))) (some (.inr l))
noncomputable def QbS (n:Qag) (profile:Int) (from_:Int) (round:Int) (l3:List Int) (i:Int):Option ((List Int×Int)⊕(List Int)):=br (ltI i (lenI n.arcs)) (bnd (getI n.arcs i) fun x0=>br (eqI x0.profile profile) (bnd (getI l3 x0.from_) fun x1=>br (geI x1 0) (bnd (Qgh x0 x1) fun r=>bnd (getI l3 x0.to_) fun x2=>br (ltI x2 0) (some (.inl ((setI l3 x0.to_ r),(addK .i64 i 1)))) (br (ltI r x2) (some (.inl ((setI l3 x0.to_ r),(addK .i64 i 1)))) (some (.inl (l3,(addK .i64 i 1)))))) (some (.inl (l3,(addK .i64 i 1))))) (some (.inl (l3,(addK .i64 i 1))))) (some (.inr l3))
noncomputable def QbG (n:Qag) (profile:Int) (from_:Int) (l2:List Int) (round:Int):Option ((List Int×Int)⊕(List Int)):=br (ltI round (lenI n.places)) (bnd (QaX (fun s=>QbS n profile from_ round s.1 s.2) (l2,0)) (fun l4=>some (.inl (l4,(addK .i64 round 1))))) (some (.inr l2))
noncomputable def Qfh (n:Qag) (profile:Int) (from_:Int) (t:Int):Option (List Int):=bnd (QaX (fun s=>QbR n profile from_ t s.1 s.2) ([],0)) (fun l1=>bnd (QaX (fun s=>QbG n profile from_ s.1 s.2) (l1,0)) (fun l5=>some l5))
noncomputable def Qe4 (x0:Qab) (t:Qaf) (place:Int):Option Int:=bnd (Qfh x0.net t.profile t.from_ t.open_) fun r=>br ((ltI place 0)||(geI place (lenI r))) (some (-1)) (bnd (getI r place) fun x1=>some x1)
noncomputable def Qbg (x0:Qab) (l:List Qaf) (place:Int) (out:Int) (i:Int):Option ((Int×Int)⊕(Int)):=br (ltI i (lenI l)) (bnd (getI l i) fun x1=>bnd (Qe4 x0 x1 place) fun r=>br ((geI r 0)&&((ltI out 0)||(ltI r out))) (some (.inl (r,(addK .i64 i 1)))) (some (.inl (out,(addK .i64 i 1))))) (some (.inr out))
noncomputable def Qf1 (x0:Qab) (l:List Qaf) (place:Int):Option Int:=bnd (QaX (fun s=>Qbg x0 l place s.1 s.2) ((-1),0)) (fun out1=>some out1)
noncomputable def Qg2 (x0:Qab) (t:Qaf) (place:Int) (depart:Int):Option Bool:=bnd (Qfh x0.net t.profile place depart) fun r=>br ((geI t.to_ 0)&&(ltI t.to_ (lenI r))) (bnd (getI r t.to_) fun x1=>br (geI x1 0) (some (leI x1 t.close)) (some false)) (some false)
noncomputable def QcF (x0:Qab) (l:List Qaf) (s0:Qap) (r:Int) (b:Int) (i:Int):Option ((Int)⊕((Unit)⊕(Qap))):=br (ltI i (lenI l)) (bnd (getI l i) fun x1=>bnd (Qg2 x0 x1 s0.place (addK .i64 b s0.service)) fun r1=>br r1 (some (.inr (.inr (Qap.mk s0.place (maxI s0.open_ r) b s0.service)))) (some (.inl (addK .i64 i 1)))) (some (.inr (.inl ())))
noncomputable def Qd3 (x0:Qab) (l:List Qaf) (s0:Qap) (r:Int) (b:Int):Option ((Int)⊕((Unit)⊕(Qap))):=br (geI b (maxI s0.open_ r)) (bnd (QaX (fun s=>QcF x0 l s0 r b s) 0) (fun e=>sel e (fun (_:Unit)=>some (.inl (subK .i64 b 1))) (fun r2=>some (.inr (.inr r2))))) (some (.inr (.inl ())))
noncomputable def Qfl (x0:Qab) (l:List Qaf) (s0:Qap):Option Qap:=bnd (Qf1 x0 l s0.place) fun r=>br (((ltI s0.place 0)||(ltI r 0))||(gtI r s0.close)) (some s0) (bnd (QaX (fun s=>Qd3 x0 l s0 r s) s0.close) (fun e=>sel e (fun (_:Unit)=>some s0) (fun r3=>some r3)))
noncomputable def QcT (x0:Qab) (l:List Qac) (i:Int):Option ((List Qac×Int)⊕(List Qac)):=br (ltI i (lenI l)) (bnd (getI l i) fun x1=>br x1.off (some (.inl (l,(addK .i64 i 1)))) (bnd (Qi0 x0 x1) fun r1=>bnd (getI x0.orders i) fun x2=>bnd (Qfl x0 r1 x2.pick) fun r2=>bnd (Qfl x0 r1 x2.drop) fun r3=>some (.inl ((setI (setI l i (Qac.mk x1.name x1.load r2 x1.drop x1.skills x1.penalty x1.split x1.last_ x1.now x1.off)) i (Qac.mk x1.name x1.load r2 r3 x1.skills x1.penalty x1.split x1.last_ x1.now x1.off)),(addK .i64 i 1))))) (some (.inr l))
noncomputable def QdQ (x0:Qab):Option (Qab×Int):=bnd (QbZ x0) fun r=>br (gtI (lenI r) 0) (some ((Qab.mk (Qag.mk [] []) [] [] [] []),2)) (chk (okN x0.orders.length 152) (bnd (QaX (fun s=>QcT x0 s.1 s.2) (x0.orders,0)) (fun l1=>some ((Qab.mk x0.net x0.types l1 x0.apart x0.before),0))))
noncomputable def QcE (a:List Qal) (b:List Qal) (i:Int):Option ((Int)⊕((Unit)⊕(Bool))):=br (ltI i (lenI a)) (bnd (getI a i) fun x0=>bnd (getI b i) fun x1=>br (eqI x0.t x1.t&&(eqI x0.a x1.a&&true)) (some (.inl (addK .i64 i 1))) (some (.inr (.inr false)))) (some (.inr (.inl ())))
noncomputable def Qgi (a:List Qal) (b:List Qal):Option Bool:=br (neI (lenI a) (lenI b)) (some false) (bnd (QaX (fun s=>QcE a b s) 0) (fun e=>sel e (fun (_:Unit)=>some true) (fun r=>some r)))
noncomputable def Qdm (a:Qag) (b:Qag) (i:Int):Option ((Int)⊕((Unit)⊕(Bool))):=br (ltI i (lenI a.places)) (bnd (getI a.places i) fun x0=>bnd (getI b.places i) fun x1=>br (eqS x0 x1) (some (.inl (addK .i64 i 1))) (some (.inr (.inr false)))) (some (.inr (.inl ())))
noncomputable def QcN (a:Qag) (b:Qag) (i1:Int):Option ((Int)⊕((Unit)⊕(Bool))):=br (ltI i1 (lenI a.arcs)) (bnd (getI a.arcs i1) fun x2=>bnd (getI b.arcs i1) fun x3=>br ((((neI x2.from_ x3.from_)||(neI x2.to_ x3.to_))||(neI x2.profile x3.profile))||(neI x2.miles x3.miles)) (some (.inr (.inr false))) (bnd (Qgi x2.travel x3.travel) fun r=>br r (bnd (Qgi x2.slow x3.slow) fun r1=>br r1 (some (.inl (addK .i64 i1 1))) (some (.inr (.inr false)))) (some (.inr (.inr false))))) (some (.inr (.inl ())))
noncomputable def QiY (a:Qag) (b:Qag):Option Bool:=br ((neI (lenI a.places) (lenI b.places))||(neI (lenI a.arcs) (lenI b.arcs))) (some false) (bnd (QaX (fun s=>Qdm a b s) 0) (fun e=>sel e (fun (_:Unit)=>bnd (QaX (fun s=>QcN a b s) 0) (fun e=>sel e (fun (_:Unit)=>some true) (fun r2=>some r2))) (fun r3=>some r3)))
noncomputable def Qdj (a:Qaf) (b:Qaf) (i:Int):Option ((Int)⊕((Unit)⊕(Bool))):=br (ltI i (lenI a.cap)) (bnd (getI a.cap i) fun x0=>bnd (getI b.cap i) fun x1=>br (neI x0 x1) (some (.inr (.inr false))) (some (.inl (addK .i64 i 1)))) (some (.inr (.inl ())))
noncomputable def QiT (a:Qaf) (b:Qaf):Option Bool:=br (neI (lenI a.cap) (lenI b.cap)) (some false) (bnd (QaX (fun s=>Qdj a b s) 0) (fun e=>sel e (fun (_:Unit)=>some (((((((((((((eqS a.name b.name)&&(eqI a.count b.count))&&(eqI a.from_ b.from_))&&(eqI a.to_ b.to_))&&(eqI a.skills b.skills))&&(eqI a.profile b.profile))&&(eqI a.open_ b.open_))&&(eqI a.close b.close))&&(eqI a.drive b.drive))&&(eqI a.rest_ b.rest_))&&(eqI a.fixed b.fixed))&&(eqI a.perMile b.perMile))&&(eqI a.perTick b.perTick))) (fun r=>some r)))
noncomputable def Qdk (a:List Int) (b:List Int) (i:Int):Option ((Int)⊕((Unit)⊕(Bool))):=br (ltI i (lenI a)) (bnd (getI a i) fun x0=>bnd (getI b i) fun x1=>br (neI x0 x1) (some (.inr (.inr false))) (some (.inl (addK .i64 i 1)))) (some (.inr (.inl ())))
noncomputable def QiV (a:List Int) (b:List Int):Option Bool:=br (neI (lenI a) (lenI b)) (some false) (bnd (QaX (fun s=>Qdk a b s) 0) (fun e=>sel e (fun (_:Unit)=>some true) (fun r=>some r)))
noncomputable def QiU (a:Qac) (b:Qac):Option Bool:=br (eqS a.name b.name) (bnd (QiV a.load b.load) fun r=>some ((((((((r&&(eqI a.pick.place b.pick.place&&(eqI a.pick.open_ b.pick.open_&&(eqI a.pick.close b.pick.close&&(eqI a.pick.service b.pick.service&&true)))))&&(eqI a.drop.place b.drop.place&&(eqI a.drop.open_ b.drop.open_&&(eqI a.drop.close b.drop.close&&(eqI a.drop.service b.drop.service&&true)))))&&(eqI a.skills b.skills))&&(eqI a.penalty b.penalty))&&(eqI a.split b.split))&&(eqI a.last_ b.last_))&&(eqI a.now b.now))&&(eqB a.off b.off))) (some false)
noncomputable def QcS (a:List Qav) (b:List Qav) (i:Int):Option ((Int)⊕((Unit)⊕(Bool))):=br (ltI i (lenI a)) (bnd (getI a i) fun x0=>bnd (getI b i) fun x1=>br (eqI x0.x0 x1.x0&&(eqI x0.x1 x1.x1&&true)) (some (.inl (addK .i64 i 1))) (some (.inr (.inr false)))) (some (.inr (.inl ())))
noncomputable def QdP (a:List Qav) (b:List Qav):Option Bool:=br (neI (lenI a) (lenI b)) (some false) (bnd (QaX (fun s=>QcS a b s) 0) (fun e=>sel e (fun (_:Unit)=>some true) (fun r=>some r)))
noncomputable def Qdl (a:Qab) (b:Qab) (i:Int):Option ((Int)⊕((Unit)⊕(Bool))):=br (ltI i (lenI a.types)) (bnd (getI a.types i) fun x0=>bnd (getI b.types i) fun x1=>bnd (QiT x0 x1) fun r1=>br r1 (some (.inl (addK .i64 i 1))) (some (.inr (.inr false)))) (some (.inr (.inl ())))
noncomputable def QcM (a:Qab) (b:Qab) (i1:Int):Option ((Int)⊕((Unit)⊕(Bool))):=br (ltI i1 (lenI a.orders)) (bnd (getI a.orders i1) fun x2=>bnd (getI b.orders i1) fun x3=>bnd (QiU x2 x3) fun r2=>br r2 (some (.inl (addK .i64 i1 1))) (some (.inr (.inr false)))) (some (.inr (.inl ())))
noncomputable def Qd9 (a:Qab) (b:Qab):Option Bool:=bnd (QiY a.net b.net) fun r=>br (((!r)||(neI (lenI a.types) (lenI b.types)))||(neI (lenI a.orders) (lenI b.orders))) (some false) (bnd (QaX (fun s=>Qdl a b s) 0) (fun e=>sel e (fun (_:Unit)=>bnd (QaX (fun s=>QcM a b s) 0) (fun e=>sel e (fun (_:Unit)=>bnd (QdP a.apart b.apart) fun r3=>br r3 (bnd (QdP a.before b.before) fun r4=>some r4) (some false)) (fun r5=>some r5))) (fun r6=>some r6)))
noncomputable def Qgp (x0:Qab):Option Bool:=bnd (Qhh x0) fun r=>br r (bnd (QgF x0) fun r1=>bnd (QdQ x0) fun r2=>bnd (Qd9 r1.1 r2.1) fun r3=>br (r3&&(eqI r1.2 r2.2)) (bnd (Qee) fun r4=>some r4) (some false)) (bnd (Qee) fun r5=>some r5)
noncomputable def QgT (n:Qag) (p:Int):Option Bool:=some ((geI p 0)&&(ltI p (lenI n.places)))
noncomputable def QfJ (n:Qag) (profile:Int) (from_:Int) (to_:Int) (i:Int):Option ((Int)⊕((Unit)⊕(Qai×Bool))):=br (ltI i (lenI n.arcs)) (bnd (getI n.arcs i) fun x0=>br (((eqI x0.from_ from_)&&(eqI x0.to_ to_))&&(eqI x0.profile profile)) (some (.inr (.inr (x0,true)))) (some (.inl (addK .i64 i 1)))) (some (.inr (.inl ())))
noncomputable def QiS (n:Qag) (profile:Int) (from_:Int) (to_:Int):Option (Qai×Bool):=bnd (QaX (fun s=>QfJ n profile from_ to_ s) 0) (fun e=>sel e (fun (_:Unit)=>some ((Qai.mk 0 0 0 0 [] []),false)) (fun r=>some r))
noncomputable def Qlp (n:Qag) (profile:Int) (from_:Int) (to_:Int) (t:Int):Option (Int×Int×Int):=bnd (QgT n from_) fun r=>br r (bnd (QgT n to_) fun r1=>br r1 (br (eqI from_ to_) (some (t,0,0)) (bnd (QiS n profile from_ to_) fun r2=>br r2.2 (bnd (Qgh r2.1 t) fun r3=>some (r3,r2.1.miles,0)) (some (0,0,12)))) (some (0,0,11))) (some (0,0,11))
noncomputable def QcG (x0:Qab) (c:Qai) (i:Int):Option ((Int)⊕((Unit)⊕(Bool))):=br (ltI i (lenI x0.types)) (bnd (getI x0.types i) fun x1=>bnd (Qe4 x0 x1 c.from_) fun r=>br ((neI x1.profile c.profile)||(ltI r 0)) (some (.inl (addK .i64 i 1))) (bnd (Qlp x0.net c.profile c.from_ c.to_ r) fun r1=>br ((eqI r1.2.2 0)&&(leI r1.1 x1.close)) (some (.inr (.inr true))) (some (.inl (addK .i64 i 1))))) (some (.inr (.inl ())))
noncomputable def QhB (x0:Qab) (c:Qai):Option Bool:=bnd (QaX (fun s=>QcG x0 c s) 0) (fun e=>sel e (fun (_:Unit)=>some false) (fun r2=>some r2))
noncomputable def Qdn (x0:Qab) (l:List Qai) (i:Int):Option ((List Qai×Int)⊕(List Qai)):=br (ltI i (lenI x0.net.arcs)) (bnd (getI x0.net.arcs i) fun x1=>bnd (QhB x0 x1) fun r1=>br r1 (chk (okN (l++[x1]).length 80) (some (.inl ((l++[x1]),(addK .i64 i 1))))) (some (.inl (l,(addK .i64 i 1))))) (some (.inr l))
noncomputable def Qea (x0:Qab):Option (Qab×Int):=bnd (QbZ x0) fun r=>br (gtI (lenI r) 0) (some ((Qab.mk (Qag.mk [] []) [] [] [] []),2)) (bnd (QaX (fun s=>Qdn x0 s.1 s.2) ([],0)) (fun l1=>some ((Qab.mk (Qag.mk x0.net.places l1) x0.types x0.orders x0.apart x0.before),0)))
noncomputable def QgN (x0:Qab):Option Bool:=bnd (Qhh x0) fun r=>br r (bnd (QhM x0) fun r1=>bnd (Qea x0) fun r2=>bnd (Qd9 r1.1 r2.1) fun r3=>br (r3&&(eqI r1.2 r2.2)) (bnd (Qee) fun r4=>some r4) (some false)) (bnd (Qee) fun r5=>some r5)
noncomputable def QeC (x0:Qab):Option (Qab×Int):=bnd (QdQ x0) fun r=>br (neI r.2 0) (some ((Qab.mk (Qag.mk [] []) [] [] [] []),r.2)) (bnd (Qea r.1) fun r1=>some (r1.1,r1.2))
noncomputable def Qer (x0:Qab) (n:Int) (i:Int):Option ((Int×Int)⊕(Int)):=br (ltI i (lenI x0.orders)) (bnd (getI x0.orders i) fun x1=>some (.inl ((addK .i64 n (subK .i64 (addK .i64 (subK .i64 x1.pick.close x1.pick.open_) x1.drop.close) x1.drop.open_)),(addK .i64 i 1)))) (some (.inr n))
noncomputable def Qe5 (x0:Qab):Option Int:=bnd (QaX (fun s=>Qer x0 s.1 s.2) (0,0)) (fun n1=>some n1)
noncomputable def Qia (x0:Qab):Option (Int×Int×Int):=bnd (QeC x0) fun r=>br (neI r.2 0) (some (0,0,r.2)) (bnd (Qe5 x0) fun r1=>bnd (Qe5 r.1) fun r2=>some ((subK .i64 r1 r2),(subK .i64 (lenI x0.net.arcs) (lenI r.1.net.arcs)),0))
noncomputable def Qgo (x0:Qab):Option Bool:=bnd (Qhh x0) fun r=>br r (bnd (QkY x0) fun r1=>bnd (Qia x0) fun r2=>bnd (Qgw x0) fun r3=>bnd (QeC x0) fun r4=>br (((eqI r1.1 r2.1)&&(eqI r1.2.1 r2.2.1))&&(eqI r1.2.2 r2.2.2)) (bnd (Qd9 r3.1 r4.1) fun r5=>br (r5&&(eqI r3.2 r4.2)) (bnd (Qee) fun r6=>some r6) (some false)) (some false)) (bnd (Qee) fun r7=>some r7)
end Go.Proofs.YtbilkblifgaflaaGreatDoor
namespace Go.Proofs.YtbilkblifgaflaaGreatDoor
set_option linter.unusedVariables false
set_option linter.unusedSectionVars false
set_option linter.unusedSimpArgs false
open Go.RowKit
variable {N : Nat}
theorem oq_9:QpD Tryz.prog N 9 (rdE 1 QeA (fun s:ByteArray=>s.size≤N) (fun _=>rfl)):=QHS Tryz.underlying9 (by kernel_rfl)
theorem QIs:QpD Tryz.prog N 22 (rdE 1 (fun l:List ByteArray=>[.sl false 1 (l.map QeA)]) (fun l:List (ByteArray)=>l.length≤N∧∀ x∈l,(fun s:ByteArray=>s.size≤N) x) (fun _=>rfl)):=Qt1 Tryz.underlying22 (by kernel_rfl) oq_9 (by decide)
theorem oq_3:QpD Tryz.prog N 3 (rdE 1 Qaw isI (fun _=>rfl)):=QHR Tryz.underlying3 (by kernel_rfl)
def Qal.ok (N:Nat) (x:Qal):Prop:=isI x.t∧isI x.a∧True
theorem QIA:QpD Tryz.prog N 86 (rdE 2 Qal.enc (Qal.ok N) (fun _=>rfl)):=QqL Tryz.underlying86 (by kernel_rfl) (.cons rfl oq_3 (.cons rfl oq_3 .nil)) rfl (HE.pair HE.rd (HE.pair HE.rd HE.unit)) (fun a=>⟨a.1,a.2.1⟩) (fun _=>rfl) (fun _ h=>h)
theorem QIj:QpD Tryz.prog N 57 (rdE 1 (fun l:List Qal=>[.sl false 2 (l.map Qal.enc)]) (fun l:List (Qal)=>l.length≤N∧∀ x∈l,(Qal.ok N) x) (fun _=>rfl)):=Qt1 Tryz.underlying57 (by kernel_rfl) QIA (by decide)
def Qai.ok (N:Nat) (x:Qai):Prop:=isI x.from_∧isI x.to_∧isI x.profile∧isI x.miles∧(fun l:List (Qal)=>l.length≤N∧∀ x∈l,(Qal.ok N) x) x.travel∧(fun l:List (Qal)=>l.length≤N∧∀ x∈l,(Qal.ok N) x) x.slow∧True
theorem QIy:QpD Tryz.prog N 59 (rdE 6 Qai.enc (Qai.ok N) (fun _=>rfl)):=QqL Tryz.underlying59 (by kernel_rfl) (.cons rfl oq_3 (.cons rfl oq_3 (.cons rfl oq_3 (.cons rfl oq_3 (.cons rfl QIj (.cons rfl QIj .nil)))))) rfl (HE.pair HE.rd (HE.pair HE.rd (HE.pair HE.rd (HE.pair HE.rd (HE.pair HE.rd (HE.pair HE.rd HE.unit)))))) (fun a=>⟨a.1,a.2.1,a.2.2.1,a.2.2.2.1,a.2.2.2.2.1,a.2.2.2.2.2.1⟩) (fun _=>rfl) (fun _ h=>h)
theorem QIt:QpD Tryz.prog N 23 (rdE 1 (fun l:List Qai=>[.sl false 6 (l.map Qai.enc)]) (fun l:List (Qai)=>l.length≤N∧∀ x∈l,(Qai.ok N) x) (fun _=>rfl)):=Qt1 Tryz.underlying23 (by kernel_rfl) QIy (by decide)
def Qag.ok (N:Nat) (x:Qag):Prop:=(fun l:List (ByteArray)=>l.length≤N∧∀ x∈l,(fun s:ByteArray=>s.size≤N) x) x.places∧(fun l:List (Qai)=>l.length≤N∧∀ x∈l,(Qai.ok N) x) x.arcs∧True
theorem QIu:QpD Tryz.prog N 25 (rdE 2 Qag.enc (Qag.ok N) (fun _=>rfl)):=QqL Tryz.underlying25 (by kernel_rfl) (.cons rfl QIs (.cons rfl QIt .nil)) rfl (HE.pair HE.rd (HE.pair HE.rd HE.unit)) (fun a=>⟨a.1,a.2.1⟩) (fun _=>rfl) (fun _ h=>h)
theorem QIh:QpD Tryz.prog N 52 (rdE 1 (fun l:List Int=>[.sl false 1 (l.map Qaw)]) (fun l:List (Int)=>l.length≤N∧∀ x∈l,isI x) (fun _=>rfl)):=Qt1 Tryz.underlying52 (by kernel_rfl) oq_3 (by decide)
def Qaf.ok (N:Nat) (x:Qaf):Prop:=(fun s:ByteArray=>s.size≤N) x.name∧isI x.count∧isI x.from_∧isI x.to_∧(fun l:List (Int)=>l.length≤N∧∀ x∈l,isI x) x.cap∧isI x.skills∧isI x.profile∧isI x.open_∧isI x.close∧isI x.drive∧isI x.rest_∧isI x.fixed∧isI x.perMile∧isI x.perTick∧True
theorem QIz:QpD Tryz.prog N 70 (rdE 14 Qaf.enc (Qaf.ok N) (fun _=>rfl)):=QqL Tryz.underlying70 (by kernel_rfl) (.cons rfl oq_9 (.cons rfl oq_3 (.cons rfl oq_3 (.cons rfl oq_3 (.cons rfl QIh (.cons rfl oq_3 (.cons rfl oq_3 (.cons rfl oq_3 (.cons rfl oq_3 (.cons rfl oq_3 (.cons rfl oq_3 (.cons rfl oq_3 (.cons rfl oq_3 (.cons rfl oq_3 .nil)))))))))))))) rfl (HE.pair HE.rd (HE.pair HE.rd (HE.pair HE.rd (HE.pair HE.rd (HE.pair HE.rd (HE.pair HE.rd (HE.pair HE.rd (HE.pair HE.rd (HE.pair HE.rd (HE.pair HE.rd (HE.pair HE.rd (HE.pair HE.rd (HE.pair HE.rd (HE.pair HE.rd HE.unit)))))))))))))) (fun a=>⟨a.1,a.2.1,a.2.2.1,a.2.2.2.1,a.2.2.2.2.1,a.2.2.2.2.2.1,a.2.2.2.2.2.2.1,a.2.2.2.2.2.2.2.1,a.2.2.2.2.2.2.2.2.1,a.2.2.2.2.2.2.2.2.2.1,a.2.2.2.2.2.2.2.2.2.2.1,a.2.2.2.2.2.2.2.2.2.2.2.1,a.2.2.2.2.2.2.2.2.2.2.2.2.1,a.2.2.2.2.2.2.2.2.2.2.2.2.2.1⟩) (fun _=>rfl) (fun _ h=>h)
theorem QIv:QpD Tryz.prog N 26 (rdE 1 (fun l:List Qaf=>[.sl false 14 (l.map Qaf.enc)]) (fun l:List (Qaf)=>l.length≤N∧∀ x∈l,(Qaf.ok N) x) (fun _=>rfl)):=Qt1 Tryz.underlying26 (by kernel_rfl) QIz (by decide)
def Qap.ok (N:Nat) (x:Qap):Prop:=isI x.place∧isI x.open_∧isI x.close∧isI x.service∧True
theorem QIi:QpD Tryz.prog N 54 (rdE 4 Qap.enc (Qap.ok N) (fun _=>rfl)):=QqL Tryz.underlying54 (by kernel_rfl) (.cons rfl oq_3 (.cons rfl oq_3 (.cons rfl oq_3 (.cons rfl oq_3 .nil)))) rfl (HE.pair HE.rd (HE.pair HE.rd (HE.pair HE.rd (HE.pair HE.rd HE.unit)))) (fun a=>⟨a.1,a.2.1,a.2.2.1,a.2.2.2.1⟩) (fun _=>rfl) (fun _ h=>h)
theorem oq_4:QpD Tryz.prog N 4 (rdE 1 Qff (fun _:Bool=>True) (fun _=>rfl)):=QGX Tryz.underlying4 (by kernel_rfl)
def Qac.ok (N:Nat) (x:Qac):Prop:=(fun s:ByteArray=>s.size≤N) x.name∧(fun l:List (Int)=>l.length≤N∧∀ x∈l,isI x) x.load∧(Qap.ok N) x.pick∧(Qap.ok N) x.drop∧isI x.skills∧isI x.penalty∧isI x.split∧isI x.last_∧isI x.now∧(fun _:Bool=>True) x.off∧True
theorem QIx:QpD Tryz.prog N 56 (rdE 16 Qac.enc (Qac.ok N) (fun _=>rfl)):=QqL Tryz.underlying56 (by kernel_rfl) (.cons rfl oq_9 (.cons rfl QIh (.cons rfl QIi (.cons rfl QIi (.cons rfl oq_3 (.cons rfl oq_3 (.cons rfl oq_3 (.cons rfl oq_3 (.cons rfl oq_3 (.cons rfl oq_4 .nil)))))))))) rfl (HE.pair HE.rd (HE.pair HE.rd (HE.pair HE.rd (HE.pair HE.rd (HE.pair HE.rd (HE.pair HE.rd (HE.pair HE.rd (HE.pair HE.rd (HE.pair HE.rd (HE.pair HE.rd HE.unit)))))))))) (fun a=>⟨a.1,a.2.1,a.2.2.1,a.2.2.2.1,a.2.2.2.2.1,a.2.2.2.2.2.1,a.2.2.2.2.2.2.1,a.2.2.2.2.2.2.2.1,a.2.2.2.2.2.2.2.2.1,a.2.2.2.2.2.2.2.2.2.1⟩) (fun _=>rfl) (fun _ h=>h)
theorem QIw:QpD Tryz.prog N 27 (rdE 1 (fun l:List Qac=>[.sl false 16 (l.map Qac.enc)]) (fun l:List (Qac)=>l.length≤N∧∀ x∈l,(Qac.ok N) x) (fun _=>rfl)):=Qt1 Tryz.underlying27 (by kernel_rfl) QIx (by decide)
def Qav.ok (N:Nat) (x:Qav):Prop:=isI x.x0∧isI x.x1
theorem QHT:QpD Tryz.prog N 100 (rdE 2 Qav.enc (Qav.ok N) (fun _=>rfl)):=QEa Tryz.underlying100 (by kernel_rfl) oq_3 rfl (fun a b=>⟨a,b⟩) (fun _ _=>rfl) (fun _ _ h h2=>⟨h,h2⟩)
theorem QIg:QpD Tryz.prog N 28 (rdE 1 (fun l:List Qav=>[.sl false 2 (l.map Qav.enc)]) (fun l:List (Qav)=>l.length≤N∧∀ x∈l,(Qav.ok N) x) (fun _=>rfl)):=Qt1 Tryz.underlying28 (by kernel_rfl) QHT (by decide)
def Qab.ok (N:Nat) (x:Qab):Prop:=(Qag.ok N) x.net∧(fun l:List (Qaf)=>l.length≤N∧∀ x∈l,(Qaf.ok N) x) x.types∧(fun l:List (Qac)=>l.length≤N∧∀ x∈l,(Qac.ok N) x) x.orders∧(fun l:List (Qav)=>l.length≤N∧∀ x∈l,(Qav.ok N) x) x.apart∧(fun l:List (Qav)=>l.length≤N∧∀ x∈l,(Qav.ok N) x) x.before∧True
theorem QHU:QpD Tryz.prog N 30 (rdE 6 Qab.enc (Qab.ok N) (fun _=>rfl)):=QqL Tryz.underlying30 (by kernel_rfl) (.cons rfl QIu (.cons rfl QIv (.cons rfl QIw (.cons rfl QIg (.cons rfl QIg .nil))))) rfl (HE.pair HE.rd (HE.pair HE.rd (HE.pair HE.rd (HE.pair HE.rd (HE.pair HE.rd HE.unit))))) (fun a=>⟨a.1,a.2.1,a.2.2.1,a.2.2.2.1,a.2.2.2.2.1⟩) (fun _=>rfl) (fun _ h=>h)
end Go.Proofs.YtbilkblifgaflaaGreatDoor
