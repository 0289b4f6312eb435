/- Part MT of the proof: texts Xt Xd Xo. -/
import Derived.Test.YtoedkepcaigkeaaGreatDoorMA
import Derived.Test.YtoedkepcaigkeaaGreatDoorMC
namespace Go.Proofs.YtoedkepcaigkeaaGreatDoor
set_option linter.unusedVariables false
set_option linter.unusedSectionVars false
set_option linter.unusedSimpArgs false
def e_i64 (n:Int):List Lf:=[.int .i64 n]
def e_u8 (n:Int):List Lf:=[.int .u8 n]
def e_fn (n:Nat):List Lf:=[.fn (.func n) []]
def QaY (b:Bool):List Lf:=[.bool b]
def e_str (s:ByteArray):List Lf:=[.str s]
structure Qab where
  err:Int
  at_:ByteArray
instance:DecidableEq Qab:=fun a b=>decidable_of_iff (a.err=b.err∧a.at_=b.at_) (by cases a; cases b; simp)
structure Qao where
  t:Int
  a:Int
instance:DecidableEq Qao:=fun a b=>decidable_of_iff (a.t=b.t∧a.a=b.a) (by cases a; cases b; simp)
structure Qas where
  from_:Int
  to_:Int
  profile:Int
  miles:Int
  travel:List Qao
  slow:List Qao
instance:DecidableEq Qas:=fun a b=>decidable_of_iff (a.from_=b.from_∧a.to_=b.to_∧a.profile=b.profile∧a.miles=b.miles∧a.travel=b.travel∧a.slow=b.slow) (by cases a; cases b; simp)
structure Qam where
  places:List ByteArray
  arcs:List Qas
instance:DecidableEq Qam:=fun a b=>decidable_of_iff (a.places=b.places∧a.arcs=b.arcs) (by cases a; cases b; simp)
structure Qak where
  name:ByteArray
  count:Int
  from_:Int
  to_:Int
  cap:List Int
  skills:Int
  profile:Int
  open_:Int
  close:Int
  drive:Int
  rest_:Int
  fixed:Int
  perMile:Int
  perTick:Int
instance:DecidableEq Qak:=fun a b=>decidable_of_iff (a.name=b.name∧a.count=b.count∧a.from_=b.from_∧a.to_=b.to_∧a.cap=b.cap∧a.skills=b.skills∧a.profile=b.profile∧a.open_=b.open_∧a.close=b.close∧a.drive=b.drive∧a.rest_=b.rest_∧a.fixed=b.fixed∧a.perMile=b.perMile∧a.perTick=b.perTick) (by cases a; cases b; simp)
structure Qau where
  place:Int
  open_:Int
  close:Int
  service:Int
instance:DecidableEq Qau:=fun a b=>decidable_of_iff (a.place=b.place∧a.open_=b.open_∧a.close=b.close∧a.service=b.service) (by cases a; cases b; simp)
structure Qah where
  name:ByteArray
  load:List Int
  pick:Qau
  drop:Qau
  skills:Int
  penalty:Int
  split:Int
  last_:Int
  now:Int
  off:Bool
instance:DecidableEq Qah:=fun a b=>decidable_of_iff (a.name=b.name∧a.load=b.load∧a.pick=b.pick∧a.drop=b.drop∧a.skills=b.skills∧a.penalty=b.penalty∧a.split=b.split∧a.last_=b.last_∧a.now=b.now∧a.off=b.off) (by cases a; cases b; simp)
structure QaC where
  x0:Int
  x1:Int
instance:DecidableEq QaC:=fun a b=>decidable_of_iff (a.x0=b.x0∧a.x1=b.x1) (by cases a; cases b; simp)
structure Qac where
  net:Qam
  types:List Qak
  orders:List Qah
  apart:List QaC
  before:List QaC
instance:DecidableEq Qac:=fun a b=>decidable_of_iff (a.net=b.net∧a.types=b.types∧a.orders=b.orders∧a.apart=b.apart∧a.before=b.before) (by cases a; cases b; simp)
structure Qaa where
  order:Int
  drop:Bool
instance:DecidableEq Qaa:=fun a b=>decidable_of_iff (a.order=b.order∧a.drop=b.drop) (by cases a; cases b; simp)
structure Qag where
  type_:Int
  start:Int
  rests:List Bool
  visits:List Qaa
instance:DecidableEq Qag:=fun a b=>decidable_of_iff (a.type_=b.type_∧a.start=b.start∧a.rests=b.rests∧a.visits=b.visits) (by cases a; cases b; simp)
structure Qay where
  x:Qac
  t:Qak
  r:Qag
  stops:List Qau
instance:DecidableEq Qay:=fun a b=>decidable_of_iff (a.x=b.x∧a.t=b.t∧a.r=b.r∧a.stops=b.stops) (by cases a; cases b; simp)
structure Qar where
  arrive:Int
  begin:Int
  depart:Int
  rest_:Bool
instance:DecidableEq Qar:=fun a b=>decidable_of_iff (a.arrive=b.arrive∧a.begin=b.begin∧a.depart=b.depart∧a.rest_=b.rest_) (by cases a; cases b; simp)
structure Qap where
  rest_:Bool
  depart:Int
  times:List Qar
  end_:Int
  miles:Int
instance:DecidableEq Qap:=fun a b=>decidable_of_iff (a.rest_=b.rest_∧a.depart=b.depart∧a.times=b.times∧a.end_=b.end_∧a.miles=b.miles) (by cases a; cases b; simp)
structure Qaf where
  ready:Int
  since:Int
  sheet:Qap
instance:DecidableEq Qaf:=fun a b=>decidable_of_iff (a.ready=b.ready∧a.since=b.since∧a.sheet=b.sheet) (by cases a; cases b; simp)
structure QiV where
  from_:Int
  to_:Int
  profile:Int
instance:DecidableEq QiV:=fun a b=>decidable_of_iff (a.from_=b.from_∧a.to_=b.to_∧a.profile=b.profile) (by cases a; cases b; simp)
structure QzW where
  x0:Int
  x1:Int
  x2:Int
  x3:Int
  x4:Int
  x5:Int
  x6:Int
  x7:Int
  x8:Int
  x9:Int
  x10:Int
  x11:Int
  x12:Int
  x13:Int
  x14:Int
  x15:Int
  x16:Int
  x17:Int
  x18:Int
  x19:Int
  x20:Int
  x21:Int
  x22:Int
  x23:Int
instance:DecidableEq QzW:=fun a b=>decidable_of_iff (a.x0=b.x0∧a.x1=b.x1∧a.x2=b.x2∧a.x3=b.x3∧a.x4=b.x4∧a.x5=b.x5∧a.x6=b.x6∧a.x7=b.x7∧a.x8=b.x8∧a.x9=b.x9∧a.x10=b.x10∧a.x11=b.x11∧a.x12=b.x12∧a.x13=b.x13∧a.x14=b.x14∧a.x15=b.x15∧a.x16=b.x16∧a.x17=b.x17∧a.x18=b.x18∧a.x19=b.x19∧a.x20=b.x20∧a.x21=b.x21∧a.x22=b.x22∧a.x23=b.x23) (by cases a; cases b; simp)
structure QaF where
  cost:Int
  moved:Int
  other:Int
  work:Int
instance:DecidableEq QaF:=fun a b=>decidable_of_iff (a.cost=b.cost∧a.moved=b.moved∧a.other=b.other∧a.work=b.work) (by cases a; cases b; simp)
structure Qzr where
  x0:Int
  x1:Int
  x2:Int
  x3:Int
instance:DecidableEq Qzr:=fun a b=>decidable_of_iff (a.x0=b.x0∧a.x1=b.x1∧a.x2=b.x2∧a.x3=b.x3) (by cases a; cases b; simp)
structure Qae where
  type_:Int
  set_:Int
  price:Int
  route:Qag
instance:DecidableEq Qae:=fun a b=>decidable_of_iff (a.type_=b.type_∧a.set_=b.set_∧a.price=b.price∧a.route=b.route) (by cases a; cases b; simp)
structure Qox where
  x:Qac
  begin:Qag
  set_:Int
  found:Bool
  best:Qae
instance:DecidableEq Qox:=fun a b=>decidable_of_iff (a.x=b.x∧a.begin=b.begin∧a.set_=b.set_∧a.found=b.found∧a.best=b.best) (by cases a; cases b; simp)
structure QsJ where
  routes:List Qag
  unserved:List Int
instance:DecidableEq QsJ:=fun a b=>decidable_of_iff (a.routes=b.routes∧a.unserved=b.unserved) (by cases a; cases b; simp)
structure Qaz where
  place:Int
  time:Int
  driven:Int
  miles:Int
instance:DecidableEq Qaz:=fun a b=>decidable_of_iff (a.place=b.place∧a.time=b.time∧a.driven=b.driven∧a.miles=b.miles) (by cases a; cases b; simp)
structure QaR where
  x:Qac
  set_:Int
  ok:Bool
  route:Qag
  price:Int
instance:DecidableEq QaR:=fun a b=>decidable_of_iff (a.x=b.x∧a.set_=b.set_∧a.ok=b.ok∧a.route=b.route∧a.price=b.price) (by cases a; cases b; simp)
structure Qal where
  ready:Int
  driven:Int
instance:DecidableEq Qal:=fun a b=>decidable_of_iff (a.ready=b.ready∧a.driven=b.driven) (by cases a; cases b; simp)
structure Qaq where
  x:Qac
  kind:Int
  set_:Int
  total:Int
  best:Qae
  found:Bool
instance:DecidableEq Qaq:=fun a b=>decidable_of_iff (a.x=b.x∧a.kind=b.kind∧a.set_=b.set_∧a.total=b.total∧a.best=b.best∧a.found=b.found) (by cases a; cases b; simp)
def Qab.enc (x:Qab):List Lf:=[lI x.err,.str x.at_]
def Qao.enc (x:Qao):List Lf:=[lI x.t,lI x.a]
def Qas.enc (x:Qas):List Lf:=[lI x.from_,lI x.to_,lI x.profile,lI x.miles,lL 2 x.travel Qao.enc,lL 2 x.slow Qao.enc]
def Qam.enc (x:Qam):List Lf:=[lL 1 x.places e_str,lL 6 x.arcs Qas.enc]
def Qak.enc (x:Qak):List Lf:=[.str x.name,lI x.count,lI x.from_,lI x.to_,lL 1 x.cap e_i64,lI x.skills,lI x.profile,lI x.open_,lI x.close,lI x.drive,lI x.rest_,lI x.fixed,lI x.perMile,lI x.perTick]
def Qau.enc (x:Qau):List Lf:=[lI x.place,lI x.open_,lI x.close,lI x.service]
def Qah.enc (x:Qah):List Lf:=[.str x.name,lL 1 x.load e_i64,lI x.pick.place,lI x.pick.open_,lI x.pick.close,lI x.pick.service,lI x.drop.place,lI x.drop.open_,lI x.drop.close,lI x.drop.service,lI x.skills,lI x.penalty,lI x.split,lI x.last_,lI x.now,.bool x.off]
def QaC.enc (x:QaC):List Lf:=[lI x.x0,lI x.x1]
def Qac.enc (x:Qac):List Lf:=[lL 1 x.net.places e_str,lL 6 x.net.arcs Qas.enc,lL 14 x.types Qak.enc,lL 16 x.orders Qah.enc,lL 2 x.apart QaC.enc,lL 2 x.before QaC.enc]
def Qaa.enc (x:Qaa):List Lf:=[lI x.order,.bool x.drop]
def Qag.enc (x:Qag):List Lf:=[lI x.type_,lI x.start,lL 1 x.rests QaY,lL 2 x.visits Qaa.enc]
def Qay.enc (x:Qay):List Lf:=[lL 1 x.x.net.places e_str,lL 6 x.x.net.arcs Qas.enc,lL 14 x.x.types Qak.enc,lL 16 x.x.orders Qah.enc,lL 2 x.x.apart QaC.enc,lL 2 x.x.before QaC.enc,.str x.t.name,lI x.t.count,lI x.t.from_,lI x.t.to_,lL 1 x.t.cap e_i64,lI x.t.skills,lI x.t.profile,lI x.t.open_,lI x.t.close,lI x.t.drive,lI x.t.rest_,lI x.t.fixed,lI x.t.perMile,lI x.t.perTick,lI x.r.type_,lI x.r.start,lL 1 x.r.rests QaY,lL 2 x.r.visits Qaa.enc,lL 4 x.stops Qau.enc]
def Qar.enc (x:Qar):List Lf:=[lI x.arrive,lI x.begin,lI x.depart,.bool x.rest_]
def Qap.enc (x:Qap):List Lf:=[.bool x.rest_,lI x.depart,lL 4 x.times Qar.enc,lI x.end_,lI x.miles]
def Qaf.enc (x:Qaf):List Lf:=[lI x.ready,lI x.since,.bool x.sheet.rest_,lI x.sheet.depart,lL 4 x.sheet.times Qar.enc,lI x.sheet.end_,lI x.sheet.miles]
def QiV.enc (x:QiV):List Lf:=[lI x.from_,lI x.to_,lI x.profile]
def QzW.enc (x:QzW):List Lf:=[.int .u8 x.x0,.int .u8 x.x1,.int .u8 x.x2,.int .u8 x.x3,.int .u8 x.x4,.int .u8 x.x5,.int .u8 x.x6,.int .u8 x.x7,.int .u8 x.x8,.int .u8 x.x9,.int .u8 x.x10,.int .u8 x.x11,.int .u8 x.x12,.int .u8 x.x13,.int .u8 x.x14,.int .u8 x.x15,.int .u8 x.x16,.int .u8 x.x17,.int .u8 x.x18,.int .u8 x.x19,.int .u8 x.x20,.int .u8 x.x21,.int .u8 x.x22,.int .u8 x.x23]
def QaF.enc (x:QaF):List Lf:=[lI x.cost,lI x.moved,lI x.other,lI x.work]
def Qzr.enc (x:Qzr):List Lf:=[lI x.x0,lI x.x1,lI x.x2,lI x.x3]
def Qae.enc (x:Qae):List Lf:=[lI x.type_,lI x.set_,lI x.price,lI x.route.type_,lI x.route.start,lL 1 x.route.rests QaY,lL 2 x.route.visits Qaa.enc]
def Qox.enc (x:Qox):List Lf:=[lL 1 x.x.net.places e_str,lL 6 x.x.net.arcs Qas.enc,lL 14 x.x.types Qak.enc,lL 16 x.x.orders Qah.enc,lL 2 x.x.apart QaC.enc,lL 2 x.x.before QaC.enc,lI x.begin.type_,lI x.begin.start,lL 1 x.begin.rests QaY,lL 2 x.begin.visits Qaa.enc,lI x.set_,.bool x.found,lI x.best.type_,lI x.best.set_,lI x.best.price,lI x.best.route.type_,lI x.best.route.start,lL 1 x.best.route.rests QaY,lL 2 x.best.route.visits Qaa.enc]
def QsJ.enc (x:QsJ):List Lf:=[lL 4 x.routes Qag.enc,lL 1 x.unserved e_i64]
def Qaz.enc (x:Qaz):List Lf:=[lI x.place,lI x.time,lI x.driven,lI x.miles]
def QaR.enc (x:QaR):List Lf:=[lL 1 x.x.net.places e_str,lL 6 x.x.net.arcs Qas.enc,lL 14 x.x.types Qak.enc,lL 16 x.x.orders Qah.enc,lL 2 x.x.apart QaC.enc,lL 2 x.x.before QaC.enc,lI x.set_,.bool x.ok,lI x.route.type_,lI x.route.start,lL 1 x.route.rests QaY,lL 2 x.route.visits Qaa.enc,lI x.price]
def Qal.enc (x:Qal):List Lf:=[lI x.ready,lI x.driven]
def Qaq.enc (x:Qaq):List Lf:=[lL 1 x.x.net.places e_str,lL 6 x.x.net.arcs Qas.enc,lL 14 x.x.types Qak.enc,lL 16 x.x.orders Qah.enc,lL 2 x.x.apart QaC.enc,lL 2 x.x.before QaC.enc,lI x.kind,lI x.set_,lI x.total,lI x.best.type_,lI x.best.set_,lI x.best.price,lI x.best.route.type_,lI x.best.route.start,lL 1 x.best.route.rests QaY,lL 2 x.best.route.visits Qaa.enc,.bool x.found]
def es_T_api_Route.enc (l:List Qag):List Lf:=[.sl false 4 (l.map Qag.enc)]
def Qbi (l:List Int):List Lf:=[.sl false 1 (l.map e_i64)]
def Qde:ByteArray:=⟨#[32]⟩
def QwM:ByteArray:=⟨#[45]⟩
def Qly:ByteArray:=⟨#[112,108,97,99,101,115]⟩
def QdY:ByteArray:=⟨#[112,108,97,99,101,32]⟩
def QaZ:ByteArray:=⟨#[97,114,99,32]⟩
def QrA:ByteArray:=⟨#[97,114,99,115]⟩
def Qvn:ByteArray:=⟨#[97,112,97,114,116]⟩
def Quj:ByteArray:=⟨#[98,101,102,111,114,101]⟩
def Qxx:ByteArray:=⟨#[110,101,116]⟩
def Qyi:ByteArray:=⟨#[116,121,112,101,115]⟩
def Qxy:ByteArray:=⟨#[111,114,100,101,114,115]⟩
def Qyh:ByteArray:=⟨#[114,117,108,101,115]⟩
def Qoj:ByteArray:=⟨#[48,49,50,51,52,53,54,55,56,57,97,98,99,100,101,102,103,104,105,106,107,108,109,110,111,112,113,114,115,116,117,118,119,120,121,122]⟩
def Qoi:ByteArray:=⟨#[48,48,48,49,48,50,48,51,48,52,48,53,48,54,48,55,48,56,48,57,49,48,49,49,49,50,49,51,49,52,49,53,49,54,49,55,49,56,49,57,50,48,50,49,50,50,50,51,50,52,50,53,50,54,50,55,50,56,50,57,51,48,51,49,51,50,51,51,51,52,51,53,51,54,51,55,51,56,51,57,52,48,52,49,52,50,52,51,52,52,52,53,52,54,52,55,52,56,52,57,53,48,53,49,53,50,53,51,53,52,53,53,53,54,53,55,53,56,53,57,54,48,54,49,54,50,54,51,54,52,54,53,54,54,54,55,54,56,54,57,55,48,55,49,55,50,55,51,55,52,55,53,55,54,55,55,55,56,55,57,56,48,56,49,56,50,56,51,56,52,56,53,56,54,56,55,56,56,56,57,57,48,57,49,57,50,57,51,57,52,57,53,57,54,57,55,57,56,57,57]⟩
def Qok:ByteArray:=⟨#[0,1,2,2,3,3,3,3,4,4,4,4,4,4,4,4,5,5,5,5,5,5,5,5,5,5,5,5,5,5,5,5,6,6,6,6,6,6,6,6,6,6,6,6,6,6,6,6,6,6,6,6,6,6,6,6,6,6,6,6,6,6,6,6,7,7,7,7,7,7,7,7,7,7,7,7,7,7,7,7,7,7,7,7,7,7,7,7,7,7,7,7,7,7,7,7,7,7,7,7,7,7,7,7,7,7,7,7,7,7,7,7,7,7,7,7,7,7,7,7,7,7,7,7,7,7,7,7,8,8,8,8,8,8,8,8,8,8,8,8,8,8,8,8,8,8,8,8,8,8,8,8,8,8,8,8,8,8,8,8,8,8,8,8,8,8,8,8,8,8,8,8,8,8,8,8,8,8,8,8,8,8,8,8,8,8,8,8,8,8,8,8,8,8,8,8,8,8,8,8,8,8,8,8,8,8,8,8,8,8,8,8,8,8,8,8,8,8,8,8,8,8,8,8,8,8,8,8,8,8,8,8,8,8,8,8,8,8,8,8,8,8,8,8,8,8,8,8,8,8,8,8,8,8,8,8]⟩
def Qxw:ByteArray:=⟨#[104,117,98]⟩
def Qxv:ByteArray:=⟨#[97,115,104]⟩
def Qze:ByteArray:=⟨#[111,97]⟩
def Qxz:ByteArray:=⟨#[118,97,110]⟩
end Go.Proofs.YtoedkepcaigkeaaGreatDoor
namespace Go.Proofs.YtoedkepcaigkeaaGreatDoor
set_option linter.unusedVariables false
set_option linter.unusedSectionVars false
set_option linter.unusedSimpArgs false
noncomputable def QfT (word:ByteArray) (l:List Qab) (l1:List Qab) (i:Int) (at_:ByteArray):Option ((List Qab×Int)⊕(List Qab)):=bnd (getI l i) fun x1=>chk (okN (l1++[(Qab.mk x1.err at_)]).length 24) (some (.inl ((l1++[(Qab.mk x1.err at_)]),(addK .i64 i 1))))
noncomputable def QeU (word:ByteArray) (l:List Qab) (l1:List Qab) (i:Int):Option ((List Qab×Int)⊕(List Qab)):=br (ltI i (lenI l)) (bnd (getI l i) fun x0=>br (eqS x0.at_ ByteArray.empty) (QfT word l l1 i word) (chk (word.size+Qde.size≤9223372036854775807) (chk ((catS word Qde).size+x0.at_.size≤9223372036854775807) (QfT word l l1 i (catS (catS word Qde) x0.at_))))) (some (.inr l1))
noncomputable def Qgs (word:ByteArray) (l:List Qab):Option (List Qab):=bnd (loopF (fun s=>QeU word l s.1 s.2) ([],0)) (fun l2=>some l2)
noncomputable def QdR (n:Int) (s0:ByteArray) (left:Int) (d:Int):Option ((ByteArray×Int×Bool)⊕(ByteArray)):=chk ((Qsh [(cvK .u8 (addK .i64 48 d))]).size+s0.size≤9223372036854775807) (some (.inl ((catS (Qsh [(cvK .u8 (addK .i64 48 d))]) s0),(quoK .i64 left 10),(neI (quoK .i64 left 10) 0))))
noncomputable def Qge (n:Int) (s0:ByteArray) (left:Int) (again:Bool):Option ((ByteArray×Int×Bool)⊕(ByteArray)):=br again (br (ltI (remK left 10) 0) (QdR n s0 left (subK .i64 0 (remK left 10))) (QdR n s0 left (remK left 10))) (some (.inr s0))
noncomputable def Qcb (n:Int):Option ByteArray:=bnd (loopF (fun s=>Qge n s.1 s.2.1 s.2.2) (ByteArray.empty,n,true)) (fun s1=>br (ltI n 0) (chk (QwM.size+s1.size≤9223372036854775807) (some (catS QwM s1))) (some s1))
noncomputable def Qjo (c:Int):Option Bool:=some ((geI c 48)&&(leI c 57))
noncomputable def QlG (c:Int):Option Bool:=some ((((geI c 97)&&(leI c 122))||((geI c 65)&&(leI c 90)))||(eqI c 95))
noncomputable def Qfi (s0:ByteArray) (b:UInt8) (i:Int):Option ((Int)⊕((Unit)⊕(Bool))):=br (ltI i (sizeS s0)) (bnd (getS s0 i) fun b1=>bnd (QlG (byteI b1)) fun r1=>br r1 (some (.inl (addK .i64 i 1))) (bnd (Qjo (byteI b1)) fun r2=>br r2 (some (.inl (addK .i64 i 1))) (some (.inr (.inr false))))) (some (.inr (.inl ())))
noncomputable def Qf4 (s0:ByteArray):Option Bool:=br ((ltI (sizeS s0) 1)||(gtI (sizeS s0) 16)) (some false) (bnd (getS s0 0) fun b=>bnd (Qjo (byteI b)) fun r=>br r (some false) (bnd (loopF (fun s=>Qfi s0 b s) 0) (fun e=>sel e (fun (_:Unit)=>some true) (fun r3=>some r3))))
noncomputable def QeF (l:List Qao) (i:Int) (x0:Qao) (l3:List Qab):Option ((List Qab×Int)⊕(List Qab)):=br (gtI i 0) (bnd (getI l (subK .i64 i 1)) fun x1=>br (leI x0.t x1.t) (bnd (Qcb i) fun r1=>chk (okN (l3++[(Qab.mk 13 r1)]).length 24) (some (.inl ((l3++[(Qab.mk 13 r1)]),(addK .i64 i 1))))) (br (ltI x0.a x1.a) (bnd (Qcb i) fun r2=>chk (okN (l3++[(Qab.mk 13 r2)]).length 24) (some (.inl ((l3++[(Qab.mk 13 r2)]),(addK .i64 i 1))))) (some (.inl (l3,(addK .i64 i 1)))))) (some (.inl (l3,(addK .i64 i 1))))
noncomputable def QdI (l:List Qao) (l2:List Qab) (i:Int):Option ((List Qab×Int)⊕(List Qab)):=br (ltI i (lenI l)) (bnd (getI l i) fun x0=>br ((((ltI x0.t 0)||(gtI x0.t 4096))||(ltI x0.a x0.t))||(gtI x0.a (addK .i64 x0.t 4096))) (bnd (Qcb i) fun r=>chk (okN (l2++[(Qab.mk 2 r)]).length 24) (QeF l i x0 (l2++[(Qab.mk 2 r)]))) (QeF l i x0 l2)) (some (.inr l2))
noncomputable def QfM (l:List Qao) (l1:List Qab):Option (List Qab):=bnd (loopF (fun s=>QdI l s.1 s.2) (l1,0)) (fun l4=>some l4)
noncomputable def Qfx (l:List Qao):Option (List Qab):=br ((ltI (lenI l) 1)||(gtI (lenI l) 16)) (chk (okN [(Qab.mk 4 ByteArray.empty)].length 24) (QfM l [(Qab.mk 4 ByteArray.empty)])) (QfM l [])
noncomputable def Qhd (t:Int):Option Bool:=some ((geI t 0)&&(leI t 4096))
noncomputable def Qck (n:Qam) (i:Int) (r:ByteArray) (x0:Qas) (l:List Qab) (l1:List Qab) (twice:Bool) (k:Int):Option ((Bool×Int)⊕(Bool)):=br (ltI k i) (bnd (getI n.arcs k) fun x1=>some (.inl ((twice||(((eqI x0.from_ x1.from_)&&(eqI x0.to_ x1.to_))&&(eqI x0.profile x1.profile))),(addK .i64 k 1)))) (some (.inr twice))
noncomputable def Qcl (r:ByteArray) (x0:Qas) (l:List Qab) (r1:List Qab) (l3:List Qab) (k1:Int):Option ((List Qab×Int)⊕(List Qab)):=br (ltI k1 (lenI r1)) (bnd (getI r1 k1) fun x2=>chk (okN (l3++[(Qab.mk x2.err (catS QaZ r))]).length 24) (some (.inl ((l3++[(Qab.mk x2.err (catS QaZ r))]),(addK .i64 k1 1))))) (some (.inr l3))
noncomputable def Qcm (r:ByteArray) (x0:Qas) (l:List Qab) (l6:List Qab) (k2:Int):Option ((List Qab×Int)⊕(List Qab)):=br (ltI k2 (lenI x0.slow)) (bnd (getI x0.slow k2) fun x3=>bnd (Qhd x3.t) fun r2=>br r2 (bnd (Qhd x3.a) fun r3=>br r3 (br (gtI k2 0) (bnd (getI x0.slow (subK .i64 k2 1)) fun x4=>br (leI x3.t x4.t) (chk (okN (l6++[(Qab.mk 2 (catS QaZ r))]).length 24) (some (.inl ((l6++[(Qab.mk 2 (catS QaZ r))]),(addK .i64 k2 1))))) (some (.inl (l6,(addK .i64 k2 1))))) (some (.inl (l6,(addK .i64 k2 1))))) (chk (okN (l6++[(Qab.mk 2 (catS QaZ r))]).length 24) (some (.inl ((l6++[(Qab.mk 2 (catS QaZ r))]),(addK .i64 k2 1)))))) (chk (okN (l6++[(Qab.mk 2 (catS QaZ r))]).length 24) (some (.inl ((l6++[(Qab.mk 2 (catS QaZ r))]),(addK .i64 k2 1)))))) (some (.inr l6))
noncomputable def QbU (r:ByteArray) (x0:Qas) (l:List Qab) (l5:List Qab):Option (List Qab):=bnd (loopF (fun s=>Qcm r x0 l s.1 s.2) (l5,0)) (fun l7=>some l7)
noncomputable def Qcj (r:ByteArray) (x0:Qas) (l:List Qab) (l2:List Qab):Option (List Qab):=bnd (Qfx x0.travel) fun r1=>bnd (loopF (fun s=>Qcl r x0 l r1 s.1 s.2) (l2,0)) (fun l4=>br (gtI (lenI x0.slow) 16) (chk (okN (l4++[(Qab.mk 4 (catS QaZ r))]).length 24) (QbU r x0 l (l4++[(Qab.mk 4 (catS QaZ r))]))) (QbU r x0 l l4))
noncomputable def Qdw (n:Qam) (i:Int) (r:ByteArray) (x0:Qas) (l:List Qab) (l1:List Qab):Option (List Qab):=bnd (loopF (fun s=>Qck n i r x0 l l1 s.1 s.2) (false,0)) (fun twice1=>br twice1 (chk (okN (l1++[(Qab.mk 6 (catS QaZ r))]).length 24) (Qcj r x0 l (l1++[(Qab.mk 6 (catS QaZ r))]))) (Qcj r x0 l l1))
noncomputable def Qdv (n:Qam) (i:Int) (r:ByteArray) (x0:Qas) (l:List Qab):Option (List Qab):=br (((((ltI x0.profile 0)||(gtI x0.profile 7))||(ltI x0.miles 0))||(gtI x0.miles 10000))||(eqI x0.from_ x0.to_)) (chk (okN (l++[(Qab.mk 2 (catS QaZ r))]).length 24) (Qdw n i r x0 l (l++[(Qab.mk 2 (catS QaZ r))]))) (Qdw n i r x0 l l)
noncomputable def QfO (n:Qam) (i:Int):Option (List Qab):=bnd (Qcb i) fun r=>chk (QaZ.size+r.size≤9223372036854775807) (bnd (getI n.arcs i) fun x0=>br ((((ltI x0.from_ 0)||(geI x0.from_ (lenI n.places)))||(ltI x0.to_ 0))||(geI x0.to_ (lenI n.places))) (chk (okN [(Qab.mk 11 (catS QaZ r))].length 24) (Qdv n i r x0 [(Qab.mk 11 (catS QaZ r))])) (Qdv n i r x0 []))
noncomputable def Qbn (n:Qam) (l:List Qab) (l1:List Qab) (i:Int) (r:ByteArray) (twice:Bool) (k:Int):Option ((Bool×Int)⊕(Bool)):=br (ltI k i) (br twice (some (.inl (true,(addK .i64 k 1)))) (bnd (getI n.places k) fun x1=>bnd (getI n.places i) fun x2=>some (.inl ((eqS x1 x2),(addK .i64 k 1))))) (some (.inr twice))
noncomputable def Qbm (n:Qam) (l:List Qab) (l1:List Qab) (i:Int):Option ((List Qab×Int)⊕(List Qab)):=br (ltI i (lenI n.places)) (bnd (Qcb i) fun r=>chk (QdY.size+r.size≤9223372036854775807) (bnd (getI n.places i) fun x0=>bnd (Qf4 x0) fun r1=>br r1 (bnd (loopF (fun s=>Qbn n l l1 i r s.1 s.2) (false,0)) (fun twice1=>br twice1 (chk (okN (l1++[(Qab.mk 6 (catS QdY r))]).length 24) (some (.inl ((l1++[(Qab.mk 6 (catS QdY r))]),(addK .i64 i 1))))) (some (.inl (l1,(addK .i64 i 1)))))) (chk (okN (l1++[(Qab.mk 5 (catS QdY r))]).length 24) (some (.inl ((l1++[(Qab.mk 5 (catS QdY r))]),(addK .i64 i 1))))))) (some (.inr l1))
noncomputable def QcB (n:Qam) (l:List Qab):Option (List Qab):=bnd (loopF (fun s=>Qbm n l s.1 s.2) (l,0)) (fun l2=>some l2)
noncomputable def Qdo (n:Qam):Option (List Qab):=br (gtI (lenI n.places) 24) (chk (okN [(Qab.mk 4 Qly)].length 24) (QcB n [(Qab.mk 4 Qly)])) (QcB n [])
noncomputable def Qdg (n:Qam) (l:List Qab) (l1:List Qab) (i:Int):Option ((List Qab×Int)⊕(List Qab)):=br (ltI i (lenI n.arcs)) (bnd (QfO n i) fun r1=>chk (okN (l1++r1).length 24) (some (.inl ((l1++r1),(addK .i64 i 1))))) (some (.inr l1))
noncomputable def QfN (n:Qam) (l:List Qab):Option (List Qab):=bnd (loopF (fun s=>Qdg n l s.1 s.2) (l,0)) (fun l2=>some l2)
noncomputable def QhI (n:Qam):Option (List Qab):=bnd (Qdo n) fun r=>br (gtI (lenI n.arcs) 1024) (chk (okN (r++[(Qab.mk 4 QrA)]).length 24) (QfN n (r++[(Qab.mk 4 QrA)]))) (QfN n r)
noncomputable def QaX (n:Int) (lo:Int) (hi:Int):Option Bool:=some ((geI n lo)&&(leI n hi))
noncomputable def Qf5 (l:List Qak):Option Int:=br (eqI (lenI l) 0) (some 0) (bnd (getI l 0) fun x0=>some (lenI x0.cap))
noncomputable def QcC (l:List Qak) (at_:Int) (name:ByteArray) (i:Int):Option ((Int)⊕((Unit)⊕(Bool))):=br (ltI i at_) (bnd (getI l i) fun x0=>br (eqS x0.name name) (some (.inr (.inr true))) (some (.inl (addK .i64 i 1)))) (some (.inr (.inl ())))
noncomputable def QhK (l:List Qak) (at_:Int) (name:ByteArray):Option Bool:=bnd (loopF (fun s=>QcC l at_ name s) 0) (fun e=>sel e (fun (_:Unit)=>some false) (fun r=>some r))
noncomputable def QbV (l:List Int) (i:Int):Option ((Int)⊕((Unit)⊕(Bool))):=br (ltI i (lenI l)) (bnd (getI l i) fun x0=>bnd (QaX x0 0 1000) fun r1=>br r1 (some (.inl (addK .i64 i 1))) (some (.inr (.inr false)))) (some (.inr (.inl ())))
noncomputable def QeG (l:List Int) (dims:Int):Option Bool:=bnd (QaX (lenI l) 1 3) fun r=>br ((!r)||(neI (lenI l) dims)) (some false) (bnd (loopF (fun s=>QbV l s) 0) (fun e=>sel e (fun (_:Unit)=>some true) (fun r2=>some r2)))
noncomputable def QeO (x0:Qak) (l8:List Int):Option (List Int):=bnd (QaX x0.profile 0 7) fun r11=>br r11 (bnd (QaX x0.fixed 0 100000) fun r12=>br r12 (bnd (QaX x0.perMile 0 100) fun r13=>br r13 (bnd (QaX x0.perTick 0 100) fun r14=>br r14 (some l8) (chk (okN (l8++[2]).length 8) (some (l8++[2])))) (chk (okN (l8++[2]).length 8) (some (l8++[2])))) (chk (okN (l8++[2]).length 8) (some (l8++[2])))) (chk (okN (l8++[2]).length 8) (some (l8++[2])))
noncomputable def QeN (x0:Qak) (l7:List Int):Option (List Int):=bnd (QaX x0.drive 1 4096) fun r9=>br r9 (bnd (QaX x0.rest_ 0 4096) fun r10=>br r10 (QeO x0 l7) (chk (okN (l7++[16]).length 8) (QeO x0 (l7++[16])))) (chk (okN (l7++[16]).length 8) (bnd (QaX x0.profile 0 7) fun r15=>br r15 (bnd (QaX x0.fixed 0 100000) fun r16=>br r16 (bnd (QaX x0.perMile 0 100) fun r17=>br r17 (bnd (QaX x0.perTick 0 100) fun r18=>br r18 (some (l7++[16])) (chk (okN ((l7++[16])++[2]).length 8) (some ((l7++[16])++[2])))) (chk (okN ((l7++[16])++[2]).length 8) (some ((l7++[16])++[2])))) (chk (okN ((l7++[16])++[2]).length 8) (some ((l7++[16])++[2])))) (chk (okN ((l7++[16])++[2]).length 8) (some ((l7++[16])++[2])))))
noncomputable def QeM (x0:Qak) (l6:List Int):Option (List Int):=bnd (QaX x0.open_ 0 x0.close) fun r8=>br ((!r8)||(gtI x0.close 4096)) (chk (okN (l6++[15]).length 8) (QeN x0 (l6++[15]))) (QeN x0 l6)
noncomputable def QeL (x0:Qak) (l5:List Int):Option (List Int):=bnd (QaX x0.skills 0 1073741823) fun r7=>br r7 (QeM x0 l5) (chk (okN (l5++[18]).length 8) (QeM x0 (l5++[18])))
noncomputable def QeK (l:List Qak) (x0:Qak) (l4:List Int):Option (List Int):=bnd (Qf5 l) fun r5=>bnd (QeG x0.cap r5) fun r6=>br r6 (QeL x0 l4) (chk (okN (l4++[17]).length 8) (QeL x0 (l4++[17])))
noncomputable def QgP (x0:Qak) (l12:List Int):Option (List Int):=bnd (QaX x0.profile 0 7) fun r25=>br r25 (bnd (QaX x0.fixed 0 100000) fun r26=>br r26 (bnd (QaX x0.perMile 0 100) fun r27=>br r27 (bnd (QaX x0.perTick 0 100) fun r28=>br r28 (some l12) (chk (okN (l12++[2]).length 8) (some (l12++[2])))) (chk (okN (l12++[2]).length 8) (some (l12++[2])))) (chk (okN (l12++[2]).length 8) (some (l12++[2])))) (chk (okN (l12++[2]).length 8) (some (l12++[2])))
noncomputable def QgO (x0:Qak) (l11:List Int):Option (List Int):=bnd (QaX x0.drive 1 4096) fun r23=>br r23 (bnd (QaX x0.rest_ 0 4096) fun r24=>br r24 (QgP x0 l11) (chk (okN (l11++[16]).length 8) (QgP x0 (l11++[16])))) (chk (okN (l11++[16]).length 8) (bnd (QaX x0.profile 0 7) fun r29=>br r29 (bnd (QaX x0.fixed 0 100000) fun r30=>br r30 (bnd (QaX x0.perMile 0 100) fun r31=>br r31 (bnd (QaX x0.perTick 0 100) fun r32=>br r32 (some (l11++[16])) (chk (okN ((l11++[16])++[2]).length 8) (some ((l11++[16])++[2])))) (chk (okN ((l11++[16])++[2]).length 8) (some ((l11++[16])++[2])))) (chk (okN ((l11++[16])++[2]).length 8) (some ((l11++[16])++[2])))) (chk (okN ((l11++[16])++[2]).length 8) (some ((l11++[16])++[2])))))
noncomputable def QgN (x0:Qak) (l10:List Int):Option (List Int):=bnd (QaX x0.open_ 0 x0.close) fun r22=>br ((!r22)||(gtI x0.close 4096)) (chk (okN (l10++[15]).length 8) (QgO x0 (l10++[15]))) (QgO x0 l10)
noncomputable def Qhw (x0:Qak) (l9:List Int):Option (List Int):=bnd (QaX x0.skills 0 1073741823) fun r21=>br r21 (QgN x0 l9) (chk (okN (l9++[18]).length 8) (QgN x0 (l9++[18])))
noncomputable def QeJ (n:Qam) (l:List Qak) (x0:Qak) (l3:List Int):Option (List Int):=bnd (QaX x0.from_ 0 (subK .i64 (lenI n.places) 1)) fun r3=>br r3 (bnd (QaX x0.to_ 0 (subK .i64 (lenI n.places) 1)) fun r4=>br r4 (QeK l x0 l3) (chk (okN (l3++[11]).length 8) (QeK l x0 (l3++[11])))) (chk (okN (l3++[11]).length 8) (bnd (Qf5 l) fun r19=>bnd (QeG x0.cap r19) fun r20=>br r20 (Qhw x0 (l3++[11])) (chk (okN ((l3++[11])++[17]).length 8) (Qhw x0 ((l3++[11])++[17])))))
noncomputable def QeI (n:Qam) (l:List Qak) (x0:Qak) (l2:List Int):Option (List Int):=bnd (QaX x0.count 0 10) fun r2=>br r2 (QeJ n l x0 l2) (chk (okN (l2++[22]).length 8) (QeJ n l x0 (l2++[22])))
noncomputable def QeH (n:Qam) (l:List Qak) (at_:Int) (x0:Qak) (l1:List Int):Option (List Int):=bnd (QhK l at_ x0.name) fun r1=>br r1 (chk (okN (l1++[6]).length 8) (QeI n l x0 (l1++[6]))) (QeI n l x0 l1)
noncomputable def QhL (n:Qam) (l:List Qak) (at_:Int):Option (List Int):=bnd (getI l at_) fun x0=>bnd (Qf4 x0.name) fun r=>br r (QeH n l at_ x0 []) (chk (okN [5].length 8) (QeH n l at_ x0 [5]))
noncomputable def Qhv (n:Qam) (l:List Qak) (i:Int) (r1:List Int) (l3:List Qab) (k:Int):Option ((List Qab×Int)⊕(List Qab)):=br (ltI k (lenI r1)) (bnd (getI r1 k) fun x0=>bnd (Qcb i) fun r2=>chk (okN (l3++[(Qab.mk x0 r2)]).length 24) (some (.inl ((l3++[(Qab.mk x0 r2)]),(addK .i64 k 1))))) (some (.inr l3))
noncomputable def Qdh (n:Qam) (l:List Qak) (l2:List Qab) (i:Int):Option ((List Qab×Int)⊕(List Qab)):=br (ltI i (lenI l)) (bnd (QhL n l i) fun r1=>bnd (loopF (fun s=>Qhv n l i r1 s.1 s.2) (l2,0)) (fun l4=>some (.inl (l4,(addK .i64 i 1))))) (some (.inr l2))
noncomputable def QfP (n:Qam) (l:List Qak) (l1:List Qab):Option (List Qab):=bnd (loopF (fun s=>Qdh n l s.1 s.2) (l1,0)) (fun l5=>some l5)
noncomputable def QhJ (n:Qam) (l:List Qak):Option (List Qab):=bnd (QaX (lenI l) 1 6) fun r=>br r (QfP n l []) (chk (okN [(Qab.mk 4 ByteArray.empty)].length 24) (QfP n l [(Qab.mk 4 ByteArray.empty)]))
noncomputable def Qcz (a:List Int) (i:Int):Option ((Int)⊕((Unit)⊕(Bool))):=br (ltI i (lenI a)) (bnd (getI a i) fun x0=>br (ltI x0 0) (some (.inr (.inr false))) (br (gtI x0 1000) (some (.inr (.inr false))) (some (.inl (addK .i64 i 1))))) (some (.inr (.inl ())))
noncomputable def Qfw (a:List Int) (dims:Int):Option Bool:=br (neI (lenI a) dims) (some false) (bnd (loopF (fun s=>Qcz a s) 0) (fun e=>sel e (fun (_:Unit)=>some true) (fun r=>some r)))
noncomputable def QbW (n:Int) (low:Int) (high:Int):Option Bool:=some ((geI n low)&&(leI n high))
noncomputable def Qex (s0:Qau):Option Int:=br ((((eqI s0.place (-1))&&(eqI s0.open_ 0))&&(eqI s0.close 0))&&(eqI s0.service 0)) (some 0) (br ((((((ltI s0.place 0)||(ltI s0.open_ 0))||(gtI s0.open_ s0.close))||(gtI s0.close 4096))||(ltI s0.service 0))||(gtI s0.service 4096)) (some 2) (some 0))
noncomputable def QcD (places:Int) (dims:Int) (types:Int) (l:List Qah) (at_:Int) (x0:Qah) (l1:List Int) (i:Int):Option ((Int)⊕(List Int)):=br (ltI i at_) (bnd (getI l i) fun x1=>br (eqS x1.name x0.name) (chk (okN (l1++[6]).length 8) (some (.inr (l1++[6])))) (some (.inl (addK .i64 i 1)))) (some (.inr l1))
noncomputable def QeS (types:Int) (x0:Qah) (l6:List Int):Option (List Int):=bnd (QbW x0.penalty (-1) 1000000) fun r6=>br r6 (bnd (QbW x0.split 1 4) fun r7=>br ((((((!r7)||((gtI x0.split 1)&&((neI x0.pick.place (-1))&&(neI x0.drop.place (-1)))))||(ltI x0.last_ (-1)))||(geI x0.last_ types))||(ltI x0.now (-1)))||(geI x0.now types)) (chk (okN (l6++[2]).length 8) (some (l6++[2]))) (some l6)) (chk (okN (l6++[2]).length 8) (some (l6++[2])))
noncomputable def Qhy (types:Int) (x0:Qah) (l8:List Int):Option (List Int):=bnd (QbW x0.penalty (-1) 1000000) fun r10=>br r10 (bnd (QbW x0.split 1 4) fun r11=>br ((((((!r11)||((gtI x0.split 1)&&((neI x0.pick.place (-1))&&(neI x0.drop.place (-1)))))||(ltI x0.last_ (-1)))||(geI x0.last_ types))||(ltI x0.now (-1)))||(geI x0.now types)) (chk (okN (l8++[2]).length 8) (some (l8++[2]))) (some l8)) (chk (okN (l8++[2]).length 8) (some (l8++[2])))
noncomputable def QeT (types:Int) (x0:Qah) (l7:List Int):Option (List Int):=bnd (QbW x0.skills 0 1073741823) fun r9=>br r9 (Qhy types x0 l7) (chk (okN (l7++[18]).length 8) (Qhy types x0 (l7++[18])))
noncomputable def QeR (types:Int) (x0:Qah) (l5:List Int):Option (List Int):=bnd (Qex x0.pick) fun r4=>br (neI r4 0) (chk (okN (l5++[14]).length 8) (bnd (QbW x0.skills 0 1073741823) fun r5=>br r5 (QeS types x0 (l5++[14])) (chk (okN ((l5++[14])++[18]).length 8) (QeS types x0 ((l5++[14])++[18]))))) (bnd (Qex x0.drop) fun r8=>br (neI r8 0) (chk (okN (l5++[14]).length 8) (QeT types x0 (l5++[14]))) (QeT types x0 l5))
noncomputable def QeQ (types:Int) (x0:Qah) (l4:List Int):Option (List Int):=br ((eqI x0.pick.place (-1))&&(eqI x0.drop.place (-1))) (chk (okN (l4++[19]).length 8) (QeR types x0 (l4++[19]))) (QeR types x0 l4)
noncomputable def QhA (types:Int) (x0:Qah) (l10:List Int):Option (List Int):=bnd (QbW x0.penalty (-1) 1000000) fun r14=>br r14 (bnd (QbW x0.split 1 4) fun r15=>br ((((((!r15)||((gtI x0.split 1)&&((neI x0.pick.place (-1))&&(neI x0.drop.place (-1)))))||(ltI x0.last_ (-1)))||(geI x0.last_ types))||(ltI x0.now (-1)))||(geI x0.now types)) (chk (okN (l10++[2]).length 8) (some (l10++[2]))) (some l10)) (chk (okN (l10++[2]).length 8) (some (l10++[2])))
noncomputable def QgS (types:Int) (x0:Qah) (l12:List Int):Option (List Int):=bnd (QbW x0.penalty (-1) 1000000) fun r18=>br r18 (bnd (QbW x0.split 1 4) fun r19=>br ((((((!r19)||((gtI x0.split 1)&&((neI x0.pick.place (-1))&&(neI x0.drop.place (-1)))))||(ltI x0.last_ (-1)))||(geI x0.last_ types))||(ltI x0.now (-1)))||(geI x0.now types)) (chk (okN (l12++[2]).length 8) (some (l12++[2]))) (some l12)) (chk (okN (l12++[2]).length 8) (some (l12++[2])))
noncomputable def QgR (types:Int) (x0:Qah) (l11:List Int):Option (List Int):=bnd (QbW x0.skills 0 1073741823) fun r17=>br r17 (QgS types x0 l11) (chk (okN (l11++[18]).length 8) (QgS types x0 (l11++[18])))
noncomputable def Qhz (types:Int) (x0:Qah) (l9:List Int):Option (List Int):=bnd (Qex x0.pick) fun r12=>br (neI r12 0) (chk (okN (l9++[14]).length 8) (bnd (QbW x0.skills 0 1073741823) fun r13=>br r13 (QhA types x0 (l9++[14])) (chk (okN ((l9++[14])++[18]).length 8) (QhA types x0 ((l9++[14])++[18]))))) (bnd (Qex x0.drop) fun r16=>br (neI r16 0) (chk (okN (l9++[14]).length 8) (QgR types x0 (l9++[14]))) (QgR types x0 l9))
noncomputable def Qcd (places:Int) (types:Int) (x0:Qah) (l3:List Int):Option (List Int):=bnd (QbW x0.pick.place (-1) (subK .i64 places 1)) fun r2=>br r2 (bnd (QbW x0.drop.place (-1) (subK .i64 places 1)) fun r3=>br r3 (QeQ types x0 l3) (chk (okN (l3++[11]).length 8) (QeQ types x0 (l3++[11])))) (chk (okN (l3++[11]).length 8) (br ((eqI x0.pick.place (-1))&&(eqI x0.drop.place (-1))) (chk (okN ((l3++[11])++[19]).length 8) (Qhz types x0 ((l3++[11])++[19]))) (Qhz types x0 (l3++[11]))))
noncomputable def QeP (places:Int) (dims:Int) (types:Int) (l:List Qah) (at_:Int) (x0:Qah) (l1:List Int):Option (List Int):=bnd (loopF (fun s=>QcD places dims types l at_ x0 l1 s) 0) (fun l2=>bnd (Qfw x0.load dims) fun r1=>br r1 (Qcd places types x0 l2) (chk (okN (l2++[17]).length 8) (Qcd places types x0 (l2++[17]))))
noncomputable def QhN (places:Int) (dims:Int) (types:Int) (l:List Qah) (at_:Int):Option (List Int):=bnd (getI l at_) fun x0=>bnd (Qf4 x0.name) fun r=>br r (QeP places dims types l at_ x0 []) (chk (okN [5].length 8) (QeP places dims types l at_ x0 [5]))
noncomputable def Qhx (n:Qam) (dims:Int) (types:Int) (l:List Qah) (i:Int) (r:List Int) (l3:List Qab) (k:Int):Option ((List Qab×Int)⊕(List Qab)):=br (ltI k (lenI r)) (bnd (getI r k) fun x0=>bnd (Qcb i) fun r1=>chk (okN (l3++[(Qab.mk x0 r1)]).length 24) (some (.inl ((l3++[(Qab.mk x0 r1)]),(addK .i64 k 1))))) (some (.inr l3))
noncomputable def Qdi (n:Qam) (dims:Int) (types:Int) (l:List Qah) (l2:List Qab) (i:Int):Option ((List Qab×Int)⊕(List Qab)):=br (ltI i (lenI l)) (bnd (QhN (lenI n.places) dims types l i) fun r=>bnd (loopF (fun s=>Qhx n dims types l i r s.1 s.2) (l2,0)) (fun l4=>some (.inl (l4,(addK .i64 i 1))))) (some (.inr l2))
noncomputable def QfR (n:Qam) (dims:Int) (types:Int) (l:List Qah) (l1:List Qab):Option (List Qab):=bnd (loopF (fun s=>Qdi n dims types l s.1 s.2) (l1,0)) (fun l5=>some l5)
noncomputable def QhM (n:Qam) (dims:Int) (types:Int) (l:List Qah):Option (List Qab):=br (gtI (lenI l) 10) (chk (okN [(Qab.mk 4 ByteArray.empty)].length 24) (QfR n dims types l [(Qab.mk 4 ByteArray.empty)])) (QfR n dims types l [])
noncomputable def QdS (n1:Int) (s0:ByteArray):Option ((Int×ByteArray)⊕(Int×ByteArray)):=br (geI n1 10) (chk ((Qsh [(cvK .u8 (addK .i64 48 (remK n1 10)))]).size+s0.size≤9223372036854775807) (some (.inl ((quoK .i64 n1 10),(catS (Qsh [(cvK .u8 (addK .i64 48 (remK n1 10)))]) s0))))) (some (.inr (n1,s0)))
noncomputable def Qfl (n:Int):Option ByteArray:=bnd (loopF (fun s=>QdS s.1 s.2) (n,ByteArray.empty)) (fun e0=>(fun n2 s1=>chk ((Qsh [(cvK .u8 (addK .i64 48 n2))]).size+s1.size≤9223372036854775807) (some (catS (Qsh [(cvK .u8 (addK .i64 48 n2))]) s1))) e0.1 e0.2)
noncomputable def Qec (orders:Int) (l:List QaC) (word:ByteArray) (turned:Bool) (l2:List Qab) (i:Int) (x0:QaC) (r:ByteArray) (twice:Bool) (k:Int):Option ((Bool×Int)⊕(Bool)):=br (ltI k i) (br twice (some (.inl (true,(addK .i64 k 1)))) (bnd (getI l k) fun x1=>br (eqI x1.x0 x0.x0) (br (eqI x1.x1 x0.x1) (some (.inl (true,(addK .i64 k 1)))) (br turned (br (eqI x1.x0 x0.x1) (some (.inl ((eqI x1.x1 x0.x0),(addK .i64 k 1)))) (some (.inl (false,(addK .i64 k 1))))) (some (.inl (false,(addK .i64 k 1)))))) (br turned (br (eqI x1.x0 x0.x1) (some (.inl ((eqI x1.x1 x0.x0),(addK .i64 k 1)))) (some (.inl (false,(addK .i64 k 1))))) (some (.inl (false,(addK .i64 k 1))))))) (some (.inr twice))
noncomputable def QcO (orders:Int) (l:List QaC) (word:ByteArray) (turned:Bool) (l2:List Qab) (i:Int):Option ((List Qab×Int)⊕(List Qab)):=br (ltI i (lenI l)) (bnd (getI l i) fun x0=>chk (word.size+Qde.size≤9223372036854775807) (bnd (Qfl i) fun r=>chk ((catS word Qde).size+r.size≤9223372036854775807) (br (((((ltI x0.x0 0)||(geI x0.x0 orders))||(ltI x0.x1 0))||(geI x0.x1 orders))||(eqI x0.x0 x0.x1)) (chk (okN (l2++[(Qab.mk 2 (catS (catS word Qde) r))]).length 24) (some (.inl ((l2++[(Qab.mk 2 (catS (catS word Qde) r))]),(addK .i64 i 1))))) (bnd (loopF (fun s=>Qec orders l word turned l2 i x0 r s.1 s.2) (false,0)) (fun twice1=>br twice1 (chk (okN (l2++[(Qab.mk 6 (catS (catS word Qde) r))]).length 24) (some (.inl ((l2++[(Qab.mk 6 (catS (catS word Qde) r))]),(addK .i64 i 1))))) (some (.inl (l2,(addK .i64 i 1))))))))) (some (.inr l2))
noncomputable def Qfy (orders:Int) (l:List QaC) (word:ByteArray) (turned:Bool) (l1:List Qab):Option (List Qab):=bnd (loopF (fun s=>QcO orders l word turned s.1 s.2) (l1,0)) (fun l3=>some l3)
noncomputable def Qg5 (orders:Int) (l:List QaC) (word:ByteArray) (turned:Bool):Option (List Qab):=br (gtI (lenI l) 16) (chk (okN [(Qab.mk 4 word)].length 24) (Qfy orders l word turned [(Qab.mk 4 word)])) (Qfy orders l word turned [])
noncomputable def Qe6 (orders:Int) (l:List QaC) (word:ByteArray) (turned:Bool) (l2:List Qab) (i:Int) (x0:QaC) (r:ByteArray) (twice:Bool) (k:Int):Option ((Bool×Int)⊕(Bool)):=br (ltI k i) (br twice (some (.inl (true,(addK .i64 k 1)))) (bnd (getI l k) fun x1=>br (eqI x1.x0 x0.x0) (br (eqI x1.x1 x0.x1) (some (.inl (true,(addK .i64 k 1)))) (br turned (br (eqI x1.x0 x0.x1) (some (.inl ((eqI x1.x1 x0.x0),(addK .i64 k 1)))) (some (.inl (false,(addK .i64 k 1))))) (some (.inl (false,(addK .i64 k 1)))))) (br turned (br (eqI x1.x0 x0.x1) (some (.inl ((eqI x1.x1 x0.x0),(addK .i64 k 1)))) (some (.inl (false,(addK .i64 k 1))))) (some (.inl (false,(addK .i64 k 1))))))) (some (.inr twice))
noncomputable def Qe5 (orders:Int) (l:List QaC) (word:ByteArray) (turned:Bool) (l2:List Qab) (i:Int):Option ((List Qab×Int)⊕(List Qab)):=br (ltI i (lenI l)) (bnd (getI l i) fun x0=>chk (word.size+Qde.size≤9223372036854775807) (bnd (Qfl i) fun r=>chk ((catS word Qde).size+r.size≤9223372036854775807) (br (((((ltI x0.x0 0)||(geI x0.x0 orders))||(ltI x0.x1 0))||(geI x0.x1 orders))||(eqI x0.x0 x0.x1)) (chk (okN (l2++[(Qab.mk 2 (catS (catS word Qde) r))]).length 24) (some (.inl ((l2++[(Qab.mk 2 (catS (catS word Qde) r))]),(addK .i64 i 1))))) (bnd (loopF (fun s=>Qe6 orders l word turned l2 i x0 r s.1 s.2) (false,0)) (fun twice1=>br twice1 (chk (okN (l2++[(Qab.mk 6 (catS (catS word Qde) r))]).length 24) (some (.inl ((l2++[(Qab.mk 6 (catS (catS word Qde) r))]),(addK .i64 i 1))))) (some (.inl (l2,(addK .i64 i 1))))))))) (some (.inr l2))
noncomputable def Qe4 (orders:Int) (l:List QaC) (word:ByteArray) (turned:Bool) (l1:List Qab):Option (List Qab):=bnd (loopF (fun s=>Qe5 orders l word turned s.1 s.2) (l1,0)) (fun l3=>some l3)
noncomputable def Qim (orders:Int) (l:List QaC) (word:ByteArray) (turned:Bool):Option (List Qab):=br (gtI (lenI l) 16) (chk (okN [(Qab.mk 4 word)].length 24) (Qe4 orders l word turned [(Qab.mk 4 word)])) (Qe4 orders l word turned [])
noncomputable def QhO (orders:Int) (apart:List QaC) (before:List QaC):Option (List Qab):=bnd (Qim orders apart Qvn true) fun r=>bnd (Qg5 orders before Quj false) fun r1=>chk (okN (r++r1).length 24) (some (r++r1))
noncomputable def Qfz (word:ByteArray) (l:List Qab) (l1:List Qab) (i:Int) (at_:ByteArray):Option ((List Qab×Int)⊕(List Qab)):=bnd (getI l i) fun x1=>chk (okN (l1++[(Qab.mk x1.err at_)]).length 24) (some (.inl ((l1++[(Qab.mk x1.err at_)]),(addK .i64 i 1))))
noncomputable def QfA (word:ByteArray) (l:List Qab) (l1:List Qab) (i:Int):Option ((List Qab×Int)⊕(List Qab)):=br (ltI i (lenI l)) (bnd (getI l i) fun x0=>br (eqS x0.at_ ByteArray.empty) (Qfz word l l1 i word) (chk (word.size+Qde.size≤9223372036854775807) (chk ((catS word Qde).size+x0.at_.size≤9223372036854775807) (Qfz word l l1 i (catS (catS word Qde) x0.at_))))) (some (.inr l1))
noncomputable def QgT (word:ByteArray) (l:List Qab):Option (List Qab):=bnd (loopF (fun s=>QfA word l s.1 s.2) ([],0)) (fun l2=>some l2)
noncomputable def QhP (x0:Qac):Option (List Qab):=bnd (QhI x0.net) fun r=>bnd (QgT Qxx r) fun r1=>bnd (QhJ x0.net x0.types) fun r2=>bnd (Qgs Qyi r2) fun r3=>chk (okN (r1++r3).length 24) (bnd (Qf5 x0.types) fun r4=>bnd (QhM x0.net r4 (lenI x0.types) x0.orders) fun r5=>bnd (Qgs Qxy r5) fun r6=>chk (okN ((r1++r3)++r6).length 24) (bnd (QhO (lenI x0.orders) x0.apart x0.before) fun r7=>bnd (Qgs Qyh r7) fun r8=>chk (okN (((r1++r3)++r6)++r8).length 24) (some (((r1++r3)++r6)++r8))))
noncomputable def Qfq (r:Qag) (set_:Int) (v:Int):Option ((Int×Int)⊕((Int)⊕(Int×Int))):=br (ltI v (lenI r.visits)) (bnd (getI r.visits v) fun x0=>br ((ltI x0.order 0)||(gtI x0.order 62)) (some (.inr (.inr (0,2)))) (chk ((0:Int)≤x0.order) (some (.inl ((orK .i64 set_ (shlK .i64 1 x0.order)),(addK .i64 v 1)))))) (some (.inr (.inl set_)))
noncomputable def Qhp (r:Qag):Option (Int×Int):=bnd (loopF (fun s=>Qfq r s.1 s.2) (0,0)) (fun e=>sel e (fun set_1=>some (set_1,0)) (fun r1=>some r1))
noncomputable def QaU (s0:List Qaa) (v:Qaa) (v1:Int):Option ((Int)⊕((Unit)⊕(Int))):=br (ltI v1 (lenI s0)) (bnd (getI s0 v1) fun x0=>br (eqI v.order x0.order&&(eqB v.drop x0.drop&&true)) (some (.inr (.inr v1))) (some (.inl (addK .i64 v1 1)))) (some (.inr (.inl ())))
noncomputable def Qbs (s0:List Qaa) (v:Qaa):Option Int:=bnd (loopF (fun s=>QaU s0 v s) 0) (fun e=>sel e (fun (_:Unit)=>some (-1)) (fun r=>some r))
noncomputable def Qes (l:List Qaa) (v:Qaa):Option Int:=bnd (Qbs l v) fun r=>some r
noncomputable def Qdt (l:List Qaa) (v:Int):Option ((Int)⊕((Unit)⊕(Bool))):=br (ltI v (lenI l)) (bnd (getI l v) fun x0=>bnd (slcI l 0 v) fun l1=>bnd (Qes l1 x0) fun r=>br (geI r 0) (some (.inr (.inr true))) (some (.inl (addK .i64 v 1)))) (some (.inr (.inl ())))
noncomputable def QjL (l:List Qaa):Option Bool:=bnd (loopF (fun s=>Qdt l s) 0) (fun e=>sel e (fun (_:Unit)=>some false) (fun r1=>some r1))
noncomputable def QmM (l:List Qah) (at_:Int):Option Bool:=some ((geI at_ 0)&&(ltI at_ (lenI l)))
noncomputable def Qhk (l:List Qah) (at_:Int) (l1:List Qaa):Option (List Qaa):=bnd (getI l at_) fun x1=>br (geI x1.drop.place 0) (chk (okN (l1++[(Qaa.mk at_ true)]).length 16) (some (l1++[(Qaa.mk at_ true)]))) (some l1)
noncomputable def QgV (l:List Qah) (at_:Int):Option (List Qaa):=bnd (QmM l at_) fun r=>br r (bnd (getI l at_) fun x0=>br (geI x0.pick.place 0) (chk (okN [(Qaa.mk at_ false)].length 16) (Qhk l at_ [(Qaa.mk at_ false)])) (Qhk l at_ [])) (some [])
noncomputable def QbD (s0:List Qaa) (v:Qaa):Option Bool:=bnd (Qbs s0 v) fun r=>some (geI r 0)
noncomputable def Qbo (x0:Qac) (l:List Qaa) (v:Int) (r:List Qaa) (last_:Int) (v1:Int):Option ((Int×Int)⊕((Unit)⊕(Bool))):=br (ltI v1 (lenI r)) (bnd (getI r v1) fun x2=>bnd (Qes l x2) fun r2=>br (leI r2 last_) (some (.inr (.inr false))) (some (.inl (r2,(addK .i64 v1 1))))) (some (.inr (.inl ())))
noncomputable def Qda (x0:Qac) (l:List Qaa) (v:Int):Option ((Int)⊕((Unit)⊕(Bool))):=br (ltI v (lenI l)) (bnd (getI l v) fun x1=>bnd (QgV x0.orders x1.order) fun r=>bnd (QbD r x1) fun r1=>br r1 (bnd (loopF (fun s=>Qbo x0 l v r s.1 s.2) ((-1),0)) (fun e=>sel e (fun (_:Unit)=>some (.inl (addK .i64 v 1))) (fun r3=>some (.inr (.inr r3))))) (some (.inr (.inr false)))) (some (.inr (.inl ())))
noncomputable def QiC (x0:Qac) (l:List Qaa):Option Bool:=bnd (loopF (fun s=>Qda x0 l s) 0) (fun e=>sel e (fun (_:Unit)=>some true) (fun r4=>some r4))
noncomputable def QmG (v:Qaa) (c:Int):Option Bool:=some (eqI v.order c)
noncomputable def QaI (s0:List Qaa) (c:Int) (v:Int):Option ((Int)⊕((Unit)⊕(Int))):=br (ltI v (lenI s0)) (bnd (getI s0 v) fun x0=>bnd (QmG x0 c) fun r=>br r (some (.inr (.inr v))) (some (.inl (addK .i64 v 1)))) (some (.inr (.inl ())))
noncomputable def Qbe (s0:List Qaa) (c:Int):Option Int:=bnd (loopF (fun s=>QaI s0 c s) 0) (fun e=>sel e (fun (_:Unit)=>some (-1)) (fun r1=>some r1))
noncomputable def Qbq (s0:List Qaa) (c:Int):Option Bool:=bnd (Qbe s0 c) fun r=>some (geI r 0)
noncomputable def QhZ (l:List Qaa) (o:Int):Option Bool:=bnd (Qbq l o) fun r=>some r
noncomputable def QiL (v:Qaa) (c:Int):Option Bool:=some (eqI v.order c)
noncomputable def QaE (s0:List Qaa) (c:Int) (v:Int):Option ((Int)⊕((Unit)⊕(Int))):=br (ltI v (lenI s0)) (bnd (getI s0 v) fun x0=>bnd (QiL x0 c) fun r=>br r (some (.inr (.inr v))) (some (.inl (addK .i64 v 1)))) (some (.inr (.inl ())))
noncomputable def Qa9 (s0:List Qaa) (c:Int):Option Int:=bnd (loopF (fun s=>QaE s0 c s) 0) (fun e=>sel e (fun (_:Unit)=>some (-1)) (fun r1=>some r1))
noncomputable def QiB (l:List Qaa) (a:Int) (b:Int):Option Bool:=bnd (Qa9 l b) fun r=>br (ltI r 0) (some true) (bnd (QhZ l a) fun r1=>br r1 (bnd (slcI l r (lenI l)) fun l1=>bnd (QhZ l1 a) fun r2=>some (!r2)) (some false))
noncomputable def QjH (v:Qaa) (c:Qac):Option Bool:=some ((ltI v.order 0)||(geI v.order (lenI c.orders)))
noncomputable def QaG (s0:List Qaa) (c:Qac) (v:Int):Option ((Int)⊕((Unit)⊕(Int))):=br (ltI v (lenI s0)) (bnd (getI s0 v) fun x0=>bnd (QjH x0 c) fun r=>br r (some (.inr (.inr v))) (some (.inl (addK .i64 v 1)))) (some (.inr (.inl ())))
noncomputable def Qbb (s0:List Qaa) (c:Qac):Option Int:=bnd (loopF (fun s=>QaG s0 c s) 0) (fun e=>sel e (fun (_:Unit)=>some (-1)) (fun r1=>some r1))
noncomputable def Qa5 (s0:List Qaa) (c:Qac):Option Bool:=bnd (Qbb s0 c) fun r=>some (geI r 0)
noncomputable def QjI (v:Qaa) (c:Qac):Option Bool:=bnd (getI c.orders v.order) fun x0=>some x0.off
noncomputable def QaH (s0:List Qaa) (c:Qac) (v:Int):Option ((Int)⊕((Unit)⊕(Int))):=br (ltI v (lenI s0)) (bnd (getI s0 v) fun x0=>bnd (QjI x0 c) fun r=>br r (some (.inr (.inr v))) (some (.inl (addK .i64 v 1)))) (some (.inr (.inl ())))
noncomputable def Qbc (s0:List Qaa) (c:Qac):Option Int:=bnd (loopF (fun s=>QaH s0 c s) 0) (fun e=>sel e (fun (_:Unit)=>some (-1)) (fun r1=>some r1))
noncomputable def Qa6 (s0:List Qaa) (c:Qac):Option Bool:=bnd (Qbc s0 c) fun r=>some (geI r 0)
noncomputable def Qdr (x0:Qac) (r:Qag) (v:Int):Option ((Int)⊕((Unit)⊕(Int))):=br (ltI v (lenI x0.apart)) (bnd (getI x0.apart v) fun x1=>bnd (QhZ r.visits x1.x0) fun r5=>br r5 (bnd (QhZ r.visits x1.x1) fun r6=>br r6 (some (.inr (.inr 20))) (some (.inl (addK .i64 v 1)))) (some (.inl (addK .i64 v 1)))) (some (.inr (.inl ())))
noncomputable def QcY (x0:Qac) (r:Qag) (v1:Int):Option ((Int)⊕((Unit)⊕(Int))):=br (ltI v1 (lenI x0.before)) (bnd (getI x0.before v1) fun x2=>bnd (QiB r.visits x2.x0 x2.x1) fun r7=>br r7 (some (.inl (addK .i64 v1 1))) (some (.inr (.inr 21)))) (some (.inr (.inl ())))
noncomputable def Qig (x0:Qac) (r:Qag):Option Int:=br (eqI (lenI r.visits) 0) (some 2) (bnd (Qa5 r.visits x0) fun r1=>br r1 (some 2) (bnd (Qa6 r.visits x0) fun r2=>br r2 (some 9) (bnd (QjL r.visits) fun r3=>br r3 (some 6) (bnd (QiC x0 r.visits) fun r4=>br r4 (bnd (loopF (fun s=>Qdr x0 r s) 0) (fun e=>sel e (fun (_:Unit)=>bnd (loopF (fun s=>QcY x0 r s) 0) (fun e=>sel e (fun (_:Unit)=>some 0) (fun r8=>some r8))) (fun r9=>some r9))) (some 19)))))
noncomputable def QmX (t:Qak) (skills:Int):Option Bool:=some (((geI t.skills 0)&&(geI skills 0))&&(eqI (Qt3 .i64 skills t.skills) 0))
noncomputable def Qf0 (x0:Qac) (r:Qag) (v:Int):Option ((Int)⊕((Unit)⊕(Int))):=br (ltI v (lenI r.visits)) (bnd (getI r.visits v) fun x1=>bnd (getI x0.types r.type_) fun x2=>bnd (getI x0.orders x1.order) fun x3=>bnd (QmX x2 x3.skills) fun r1=>br r1 (some (.inl (addK .i64 v 1))) (some (.inr (.inr 18)))) (some (.inr (.inl ())))
noncomputable def Qre (x0:Qac) (r:Qag):Option Int:=bnd (loopF (fun s=>Qf0 x0 r s) 0) (fun e=>sel e (fun (_:Unit)=>some 0) (fun r2=>some r2))
noncomputable def Qko (set_:Int) (i:Int):Option Bool:=br ((geI i 0)&&(leI i 62)) (chk ((0:Int)≤i) (some (eqI (andK .i64 (shrK .i64 set_ i) 1) 1))) (some false)
noncomputable def QdF (set_:Int) (l:List Int) (v:Int):Option ((List Int×Int)⊕(List Int)):=br (ltI v 63) (bnd (Qko set_ v) fun r=>br r (chk (okN (l++[v]).length 8) (some (.inl ((l++[v]),(addK .i64 v 1))))) (some (.inl (l,(addK .i64 v 1))))) (some (.inr l))
noncomputable def QiT (set_:Int):Option (List Int):=bnd (loopF (fun s=>QdF set_ s.1 s.2) ([],0)) (fun l1=>some l1)
noncomputable def QsW (a:Int) (b:Int):Option Int:=some (addK .i64 a b)
noncomputable def Qb6 (a:List Int) (b:List Int) (l:List Int) (l1:List Int) (v:Int):Option ((List Int×Int)⊕(List Int)):=br (ltI v (lenI a)) (bnd (getI a v) fun x0=>bnd (getI b v) fun x1=>bnd (QsW x0 x1) fun r=>bnd (getI l1 v) fun x2=>some (.inl ((setI l1 v r),(addK .i64 v 1)))) (some (.inr l1))
noncomputable def Qh4 (a:List Int) (b:List Int):Option (List Int×Int):=br (neI (lenI a) (lenI b)) (some ([],2)) (bnd (mkI (lenI a) (lenI a) 8 0) fun l=>bnd (loopF (fun s=>Qb6 a b l s.1 s.2) (l,0)) (fun l2=>some (l2,0)))
noncomputable def Qru (a:List Int) (b:List Int):Option (List Int×Int):=bnd (Qh4 a b) fun r=>some (r.1,r.2)
noncomputable def Qen (x0:Qac) (l:List Int) (r:List Int) (sum:List Int) (v:Int):Option ((List Int×Int)⊕(List Int)):=br (ltI v (lenI r)) (bnd (getI r v) fun x1=>bnd (getI x0.orders x1) fun x2=>br (ltI x2.pick.place 0) (bnd (Qru sum x2.load) fun r1=>some (.inl (r1.1,(addK .i64 v 1)))) (some (.inl (sum,(addK .i64 v 1))))) (some (.inr sum))
noncomputable def QoH (x0:Qac) (set_:Int) (dims:Int):Option (List Int):=bnd (mkI dims dims 8 0) fun l=>bnd (QiT set_) fun r=>bnd (loopF (fun s=>Qen x0 l r s.1 s.2) (l,0)) (fun sum1=>some sum1)
noncomputable def QqE (l:List Qak):Option Int:=br (eqI (lenI l) 0) (some 0) (bnd (getI l 0) fun x0=>some (lenI x0.cap))
noncomputable def Qrv (a:Int) (b:Int):Option Int:=some (subK .i64 a b)
noncomputable def QbR (a:List Int) (b:List Int) (l:List Int) (l1:List Int) (v:Int):Option ((List Int×Int)⊕(List Int)):=br (ltI v (lenI a)) (bnd (getI a v) fun x0=>bnd (getI b v) fun x1=>bnd (Qrv x0 x1) fun r=>bnd (getI l1 v) fun x2=>some (.inl ((setI l1 v r),(addK .i64 v 1)))) (some (.inr l1))
noncomputable def Qhr (a:List Int) (b:List Int):Option (List Int×Int):=br (neI (lenI a) (lenI b)) (some ([],2)) (bnd (mkI (lenI a) (lenI a) 8 0) fun l=>bnd (loopF (fun s=>QbR a b l s.1 s.2) (l,0)) (fun l2=>some (l2,0)))
noncomputable def QsV (a:List Int) (b:List Int):Option (List Int×Int):=bnd (Qhr a b) fun r=>some (r.1,r.2)
noncomputable def Qem (x0:Qac) (r:Qag) (l:List (List Int)) (now:List Int) (v:Int):Option ((List (List Int)×List Int×Int)⊕((List (List Int))⊕(List (List Int)×Int))):=br (ltI v (lenI r.visits)) (bnd (getI r.visits v) fun x1=>br x1.drop (bnd (getI x0.orders x1.order) fun x2=>bnd (QsV now x2.load) fun r5=>br (neI r5.2 0) (some (.inr (.inr ([],r5.2)))) (chk (okN (l++[r5.1]).length 24) (some (.inl ((l++[r5.1]),r5.1,(addK .i64 v 1)))))) (bnd (getI x0.orders x1.order) fun x3=>bnd (Qru now x3.load) fun r6=>br (neI r6.2 0) (some (.inr (.inr ([],r6.2)))) (chk (okN (l++[r6.1]).length 24) (some (.inl ((l++[r6.1]),r6.1,(addK .i64 v 1))))))) (some (.inr (.inl l)))
noncomputable def QoG (x0:Qac) (r:Qag):Option (List (List Int)×Int):=bnd (Qig x0 r) fun r1=>br (neI r1 0) (some ([],r1)) (bnd (Qhp r) fun r2=>br (neI r2.2 0) (some ([],r2.2)) (bnd (QqE x0.types) fun r3=>bnd (QoH x0 r2.1 r3) fun r4=>bnd (loopF (fun s=>Qem x0 r s.1 s.2.1 s.2.2) ([r4],r4,0)) (fun e=>sel e (fun l1=>some (l1,0)) (fun r7=>some r7))))
noncomputable def QfL (a:List Int) (capacity:List Int) (v:Int):Option ((Int)⊕((Unit)⊕(Bool))):=br (ltI v (lenI a)) (bnd (getI a v) fun x0=>bnd (getI capacity v) fun x1=>br (gtI x0 x1) (some (.inr (.inr false))) (some (.inl (addK .i64 v 1)))) (some (.inr (.inl ())))
noncomputable def QqH (a:List Int) (capacity:List Int):Option Bool:=br (neI (lenI a) (lenI capacity)) (some false) (bnd (loopF (fun s=>QfL a capacity s) 0) (fun e=>sel e (fun (_:Unit)=>some true) (fun r=>some r)))
noncomputable def Qpx (a:List Int) (c:Qac) (c1:Qag):Option Bool:=bnd (getI c.types c1.type_) fun x0=>bnd (QqH a x0.cap) fun r=>some (!r)
noncomputable def QaO (s0:List (List Int)) (c:Qac) (c1:Qag) (v:Int):Option ((Int)⊕((Unit)⊕(Int))):=br (ltI v (lenI s0)) (bnd (getI s0 v) fun x0=>bnd (Qpx x0 c c1) fun r=>br r (some (.inr (.inr v))) (some (.inl (addK .i64 v 1)))) (some (.inr (.inl ())))
noncomputable def QbE (s0:List (List Int)) (c:Qac) (c1:Qag):Option Int:=bnd (loopF (fun s=>QaO s0 c c1 s) 0) (fun e=>sel e (fun (_:Unit)=>some (-1)) (fun r1=>some r1))
noncomputable def QbO (s0:List (List Int)) (c:Qac) (c1:Qag):Option Bool:=bnd (QbE s0 c c1) fun r=>some (geI r 0)
noncomputable def Qqv (x0:Qac) (r:Qag):Option Int:=br ((ltI r.type_ 0)||(geI r.type_ (lenI x0.types))) (some 2) (bnd (QoG x0 r) fun r1=>br (neI r1.2 0) (some r1.2) (bnd (QbO r1.1 x0 r) fun r2=>br r2 (some 17) (some 0)))
noncomputable def Qlu (x1:Qau):Option (Qau×Int):=br (ltI x1.place 0) (some ((Qau.mk 0 0 0 0),19)) (some (x1,0))
noncomputable def Qpb (l:List Qah) (v:Qaa):Option (Qau×Int):=bnd (QmM l v.order) fun r=>br r (bnd (getI l v.order) fun x0=>br v.drop (Qlu x0.drop) (Qlu x0.pick)) (some ((Qau.mk 0 0 0 0),2))
noncomputable def QiX (x0:Qac) (r:Qag) (x1:Qak) (l:List Qau) (v:Int):Option ((List Qau×Int)⊕((List Qau)⊕(Qay×Bool))):=br (ltI v (lenI r.visits)) (bnd (getI r.visits v) fun x2=>bnd (Qpb x0.orders x2) fun r1=>br ((neI r1.2 0)||(ltI r1.1.place 0)) (some (.inr (.inr ((Qay.mk (Qac.mk (Qam.mk [] []) [] [] [] []) (Qak.mk ByteArray.empty 0 0 0 [] 0 0 0 0 0 0 0 0 0) (Qag.mk 0 0 [] []) []),false)))) (chk (okN (l++[r1.1]).length 32) (some (.inl ((l++[r1.1]),(addK .i64 v 1)))))) (some (.inr (.inl l)))
noncomputable def QoL (x0:Qac) (r:Qag):Option (Qay×Bool):=br (((((ltI r.type_ 0)||(geI r.type_ (lenI x0.types)))||(ltI r.start 0))||(gtI r.start 4096))||(gtI (lenI r.visits) 20)) (some ((Qay.mk (Qac.mk (Qam.mk [] []) [] [] [] []) (Qak.mk ByteArray.empty 0 0 0 [] 0 0 0 0 0 0 0 0 0) (Qag.mk 0 0 [] []) []),false)) (bnd (getI x0.types r.type_) fun x1=>bnd (loopF (fun s=>QiX x0 r x1 s.1 s.2) ([],0)) (fun e=>sel e (fun l1=>some ((Qay.mk x0 x1 r l1),true)) (fun r2=>some r2)))
noncomputable def Qdn (p:Qay):Option Qaf:=some (Qaf.mk (maxI p.t.open_ p.r.start) 0 (Qap.mk false 0 [] 0 0))
noncomputable def Qje (n:Qam) (i:Int):Option Bool:=some ((geI i 0)&&(ltI i (lenI n.places)))
noncomputable def Qob (a:Qas):Option QiV:=some (QiV.mk a.from_ a.to_ a.profile)
noncomputable def Qhj (n:Qam) (profile:Int) (from_:Int) (to_:Int) (v:Int):Option ((Int)⊕((Unit)⊕(Qas×Bool))):=br (ltI v (lenI n.arcs)) (bnd (getI n.arcs v) fun x0=>bnd (Qob x0) fun r=>br (eqI r.from_ from_&&(eqI r.to_ to_&&(eqI r.profile profile&&true))) (some (.inr (.inr (x0,true)))) (some (.inl (addK .i64 v 1)))) (some (.inr (.inl ())))
noncomputable def Qnm (n:Qam) (profile:Int) (from_:Int) (to_:Int):Option (Qas×Bool):=bnd (loopF (fun s=>Qhj n profile from_ to_ s) 0) (fun e=>sel e (fun (_:Unit)=>some ((Qas.mk 0 0 0 0 [] []),false)) (fun r1=>some r1))
noncomputable def QgH (n:Int) (least:Int) (most:Int):Option Bool:=some ((geI n least)&&(leI n most))
noncomputable def Qrl (i:Int):Option ByteArray:=br (ltI i 10) (bnd (slcS Qoj i (addK .i64 i 1)) fun s0=>some (Qoj.extract (i:Int).toNat ((addK .i64 i 1):Int).toNat)) (bnd (slcS Qoi (mulK .i64 i 2) (addK .i64 (mulK .i64 i 2) 2)) fun s1=>some (Qoi.extract ((mulK .i64 i 2):Int).toNat ((addK .i64 (mulK .i64 i 2) 2):Int).toNat))
noncomputable def Quu (x0:Int):Option Int:=some (shrK .i64 (mulK .i64 x0 78913) 18)
noncomputable def Qt7 (x2:Int) (n1:Int):Option Int:=br (geI x2 256) (bnd (getS Qok (cvK .u8 (shrK .u64 x2 8))) fun b=>some (addK .i64 (addK .i64 n1 8) (cvK .i64 (byteI b)))) (bnd (getS Qok (cvK .u8 x2)) fun b1=>some (addK .i64 n1 (cvK .i64 (byteI b1))))
noncomputable def Qt6 (x1:Int) (n:Int):Option Int:=br (geI x1 65536) (Qt7 (shrK .u64 x1 16) (addK .i64 n 16)) (Qt7 x1 n)
noncomputable def QAb (x0:Int):Option Int:=br (geI x0 4294967296) (Qt6 (shrK .u64 x0 32) 32) (Qt6 x0 0)
noncomputable def Quv (d:Int):Option Int:=bnd (QAb d) fun r=>bnd (Quu r) fun r1=>none
noncomputable def QgY (i:Int) (u:Int):Option ByteArray:=bnd (Quv u) fun r1=>none
noncomputable def QlN (i:Int) (base:Int):Option ByteArray:=br (eqI base 10) (br ((leI 0 i)&&(ltI i 100)) (bnd (Qrl i) fun r=>some r) (br (ltI i 0) (QgY i (subK .u64 0 (cvK .u64 i))) (QgY i (cvK .u64 i)))) (none)
noncomputable def QsH (i:Int):Option ByteArray:=bnd (QlN i 10) fun r=>some r
noncomputable def QmH (i:Int):Option ByteArray:=bnd (QsH i) fun r=>some r
noncomputable def QiF (l:List Qao) (v:Int) (x0:Qao) (r:ByteArray) (l3:List Qab):Option ((List Qab×Int)⊕(List Qab)):=br (gtI v 0) (bnd (getI l (subK .i64 v 1)) fun x1=>br (leI x0.t x1.t) (chk (okN (l3++[(Qab.mk 13 r)]).length 24) (some (.inl ((l3++[(Qab.mk 13 r)]),(addK .i64 v 1))))) (br (ltI x0.a x1.a) (chk (okN (l3++[(Qab.mk 13 r)]).length 24) (some (.inl ((l3++[(Qab.mk 13 r)]),(addK .i64 v 1))))) (some (.inl (l3,(addK .i64 v 1)))))) (some (.inl (l3,(addK .i64 v 1))))
noncomputable def Qet (l:List Qao) (l2:List Qab) (v:Int):Option ((List Qab×Int)⊕(List Qab)):=br (ltI v (lenI l)) (bnd (getI l v) fun x0=>bnd (QmH v) fun r=>bnd (QgH x0.t 0 4096) fun r1=>br (((!r1)||(ltI x0.a x0.t))||(gtI x0.a (addK .i64 x0.t 4096))) (chk (okN (l2++[(Qab.mk 2 r)]).length 24) (QiF l v x0 r (l2++[(Qab.mk 2 r)]))) (QiF l v x0 r l2)) (some (.inr l2))
noncomputable def QiE (l:List Qao) (l1:List Qab):Option (List Qab):=bnd (loopF (fun s=>Qet l s.1 s.2) (l1,0)) (fun l4=>some l4)
noncomputable def QnE (l:List Qao):Option (List Qab):=br ((eqI (lenI l) 0)||(gtI (lenI l) 16)) (chk (okN [(Qab.mk 4 ByteArray.empty)].length 24) (QiE l [(Qab.mk 4 ByteArray.empty)])) (QiE l [])
noncomputable def QnF (l:List Qao):Option Bool:=bnd (QnE l) fun r=>some (eqI (lenI r) 0)
noncomputable def Qgb (p:Qao) (t:Int):Option Int:=some (subK .i64 p.t t)
noncomputable def QaL (x0:List Qao) (target:Int) (i:Int) (j:Int):Option ((Int×Int)⊕(Int)):=br (ltI i j) (bnd (getI x0 (cvK .i64 (shrK .u64 (cvK .u64 (addK .i64 i j)) 1))) fun x1=>bnd (Qgb x1 target) fun r=>br (ltI r 0) (some (.inl ((addK .i64 (cvK .i64 (shrK .u64 (cvK .u64 (addK .i64 i j)) 1)) 1),j))) (some (.inl (i,(cvK .i64 (shrK .u64 (cvK .u64 (addK .i64 i j)) 1)))))) (some (.inr i))
noncomputable def Qa7 (x0:List Qao) (target:Int):Option (Int×Bool):=bnd (loopF (fun s=>QaL x0 target s.1 s.2) (0,(lenI x0))) (fun i1=>br (ltI i1 (lenI x0)) (bnd (getI x0 i1) fun x2=>bnd (Qgb x2 target) fun r1=>some (i1,(eqI r1 0))) (some (i1,false)))
noncomputable def QlD (l:List Qao) (t:Int):Option Int:=bnd (Qa7 l t) fun r=>br r.2 (bnd (getI l r.1) fun x0=>some x0.a) (br (eqI r.1 0) (bnd (getI l 0) fun x1=>some (subK .i64 (addK .i64 t x1.a) x1.t)) (br (eqI r.1 (lenI l)) (bnd (getI l (subK .i64 r.1 1)) fun x2=>some (subK .i64 (addK .i64 t x2.a) x2.t)) (bnd (getI l (subK .i64 r.1 1)) fun x3=>bnd (getI l r.1) fun x4=>chk (((subK .i64 x4.t x3.t):Int)≠0) (some (addK .i64 x3.a (quoK .i64 (subK .i64 (addK .i64 (mulK .i64 (subK .i64 t x3.t) (subK .i64 x4.a x3.a)) (subK .i64 x4.t x3.t)) 1) (subK .i64 x4.t x3.t)))))))
noncomputable def QlC (l:List Qao) (t:Int):Option Int:=bnd (QgH t 0 1073741824) fun r=>br r (bnd (QnF l) fun r1=>br r1 (bnd (QlD l t) fun r2=>some r2) (some 0)) (some 0)
noncomputable def Qid (a:Qas) (t:Int) (out:Int) (v:Int):Option ((Int×Int)⊕(Int)):=br (ltI v (lenI a.slow)) (bnd (getI a.slow v) fun x0=>br (leI x0.t t) (some (.inl ((addK .i64 out x0.a),(addK .i64 v 1)))) (some (.inl (out,(addK .i64 v 1))))) (some (.inr out))
noncomputable def QiA (a:Qas) (t:Int):Option Int:=bnd (QlC a.travel t) fun r=>bnd (loopF (fun s=>Qid a t s.1 s.2) (r,0)) (fun out1=>some out1)
noncomputable def Qnn (n:Qam) (profile:Int) (from_:Int) (to_:Int) (t:Int):Option (Int×Int×Int):=bnd (Qje n from_) fun r=>br r (bnd (Qje n to_) fun r1=>br r1 (br (eqI from_ to_) (some (t,0,0)) (bnd (Qnm n profile from_ to_) fun r2=>br r2.2 (bnd (QiA r2.1 t) fun r3=>some (r3,r2.1.miles,0)) (some (0,0,12)))) (some (0,0,11))) (some (0,0,11))
noncomputable def Qks (s0:Qau) (arrive:Int):Option (Int×Int):=br (gtI (maxI arrive s0.open_) s0.close) (some (0,14)) (some ((maxI arrive s0.open_),0))
noncomputable def Qgk (p:Qay) (visits:Int):Option Int:=br (eqI visits 0) (some p.t.from_) (bnd (getI p.stops (subK .i64 visits 1)) fun x0=>some x0.place)
noncomputable def QbG (s0:List Qar):Option (List Qar):=br (List.isEmpty s0) (amb (some []) (chk (okN s0.length 32) (some s0))) (chk (okN s0.length 32) (some s0))
noncomputable def Qfh (p:Qay) (l:Qaf) (depart:Int) (since:Int) (rest_1:Bool) (depart1:Int) (r2:Int×Int×Int) (l2:List Qar) (ready:Int) (end_:Int):Option (Qaf×Int):=br (gtI (subK .i64 (addK .i64 since r2.1) depart) p.t.drive) (some ((Qaf.mk 0 0 (Qap.mk false 0 [] 0 0)),16)) (some ((Qaf.mk ready (subK .i64 (addK .i64 since r2.1) depart) (Qap.mk rest_1 depart1 l2 end_ (addK .i64 l.sheet.miles r2.2.1))),0))
noncomputable def Qd9 (p:Qay) (l:Qaf) (done:Int) (depart:Int) (since:Int) (l1:List Qar) (rest_1:Bool) (depart1:Int) (to_:Int):Option (Qaf×Int):=bnd (Qgk p done) fun r1=>bnd (Qnn p.x.net p.t.profile r1 to_ depart) fun r2=>br (neI r2.2.2 0) (some ((Qaf.mk 0 0 (Qap.mk false 0 [] 0 0)),12)) (br (eqI done (lenI p.stops)) (br (gtI r2.1 p.t.close) (some ((Qaf.mk 0 0 (Qap.mk false 0 [] 0 0)),15)) (Qfh p l depart since rest_1 depart1 r2 l1 r2.1 r2.1)) (bnd (getI p.stops done) fun x2=>bnd (Qks x2 r2.1) fun r3=>br (neI r3.2 0) (some ((Qaf.mk 0 0 (Qap.mk false 0 [] 0 0)),14)) (chk (okN (l1++[(Qar.mk r2.1 r3.1 0 false)]).length 32) (Qfh p l depart since rest_1 depart1 r2 (l1++[(Qar.mk r2.1 r3.1 0 false)]) (addK .i64 r3.1 x2.service) l.sheet.end_))))
noncomputable def Qfg (p:Qay) (l:Qaf) (done:Int) (depart:Int) (since:Int) (l1:List Qar) (rest_1:Bool) (depart1:Int):Option (Qaf×Int):=br (eqI done (lenI p.stops)) (Qd9 p l done depart since l1 rest_1 depart1 p.t.to_) (bnd (getI p.stops done) fun x1=>Qd9 p l done depart since l1 rest_1 depart1 x1.place)
noncomputable def Qff (p:Qay) (l:Qaf) (done:Int) (rest_:Bool) (depart:Int) (since:Int):Option (Qaf×Int):=bnd (QbG l.sheet.times) fun r=>br (eqI done 0) (Qfg p l done depart since r rest_ depart) (bnd (getI r (subK .i64 done 1)) fun x0=>Qfg p l done depart since (setI (setI r (subK .i64 done 1) (Qar.mk x0.arrive x0.begin x0.depart rest_)) (subK .i64 done 1) (Qar.mk x0.arrive x0.begin depart rest_)) l.sheet.rest_ l.sheet.depart)
noncomputable def Qfa (p:Qay) (l:Qaf) (done:Int) (rest_:Bool):Option (Qaf×Int):=br rest_ (Qff p l done rest_ (addK .i64 l.ready p.t.rest_) 0) (Qff p l done rest_ l.ready l.since)
noncomputable def QlF (l:Qaf) (m:Qaf):Option Bool:=some ((eqI l.ready m.ready)&&(leI l.since m.since))
noncomputable def Qg1 (m:Qaf) (c:Qaf):Option Bool:=bnd (QlF m c) fun r=>some r
noncomputable def Qax (s0:List Qaf) (c:Qaf) (v:Int):Option ((Int)⊕((Unit)⊕(Int))):=br (ltI v (lenI s0)) (bnd (getI s0 v) fun x0=>bnd (Qg1 x0 c) fun r=>br r (some (.inr (.inr v))) (some (.inl (addK .i64 v 1)))) (some (.inr (.inl ())))
noncomputable def Qbj (s0:List Qaf) (c:Qaf):Option Int:=bnd (loopF (fun s=>Qax s0 c s) 0) (fun e=>sel e (fun (_:Unit)=>some (-1)) (fun r1=>some r1))
noncomputable def QaS (s0:List Qaf) (c:Qaf):Option Bool:=bnd (Qbj s0 c) fun r=>some (geI r 0)
noncomputable def Qcw (p:Qay) (l:List Qaf) (done:Int) (choices:List Bool) (v:Int) (x0:Qaf) (l3:List Qaf) (v1:Int):Option ((List Qaf×Int)⊕(List Qaf)):=br (ltI v1 (lenI choices)) (bnd (getI choices v1) fun x1=>bnd (Qfa p x0 done x1) fun r=>br (eqI r.2 0) (bnd (QaS l3 r.1) fun r1=>br r1 (some (.inl (l3,(addK .i64 v1 1)))) (chk (okN (l3++[r.1]).length 72) (some (.inl ((l3++[r.1]),(addK .i64 v1 1)))))) (some (.inl (l3,(addK .i64 v1 1))))) (some (.inr l3))
noncomputable def Qcv (p:Qay) (l:List Qaf) (done:Int) (choices:List Bool) (l2:List Qaf) (v:Int):Option ((List Qaf×Int)⊕(List Qaf)):=br (ltI v (lenI l)) (bnd (getI l v) fun x0=>bnd (loopF (fun s=>Qcw p l done choices v x0 s.1 s.2) (l2,0)) (fun l4=>some (.inl (l4,(addK .i64 v 1))))) (some (.inr l2))
noncomputable def Qfe (p:Qay) (l:List Qaf) (done:Int) (choices:List Bool):Option (List Qaf):=bnd (loopF (fun s=>Qcv p l done choices s.1 s.2) ([],0)) (fun l5=>some l5)
noncomputable def Qf3 (p:Qay) (l:List Qaf) (done:Int):Option (List Qaf):=br (ltI done (lenI p.r.rests)) (bnd (slcI p.r.rests done (addK .i64 done 1)) fun l1=>Qfe p l done l1) (Qfe p l done [false,true])
noncomputable def QfH (p:Qay) (rests:List Bool) (r:Qaf) (rest_:Int) (x0:Qaf) (v:Int):Option ((Int×Qaf×Int)⊕((Qaf)⊕(Qap×Int))):=br (ltI v (lenI rests)) (bnd (getI rests v) fun x1=>bnd (Qfa (Qay.mk p.x (Qak.mk p.t.name p.t.count p.t.from_ p.t.to_ p.t.cap p.t.skills p.t.profile p.t.open_ p.t.close p.t.drive rest_ p.t.fixed p.t.perMile p.t.perTick) p.r p.stops) x0 v x1) fun r1=>br (neI r1.2 0) (some (.inr (.inr ((Qap.mk false 0 [] 0 0),r1.2)))) (some (.inl (rest_,r1.1,(addK .i64 v 1))))) (some (.inr (.inl x0)))
noncomputable def QgI (p:Qay) (rests:List Bool):Option (Qap×Int):=bnd (Qdn p) fun r=>bnd (loopF (fun s=>QfH p rests r s.1 s.2.1 s.2.2) (p.t.rest_,r,0)) (fun e=>sel e (fun x2=>some (x2.sheet,0)) (fun r2=>some r2))
noncomputable def Qew (r:Qag) (r1:Qay×Bool) (l:List Qaf) (v:Int):Option ((List Qaf×Int)⊕(List Qaf)):=br (ltI v (addK .i64 (lenI r.visits) 1)) (bnd (Qf3 r1.1 l v) fun r3=>some (.inl (r3,(addK .i64 v 1)))) (some (.inr l))
noncomputable def QdT (l3:List Qaf) (x2:Qaf) (v1:Int):Option ((Qaf×Int)⊕(Qaf)):=br (ltI v1 (lenI l3)) (bnd (getI l3 v1) fun x3=>br (ltI x3.sheet.end_ x2.sheet.end_) (some (.inl (x3,(addK .i64 v1 1)))) (some (.inl (x2,(addK .i64 v1 1))))) (some (.inr x2))
noncomputable def QoK (x0:Qac) (r:Qag):Option (Qap×Int):=bnd (QoL x0 r) fun r1=>br ((!r1.2)||(gtI (lenI r.rests) (addK .i64 (lenI r.visits) 1))) (some ((Qap.mk false 0 [] 0 0),2)) (bnd (Qdn r1.1) fun r2=>bnd (loopF (fun s=>Qew r r1 s.1 s.2) ([r2],0)) (fun l1=>br (eqI (lenI l1) 0) (bnd (mkI (addK .i64 (lenI r.visits) 1) (addK .i64 (lenI r.visits) 1) 1 false) fun l2=>bnd (QgI r1.1 (cpyL l2 r.rests)) fun r4=>some (r4.1,r4.2)) (bnd (getI l1 0) fun x1=>bnd (slcI l1 1 (lenI l1)) fun l3=>bnd (loopF (fun s=>QdT l3 s.1 s.2) (x1,0)) (fun x4=>some (x4.sheet,0)))))
noncomputable def Qlx (kind:Int) (own:Int):Option Bool:=some ((neI kind (-1))&&(neI kind own))
noncomputable def QjF (x0:Qac) (r:Qag) (s0:Qap) (x1:Qak) (l:List (Int×Int)) (other:Int) (v:Int) (x2:Qaa) (x3:Qah) (moved1:Int):Option ((List (Int×Int)×Int×Int×Int)⊕(Int×Int)):=bnd (Qlx x3.last_ r.type_) fun r2=>br r2 (some (.inl ((mPut eqI l x2.order (addK .i64 (mGet eqI l x2.order 0) 1)),moved1,(addK .i64 other 1),(addK .i64 v 1)))) (some (.inl ((mPut eqI l x2.order (addK .i64 (mGet eqI l x2.order 0) 1)),moved1,other,(addK .i64 v 1))))
noncomputable def Qer (x0:Qac) (r:Qag) (s0:Qap) (x1:Qak) (l:List (Int×Int)) (moved:Int) (other:Int) (v:Int):Option ((List (Int×Int)×Int×Int×Int)⊕(Int×Int)):=br (ltI v (lenI r.visits)) (bnd (getI r.visits v) fun x2=>br ((ltI x2.order 0)||(geI x2.order (lenI x0.orders))) (some (.inl ((mPut eqI l x2.order (addK .i64 (mGet eqI l x2.order 0) 1)),moved,other,(addK .i64 v 1)))) (br (gtI (mGet eqI (mPut eqI l x2.order (addK .i64 (mGet eqI l x2.order 0) 1)) x2.order 0) 1) (some (.inl ((mPut eqI l x2.order (addK .i64 (mGet eqI l x2.order 0) 1)),moved,other,(addK .i64 v 1)))) (bnd (getI x0.orders x2.order) fun x3=>bnd (Qlx x3.now r.type_) fun r1=>br r1 (QjF x0 r s0 x1 l other v x2 x3 (addK .i64 moved 1)) (QjF x0 r s0 x1 l other v x2 x3 moved)))) (some (.inr (moved,other)))
noncomputable def Qpd (x0:Qac) (r:Qag) (s0:Qap):Option QaF:=br ((ltI r.type_ 0)||(geI r.type_ (lenI x0.types))) (some (QaF.mk 0 0 0 0)) (bnd (getI x0.types r.type_) fun x1=>bnd (loopF (fun s=>Qer x0 r s0 x1 s.1 s.2.1 s.2.2.1 s.2.2.2) ([],0,0,0)) (fun e0=>(fun moved2 other1=>some (QaF.mk (addK .i64 (addK .i64 x1.fixed (mulK .i64 x1.perMile s0.miles)) (mulK .i64 x1.perTick (subK .i64 s0.end_ x1.open_))) moved2 other1 (mulK .i64 (quoK .i64 (subK .i64 s0.end_ x1.open_) 64) (quoK .i64 (subK .i64 s0.end_ x1.open_) 64)))) e0.1 e0.2))
noncomputable def QfZ (x0:Qac) (r:Qag):Option (Qap×QaF×Int):=br ((ltI r.type_ 0)||(geI r.type_ (lenI x0.types))) (some ((Qap.mk false 0 [] 0 0),(QaF.mk 0 0 0 0),2)) (bnd (Qig x0 r) fun r1=>br (neI r1 0) (some ((Qap.mk false 0 [] 0 0),(QaF.mk 0 0 0 0),r1)) (bnd (Qre x0 r) fun r2=>br (neI r2 0) (some ((Qap.mk false 0 [] 0 0),(QaF.mk 0 0 0 0),r2)) (bnd (Qqv x0 r) fun r3=>br (neI r3 0) (some ((Qap.mk false 0 [] 0 0),(QaF.mk 0 0 0 0),r3)) (bnd (QoK x0 r) fun r4=>br (neI r4.2 0) (some ((Qap.mk false 0 [] 0 0),(QaF.mk 0 0 0 0),r4.2)) (bnd (Qpd x0 r r4.1) fun r5=>some (r4.1,r5,0))))))
noncomputable def Qrz (s0:QaF):Option Qzr:=some (Qzr.mk s0.cost s0.moved s0.other s0.work)
noncomputable def Qnq (s0:QaF):Option (Int×Int):=bnd (Qrz s0) fun r=>br (ltI r.x0 0) (some (0,2)) (br (ltI r.x1 0) (some (0,2)) (br (ltI r.x2 0) (some (0,2)) (br (ltI r.x3 0) (some (0,2)) (br ((((gtI s0.cost 1073741824)||(geI s0.moved 16))||(geI s0.other 16))||(geI s0.work 65536)) (some (0,4)) (some ((addK .i64 (mulK .i64 (addK .i64 (mulK .i64 (addK .i64 (mulK .i64 s0.cost 16) s0.moved) 16) s0.other) 65536) s0.work),0))))))
noncomputable def Qhm (x0:Qac) (r:Qag):Option (Int×Int):=bnd (QfZ x0 r) fun r1=>br (neI r1.2.2 0) (some (0,r1.2.2)) (bnd (Qnq r1.2.1) fun r2=>some (r2.1,r2.2))
noncomputable def Qfr (v:Qaa):Option Int:=br v.drop (some 1) (some 0)
noncomputable def Qeo (vals:List Int) (v:Int):Option ((Int)⊕((Unit)⊕(Int))):=br (ltI v (lenI vals)) (bnd (getI vals v) fun x0=>br (neI x0 0) (some (.inr (.inr x0))) (some (.inl (addK .i64 v 1)))) (some (.inr (.inl ())))
noncomputable def QoI (vals:List Int):Option Int:=bnd (loopF (fun s=>Qeo vals s) 0) (fun e=>sel e (fun (_:Unit)=>some 0) (fun r=>some r))
noncomputable def Qjg (x0:Int):Option Bool:=some (neI x0 x0)
noncomputable def Qgi (x0:Int) (y:Int):Option Int:=bnd (Qjg x0) fun r=>bnd (Qjg y) fun r1=>br r (br r1 (some 0) (some (-1))) (br r1 (some 1) (br (ltI x0 y) (some (-1)) (br (gtI x0 y) (some 1) (some 0))))
noncomputable def QhY (a:Qaa) (b:Qaa):Option Int:=bnd (Qgi a.order b.order) fun r=>bnd (Qfr a) fun r1=>bnd (Qfr b) fun r2=>bnd (Qgi r1 r2) fun r3=>bnd (QoI [r,r3]) fun r4=>some r4
noncomputable def Qat (s1:List Qaa) (s2:List Qaa) (v:Int):Option ((Int)⊕((Unit)⊕(Int))):=br (ltI v (lenI s1)) (bnd (getI s1 v) fun x0=>br (geI v (lenI s2)) (some (.inr (.inr 1))) (bnd (getI s2 v) fun x1=>bnd (QhY x0 x1) fun r=>br (neI r 0) (some (.inr (.inr r))) (some (.inl (addK .i64 v 1))))) (some (.inr (.inl ())))
noncomputable def QaV (s1:List Qaa) (s2:List Qaa):Option Int:=bnd (loopF (fun s=>Qat s1 s2 s) 0) (fun e=>sel e (fun (_:Unit)=>br (ltI (lenI s1) (lenI s2)) (some (-1)) (some 0)) (fun r1=>some r1))
noncomputable def Qlz (a:List Qaa) (b:List Qaa):Option Bool:=bnd (QaV a b) fun r=>some (ltI r 0)
noncomputable def QdQ (a:Qae) (b:Qae):Option Bool:=br (neI a.price b.price) (some (ltI a.price b.price)) (bnd (Qlz a.route.visits b.route.visits) fun r=>some r)
noncomputable def Qc0 (x0:Qac) (l:List Qaa) (v:Qaa) (r1:List Qaa) (v1:Int):Option ((Int)⊕((Unit)⊕(Bool))):=br (ltI v1 (lenI r1)) (bnd (getI r1 v1) fun x1=>br (eqI x1.order v.order&&(eqB x1.drop v.drop&&true)) (some (.inr (.inl ()))) (bnd (Qes l x1) fun r2=>br (ltI r2 0) (some (.inr (.inr false))) (some (.inl (addK .i64 v1 1))))) (some (.inr (.inl ())))
noncomputable def Qds (x0:Qac) (l:List Qaa) (v:Qaa) (v2:Int) (r3:List Qaa) (v3:Int):Option ((Int)⊕((Unit)⊕(Bool))):=br (ltI v3 (lenI r3)) (bnd (getI r3 v3) fun x3=>bnd (Qes l x3) fun r4=>br (ltI r4 0) (some (.inr (.inr false))) (some (.inl (addK .i64 v3 1)))) (some (.inr (.inl ())))
noncomputable def Qc1 (x0:Qac) (l:List Qaa) (v:Qaa) (v2:Int):Option ((Int)⊕((Unit)⊕(Bool))):=br (ltI v2 (lenI x0.before)) (bnd (getI x0.before v2) fun x2=>br (neI x2.x1 v.order) (some (.inl (addK .i64 v2 1))) (bnd (QgV x0.orders x2.x0) fun r3=>bnd (loopF (fun s=>Qds x0 l v v2 r3 s) 0) (fun e=>sel e (fun (_:Unit)=>some (.inl (addK .i64 v2 1))) (fun r5=>some (.inr (.inr r5)))))) (some (.inr (.inl ())))
noncomputable def QjK (x0:Qac) (l:List Qaa) (v:Qaa):Option Bool:=bnd (Qes l v) fun r=>br (geI r 0) (some false) (bnd (QgV x0.orders v.order) fun r1=>bnd (loopF (fun s=>Qc0 x0 l v r1 s) 0) (fun e=>sel e (fun (_:Unit)=>bnd (loopF (fun s=>Qc1 x0 l v s) 0) (fun e=>sel e (fun (_:Unit)=>some true) (fun r6=>some r6))) (fun r7=>some r7)))
noncomputable def QdN (x0:Qac) (set_:Int) (l:List Qaa) (v:Int) (r:List Qaa) (l2:List Qaa) (v1:Int):Option ((List Qaa×Int)⊕(List Qaa)):=br (ltI v1 (lenI r)) (bnd (getI r v1) fun x2=>bnd (QjK x0 l x2) fun r1=>br r1 (chk (okN (l2++[x2]).length 16) (some (.inl ((l2++[x2]),(addK .i64 v1 1))))) (some (.inl (l2,(addK .i64 v1 1))))) (some (.inr l2))
noncomputable def Qdp (x0:Qac) (set_:Int) (l:List Qaa) (l1:List Qaa) (v:Int):Option ((List Qaa×Int)⊕(List Qaa)):=br (ltI v (lenI x0.orders)) (bnd (getI x0.orders v) fun x1=>br (gtI v 62) (some (.inl (l1,(addK .i64 v 1)))) (chk ((0:Int)≤v) (br ((eqI (andK .i64 (shrK .i64 set_ v) 1) 0)||x1.off) (some (.inl (l1,(addK .i64 v 1)))) (bnd (QgV x0.orders v) fun r=>bnd (loopF (fun s=>QdN x0 set_ l v r s.1 s.2) (l1,0)) (fun l3=>some (.inl (l3,(addK .i64 v 1)))))))) (some (.inr l1))
noncomputable def QlA (x0:Qac) (set_:Int) (l:List Qaa):Option (List Qaa):=bnd (loopF (fun s=>Qdp x0 set_ l s.1 s.2) ([],0)) (fun l4=>some l4)
noncomputable def QaT (s1:List Qaa) (s2:List Qaa) (v:Int):Option ((Int)⊕((Unit)⊕(Bool))):=br (ltI v (lenI s1)) (bnd (getI s1 v) fun x0=>bnd (getI s2 v) fun x1=>br (eqI x0.order x1.order&&(eqB x0.drop x1.drop&&true)) (some (.inl (addK .i64 v 1))) (some (.inr (.inr false)))) (some (.inr (.inl ())))
noncomputable def Qbd (s1:List Qaa) (s2:List Qaa):Option Bool:=br (neI (lenI s1) (lenI s2)) (some false) (bnd (loopF (fun s=>QaT s1 s2 s) 0) (fun e=>sel e (fun (_:Unit)=>some true) (fun r=>some r)))
noncomputable def Qbh (s1:List Bool) (s2:List Bool) (v:Int):Option ((Int)⊕((Unit)⊕(Bool))):=br (ltI v (lenI s1)) (bnd (getI s1 v) fun x0=>bnd (getI s2 v) fun x1=>br (eqB x0 x1) (some (.inl (addK .i64 v 1))) (some (.inr (.inr false)))) (some (.inr (.inl ())))
noncomputable def Qcc (s1:List Bool) (s2:List Bool):Option Bool:=br (neI (lenI s1) (lenI s2)) (some false) (bnd (loopF (fun s=>Qbh s1 s2 s) 0) (fun e=>sel e (fun (_:Unit)=>some true) (fun r=>some r)))
noncomputable def QdJ (set_:Int) (i:Int):Option Bool:=br (((geI set_ 0)&&(geI i 0))&&(leI i 62)) (chk ((0:Int)≤(cvK .u64 i)) (some (eqI (remK (shrK .i64 set_ (cvK .u64 i)) 2) 1))) (some false)
noncomputable def Qee (r:Qag) (set_:Int) (i:Int):Option ((Int×Int)⊕((Int)⊕(Int×Int))):=br (ltI i (lenI r.visits)) (bnd (getI r.visits i) fun x0=>br ((ltI x0.order 0)||(gtI x0.order 62)) (some (.inr (.inr (0,2)))) (bnd (QdJ set_ x0.order) fun r1=>br r1 (some (.inl (set_,(addK .i64 i 1)))) (chk ((0:Int)≤(cvK .u64 x0.order)) (some (.inl ((addK .i64 set_ (shlK .i64 1 (cvK .u64 x0.order))),(addK .i64 i 1))))))) (some (.inr (.inl set_)))
noncomputable def QcW (r:Qag):Option (Int×Int):=bnd (loopF (fun s=>Qee r s.1 s.2) (0,0)) (fun e=>sel e (fun set_1=>some (set_1,0)) (fun r2=>some r2))
noncomputable def QcF (l:List Qaa) (v:Qaa) (i:Int):Option ((Int)⊕((Unit)⊕(Int))):=br (ltI i (lenI l)) (bnd (getI l i) fun x0=>br (eqI x0.order v.order&&(eqB x0.drop v.drop&&true)) (some (.inr (.inr i))) (some (.inl (addK .i64 i 1)))) (some (.inr (.inl ())))
noncomputable def QbY (l:List Qaa) (v:Qaa):Option Int:=bnd (loopF (fun s=>QcF l v s) 0) (fun e=>sel e (fun (_:Unit)=>some (-1)) (fun r=>some r))
noncomputable def Qef (x0:Qac) (order:Int) (l:List Qaa):Option (List Qaa):=bnd (getI x0.orders order) fun x2=>br (neI x2.drop.place (-1)) (chk (okN (l++[(Qaa.mk order true)]).length 16) (some (l++[(Qaa.mk order true)]))) (some l)
noncomputable def Qe0 (x0:Qac) (order:Int):Option (List Qaa):=bnd (getI x0.orders order) fun x1=>br (neI x1.pick.place (-1)) (chk (okN [(Qaa.mk order false)].length 16) (Qef x0 order [(Qaa.mk order false)])) (Qef x0 order [])
noncomputable def QbZ (l:List Qaa) (some_:List Qaa) (i:Int):Option ((Int)⊕((Unit)⊕(Bool))):=br (ltI i (lenI some_)) (bnd (getI some_ i) fun x0=>bnd (QbY l x0) fun r=>br (ltI r 0) (some (.inr (.inr false))) (some (.inl (addK .i64 i 1)))) (some (.inr (.inl ())))
noncomputable def QeW (l:List Qaa) (some_:List Qaa):Option Bool:=bnd (loopF (fun s=>QbZ l some_ s) 0) (fun e=>sel e (fun (_:Unit)=>some true) (fun r1=>some r1))
noncomputable def Qcq (x0:Qac) (l:List Qaa) (i:Int):Option ((Int)⊕((Unit)⊕(Bool))):=br (ltI i (lenI l)) (bnd (getI l i) fun x1=>bnd (Qe0 x0 x1.order) fun r=>bnd (QbY r x1) fun r1=>br (ltI r1 0) (some (.inr (.inr false))) (bnd (QeW l r) fun r2=>br r2 (br (eqI (lenI r) 2) (bnd (getI r 0) fun x2=>bnd (QbY l x2) fun r3=>bnd (getI r 1) fun x3=>bnd (QbY l x3) fun r4=>br (gtI r3 r4) (some (.inr (.inr false))) (some (.inl (addK .i64 i 1)))) (some (.inl (addK .i64 i 1)))) (some (.inr (.inr false))))) (some (.inr (.inl ())))
noncomputable def QdW (x0:Qac) (l:List Qaa):Option Bool:=bnd (loopF (fun s=>Qcq x0 l s) 0) (fun e=>sel e (fun (_:Unit)=>some true) (fun r5=>some r5))
noncomputable def QcG (x0:Qac) (set_:Int) (i:Int):Option ((Int)⊕((Unit)⊕(Bool))):=br (ltI i (lenI x0.apart)) (bnd (getI x0.apart i) fun x1=>bnd (QdJ set_ x1.x0) fun r=>br r (bnd (QdJ set_ x1.x1) fun r1=>br r1 (some (.inr (.inr false))) (some (.inl (addK .i64 i 1)))) (some (.inl (addK .i64 i 1)))) (some (.inr (.inl ())))
noncomputable def Qey (x0:Qac) (set_:Int):Option Bool:=bnd (loopF (fun s=>QcG x0 set_ s) 0) (fun e=>sel e (fun (_:Unit)=>some true) (fun r2=>some r2))
noncomputable def Qcp (x0:Qac) (set_:Int) (l:List Qaa) (i:Int) (x1:QaC) (j:Int) (k:Int):Option ((Int)⊕((Unit)⊕(Bool))):=br (ltI k j) (bnd (getI l j) fun x2=>br (eqI x2.order x1.x0) (bnd (getI l k) fun x3=>br (eqI x3.order x1.x1) (some (.inr (.inr false))) (some (.inl (addK .i64 k 1)))) (some (.inl (addK .i64 k 1)))) (some (.inr (.inl ())))
noncomputable def Qco (x0:Qac) (set_:Int) (l:List Qaa) (i:Int) (x1:QaC) (j:Int):Option ((Int)⊕((Unit)⊕(Bool))):=br (ltI j (lenI l)) (bnd (loopF (fun s=>Qcp x0 set_ l i x1 j s) 0) (fun e=>sel e (fun (_:Unit)=>some (.inl (addK .i64 j 1))) (fun r2=>some (.inr (.inr r2))))) (some (.inr (.inl ())))
noncomputable def Qcn (x0:Qac) (set_:Int) (l:List Qaa) (i:Int):Option ((Int)⊕((Unit)⊕(Bool))):=br (ltI i (lenI x0.before)) (bnd (getI x0.before i) fun x1=>bnd (QdJ set_ x1.x1) fun r=>br r (bnd (QdJ set_ x1.x0) fun r1=>br r1 (bnd (loopF (fun s=>Qco x0 set_ l i x1 s) 0) (fun e=>sel e (fun (_:Unit)=>some (.inl (addK .i64 i 1))) (fun r3=>some (.inr (.inr r3))))) (some (.inr (.inr false)))) (some (.inl (addK .i64 i 1)))) (some (.inr (.inl ())))
noncomputable def QdV (x0:Qac) (set_:Int) (l:List Qaa):Option Bool:=bnd (loopF (fun s=>Qcn x0 set_ l s) 0) (fun e=>sel e (fun (_:Unit)=>some true) (fun r4=>some r4))
noncomputable def QcE (x0:Qac) (r:Qag) (i:Int):Option ((Int)⊕((Unit)⊕(Int))):=br (ltI i (lenI r.visits)) (bnd (getI r.visits i) fun x1=>br (ltI x1.order 0) (some (.inr (.inr 2))) (br (geI x1.order (lenI x0.orders)) (some (.inr (.inr 2))) (some (.inl (addK .i64 i 1))))) (some (.inr (.inl ())))
noncomputable def Qce (x0:Qac) (r:Qag) (r1:Int×Int) (i1:Int):Option ((Int)⊕((Unit)⊕(Int))):=br (ltI i1 (lenI r.visits)) (bnd (getI r.visits i1) fun x2=>bnd (getI x0.orders x2.order) fun x3=>br x3.off (some (.inr (.inr 9))) (some (.inl (addK .i64 i1 1)))) (some (.inr (.inl ())))
noncomputable def QbX (x0:Qac) (r:Qag) (r1:Int×Int) (i2:Int):Option ((Int)⊕((Unit)⊕(Int))):=br (ltI i2 (lenI r.visits)) (bnd (getI r.visits i2) fun x4=>bnd (QbY r.visits x4) fun r2=>br (neI r2 i2) (some (.inr (.inr 6))) (some (.inl (addK .i64 i2 1)))) (some (.inr (.inl ())))
noncomputable def Qgu (x0:Qac) (r:Qag):Option Int:=bnd (loopF (fun s=>QcE x0 r s) 0) (fun e=>sel e (fun (_:Unit)=>bnd (QcW r) fun r1=>br ((neI r1.2 0)||(eqI (lenI r.visits) 0)) (some 2) (bnd (loopF (fun s=>Qce x0 r r1 s) 0) (fun e=>sel e (fun (_:Unit)=>bnd (loopF (fun s=>QbX x0 r r1 s) 0) (fun e=>sel e (fun (_:Unit)=>bnd (QdW x0 r.visits) fun r3=>br r3 (bnd (Qey x0 r1.1) fun r4=>br r4 (bnd (QdV x0 r1.1 r.visits) fun r5=>br r5 (some 0) (some 21)) (some 20)) (some 19)) (fun r6=>some r6))) (fun r7=>some r7)))) (fun r8=>some r8))
noncomputable def Qdx (t:Qak) (skills:Int) (bit:Int):Option ((Int)⊕((Unit)⊕(Bool))):=br (gtI bit 0) (chk ((bit:Int)≠0) (br (eqI (remK (quoK .i64 skills bit) 2) 1) (chk ((bit:Int)≠0) (br (eqI (remK (quoK .i64 t.skills bit) 2) 0) (some (.inr (.inr false))) (some (.inl (mulK .i64 bit 2))))) (some (.inl (mulK .i64 bit 2))))) (some (.inr (.inl ())))
noncomputable def Qhe (t:Qak) (skills:Int):Option Bool:=br ((ltI t.skills 0)||(ltI skills 0)) (some false) (bnd (loopF (fun s=>Qdx t skills s) 1) (fun e=>sel e (fun (_:Unit)=>some true) (fun r=>some r)))
noncomputable def Qc4 (l:List (List Int)) (dims:Int) (i:Int):Option ((Int)⊕((Unit)⊕(Bool))):=br (ltI i (lenI l)) (bnd (getI l i) fun x0=>br (neI (lenI x0) dims) (some (.inr (.inr false))) (some (.inl (addK .i64 i 1)))) (some (.inr (.inl ())))
noncomputable def Qit (l:List (List Int)) (dims:Int):Option Bool:=br ((ltI dims 0)||(gtI dims 3)) (some false) (bnd (loopF (fun s=>Qc4 l dims s) 0) (fun e=>sel e (fun (_:Unit)=>some true) (fun r=>some r)))
noncomputable def QcV (l:List (List Int)) (dims:Int) (l1:List Int) (d:Int) (n:Int) (i:Int):Option ((Int×Int)⊕(Int)):=br (ltI i (lenI l)) (bnd (getI l i) fun x0=>bnd (getI x0 d) fun x1=>some (.inl ((addK .i64 n x1),(addK .i64 i 1)))) (some (.inr n))
noncomputable def QcU (l:List (List Int)) (dims:Int) (l1:List Int) (d:Int):Option ((List Int×Int)⊕(List Int)):=br (ltI d dims) (bnd (loopF (fun s=>QcV l dims l1 d s.1 s.2) (0,0)) (fun n1=>chk (okN (l1++[n1]).length 8) (some (.inl ((l1++[n1]),(addK .i64 d 1)))))) (some (.inr l1))
noncomputable def Qh6 (l:List (List Int)) (dims:Int):Option (List Int×Int):=bnd (Qit l dims) fun r=>br r (bnd (loopF (fun s=>QcU l dims s.1 s.2) ([],0)) (fun l2=>some (l2,0))) (some ([],2))
noncomputable def Qhg (x0:Qac):Option Int:=br (eqI (lenI x0.types) 0) (some 0) (bnd (getI x0.types 0) fun x1=>some (lenI x1.cap))
noncomputable def Qch (x0:Qac) (l:List Qaa) (n:Int) (l1:List (List Int)) (i:Int) (on_:Bool) (there:Bool) (k:Int):Option ((Bool×Bool×Int)⊕(Bool×Bool)):=br (ltI k (lenI l)) (bnd (getI l k) fun x2=>br (neI x2.order i) (some (.inl (on_,there,(addK .i64 k 1)))) (br (ltI k n) (some (.inl ((!x2.drop),true,(addK .i64 k 1)))) (some (.inl (on_,true,(addK .i64 k 1)))))) (some (.inr (on_,there)))
noncomputable def Qcg (x0:Qac) (l:List Qaa) (n:Int) (l1:List (List Int)) (i:Int):Option ((List (List Int)×Int)⊕(List (List Int))):=br (ltI i (lenI x0.orders)) (bnd (getI x0.orders i) fun x1=>bnd (loopF (fun s=>Qch x0 l n l1 i s.1 s.2.1 s.2.2) ((ltI x1.pick.place 0),false,0)) (fun e0=>(fun on_1 there1=>br (on_1&&there1) (bnd (getI x0.orders i) fun x3=>chk (okN (l1++[x3.load]).length 24) (some (.inl ((l1++[x3.load]),(addK .i64 i 1))))) (some (.inl (l1,(addK .i64 i 1))))) e0.1 e0.2)) (some (.inr l1))
noncomputable def QhU (x0:Qac) (l:List Qaa) (n:Int):Option (List Int×Int):=bnd (loopF (fun s=>Qcg x0 l n s.1 s.2) ([],0)) (fun l2=>bnd (Qhg x0) fun r=>bnd (Qh6 l2 r) fun r1=>some (r1.1,r1.2))
noncomputable def Qcf (x0:Qac) (r:Qag) (l:List (List Int)) (n:Int):Option ((List (List Int)×Int)⊕((List (List Int))⊕(List (List Int)×Int))):=br (leI n (lenI r.visits)) (bnd (QhU x0 r.visits n) fun r2=>br (neI r2.2 0) (some (.inr (.inr ([],r2.2)))) (chk (okN (l++[r2.1]).length 24) (some (.inl ((l++[r2.1]),(addK .i64 n 1)))))) (some (.inr (.inl l)))
noncomputable def QhT (x0:Qac) (r:Qag):Option (List (List Int)×Int):=bnd (Qgu x0 r) fun r1=>br (neI r1 0) (some ([],r1)) (bnd (loopF (fun s=>Qcf x0 r s.1 s.2) ([],0)) (fun e=>sel e (fun l1=>some (l1,0)) (fun r3=>some r3)))
noncomputable def Qc3 (a:List Int) (capacity:List Int) (i:Int):Option ((Int)⊕((Unit)⊕(Bool))):=br (ltI i (lenI a)) (bnd (getI a i) fun x0=>bnd (getI capacity i) fun x1=>br (gtI x0 x1) (some (.inr (.inr false))) (some (.inl (addK .i64 i 1)))) (some (.inr (.inl ())))
noncomputable def Qis (a:List Int) (capacity:List Int):Option Bool:=br (neI (lenI a) (lenI capacity)) (some false) (bnd (loopF (fun s=>Qc3 a capacity s) 0) (fun e=>sel e (fun (_:Unit)=>some true) (fun r=>some r)))
noncomputable def Qc8 (x0:Qac) (r:Qag) (r1:List (List Int)×Int) (i:Int):Option ((Int)⊕((Unit)⊕(Int))):=br (ltI i (lenI r1.1)) (bnd (getI r1.1 i) fun x1=>bnd (getI x0.types r.type_) fun x2=>bnd (Qis x1 x2.cap) fun r2=>br r2 (some (.inl (addK .i64 i 1))) (some (.inr (.inr 17)))) (some (.inr (.inl ())))
noncomputable def Qhf (x0:Qac) (r:Qag):Option Int:=br ((ltI r.type_ 0)||(geI r.type_ (lenI x0.types))) (some 2) (bnd (QhT x0 r) fun r1=>br (neI r1.2 0) (some r1.2) (bnd (loopF (fun s=>Qc8 x0 r r1 s) 0) (fun e=>sel e (fun (_:Unit)=>some 0) (fun r3=>some r3))))
noncomputable def Qep (x0:Qac) (v:Qaa):Option (Qau×Bool):=br ((ltI v.order 0)||(geI v.order (lenI x0.orders))) (some ((Qau.mk 0 0 0 0),false)) (bnd (getI x0.orders v.order) fun x1=>br v.drop (some (x1.drop,(geI x1.drop.place 0))) (some (x1.pick,(geI x1.pick.place 0))))
noncomputable def Qb0 (x0:Qac) (r:Qag) (i:Int):Option ((Int)⊕((Unit)⊕(Bool))):=br (ltI i (lenI r.visits)) (bnd (getI r.visits i) fun x1=>bnd (Qep x0 x1) fun r1=>br r1.2 (some (.inl (addK .i64 i 1))) (some (.inr (.inr false)))) (some (.inr (.inl ())))
noncomputable def Qdj (x0:Qac) (r:Qag):Option Bool:=br (((((ltI r.type_ 0)||(geI r.type_ (lenI x0.types)))||(ltI r.start 0))||(gtI r.start 4096))||(gtI (lenI r.visits) 20)) (some false) (bnd (loopF (fun s=>Qb0 x0 r s) 0) (fun e=>sel e (fun (_:Unit)=>some true) (fun r2=>some r2)))
noncomputable def Qhh (t:Qak) (s0:Qaz) (yes:Bool):Option Qaz:=br yes (some (Qaz.mk s0.place (addK .i64 s0.time t.rest_) 0 s0.miles)) (some s0)
noncomputable def Qgl (n:Qam) (p:Int):Option Bool:=some ((geI p 0)&&(ltI p (lenI n.places)))
noncomputable def Qfk (n:Qam) (profile:Int) (from_:Int) (to_:Int) (i:Int):Option ((Int)⊕((Unit)⊕(Qas×Bool))):=br (ltI i (lenI n.arcs)) (bnd (getI n.arcs i) fun x0=>br (((eqI x0.from_ from_)&&(eqI x0.to_ to_))&&(eqI x0.profile profile)) (some (.inr (.inr (x0,true)))) (some (.inl (addK .i64 i 1)))) (some (.inr (.inl ())))
noncomputable def Qiu (n:Qam) (profile:Int) (from_:Int) (to_:Int):Option (Qas×Bool):=bnd (loopF (fun s=>Qfk n profile from_ to_ s) 0) (fun e=>sel e (fun (_:Unit)=>some ((Qas.mk 0 0 0 0 [] []),false)) (fun r=>some r))
noncomputable def Qeb (l:List Qao) (t:Int) (i:Int):Option ((Int)⊕((Unit)⊕(Int))):=br (ltI (addK .i64 i 1) (lenI l)) (bnd (getI l i) fun x0=>bnd (getI l (addK .i64 i 1)) fun x1=>br ((leI x0.t t)&&(ltI t x1.t)) (chk (((subK .i64 x1.t x0.t):Int)≠0) (some (.inr (.inr (addK .i64 x0.a (quoK .i64 (subK .i64 (subK .i64 (addK .i64 (mulK .i64 (subK .i64 t x0.t) (subK .i64 x1.a x0.a)) x1.t) x0.t) 1) (subK .i64 x1.t x0.t))))))) (some (.inl (addK .i64 i 1)))) (some (.inr (.inl ())))
noncomputable def Qg3 (l:List Qao) (t:Int):Option Int:=bnd (Qfx l) fun r=>br (((gtI (lenI r) 0)||(ltI t 0))||(gtI t 1073741824)) (some 0) (bnd (loopF (fun s=>Qeb l t s) 0) (fun e=>sel e (fun (_:Unit)=>bnd (getI l 0) fun x2=>br (gtI t x2.t) (bnd (getI l (subK .i64 (lenI l) 1)) fun x3=>some (subK .i64 (addK .i64 t x3.a) x3.t)) (some (subK .i64 (addK .i64 t x2.a) x2.t))) (fun r1=>some r1)))
noncomputable def QgM (a:Qas) (t:Int) (n:Int) (i:Int):Option ((Int×Int)⊕(Int)):=br (ltI i (lenI a.slow)) (bnd (getI a.slow i) fun x0=>br (leI x0.t t) (some (.inl ((addK .i64 n x0.a),(addK .i64 i 1)))) (some (.inl (n,(addK .i64 i 1))))) (some (.inr n))
noncomputable def Qg4 (a:Qas) (t:Int):Option Int:=bnd (Qg3 a.travel t) fun r=>bnd (loopF (fun s=>QgM a t s.1 s.2) (r,0)) (fun n1=>some n1)
noncomputable def Qi2 (n:Qam) (profile:Int) (from_:Int) (to_:Int) (t:Int):Option (Int×Int×Int):=bnd (Qgl n from_) fun r=>br r (bnd (Qgl n to_) fun r1=>br r1 (br (eqI from_ to_) (some (t,0,0)) (bnd (Qiu n profile from_ to_) fun r2=>br r2.2 (bnd (Qg4 r2.1 t) fun r3=>some (r3,r2.1.miles,0)) (some (0,0,12)))) (some (0,0,11))) (some (0,0,11))
noncomputable def QmD (x0:Qac) (profile:Int) (from_:Int) (to_:Int) (t:Int):Option (Int×Int×Bool):=bnd (Qi2 x0.net profile from_ to_ t) fun r=>some (r.1,r.2.1,(eqI r.2.2 0))
noncomputable def QdD (x0:Qac) (t:Qak) (s0:Qaz) (to_:Int) (close:Int) (late:Int):Option (Qaz×Int):=bnd (QmD x0 t.profile s0.place to_ s0.time) fun r=>br r.2.2 (br (gtI r.1 close) (some (s0,late)) (br (gtI (subK .i64 (addK .i64 s0.driven r.1) s0.time) t.drive) (some (s0,16)) (some ((Qaz.mk to_ r.1 (subK .i64 (addK .i64 s0.driven r.1) s0.time) (addK .i64 s0.miles r.2.1)),0)))) (some (s0,12))
noncomputable def QfI (x0:Qac) (r:Qag) (rests:List Bool) (x1:Qak) (x2:Bool) (l:List Int) (l1:List Qar) (x3:Qaz) (depart:Int) (i:Int):Option ((List Int×List Qar×Qaz×Int×Int)⊕((List Int×List Qar×Qaz×Int)⊕(Qap×List Int×Int))):=br (ltI i (lenI r.visits)) (bnd (getI r.visits i) fun x4=>bnd (Qep x0 x4) fun r3=>bnd (QdD x0 x1 x3 r3.1.place r3.1.close 14) fun r4=>br (neI r4.2 0) (some (.inr (.inr ((Qap.mk false 0 [] 0 0),[],r4.2)))) (chk (okN (l++[r4.1.driven]).length 8) (bnd (getI rests (addK .i64 i 1)) fun x5=>bnd (Qhh x1 (Qaz.mk r4.1.place (addK .i64 (maxI r4.1.time r3.1.open_) r3.1.service) r4.1.driven r4.1.miles) x5) fun r5=>chk (okN (l1++[(Qar.mk r4.1.time (maxI r4.1.time r3.1.open_) r5.time x5)]).length 32) (some (.inl ((l++[r4.1.driven]),(l1++[(Qar.mk r4.1.time (maxI r4.1.time r3.1.open_) r5.time x5)]),r5,depart,(addK .i64 i 1))))))) (some (.inr (.inl (l,l1,x3,depart))))
noncomputable def Qh9 (x0:Qac) (r:Qag) (rests:List Bool):Option (Qap×List Int×Int):=bnd (Qdj x0 r) fun r1=>br ((!r1)||(neI (lenI rests) (addK .i64 (lenI r.visits) 1))) (some ((Qap.mk false 0 [] 0 0),[],2)) (bnd (getI x0.types r.type_) fun x1=>bnd (getI rests 0) fun x2=>bnd (Qhh x1 (Qaz.mk x1.from_ (maxI x1.open_ r.start) 0 0) x2) fun r2=>bnd (loopF (fun s=>QfI x0 r rests x1 x2 s.1 s.2.1 s.2.2.1 s.2.2.2.1 s.2.2.2.2) ([],[],r2,r2.time,0)) (fun e=>sel e (fun e0=>(fun l2 l3 x6 depart1=>bnd (QdD x0 x1 x6 x1.to_ x1.close 15) fun r6=>br (neI r6.2 0) (some ((Qap.mk false 0 [] 0 0),[],r6.2)) (chk (okN (l2++[r6.1.driven]).length 8) (some ((Qap.mk x2 depart1 l3 r6.1.time r6.1.miles),(l2++[r6.1.driven]),0)))) e0.1 e0.2.1 e0.2.2.1 e0.2.2.2) (fun r7=>some r7)))
noncomputable def Qe7 (x0:Qac) (r:Qag) (rests:List Bool):Option (Qap×Int):=bnd (Qh9 x0 r rests) fun r1=>some (r1.1,r1.2.2)
noncomputable def Qfo (n:Int) (l:List Bool) (i:Int):Option ((List Bool×Int)⊕((Unit)⊕(List Bool×Bool))):=br (geI i n) (bnd (getI l i) fun x0=>br x0 (some (.inl ((setI l i false),(subK .i64 i 1)))) (some (.inr (.inr ((setI l i true),true))))) (some (.inr (.inl ())))
noncomputable def Qf9 (rests:List Bool) (n:Int):Option (List Bool×Bool):=chk (okN rests.length 1) (bnd (loopF (fun s=>Qfo n s.1 s.2) (rests,(subK .i64 (lenI rests) 1))) (fun e=>sel e (fun (_:Unit)=>some ([],false)) (fun r=>some r)))
noncomputable def Qgv (x0:Qac) (r:Qag) (l:List Bool) (r2:Qap×Int) (rests:List Bool) (rests1:List Bool) (x2:Qap) (found1:Bool):Option ((List Bool×Qap×List Bool×Bool×Bool)⊕(Qap×Bool)):=bnd (Qf9 rests1 (lenI rests)) fun r5=>some (.inl (rests,x2,r5.1,found1,r5.2))
noncomputable def Qfn (x0:Qac) (r:Qag) (l:List Bool) (r2:Qap×Int) (rests:List Bool) (x1:Qap) (rests1:List Bool) (found:Bool) (more:Bool):Option ((List Bool×Qap×List Bool×Bool×Bool)⊕(Qap×Bool)):=br more (bnd (Qe7 x0 (Qag.mk r.type_ r.start rests r.visits) rests1) fun r4=>br ((eqI r4.2 0)&&((!found)||(ltI r4.1.end_ x1.end_))) (Qgv x0 r l r2 rests rests1 r4.1 true) (Qgv x0 r l r2 rests rests1 x1 found)) (some (.inr (x1,found)))
noncomputable def Qf8 (x0:Qac) (r:Qag):Option (Qap×Int):=bnd (Qdj x0 r) fun r1=>br ((!r1)||(gtI (lenI r.rests) (addK .i64 (lenI r.visits) 1))) (some ((Qap.mk false 0 [] 0 0),2)) (bnd (mkI (addK .i64 (lenI r.visits) 1) (addK .i64 (lenI r.visits) 1) 1 false) fun l=>bnd (Qe7 x0 r (cpyL l r.rests)) fun r2=>bnd (Qf9 (cpyL l r.rests) (lenI r.rests)) fun r3=>bnd (loopF (fun s=>Qfn x0 r l r2 s.1 s.2.1 s.2.2.1 s.2.2.2.1 s.2.2.2.2) (r.rests,r2.1,r3.1,(eqI r2.2 0),r3.2)) (fun e0=>(fun x3 found2=>br found2 (some (x3,0)) (some ((Qap.mk false 0 [] 0 0),r2.2))) e0.1 e0.2))
noncomputable def Qcr (l:List Qaa) (at_:Int) (i:Int):Option ((Int)⊕((Unit)⊕(Bool))):=br (ltI i at_) (bnd (getI l i) fun x0=>bnd (getI l at_) fun x1=>br (eqI x0.order x1.order) (some (.inr (.inr false))) (some (.inl (addK .i64 i 1)))) (some (.inr (.inl ())))
noncomputable def Qg7 (l:List Qaa) (at_:Int):Option Bool:=bnd (loopF (fun s=>Qcr l at_ s) 0) (fun e=>sel e (fun (_:Unit)=>some true) (fun r=>some r))
noncomputable def QfV (x0:Qac) (r:Qag) (s0:Qap) (x1:Qak) (other:Int) (i:Int) (x2:Qaa) (moved1:Int):Option ((Int×Int×Int)⊕(Int×Int)):=bnd (getI x0.orders x2.order) fun x4=>br (neI x4.last_ (-1)) (br (neI x4.last_ r.type_) (some (.inl (moved1,(addK .i64 other 1),(addK .i64 i 1)))) (some (.inl (moved1,other,(addK .i64 i 1))))) (some (.inl (moved1,other,(addK .i64 i 1))))
noncomputable def Qci (x0:Qac) (r:Qag) (s0:Qap) (x1:Qak) (moved:Int) (other:Int) (i:Int):Option ((Int×Int×Int)⊕(Int×Int)):=br (ltI i (lenI r.visits)) (bnd (getI r.visits i) fun x2=>br ((ltI x2.order 0)||(geI x2.order (lenI x0.orders))) (some (.inl (moved,other,(addK .i64 i 1)))) (bnd (Qg7 r.visits i) fun r1=>br r1 (bnd (getI x0.orders x2.order) fun x3=>br (neI x3.now (-1)) (br (neI x3.now r.type_) (QfV x0 r s0 x1 other i x2 (addK .i64 moved 1)) (QfV x0 r s0 x1 other i x2 moved)) (br (neI x3.last_ (-1)) (br (neI x3.last_ r.type_) (some (.inl (moved,(addK .i64 other 1),(addK .i64 i 1)))) (some (.inl (moved,other,(addK .i64 i 1))))) (some (.inl (moved,other,(addK .i64 i 1)))))) (some (.inl (moved,other,(addK .i64 i 1)))))) (some (.inr (moved,other)))
noncomputable def Qgw (x0:Qac) (r:Qag) (s0:Qap):Option QaF:=br ((ltI r.type_ 0)||(geI r.type_ (lenI x0.types))) (some (QaF.mk 0 0 0 0)) (bnd (getI x0.types r.type_) fun x1=>bnd (loopF (fun s=>Qci x0 r s0 x1 s.1 s.2.1 s.2.2) (0,0,0)) (fun e0=>(fun moved2 other1=>some (QaF.mk (addK .i64 (addK .i64 x1.fixed (mulK .i64 x1.perMile s0.miles)) (mulK .i64 x1.perTick (subK .i64 s0.end_ x1.open_))) moved2 other1 (mulK .i64 (quoK .i64 (subK .i64 s0.end_ x1.open_) 64) (quoK .i64 (subK .i64 s0.end_ x1.open_) 64)))) e0.1 e0.2))
noncomputable def QbF (x0:Qac) (r:Qag) (i:Int):Option ((Int)⊕((Unit)⊕(Qap×QaF×Int))):=br (ltI i (lenI r.visits)) (bnd (getI x0.types r.type_) fun x1=>bnd (getI r.visits i) fun x2=>bnd (getI x0.orders x2.order) fun x3=>bnd (Qhe x1 x3.skills) fun r2=>br r2 (some (.inl (addK .i64 i 1))) (some (.inr (.inr ((Qap.mk false 0 [] 0 0),(QaF.mk 0 0 0 0),18))))) (some (.inr (.inl ())))
noncomputable def QdK (x0:Qac) (r:Qag):Option (Qap×QaF×Int):=br ((ltI r.type_ 0)||(geI r.type_ (lenI x0.types))) (some ((Qap.mk false 0 [] 0 0),(QaF.mk 0 0 0 0),2)) (bnd (Qgu x0 r) fun r1=>br (neI r1 0) (some ((Qap.mk false 0 [] 0 0),(QaF.mk 0 0 0 0),r1)) (bnd (loopF (fun s=>QbF x0 r s) 0) (fun e=>sel e (fun (_:Unit)=>bnd (Qhf x0 r) fun r3=>br (neI r3 0) (some ((Qap.mk false 0 [] 0 0),(QaF.mk 0 0 0 0),r3)) (bnd (Qf8 x0 r) fun r4=>br (neI r4.2 0) (some ((Qap.mk false 0 [] 0 0),(QaF.mk 0 0 0 0),r4.2)) (bnd (Qgw x0 r r4.1) fun r5=>some (r4.1,r5,0)))) (fun r6=>some r6))))
noncomputable def QjB (s0:QaF):Option Bool:=some ((((((((geI s0.cost 0)&&(leI s0.cost 1073741824))&&(geI s0.moved 0))&&(leI s0.moved 15))&&(geI s0.other 0))&&(leI s0.other 15))&&(geI s0.work 0))&&(leI s0.work 65535))
noncomputable def Qg6 (s0:QaF):Option (Int×Int):=br ((((ltI s0.cost 0)||(ltI s0.moved 0))||(ltI s0.other 0))||(ltI s0.work 0)) (some (0,2)) (bnd (QjB s0) fun r=>br r (some ((addK .i64 (mulK .i64 (addK .i64 (mulK .i64 (addK .i64 (mulK .i64 s0.cost 16) s0.moved) 16) s0.other) 65536) s0.work),0)) (some (0,4)))
noncomputable def Qez (x0:Qac) (r:Qag):Option (Int×Int):=bnd (QdK x0 r) fun r1=>br (neI r1.2.2 0) (some (0,r1.2.2)) (bnd (Qg6 r1.2.1) fun r2=>some (r2.1,r2.2))
noncomputable def QfJ (i:Int) (set_1:Int) (k:Int):Option ((Int×Int)⊕(Int)):=br (ltI k i) (some (.inl ((quoK .i64 set_1 2),(addK .i64 k 1)))) (some (.inr set_1))
noncomputable def QpJ (set_:Int) (i:Int):Option Bool:=bnd (loopF (fun s=>QfJ i s.1 s.2) (set_,0)) (fun set_2=>some (eqI (remK set_2 2) 1))
noncomputable def Qgy (l:List Qaa) (v:Qaa) (i:Int):Option ((Int)⊕((Unit)⊕(Bool))):=br (ltI i (lenI l)) (bnd (getI l i) fun x0=>br (eqI x0.order v.order&&(eqB x0.drop v.drop&&true)) (some (.inr (.inr true))) (some (.inl (addK .i64 i 1)))) (some (.inr (.inl ())))
noncomputable def Qoa (l:List Qaa) (v:Qaa):Option Bool:=bnd (loopF (fun s=>Qgy l v s) 0) (fun e=>sel e (fun (_:Unit)=>some false) (fun r=>some r))
noncomputable def QgQ (l:List Qah) (at_:Int) (l1:List Qaa):Option (List Qaa):=bnd (getI l at_) fun x1=>br (geI x1.drop.place 0) (chk (okN (l1++[(Qaa.mk at_ true)]).length 16) (some (l1++[(Qaa.mk at_ true)]))) (some l1)
noncomputable def QlH (l:List Qah) (at_:Int):Option (List Qaa):=bnd (QbW at_ 0 (subK .i64 (lenI l) 1)) fun r=>br r (bnd (getI l at_) fun x0=>br (geI x0.pick.place 0) (chk (okN [(Qaa.mk at_ false)].length 16) (QgQ l at_ [(Qaa.mk at_ false)])) (QgQ l at_ [])) (some [])
noncomputable def Qfp (x0:Qac) (set_:Int) (l:List Qaa) (i:Int) (r1:List Qaa) (l2:List Qaa) (k:Int):Option ((List Qaa×Int)⊕(List Qaa)):=br (ltI k (lenI r1)) (bnd (getI r1 k) fun x1=>bnd (Qoa l x1) fun r2=>br r2 (some (.inl (l2,(addK .i64 k 1)))) (chk (okN (l2++[x1]).length 16) (some (.inl ((l2++[x1]),(addK .i64 k 1)))))) (some (.inr l2))
noncomputable def Qei (x0:Qac) (set_:Int) (l:List Qaa) (l1:List Qaa) (i:Int):Option ((List Qaa×Int)⊕(List Qaa)):=br (ltI i (lenI x0.orders)) (bnd (QpJ set_ i) fun r=>br r (bnd (QlH x0.orders i) fun r1=>bnd (loopF (fun s=>Qfp x0 set_ l i r1 s.1 s.2) (l1,0)) (fun l3=>some (.inl (l3,(addK .i64 i 1))))) (some (.inl (l1,(addK .i64 i 1))))) (some (.inr l1))
noncomputable def QoB (x0:Qac) (set_:Int) (l:List Qaa):Option (List Qaa):=bnd (loopF (fun s=>Qei x0 set_ l s.1 s.2) ([],0)) (fun l4=>some l4)
noncomputable def QiS (self:QaR→Qag→Option QaR) (r1:List Qaa) (x0:QaR) (x1:Qag) (i:Int):Option ((QaR×Qag×Int)⊕(QaR)):=br (ltI i (lenI r1)) (chk (okN x1.visits.length 16) (bnd (getI r1 i) fun x2=>chk (okN (x1.visits++[x2]).length 16) (br x2.drop (bnd (Qoa r1 (Qaa.mk x2.order false)) fun r4=>br r4 (some (.inl (x0,x1,(addK .i64 i 1)))) (bnd (self x0 (Qag.mk x1.type_ x1.start x1.rests (x1.visits++[x2]))) fun r5=>some (.inl (r5,x1,(addK .i64 i 1))))) (bnd (self x0 (Qag.mk x1.type_ x1.start x1.rests (x1.visits++[x2]))) fun r6=>some (.inl (r6,x1,(addK .i64 i 1))))))) (some (.inr x0))
noncomputable def QjE (self:QaR→Qag→Option QaR) (f:QaR) (r:Qag):Option QaR:=bnd (QoB f.x f.set_ r.visits) fun r1=>br ((eqI (lenI r1) 0)||(gtI (lenI r.rests) (lenI r.visits))) (bnd (QcW r) fun r2=>br (((neI r2.2 0)||(neI r2.1 f.set_))||(gtI (lenI r1) 0)) (some f) (bnd (Qez f.x r) fun r3=>br ((eqI r3.2 0)&&((!f.ok)||(ltI r3.1 f.price))) (some (QaR.mk f.x f.set_ true r r3.1)) (some f))) (bnd (loopF (fun s=>QiS self r1 s.1 s.2.1 s.2.2) (f,r,0)) (fun x3=>some x3))
noncomputable def QfY:Nat→QaR→Qag→Option QaR|0=>fun _ _=>none|n+1=>fun f r=>QjE (QfY n) f r
noncomputable def Qho (before:List QaC) (l:List Int) (l2:List Int) (more1:Bool) (v:Int):Option ((List Int×Bool×Int)⊕(List Int×Bool)):=br (ltI v (lenI before)) (bnd (getI before v) fun x0=>br ((((ltI x0.x0 0)||(ltI x0.x1 0))||(geI x0.x0 (lenI l2)))||(geI x0.x1 (lenI l2))) (some (.inl (l2,more1,(addK .i64 v 1)))) (bnd (getI l2 x0.x1) fun x1=>bnd (getI l2 x0.x0) fun x2=>chk ((0:Int)≤x0.x0) (br (neI (orK .i64 (orK .i64 x1 x2) (shlK .i64 1 x0.x0)) x1) (some (.inl ((setI l2 x0.x1 (orK .i64 (orK .i64 x1 x2) (shlK .i64 1 x0.x0))),true,(addK .i64 v 1)))) (some (.inl (l2,more1,(addK .i64 v 1))))))) (some (.inr (l2,more1)))
noncomputable def Qhn (before:List QaC) (l:List Int) (l1:List Int) (more:Bool):Option ((List Int×Bool)⊕(List Int)):=br more (bnd (loopF (fun s=>Qho before l s.1 s.2.1 s.2.2) (l1,false,0)) (fun e0=>(fun l3 more2=>some (.inl (l3,more2))) e0.1 e0.2)) (some (.inr l1))
noncomputable def QgW (orders:Int) (before:List QaC):Option (List Int):=bnd (mkI (maxI orders 0) (maxI orders 0) 8 0) fun l=>bnd (loopF (fun s=>Qhn before l s.1 s.2) (l,true)) (fun l4=>some l4)
noncomputable def QbK (x0:Qac) (set_:Int) (r:List Int) (v:Int):Option ((Int)⊕((Unit)⊕(Int))):=br (ltI v (lenI r)) (bnd (getI r v) fun x1=>br (geI x1 (lenI x0.orders)) (some (.inr (.inr 2))) (some (.inl (addK .i64 v 1)))) (some (.inr (.inl ())))
noncomputable def QbC (x0:Qac) (set_:Int) (r:List Int) (v1:Int):Option ((Int)⊕((Unit)⊕(Int))):=br (ltI v1 (lenI r)) (bnd (getI r v1) fun x2=>bnd (getI x0.orders x2) fun x3=>br x3.off (some (.inr (.inr 9))) (some (.inl (addK .i64 v1 1)))) (some (.inr (.inl ())))
noncomputable def Qbu (x0:Qac) (set_:Int) (r:List Int) (v2:Int):Option ((Int)⊕((Unit)⊕(Int))):=br (ltI v2 (lenI x0.apart)) (bnd (getI x0.apart v2) fun x4=>bnd (Qko set_ x4.x0) fun r1=>br r1 (bnd (Qko set_ x4.x1) fun r2=>br r2 (some (.inr (.inr 20))) (some (.inl (addK .i64 v2 1)))) (some (.inl (addK .i64 v2 1)))) (some (.inr (.inl ())))
noncomputable def Qbl (x0:Qac) (set_:Int) (r:List Int) (v3:Int):Option ((Int)⊕((Unit)⊕(Int))):=br (ltI v3 (lenI x0.before)) (bnd (getI x0.before v3) fun x5=>bnd (Qko set_ x5.x1) fun r3=>br r3 (bnd (Qko set_ x5.x0) fun r4=>br r4 (some (.inl (addK .i64 v3 1))) (some (.inr (.inr 21)))) (some (.inl (addK .i64 v3 1)))) (some (.inr (.inl ())))
noncomputable def Qbg (r:List Int) (r5:List Int) (v4:Int):Option ((Int)⊕((Unit)⊕(Int))):=br (ltI v4 (lenI r)) (bnd (getI r v4) fun x6=>bnd (getI r5 x6) fun x7=>bnd (Qko x7 x6) fun r6=>br r6 (some (.inr (.inr 21))) (some (.inl (addK .i64 v4 1)))) (some (.inr (.inl ())))
noncomputable def QgF (x0:Qac) (set_:Int):Option Int:=br (ltI set_ 0) (some 2) (bnd (QiT set_) fun r=>bnd (loopF (fun s=>QbK x0 set_ r s) 0) (fun e=>sel e (fun (_:Unit)=>bnd (loopF (fun s=>QbC x0 set_ r s) 0) (fun e=>sel e (fun (_:Unit)=>bnd (loopF (fun s=>Qbu x0 set_ r s) 0) (fun e=>sel e (fun (_:Unit)=>bnd (loopF (fun s=>Qbl x0 set_ r s) 0) (fun e=>sel e (fun (_:Unit)=>bnd (QgW (lenI x0.orders) x0.before) fun r5=>bnd (loopF (fun s=>Qbg r r5 s) 0) (fun e=>sel e (fun (_:Unit)=>some 0) (fun r7=>some r7))) (fun r8=>some r8))) (fun r9=>some r9))) (fun r10=>some r10))) (fun r11=>some r11)))
noncomputable def QaP (s0:List Qal) (v:Qal) (v1:Int):Option ((Int)⊕((Unit)⊕(Int))):=br (ltI v1 (lenI s0)) (bnd (getI s0 v1) fun x0=>br (eqI v.ready x0.ready&&(eqI v.driven x0.driven&&true)) (some (.inr (.inr v1))) (some (.inl (addK .i64 v1 1)))) (some (.inr (.inl ())))
noncomputable def QbH (s0:List Qal) (v:Qal):Option Int:=bnd (loopF (fun s=>QaP s0 v s) 0) (fun e=>sel e (fun (_:Unit)=>some (-1)) (fun r=>some r))
noncomputable def Qb3 (s0:List Qal) (v:Qal):Option Bool:=bnd (QbH s0 v) fun r=>some (geI r 0)
noncomputable def QgB (l:List Qal) (s0:Qal):Option (List Qal):=bnd (Qb3 l s0) fun r=>br r (some l) (chk (okN (l++[s0]).length 16) (some (l++[s0])))
noncomputable def QlE (s0:Qau) (arrive:Int):Option (Int×Int):=bnd (Qks s0 arrive) fun r=>br (neI r.2 0) (some (0,r.2)) (some ((addK .i64 r.1 s0.service),0))
noncomputable def Qb2 (s0:List Qaa):Option (List Qaa):=bnd (slcI s0 0 (lenI s0)) fun l=>some l
noncomputable def Qdz (best:Qae) (some_:Bool) (next_:Qae):Option Qae:=br some_ (bnd (QdQ next_ best) fun r=>br r (some next_) (some best)) (some next_)
noncomputable def Qe2 (s0:Qaq) (l:List Qal) (depart:Int) (driven:Int):Option (List Qal×Qaq):=bnd (QgB l (Qal.mk depart driven)) fun r=>bnd (getI s0.x.types s0.kind) fun x0=>bnd (QgB r (Qal.mk (addK .i64 depart x0.rest_) 0)) fun r1=>some (r1,s0)
noncomputable def Qd7 (from_:Int) (l:List Qal) (stop:Qau) (x0:Qak) (l1:List Qal) (x1:Qaq) (v:Int):Option ((List Qal×Qaq×Int)⊕(List Qal×Qaq)):=br (ltI v (lenI l)) (bnd (getI l v) fun x2=>bnd (Qnn x1.x.net x0.profile from_ stop.place x2.ready) fun r=>br ((neI r.2.2 0)||(gtI (subK .i64 (addK .i64 x2.driven r.1) x2.ready) x0.drive)) (some (.inl (l1,x1,(addK .i64 v 1)))) (bnd (QlE stop r.1) fun r1=>br (neI r1.2 0) (some (.inl (l1,x1,(addK .i64 v 1)))) (bnd (Qe2 x1 l1 r1.1 (subK .i64 (addK .i64 x2.driven r.1) x2.ready)) fun r2=>some (.inl (r2.1,r2.2,(addK .i64 v 1)))))) (some (.inr (l1,x1)))
noncomputable def Qg0 (s0:Qaq) (from_:Int) (l:List Qal) (stop:Qau):Option (List Qal×Qaq):=bnd (getI s0.x.types s0.kind) fun x0=>bnd (loopF (fun s=>Qd7 from_ l stop x0 s.1 s.2.1 s.2.2) ([],s0,0)) (fun e0=>(fun l2 x3=>some (l2,x3)) e0.1 e0.2)
noncomputable def QeE (self:Qaq→(List Qaa)→Int→(List Qal)→Option Qaq) (visits:List Qaa) (from_:Int) (l:List Qal) (r2:List Qaa) (x0:Qaq) (v:Int):Option ((Qaq×Int)⊕(Qaq)):=br (ltI v (lenI r2)) (bnd (getI r2 v) fun x1=>bnd (Qpb x0.x.orders x1) fun r3=>br (neI r3.2 0) (some (.inl (x0,(addK .i64 v 1)))) (bnd (Qg0 x0 from_ l r3.1) fun r4=>br (gtI (lenI r4.1) 0) (bnd (Qb2 visits) fun r5=>chk (okN (r5++[x1]).length 16) (bnd (self r4.2 (r5++[x1]) r3.1.place r4.1) fun r6=>some (.inl (r6,(addK .i64 v 1))))) (some (.inl (r4.2,(addK .i64 v 1)))))) (some (.inr x0))
noncomputable def Qgg (self:Qaq→(List Qaa)→Int→(List Qal)→Option Qaq) (s0:Qaq) (visits:List Qaa) (from_:Int) (l:List Qal):Option Qaq:=br (eqI (lenI visits) s0.total) (bnd (Qhm s0.x (Qag.mk s0.kind 0 [] visits)) fun r=>br (eqI r.2 0) (bnd (Qdz s0.best s0.found (Qae.mk s0.kind s0.set_ r.1 (Qag.mk s0.kind 0 [] visits))) fun r1=>some (Qaq.mk s0.x s0.kind s0.set_ s0.total r1 true)) (some s0)) (bnd (QlA s0.x s0.set_ visits) fun r2=>bnd (loopF (fun s=>QeE self visits from_ l r2 s.1 s.2) (s0,0)) (fun x2=>some x2))
noncomputable def Qd8:Nat→Qaq→(List Qaa)→Int→(List Qal)→Option Qaq|0=>fun _ _ _ _=>none|n+1=>fun s0 visits from_ l=>Qgg (Qd8 n) s0 visits from_ l
noncomputable def QmP (s0:Qaq) (visits:List Qaa) (from_:Int) (l:List Qal):Option Qaq:=Qd8 QnQ s0 visits from_ l
noncomputable def Qeu (s0:Qaq) (depart:Int) (driven:Int):Option (List Qal×Qaq):=bnd (QgB [] (Qal.mk depart driven)) fun r=>bnd (getI s0.x.types s0.kind) fun x0=>bnd (QgB r (Qal.mk (addK .i64 depart x0.rest_) 0)) fun r1=>some (r1,s0)
noncomputable def Qf1 (x0:Qac) (kind:Int) (set_:Int) (r1:List Int) (total:Int) (v:Int):Option ((Int×Int)⊕(Int)):=br (ltI v (lenI r1)) (bnd (getI r1 v) fun x1=>bnd (QgV x0.orders x1) fun r2=>some (.inl ((addK .i64 total (lenI r2)),(addK .i64 v 1)))) (some (.inr total))
noncomputable def QnK (x0:Qac) (kind:Int) (set_:Int):Option (Qae×Int):=br (((ltI kind 0)||(geI kind (lenI x0.types)))||(leI set_ 0)) (some ((Qae.mk 0 0 0 (Qag.mk 0 0 [] [])),2)) (chk ((0:Int)≤(lenI x0.orders)) (br (neI (shrK .i64 set_ (lenI x0.orders)) 0) (some ((Qae.mk 0 0 0 (Qag.mk 0 0 [] [])),2)) (bnd (QgF x0 set_) fun r=>br (neI r 0) (some ((Qae.mk 0 0 0 (Qag.mk 0 0 [] [])),24)) (bnd (QiT set_) fun r1=>bnd (loopF (fun s=>Qf1 x0 kind set_ r1 s.1 s.2) (0,0)) (fun total1=>bnd (getI x0.types kind) fun x2=>bnd (Qeu (Qaq.mk x0 kind set_ total1 (Qae.mk 0 0 0 (Qag.mk 0 0 [] [])) false) x2.open_ 0) fun r3=>bnd (QmP r3.2 [] x2.from_ r3.1) fun r4=>br r4.found (some (r4.best,0)) (some ((Qae.mk 0 0 0 (Qag.mk 0 0 [] [])),24)))))))
noncomputable def QgK (x0:Qac):Option Bool:=br ((leI (lenI x0.orders) 3)&&(leI (lenI x0.types) 3)) (bnd (QhP x0) fun r=>some (eqI (lenI r) 0)) (some false)
noncomputable def Qh3 (x0:Qac) (l:List Qae) (v:Int) (l1:List Qae) (set_:Int):Option ((List Qae×Int)⊕(List Qae)):=chk ((0:Int)≤(lenI x0.orders)) (br (eqI (shrK .i64 set_ (lenI x0.orders)) 0) (bnd (QnK x0 v set_) fun r=>br (eqI r.2 0) (chk (okN (l1++[r.1]).length 88) (some (.inl ((l1++[r.1]),(addK .i64 set_ 1))))) (some (.inl (l1,(addK .i64 set_ 1))))) (some (.inr l1)))
noncomputable def Qhc (x0:Qac) (l:List Qae) (v:Int):Option ((List Qae×Int)⊕(List Qae)):=br (ltI v (lenI x0.types)) (bnd (loopF (fun s=>Qh3 x0 l v s.1 s.2) (l,1)) (fun l2=>some (.inl (l2,(addK .i64 v 1))))) (some (.inr l))
noncomputable def Qsf (x0:Qac):Option (List Qae×Int):=bnd (loopF (fun s=>Qhc x0 s.1 s.2) ([],0)) (fun l3=>some (l3,0))
noncomputable def Qor (a:List Qaa) (b:List Qaa):Option Bool:=bnd (Qbd a b) fun r=>some r
noncomputable def Qpv (a:Qae) (b:Qae):Option Bool:=br (((((eqI a.type_ b.type_)&&(eqI a.set_ b.set_))&&(eqI a.price b.price))&&(eqI a.route.type_ b.route.type_))&&(eqI a.route.start b.route.start)) (bnd (Qcc a.route.rests b.route.rests) fun r=>br r (bnd (Qor a.route.visits b.route.visits) fun r1=>some r1) (some false)) (some false)
noncomputable def QiI:Option Qac:=some (Qac.mk (Qam.mk [Qxw,Qxv] [(Qas.mk 0 1 0 10 [(Qao.mk 0 20)] []),(Qas.mk 1 0 0 10 [(Qao.mk 0 20)] [])]) [(Qak.mk Qxz 1 0 0 [5] 0 0 0 1000 1000 0 5 1 0)] [(Qah.mk Qze [1] (Qau.mk (-1) 0 0 0) (Qau.mk 1 0 50 0) 0 0 1 (-1) (-1) false)] [] [])
noncomputable def Qbk:Option Bool:=bnd (QiI) fun r=>bnd (QnK r 0 1) fun r1=>bnd (QiI) fun r2=>bnd (Qsf r2) fun r3=>br ((((((eqI r1.2 0)&&(eqI r1.1.set_ 1))&&(eqI r1.1.price 419430400))&&(eqI (lenI r1.1.route.visits) 1))&&(eqI r3.2 0))&&(eqI (lenI r3.1) 1)) (bnd (getI r3.1 0) fun x0=>bnd (Qpv x0 r1.1) fun r4=>br r4 (bnd (QdQ r1.1 r1.1) fun r5=>some (!r5)) (some false)) (some false)
noncomputable def Qb4 (x0:Qac) (set_:Int) (left:Int) (i:Int):Option ((Int×Int)⊕(Int)):=br ((ltI i (lenI x0.orders))&&(ltI i 63)) (some (.inl ((quoK .i64 left 2),(addK .i64 i 1)))) (some (.inr left))
noncomputable def Qg8 (x0:Qac) (set_:Int):Option Bool:=bnd (loopF (fun s=>Qb4 x0 set_ s.1 s.2) (set_,0)) (fun left1=>some ((gtI set_ 0)&&(eqI left1 0)))
noncomputable def QhX (x0:Qac) (r:Qag):Option Int:=bnd (QdK x0 r) fun r1=>some r1.2.2
noncomputable def Qjz (a:Qaa) (b:Qaa):Option Bool:=some ((ltI a.order b.order)||(((eqI a.order b.order)&&(!a.drop))&&b.drop))
noncomputable def Qc6 (a:List Qaa) (b:List Qaa) (i:Int):Option ((Int)⊕((Unit)⊕(Bool))):=br ((ltI i (lenI a))&&(ltI i (lenI b))) (bnd (getI a i) fun x0=>bnd (getI b i) fun x1=>br (eqI x0.order x1.order&&(eqB x0.drop x1.drop&&true)) (some (.inl (addK .i64 i 1))) (bnd (Qjz x0 x1) fun r=>some (.inr (.inr r)))) (some (.inr (.inl ())))
noncomputable def Qiy (a:List Qaa) (b:List Qaa):Option Bool:=bnd (loopF (fun s=>Qc6 a b s) 0) (fun e=>sel e (fun (_:Unit)=>some (ltI (lenI a) (lenI b))) (fun r1=>some r1))
noncomputable def QdX (a:Qae) (b:Qae):Option Bool:=br (neI a.price b.price) (some (ltI a.price b.price)) (bnd (Qiy a.route.visits b.route.visits) fun r=>some r)
noncomputable def QcH (x0:Qac) (order:Int) (l:List Qaa) (i:Int):Option ((Int)⊕((Unit)⊕(Bool))):=br (ltI i (lenI x0.before)) (bnd (getI x0.before i) fun x1=>br (eqI x1.x1 order) (br ((ltI x1.x0 0)||(geI x1.x0 (lenI x0.orders))) (some (.inr (.inr false))) (bnd (Qe0 x0 x1.x0) fun r=>bnd (QeW l r) fun r1=>br r1 (some (.inl (addK .i64 i 1))) (some (.inr (.inr false))))) (some (.inl (addK .i64 i 1)))) (some (.inr (.inl ())))
noncomputable def QhS (x0:Qac) (order:Int) (l:List Qaa):Option Bool:=bnd (loopF (fun s=>QcH x0 order l s) 0) (fun e=>sel e (fun (_:Unit)=>some true) (fun r2=>some r2))
noncomputable def Qc7 (x0:Qac) (set_:Int) (l:List Qaa) (i:Int) (r2:List Qaa) (l2:List Qaa) (k:Int):Option ((List Qaa×Int)⊕(List Qaa)):=br (ltI k (lenI r2)) (bnd (getI r2 k) fun x2=>bnd (QbY l x2) fun r3=>br (ltI r3 0) (br (eqI k 0) (chk (okN (l2++[x2]).length 16) (some (.inl ((l2++[x2]),(addK .i64 k 1))))) (bnd (getI r2 0) fun x3=>bnd (QbY l x3) fun r4=>br (geI r4 0) (chk (okN (l2++[x2]).length 16) (some (.inl ((l2++[x2]),(addK .i64 k 1))))) (some (.inl (l2,(addK .i64 k 1)))))) (some (.inl (l2,(addK .i64 k 1))))) (some (.inr l2))
noncomputable def Qcx (x0:Qac) (set_:Int) (l:List Qaa) (l1:List Qaa) (i:Int):Option ((List Qaa×Int)⊕(List Qaa)):=br (ltI i (lenI x0.orders)) (bnd (QdJ set_ i) fun r=>br r (bnd (getI x0.orders i) fun x1=>br x1.off (some (.inl (l1,(addK .i64 i 1)))) (bnd (QhS x0 i l) fun r1=>br r1 (bnd (Qe0 x0 i) fun r2=>bnd (loopF (fun s=>Qc7 x0 set_ l i r2 s.1 s.2) (l1,0)) (fun l3=>some (.inl (l3,(addK .i64 i 1))))) (some (.inl (l1,(addK .i64 i 1)))))) (some (.inl (l1,(addK .i64 i 1))))) (some (.inr l1))
noncomputable def Qiz (x0:Qac) (set_:Int) (l:List Qaa):Option (List Qaa):=bnd (loopF (fun s=>Qcx x0 set_ l s.1 s.2) ([],0)) (fun l4=>some l4)
noncomputable def Qeh (self:Qac→Qae→Bool→(List Qaa)→Option (Qae×Bool)) (x0:Qac) (l:List Qaa) (r:List Qaa) (x1:Qae) (found1:Bool) (i:Int):Option ((Qae×Bool×Int)⊕(Qae×Bool)):=br (ltI i (lenI r)) (chk (okN l.length 16) (bnd (getI r i) fun x2=>chk (okN (l++[x2]).length 16) (bnd (self x0 x1 found1 (l++[x2])) fun r5=>some (.inl (r5.1,r5.2,(addK .i64 i 1)))))) (some (.inr (x1,found1)))
noncomputable def QfX (self:Qac→Qae→Bool→(List Qaa)→Option (Qae×Bool)) (x0:Qac) (best:Qae) (found:Bool) (l:List Qaa):Option (Qae×Bool):=bnd (Qiz x0 best.set_ l) fun r=>br (eqI (lenI r) 0) (bnd (QcW (Qag.mk best.type_ 0 [] l)) fun r1=>br (neI r1.1 best.set_) (some (best,found)) (bnd (QhX x0 (Qag.mk best.type_ 0 [] l)) fun r2=>br (neI r2 0) (some (best,found)) (bnd (Qez x0 (Qag.mk best.type_ 0 [] l)) fun r3=>br (neI r3.2 0) (some (best,found)) (br found (bnd (QdX (Qae.mk best.type_ best.set_ r3.1 (Qag.mk best.type_ 0 [] l)) best) fun r4=>br r4 (some ((Qae.mk best.type_ best.set_ r3.1 (Qag.mk best.type_ 0 [] l)),true)) (some (best,found))) (some ((Qae.mk best.type_ best.set_ r3.1 (Qag.mk best.type_ 0 [] l)),true)))))) (bnd (loopF (fun s=>Qeh self x0 l r s.1 s.2.1 s.2.2) (best,found,0)) (fun e0=>(fun x3 found2=>some (x3,found2)) e0.1 e0.2))
noncomputable def QdL:Nat→Qac→Qae→Bool→(List Qaa)→Option (Qae×Bool)|0=>fun _ _ _ _=>none|n+1=>fun x0 best found l=>QfX (QdL n) x0 best found l
noncomputable def QlK (x0:Qac) (best:Qae) (found:Bool) (l:List Qaa):Option (Qae×Bool):=QdL QnQ x0 best found l
noncomputable def Qhi (x0:Qac) (kind:Int) (set_:Int):Option (Qae×Int):=br ((ltI kind 0)||(geI kind (lenI x0.types))) (some ((Qae.mk 0 0 0 (Qag.mk 0 0 [] [])),2)) (bnd (Qg8 x0 set_) fun r=>br r (bnd (QlK x0 (Qae.mk kind set_ 0 (Qag.mk 0 0 [] [])) false []) fun r1=>br r1.2 (some (r1.1,0)) (some ((Qae.mk 0 0 0 (Qag.mk 0 0 [] [])),24))) (some ((Qae.mk 0 0 0 (Qag.mk 0 0 [] [])),2)))
noncomputable def Qbx (a:List Qaa) (b:List Qaa) (i:Int):Option ((Int)⊕((Unit)⊕(Bool))):=br (ltI i (lenI a)) (bnd (getI a i) fun x0=>bnd (getI b i) fun x1=>br (eqI x0.order x1.order&&(eqB x0.drop x1.drop&&true)) (some (.inl (addK .i64 i 1))) (some (.inr (.inr false)))) (some (.inr (.inl ())))
noncomputable def Qf7 (a:List Qaa) (b:List Qaa):Option Bool:=br (neI (lenI a) (lenI b)) (some false) (bnd (loopF (fun s=>Qbx a b s) 0) (fun e=>sel e (fun (_:Unit)=>some true) (fun r=>some r)))
noncomputable def Qby (a:Qae) (b:Qae) (i:Int):Option ((Int)⊕((Unit)⊕(Bool))):=br (ltI i (lenI a.route.rests)) (bnd (getI a.route.rests i) fun x0=>bnd (getI b.route.rests i) fun x1=>br (eqB x0 x1) (some (.inl (addK .i64 i 1))) (some (.inr (.inr false)))) (some (.inr (.inl ())))
noncomputable def Qeq (a:Qae) (b:Qae):Option Bool:=br ((((((neI a.type_ b.type_)||(neI a.set_ b.set_))||(neI a.price b.price))||(neI a.route.type_ b.route.type_))||(neI a.route.start b.route.start))||(neI (lenI a.route.rests) (lenI b.route.rests))) (some false) (bnd (loopF (fun s=>Qby a b s) 0) (fun e=>sel e (fun (_:Unit)=>bnd (Qf7 a.route.visits b.route.visits) fun r=>some r) (fun r1=>some r1)))
noncomputable def QgJ (x0:Qac) (kind:Int) (set_:Int):Option Bool:=bnd (QgK x0) fun r=>br r (bnd (QnK x0 kind set_) fun r1=>bnd (Qhi x0 kind set_) fun r2=>bnd (Qeq r1.1 r2.1) fun r3=>br (r3&&(eqI r1.2 r2.2)) (bnd (Qbk) fun r4=>some r4) (some false)) (bnd (Qbk) fun r5=>some r5)
noncomputable def QcX (x0:Qac) (sets:Int) (i:Int):Option ((Int×Int)⊕(Int)):=br ((ltI i (lenI x0.orders))&&(ltI i 10)) (some (.inl ((mulK .i64 sets 2),(addK .i64 i 1)))) (some (.inr sets))
noncomputable def Qdq (x0:Qac) (sets1:Int) (l:List Qae) (kind:Int) (l1:List Qae) (set_:Int):Option ((List Qae×Int)⊕(List Qae)):=br (ltI set_ sets1) (bnd (Qhi x0 kind set_) fun r=>br (eqI r.2 0) (chk (okN (l1++[r.1]).length 88) (some (.inl ((l1++[r.1]),(addK .i64 set_ 1))))) (some (.inl (l1,(addK .i64 set_ 1))))) (some (.inr l1))
noncomputable def Qcs (x0:Qac) (sets1:Int) (l:List Qae) (kind:Int):Option ((List Qae×Int)⊕(List Qae)):=br (ltI kind (lenI x0.types)) (bnd (loopF (fun s=>Qdq x0 sets1 l kind s.1 s.2) (l,1)) (fun l2=>some (.inl (l2,(addK .i64 kind 1))))) (some (.inr l))
noncomputable def QjD (x0:Qac):Option (List Qae×Int):=bnd (loopF (fun s=>QcX x0 s.1 s.2) (1,0)) (fun sets1=>bnd (loopF (fun s=>Qcs x0 sets1 s.1 s.2) ([],0)) (fun l3=>some (l3,0)))
noncomputable def Qb7 (r1:List Qae×Int) (r2:List Qae×Int) (i:Int):Option ((Int)⊕((Unit)⊕(Bool))):=br (ltI i (lenI r1.1)) (bnd (getI r1.1 i) fun x1=>bnd (getI r2.1 i) fun x2=>bnd (Qeq x1 x2) fun r3=>br r3 (some (.inl (addK .i64 i 1))) (some (.inr (.inr false)))) (some (.inr (.inl ())))
noncomputable def Qh5 (x0:Qac):Option Bool:=bnd (QgK x0) fun r=>br r (bnd (Qsf x0) fun r1=>bnd (QjD x0) fun r2=>br ((neI (lenI r1.1) (lenI r2.1))||(neI r1.2 r2.2)) (some false) (bnd (loopF (fun s=>Qb7 r1 r2 s) 0) (fun e=>sel e (fun (_:Unit)=>bnd (Qbk) fun r4=>some r4) (fun r5=>some r5)))) (bnd (Qbk) fun r6=>some r6)
noncomputable def QbT (x0:Qac) (r1:List Qae×Int) (kind:Int) (n1:Int) (set_:Int):Option ((Int×Int)⊕((Int)⊕(Bool))):=chk ((0:Int)≤(cvK .u64 (lenI x0.orders))) (br (ltI set_ (shlK .i64 1 (cvK .u64 (lenI x0.orders)))) (bnd (QnK x0 kind set_) fun r2=>br (eqI r2.2 24) (some (.inl (n1,(addK .i64 set_ 1)))) (br ((neI r2.2 0)||(geI n1 (lenI r1.1))) (some (.inr (.inr false))) (bnd (getI r1.1 n1) fun x1=>bnd (Qpv x1 r2.1) fun r3=>br r3 (some (.inl ((addK .i64 n1 1),(addK .i64 set_ 1)))) (some (.inr (.inr false)))))) (some (.inr (.inl n1))))
noncomputable def QbS (x0:Qac) (r1:List Qae×Int) (n:Int) (kind:Int):Option ((Int×Int)⊕((Int)⊕(Bool))):=br (ltI kind (lenI x0.types)) (bnd (loopF (fun s=>QbT x0 r1 kind s.1 s.2) (n,1)) (fun e=>sel e (fun n2=>some (.inl (n2,(addK .i64 kind 1)))) (fun r4=>some (.inr (.inr r4))))) (some (.inr (.inl n)))
noncomputable def Qhs (x0:Qac):Option Bool:=bnd (QgK x0) fun r=>br r (bnd (Qsf x0) fun r1=>bnd (loopF (fun s=>QbS x0 r1 s.1 s.2) (0,0)) (fun e=>sel e (fun n3=>br ((eqI r1.2 0)&&(eqI n3 (lenI r1.1))) (bnd (Qbk) fun r5=>some r5) (some false)) (fun r6=>some r6))) (bnd (Qbk) fun r7=>some r7)
noncomputable def Qgd (a:Qae) (b:Qae):Option Bool:=br ((((gtI (lenI a.route.visits) 10)||(gtI (lenI b.route.visits) 10))||(gtI (lenI a.route.rests) 10))||(gtI (lenI b.route.rests) 10)) (bnd (Qbk) fun r=>some r) (bnd (QdQ a b) fun r1=>bnd (QdX a b) fun r2=>br (eqB r1 r2) (bnd (QdQ b a) fun r3=>bnd (QdX b a) fun r4=>br (eqB r3 r4) (bnd (Qpv a b) fun r5=>bnd (Qeq a b) fun r6=>br (eqB r5 r6) (bnd (QdQ a b) fun r7=>br r7 (bnd (QdQ b a) fun r8=>br r8 (some false) (br (eqI a.price b.price) (bnd (Qbk) fun r9=>some r9) (bnd (QdQ a b) fun r10=>br r10 (bnd (Qbk) fun r11=>some r11) (bnd (QdQ b a) fun r12=>br r12 (bnd (Qbk) fun r13=>some r13) (some false))))) (br (eqI a.price b.price) (bnd (Qbk) fun r14=>some r14) (bnd (QdQ a b) fun r15=>br r15 (bnd (Qbk) fun r16=>some r16) (bnd (QdQ b a) fun r17=>br r17 (bnd (Qbk) fun r18=>some r18) (some false))))) (some false)) (some false)) (some false))
end Go.Proofs.YtoedkepcaigkeaaGreatDoor
namespace Go.Proofs.YtoedkepcaigkeaaGreatDoor
set_option linter.unusedVariables false
set_option linter.unusedSectionVars false
set_option linter.unusedSimpArgs false
open Go.RowKit
variable {N : Nat}
theorem oq_9:Opens Tryz.prog N 9 (rdE 1 e_str (fun s:ByteArray=>s.size≤N) (fun _=>rfl)):=QFu Tryz.underlying9 (by kernel_rfl)
theorem oq_22:Opens Tryz.prog N 22 (rdE 1 (fun l:List ByteArray=>[.sl false 1 (l.map e_str)]) (fun l:List (ByteArray)=>l.length≤N∧∀ x∈l,(fun s:ByteArray=>s.size≤N) x) (fun _=>rfl)):=QpK Tryz.underlying22 (by kernel_rfl) oq_9 (by decide)
theorem oq_3:Opens Tryz.prog N 3 (rdE 1 e_i64 isI (fun _=>rfl)):=QFt Tryz.underlying3 (by kernel_rfl)
def Qao.ok (N:Nat) (x:Qao):Prop:=isI x.t∧isI x.a∧True
theorem QFv:Opens Tryz.prog N 117 (rdE 2 Qao.enc (Qao.ok N) (fun _=>rfl)):=Qku Tryz.underlying117 (by kernel_rfl) (.cons rfl oq_3 (.cons rfl oq_3 .nil)) rfl (HE.pair HE.rd (HE.pair HE.rd HE.unit)) (fun a=>⟨a.1,a.2.1⟩) (fun _=>rfl) (fun _ h=>h)
theorem QEU:Opens Tryz.prog N 118 (rdE 1 (fun l:List Qao=>[.sl false 2 (l.map Qao.enc)]) (fun l:List (Qao)=>l.length≤N∧∀ x∈l,(Qao.ok N) x) (fun _=>rfl)):=QpK Tryz.underlying118 (by kernel_rfl) QFv (by decide)
def Qas.ok (N:Nat) (x:Qas):Prop:=isI x.from_∧isI x.to_∧isI x.profile∧isI x.miles∧(fun l:List (Qao)=>l.length≤N∧∀ x∈l,(Qao.ok N) x) x.travel∧(fun l:List (Qao)=>l.length≤N∧∀ x∈l,(Qao.ok N) x) x.slow∧True
theorem QFw:Opens Tryz.prog N 120 (rdE 6 Qas.enc (Qas.ok N) (fun _=>rfl)):=Qku Tryz.underlying120 (by kernel_rfl) (.cons rfl oq_3 (.cons rfl oq_3 (.cons rfl oq_3 (.cons rfl oq_3 (.cons rfl QEU (.cons rfl QEU .nil)))))) rfl (HE.pair HE.rd (HE.pair HE.rd (HE.pair HE.rd (HE.pair HE.rd (HE.pair HE.rd (HE.pair HE.rd HE.unit)))))) (fun a=>⟨a.1,a.2.1,a.2.2.1,a.2.2.2.1,a.2.2.2.2.1,a.2.2.2.2.2.1⟩) (fun _=>rfl) (fun _ h=>h)
theorem oq_23:Opens Tryz.prog N 23 (rdE 1 (fun l:List Qas=>[.sl false 6 (l.map Qas.enc)]) (fun l:List (Qas)=>l.length≤N∧∀ x∈l,(Qas.ok N) x) (fun _=>rfl)):=QpK Tryz.underlying23 (by kernel_rfl) QFw (by decide)
def Qam.ok (N:Nat) (x:Qam):Prop:=(fun l:List (ByteArray)=>l.length≤N∧∀ x∈l,(fun s:ByteArray=>s.size≤N) x) x.places∧(fun l:List (Qas)=>l.length≤N∧∀ x∈l,(Qas.ok N) x) x.arcs∧True
theorem oq_25:Opens Tryz.prog N 25 (rdE 2 Qam.enc (Qam.ok N) (fun _=>rfl)):=Qku Tryz.underlying25 (by kernel_rfl) (.cons rfl oq_22 (.cons rfl oq_23 .nil)) rfl (HE.pair HE.rd (HE.pair HE.rd HE.unit)) (fun a=>⟨a.1,a.2.1⟩) (fun _=>rfl) (fun _ h=>h)
theorem oq_90:Opens Tryz.prog N 90 (rdE 1 (fun l:List Int=>[.sl false 1 (l.map e_i64)]) (fun l:List (Int)=>l.length≤N∧∀ x∈l,isI x) (fun _=>rfl)):=QpK Tryz.underlying90 (by kernel_rfl) oq_3 (by decide)
def Qak.ok (N:Nat) (x:Qak):Prop:=(fun s:ByteArray=>s.size≤N) x.name∧isI x.count∧isI x.from_∧isI x.to_∧(fun l:List (Int)=>l.length≤N∧∀ x∈l,isI x) x.cap∧isI x.skills∧isI x.profile∧isI x.open_∧isI x.close∧isI x.drive∧isI x.rest_∧isI x.fixed∧isI x.perMile∧isI x.perTick∧True
theorem oq_94:Opens Tryz.prog N 94 (rdE 14 Qak.enc (Qak.ok N) (fun _=>rfl)):=Qku Tryz.underlying94 (by kernel_rfl) (.cons rfl oq_9 (.cons rfl oq_3 (.cons rfl oq_3 (.cons rfl oq_3 (.cons rfl oq_90 (.cons rfl oq_3 (.cons rfl oq_3 (.cons rfl oq_3 (.cons rfl oq_3 (.cons rfl oq_3 (.cons rfl oq_3 (.cons rfl oq_3 (.cons rfl oq_3 (.cons rfl oq_3 .nil)))))))))))))) rfl (HE.pair HE.rd (HE.pair HE.rd (HE.pair HE.rd (HE.pair HE.rd (HE.pair HE.rd (HE.pair HE.rd (HE.pair HE.rd (HE.pair HE.rd (HE.pair HE.rd (HE.pair HE.rd (HE.pair HE.rd (HE.pair HE.rd (HE.pair HE.rd (HE.pair HE.rd HE.unit)))))))))))))) (fun a=>⟨a.1,a.2.1,a.2.2.1,a.2.2.2.1,a.2.2.2.2.1,a.2.2.2.2.2.1,a.2.2.2.2.2.2.1,a.2.2.2.2.2.2.2.1,a.2.2.2.2.2.2.2.2.1,a.2.2.2.2.2.2.2.2.2.1,a.2.2.2.2.2.2.2.2.2.2.1,a.2.2.2.2.2.2.2.2.2.2.2.1,a.2.2.2.2.2.2.2.2.2.2.2.2.1,a.2.2.2.2.2.2.2.2.2.2.2.2.2.1⟩) (fun _=>rfl) (fun _ h=>h)
theorem oq_26:Opens Tryz.prog N 26 (rdE 1 (fun l:List Qak=>[.sl false 14 (l.map Qak.enc)]) (fun l:List (Qak)=>l.length≤N∧∀ x∈l,(Qak.ok N) x) (fun _=>rfl)):=QpK Tryz.underlying26 (by kernel_rfl) oq_94 (by decide)
def Qau.ok (N:Nat) (x:Qau):Prop:=isI x.place∧isI x.open_∧isI x.close∧isI x.service∧True
theorem QEV:Opens Tryz.prog N 122 (rdE 4 Qau.enc (Qau.ok N) (fun _=>rfl)):=Qku Tryz.underlying122 (by kernel_rfl) (.cons rfl oq_3 (.cons rfl oq_3 (.cons rfl oq_3 (.cons rfl oq_3 .nil)))) rfl (HE.pair HE.rd (HE.pair HE.rd (HE.pair HE.rd (HE.pair HE.rd HE.unit)))) (fun a=>⟨a.1,a.2.1,a.2.2.1,a.2.2.2.1⟩) (fun _=>rfl) (fun _ h=>h)
theorem oq_4:Opens Tryz.prog N 4 (rdE 1 QaY (fun _:Bool=>True) (fun _=>rfl)):=QEQ Tryz.underlying4 (by kernel_rfl)
def Qah.ok (N:Nat) (x:Qah):Prop:=(fun s:ByteArray=>s.size≤N) x.name∧(fun l:List (Int)=>l.length≤N∧∀ x∈l,isI x) x.load∧(Qau.ok N) x.pick∧(Qau.ok N) x.drop∧isI x.skills∧isI x.penalty∧isI x.split∧isI x.last_∧isI x.now∧(fun _:Bool=>True) x.off∧True
theorem QFx:Opens Tryz.prog N 124 (rdE 16 Qah.enc (Qah.ok N) (fun _=>rfl)):=Qku Tryz.underlying124 (by kernel_rfl) (.cons rfl oq_9 (.cons rfl oq_90 (.cons rfl QEV (.cons rfl QEV (.cons rfl oq_3 (.cons rfl oq_3 (.cons rfl oq_3 (.cons rfl oq_3 (.cons rfl oq_3 (.cons rfl oq_4 .nil)))))))))) rfl (HE.pair HE.rd (HE.pair HE.rd (HE.pair HE.rd (HE.pair HE.rd (HE.pair HE.rd (HE.pair HE.rd (HE.pair HE.rd (HE.pair HE.rd (HE.pair HE.rd (HE.pair HE.rd HE.unit)))))))))) (fun a=>⟨a.1,a.2.1,a.2.2.1,a.2.2.2.1,a.2.2.2.2.1,a.2.2.2.2.2.1,a.2.2.2.2.2.2.1,a.2.2.2.2.2.2.2.1,a.2.2.2.2.2.2.2.2.1,a.2.2.2.2.2.2.2.2.2.1⟩) (fun _=>rfl) (fun _ h=>h)
theorem oq_27:Opens Tryz.prog N 27 (rdE 1 (fun l:List Qah=>[.sl false 16 (l.map Qah.enc)]) (fun l:List (Qah)=>l.length≤N∧∀ x∈l,(Qah.ok N) x) (fun _=>rfl)):=QpK Tryz.underlying27 (by kernel_rfl) QFx (by decide)
def QaC.ok (N:Nat) (x:QaC):Prop:=isI x.x0∧isI x.x1
theorem QFy:Opens Tryz.prog N 135 (rdE 2 QaC.enc (QaC.ok N) (fun _=>rfl)):=QCi Tryz.underlying135 (by kernel_rfl) oq_3 rfl (fun a b=>⟨a,b⟩) (fun _ _=>rfl) (fun _ _ h h2=>⟨h,h2⟩)
theorem oq_28:Opens Tryz.prog N 28 (rdE 1 (fun l:List QaC=>[.sl false 2 (l.map QaC.enc)]) (fun l:List (QaC)=>l.length≤N∧∀ x∈l,(QaC.ok N) x) (fun _=>rfl)):=QpK Tryz.underlying28 (by kernel_rfl) QFy (by decide)
def Qac.ok (N:Nat) (x:Qac):Prop:=(Qam.ok N) x.net∧(fun l:List (Qak)=>l.length≤N∧∀ x∈l,(Qak.ok N) x) x.types∧(fun l:List (Qah)=>l.length≤N∧∀ x∈l,(Qah.ok N) x) x.orders∧(fun l:List (QaC)=>l.length≤N∧∀ x∈l,(QaC.ok N) x) x.apart∧(fun l:List (QaC)=>l.length≤N∧∀ x∈l,(QaC.ok N) x) x.before∧True
theorem oq_30:Opens Tryz.prog N 30 (rdE 6 Qac.enc (Qac.ok N) (fun _=>rfl)):=Qku Tryz.underlying30 (by kernel_rfl) (.cons rfl oq_25 (.cons rfl oq_26 (.cons rfl oq_27 (.cons rfl oq_28 (.cons rfl oq_28 .nil))))) rfl (HE.pair HE.rd (HE.pair HE.rd (HE.pair HE.rd (HE.pair HE.rd (HE.pair HE.rd HE.unit))))) (fun a=>⟨a.1,a.2.1,a.2.2.1,a.2.2.2.1,a.2.2.2.2.1⟩) (fun _=>rfl) (fun _ h=>h)
theorem oq_34:Opens Tryz.prog N 34 (rdE 1 (fun l:List Bool=>[.sl false 1 (l.map QaY)]) (fun l:List (Bool)=>l.length≤N∧∀ x∈l,(fun _:Bool=>True) x) (fun _=>rfl)):=QpK Tryz.underlying34 (by kernel_rfl) oq_4 (by decide)
def Qaa.ok (N:Nat) (x:Qaa):Prop:=isI x.order∧(fun _:Bool=>True) x.drop∧True
theorem oq_54:Opens Tryz.prog N 54 (rdE 2 Qaa.enc (Qaa.ok N) (fun _=>rfl)):=Qku Tryz.underlying54 (by kernel_rfl) (.cons rfl oq_3 (.cons rfl oq_4 .nil)) rfl (HE.pair HE.rd (HE.pair HE.rd HE.unit)) (fun a=>⟨a.1,a.2.1⟩) (fun _=>rfl) (fun _ h=>h)
theorem oq_35:Opens Tryz.prog N 35 (rdE 1 (fun l:List Qaa=>[.sl false 2 (l.map Qaa.enc)]) (fun l:List (Qaa)=>l.length≤N∧∀ x∈l,(Qaa.ok N) x) (fun _=>rfl)):=QpK Tryz.underlying35 (by kernel_rfl) oq_54 (by decide)
def Qag.ok (N:Nat) (x:Qag):Prop:=isI x.type_∧isI x.start∧(fun l:List (Bool)=>l.length≤N∧∀ x∈l,(fun _:Bool=>True) x) x.rests∧(fun l:List (Qaa)=>l.length≤N∧∀ x∈l,(Qaa.ok N) x) x.visits∧True
theorem oq_37:Opens Tryz.prog N 37 (rdE 4 Qag.enc (Qag.ok N) (fun _=>rfl)):=Qku Tryz.underlying37 (by kernel_rfl) (.cons rfl oq_3 (.cons rfl oq_3 (.cons rfl oq_34 (.cons rfl oq_35 .nil)))) rfl (HE.pair HE.rd (HE.pair HE.rd (HE.pair HE.rd (HE.pair HE.rd HE.unit)))) (fun a=>⟨a.1,a.2.1,a.2.2.1,a.2.2.2.1⟩) (fun _=>rfl) (fun _ h=>h)
def Qae.ok (N:Nat) (x:Qae):Prop:=isI x.type_∧isI x.set_∧isI x.price∧(Qag.ok N) x.route∧True
theorem oq_45:Opens Tryz.prog N 45 (rdE 7 Qae.enc (Qae.ok N) (fun _=>rfl)):=Qku Tryz.underlying45 (by kernel_rfl) (.cons rfl oq_3 (.cons rfl oq_3 (.cons rfl oq_3 (.cons rfl oq_37 .nil)))) rfl (HE.pair HE.rd (HE.pair HE.rd (HE.pair HE.rd (HE.pair HE.rd HE.unit)))) (fun a=>⟨a.1,a.2.1,a.2.2.1,a.2.2.2.1⟩) (fun _=>rfl) (fun _ h=>h)
end Go.Proofs.YtoedkepcaigkeaaGreatDoor
