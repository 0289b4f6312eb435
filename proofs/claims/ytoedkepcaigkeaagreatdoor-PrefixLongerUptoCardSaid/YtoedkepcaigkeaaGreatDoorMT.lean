/- Part MT of the proof: texts Xt Xd Xo. -/
import Derived.Test.YtoedkepcaigkeaaGreatDoorMA
import Derived.Test.YtoedkepcaigkeaaGreatDoorMC
namespace Go.Proofs.YtoedkepcaigkeaaGreatDoor
set_option linter.unusedVariables false
set_option linter.unusedSectionVars false
set_option linter.unusedSimpArgs false
def QaM (n:Int):List Lf:=[.int .i64 n]
def e_u8 (n:Int):List Lf:=[.int .u8 n]
def e_fn (n:Nat):List Lf:=[.fn (.func n) []]
def QaI (b:Bool):List Lf:=[.bool b]
def QmE (s:ByteArray):List Lf:=[.str s]
structure Qab where
  err:Int
  at_:ByteArray
instance:DecidableEq Qab:=fun a b=>decidable_of_iff (a.err=b.err∧a.at_=b.at_) (by cases a; cases b; simp)
structure Qan where
  t:Int
  a:Int
instance:DecidableEq Qan:=fun a b=>decidable_of_iff (a.t=b.t∧a.a=b.a) (by cases a; cases b; simp)
structure Qas where
  from_:Int
  to_:Int
  profile:Int
  miles:Int
  travel:List Qan
  slow:List Qan
instance:DecidableEq Qas:=fun a b=>decidable_of_iff (a.from_=b.from_∧a.to_=b.to_∧a.profile=b.profile∧a.miles=b.miles∧a.travel=b.travel∧a.slow=b.slow) (by cases a; cases b; simp)
structure Qal where
  places:List ByteArray
  arcs:List Qas
instance:DecidableEq Qal:=fun a b=>decidable_of_iff (a.places=b.places∧a.arcs=b.arcs) (by cases a; cases b; simp)
structure Qak where
  name:ByteArray
  count:Int
  from_:Int
  to_:Int
  cap:List Int
  skills:Int
  profile:Int
  open_:Int
  close:Int
  drive:Int
  rest_:Int
  fixed:Int
  perMile:Int
  perTick:Int
instance:DecidableEq Qak:=fun a b=>decidable_of_iff (a.name=b.name∧a.count=b.count∧a.from_=b.from_∧a.to_=b.to_∧a.cap=b.cap∧a.skills=b.skills∧a.profile=b.profile∧a.open_=b.open_∧a.close=b.close∧a.drive=b.drive∧a.rest_=b.rest_∧a.fixed=b.fixed∧a.perMile=b.perMile∧a.perTick=b.perTick) (by cases a; cases b; simp)
structure Qaw where
  place:Int
  open_:Int
  close:Int
  service:Int
instance:DecidableEq Qaw:=fun a b=>decidable_of_iff (a.place=b.place∧a.open_=b.open_∧a.close=b.close∧a.service=b.service) (by cases a; cases b; simp)
structure Qai where
  name:ByteArray
  load:List Int
  pick:Qaw
  drop:Qaw
  skills:Int
  penalty:Int
  split:Int
  last_:Int
  now:Int
  off:Bool
instance:DecidableEq Qai:=fun a b=>decidable_of_iff (a.name=b.name∧a.load=b.load∧a.pick=b.pick∧a.drop=b.drop∧a.skills=b.skills∧a.penalty=b.penalty∧a.split=b.split∧a.last_=b.last_∧a.now=b.now∧a.off=b.off) (by cases a; cases b; simp)
structure QaO where
  x0:Int
  x1:Int
instance:DecidableEq QaO:=fun a b=>decidable_of_iff (a.x0=b.x0∧a.x1=b.x1) (by cases a; cases b; simp)
structure Qad where
  net:Qal
  types:List Qak
  orders:List Qai
  apart:List QaO
  before:List QaO
instance:DecidableEq Qad:=fun a b=>decidable_of_iff (a.net=b.net∧a.types=b.types∧a.orders=b.orders∧a.apart=b.apart∧a.before=b.before) (by cases a; cases b; simp)
structure Qaa where
  order:Int
  drop:Bool
instance:DecidableEq Qaa:=fun a b=>decidable_of_iff (a.order=b.order∧a.drop=b.drop) (by cases a; cases b; simp)
structure Qac where
  type_:Int
  start:Int
  rests:List Bool
  visits:List Qaa
instance:DecidableEq Qac:=fun a b=>decidable_of_iff (a.type_=b.type_∧a.start=b.start∧a.rests=b.rests∧a.visits=b.visits) (by cases a; cases b; simp)
structure Qay where
  x:Qad
  t:Qak
  r:Qac
  stops:List Qaw
instance:DecidableEq Qay:=fun a b=>decidable_of_iff (a.x=b.x∧a.t=b.t∧a.r=b.r∧a.stops=b.stops) (by cases a; cases b; simp)
structure Qaq where
  arrive:Int
  begin:Int
  depart:Int
  rest_:Bool
instance:DecidableEq Qaq:=fun a b=>decidable_of_iff (a.arrive=b.arrive∧a.begin=b.begin∧a.depart=b.depart∧a.rest_=b.rest_) (by cases a; cases b; simp)
structure Qao where
  rest_:Bool
  depart:Int
  times:List Qaq
  end_:Int
  miles:Int
instance:DecidableEq Qao:=fun a b=>decidable_of_iff (a.rest_=b.rest_∧a.depart=b.depart∧a.times=b.times∧a.end_=b.end_∧a.miles=b.miles) (by cases a; cases b; simp)
structure Qag where
  ready:Int
  since:Int
  sheet:Qao
instance:DecidableEq Qag:=fun a b=>decidable_of_iff (a.ready=b.ready∧a.since=b.since∧a.sheet=b.sheet) (by cases a; cases b; simp)
structure Qjw where
  from_:Int
  to_:Int
  profile:Int
instance:DecidableEq Qjw:=fun a b=>decidable_of_iff (a.from_=b.from_∧a.to_=b.to_∧a.profile=b.profile) (by cases a; cases b; simp)
structure QBA where
  x0:Int
  x1:Int
  x2:Int
  x3:Int
  x4:Int
  x5:Int
  x6:Int
  x7:Int
  x8:Int
  x9:Int
  x10:Int
  x11:Int
  x12:Int
  x13:Int
  x14:Int
  x15:Int
  x16:Int
  x17:Int
  x18:Int
  x19:Int
  x20:Int
  x21:Int
  x22:Int
  x23:Int
instance:DecidableEq QBA:=fun a b=>decidable_of_iff (a.x0=b.x0∧a.x1=b.x1∧a.x2=b.x2∧a.x3=b.x3∧a.x4=b.x4∧a.x5=b.x5∧a.x6=b.x6∧a.x7=b.x7∧a.x8=b.x8∧a.x9=b.x9∧a.x10=b.x10∧a.x11=b.x11∧a.x12=b.x12∧a.x13=b.x13∧a.x14=b.x14∧a.x15=b.x15∧a.x16=b.x16∧a.x17=b.x17∧a.x18=b.x18∧a.x19=b.x19∧a.x20=b.x20∧a.x21=b.x21∧a.x22=b.x22∧a.x23=b.x23) (by cases a; cases b; simp)
structure QaE where
  cost:Int
  moved:Int
  other:Int
  work:Int
instance:DecidableEq QaE:=fun a b=>decidable_of_iff (a.cost=b.cost∧a.moved=b.moved∧a.other=b.other∧a.work=b.work) (by cases a; cases b; simp)
structure QAQ where
  x0:Int
  x1:Int
  x2:Int
  x3:Int
instance:DecidableEq QAQ:=fun a b=>decidable_of_iff (a.x0=b.x0∧a.x1=b.x1∧a.x2=b.x2∧a.x3=b.x3) (by cases a; cases b; simp)
structure Qaf where
  type_:Int
  set_:Int
  price:Int
  route:Qac
instance:DecidableEq Qaf:=fun a b=>decidable_of_iff (a.type_=b.type_∧a.set_=b.set_∧a.price=b.price∧a.route=b.route) (by cases a; cases b; simp)
structure Qar where
  x:Qad
  begin:Qac
  set_:Int
  found:Bool
  best:Qaf
instance:DecidableEq Qar:=fun a b=>decidable_of_iff (a.x=b.x∧a.begin=b.begin∧a.set_=b.set_∧a.found=b.found∧a.best=b.best) (by cases a; cases b; simp)
structure Qek where
  routes:List Qac
  unserved:List Int
instance:DecidableEq Qek:=fun a b=>decidable_of_iff (a.routes=b.routes∧a.unserved=b.unserved) (by cases a; cases b; simp)
structure Qaz where
  place:Int
  time:Int
  driven:Int
  miles:Int
instance:DecidableEq Qaz:=fun a b=>decidable_of_iff (a.place=b.place∧a.time=b.time∧a.driven=b.driven∧a.miles=b.miles) (by cases a; cases b; simp)
structure Qap where
  x:Qad
  set_:Int
  ok:Bool
  route:Qac
  price:Int
instance:DecidableEq Qap:=fun a b=>decidable_of_iff (a.x=b.x∧a.set_=b.set_∧a.ok=b.ok∧a.route=b.route∧a.price=b.price) (by cases a; cases b; simp)
structure Qqp where
  ready:Int
  driven:Int
instance:DecidableEq Qqp:=fun a b=>decidable_of_iff (a.ready=b.ready∧a.driven=b.driven) (by cases a; cases b; simp)
structure Qru where
  x:Qad
  kind:Int
  set_:Int
  total:Int
  best:Qaf
  found:Bool
instance:DecidableEq Qru:=fun a b=>decidable_of_iff (a.x=b.x∧a.kind=b.kind∧a.set_=b.set_∧a.total=b.total∧a.best=b.best∧a.found=b.found) (by cases a; cases b; simp)
def Qab.enc (x:Qab):List Lf:=[lI x.err,.str x.at_]
def Qan.enc (x:Qan):List Lf:=[lI x.t,lI x.a]
def Qas.enc (x:Qas):List Lf:=[lI x.from_,lI x.to_,lI x.profile,lI x.miles,lL 2 x.travel Qan.enc,lL 2 x.slow Qan.enc]
def Qal.enc (x:Qal):List Lf:=[lL 1 x.places QmE,lL 6 x.arcs Qas.enc]
def Qak.enc (x:Qak):List Lf:=[.str x.name,lI x.count,lI x.from_,lI x.to_,lL 1 x.cap QaM,lI x.skills,lI x.profile,lI x.open_,lI x.close,lI x.drive,lI x.rest_,lI x.fixed,lI x.perMile,lI x.perTick]
def Qaw.enc (x:Qaw):List Lf:=[lI x.place,lI x.open_,lI x.close,lI x.service]
def Qai.enc (x:Qai):List Lf:=[.str x.name,lL 1 x.load QaM,lI x.pick.place,lI x.pick.open_,lI x.pick.close,lI x.pick.service,lI x.drop.place,lI x.drop.open_,lI x.drop.close,lI x.drop.service,lI x.skills,lI x.penalty,lI x.split,lI x.last_,lI x.now,.bool x.off]
def QaO.enc (x:QaO):List Lf:=[lI x.x0,lI x.x1]
def Qad.enc (x:Qad):List Lf:=[lL 1 x.net.places QmE,lL 6 x.net.arcs Qas.enc,lL 14 x.types Qak.enc,lL 16 x.orders Qai.enc,lL 2 x.apart QaO.enc,lL 2 x.before QaO.enc]
def Qaa.enc (x:Qaa):List Lf:=[lI x.order,.bool x.drop]
def Qac.enc (x:Qac):List Lf:=[lI x.type_,lI x.start,lL 1 x.rests QaI,lL 2 x.visits Qaa.enc]
def Qay.enc (x:Qay):List Lf:=[lL 1 x.x.net.places QmE,lL 6 x.x.net.arcs Qas.enc,lL 14 x.x.types Qak.enc,lL 16 x.x.orders Qai.enc,lL 2 x.x.apart QaO.enc,lL 2 x.x.before QaO.enc,.str x.t.name,lI x.t.count,lI x.t.from_,lI x.t.to_,lL 1 x.t.cap QaM,lI x.t.skills,lI x.t.profile,lI x.t.open_,lI x.t.close,lI x.t.drive,lI x.t.rest_,lI x.t.fixed,lI x.t.perMile,lI x.t.perTick,lI x.r.type_,lI x.r.start,lL 1 x.r.rests QaI,lL 2 x.r.visits Qaa.enc,lL 4 x.stops Qaw.enc]
def Qaq.enc (x:Qaq):List Lf:=[lI x.arrive,lI x.begin,lI x.depart,.bool x.rest_]
def Qao.enc (x:Qao):List Lf:=[.bool x.rest_,lI x.depart,lL 4 x.times Qaq.enc,lI x.end_,lI x.miles]
def Qag.enc (x:Qag):List Lf:=[lI x.ready,lI x.since,.bool x.sheet.rest_,lI x.sheet.depart,lL 4 x.sheet.times Qaq.enc,lI x.sheet.end_,lI x.sheet.miles]
def Qjw.enc (x:Qjw):List Lf:=[lI x.from_,lI x.to_,lI x.profile]
def QBA.enc (x:QBA):List Lf:=[.int .u8 x.x0,.int .u8 x.x1,.int .u8 x.x2,.int .u8 x.x3,.int .u8 x.x4,.int .u8 x.x5,.int .u8 x.x6,.int .u8 x.x7,.int .u8 x.x8,.int .u8 x.x9,.int .u8 x.x10,.int .u8 x.x11,.int .u8 x.x12,.int .u8 x.x13,.int .u8 x.x14,.int .u8 x.x15,.int .u8 x.x16,.int .u8 x.x17,.int .u8 x.x18,.int .u8 x.x19,.int .u8 x.x20,.int .u8 x.x21,.int .u8 x.x22,.int .u8 x.x23]
def QaE.enc (x:QaE):List Lf:=[lI x.cost,lI x.moved,lI x.other,lI x.work]
def QAQ.enc (x:QAQ):List Lf:=[lI x.x0,lI x.x1,lI x.x2,lI x.x3]
def Qaf.enc (x:Qaf):List Lf:=[lI x.type_,lI x.set_,lI x.price,lI x.route.type_,lI x.route.start,lL 1 x.route.rests QaI,lL 2 x.route.visits Qaa.enc]
def Qar.enc (x:Qar):List Lf:=[lL 1 x.x.net.places QmE,lL 6 x.x.net.arcs Qas.enc,lL 14 x.x.types Qak.enc,lL 16 x.x.orders Qai.enc,lL 2 x.x.apart QaO.enc,lL 2 x.x.before QaO.enc,lI x.begin.type_,lI x.begin.start,lL 1 x.begin.rests QaI,lL 2 x.begin.visits Qaa.enc,lI x.set_,.bool x.found,lI x.best.type_,lI x.best.set_,lI x.best.price,lI x.best.route.type_,lI x.best.route.start,lL 1 x.best.route.rests QaI,lL 2 x.best.route.visits Qaa.enc]
def Qek.enc (x:Qek):List Lf:=[lL 4 x.routes Qac.enc,lL 1 x.unserved QaM]
def Qaz.enc (x:Qaz):List Lf:=[lI x.place,lI x.time,lI x.driven,lI x.miles]
def Qap.enc (x:Qap):List Lf:=[lL 1 x.x.net.places QmE,lL 6 x.x.net.arcs Qas.enc,lL 14 x.x.types Qak.enc,lL 16 x.x.orders Qai.enc,lL 2 x.x.apart QaO.enc,lL 2 x.x.before QaO.enc,lI x.set_,.bool x.ok,lI x.route.type_,lI x.route.start,lL 1 x.route.rests QaI,lL 2 x.route.visits Qaa.enc,lI x.price]
def Qqp.enc (x:Qqp):List Lf:=[lI x.ready,lI x.driven]
def Qru.enc (x:Qru):List Lf:=[lL 1 x.x.net.places QmE,lL 6 x.x.net.arcs Qas.enc,lL 14 x.x.types Qak.enc,lL 16 x.x.orders Qai.enc,lL 2 x.x.apart QaO.enc,lL 2 x.x.before QaO.enc,lI x.kind,lI x.set_,lI x.total,lI x.best.type_,lI x.best.set_,lI x.best.price,lI x.best.route.type_,lI x.best.route.start,lL 1 x.best.route.rests QaI,lL 2 x.best.route.visits Qaa.enc,.bool x.found]
def es_T_api_Route.enc (l:List Qac):List Lf:=[.sl false 4 (l.map Qac.enc)]
def Qbq (l:List Int):List Lf:=[.sl false 1 (l.map QaM)]
def Qdt:ByteArray:=⟨#[32]⟩
def Qx5:ByteArray:=⟨#[45]⟩
def Qmf:ByteArray:=⟨#[112,108,97,99,101,115]⟩
def Qeh:ByteArray:=⟨#[112,108,97,99,101,32]⟩
def Qa2:ByteArray:=⟨#[97,114,99,32]⟩
def QsI:ByteArray:=⟨#[97,114,99,115]⟩
def QwC:ByteArray:=⟨#[97,112,97,114,116]⟩
def Qvn:ByteArray:=⟨#[98,101,102,111,114,101]⟩
def QyT:ByteArray:=⟨#[110,101,116]⟩
def QzD:ByteArray:=⟨#[116,121,112,101,115]⟩
def QyU:ByteArray:=⟨#[111,114,100,101,114,115]⟩
def QzC:ByteArray:=⟨#[114,117,108,101,115]⟩
def Qpe:ByteArray:=⟨#[48,49,50,51,52,53,54,55,56,57,97,98,99,100,101,102,103,104,105,106,107,108,109,110,111,112,113,114,115,116,117,118,119,120,121,122]⟩
def Qpd:ByteArray:=⟨#[48,48,48,49,48,50,48,51,48,52,48,53,48,54,48,55,48,56,48,57,49,48,49,49,49,50,49,51,49,52,49,53,49,54,49,55,49,56,49,57,50,48,50,49,50,50,50,51,50,52,50,53,50,54,50,55,50,56,50,57,51,48,51,49,51,50,51,51,51,52,51,53,51,54,51,55,51,56,51,57,52,48,52,49,52,50,52,51,52,52,52,53,52,54,52,55,52,56,52,57,53,48,53,49,53,50,53,51,53,52,53,53,53,54,53,55,53,56,53,57,54,48,54,49,54,50,54,51,54,52,54,53,54,54,54,55,54,56,54,57,55,48,55,49,55,50,55,51,55,52,55,53,55,54,55,55,55,56,55,57,56,48,56,49,56,50,56,51,56,52,56,53,56,54,56,55,56,56,56,57,57,48,57,49,57,50,57,51,57,52,57,53,57,54,57,55,57,56,57,57]⟩
def Qpf:ByteArray:=⟨#[0,1,2,2,3,3,3,3,4,4,4,4,4,4,4,4,5,5,5,5,5,5,5,5,5,5,5,5,5,5,5,5,6,6,6,6,6,6,6,6,6,6,6,6,6,6,6,6,6,6,6,6,6,6,6,6,6,6,6,6,6,6,6,6,7,7,7,7,7,7,7,7,7,7,7,7,7,7,7,7,7,7,7,7,7,7,7,7,7,7,7,7,7,7,7,7,7,7,7,7,7,7,7,7,7,7,7,7,7,7,7,7,7,7,7,7,7,7,7,7,7,7,7,7,7,7,7,7,8,8,8,8,8,8,8,8,8,8,8,8,8,8,8,8,8,8,8,8,8,8,8,8,8,8,8,8,8,8,8,8,8,8,8,8,8,8,8,8,8,8,8,8,8,8,8,8,8,8,8,8,8,8,8,8,8,8,8,8,8,8,8,8,8,8,8,8,8,8,8,8,8,8,8,8,8,8,8,8,8,8,8,8,8,8,8,8,8,8,8,8,8,8,8,8,8,8,8,8,8,8,8,8,8,8,8,8,8,8,8,8,8,8,8,8,8,8,8,8,8,8,8,8,8,8,8,8]⟩
def QDa:ByteArray:=⟨#[65]⟩
def QDb:ByteArray:=⟨#[66]⟩
def QDd:ByteArray:=⟨#[118]⟩
def QDc:ByteArray:=⟨#[111]⟩
end Go.Proofs.YtoedkepcaigkeaaGreatDoor
namespace Go.Proofs.YtoedkepcaigkeaaGreatDoor
set_option linter.unusedVariables false
set_option linter.unusedSectionVars false
set_option linter.unusedSimpArgs false
noncomputable def Qgu (word:ByteArray) (l:List Qab) (l1:List Qab) (i:Int) (at_:ByteArray):Option ((List Qab×Int)⊕(List Qab)):=bnd (getI l i) fun x1=>chk (okN (l1++[(Qab.mk x1.err at_)]).length 24) (some (.inl ((l1++[(Qab.mk x1.err at_)]),(addK .i64 i 1))))
noncomputable def Qfj (word:ByteArray) (l:List Qab) (l1:List Qab) (i:Int):Option ((List Qab×Int)⊕(List Qab)):=br (ltI i (lenI l)) (bnd (getI l i) fun x0=>br (eqS x0.at_ ByteArray.empty) (Qgu word l l1 i word) (chk (word.size+Qdt.size≤9223372036854775807) (chk ((catS word Qdt).size+x0.at_.size≤9223372036854775807) (Qgu word l l1 i (catS (catS word Qdt) x0.at_))))) (some (.inr l1))
noncomputable def Qg6 (word:ByteArray) (l:List Qab):Option (List Qab):=bnd (QaW (fun s=>Qfj word l s.1 s.2) ([],0)) (fun l2=>some l2)
noncomputable def Qd9 (n:Int) (s0:ByteArray) (left:Int) (d:Int):Option ((ByteArray×Int×Bool)⊕(ByteArray)):=chk ((Qts [(cvK .u8 (addK .i64 48 d))]).size+s0.size≤9223372036854775807) (some (.inl ((catS (Qts [(cvK .u8 (addK .i64 48 d))]) s0),(quoK .i64 left 10),(neI (quoK .i64 left 10) 0))))
noncomputable def QgT (n:Int) (s0:ByteArray) (left:Int) (again:Bool):Option ((ByteArray×Int×Bool)⊕(ByteArray)):=br again (br (ltI (remK left 10) 0) (Qd9 n s0 left (subK .i64 0 (remK left 10))) (Qd9 n s0 left (remK left 10))) (some (.inr s0))
noncomputable def Qci (n:Int):Option ByteArray:=bnd (QaW (fun s=>QgT n s.1 s.2.1 s.2.2) (ByteArray.empty,n,true)) (fun s1=>br (ltI n 0) (chk (Qx5.size+s1.size≤9223372036854775807) (some (catS Qx5 s1))) (some s1))
noncomputable def QjX (c:Int):Option Bool:=some ((geI c 48)&&(leI c 57))
noncomputable def Qmn (c:Int):Option Bool:=some ((((geI c 97)&&(leI c 122))||((geI c 65)&&(leI c 90)))||(eqI c 95))
noncomputable def QfI (s0:ByteArray) (b:UInt8) (i:Int):Option ((Int)⊕((Unit)⊕(Bool))):=br (ltI i (QBi s0)) (bnd (getS s0 i) fun b1=>bnd (Qmn (QEJ b1)) fun r1=>br r1 (some (.inl (addK .i64 i 1))) (bnd (QjX (QEJ b1)) fun r2=>br r2 (some (.inl (addK .i64 i 1))) (some (.inr (.inr false))))) (some (.inr (.inl ())))
noncomputable def QgK (s0:ByteArray):Option Bool:=br ((ltI (QBi s0) 1)||(gtI (QBi s0) 16)) (some false) (bnd (getS s0 0) fun b=>bnd (QjX (QEJ b)) fun r=>br r (some false) (bnd (QaW (fun s=>QfI s0 b s) 0) (fun e=>sel e (fun (_:Unit)=>some true) (fun r3=>some r3))))
noncomputable def Qe4 (l:List Qan) (i:Int) (x0:Qan) (l3:List Qab):Option ((List Qab×Int)⊕(List Qab)):=br (gtI i 0) (bnd (getI l (subK .i64 i 1)) fun x1=>br (leI x0.t x1.t) (bnd (Qci i) fun r1=>chk (okN (l3++[(Qab.mk 13 r1)]).length 24) (some (.inl ((l3++[(Qab.mk 13 r1)]),(addK .i64 i 1))))) (br (ltI x0.a x1.a) (bnd (Qci i) fun r2=>chk (okN (l3++[(Qab.mk 13 r2)]).length 24) (some (.inl ((l3++[(Qab.mk 13 r2)]),(addK .i64 i 1))))) (some (.inl (l3,(addK .i64 i 1)))))) (some (.inl (l3,(addK .i64 i 1))))
noncomputable def Qd2 (l:List Qan) (l2:List Qab) (i:Int):Option ((List Qab×Int)⊕(List Qab)):=br (ltI i (lenI l)) (bnd (getI l i) fun x0=>br ((((ltI x0.t 0)||(gtI x0.t 4096))||(ltI x0.a x0.t))||(gtI x0.a (addK .i64 x0.t 4096))) (bnd (Qci i) fun r=>chk (okN (l2++[(Qab.mk 2 r)]).length 24) (Qe4 l i x0 (l2++[(Qab.mk 2 r)]))) (Qe4 l i x0 l2)) (some (.inr l2))
noncomputable def Qgn (l:List Qan) (l1:List Qab):Option (List Qab):=bnd (QaW (fun s=>Qd2 l s.1 s.2) (l1,0)) (fun l4=>some l4)
noncomputable def QfW (l:List Qan):Option (List Qab):=br ((ltI (lenI l) 1)||(gtI (lenI l) 16)) (chk (okN [(Qab.mk 4 ByteArray.empty)].length 24) (Qgn l [(Qab.mk 4 ByteArray.empty)])) (Qgn l [])
noncomputable def QhJ (t:Int):Option Bool:=some ((geI t 0)&&(leI t 4096))
noncomputable def Qcq (n:Qal) (i:Int) (r:ByteArray) (x0:Qas) (l:List Qab) (l1:List Qab) (twice:Bool) (k:Int):Option ((Bool×Int)⊕(Bool)):=br (ltI k i) (bnd (getI n.arcs k) fun x1=>some (.inl ((twice||(((eqI x0.from_ x1.from_)&&(eqI x0.to_ x1.to_))&&(eqI x0.profile x1.profile))),(addK .i64 k 1)))) (some (.inr twice))
noncomputable def Qcr (r:ByteArray) (x0:Qas) (l:List Qab) (r1:List Qab) (l3:List Qab) (k1:Int):Option ((List Qab×Int)⊕(List Qab)):=br (ltI k1 (lenI r1)) (bnd (getI r1 k1) fun x2=>chk (okN (l3++[(Qab.mk x2.err (catS Qa2 r))]).length 24) (some (.inl ((l3++[(Qab.mk x2.err (catS Qa2 r))]),(addK .i64 k1 1))))) (some (.inr l3))
noncomputable def Qcs (r:ByteArray) (x0:Qas) (l:List Qab) (l6:List Qab) (k2:Int):Option ((List Qab×Int)⊕(List Qab)):=br (ltI k2 (lenI x0.slow)) (bnd (getI x0.slow k2) fun x3=>bnd (QhJ x3.t) fun r2=>br r2 (bnd (QhJ x3.a) fun r3=>br r3 (br (gtI k2 0) (bnd (getI x0.slow (subK .i64 k2 1)) fun x4=>br (leI x3.t x4.t) (chk (okN (l6++[(Qab.mk 2 (catS Qa2 r))]).length 24) (some (.inl ((l6++[(Qab.mk 2 (catS Qa2 r))]),(addK .i64 k2 1))))) (some (.inl (l6,(addK .i64 k2 1))))) (some (.inl (l6,(addK .i64 k2 1))))) (chk (okN (l6++[(Qab.mk 2 (catS Qa2 r))]).length 24) (some (.inl ((l6++[(Qab.mk 2 (catS Qa2 r))]),(addK .i64 k2 1)))))) (chk (okN (l6++[(Qab.mk 2 (catS Qa2 r))]).length 24) (some (.inl ((l6++[(Qab.mk 2 (catS Qa2 r))]),(addK .i64 k2 1)))))) (some (.inr l6))
noncomputable def Qb2 (r:ByteArray) (x0:Qas) (l:List Qab) (l5:List Qab):Option (List Qab):=bnd (QaW (fun s=>Qcs r x0 l s.1 s.2) (l5,0)) (fun l7=>some l7)
noncomputable def Qcp (r:ByteArray) (x0:Qas) (l:List Qab) (l2:List Qab):Option (List Qab):=bnd (QfW x0.travel) fun r1=>bnd (QaW (fun s=>Qcr r x0 l r1 s.1 s.2) (l2,0)) (fun l4=>br (gtI (lenI x0.slow) 16) (chk (okN (l4++[(Qab.mk 4 (catS Qa2 r))]).length 24) (Qb2 r x0 l (l4++[(Qab.mk 4 (catS Qa2 r))]))) (Qb2 r x0 l l4))
noncomputable def QdT (n:Qal) (i:Int) (r:ByteArray) (x0:Qas) (l:List Qab) (l1:List Qab):Option (List Qab):=bnd (QaW (fun s=>Qcq n i r x0 l l1 s.1 s.2) (false,0)) (fun twice1=>br twice1 (chk (okN (l1++[(Qab.mk 6 (catS Qa2 r))]).length 24) (Qcp r x0 l (l1++[(Qab.mk 6 (catS Qa2 r))]))) (Qcp r x0 l l1))
noncomputable def QdS (n:Qal) (i:Int) (r:ByteArray) (x0:Qas) (l:List Qab):Option (List Qab):=br (((((ltI x0.profile 0)||(gtI x0.profile 7))||(ltI x0.miles 0))||(gtI x0.miles 10000))||(eqI x0.from_ x0.to_)) (chk (okN (l++[(Qab.mk 2 (catS Qa2 r))]).length 24) (QdT n i r x0 l (l++[(Qab.mk 2 (catS Qa2 r))]))) (QdT n i r x0 l l)
noncomputable def Qgp (n:Qal) (i:Int):Option (List Qab):=bnd (Qci i) fun r=>chk (Qa2.size+r.size≤9223372036854775807) (bnd (getI n.arcs i) fun x0=>br ((((ltI x0.from_ 0)||(geI x0.from_ (lenI n.places)))||(ltI x0.to_ 0))||(geI x0.to_ (lenI n.places))) (chk (okN [(Qab.mk 11 (catS Qa2 r))].length 24) (QdS n i r x0 [(Qab.mk 11 (catS Qa2 r))])) (QdS n i r x0 []))
noncomputable def Qbt (n:Qal) (l:List Qab) (l1:List Qab) (i:Int) (r:ByteArray) (twice:Bool) (k:Int):Option ((Bool×Int)⊕(Bool)):=br (ltI k i) (br twice (some (.inl (true,(addK .i64 k 1)))) (bnd (getI n.places k) fun x1=>bnd (getI n.places i) fun x2=>some (.inl ((eqS x1 x2),(addK .i64 k 1))))) (some (.inr twice))
noncomputable def Qbs (n:Qal) (l:List Qab) (l1:List Qab) (i:Int):Option ((List Qab×Int)⊕(List Qab)):=br (ltI i (lenI n.places)) (bnd (Qci i) fun r=>chk (Qeh.size+r.size≤9223372036854775807) (bnd (getI n.places i) fun x0=>bnd (QgK x0) fun r1=>br r1 (bnd (QaW (fun s=>Qbt n l l1 i r s.1 s.2) (false,0)) (fun twice1=>br twice1 (chk (okN (l1++[(Qab.mk 6 (catS Qeh r))]).length 24) (some (.inl ((l1++[(Qab.mk 6 (catS Qeh r))]),(addK .i64 i 1))))) (some (.inl (l1,(addK .i64 i 1)))))) (chk (okN (l1++[(Qab.mk 5 (catS Qeh r))]).length 24) (some (.inl ((l1++[(Qab.mk 5 (catS Qeh r))]),(addK .i64 i 1))))))) (some (.inr l1))
noncomputable def QcL (n:Qal) (l:List Qab):Option (List Qab):=bnd (QaW (fun s=>Qbs n l s.1 s.2) (l,0)) (fun l2=>some l2)
noncomputable def QdG (n:Qal):Option (List Qab):=br (gtI (lenI n.places) 24) (chk (okN [(Qab.mk 4 Qmf)].length 24) (QcL n [(Qab.mk 4 Qmf)])) (QcL n [])
noncomputable def Qdv (n:Qal) (l:List Qab) (l1:List Qab) (i:Int):Option ((List Qab×Int)⊕(List Qab)):=br (ltI i (lenI n.arcs)) (bnd (Qgp n i) fun r1=>chk (okN (l1++r1).length 24) (some (.inl ((l1++r1),(addK .i64 i 1))))) (some (.inr l1))
noncomputable def Qgo (n:Qal) (l:List Qab):Option (List Qab):=bnd (QaW (fun s=>Qdv n l s.1 s.2) (l,0)) (fun l2=>some l2)
noncomputable def Qih (n:Qal):Option (List Qab):=bnd (QdG n) fun r=>br (gtI (lenI n.arcs) 1024) (chk (okN (r++[(Qab.mk 4 QsI)]).length 24) (Qgo n (r++[(Qab.mk 4 QsI)]))) (Qgo n r)
noncomputable def Qa1 (n:Int) (lo:Int) (hi:Int):Option Bool:=some ((geI n lo)&&(leI n hi))
noncomputable def QgL (l:List Qak):Option Int:=br (eqI (lenI l) 0) (some 0) (bnd (getI l 0) fun x0=>some (lenI x0.cap))
noncomputable def QcM (l:List Qak) (at_:Int) (name:ByteArray) (i:Int):Option ((Int)⊕((Unit)⊕(Bool))):=br (ltI i at_) (bnd (getI l i) fun x0=>br (eqS x0.name name) (some (.inr (.inr true))) (some (.inl (addK .i64 i 1)))) (some (.inr (.inl ())))
noncomputable def Qij (l:List Qak) (at_:Int) (name:ByteArray):Option Bool:=bnd (QaW (fun s=>QcM l at_ name s) 0) (fun e=>sel e (fun (_:Unit)=>some false) (fun r=>some r))
noncomputable def Qb3 (l:List Int) (i:Int):Option ((Int)⊕((Unit)⊕(Bool))):=br (ltI i (lenI l)) (bnd (getI l i) fun x0=>bnd (Qa1 x0 0 1000) fun r1=>br r1 (some (.inl (addK .i64 i 1))) (some (.inr (.inr false)))) (some (.inr (.inl ())))
noncomputable def Qe5 (l:List Int) (dims:Int):Option Bool:=bnd (Qa1 (lenI l) 1 3) fun r=>br ((!r)||(neI (lenI l) dims)) (some false) (bnd (QaW (fun s=>Qb3 l s) 0) (fun e=>sel e (fun (_:Unit)=>some true) (fun r2=>some r2)))
noncomputable def Qfd (x0:Qak) (l8:List Int):Option (List Int):=bnd (Qa1 x0.profile 0 7) fun r11=>br r11 (bnd (Qa1 x0.fixed 0 100000) fun r12=>br r12 (bnd (Qa1 x0.perMile 0 100) fun r13=>br r13 (bnd (Qa1 x0.perTick 0 100) fun r14=>br r14 (some l8) (chk (okN (l8++[2]).length 8) (some (l8++[2])))) (chk (okN (l8++[2]).length 8) (some (l8++[2])))) (chk (okN (l8++[2]).length 8) (some (l8++[2])))) (chk (okN (l8++[2]).length 8) (some (l8++[2])))
noncomputable def Qfc (x0:Qak) (l7:List Int):Option (List Int):=bnd (Qa1 x0.drive 1 4096) fun r9=>br r9 (bnd (Qa1 x0.rest_ 0 4096) fun r10=>br r10 (Qfd x0 l7) (chk (okN (l7++[16]).length 8) (Qfd x0 (l7++[16])))) (chk (okN (l7++[16]).length 8) (bnd (Qa1 x0.profile 0 7) fun r15=>br r15 (bnd (Qa1 x0.fixed 0 100000) fun r16=>br r16 (bnd (Qa1 x0.perMile 0 100) fun r17=>br r17 (bnd (Qa1 x0.perTick 0 100) fun r18=>br r18 (some (l7++[16])) (chk (okN ((l7++[16])++[2]).length 8) (some ((l7++[16])++[2])))) (chk (okN ((l7++[16])++[2]).length 8) (some ((l7++[16])++[2])))) (chk (okN ((l7++[16])++[2]).length 8) (some ((l7++[16])++[2])))) (chk (okN ((l7++[16])++[2]).length 8) (some ((l7++[16])++[2])))))
noncomputable def Qfb (x0:Qak) (l6:List Int):Option (List Int):=bnd (Qa1 x0.open_ 0 x0.close) fun r8=>br ((!r8)||(gtI x0.close 4096)) (chk (okN (l6++[15]).length 8) (Qfc x0 (l6++[15]))) (Qfc x0 l6)
noncomputable def Qfa (x0:Qak) (l5:List Int):Option (List Int):=bnd (Qa1 x0.skills 0 1073741823) fun r7=>br r7 (Qfb x0 l5) (chk (okN (l5++[18]).length 8) (Qfb x0 (l5++[18])))
noncomputable def Qe9 (l:List Qak) (x0:Qak) (l4:List Int):Option (List Int):=bnd (QgL l) fun r5=>bnd (Qe5 x0.cap r5) fun r6=>br r6 (Qfa x0 l4) (chk (okN (l4++[17]).length 8) (Qfa x0 (l4++[17])))
noncomputable def Qhq (x0:Qak) (l12:List Int):Option (List Int):=bnd (Qa1 x0.profile 0 7) fun r25=>br r25 (bnd (Qa1 x0.fixed 0 100000) fun r26=>br r26 (bnd (Qa1 x0.perMile 0 100) fun r27=>br r27 (bnd (Qa1 x0.perTick 0 100) fun r28=>br r28 (some l12) (chk (okN (l12++[2]).length 8) (some (l12++[2])))) (chk (okN (l12++[2]).length 8) (some (l12++[2])))) (chk (okN (l12++[2]).length 8) (some (l12++[2])))) (chk (okN (l12++[2]).length 8) (some (l12++[2])))
noncomputable def Qhp (x0:Qak) (l11:List Int):Option (List Int):=bnd (Qa1 x0.drive 1 4096) fun r23=>br r23 (bnd (Qa1 x0.rest_ 0 4096) fun r24=>br r24 (Qhq x0 l11) (chk (okN (l11++[16]).length 8) (Qhq x0 (l11++[16])))) (chk (okN (l11++[16]).length 8) (bnd (Qa1 x0.profile 0 7) fun r29=>br r29 (bnd (Qa1 x0.fixed 0 100000) fun r30=>br r30 (bnd (Qa1 x0.perMile 0 100) fun r31=>br r31 (bnd (Qa1 x0.perTick 0 100) fun r32=>br r32 (some (l11++[16])) (chk (okN ((l11++[16])++[2]).length 8) (some ((l11++[16])++[2])))) (chk (okN ((l11++[16])++[2]).length 8) (some ((l11++[16])++[2])))) (chk (okN ((l11++[16])++[2]).length 8) (some ((l11++[16])++[2])))) (chk (okN ((l11++[16])++[2]).length 8) (some ((l11++[16])++[2])))))
noncomputable def Qho (x0:Qak) (l10:List Int):Option (List Int):=bnd (Qa1 x0.open_ 0 x0.close) fun r22=>br ((!r22)||(gtI x0.close 4096)) (chk (okN (l10++[15]).length 8) (Qhp x0 (l10++[15]))) (Qhp x0 l10)
noncomputable def Qh2 (x0:Qak) (l9:List Int):Option (List Int):=bnd (Qa1 x0.skills 0 1073741823) fun r21=>br r21 (Qho x0 l9) (chk (okN (l9++[18]).length 8) (Qho x0 (l9++[18])))
noncomputable def Qe8 (n:Qal) (l:List Qak) (x0:Qak) (l3:List Int):Option (List Int):=bnd (Qa1 x0.from_ 0 (subK .i64 (lenI n.places) 1)) fun r3=>br r3 (bnd (Qa1 x0.to_ 0 (subK .i64 (lenI n.places) 1)) fun r4=>br r4 (Qe9 l x0 l3) (chk (okN (l3++[11]).length 8) (Qe9 l x0 (l3++[11])))) (chk (okN (l3++[11]).length 8) (bnd (QgL l) fun r19=>bnd (Qe5 x0.cap r19) fun r20=>br r20 (Qh2 x0 (l3++[11])) (chk (okN ((l3++[11])++[17]).length 8) (Qh2 x0 ((l3++[11])++[17])))))
noncomputable def Qe7 (n:Qal) (l:List Qak) (x0:Qak) (l2:List Int):Option (List Int):=bnd (Qa1 x0.count 0 10) fun r2=>br r2 (Qe8 n l x0 l2) (chk (okN (l2++[22]).length 8) (Qe8 n l x0 (l2++[22])))
noncomputable def Qe6 (n:Qal) (l:List Qak) (at_:Int) (x0:Qak) (l1:List Int):Option (List Int):=bnd (Qij l at_ x0.name) fun r1=>br r1 (chk (okN (l1++[6]).length 8) (Qe7 n l x0 (l1++[6]))) (Qe7 n l x0 l1)
noncomputable def Qik (n:Qal) (l:List Qak) (at_:Int):Option (List Int):=bnd (getI l at_) fun x0=>bnd (QgK x0.name) fun r=>br r (Qe6 n l at_ x0 []) (chk (okN [5].length 8) (Qe6 n l at_ x0 [5]))
noncomputable def Qh1 (n:Qal) (l:List Qak) (i:Int) (r1:List Int) (l3:List Qab) (k:Int):Option ((List Qab×Int)⊕(List Qab)):=br (ltI k (lenI r1)) (bnd (getI r1 k) fun x0=>bnd (Qci i) fun r2=>chk (okN (l3++[(Qab.mk x0 r2)]).length 24) (some (.inl ((l3++[(Qab.mk x0 r2)]),(addK .i64 k 1))))) (some (.inr l3))
noncomputable def Qdw (n:Qal) (l:List Qak) (l2:List Qab) (i:Int):Option ((List Qab×Int)⊕(List Qab)):=br (ltI i (lenI l)) (bnd (Qik n l i) fun r1=>bnd (QaW (fun s=>Qh1 n l i r1 s.1 s.2) (l2,0)) (fun l4=>some (.inl (l4,(addK .i64 i 1))))) (some (.inr l2))
noncomputable def Qgq (n:Qal) (l:List Qak) (l1:List Qab):Option (List Qab):=bnd (QaW (fun s=>Qdw n l s.1 s.2) (l1,0)) (fun l5=>some l5)
noncomputable def Qii (n:Qal) (l:List Qak):Option (List Qab):=bnd (Qa1 (lenI l) 1 6) fun r=>br r (Qgq n l []) (chk (okN [(Qab.mk 4 ByteArray.empty)].length 24) (Qgq n l [(Qab.mk 4 ByteArray.empty)]))
noncomputable def QcJ (a:List Int) (i:Int):Option ((Int)⊕((Unit)⊕(Bool))):=br (ltI i (lenI a)) (bnd (getI a i) fun x0=>br (ltI x0 0) (some (.inr (.inr false))) (br (gtI x0 1000) (some (.inr (.inr false))) (some (.inl (addK .i64 i 1))))) (some (.inr (.inl ())))
noncomputable def QfV (a:List Int) (dims:Int):Option Bool:=br (neI (lenI a) dims) (some false) (bnd (QaW (fun s=>QcJ a s) 0) (fun e=>sel e (fun (_:Unit)=>some true) (fun r=>some r)))
noncomputable def Qb4 (n:Int) (low:Int) (high:Int):Option Bool:=some ((geI n low)&&(leI n high))
noncomputable def QeS (s0:Qaw):Option Int:=br ((((eqI s0.place (-1))&&(eqI s0.open_ 0))&&(eqI s0.close 0))&&(eqI s0.service 0)) (some 0) (br ((((((ltI s0.place 0)||(ltI s0.open_ 0))||(gtI s0.open_ s0.close))||(gtI s0.close 4096))||(ltI s0.service 0))||(gtI s0.service 4096)) (some 2) (some 0))
noncomputable def QcN (places:Int) (dims:Int) (types:Int) (l:List Qai) (at_:Int) (x0:Qai) (l1:List Int) (i:Int):Option ((Int)⊕(List Int)):=br (ltI i at_) (bnd (getI l i) fun x1=>br (eqS x1.name x0.name) (chk (okN (l1++[6]).length 8) (some (.inr (l1++[6])))) (some (.inl (addK .i64 i 1)))) (some (.inr l1))
noncomputable def Qfh (types:Int) (x0:Qai) (l6:List Int):Option (List Int):=bnd (Qb4 x0.penalty (-1) 1000000) fun r6=>br r6 (bnd (Qb4 x0.split 1 4) fun r7=>br ((((((!r7)||((gtI x0.split 1)&&((neI x0.pick.place (-1))&&(neI x0.drop.place (-1)))))||(ltI x0.last_ (-1)))||(geI x0.last_ types))||(ltI x0.now (-1)))||(geI x0.now types)) (chk (okN (l6++[2]).length 8) (some (l6++[2]))) (some l6)) (chk (okN (l6++[2]).length 8) (some (l6++[2])))
noncomputable def Qh4 (types:Int) (x0:Qai) (l8:List Int):Option (List Int):=bnd (Qb4 x0.penalty (-1) 1000000) fun r10=>br r10 (bnd (Qb4 x0.split 1 4) fun r11=>br ((((((!r11)||((gtI x0.split 1)&&((neI x0.pick.place (-1))&&(neI x0.drop.place (-1)))))||(ltI x0.last_ (-1)))||(geI x0.last_ types))||(ltI x0.now (-1)))||(geI x0.now types)) (chk (okN (l8++[2]).length 8) (some (l8++[2]))) (some l8)) (chk (okN (l8++[2]).length 8) (some (l8++[2])))
noncomputable def Qfi (types:Int) (x0:Qai) (l7:List Int):Option (List Int):=bnd (Qb4 x0.skills 0 1073741823) fun r9=>br r9 (Qh4 types x0 l7) (chk (okN (l7++[18]).length 8) (Qh4 types x0 (l7++[18])))
noncomputable def Qfg (types:Int) (x0:Qai) (l5:List Int):Option (List Int):=bnd (QeS x0.pick) fun r4=>br (neI r4 0) (chk (okN (l5++[14]).length 8) (bnd (Qb4 x0.skills 0 1073741823) fun r5=>br r5 (Qfh types x0 (l5++[14])) (chk (okN ((l5++[14])++[18]).length 8) (Qfh types x0 ((l5++[14])++[18]))))) (bnd (QeS x0.drop) fun r8=>br (neI r8 0) (chk (okN (l5++[14]).length 8) (Qfi types x0 (l5++[14]))) (Qfi types x0 l5))
noncomputable def Qff (types:Int) (x0:Qai) (l4:List Int):Option (List Int):=br ((eqI x0.pick.place (-1))&&(eqI x0.drop.place (-1))) (chk (okN (l4++[19]).length 8) (Qfg types x0 (l4++[19]))) (Qfg types x0 l4)
noncomputable def Qh6 (types:Int) (x0:Qai) (l10:List Int):Option (List Int):=bnd (Qb4 x0.penalty (-1) 1000000) fun r14=>br r14 (bnd (Qb4 x0.split 1 4) fun r15=>br ((((((!r15)||((gtI x0.split 1)&&((neI x0.pick.place (-1))&&(neI x0.drop.place (-1)))))||(ltI x0.last_ (-1)))||(geI x0.last_ types))||(ltI x0.now (-1)))||(geI x0.now types)) (chk (okN (l10++[2]).length 8) (some (l10++[2]))) (some l10)) (chk (okN (l10++[2]).length 8) (some (l10++[2])))
noncomputable def Qhs (types:Int) (x0:Qai) (l12:List Int):Option (List Int):=bnd (Qb4 x0.penalty (-1) 1000000) fun r18=>br r18 (bnd (Qb4 x0.split 1 4) fun r19=>br ((((((!r19)||((gtI x0.split 1)&&((neI x0.pick.place (-1))&&(neI x0.drop.place (-1)))))||(ltI x0.last_ (-1)))||(geI x0.last_ types))||(ltI x0.now (-1)))||(geI x0.now types)) (chk (okN (l12++[2]).length 8) (some (l12++[2]))) (some l12)) (chk (okN (l12++[2]).length 8) (some (l12++[2])))
noncomputable def Qhr (types:Int) (x0:Qai) (l11:List Int):Option (List Int):=bnd (Qb4 x0.skills 0 1073741823) fun r17=>br r17 (Qhs types x0 l11) (chk (okN (l11++[18]).length 8) (Qhs types x0 (l11++[18])))
noncomputable def Qh5 (types:Int) (x0:Qai) (l9:List Int):Option (List Int):=bnd (QeS x0.pick) fun r12=>br (neI r12 0) (chk (okN (l9++[14]).length 8) (bnd (Qb4 x0.skills 0 1073741823) fun r13=>br r13 (Qh6 types x0 (l9++[14])) (chk (okN ((l9++[14])++[18]).length 8) (Qh6 types x0 ((l9++[14])++[18]))))) (bnd (QeS x0.drop) fun r16=>br (neI r16 0) (chk (okN (l9++[14]).length 8) (Qhr types x0 (l9++[14]))) (Qhr types x0 l9))
noncomputable def Qcj (places:Int) (types:Int) (x0:Qai) (l3:List Int):Option (List Int):=bnd (Qb4 x0.pick.place (-1) (subK .i64 places 1)) fun r2=>br r2 (bnd (Qb4 x0.drop.place (-1) (subK .i64 places 1)) fun r3=>br r3 (Qff types x0 l3) (chk (okN (l3++[11]).length 8) (Qff types x0 (l3++[11])))) (chk (okN (l3++[11]).length 8) (br ((eqI x0.pick.place (-1))&&(eqI x0.drop.place (-1))) (chk (okN ((l3++[11])++[19]).length 8) (Qh5 types x0 ((l3++[11])++[19]))) (Qh5 types x0 (l3++[11]))))
noncomputable def Qfe (places:Int) (dims:Int) (types:Int) (l:List Qai) (at_:Int) (x0:Qai) (l1:List Int):Option (List Int):=bnd (QaW (fun s=>QcN places dims types l at_ x0 l1 s) 0) (fun l2=>bnd (QfV x0.load dims) fun r1=>br r1 (Qcj places types x0 l2) (chk (okN (l2++[17]).length 8) (Qcj places types x0 (l2++[17]))))
noncomputable def Qim (places:Int) (dims:Int) (types:Int) (l:List Qai) (at_:Int):Option (List Int):=bnd (getI l at_) fun x0=>bnd (QgK x0.name) fun r=>br r (Qfe places dims types l at_ x0 []) (chk (okN [5].length 8) (Qfe places dims types l at_ x0 [5]))
noncomputable def Qh3 (n:Qal) (dims:Int) (types:Int) (l:List Qai) (i:Int) (r:List Int) (l3:List Qab) (k:Int):Option ((List Qab×Int)⊕(List Qab)):=br (ltI k (lenI r)) (bnd (getI r k) fun x0=>bnd (Qci i) fun r1=>chk (okN (l3++[(Qab.mk x0 r1)]).length 24) (some (.inl ((l3++[(Qab.mk x0 r1)]),(addK .i64 k 1))))) (some (.inr l3))
noncomputable def Qdx (n:Qal) (dims:Int) (types:Int) (l:List Qai) (l2:List Qab) (i:Int):Option ((List Qab×Int)⊕(List Qab)):=br (ltI i (lenI l)) (bnd (Qim (lenI n.places) dims types l i) fun r=>bnd (QaW (fun s=>Qh3 n dims types l i r s.1 s.2) (l2,0)) (fun l4=>some (.inl (l4,(addK .i64 i 1))))) (some (.inr l2))
noncomputable def Qgs (n:Qal) (dims:Int) (types:Int) (l:List Qai) (l1:List Qab):Option (List Qab):=bnd (QaW (fun s=>Qdx n dims types l s.1 s.2) (l1,0)) (fun l5=>some l5)
noncomputable def Qil (n:Qal) (dims:Int) (types:Int) (l:List Qai):Option (List Qab):=br (gtI (lenI l) 10) (chk (okN [(Qab.mk 4 ByteArray.empty)].length 24) (Qgs n dims types l [(Qab.mk 4 ByteArray.empty)])) (Qgs n dims types l [])
noncomputable def Qea (n1:Int) (s0:ByteArray):Option ((Int×ByteArray)⊕(Int×ByteArray)):=br (geI n1 10) (chk ((Qts [(cvK .u8 (addK .i64 48 (remK n1 10)))]).size+s0.size≤9223372036854775807) (some (.inl ((quoK .i64 n1 10),(catS (Qts [(cvK .u8 (addK .i64 48 (remK n1 10)))]) s0))))) (some (.inr (n1,s0)))
noncomputable def QfL (n:Int):Option ByteArray:=bnd (QaW (fun s=>Qea s.1 s.2) (n,ByteArray.empty)) (fun e0=>(fun n2 s1=>chk ((Qts [(cvK .u8 (addK .i64 48 n2))]).size+s1.size≤9223372036854775807) (some (catS (Qts [(cvK .u8 (addK .i64 48 n2))]) s1))) e0.1 e0.2)
noncomputable def Qer (orders:Int) (l:List QaO) (word:ByteArray) (turned:Bool) (l2:List Qab) (i:Int) (x0:QaO) (r:ByteArray) (twice:Bool) (k:Int):Option ((Bool×Int)⊕(Bool)):=br (ltI k i) (br twice (some (.inl (true,(addK .i64 k 1)))) (bnd (getI l k) fun x1=>br (eqI x1.x0 x0.x0) (br (eqI x1.x1 x0.x1) (some (.inl (true,(addK .i64 k 1)))) (br turned (br (eqI x1.x0 x0.x1) (some (.inl ((eqI x1.x1 x0.x0),(addK .i64 k 1)))) (some (.inl (false,(addK .i64 k 1))))) (some (.inl (false,(addK .i64 k 1)))))) (br turned (br (eqI x1.x0 x0.x1) (some (.inl ((eqI x1.x1 x0.x0),(addK .i64 k 1)))) (some (.inl (false,(addK .i64 k 1))))) (some (.inl (false,(addK .i64 k 1))))))) (some (.inr twice))
noncomputable def Qc0 (orders:Int) (l:List QaO) (word:ByteArray) (turned:Bool) (l2:List Qab) (i:Int):Option ((List Qab×Int)⊕(List Qab)):=br (ltI i (lenI l)) (bnd (getI l i) fun x0=>chk (word.size+Qdt.size≤9223372036854775807) (bnd (QfL i) fun r=>chk ((catS word Qdt).size+r.size≤9223372036854775807) (br (((((ltI x0.x0 0)||(geI x0.x0 orders))||(ltI x0.x1 0))||(geI x0.x1 orders))||(eqI x0.x0 x0.x1)) (chk (okN (l2++[(Qab.mk 2 (catS (catS word Qdt) r))]).length 24) (some (.inl ((l2++[(Qab.mk 2 (catS (catS word Qdt) r))]),(addK .i64 i 1))))) (bnd (QaW (fun s=>Qer orders l word turned l2 i x0 r s.1 s.2) (false,0)) (fun twice1=>br twice1 (chk (okN (l2++[(Qab.mk 6 (catS (catS word Qdt) r))]).length 24) (some (.inl ((l2++[(Qab.mk 6 (catS (catS word Qdt) r))]),(addK .i64 i 1))))) (some (.inl (l2,(addK .i64 i 1))))))))) (some (.inr l2))
noncomputable def QfX (orders:Int) (l:List QaO) (word:ByteArray) (turned:Bool) (l1:List Qab):Option (List Qab):=bnd (QaW (fun s=>Qc0 orders l word turned s.1 s.2) (l1,0)) (fun l3=>some l3)
noncomputable def QhC (orders:Int) (l:List QaO) (word:ByteArray) (turned:Bool):Option (List Qab):=br (gtI (lenI l) 16) (chk (okN [(Qab.mk 4 word)].length 24) (QfX orders l word turned [(Qab.mk 4 word)])) (QfX orders l word turned [])
noncomputable def Qfs (orders:Int) (l:List QaO) (word:ByteArray) (turned:Bool) (l2:List Qab) (i:Int) (x0:QaO) (r:ByteArray) (twice:Bool) (k:Int):Option ((Bool×Int)⊕(Bool)):=br (ltI k i) (br twice (some (.inl (true,(addK .i64 k 1)))) (bnd (getI l k) fun x1=>br (eqI x1.x0 x0.x0) (br (eqI x1.x1 x0.x1) (some (.inl (true,(addK .i64 k 1)))) (br turned (br (eqI x1.x0 x0.x1) (some (.inl ((eqI x1.x1 x0.x0),(addK .i64 k 1)))) (some (.inl (false,(addK .i64 k 1))))) (some (.inl (false,(addK .i64 k 1)))))) (br turned (br (eqI x1.x0 x0.x1) (some (.inl ((eqI x1.x1 x0.x0),(addK .i64 k 1)))) (some (.inl (false,(addK .i64 k 1))))) (some (.inl (false,(addK .i64 k 1))))))) (some (.inr twice))
noncomputable def Qfr (orders:Int) (l:List QaO) (word:ByteArray) (turned:Bool) (l2:List Qab) (i:Int):Option ((List Qab×Int)⊕(List Qab)):=br (ltI i (lenI l)) (bnd (getI l i) fun x0=>chk (word.size+Qdt.size≤9223372036854775807) (bnd (QfL i) fun r=>chk ((catS word Qdt).size+r.size≤9223372036854775807) (br (((((ltI x0.x0 0)||(geI x0.x0 orders))||(ltI x0.x1 0))||(geI x0.x1 orders))||(eqI x0.x0 x0.x1)) (chk (okN (l2++[(Qab.mk 2 (catS (catS word Qdt) r))]).length 24) (some (.inl ((l2++[(Qab.mk 2 (catS (catS word Qdt) r))]),(addK .i64 i 1))))) (bnd (QaW (fun s=>Qfs orders l word turned l2 i x0 r s.1 s.2) (false,0)) (fun twice1=>br twice1 (chk (okN (l2++[(Qab.mk 6 (catS (catS word Qdt) r))]).length 24) (some (.inl ((l2++[(Qab.mk 6 (catS (catS word Qdt) r))]),(addK .i64 i 1))))) (some (.inl (l2,(addK .i64 i 1))))))))) (some (.inr l2))
noncomputable def Qfq (orders:Int) (l:List QaO) (word:ByteArray) (turned:Bool) (l1:List Qab):Option (List Qab):=bnd (QaW (fun s=>Qfr orders l word turned s.1 s.2) (l1,0)) (fun l3=>some l3)
noncomputable def QiW (orders:Int) (l:List QaO) (word:ByteArray) (turned:Bool):Option (List Qab):=br (gtI (lenI l) 16) (chk (okN [(Qab.mk 4 word)].length 24) (Qfq orders l word turned [(Qab.mk 4 word)])) (Qfq orders l word turned [])
noncomputable def Qin (orders:Int) (apart:List QaO) (before:List QaO):Option (List Qab):=bnd (QiW orders apart QwC true) fun r=>bnd (QhC orders before Qvn false) fun r1=>chk (okN (r++r1).length 24) (some (r++r1))
noncomputable def Qf4 (word:ByteArray) (l:List Qab) (l1:List Qab) (i:Int) (at_:ByteArray):Option ((List Qab×Int)⊕(List Qab)):=bnd (getI l i) fun x1=>chk (okN (l1++[(Qab.mk x1.err at_)]).length 24) (some (.inl ((l1++[(Qab.mk x1.err at_)]),(addK .i64 i 1))))
noncomputable def Qf5 (word:ByteArray) (l:List Qab) (l1:List Qab) (i:Int):Option ((List Qab×Int)⊕(List Qab)):=br (ltI i (lenI l)) (bnd (getI l i) fun x0=>br (eqS x0.at_ ByteArray.empty) (Qf4 word l l1 i word) (chk (word.size+Qdt.size≤9223372036854775807) (chk ((catS word Qdt).size+x0.at_.size≤9223372036854775807) (Qf4 word l l1 i (catS (catS word Qdt) x0.at_))))) (some (.inr l1))
noncomputable def Qht (word:ByteArray) (l:List Qab):Option (List Qab):=bnd (QaW (fun s=>Qf5 word l s.1 s.2) ([],0)) (fun l2=>some l2)
noncomputable def Qio (x0:Qad):Option (List Qab):=bnd (Qih x0.net) fun r=>bnd (Qht QyT r) fun r1=>bnd (Qii x0.net x0.types) fun r2=>bnd (Qg6 QzD r2) fun r3=>chk (okN (r1++r3).length 24) (bnd (QgL x0.types) fun r4=>bnd (Qil x0.net r4 (lenI x0.types) x0.orders) fun r5=>bnd (Qg6 QyU r5) fun r6=>chk (okN ((r1++r3)++r6).length 24) (bnd (Qin (lenI x0.orders) x0.apart x0.before) fun r7=>bnd (Qg6 QzC r7) fun r8=>chk (okN (((r1++r3)++r6)++r8).length 24) (some (((r1++r3)++r6)++r8))))
noncomputable def QeR (x0:Qad):Option Bool:=br (leI (lenI x0.orders) 3) (bnd (Qio x0) fun r=>some (eqI (lenI r) 0)) (some false)
noncomputable def QgI (l:List Qac) (v:Int) (x0:Qac) (set_1:Int) (v1:Int):Option ((Int×Int)⊕(Int)):=br (ltI v1 (lenI x0.visits)) (bnd (getI x0.visits v1) fun x1=>br ((geI x1.order 0)&&(leI x1.order 62)) (chk ((0:Int)≤x1.order) (some (.inl ((orK .i64 set_1 (shlK .i64 1 x1.order)),(addK .i64 v1 1))))) (some (.inl (set_1,(addK .i64 v1 1))))) (some (.inr set_1))
noncomputable def QhI (l:List Qac) (set_:Int) (v:Int):Option ((Int×Int)⊕(Int)):=br (ltI v (lenI l)) (bnd (getI l v) fun x0=>bnd (QaW (fun s=>QgI l v x0 s.1 s.2) (set_,0)) (fun set_2=>some (.inl (set_2,(addK .i64 v 1))))) (some (.inr set_))
noncomputable def QgH (l:List Qac):Option Int:=bnd (QaW (fun s=>QhI l s.1 s.2) (0,0)) (fun set_3=>some set_3)
noncomputable def Qbe (n:Int):Option (List Qac):=br (ltI n 0) (none) (br (gtI (subK .i64 n (subK .i64 0 0)) 0) (bnd (mkI (subK .i64 n (subK .i64 0 0)) (subK .i64 n (subK .i64 0 0)) 64 (Qac.mk 0 0 [] [])) fun l=>bnd (slcI l 0 0) fun l1=>some l1) (some []))
noncomputable def QaR (slices:List (List Qac)) (size:Int) (v:Int):Option ((Int×Int)⊕(Int)):=br (ltI v (lenI slices)) (bnd (getI slices v) fun x0=>br (ltI (addK .i64 size (lenI x0)) 0) (none) (some (.inl ((addK .i64 size (lenI x0)),(addK .i64 v 1))))) (some (.inr size))
noncomputable def QaL (slices:List (List Qac)) (l:List Qac) (v1:Int):Option ((List Qac×Int)⊕(List Qac)):=br (ltI v1 (lenI slices)) (bnd (getI slices v1) fun x1=>chk (okN (l++x1).length 64) (some (.inl ((l++x1),(addK .i64 v1 1))))) (some (.inr l))
noncomputable def QbS (slices:List (List Qac)):Option (List Qac):=bnd (QaW (fun s=>QaR slices s.1 s.2) (0,0)) (fun size1=>bnd (Qbe size1) fun r=>bnd (QaW (fun s=>QaL slices s.1 s.2) (r,0)) (fun l1=>some l1))
noncomputable def QdV (r:Qac) (set_:Int) (v:Int):Option ((Int×Int)⊕((Int)⊕(Int×Int))):=br (ltI v (lenI r.visits)) (bnd (getI r.visits v) fun x0=>br ((ltI x0.order 0)||(gtI x0.order 62)) (some (.inr (.inr (0,2)))) (chk ((0:Int)≤x0.order) (some (.inl ((orK .i64 set_ (shlK .i64 1 x0.order)),(addK .i64 v 1)))))) (some (.inr (.inl set_)))
noncomputable def QcH (r:Qac):Option (Int×Int):=bnd (QaW (fun s=>QdV r s.1 s.2) (0,0)) (fun e=>sel e (fun set_1=>some (set_1,0)) (fun r1=>some r1))
noncomputable def Qpb (x0:Qad) (set_:Int):Option Bool:=br (gtI set_ 0) (chk ((0:Int)≤(lenI x0.orders)) (some (eqI (shrK .i64 set_ (lenI x0.orders)) 0))) (some false)
noncomputable def Qk8 (begin:Qac):Option Bool:=some (gtI (lenI begin.rests) (lenI begin.visits))
noncomputable def QaZ (s0:List Qaa) (v:Qaa) (v1:Int):Option ((Int)⊕((Unit)⊕(Int))):=br (ltI v1 (lenI s0)) (bnd (getI s0 v1) fun x0=>br (eqI v.order x0.order&&(eqB v.drop x0.drop&&true)) (some (.inr (.inr v1))) (some (.inl (addK .i64 v1 1)))) (some (.inr (.inl ())))
noncomputable def QbB (s0:List Qaa) (v:Qaa):Option Int:=bnd (QaW (fun s=>QaZ s0 v s) 0) (fun e=>sel e (fun (_:Unit)=>some (-1)) (fun r=>some r))
noncomputable def QeM (l:List Qaa) (v:Qaa):Option Int:=bnd (QbB l v) fun r=>some r
noncomputable def QdP (l:List Qaa) (v:Int):Option ((Int)⊕((Unit)⊕(Bool))):=br (ltI v (lenI l)) (bnd (getI l v) fun x0=>bnd (slcI l 0 v) fun l1=>bnd (QeM l1 x0) fun r=>br (geI r 0) (some (.inr (.inr true))) (some (.inl (addK .i64 v 1)))) (some (.inr (.inl ())))
noncomputable def Qkm (l:List Qaa):Option Bool:=bnd (QaW (fun s=>QdP l s) 0) (fun e=>sel e (fun (_:Unit)=>some false) (fun r1=>some r1))
noncomputable def Qnw (l:List Qai) (at_:Int):Option Bool:=some ((geI at_ 0)&&(ltI at_ (lenI l)))
noncomputable def QhQ (l:List Qai) (at_:Int) (l1:List Qaa):Option (List Qaa):=bnd (getI l at_) fun x1=>br (geI x1.drop.place 0) (chk (okN (l1++[(Qaa.mk at_ true)]).length 16) (some (l1++[(Qaa.mk at_ true)]))) (some l1)
noncomputable def Qiu (l:List Qai) (at_:Int):Option (List Qaa):=bnd (Qnw l at_) fun r=>br r (bnd (getI l at_) fun x0=>br (geI x0.pick.place 0) (chk (okN [(Qaa.mk at_ false)].length 16) (QhQ l at_ [(Qaa.mk at_ false)])) (QhQ l at_ [])) (some [])
noncomputable def QbI (s0:List Qaa) (v:Qaa):Option Bool:=bnd (QbB s0 v) fun r=>some (geI r 0)
noncomputable def Qbw (x0:Qad) (l:List Qaa) (v:Int) (r:List Qaa) (last_:Int) (v1:Int):Option ((Int×Int)⊕((Unit)⊕(Bool))):=br (ltI v1 (lenI r)) (bnd (getI r v1) fun x2=>bnd (QeM l x2) fun r2=>br (leI r2 last_) (some (.inr (.inr false))) (some (.inl (r2,(addK .i64 v1 1))))) (some (.inr (.inl ())))
noncomputable def Qdo (x0:Qad) (l:List Qaa) (v:Int):Option ((Int)⊕((Unit)⊕(Bool))):=br (ltI v (lenI l)) (bnd (getI l v) fun x1=>bnd (Qiu x0.orders x1.order) fun r=>bnd (QbI r x1) fun r1=>br r1 (bnd (QaW (fun s=>Qbw x0 l v r s.1 s.2) ((-1),0)) (fun e=>sel e (fun (_:Unit)=>some (.inl (addK .i64 v 1))) (fun r3=>some (.inr (.inr r3))))) (some (.inr (.inr false)))) (some (.inr (.inl ())))
noncomputable def Qjg (x0:Qad) (l:List Qaa):Option Bool:=bnd (QaW (fun s=>Qdo x0 l s) 0) (fun e=>sel e (fun (_:Unit)=>some true) (fun r4=>some r4))
noncomputable def Qnp (v:Qaa) (c:Int):Option Bool:=some (eqI v.order c)
noncomputable def QaK (s0:List Qaa) (c:Int) (v:Int):Option ((Int)⊕((Unit)⊕(Int))):=br (ltI v (lenI s0)) (bnd (getI s0 v) fun x0=>bnd (Qnp x0 c) fun r=>br r (some (.inr (.inr v))) (some (.inl (addK .i64 v 1)))) (some (.inr (.inl ())))
noncomputable def Qbl (s0:List Qaa) (c:Int):Option Int:=bnd (QaW (fun s=>QaK s0 c s) 0) (fun e=>sel e (fun (_:Unit)=>some (-1)) (fun r1=>some r1))
noncomputable def Qbz (s0:List Qaa) (c:Int):Option Bool:=bnd (Qbl s0 c) fun r=>some (geI r 0)
noncomputable def Qiw (l:List Qaa) (o:Int):Option Bool:=bnd (Qbz l o) fun r=>some r
noncomputable def Qjp (v:Qaa) (c:Int):Option Bool:=some (eqI v.order c)
noncomputable def QaC (s0:List Qaa) (c:Int) (v:Int):Option ((Int)⊕((Unit)⊕(Int))):=br (ltI v (lenI s0)) (bnd (getI s0 v) fun x0=>bnd (Qjp x0 c) fun r=>br r (some (.inr (.inr v))) (some (.inl (addK .i64 v 1)))) (some (.inr (.inl ())))
noncomputable def Qbf (s0:List Qaa) (c:Int):Option Int:=bnd (QaW (fun s=>QaC s0 c s) 0) (fun e=>sel e (fun (_:Unit)=>some (-1)) (fun r1=>some r1))
noncomputable def Qjf (l:List Qaa) (a:Int) (b:Int):Option Bool:=bnd (Qbf l b) fun r=>br (ltI r 0) (some true) (bnd (Qiw l a) fun r1=>br r1 (bnd (slcI l r (lenI l)) fun l1=>bnd (Qiw l1 a) fun r2=>some (!r2)) (some false))
noncomputable def Qki (v:Qaa) (c:Qad):Option Bool:=some ((ltI v.order 0)||(geI v.order (lenI c.orders)))
noncomputable def QaF (s0:List Qaa) (c:Qad) (v:Int):Option ((Int)⊕((Unit)⊕(Int))):=br (ltI v (lenI s0)) (bnd (getI s0 v) fun x0=>bnd (Qki x0 c) fun r=>br r (some (.inr (.inr v))) (some (.inl (addK .i64 v 1)))) (some (.inr (.inl ())))
noncomputable def Qbh (s0:List Qaa) (c:Qad):Option Int:=bnd (QaW (fun s=>QaF s0 c s) 0) (fun e=>sel e (fun (_:Unit)=>some (-1)) (fun r1=>some r1))
noncomputable def Qa9 (s0:List Qaa) (c:Qad):Option Bool:=bnd (Qbh s0 c) fun r=>some (geI r 0)
noncomputable def Qkj (v:Qaa) (c:Qad):Option Bool:=bnd (getI c.orders v.order) fun x0=>some x0.off
noncomputable def QaG (s0:List Qaa) (c:Qad) (v:Int):Option ((Int)⊕((Unit)⊕(Int))):=br (ltI v (lenI s0)) (bnd (getI s0 v) fun x0=>bnd (Qkj x0 c) fun r=>br r (some (.inr (.inr v))) (some (.inl (addK .i64 v 1)))) (some (.inr (.inl ())))
noncomputable def Qbi (s0:List Qaa) (c:Qad):Option Int:=bnd (QaW (fun s=>QaG s0 c s) 0) (fun e=>sel e (fun (_:Unit)=>some (-1)) (fun r1=>some r1))
noncomputable def Qba (s0:List Qaa) (c:Qad):Option Bool:=bnd (Qbi s0 c) fun r=>some (geI r 0)
noncomputable def QdN (x0:Qad) (r:Qac) (v:Int):Option ((Int)⊕((Unit)⊕(Int))):=br (ltI v (lenI x0.apart)) (bnd (getI x0.apart v) fun x1=>bnd (Qiw r.visits x1.x0) fun r5=>br r5 (bnd (Qiw r.visits x1.x1) fun r6=>br r6 (some (.inr (.inr 20))) (some (.inl (addK .i64 v 1)))) (some (.inl (addK .i64 v 1)))) (some (.inr (.inl ())))
noncomputable def Qda (x0:Qad) (r:Qac) (v1:Int):Option ((Int)⊕((Unit)⊕(Int))):=br (ltI v1 (lenI x0.before)) (bnd (getI x0.before v1) fun x2=>bnd (Qjf r.visits x2.x0 x2.x1) fun r7=>br r7 (some (.inl (addK .i64 v1 1))) (some (.inr (.inr 21)))) (some (.inr (.inl ())))
noncomputable def QiM (x0:Qad) (r:Qac):Option Int:=br (eqI (lenI r.visits) 0) (some 2) (bnd (Qa9 r.visits x0) fun r1=>br r1 (some 2) (bnd (Qba r.visits x0) fun r2=>br r2 (some 9) (bnd (Qkm r.visits) fun r3=>br r3 (some 6) (bnd (Qjg x0 r.visits) fun r4=>br r4 (bnd (QaW (fun s=>QdN x0 r s) 0) (fun e=>sel e (fun (_:Unit)=>bnd (QaW (fun s=>Qda x0 r s) 0) (fun e=>sel e (fun (_:Unit)=>some 0) (fun r8=>some r8))) (fun r9=>some r9))) (some 19)))))
noncomputable def QnH (t:Qak) (skills:Int):Option Bool:=some (((geI t.skills 0)&&(geI skills 0))&&(eqI (Qta .i64 skills t.skills) 0))
noncomputable def QgE (x0:Qad) (r:Qac) (v:Int):Option ((Int)⊕((Unit)⊕(Int))):=br (ltI v (lenI r.visits)) (bnd (getI r.visits v) fun x1=>bnd (getI x0.types r.type_) fun x2=>bnd (getI x0.orders x1.order) fun x3=>bnd (QnH x2 x3.skills) fun r1=>br r1 (some (.inl (addK .i64 v 1))) (some (.inr (.inr 18)))) (some (.inr (.inl ())))
noncomputable def Qso (x0:Qad) (r:Qac):Option Int:=bnd (QaW (fun s=>QgE x0 r s) 0) (fun e=>sel e (fun (_:Unit)=>some 0) (fun r2=>some r2))
noncomputable def QwF (set_:Int) (i:Int):Option Bool:=br ((geI i 0)&&(leI i 62)) (chk ((0:Int)≤i) (some (eqI (andK .i64 (shrK .i64 set_ i) 1) 1))) (some false)
noncomputable def Qd0 (set_:Int) (l:List Int) (v:Int):Option ((List Int×Int)⊕(List Int)):=br (ltI v 63) (bnd (QwF set_ v) fun r=>br r (chk (okN (l++[v]).length 8) (some (.inl ((l++[v]),(addK .i64 v 1))))) (some (.inl (l,(addK .i64 v 1))))) (some (.inr l))
noncomputable def Qos (set_:Int):Option (List Int):=bnd (QaW (fun s=>Qd0 set_ s.1 s.2) ([],0)) (fun l1=>some l1)
noncomputable def Qt8 (a:Int) (b:Int):Option Int:=some (addK .i64 a b)
noncomputable def Qcb (a:List Int) (b:List Int) (l:List Int) (l1:List Int) (v:Int):Option ((List Int×Int)⊕(List Int)):=br (ltI v (lenI a)) (bnd (getI a v) fun x0=>bnd (getI b v) fun x1=>bnd (Qt8 x0 x1) fun r=>bnd (getI l1 v) fun x2=>some (.inl ((setI l1 v r),(addK .i64 v 1)))) (some (.inr l1))
noncomputable def Qiz (a:List Int) (b:List Int):Option (List Int×Int):=br (neI (lenI a) (lenI b)) (some ([],2)) (bnd (mkI (lenI a) (lenI a) 8 0) fun l=>bnd (QaW (fun s=>Qcb a b l s.1 s.2) (l,0)) (fun l2=>some (l2,0)))
noncomputable def QsD (a:List Int) (b:List Int):Option (List Int×Int):=bnd (Qiz a b) fun r=>some (r.1,r.2)
noncomputable def QeE (x0:Qad) (l:List Int) (r:List Int) (sum:List Int) (v:Int):Option ((List Int×Int)⊕(List Int)):=br (ltI v (lenI r)) (bnd (getI r v) fun x1=>bnd (getI x0.orders x1) fun x2=>br (ltI x2.pick.place 0) (bnd (QsD sum x2.load) fun r1=>some (.inl (r1.1,(addK .i64 v 1)))) (some (.inl (sum,(addK .i64 v 1))))) (some (.inr sum))
noncomputable def QpC (x0:Qad) (set_:Int) (dims:Int):Option (List Int):=bnd (mkI dims dims 8 0) fun l=>bnd (Qos set_) fun r=>bnd (QaW (fun s=>QeE x0 l r s.1 s.2) (l,0)) (fun sum1=>some sum1)
noncomputable def QrF (l:List Qak):Option Int:=br (eqI (lenI l) 0) (some 0) (bnd (getI l 0) fun x0=>some (lenI x0.cap))
noncomputable def QsE (a:Int) (b:Int):Option Int:=some (subK .i64 a b)
noncomputable def Qb1 (a:List Int) (b:List Int) (l:List Int) (l1:List Int) (v:Int):Option ((List Int×Int)⊕(List Int)):=br (ltI v (lenI a)) (bnd (getI a v) fun x0=>bnd (getI b v) fun x1=>bnd (QsE x0 x1) fun r=>bnd (getI l1 v) fun x2=>some (.inl ((setI l1 v r),(addK .i64 v 1)))) (some (.inr l1))
noncomputable def QhV (a:List Int) (b:List Int):Option (List Int×Int):=br (neI (lenI a) (lenI b)) (some ([],2)) (bnd (mkI (lenI a) (lenI a) 8 0) fun l=>bnd (QaW (fun s=>Qb1 a b l s.1 s.2) (l,0)) (fun l2=>some (l2,0)))
noncomputable def Qt7 (a:List Int) (b:List Int):Option (List Int×Int):=bnd (QhV a b) fun r=>some (r.1,r.2)
noncomputable def QeD (x0:Qad) (r:Qac) (l:List (List Int)) (now:List Int) (v:Int):Option ((List (List Int)×List Int×Int)⊕((List (List Int))⊕(List (List Int)×Int))):=br (ltI v (lenI r.visits)) (bnd (getI r.visits v) fun x1=>br x1.drop (bnd (getI x0.orders x1.order) fun x2=>bnd (Qt7 now x2.load) fun r5=>br (neI r5.2 0) (some (.inr (.inr ([],r5.2)))) (chk (okN (l++[r5.1]).length 24) (some (.inl ((l++[r5.1]),r5.1,(addK .i64 v 1)))))) (bnd (getI x0.orders x1.order) fun x3=>bnd (QsD now x3.load) fun r6=>br (neI r6.2 0) (some (.inr (.inr ([],r6.2)))) (chk (okN (l++[r6.1]).length 24) (some (.inl ((l++[r6.1]),r6.1,(addK .i64 v 1))))))) (some (.inr (.inl l)))
noncomputable def QpB (x0:Qad) (r:Qac):Option (List (List Int)×Int):=bnd (QiM x0 r) fun r1=>br (neI r1 0) (some ([],r1)) (bnd (QcH r) fun r2=>br (neI r2.2 0) (some ([],r2.2)) (bnd (QrF x0.types) fun r3=>bnd (QpC x0 r2.1 r3) fun r4=>bnd (QaW (fun s=>QeD x0 r s.1 s.2.1 s.2.2) ([r4],r4,0)) (fun e=>sel e (fun l1=>some (l1,0)) (fun r7=>some r7))))
noncomputable def Qgk (a:List Int) (capacity:List Int) (v:Int):Option ((Int)⊕((Unit)⊕(Bool))):=br (ltI v (lenI a)) (bnd (getI a v) fun x0=>bnd (getI capacity v) fun x1=>br (gtI x0 x1) (some (.inr (.inr false))) (some (.inl (addK .i64 v 1)))) (some (.inr (.inl ())))
noncomputable def QrK (a:List Int) (capacity:List Int):Option Bool:=br (neI (lenI a) (lenI capacity)) (some false) (bnd (QaW (fun s=>Qgk a capacity s) 0) (fun e=>sel e (fun (_:Unit)=>some true) (fun r=>some r)))
noncomputable def Qqr (a:List Int) (c:Qad) (c1:Qac):Option Bool:=bnd (getI c.types c1.type_) fun x0=>bnd (QrK a x0.cap) fun r=>some (!r)
noncomputable def QaT (s0:List (List Int)) (c:Qad) (c1:Qac) (v:Int):Option ((Int)⊕((Unit)⊕(Int))):=br (ltI v (lenI s0)) (bnd (getI s0 v) fun x0=>bnd (Qqr x0 c c1) fun r=>br r (some (.inr (.inr v))) (some (.inl (addK .i64 v 1)))) (some (.inr (.inl ())))
noncomputable def QbJ (s0:List (List Int)) (c:Qad) (c1:Qac):Option Int:=bnd (QaW (fun s=>QaT s0 c c1 s) 0) (fun e=>sel e (fun (_:Unit)=>some (-1)) (fun r1=>some r1))
noncomputable def QbX (s0:List (List Int)) (c:Qad) (c1:Qac):Option Bool:=bnd (QbJ s0 c c1) fun r=>some (geI r 0)
noncomputable def Qrv (x0:Qad) (r:Qac):Option Int:=br ((ltI r.type_ 0)||(geI r.type_ (lenI x0.types))) (some 2) (bnd (QpB x0 r) fun r1=>br (neI r1.2 0) (some r1.2) (bnd (QbX r1.1 x0 r) fun r2=>br r2 (some 17) (some 0)))
noncomputable def Qma (x1:Qaw):Option (Qaw×Int):=br (ltI x1.place 0) (some ((Qaw.mk 0 0 0 0),19)) (some (x1,0))
noncomputable def Qse (l:List Qai) (v:Qaa):Option (Qaw×Int):=bnd (Qnw l v.order) fun r=>br r (bnd (getI l v.order) fun x0=>br v.drop (Qma x0.drop) (Qma x0.pick)) (some ((Qaw.mk 0 0 0 0),2))
noncomputable def Qjx (x0:Qad) (r:Qac) (x1:Qak) (l:List Qaw) (v:Int):Option ((List Qaw×Int)⊕((List Qaw)⊕(Qay×Bool))):=br (ltI v (lenI r.visits)) (bnd (getI r.visits v) fun x2=>bnd (Qse x0.orders x2) fun r1=>br ((neI r1.2 0)||(ltI r1.1.place 0)) (some (.inr (.inr ((Qay.mk (Qad.mk (Qal.mk [] []) [] [] [] []) (Qak.mk ByteArray.empty 0 0 0 [] 0 0 0 0 0 0 0 0 0) (Qac.mk 0 0 [] []) []),false)))) (chk (okN (l++[r1.1]).length 32) (some (.inl ((l++[r1.1]),(addK .i64 v 1)))))) (some (.inr (.inl l)))
noncomputable def QpM (x0:Qad) (r:Qac):Option (Qay×Bool):=br (((((ltI r.type_ 0)||(geI r.type_ (lenI x0.types)))||(ltI r.start 0))||(gtI r.start 4096))||(gtI (lenI r.visits) 20)) (some ((Qay.mk (Qad.mk (Qal.mk [] []) [] [] [] []) (Qak.mk ByteArray.empty 0 0 0 [] 0 0 0 0 0 0 0 0 0) (Qac.mk 0 0 [] []) []),false)) (bnd (getI x0.types r.type_) fun x1=>bnd (QaW (fun s=>Qjx x0 r x1 s.1 s.2) ([],0)) (fun e=>sel e (fun l1=>some ((Qay.mk x0 x1 r l1),true)) (fun r2=>some r2)))
noncomputable def QdF (p:Qay):Option Qag:=some (Qag.mk (maxI p.t.open_ p.r.start) 0 (Qao.mk false 0 [] 0 0))
noncomputable def QjP (n:Qal) (i:Int):Option Bool:=some ((geI i 0)&&(ltI i (lenI n.places)))
noncomputable def Qpa (a:Qas):Option Qjw:=some (Qjw.mk a.from_ a.to_ a.profile)
noncomputable def QhP (n:Qal) (profile:Int) (from_:Int) (to_:Int) (v:Int):Option ((Int)⊕((Unit)⊕(Qas×Bool))):=br (ltI v (lenI n.arcs)) (bnd (getI n.arcs v) fun x0=>bnd (Qpa x0) fun r=>br (eqI r.from_ from_&&(eqI r.to_ to_&&(eqI r.profile profile&&true))) (some (.inr (.inr (x0,true)))) (some (.inl (addK .i64 v 1)))) (some (.inr (.inl ())))
noncomputable def Qn9 (n:Qal) (profile:Int) (from_:Int) (to_:Int):Option (Qas×Bool):=bnd (QaW (fun s=>QhP n profile from_ to_ s) 0) (fun e=>sel e (fun (_:Unit)=>some ((Qas.mk 0 0 0 0 [] []),false)) (fun r1=>some r1))
noncomputable def Qhi (n:Int) (least:Int) (most:Int):Option Bool:=some ((geI n least)&&(leI n most))
noncomputable def Qsu (i:Int):Option ByteArray:=br (ltI i 10) (bnd (slcS Qpe i (addK .i64 i 1)) fun s0=>some (Qpe.extract (i:Int).toNat ((addK .i64 i 1):Int).toNat)) (bnd (slcS Qpd (mulK .i64 i 2) (addK .i64 (mulK .i64 i 2) 2)) fun s1=>some (Qpd.extract ((mulK .i64 i 2):Int).toNat ((addK .i64 (mulK .i64 i 2) 2):Int).toNat))
noncomputable def QvB (x0:Int):Option Int:=some (shrK .i64 (mulK .i64 x0 78913) 18)
noncomputable def Qva (x2:Int) (n1:Int):Option Int:=br (geI x2 256) (bnd (getS Qpf (cvK .u8 (shrK .u64 x2 8))) fun b=>some (addK .i64 (addK .i64 n1 8) (cvK .i64 (QEJ b)))) (bnd (getS Qpf (cvK .u8 x2)) fun b1=>some (addK .i64 n1 (cvK .i64 (QEJ b1))))
noncomputable def Qu9 (x1:Int) (n:Int):Option Int:=br (geI x1 65536) (Qva (shrK .u64 x1 16) (addK .i64 n 16)) (Qva x1 n)
noncomputable def QBR (x0:Int):Option Int:=br (geI x0 4294967296) (Qu9 (shrK .u64 x0 32) 32) (Qu9 x0 0)
noncomputable def QvC (d:Int):Option Int:=bnd (QBR d) fun r=>bnd (QvB r) fun r1=>none
noncomputable def Qhw (i:Int) (u:Int):Option ByteArray:=bnd (QvC u) fun r1=>none
noncomputable def Qmu (i:Int) (base:Int):Option ByteArray:=br (eqI base 10) (br ((leI 0 i)&&(ltI i 100)) (bnd (Qsu i) fun r=>some r) (br (ltI i 0) (Qhw i (subK .u64 0 (cvK .u64 i))) (Qhw i (cvK .u64 i)))) (none)
noncomputable def QtW (i:Int):Option ByteArray:=bnd (Qmu i 10) fun r=>some r
noncomputable def Qnr (i:Int):Option ByteArray:=bnd (QtW i) fun r=>some r
noncomputable def Qji (l:List Qan) (v:Int) (x0:Qan) (r:ByteArray) (l3:List Qab):Option ((List Qab×Int)⊕(List Qab)):=br (gtI v 0) (bnd (getI l (subK .i64 v 1)) fun x1=>br (leI x0.t x1.t) (chk (okN (l3++[(Qab.mk 13 r)]).length 24) (some (.inl ((l3++[(Qab.mk 13 r)]),(addK .i64 v 1))))) (br (ltI x0.a x1.a) (chk (okN (l3++[(Qab.mk 13 r)]).length 24) (some (.inl ((l3++[(Qab.mk 13 r)]),(addK .i64 v 1))))) (some (.inl (l3,(addK .i64 v 1)))))) (some (.inl (l3,(addK .i64 v 1))))
noncomputable def QeN (l:List Qan) (l2:List Qab) (v:Int):Option ((List Qab×Int)⊕(List Qab)):=br (ltI v (lenI l)) (bnd (getI l v) fun x0=>bnd (Qnr v) fun r=>bnd (Qhi x0.t 0 4096) fun r1=>br (((!r1)||(ltI x0.a x0.t))||(gtI x0.a (addK .i64 x0.t 4096))) (chk (okN (l2++[(Qab.mk 2 r)]).length 24) (Qji l v x0 r (l2++[(Qab.mk 2 r)]))) (Qji l v x0 r l2)) (some (.inr l2))
noncomputable def Qjh (l:List Qan) (l1:List Qab):Option (List Qab):=bnd (QaW (fun s=>QeN l s.1 s.2) (l1,0)) (fun l4=>some l4)
noncomputable def Qow (l:List Qan):Option (List Qab):=br ((eqI (lenI l) 0)||(gtI (lenI l) 16)) (chk (okN [(Qab.mk 4 ByteArray.empty)].length 24) (Qjh l [(Qab.mk 4 ByteArray.empty)])) (Qjh l [])
noncomputable def Qox (l:List Qan):Option Bool:=bnd (Qow l) fun r=>some (eqI (lenI r) 0)
noncomputable def QgR (p:Qan) (t:Int):Option Int:=some (subK .i64 p.t t)
noncomputable def QaN (x0:List Qan) (target:Int) (i:Int) (j:Int):Option ((Int×Int)⊕(Int)):=br (ltI i j) (bnd (getI x0 (cvK .i64 (shrK .u64 (cvK .u64 (addK .i64 i j)) 1))) fun x1=>bnd (QgR x1 target) fun r=>br (ltI r 0) (some (.inl ((addK .i64 (cvK .i64 (shrK .u64 (cvK .u64 (addK .i64 i j)) 1)) 1),j))) (some (.inl (i,(cvK .i64 (shrK .u64 (cvK .u64 (addK .i64 i j)) 1)))))) (some (.inr i))
noncomputable def Qbb (x0:List Qan) (target:Int):Option (Int×Bool):=bnd (QaW (fun s=>QaN x0 target s.1 s.2) (0,(lenI x0))) (fun i1=>br (ltI i1 (lenI x0)) (bnd (getI x0 i1) fun x2=>bnd (QgR x2 target) fun r1=>some (i1,(eqI r1 0))) (some (i1,false)))
noncomputable def Qmk (l:List Qan) (t:Int):Option Int:=bnd (Qbb l t) fun r=>br r.2 (bnd (getI l r.1) fun x0=>some x0.a) (br (eqI r.1 0) (bnd (getI l 0) fun x1=>some (subK .i64 (addK .i64 t x1.a) x1.t)) (br (eqI r.1 (lenI l)) (bnd (getI l (subK .i64 r.1 1)) fun x2=>some (subK .i64 (addK .i64 t x2.a) x2.t)) (bnd (getI l (subK .i64 r.1 1)) fun x3=>bnd (getI l r.1) fun x4=>chk (((subK .i64 x4.t x3.t):Int)≠0) (some (addK .i64 x3.a (quoK .i64 (subK .i64 (addK .i64 (mulK .i64 (subK .i64 t x3.t) (subK .i64 x4.a x3.a)) (subK .i64 x4.t x3.t)) 1) (subK .i64 x4.t x3.t)))))))
noncomputable def Qmj (l:List Qan) (t:Int):Option Int:=bnd (Qhi t 0 1073741824) fun r=>br r (bnd (Qox l) fun r1=>br r1 (bnd (Qmk l t) fun r2=>some r2) (some 0)) (some 0)
noncomputable def QiJ (a:Qas) (t:Int) (out:Int) (v:Int):Option ((Int×Int)⊕(Int)):=br (ltI v (lenI a.slow)) (bnd (getI a.slow v) fun x0=>br (leI x0.t t) (some (.inl ((addK .i64 out x0.a),(addK .i64 v 1)))) (some (.inl (out,(addK .i64 v 1))))) (some (.inr out))
noncomputable def Qjd (a:Qas) (t:Int):Option Int:=bnd (Qmj a.travel t) fun r=>bnd (QaW (fun s=>QiJ a t s.1 s.2) (r,0)) (fun out1=>some out1)
noncomputable def Qqb (n:Qal) (profile:Int) (from_:Int) (to_:Int) (t:Int):Option (Int×Int×Int):=bnd (QjP n from_) fun r=>br r (bnd (QjP n to_) fun r1=>br r1 (br (eqI from_ to_) (some (t,0,0)) (bnd (Qn9 n profile from_ to_) fun r2=>br r2.2 (bnd (Qjd r2.1 t) fun r3=>some (r3,r2.1.miles,0)) (some (0,0,12)))) (some (0,0,11))) (some (0,0,11))
noncomputable def QqI (s0:Qaw) (arrive:Int):Option (Int×Int):=br (gtI (maxI arrive s0.open_) s0.close) (some (0,14)) (some ((maxI arrive s0.open_),0))
noncomputable def QgY (p:Qay) (visits:Int):Option Int:=br (eqI visits 0) (some p.t.from_) (bnd (getI p.stops (subK .i64 visits 1)) fun x0=>some x0.place)
noncomputable def QbN (s0:List Qaq):Option (List Qaq):=br (List.isEmpty s0) (amb (some []) (chk (okN s0.length 32) (some s0))) (chk (okN s0.length 32) (some s0))
noncomputable def QfH (p:Qay) (l:Qag) (depart:Int) (since:Int) (rest_1:Bool) (depart1:Int) (r2:Int×Int×Int) (l2:List Qaq) (ready:Int) (end_:Int):Option (Qag×Int):=br (gtI (subK .i64 (addK .i64 since r2.1) depart) p.t.drive) (some ((Qag.mk 0 0 (Qao.mk false 0 [] 0 0)),16)) (some ((Qag.mk ready (subK .i64 (addK .i64 since r2.1) depart) (Qao.mk rest_1 depart1 l2 end_ (addK .i64 l.sheet.miles r2.2.1))),0))
noncomputable def Qeo (p:Qay) (l:Qag) (done:Int) (depart:Int) (since:Int) (l1:List Qaq) (rest_1:Bool) (depart1:Int) (to_:Int):Option (Qag×Int):=bnd (QgY p done) fun r1=>bnd (Qqb p.x.net p.t.profile r1 to_ depart) fun r2=>br (neI r2.2.2 0) (some ((Qag.mk 0 0 (Qao.mk false 0 [] 0 0)),12)) (br (eqI done (lenI p.stops)) (br (gtI r2.1 p.t.close) (some ((Qag.mk 0 0 (Qao.mk false 0 [] 0 0)),15)) (QfH p l depart since rest_1 depart1 r2 l1 r2.1 r2.1)) (bnd (getI p.stops done) fun x2=>bnd (QqI x2 r2.1) fun r3=>br (neI r3.2 0) (some ((Qag.mk 0 0 (Qao.mk false 0 [] 0 0)),14)) (chk (okN (l1++[(Qaq.mk r2.1 r3.1 0 false)]).length 32) (QfH p l depart since rest_1 depart1 r2 (l1++[(Qaq.mk r2.1 r3.1 0 false)]) (addK .i64 r3.1 x2.service) l.sheet.end_))))
noncomputable def QfG (p:Qay) (l:Qag) (done:Int) (depart:Int) (since:Int) (l1:List Qaq) (rest_1:Bool) (depart1:Int):Option (Qag×Int):=br (eqI done (lenI p.stops)) (Qeo p l done depart since l1 rest_1 depart1 p.t.to_) (bnd (getI p.stops done) fun x1=>Qeo p l done depart since l1 rest_1 depart1 x1.place)
noncomputable def QfF (p:Qay) (l:Qag) (done:Int) (rest_:Bool) (depart:Int) (since:Int):Option (Qag×Int):=bnd (QbN l.sheet.times) fun r=>br (eqI done 0) (QfG p l done depart since r rest_ depart) (bnd (getI r (subK .i64 done 1)) fun x0=>QfG p l done depart since (setI (setI r (subK .i64 done 1) (Qaq.mk x0.arrive x0.begin x0.depart rest_)) (subK .i64 done 1) (Qaq.mk x0.arrive x0.begin depart rest_)) l.sheet.rest_ l.sheet.depart)
noncomputable def QfA (p:Qay) (l:Qag) (done:Int) (rest_:Bool):Option (Qag×Int):=br rest_ (QfF p l done rest_ (addK .i64 l.ready p.t.rest_) 0) (QfF p l done rest_ l.ready l.since)
noncomputable def Qml (l:Qag) (m:Qag):Option Bool:=some ((eqI l.ready m.ready)&&(leI l.since m.since))
noncomputable def Qhx (m:Qag) (c:Qag):Option Bool:=bnd (Qml m c) fun r=>some r
noncomputable def Qax (s0:List Qag) (c:Qag) (v:Int):Option ((Int)⊕((Unit)⊕(Int))):=br (ltI v (lenI s0)) (bnd (getI s0 v) fun x0=>bnd (Qhx x0 c) fun r=>br r (some (.inr (.inr v))) (some (.inl (addK .i64 v 1)))) (some (.inr (.inl ())))
noncomputable def Qbr (s0:List Qag) (c:Qag):Option Int:=bnd (QaW (fun s=>Qax s0 c s) 0) (fun e=>sel e (fun (_:Unit)=>some (-1)) (fun r1=>some r1))
noncomputable def QaX (s0:List Qag) (c:Qag):Option Bool:=bnd (Qbr s0 c) fun r=>some (geI r 0)
noncomputable def QcF (p:Qay) (l:List Qag) (done:Int) (choices:List Bool) (v:Int) (x0:Qag) (l3:List Qag) (v1:Int):Option ((List Qag×Int)⊕(List Qag)):=br (ltI v1 (lenI choices)) (bnd (getI choices v1) fun x1=>bnd (QfA p x0 done x1) fun r=>br (eqI r.2 0) (bnd (QaX l3 r.1) fun r1=>br r1 (some (.inl (l3,(addK .i64 v1 1)))) (chk (okN (l3++[r.1]).length 72) (some (.inl ((l3++[r.1]),(addK .i64 v1 1)))))) (some (.inl (l3,(addK .i64 v1 1))))) (some (.inr l3))
noncomputable def QcE (p:Qay) (l:List Qag) (done:Int) (choices:List Bool) (l2:List Qag) (v:Int):Option ((List Qag×Int)⊕(List Qag)):=br (ltI v (lenI l)) (bnd (getI l v) fun x0=>bnd (QaW (fun s=>QcF p l done choices v x0 s.1 s.2) (l2,0)) (fun l4=>some (.inl (l4,(addK .i64 v 1))))) (some (.inr l2))
noncomputable def QfE (p:Qay) (l:List Qag) (done:Int) (choices:List Bool):Option (List Qag):=bnd (QaW (fun s=>QcE p l done choices s.1 s.2) ([],0)) (fun l5=>some l5)
noncomputable def QgJ (p:Qay) (l:List Qag) (done:Int):Option (List Qag):=br (ltI done (lenI p.r.rests)) (bnd (slcI p.r.rests done (addK .i64 done 1)) fun l1=>QfE p l done l1) (QfE p l done [false,true])
noncomputable def Qge (p:Qay) (rests:List Bool) (r:Qag) (rest_:Int) (x0:Qag) (v:Int):Option ((Int×Qag×Int)⊕((Qag)⊕(Qao×Int))):=br (ltI v (lenI rests)) (bnd (getI rests v) fun x1=>bnd (QfA (Qay.mk p.x (Qak.mk p.t.name p.t.count p.t.from_ p.t.to_ p.t.cap p.t.skills p.t.profile p.t.open_ p.t.close p.t.drive rest_ p.t.fixed p.t.perMile p.t.perTick) p.r p.stops) x0 v x1) fun r1=>br (neI r1.2 0) (some (.inr (.inr ((Qao.mk false 0 [] 0 0),r1.2)))) (some (.inl (rest_,r1.1,(addK .i64 v 1))))) (some (.inr (.inl x0)))
noncomputable def Qhj (p:Qay) (rests:List Bool):Option (Qao×Int):=bnd (QdF p) fun r=>bnd (QaW (fun s=>Qge p rests r s.1 s.2.1 s.2.2) (p.t.rest_,r,0)) (fun e=>sel e (fun x2=>some (x2.sheet,0)) (fun r2=>some r2))
noncomputable def QeP (r:Qac) (r1:Qay×Bool) (l:List Qag) (v:Int):Option ((List Qag×Int)⊕(List Qag)):=br (ltI v (addK .i64 (lenI r.visits) 1)) (bnd (QgJ r1.1 l v) fun r3=>some (.inl (r3,(addK .i64 v 1)))) (some (.inr l))
noncomputable def Qed (l3:List Qag) (x2:Qag) (v1:Int):Option ((Qag×Int)⊕(Qag)):=br (ltI v1 (lenI l3)) (bnd (getI l3 v1) fun x3=>br (ltI x3.sheet.end_ x2.sheet.end_) (some (.inl (x3,(addK .i64 v1 1)))) (some (.inl (x2,(addK .i64 v1 1))))) (some (.inr x2))
noncomputable def QpL (x0:Qad) (r:Qac):Option (Qao×Int):=bnd (QpM x0 r) fun r1=>br ((!r1.2)||(gtI (lenI r.rests) (addK .i64 (lenI r.visits) 1))) (some ((Qao.mk false 0 [] 0 0),2)) (bnd (QdF r1.1) fun r2=>bnd (QaW (fun s=>QeP r r1 s.1 s.2) ([r2],0)) (fun l1=>br (eqI (lenI l1) 0) (bnd (mkI (addK .i64 (lenI r.visits) 1) (addK .i64 (lenI r.visits) 1) 1 false) fun l2=>bnd (Qhj r1.1 (cpyL l2 r.rests)) fun r4=>some (r4.1,r4.2)) (bnd (getI l1 0) fun x1=>bnd (slcI l1 1 (lenI l1)) fun l3=>bnd (QaW (fun s=>Qed l3 s.1 s.2) (x1,0)) (fun x4=>some (x4.sheet,0)))))
noncomputable def Qme (kind:Int) (own:Int):Option Bool:=some ((neI kind (-1))&&(neI kind own))
noncomputable def Qkg (x0:Qad) (r:Qac) (s0:Qao) (x1:Qak) (l:List (Int×Int)) (other:Int) (v:Int) (x2:Qaa) (x3:Qai) (moved1:Int):Option ((List (Int×Int)×Int×Int×Int)⊕(Int×Int)):=bnd (Qme x3.last_ r.type_) fun r2=>br r2 (some (.inl ((mPut eqI l x2.order (addK .i64 (mGet eqI l x2.order 0) 1)),moved1,(addK .i64 other 1),(addK .i64 v 1)))) (some (.inl ((mPut eqI l x2.order (addK .i64 (mGet eqI l x2.order 0) 1)),moved1,other,(addK .i64 v 1))))
noncomputable def QeL (x0:Qad) (r:Qac) (s0:Qao) (x1:Qak) (l:List (Int×Int)) (moved:Int) (other:Int) (v:Int):Option ((List (Int×Int)×Int×Int×Int)⊕(Int×Int)):=br (ltI v (lenI r.visits)) (bnd (getI r.visits v) fun x2=>br ((ltI x2.order 0)||(geI x2.order (lenI x0.orders))) (some (.inl ((mPut eqI l x2.order (addK .i64 (mGet eqI l x2.order 0) 1)),moved,other,(addK .i64 v 1)))) (br (gtI (mGet eqI (mPut eqI l x2.order (addK .i64 (mGet eqI l x2.order 0) 1)) x2.order 0) 1) (some (.inl ((mPut eqI l x2.order (addK .i64 (mGet eqI l x2.order 0) 1)),moved,other,(addK .i64 v 1)))) (bnd (getI x0.orders x2.order) fun x3=>bnd (Qme x3.now r.type_) fun r1=>br r1 (Qkg x0 r s0 x1 l other v x2 x3 (addK .i64 moved 1)) (Qkg x0 r s0 x1 l other v x2 x3 moved)))) (some (.inr (moved,other)))
noncomputable def Qqf (x0:Qad) (r:Qac) (s0:Qao):Option QaE:=br ((ltI r.type_ 0)||(geI r.type_ (lenI x0.types))) (some (QaE.mk 0 0 0 0)) (bnd (getI x0.types r.type_) fun x1=>bnd (QaW (fun s=>QeL x0 r s0 x1 s.1 s.2.1 s.2.2.1 s.2.2.2) ([],0,0,0)) (fun e0=>(fun moved2 other1=>some (QaE.mk (addK .i64 (addK .i64 x1.fixed (mulK .i64 x1.perMile s0.miles)) (mulK .i64 x1.perTick (subK .i64 s0.end_ x1.open_))) moved2 other1 (mulK .i64 (quoK .i64 (subK .i64 s0.end_ x1.open_) 64) (quoK .i64 (subK .i64 s0.end_ x1.open_) 64)))) e0.1 e0.2))
noncomputable def Qfu (x0:Qad) (r:Qac):Option (Qao×QaE×Int):=br ((ltI r.type_ 0)||(geI r.type_ (lenI x0.types))) (some ((Qao.mk false 0 [] 0 0),(QaE.mk 0 0 0 0),2)) (bnd (QiM x0 r) fun r1=>br (neI r1 0) (some ((Qao.mk false 0 [] 0 0),(QaE.mk 0 0 0 0),r1)) (bnd (Qso x0 r) fun r2=>br (neI r2 0) (some ((Qao.mk false 0 [] 0 0),(QaE.mk 0 0 0 0),r2)) (bnd (Qrv x0 r) fun r3=>br (neI r3 0) (some ((Qao.mk false 0 [] 0 0),(QaE.mk 0 0 0 0),r3)) (bnd (QpL x0 r) fun r4=>br (neI r4.2 0) (some ((Qao.mk false 0 [] 0 0),(QaE.mk 0 0 0 0),r4.2)) (bnd (Qqf x0 r r4.1) fun r5=>some (r4.1,r5,0))))))
noncomputable def QsH (s0:QaE):Option QAQ:=some (QAQ.mk s0.cost s0.moved s0.other s0.work)
noncomputable def Qog (s0:QaE):Option (Int×Int):=bnd (QsH s0) fun r=>br (ltI r.x0 0) (some (0,2)) (br (ltI r.x1 0) (some (0,2)) (br (ltI r.x2 0) (some (0,2)) (br (ltI r.x3 0) (some (0,2)) (br ((((gtI s0.cost 1073741824)||(geI s0.moved 16))||(geI s0.other 16))||(geI s0.work 65536)) (some (0,4)) (some ((addK .i64 (mulK .i64 (addK .i64 (mulK .i64 (addK .i64 (mulK .i64 s0.cost 16) s0.moved) 16) s0.other) 65536) s0.work),0))))))
noncomputable def Qec (x0:Qad) (r:Qac):Option (Int×Int):=bnd (Qfu x0 r) fun r1=>br (neI r1.2.2 0) (some (0,r1.2.2)) (bnd (Qog r1.2.1) fun r2=>some (r2.1,r2.2))
noncomputable def QfR (v:Qaa):Option Int:=br v.drop (some 1) (some 0)
noncomputable def QeF (vals:List Int) (v:Int):Option ((Int)⊕((Unit)⊕(Int))):=br (ltI v (lenI vals)) (bnd (getI vals v) fun x0=>br (neI x0 0) (some (.inr (.inr x0))) (some (.inl (addK .i64 v 1)))) (some (.inr (.inl ())))
noncomputable def QpD (vals:List Int):Option Int:=bnd (QaW (fun s=>QeF vals s) 0) (fun e=>sel e (fun (_:Unit)=>some 0) (fun r=>some r))
noncomputable def QjS (x0:Int):Option Bool:=some (neI x0 x0)
noncomputable def QgW (x0:Int) (y:Int):Option Int:=bnd (QjS x0) fun r=>bnd (QjS y) fun r1=>br r (br r1 (some 0) (some (-1))) (br r1 (some 1) (br (ltI x0 y) (some (-1)) (br (gtI x0 y) (some 1) (some 0))))
noncomputable def Qiv (a:Qaa) (b:Qaa):Option Int:=bnd (QgW a.order b.order) fun r=>bnd (QfR a) fun r1=>bnd (QfR b) fun r2=>bnd (QgW r1 r2) fun r3=>bnd (QpD [r,r3]) fun r4=>some r4
noncomputable def Qat (s1:List Qaa) (s2:List Qaa) (v:Int):Option ((Int)⊕((Unit)⊕(Int))):=br (ltI v (lenI s1)) (bnd (getI s1 v) fun x0=>br (geI v (lenI s2)) (some (.inr (.inr 1))) (bnd (getI s2 v) fun x1=>bnd (Qiv x0 x1) fun r=>br (neI r 0) (some (.inr (.inr r))) (some (.inl (addK .i64 v 1))))) (some (.inr (.inl ())))
noncomputable def Qa0 (s1:List Qaa) (s2:List Qaa):Option Int:=bnd (QaW (fun s=>Qat s1 s2 s) 0) (fun e=>sel e (fun (_:Unit)=>br (ltI (lenI s1) (lenI s2)) (some (-1)) (some 0)) (fun r1=>some r1))
noncomputable def Qmg (a:List Qaa) (b:List Qaa):Option Bool:=bnd (Qa0 a b) fun r=>some (ltI r 0)
noncomputable def Qnu (a:Qaf) (b:Qaf):Option Bool:=br (neI a.price b.price) (some (ltI a.price b.price)) (bnd (Qmg a.route.visits b.route.visits) fun r=>some r)
noncomputable def Qgg (f:Qar) (l:List Qaa):Option Qar:=bnd (QcH (Qac.mk f.begin.type_ f.begin.start f.begin.rests l)) fun r=>br ((neI r.2 0)||(neI r.1 f.set_)) (some f) (bnd (Qec f.x (Qac.mk f.begin.type_ f.begin.start f.begin.rests l)) fun r1=>br (neI r1.2 0) (some f) (br f.found (bnd (Qnu (Qaf.mk f.begin.type_ f.set_ r1.1 (Qac.mk f.begin.type_ f.begin.start f.begin.rests l)) f.best) fun r2=>br r2 (some (Qar.mk f.x f.begin f.set_ true (Qaf.mk f.begin.type_ f.set_ r1.1 (Qac.mk f.begin.type_ f.begin.start f.begin.rests l)))) (some f)) (some (Qar.mk f.x f.begin f.set_ true (Qaf.mk f.begin.type_ f.set_ r1.1 (Qac.mk f.begin.type_ f.begin.start f.begin.rests l))))))
noncomputable def Qdc (x0:Qad) (l:List Qaa) (v:Qaa) (r1:List Qaa) (v1:Int):Option ((Int)⊕((Unit)⊕(Bool))):=br (ltI v1 (lenI r1)) (bnd (getI r1 v1) fun x1=>br (eqI x1.order v.order&&(eqB x1.drop v.drop&&true)) (some (.inr (.inl ()))) (bnd (QeM l x1) fun r2=>br (ltI r2 0) (some (.inr (.inr false))) (some (.inl (addK .i64 v1 1))))) (some (.inr (.inl ())))
noncomputable def QdO (x0:Qad) (l:List Qaa) (v:Qaa) (v2:Int) (r3:List Qaa) (v3:Int):Option ((Int)⊕((Unit)⊕(Bool))):=br (ltI v3 (lenI r3)) (bnd (getI r3 v3) fun x3=>bnd (QeM l x3) fun r4=>br (ltI r4 0) (some (.inr (.inr false))) (some (.inl (addK .i64 v3 1)))) (some (.inr (.inl ())))
noncomputable def Qdd (x0:Qad) (l:List Qaa) (v:Qaa) (v2:Int):Option ((Int)⊕((Unit)⊕(Bool))):=br (ltI v2 (lenI x0.before)) (bnd (getI x0.before v2) fun x2=>br (neI x2.x1 v.order) (some (.inl (addK .i64 v2 1))) (bnd (Qiu x0.orders x2.x0) fun r3=>bnd (QaW (fun s=>QdO x0 l v v2 r3 s) 0) (fun e=>sel e (fun (_:Unit)=>some (.inl (addK .i64 v2 1))) (fun r5=>some (.inr (.inr r5)))))) (some (.inr (.inl ())))
noncomputable def Qkl (x0:Qad) (l:List Qaa) (v:Qaa):Option Bool:=bnd (QeM l v) fun r=>br (geI r 0) (some false) (bnd (Qiu x0.orders v.order) fun r1=>bnd (QaW (fun s=>Qdc x0 l v r1 s) 0) (fun e=>sel e (fun (_:Unit)=>bnd (QaW (fun s=>Qdd x0 l v s) 0) (fun e=>sel e (fun (_:Unit)=>some true) (fun r6=>some r6))) (fun r7=>some r7)))
noncomputable def Qd6 (x0:Qad) (set_:Int) (l:List Qaa) (v:Int) (r:List Qaa) (l2:List Qaa) (v1:Int):Option ((List Qaa×Int)⊕(List Qaa)):=br (ltI v1 (lenI r)) (bnd (getI r v1) fun x2=>bnd (Qkl x0 l x2) fun r1=>br r1 (chk (okN (l2++[x2]).length 16) (some (.inl ((l2++[x2]),(addK .i64 v1 1))))) (some (.inl (l2,(addK .i64 v1 1))))) (some (.inr l2))
noncomputable def QdH (x0:Qad) (set_:Int) (l:List Qaa) (l1:List Qaa) (v:Int):Option ((List Qaa×Int)⊕(List Qaa)):=br (ltI v (lenI x0.orders)) (bnd (getI x0.orders v) fun x1=>br (gtI v 62) (some (.inl (l1,(addK .i64 v 1)))) (chk ((0:Int)≤v) (br ((eqI (andK .i64 (shrK .i64 set_ v) 1) 0)||x1.off) (some (.inl (l1,(addK .i64 v 1)))) (bnd (Qiu x0.orders v) fun r=>bnd (QaW (fun s=>Qd6 x0 set_ l v r s.1 s.2) (l1,0)) (fun l3=>some (.inl (l3,(addK .i64 v 1)))))))) (some (.inr l1))
noncomputable def Qmh (x0:Qad) (set_:Int) (l:List Qaa):Option (List Qaa):=bnd (QaW (fun s=>QdH x0 set_ l s.1 s.2) ([],0)) (fun l4=>some l4)
noncomputable def QbF (s0:List Qaa):Option (List Qaa):=br (List.isEmpty s0) (amb (some []) (chk (okN s0.length 16) (some s0))) (chk (okN s0.length 16) (some s0))
noncomputable def Qeb (self:Qar→(List Qaa)→Option Qar) (l:List Qaa) (r:List Qaa) (x0:Qar) (v:Int):Option ((Qar×Int)⊕(Qar)):=br (ltI v (lenI r)) (bnd (getI r v) fun x1=>bnd (QbF l) fun r2=>chk (okN (r2++[x1]).length 16) (bnd (self x0 (r2++[x1])) fun r3=>some (.inl (r3,(addK .i64 v 1))))) (some (.inr x0))
noncomputable def Qf0 (self:Qar→(List Qaa)→Option Qar) (f:Qar) (l:List Qaa):Option Qar:=bnd (Qmh f.x f.set_ l) fun r=>br (eqI (lenI r) 0) (bnd (Qgg f l) fun r1=>some r1) (bnd (QaW (fun s=>Qeb self l r s.1 s.2) (f,0)) (fun x2=>some x2))
noncomputable def QdR:Nat→Qar→(List Qaa)→Option Qar|0=>fun _ _=>none|n+1=>fun f l=>Qf0 (QdR n) f l
noncomputable def Qqd (f:Qar) (l:List Qaa):Option Qar:=QdR QoM f l
noncomputable def QgC (x1:Qar):Option (Qaf×Int):=br x1.found (some (x1.best,0)) (some ((Qaf.mk 0 0 0 (Qac.mk 0 0 [] [])),24))
noncomputable def Qfl (x0:Qad) (begin:Qac) (set_:Int):Option (Qaf×Int):=br ((ltI begin.type_ 0)||(geI begin.type_ (lenI x0.types))) (some ((Qaf.mk 0 0 0 (Qac.mk 0 0 [] [])),2)) (bnd (Qpb x0 set_) fun r=>br r (bnd (QcH begin) fun r1=>br ((neI r1.2 0)||(neI (Qta .i64 r1.1 set_) 0)) (QgC (Qar.mk x0 begin set_ false (Qaf.mk 0 0 0 (Qac.mk 0 0 [] [])))) (bnd (Qk8 begin) fun r2=>br r2 (bnd (Qgg (Qar.mk x0 begin set_ false (Qaf.mk 0 0 0 (Qac.mk 0 0 [] []))) begin.visits) fun r3=>QgC r3) (bnd (Qqd (Qar.mk x0 begin set_ false (Qaf.mk 0 0 0 (Qac.mk 0 0 [] []))) begin.visits) fun r4=>QgC r4))) (some ((Qaf.mk 0 0 0 (Qac.mk 0 0 [] [])),2)))
noncomputable def QgD (x0:Qad) (begin:Qac) (need:Int) (without:Int) (l:List Qaf) (set_:Int):Option ((List Qaf×Int)⊕(List Qaf)):=chk ((0:Int)≤(lenI x0.orders)) (br (ltI set_ (shlK .i64 1 (lenI x0.orders))) (br ((neI (andK .i64 set_ need) need)||(neI (andK .i64 set_ without) 0)) (some (.inl (l,(addK .i64 set_ 1)))) (bnd (Qfl x0 begin set_) fun r=>br (eqI r.2 0) (chk (okN (l++[r.1]).length 88) (some (.inl ((l++[r.1]),(addK .i64 set_ 1))))) (some (.inl (l,(addK .i64 set_ 1)))))) (some (.inr l)))
noncomputable def Qoc (x0:Qad) (begin:Qac) (need:Int) (without:Int):Option (List Qaf):=bnd (QaW (fun s=>QgD x0 begin need without s.1 s.2) ([],1)) (fun l1=>some l1)
noncomputable def QgB (x0:Qad) (begins:List Qac) (now:Int) (v:Int):Option ((Int)⊕((Unit)⊕(List Qaf×Int))):=br (ltI v (lenI begins)) (bnd (getI begins v) fun x1=>br ((ltI x1.type_ 0)||(geI x1.type_ (lenI x0.types))) (some (.inr (.inr ([],2)))) (some (.inl (addK .i64 v 1)))) (some (.inr (.inl ())))
noncomputable def QeW (x0:Qad) (begins:List Qac) (now:Int) (l:List Qaf) (v1:Int):Option ((List Qaf×Int)⊕(List Qaf)):=br (ltI v1 (lenI begins)) (bnd (getI begins v1) fun x2=>bnd (slcI begins 0 v1) fun l1=>bnd (slcI begins (addK .i64 v1 1) (lenI begins)) fun l2=>bnd (QbS [l1,l2]) fun r=>bnd (QgH r) fun r1=>bnd (slcI begins v1 (addK .i64 v1 1)) fun l3=>bnd (QgH l3) fun r2=>bnd (Qoc x0 x2 r2 r1) fun r3=>chk (okN (l++r3).length 88) (some (.inl ((l++r3),(addK .i64 v1 1))))) (some (.inr l))
noncomputable def Qeg (x0:Qad) (now:Int) (r4:Int) (l5:List Qaf) (v2:Int):Option ((List Qaf×Int)⊕(List Qaf)):=br (ltI v2 (lenI x0.types)) (bnd (Qoc x0 (Qac.mk v2 now [] []) 0 r4) fun r5=>chk (okN (l5++r5).length 88) (some (.inl ((l5++r5),(addK .i64 v2 1))))) (some (.inr l5))
noncomputable def Qob (x0:Qad) (begins:List Qac) (now:Int):Option (List Qaf×Int):=br ((ltI now 0)||(gtI now 4096)) (some ([],2)) (bnd (QaW (fun s=>QgB x0 begins now s) 0) (fun e=>sel e (fun (_:Unit)=>bnd (QaW (fun s=>QeW x0 begins now s.1 s.2) ([],0)) (fun l4=>bnd (QgH begins) fun r4=>bnd (QaW (fun s=>Qeg x0 now r4 s.1 s.2) (l4,0)) (fun l6=>some (l6,0)))) (fun r6=>some r6)))
noncomputable def Qmm:Option Qad:=some (Qad.mk (Qal.mk [QDa,QDb] [(Qas.mk 0 1 0 3 [(Qan.mk 0 10)] []),(Qas.mk 1 0 0 3 [(Qan.mk 0 10)] [])]) [(Qak.mk QDd 1 0 0 [1] 0 0 0 100 100 0 0 1 0)] [(Qai.mk QDc [1] (Qaw.mk 0 0 90 0) (Qaw.mk 1 0 90 0) 0 (-1) 1 (-1) (-1) false)] [] [])
noncomputable def QaS:Option Bool:=bnd (Qmm) fun r=>bnd (Qfl r (Qac.mk 0 0 [false] [(Qaa.mk 0 false)]) 1) fun r1=>bnd (Qfl r (Qac.mk 0 0 [false,false] [(Qaa.mk 0 false)]) 1) fun r2=>bnd (Qfl r (Qac.mk 0 0 [] []) 2) fun r3=>bnd (Qob r [(Qac.mk 0 0 [false,false,false] [(Qaa.mk 0 false),(Qaa.mk 0 true)])] 7) fun r4=>br ((((((neI r1.2 0)||(neI r2.2 24))||(neI r3.2 2))||(neI r4.2 0))||(neI (lenI r1.1.route.visits) 2))||(neI (lenI r4.1) 1)) (some false) (bnd (getI r1.1.route.visits 1) fun x0=>br ((eqI x0.order 0&&(eqB x0.drop true&&true))&&(eqI r1.1.price 100663296)) (bnd (getI r4.1 0) fun x1=>br (eqI x1.set_ 1) (some (eqI (lenI x1.route.rests) 3)) (some false)) (some false))
noncomputable def Qcu (x0:Qad) (b:Qac) (v:Int) (x1:Qaa) (v1:Int):Option ((Int)⊕((Unit)⊕(Bool))):=br (ltI v1 v) (bnd (getI b.visits v1) fun x2=>br (eqI x2.order x1.order&&(eqB x2.drop x1.drop&&true)) (some (.inr (.inr false))) (some (.inl (addK .i64 v1 1)))) (some (.inr (.inl ())))
noncomputable def Qct (x0:Qad) (b:Qac) (v:Int):Option ((Int)⊕((Unit)⊕(Bool))):=br (ltI v (lenI b.visits)) (bnd (getI b.visits v) fun x1=>br ((ltI x1.order 0)||(geI x1.order (lenI x0.orders))) (some (.inr (.inr false))) (bnd (QaW (fun s=>Qcu x0 b v x1 s) 0) (fun e=>sel e (fun (_:Unit)=>some (.inl (addK .i64 v 1))) (fun r=>some (.inr (.inr r)))))) (some (.inr (.inl ())))
noncomputable def Qfm (x0:Qad) (b:Qac):Option Bool:=br ((((((ltI b.type_ 0)||(geI b.type_ (lenI x0.types)))||(ltI b.start 0))||(gtI b.start 4096))||(gtI (lenI b.visits) 6))||(gtI (lenI b.rests) 7)) (some false) (bnd (QaW (fun s=>Qct x0 b s) 0) (fun e=>sel e (fun (_:Unit)=>some true) (fun r1=>some r1)))
noncomputable def QbL (a:List Qac) (b:List Qac) (i:Int) (k:Int):Option ((Int)⊕((Unit)⊕(Bool))):=bnd (getI a i) fun x2=>br (ltI k (lenI x2.visits)) (bnd (getI x2.visits k) fun x3=>bnd (getI b i) fun x4=>bnd (getI x4.visits k) fun x5=>br (eqI x3.order x5.order&&(eqB x3.drop x5.drop&&true)) (some (.inl (addK .i64 k 1))) (some (.inr (.inr false)))) (some (.inr (.inl ())))
noncomputable def Qby (a:List Qac) (b:List Qac) (i:Int) (k1:Int):Option ((Int)⊕((Unit)⊕(Bool))):=bnd (getI a i) fun x6=>br (ltI k1 (lenI x6.rests)) (bnd (getI x6.rests k1) fun x7=>bnd (getI b i) fun x8=>bnd (getI x8.rests k1) fun x9=>br (eqB x7 x9) (some (.inl (addK .i64 k1 1))) (some (.inr (.inr false)))) (some (.inr (.inl ())))
noncomputable def QbK (a:List Qac) (b:List Qac) (i:Int):Option ((Int)⊕((Unit)⊕(Bool))):=br (ltI i (lenI a)) (bnd (getI a i) fun x0=>bnd (getI b i) fun x1=>br (neI x0.type_ x1.type_) (some (.inr (.inr false))) (br (neI x0.start x1.start) (some (.inr (.inr false))) (br (neI (lenI x0.visits) (lenI x1.visits)) (some (.inr (.inr false))) (br (neI (lenI x0.rests) (lenI x1.rests)) (some (.inr (.inr false))) (bnd (QaW (fun s=>QbL a b i s) 0) (fun e=>sel e (fun (_:Unit)=>bnd (QaW (fun s=>Qby a b i s) 0) (fun e=>sel e (fun (_:Unit)=>some (.inl (addK .i64 i 1))) (fun r=>some (.inr (.inr r))))) (fun r1=>some (.inr (.inr r1))))))))) (some (.inr (.inl ())))
noncomputable def Qfo (a:List Qac) (b:List Qac):Option Bool:=br (neI (lenI a) (lenI b)) (some false) (bnd (QaW (fun s=>QbK a b s) 0) (fun e=>sel e (fun (_:Unit)=>some true) (fun r2=>some r2)))
noncomputable def QeK (a:Qaf) (b:Qaf):Option Bool:=br (((eqI a.type_ b.type_)&&(eqI a.set_ b.set_))&&(eqI a.price b.price)) (bnd (Qfo [a.route] [b.route]) fun r=>some r) (some false)
noncomputable def QaY (s1:List Qaa) (s2:List Qaa) (v:Int):Option ((Int)⊕((Unit)⊕(Bool))):=br (ltI v (lenI s1)) (bnd (getI s1 v) fun x0=>bnd (getI s2 v) fun x1=>br (eqI x0.order x1.order&&(eqB x0.drop x1.drop&&true)) (some (.inl (addK .i64 v 1))) (some (.inr (.inr false)))) (some (.inr (.inl ())))
noncomputable def QbW (s1:List Qaa) (s2:List Qaa):Option Bool:=br (neI (lenI s1) (lenI s2)) (some false) (bnd (QaW (fun s=>QaY s1 s2 s) 0) (fun e=>sel e (fun (_:Unit)=>some true) (fun r=>some r)))
noncomputable def Qd1 (l:List Qaa) (first_:List Qaa):Option Bool:=br (geI (lenI l) (lenI first_)) (bnd (slcI l 0 (lenI first_)) fun l1=>bnd (QbW l1 first_) fun r=>some r) (some false)
noncomputable def Qbo (s1:List Bool) (s2:List Bool) (v:Int):Option ((Int)⊕((Unit)⊕(Bool))):=br (ltI v (lenI s1)) (bnd (getI s1 v) fun x0=>bnd (getI s2 v) fun x1=>br (eqB x0 x1) (some (.inl (addK .i64 v 1))) (some (.inr (.inr false)))) (some (.inr (.inl ())))
noncomputable def QdW (s1:List Bool) (s2:List Bool):Option Bool:=br (neI (lenI s1) (lenI s2)) (some false) (bnd (QaW (fun s=>Qbo s1 s2 s) 0) (fun e=>sel e (fun (_:Unit)=>some true) (fun r=>some r)))
noncomputable def Qgi (l:List Bool) (first_:List Bool):Option Bool:=br (geI (lenI l) (lenI first_)) (bnd (slcI l 0 (lenI first_)) fun l1=>bnd (QdW l1 first_) fun r=>some r) (some false)
noncomputable def Qla (r:Qac) (b:Qac):Option Bool:=br ((neI r.type_ b.type_)||(neI r.start b.start)) (some false) (bnd (Qd1 r.visits b.visits) fun r1=>br r1 (bnd (Qgi r.rests b.rests) fun r2=>br r2 (some ((!(gtI (lenI b.rests) (lenI b.visits)))||((eqI (lenI r.visits) (lenI b.visits))&&(eqI (lenI r.rests) (lenI b.rests))))) (some false)) (some false))
noncomputable def Qk6 (w:Qaa) (c:Qaa):Option Bool:=some (eqI c.order w.order)
noncomputable def QaD (s0:List Qaa) (c:Qaa) (v:Int):Option ((Int)⊕((Unit)⊕(Int))):=br (ltI v (lenI s0)) (bnd (getI s0 v) fun x0=>bnd (Qk6 x0 c) fun r=>br r (some (.inr (.inr v))) (some (.inl (addK .i64 v 1)))) (some (.inr (.inl ())))
noncomputable def Qbg (s0:List Qaa) (c:Qaa):Option Int:=bnd (QaW (fun s=>QaD s0 c s) 0) (fun e=>sel e (fun (_:Unit)=>some (-1)) (fun r1=>some r1))
noncomputable def Qbp (s0:List Qaa) (c:Qaa):Option Bool:=bnd (Qbg s0 c) fun r=>some (geI r 0)
noncomputable def Qlb (v:Qaa) (c:Qac):Option Bool:=bnd (Qbp c.visits v) fun r=>some r
noncomputable def QaJ (s0:List Qaa) (c:Qac) (v:Int):Option ((Int)⊕((Unit)⊕(Int))):=br (ltI v (lenI s0)) (bnd (getI s0 v) fun x0=>bnd (Qlb x0 c) fun r=>br r (some (.inr (.inr v))) (some (.inl (addK .i64 v 1)))) (some (.inr (.inl ())))
noncomputable def Qbk (s0:List Qaa) (c:Qac):Option Int:=bnd (QaW (fun s=>QaJ s0 c s) 0) (fun e=>sel e (fun (_:Unit)=>some (-1)) (fun r1=>some r1))
noncomputable def Qbu (s0:List Qaa) (c:Qac):Option Bool:=bnd (Qbk s0 c) fun r=>some (geI r 0)
noncomputable def QpI (a:Qac) (b:Qac):Option Bool:=bnd (Qbu a.visits b) fun r=>some r
noncomputable def QeH (p:Qek) (l:List Qac) (v:Int) (x0:Qac) (n:Int) (v1:Int):Option ((Int×Int)⊕((Int)⊕(Int))):=br (ltI v1 (lenI p.routes)) (bnd (getI p.routes v1) fun x1=>bnd (Qla x1 x0) fun r=>br r (some (.inl ((addK .i64 n 1),(addK .i64 v1 1)))) (bnd (QpI x1 x0) fun r1=>br r1 (some (.inr (.inr 31))) (some (.inl (n,(addK .i64 v1 1)))))) (some (.inr (.inl n)))
noncomputable def QeG (p:Qek) (l:List Qac) (v:Int):Option ((Int)⊕((Unit)⊕(Int))):=br (ltI v (lenI l)) (bnd (getI l v) fun x0=>bnd (QaW (fun s=>QeH p l v x0 s.1 s.2) (0,0)) (fun e=>sel e (fun n1=>br (neI n1 1) (some (.inr (.inr 31))) (some (.inl (addK .i64 v 1)))) (fun r2=>some (.inr (.inr r2))))) (some (.inr (.inl ())))
noncomputable def Qnz (p:Qek) (l:List Qac):Option Int:=bnd (QaW (fun s=>QeG p l s) 0) (fun e=>sel e (fun (_:Unit)=>some 0) (fun r3=>some r3))
noncomputable def Qmc (r:Qac) (begin:Qac):Option Bool:=bnd (Qnz (Qek.mk [r] []) [begin]) fun r1=>some (eqI r1 0)
noncomputable def QcA (r:Qac) (begin:Qac) (i:Int):Option ((Int)⊕((Unit)⊕(Bool))):=br (ltI i (lenI begin.visits)) (bnd (getI r.visits i) fun x0=>bnd (getI begin.visits i) fun x1=>br (eqI x0.order x1.order&&(eqB x0.drop x1.drop&&true)) (some (.inl (addK .i64 i 1))) (some (.inr (.inr false)))) (some (.inr (.inl ())))
noncomputable def Qb9 (r:Qac) (begin:Qac) (i1:Int):Option ((Int)⊕((Unit)⊕(Bool))):=br (ltI i1 (lenI begin.rests)) (bnd (getI r.rests i1) fun x2=>bnd (getI begin.rests i1) fun x3=>br (eqB x2 x3) (some (.inl (addK .i64 i1 1))) (some (.inr (.inr false)))) (some (.inr (.inl ())))
noncomputable def QhG (r:Qac) (begin:Qac):Option Bool:=br ((((neI r.type_ begin.type_)||(neI r.start begin.start))||(ltI (lenI r.visits) (lenI begin.visits)))||(ltI (lenI r.rests) (lenI begin.rests))) (some false) (bnd (QaW (fun s=>QcA r begin s) 0) (fun e=>sel e (fun (_:Unit)=>bnd (QaW (fun s=>Qb9 r begin s) 0) (fun e=>sel e (fun (_:Unit)=>some ((leI (lenI begin.rests) (lenI begin.visits))||((eqI (lenI r.visits) (lenI begin.visits))&&(eqI (lenI r.rests) (lenI begin.rests))))) (fun r1=>some r1))) (fun r2=>some r2)))
noncomputable def Qjl (r:Qac) (begin:Qac):Option Bool:=bnd (QhG r begin) fun r1=>some r1
noncomputable def QeI (set_:Int) (i:Int):Option Bool:=br (((geI set_ 0)&&(geI i 0))&&(leI i 62)) (chk ((0:Int)≤(cvK .u64 i)) (some (eqI (remK (shrK .i64 set_ (cvK .u64 i)) 2) 1))) (some false)
noncomputable def Qes (r:Qac) (set_:Int) (i:Int):Option ((Int×Int)⊕((Int)⊕(Int×Int))):=br (ltI i (lenI r.visits)) (bnd (getI r.visits i) fun x0=>br ((ltI x0.order 0)||(gtI x0.order 62)) (some (.inr (.inr (0,2)))) (bnd (QeI set_ x0.order) fun r1=>br r1 (some (.inl (set_,(addK .i64 i 1)))) (chk ((0:Int)≤(cvK .u64 x0.order)) (some (.inl ((addK .i64 set_ (shlK .i64 1 (cvK .u64 x0.order))),(addK .i64 i 1))))))) (some (.inr (.inl set_)))
noncomputable def Qc8 (r:Qac):Option (Int×Int):=bnd (QaW (fun s=>Qes r s.1 s.2) (0,0)) (fun e=>sel e (fun set_1=>some (set_1,0)) (fun r2=>some r2))
noncomputable def QcP (l:List Qaa) (v:Qaa) (i:Int):Option ((Int)⊕((Unit)⊕(Int))):=br (ltI i (lenI l)) (bnd (getI l i) fun x0=>br (eqI x0.order v.order&&(eqB x0.drop v.drop&&true)) (some (.inr (.inr i))) (some (.inl (addK .i64 i 1)))) (some (.inr (.inl ())))
noncomputable def Qc1 (l:List Qaa) (v:Qaa):Option Int:=bnd (QaW (fun s=>QcP l v s) 0) (fun e=>sel e (fun (_:Unit)=>some (-1)) (fun r=>some r))
noncomputable def Qet (x0:Qad) (order:Int) (l:List Qaa):Option (List Qaa):=bnd (getI x0.orders order) fun x2=>br (neI x2.drop.place (-1)) (chk (okN (l++[(Qaa.mk order true)]).length 16) (some (l++[(Qaa.mk order true)]))) (some l)
noncomputable def QhD (x0:Qad) (order:Int):Option (List Qaa):=bnd (getI x0.orders order) fun x1=>br (neI x1.pick.place (-1)) (chk (okN [(Qaa.mk order false)].length 16) (Qet x0 order [(Qaa.mk order false)])) (Qet x0 order [])
noncomputable def Qb6 (l:List Qaa) (some_:List Qaa) (i:Int):Option ((Int)⊕((Unit)⊕(Bool))):=br (ltI i (lenI some_)) (bnd (getI some_ i) fun x0=>bnd (Qc1 l x0) fun r=>br (ltI r 0) (some (.inr (.inr false))) (some (.inl (addK .i64 i 1)))) (some (.inr (.inl ())))
noncomputable def Qgv (l:List Qaa) (some_:List Qaa):Option Bool:=bnd (QaW (fun s=>Qb6 l some_ s) 0) (fun e=>sel e (fun (_:Unit)=>some true) (fun r1=>some r1))
noncomputable def Qcy (x0:Qad) (l:List Qaa) (i:Int):Option ((Int)⊕((Unit)⊕(Bool))):=br (ltI i (lenI l)) (bnd (getI l i) fun x1=>bnd (QhD x0 x1.order) fun r=>bnd (Qc1 r x1) fun r1=>br (ltI r1 0) (some (.inr (.inr false))) (bnd (Qgv l r) fun r2=>br r2 (br (eqI (lenI r) 2) (bnd (getI r 0) fun x2=>bnd (Qc1 l x2) fun r3=>bnd (getI r 1) fun x3=>bnd (Qc1 l x3) fun r4=>br (gtI r3 r4) (some (.inr (.inr false))) (some (.inl (addK .i64 i 1)))) (some (.inl (addK .i64 i 1)))) (some (.inr (.inr false))))) (some (.inr (.inl ())))
noncomputable def Qef (x0:Qad) (l:List Qaa):Option Bool:=bnd (QaW (fun s=>Qcy x0 l s) 0) (fun e=>sel e (fun (_:Unit)=>some true) (fun r5=>some r5))
noncomputable def QcQ (x0:Qad) (set_:Int) (i:Int):Option ((Int)⊕((Unit)⊕(Bool))):=br (ltI i (lenI x0.apart)) (bnd (getI x0.apart i) fun x1=>bnd (QeI set_ x1.x0) fun r=>br r (bnd (QeI set_ x1.x1) fun r1=>br r1 (some (.inr (.inr false))) (some (.inl (addK .i64 i 1)))) (some (.inl (addK .i64 i 1)))) (some (.inr (.inl ())))
noncomputable def QeT (x0:Qad) (set_:Int):Option Bool:=bnd (QaW (fun s=>QcQ x0 set_ s) 0) (fun e=>sel e (fun (_:Unit)=>some true) (fun r2=>some r2))
noncomputable def Qcx (x0:Qad) (set_:Int) (l:List Qaa) (i:Int) (x1:QaO) (j:Int) (k:Int):Option ((Int)⊕((Unit)⊕(Bool))):=br (ltI k j) (bnd (getI l j) fun x2=>br (eqI x2.order x1.x0) (bnd (getI l k) fun x3=>br (eqI x3.order x1.x1) (some (.inr (.inr false))) (some (.inl (addK .i64 k 1)))) (some (.inl (addK .i64 k 1)))) (some (.inr (.inl ())))
noncomputable def Qcw (x0:Qad) (set_:Int) (l:List Qaa) (i:Int) (x1:QaO) (j:Int):Option ((Int)⊕((Unit)⊕(Bool))):=br (ltI j (lenI l)) (bnd (QaW (fun s=>Qcx x0 set_ l i x1 j s) 0) (fun e=>sel e (fun (_:Unit)=>some (.inl (addK .i64 j 1))) (fun r2=>some (.inr (.inr r2))))) (some (.inr (.inl ())))
noncomputable def Qcv (x0:Qad) (set_:Int) (l:List Qaa) (i:Int):Option ((Int)⊕((Unit)⊕(Bool))):=br (ltI i (lenI x0.before)) (bnd (getI x0.before i) fun x1=>bnd (QeI set_ x1.x1) fun r=>br r (bnd (QeI set_ x1.x0) fun r1=>br r1 (bnd (QaW (fun s=>Qcw x0 set_ l i x1 s) 0) (fun e=>sel e (fun (_:Unit)=>some (.inl (addK .i64 i 1))) (fun r3=>some (.inr (.inr r3))))) (some (.inr (.inr false)))) (some (.inl (addK .i64 i 1)))) (some (.inr (.inl ())))
noncomputable def Qee (x0:Qad) (set_:Int) (l:List Qaa):Option Bool:=bnd (QaW (fun s=>Qcv x0 set_ l s) 0) (fun e=>sel e (fun (_:Unit)=>some true) (fun r4=>some r4))
noncomputable def QcO (x0:Qad) (r:Qac) (i:Int):Option ((Int)⊕((Unit)⊕(Int))):=br (ltI i (lenI r.visits)) (bnd (getI r.visits i) fun x1=>br (ltI x1.order 0) (some (.inr (.inr 2))) (br (geI x1.order (lenI x0.orders)) (some (.inr (.inr 2))) (some (.inl (addK .i64 i 1))))) (some (.inr (.inl ())))
noncomputable def Qck (x0:Qad) (r:Qac) (r1:Int×Int) (i1:Int):Option ((Int)⊕((Unit)⊕(Int))):=br (ltI i1 (lenI r.visits)) (bnd (getI r.visits i1) fun x2=>bnd (getI x0.orders x2.order) fun x3=>br x3.off (some (.inr (.inr 9))) (some (.inl (addK .i64 i1 1)))) (some (.inr (.inl ())))
noncomputable def Qb5 (x0:Qad) (r:Qac) (r1:Int×Int) (i2:Int):Option ((Int)⊕((Unit)⊕(Int))):=br (ltI i2 (lenI r.visits)) (bnd (getI r.visits i2) fun x4=>bnd (Qc1 r.visits x4) fun r2=>br (neI r2 i2) (some (.inr (.inr 6))) (some (.inl (addK .i64 i2 1)))) (some (.inr (.inl ())))
noncomputable def Qg8 (x0:Qad) (r:Qac):Option Int:=bnd (QaW (fun s=>QcO x0 r s) 0) (fun e=>sel e (fun (_:Unit)=>bnd (Qc8 r) fun r1=>br ((neI r1.2 0)||(eqI (lenI r.visits) 0)) (some 2) (bnd (QaW (fun s=>Qck x0 r r1 s) 0) (fun e=>sel e (fun (_:Unit)=>bnd (QaW (fun s=>Qb5 x0 r r1 s) 0) (fun e=>sel e (fun (_:Unit)=>bnd (Qef x0 r.visits) fun r3=>br r3 (bnd (QeT x0 r1.1) fun r4=>br r4 (bnd (Qee x0 r1.1 r.visits) fun r5=>br r5 (some 0) (some 21)) (some 20)) (some 19)) (fun r6=>some r6))) (fun r7=>some r7)))) (fun r8=>some r8))
noncomputable def QdU (t:Qak) (skills:Int) (bit:Int):Option ((Int)⊕((Unit)⊕(Bool))):=br (gtI bit 0) (chk ((bit:Int)≠0) (br (eqI (remK (quoK .i64 skills bit) 2) 1) (chk ((bit:Int)≠0) (br (eqI (remK (quoK .i64 t.skills bit) 2) 0) (some (.inr (.inr false))) (some (.inl (mulK .i64 bit 2))))) (some (.inl (mulK .i64 bit 2))))) (some (.inr (.inl ())))
noncomputable def QhK (t:Qak) (skills:Int):Option Bool:=br ((ltI t.skills 0)||(ltI skills 0)) (some false) (bnd (QaW (fun s=>QdU t skills s) 1) (fun e=>sel e (fun (_:Unit)=>some true) (fun r=>some r)))
noncomputable def Qdh (l:List (List Int)) (dims:Int) (i:Int):Option ((Int)⊕((Unit)⊕(Bool))):=br (ltI i (lenI l)) (bnd (getI l i) fun x0=>br (neI (lenI x0) dims) (some (.inr (.inr false))) (some (.inl (addK .i64 i 1)))) (some (.inr (.inl ())))
noncomputable def Qi4 (l:List (List Int)) (dims:Int):Option Bool:=br ((ltI dims 0)||(gtI dims 3)) (some false) (bnd (QaW (fun s=>Qdh l dims s) 0) (fun e=>sel e (fun (_:Unit)=>some true) (fun r=>some r)))
noncomputable def Qc7 (l:List (List Int)) (dims:Int) (l1:List Int) (d:Int) (n:Int) (i:Int):Option ((Int×Int)⊕(Int)):=br (ltI i (lenI l)) (bnd (getI l i) fun x0=>bnd (getI x0 d) fun x1=>some (.inl ((addK .i64 n x1),(addK .i64 i 1)))) (some (.inr n))
noncomputable def Qc6 (l:List (List Int)) (dims:Int) (l1:List Int) (d:Int):Option ((List Int×Int)⊕(List Int)):=br (ltI d dims) (bnd (QaW (fun s=>Qc7 l dims l1 d s.1 s.2) (0,0)) (fun n1=>chk (okN (l1++[n1]).length 8) (some (.inl ((l1++[n1]),(addK .i64 d 1)))))) (some (.inr l1))
noncomputable def QiA (l:List (List Int)) (dims:Int):Option (List Int×Int):=bnd (Qi4 l dims) fun r=>br r (bnd (QaW (fun s=>Qc6 l dims s.1 s.2) ([],0)) (fun l2=>some (l2,0))) (some ([],2))
noncomputable def QhM (x0:Qad):Option Int:=br (eqI (lenI x0.types) 0) (some 0) (bnd (getI x0.types 0) fun x1=>some (lenI x1.cap))
noncomputable def Qcn (x0:Qad) (l:List Qaa) (n:Int) (l1:List (List Int)) (i:Int) (on_:Bool) (there:Bool) (k:Int):Option ((Bool×Bool×Int)⊕(Bool×Bool)):=br (ltI k (lenI l)) (bnd (getI l k) fun x2=>br (neI x2.order i) (some (.inl (on_,there,(addK .i64 k 1)))) (br (ltI k n) (some (.inl ((!x2.drop),true,(addK .i64 k 1)))) (some (.inl (on_,true,(addK .i64 k 1)))))) (some (.inr (on_,there)))
noncomputable def Qcm (x0:Qad) (l:List Qaa) (n:Int) (l1:List (List Int)) (i:Int):Option ((List (List Int)×Int)⊕(List (List Int))):=br (ltI i (lenI x0.orders)) (bnd (getI x0.orders i) fun x1=>bnd (QaW (fun s=>Qcn x0 l n l1 i s.1 s.2.1 s.2.2) ((ltI x1.pick.place 0),false,0)) (fun e0=>(fun on_1 there1=>br (on_1&&there1) (bnd (getI x0.orders i) fun x3=>chk (okN (l1++[x3.load]).length 24) (some (.inl ((l1++[x3.load]),(addK .i64 i 1))))) (some (.inl (l1,(addK .i64 i 1))))) e0.1 e0.2)) (some (.inr l1))
noncomputable def Qis (x0:Qad) (l:List Qaa) (n:Int):Option (List Int×Int):=bnd (QaW (fun s=>Qcm x0 l n s.1 s.2) ([],0)) (fun l2=>bnd (QhM x0) fun r=>bnd (QiA l2 r) fun r1=>some (r1.1,r1.2))
noncomputable def Qcl (x0:Qad) (r:Qac) (l:List (List Int)) (n:Int):Option ((List (List Int)×Int)⊕((List (List Int))⊕(List (List Int)×Int))):=br (leI n (lenI r.visits)) (bnd (Qis x0 r.visits n) fun r2=>br (neI r2.2 0) (some (.inr (.inr ([],r2.2)))) (chk (okN (l++[r2.1]).length 24) (some (.inl ((l++[r2.1]),(addK .i64 n 1)))))) (some (.inr (.inl l)))
noncomputable def Qir (x0:Qad) (r:Qac):Option (List (List Int)×Int):=bnd (Qg8 x0 r) fun r1=>br (neI r1 0) (some ([],r1)) (bnd (QaW (fun s=>Qcl x0 r s.1 s.2) ([],0)) (fun e=>sel e (fun l1=>some (l1,0)) (fun r3=>some r3)))
noncomputable def Qdg (a:List Int) (capacity:List Int) (i:Int):Option ((Int)⊕((Unit)⊕(Bool))):=br (ltI i (lenI a)) (bnd (getI a i) fun x0=>bnd (getI capacity i) fun x1=>br (gtI x0 x1) (some (.inr (.inr false))) (some (.inl (addK .i64 i 1)))) (some (.inr (.inl ())))
noncomputable def Qi3 (a:List Int) (capacity:List Int):Option Bool:=br (neI (lenI a) (lenI capacity)) (some false) (bnd (QaW (fun s=>Qdg a capacity s) 0) (fun e=>sel e (fun (_:Unit)=>some true) (fun r=>some r)))
noncomputable def Qdj (x0:Qad) (r:Qac) (r1:List (List Int)×Int) (i:Int):Option ((Int)⊕((Unit)⊕(Int))):=br (ltI i (lenI r1.1)) (bnd (getI r1.1 i) fun x1=>bnd (getI x0.types r.type_) fun x2=>bnd (Qi3 x1 x2.cap) fun r2=>br r2 (some (.inl (addK .i64 i 1))) (some (.inr (.inr 17)))) (some (.inr (.inl ())))
noncomputable def QhL (x0:Qad) (r:Qac):Option Int:=br ((ltI r.type_ 0)||(geI r.type_ (lenI x0.types))) (some 2) (bnd (Qir x0 r) fun r1=>br (neI r1.2 0) (some r1.2) (bnd (QaW (fun s=>Qdj x0 r r1 s) 0) (fun e=>sel e (fun (_:Unit)=>some 0) (fun r3=>some r3))))
noncomputable def QeJ (x0:Qad) (v:Qaa):Option (Qaw×Bool):=br ((ltI v.order 0)||(geI v.order (lenI x0.orders))) (some ((Qaw.mk 0 0 0 0),false)) (bnd (getI x0.orders v.order) fun x1=>br v.drop (some (x1.drop,(geI x1.drop.place 0))) (some (x1.pick,(geI x1.pick.place 0))))
noncomputable def Qb7 (x0:Qad) (r:Qac) (i:Int):Option ((Int)⊕((Unit)⊕(Bool))):=br (ltI i (lenI r.visits)) (bnd (getI r.visits i) fun x1=>bnd (QeJ x0 x1) fun r1=>br r1.2 (some (.inl (addK .i64 i 1))) (some (.inr (.inr false)))) (some (.inr (.inl ())))
noncomputable def Qdy (x0:Qad) (r:Qac):Option Bool:=br (((((ltI r.type_ 0)||(geI r.type_ (lenI x0.types)))||(ltI r.start 0))||(gtI r.start 4096))||(gtI (lenI r.visits) 20)) (some false) (bnd (QaW (fun s=>Qb7 x0 r s) 0) (fun e=>sel e (fun (_:Unit)=>some true) (fun r2=>some r2)))
noncomputable def QhN (t:Qak) (s0:Qaz) (yes:Bool):Option Qaz:=br yes (some (Qaz.mk s0.place (addK .i64 s0.time t.rest_) 0 s0.miles)) (some s0)
noncomputable def QgZ (n:Qal) (p:Int):Option Bool:=some ((geI p 0)&&(ltI p (lenI n.places)))
noncomputable def QfK (n:Qal) (profile:Int) (from_:Int) (to_:Int) (i:Int):Option ((Int)⊕((Unit)⊕(Qas×Bool))):=br (ltI i (lenI n.arcs)) (bnd (getI n.arcs i) fun x0=>br (((eqI x0.from_ from_)&&(eqI x0.to_ to_))&&(eqI x0.profile profile)) (some (.inr (.inr (x0,true)))) (some (.inl (addK .i64 i 1)))) (some (.inr (.inl ())))
noncomputable def Qi5 (n:Qal) (profile:Int) (from_:Int) (to_:Int):Option (Qas×Bool):=bnd (QaW (fun s=>QfK n profile from_ to_ s) 0) (fun e=>sel e (fun (_:Unit)=>some ((Qas.mk 0 0 0 0 [] []),false)) (fun r=>some r))
noncomputable def Qep (l:List Qan) (t:Int) (i:Int):Option ((Int)⊕((Unit)⊕(Int))):=br (ltI (addK .i64 i 1) (lenI l)) (bnd (getI l i) fun x0=>bnd (getI l (addK .i64 i 1)) fun x1=>br ((leI x0.t t)&&(ltI t x1.t)) (chk (((subK .i64 x1.t x0.t):Int)≠0) (some (.inr (.inr (addK .i64 x0.a (quoK .i64 (subK .i64 (subK .i64 (addK .i64 (mulK .i64 (subK .i64 t x0.t) (subK .i64 x1.a x0.a)) x1.t) x0.t) 1) (subK .i64 x1.t x0.t))))))) (some (.inl (addK .i64 i 1)))) (some (.inr (.inl ())))
noncomputable def Qhz (l:List Qan) (t:Int):Option Int:=bnd (QfW l) fun r=>br (((gtI (lenI r) 0)||(ltI t 0))||(gtI t 1073741824)) (some 0) (bnd (QaW (fun s=>Qep l t s) 0) (fun e=>sel e (fun (_:Unit)=>bnd (getI l 0) fun x2=>br (gtI t x2.t) (bnd (getI l (subK .i64 (lenI l) 1)) fun x3=>some (subK .i64 (addK .i64 t x3.a) x3.t)) (some (subK .i64 (addK .i64 t x2.a) x2.t))) (fun r1=>some r1)))
noncomputable def Qhn (a:Qas) (t:Int) (n:Int) (i:Int):Option ((Int×Int)⊕(Int)):=br (ltI i (lenI a.slow)) (bnd (getI a.slow i) fun x0=>br (leI x0.t t) (some (.inl ((addK .i64 n x0.a),(addK .i64 i 1)))) (some (.inl (n,(addK .i64 i 1))))) (some (.inr n))
noncomputable def QhA (a:Qas) (t:Int):Option Int:=bnd (Qhz a.travel t) fun r=>bnd (QaW (fun s=>Qhn a t s.1 s.2) (r,0)) (fun n1=>some n1)
noncomputable def QjC (n:Qal) (profile:Int) (from_:Int) (to_:Int) (t:Int):Option (Int×Int×Int):=bnd (QgZ n from_) fun r=>br r (bnd (QgZ n to_) fun r1=>br r1 (br (eqI from_ to_) (some (t,0,0)) (bnd (Qi5 n profile from_ to_) fun r2=>br r2.2 (bnd (QhA r2.1 t) fun r3=>some (r3,r2.1.miles,0)) (some (0,0,12)))) (some (0,0,11))) (some (0,0,11))
noncomputable def Qnn (x0:Qad) (profile:Int) (from_:Int) (to_:Int) (t:Int):Option (Int×Int×Bool):=bnd (QjC x0.net profile from_ to_ t) fun r=>some (r.1,r.2.1,(eqI r.2.2 0))
noncomputable def QdZ (x0:Qad) (t:Qak) (s0:Qaz) (to_:Int) (close:Int) (late:Int):Option (Qaz×Int):=bnd (Qnn x0 t.profile s0.place to_ s0.time) fun r=>br r.2.2 (br (gtI r.1 close) (some (s0,late)) (br (gtI (subK .i64 (addK .i64 s0.driven r.1) s0.time) t.drive) (some (s0,16)) (some ((Qaz.mk to_ r.1 (subK .i64 (addK .i64 s0.driven r.1) s0.time) (addK .i64 s0.miles r.2.1)),0)))) (some (s0,12))
noncomputable def Qgf (x0:Qad) (r:Qac) (rests:List Bool) (x1:Qak) (x2:Bool) (l:List Int) (l1:List Qaq) (x3:Qaz) (depart:Int) (i:Int):Option ((List Int×List Qaq×Qaz×Int×Int)⊕((List Int×List Qaq×Qaz×Int)⊕(Qao×List Int×Int))):=br (ltI i (lenI r.visits)) (bnd (getI r.visits i) fun x4=>bnd (QeJ x0 x4) fun r3=>bnd (QdZ x0 x1 x3 r3.1.place r3.1.close 14) fun r4=>br (neI r4.2 0) (some (.inr (.inr ((Qao.mk false 0 [] 0 0),[],r4.2)))) (chk (okN (l++[r4.1.driven]).length 8) (bnd (getI rests (addK .i64 i 1)) fun x5=>bnd (QhN x1 (Qaz.mk r4.1.place (addK .i64 (maxI r4.1.time r3.1.open_) r3.1.service) r4.1.driven r4.1.miles) x5) fun r5=>chk (okN (l1++[(Qaq.mk r4.1.time (maxI r4.1.time r3.1.open_) r5.time x5)]).length 32) (some (.inl ((l++[r4.1.driven]),(l1++[(Qaq.mk r4.1.time (maxI r4.1.time r3.1.open_) r5.time x5)]),r5,depart,(addK .i64 i 1))))))) (some (.inr (.inl (l,l1,x3,depart))))
noncomputable def QiD (x0:Qad) (r:Qac) (rests:List Bool):Option (Qao×List Int×Int):=bnd (Qdy x0 r) fun r1=>br ((!r1)||(neI (lenI rests) (addK .i64 (lenI r.visits) 1))) (some ((Qao.mk false 0 [] 0 0),[],2)) (bnd (getI x0.types r.type_) fun x1=>bnd (getI rests 0) fun x2=>bnd (QhN x1 (Qaz.mk x1.from_ (maxI x1.open_ r.start) 0 0) x2) fun r2=>bnd (QaW (fun s=>Qgf x0 r rests x1 x2 s.1 s.2.1 s.2.2.1 s.2.2.2.1 s.2.2.2.2) ([],[],r2,r2.time,0)) (fun e=>sel e (fun e0=>(fun l2 l3 x6 depart1=>bnd (QdZ x0 x1 x6 x1.to_ x1.close 15) fun r6=>br (neI r6.2 0) (some ((Qao.mk false 0 [] 0 0),[],r6.2)) (chk (okN (l2++[r6.1.driven]).length 8) (some ((Qao.mk x2 depart1 l3 r6.1.time r6.1.miles),(l2++[r6.1.driven]),0)))) e0.1 e0.2.1 e0.2.2.1 e0.2.2.2) (fun r7=>some r7)))
noncomputable def Qft (x0:Qad) (r:Qac) (rests:List Bool):Option (Qao×Int):=bnd (QiD x0 r rests) fun r1=>some (r1.1,r1.2.2)
noncomputable def QfO (n:Int) (l:List Bool) (i:Int):Option ((List Bool×Int)⊕((Unit)⊕(List Bool×Bool))):=br (geI i n) (bnd (getI l i) fun x0=>br x0 (some (.inl ((setI l i false),(subK .i64 i 1)))) (some (.inr (.inr ((setI l i true),true))))) (some (.inr (.inl ())))
noncomputable def QgO (rests:List Bool) (n:Int):Option (List Bool×Bool):=chk (okN rests.length 1) (bnd (QaW (fun s=>QfO n s.1 s.2) (rests,(subK .i64 (lenI rests) 1))) (fun e=>sel e (fun (_:Unit)=>some ([],false)) (fun r=>some r)))
noncomputable def Qg9 (x0:Qad) (r:Qac) (l:List Bool) (r2:Qao×Int) (rests:List Bool) (rests1:List Bool) (x2:Qao) (found1:Bool):Option ((List Bool×Qao×List Bool×Bool×Bool)⊕(Qao×Bool)):=bnd (QgO rests1 (lenI rests)) fun r5=>some (.inl (rests,x2,r5.1,found1,r5.2))
noncomputable def QfN (x0:Qad) (r:Qac) (l:List Bool) (r2:Qao×Int) (rests:List Bool) (x1:Qao) (rests1:List Bool) (found:Bool) (more:Bool):Option ((List Bool×Qao×List Bool×Bool×Bool)⊕(Qao×Bool)):=br more (bnd (Qft x0 (Qac.mk r.type_ r.start rests r.visits) rests1) fun r4=>br ((eqI r4.2 0)&&((!found)||(ltI r4.1.end_ x1.end_))) (Qg9 x0 r l r2 rests rests1 r4.1 true) (Qg9 x0 r l r2 rests rests1 x1 found)) (some (.inr (x1,found)))
noncomputable def QgN (x0:Qad) (r:Qac):Option (Qao×Int):=bnd (Qdy x0 r) fun r1=>br ((!r1)||(gtI (lenI r.rests) (addK .i64 (lenI r.visits) 1))) (some ((Qao.mk false 0 [] 0 0),2)) (bnd (mkI (addK .i64 (lenI r.visits) 1) (addK .i64 (lenI r.visits) 1) 1 false) fun l=>bnd (Qft x0 r (cpyL l r.rests)) fun r2=>bnd (QgO (cpyL l r.rests) (lenI r.rests)) fun r3=>bnd (QaW (fun s=>QfN x0 r l r2 s.1 s.2.1 s.2.2.1 s.2.2.2.1 s.2.2.2.2) (r.rests,r2.1,r3.1,(eqI r2.2 0),r3.2)) (fun e0=>(fun x3 found2=>br found2 (some (x3,0)) (some ((Qao.mk false 0 [] 0 0),r2.2))) e0.1 e0.2))
noncomputable def Qcz (l:List Qaa) (at_:Int) (i:Int):Option ((Int)⊕((Unit)⊕(Bool))):=br (ltI i at_) (bnd (getI l i) fun x0=>bnd (getI l at_) fun x1=>br (eqI x0.order x1.order) (some (.inr (.inr false))) (some (.inl (addK .i64 i 1)))) (some (.inr (.inl ())))
noncomputable def QhF (l:List Qaa) (at_:Int):Option Bool:=bnd (QaW (fun s=>Qcz l at_ s) 0) (fun e=>sel e (fun (_:Unit)=>some true) (fun r=>some r))
noncomputable def Qgy (x0:Qad) (r:Qac) (s0:Qao) (x1:Qak) (other:Int) (i:Int) (x2:Qaa) (moved1:Int):Option ((Int×Int×Int)⊕(Int×Int)):=bnd (getI x0.orders x2.order) fun x4=>br (neI x4.last_ (-1)) (br (neI x4.last_ r.type_) (some (.inl (moved1,(addK .i64 other 1),(addK .i64 i 1)))) (some (.inl (moved1,other,(addK .i64 i 1))))) (some (.inl (moved1,other,(addK .i64 i 1))))
noncomputable def Qco (x0:Qad) (r:Qac) (s0:Qao) (x1:Qak) (moved:Int) (other:Int) (i:Int):Option ((Int×Int×Int)⊕(Int×Int)):=br (ltI i (lenI r.visits)) (bnd (getI r.visits i) fun x2=>br ((ltI x2.order 0)||(geI x2.order (lenI x0.orders))) (some (.inl (moved,other,(addK .i64 i 1)))) (bnd (QhF r.visits i) fun r1=>br r1 (bnd (getI x0.orders x2.order) fun x3=>br (neI x3.now (-1)) (br (neI x3.now r.type_) (Qgy x0 r s0 x1 other i x2 (addK .i64 moved 1)) (Qgy x0 r s0 x1 other i x2 moved)) (br (neI x3.last_ (-1)) (br (neI x3.last_ r.type_) (some (.inl (moved,(addK .i64 other 1),(addK .i64 i 1)))) (some (.inl (moved,other,(addK .i64 i 1))))) (some (.inl (moved,other,(addK .i64 i 1)))))) (some (.inl (moved,other,(addK .i64 i 1)))))) (some (.inr (moved,other)))
noncomputable def Qha (x0:Qad) (r:Qac) (s0:Qao):Option QaE:=br ((ltI r.type_ 0)||(geI r.type_ (lenI x0.types))) (some (QaE.mk 0 0 0 0)) (bnd (getI x0.types r.type_) fun x1=>bnd (QaW (fun s=>Qco x0 r s0 x1 s.1 s.2.1 s.2.2) (0,0,0)) (fun e0=>(fun moved2 other1=>some (QaE.mk (addK .i64 (addK .i64 x1.fixed (mulK .i64 x1.perMile s0.miles)) (mulK .i64 x1.perTick (subK .i64 s0.end_ x1.open_))) moved2 other1 (mulK .i64 (quoK .i64 (subK .i64 s0.end_ x1.open_) 64) (quoK .i64 (subK .i64 s0.end_ x1.open_) 64)))) e0.1 e0.2))
noncomputable def QbM (x0:Qad) (r:Qac) (i:Int):Option ((Int)⊕((Unit)⊕(Qao×QaE×Int))):=br (ltI i (lenI r.visits)) (bnd (getI x0.types r.type_) fun x1=>bnd (getI r.visits i) fun x2=>bnd (getI x0.orders x2.order) fun x3=>bnd (QhK x1 x3.skills) fun r2=>br r2 (some (.inl (addK .i64 i 1))) (some (.inr (.inr ((Qao.mk false 0 [] 0 0),(QaE.mk 0 0 0 0),18))))) (some (.inr (.inl ())))
noncomputable def Qd3 (x0:Qad) (r:Qac):Option (Qao×QaE×Int):=br ((ltI r.type_ 0)||(geI r.type_ (lenI x0.types))) (some ((Qao.mk false 0 [] 0 0),(QaE.mk 0 0 0 0),2)) (bnd (Qg8 x0 r) fun r1=>br (neI r1 0) (some ((Qao.mk false 0 [] 0 0),(QaE.mk 0 0 0 0),r1)) (bnd (QaW (fun s=>QbM x0 r s) 0) (fun e=>sel e (fun (_:Unit)=>bnd (QhL x0 r) fun r3=>br (neI r3 0) (some ((Qao.mk false 0 [] 0 0),(QaE.mk 0 0 0 0),r3)) (bnd (QgN x0 r) fun r4=>br (neI r4.2 0) (some ((Qao.mk false 0 [] 0 0),(QaE.mk 0 0 0 0),r4.2)) (bnd (Qha x0 r r4.1) fun r5=>some (r4.1,r5,0)))) (fun r6=>some r6))))
noncomputable def Qj9 (s0:QaE):Option Bool:=some ((((((((geI s0.cost 0)&&(leI s0.cost 1073741824))&&(geI s0.moved 0))&&(leI s0.moved 15))&&(geI s0.other 0))&&(leI s0.other 15))&&(geI s0.work 0))&&(leI s0.work 65535))
noncomputable def QhE (s0:QaE):Option (Int×Int):=br ((((ltI s0.cost 0)||(ltI s0.moved 0))||(ltI s0.other 0))||(ltI s0.work 0)) (some (0,2)) (bnd (Qj9 s0) fun r=>br r (some ((addK .i64 (mulK .i64 (addK .i64 (mulK .i64 (addK .i64 (mulK .i64 s0.cost 16) s0.moved) 16) s0.other) 65536) s0.work),0)) (some (0,4)))
noncomputable def QeU (x0:Qad) (r:Qac):Option (Int×Int):=bnd (Qd3 x0 r) fun r1=>br (neI r1.2.2 0) (some (0,r1.2.2)) (bnd (QhE r1.2.1) fun r2=>some (r2.1,r2.2))
noncomputable def QdM (i:Int) (set_1:Int) (k:Int):Option ((Int×Int)⊕(Int)):=br (ltI k i) (some (.inl ((quoK .i64 set_1 2),(addK .i64 k 1)))) (some (.inr set_1))
noncomputable def QiH (set_:Int) (i:Int):Option Bool:=bnd (QaW (fun s=>QdM i s.1 s.2) (set_,0)) (fun set_2=>some (eqI (remK set_2 2) 1))
noncomputable def Qd4 (l:List Qaa) (v:Qaa) (i:Int):Option ((Int)⊕((Unit)⊕(Bool))):=br (ltI i (lenI l)) (bnd (getI l i) fun x0=>br (eqI x0.order v.order&&(eqB x0.drop v.drop&&true)) (some (.inr (.inr true))) (some (.inl (addK .i64 i 1)))) (some (.inr (.inl ())))
noncomputable def QjO (l:List Qaa) (v:Qaa):Option Bool:=bnd (QaW (fun s=>Qd4 l v s) 0) (fun e=>sel e (fun (_:Unit)=>some false) (fun r=>some r))
noncomputable def Qeq (l:List Qai) (at_:Int) (l1:List Qaa):Option (List Qaa):=bnd (getI l at_) fun x1=>br (geI x1.drop.place 0) (chk (okN (l1++[(Qaa.mk at_ true)]).length 16) (some (l1++[(Qaa.mk at_ true)]))) (some l1)
noncomputable def QhB (l:List Qai) (at_:Int):Option (List Qaa):=bnd (Qb4 at_ 0 (subK .i64 (lenI l) 1)) fun r=>br r (bnd (getI l at_) fun x0=>br (geI x0.pick.place 0) (chk (okN [(Qaa.mk at_ false)].length 16) (Qeq l at_ [(Qaa.mk at_ false)])) (Qeq l at_ [])) (some [])
noncomputable def Qdn (x0:Qad) (set_:Int) (l:List Qaa) (i:Int) (r1:List Qaa) (l2:List Qaa) (k:Int):Option ((List Qaa×Int)⊕(List Qaa)):=br (ltI k (lenI r1)) (bnd (getI r1 k) fun x1=>bnd (QjO l x1) fun r2=>br r2 (some (.inl (l2,(addK .i64 k 1)))) (chk (okN (l2++[x1]).length 16) (some (.inl ((l2++[x1]),(addK .i64 k 1)))))) (some (.inr l2))
noncomputable def QcG (x0:Qad) (set_:Int) (l:List Qaa) (l1:List Qaa) (i:Int):Option ((List Qaa×Int)⊕(List Qaa)):=br (ltI i (lenI x0.orders)) (bnd (QiH set_ i) fun r=>br r (bnd (QhB x0.orders i) fun r1=>bnd (QaW (fun s=>Qdn x0 set_ l i r1 s.1 s.2) (l1,0)) (fun l3=>some (.inl (l3,(addK .i64 i 1))))) (some (.inl (l1,(addK .i64 i 1))))) (some (.inr l1))
noncomputable def Qjc (x0:Qad) (set_:Int) (l:List Qaa):Option (List Qaa):=bnd (QaW (fun s=>QcG x0 set_ l s.1 s.2) ([],0)) (fun l4=>some l4)
noncomputable def Qex (self:Qap→Qac→Option Qap) (r1:List Qaa) (x0:Qap) (x1:Qac) (i:Int):Option ((Qap×Qac×Int)⊕(Qap)):=br (ltI i (lenI r1)) (chk (okN x1.visits.length 16) (bnd (getI r1 i) fun x2=>chk (okN (x1.visits++[x2]).length 16) (br x2.drop (bnd (QjO r1 (Qaa.mk x2.order false)) fun r4=>br r4 (some (.inl (x0,x1,(addK .i64 i 1)))) (bnd (self x0 (Qac.mk x1.type_ x1.start x1.rests (x1.visits++[x2]))) fun r5=>some (.inl (r5,x1,(addK .i64 i 1))))) (bnd (self x0 (Qac.mk x1.type_ x1.start x1.rests (x1.visits++[x2]))) fun r6=>some (.inl (r6,x1,(addK .i64 i 1))))))) (some (.inr x0))
noncomputable def Qgz (self:Qap→Qac→Option Qap) (f:Qap) (r:Qac):Option Qap:=bnd (Qjc f.x f.set_ r.visits) fun r1=>br ((eqI (lenI r1) 0)||(gtI (lenI r.rests) (lenI r.visits))) (bnd (Qc8 r) fun r2=>br (((neI r2.2 0)||(neI r2.1 f.set_))||(gtI (lenI r1) 0)) (some f) (bnd (QeU f.x r) fun r3=>br ((eqI r3.2 0)&&((!f.ok)||(ltI r3.1 f.price))) (some (Qap.mk f.x f.set_ true r r3.1)) (some f))) (bnd (QaW (fun s=>Qex self r1 s.1 s.2.1 s.2.2) (f,r,0)) (fun x3=>some x3))
noncomputable def Qdz:Nat→Qap→Qac→Option Qap|0=>fun _ _=>none|n+1=>fun f r=>Qgz (Qdz n) f r
noncomputable def Qmq (f:Qap) (r:Qac):Option Qap:=Qdz QoM f r
noncomputable def Qdk (x0:Qad) (begin:Qac) (set_:Int) (limit:Int) (i:Int):Option ((Int×Int)⊕(Int)):=br (ltI i (lenI x0.orders)) (some (.inl ((mulK .i64 2 limit),(addK .i64 i 1)))) (some (.inr limit))
noncomputable def QgP (x0:Qad) (begin:Qac) (set_:Int):Option (Qaf×Int):=bnd (QaW (fun s=>Qdk x0 begin set_ s.1 s.2) (1,0)) (fun limit1=>br ((((ltI begin.type_ 0)||(geI begin.type_ (lenI x0.types)))||(ltI set_ 1))||(geI set_ limit1)) (some ((Qaf.mk 0 0 0 (Qac.mk 0 0 [] [])),2)) (bnd (Qmq (Qap.mk x0 set_ false (Qac.mk 0 0 [] []) 0) begin) fun r=>br r.ok (some ((Qaf.mk begin.type_ set_ r.price r.route),0)) (some ((Qaf.mk 0 0 0 (Qac.mk 0 0 [] [])),24))))
noncomputable def QgS (x0:Qad) (r:Qac) (b:Qac) (set_:Int):Option Bool:=br ((((gtI (lenI r.visits) 20)||(gtI (lenI r.rests) 20))||(gtI (lenI b.visits) 20))||(gtI (lenI b.rests) 20)) (bnd (QaS) fun r1=>some r1) (bnd (Qmc r b) fun r2=>bnd (Qjl r b) fun r3=>br (eqB r2 r3) (bnd (QeR x0) fun r4=>br r4 (bnd (Qfm x0 b) fun r5=>br r5 (bnd (Qfl x0 b set_) fun r6=>bnd (QgP x0 b set_) fun r7=>br (eqI r6.2 r7.2) (bnd (QeK r6.1 r7.1) fun r8=>br r8 (bnd (QaS) fun r9=>some r9) (some false)) (some false)) (bnd (QaS) fun r10=>some r10)) (bnd (QaS) fun r11=>some r11)) (some false))
noncomputable def Qdm (begins:List Qac) (at_:Int) (set_:Int) (i:Int) (k:Int):Option ((Int)⊕((Unit)⊕(Bool))):=bnd (getI begins i) fun x1=>br (ltI k (lenI x1.visits)) (bnd (getI x1.visits k) fun x2=>bnd (QiH set_ x2.order) fun r=>br (eqB r (eqI i at_)) (some (.inl (addK .i64 k 1))) (some (.inr (.inr false)))) (some (.inr (.inl ())))
noncomputable def Qdl (begins:List Qac) (at_:Int) (set_:Int) (i:Int):Option ((Int)⊕((Unit)⊕(Bool))):=br (ltI i (lenI begins)) (bnd (QaW (fun s=>Qdm begins at_ set_ i s) 0) (fun e=>sel e (fun (_:Unit)=>some (.inl (addK .i64 i 1))) (fun r1=>some (.inr (.inr r1))))) (some (.inr (.inl ())))
noncomputable def QhO (x0:Qad) (begins:List Qac) (at_:Int) (set_:Int):Option Bool:=bnd (QaW (fun s=>Qdl begins at_ set_ s) 0) (fun e=>sel e (fun (_:Unit)=>some true) (fun r2=>some r2))
noncomputable def QdJ (x0:Qad) (begins:List Qac) (now:Int) (i:Int):Option ((Int)⊕((Unit)⊕(List Qaf×Int))):=br (ltI i (lenI begins)) (bnd (getI begins i) fun x1=>br (ltI x1.type_ 0) (some (.inr (.inr ([],2)))) (br (geI x1.type_ (lenI x0.types)) (some (.inr (.inr ([],2)))) (some (.inl (addK .i64 i 1))))) (some (.inr (.inl ())))
noncomputable def Qc9 (x0:Qad) (begins:List Qac) (now:Int) (limit:Int) (i1:Int):Option ((Int×Int)⊕(Int)):=br (ltI i1 (lenI x0.orders)) (some (.inl ((mulK .i64 2 limit),(addK .i64 i1 1)))) (some (.inr limit))
noncomputable def QdK (x0:Qad) (begins:List Qac) (now:Int) (limit1:Int) (l:List Qaf) (i2:Int) (l1:List Qaf) (set_:Int):Option ((List Qaf×Int)⊕(List Qaf)):=br (ltI set_ limit1) (bnd (QhO x0 begins i2 set_) fun r=>br r (bnd (getI begins i2) fun x2=>bnd (QgP x0 x2 set_) fun r1=>br (eqI r1.2 0) (chk (okN (l1++[r1.1]).length 88) (some (.inl ((l1++[r1.1]),(addK .i64 set_ 1))))) (some (.inl (l1,(addK .i64 set_ 1))))) (some (.inl (l1,(addK .i64 set_ 1))))) (some (.inr l1))
noncomputable def Qcg (x0:Qad) (begins:List Qac) (now:Int) (limit1:Int) (l:List Qaf) (i2:Int):Option ((List Qaf×Int)⊕(List Qaf)):=br (ltI i2 (lenI begins)) (bnd (QaW (fun s=>QdK x0 begins now limit1 l i2 s.1 s.2) (l,1)) (fun l2=>some (.inl (l2,(addK .i64 i2 1))))) (some (.inr l))
noncomputable def QdL (x0:Qad) (begins:List Qac) (now:Int) (limit1:Int) (kind:Int) (l5:List Qaf) (set_1:Int):Option ((List Qaf×Int)⊕(List Qaf)):=br (ltI set_1 limit1) (bnd (QhO x0 begins (-1) set_1) fun r2=>br r2 (bnd (QgP x0 (Qac.mk kind now [] []) set_1) fun r3=>br (eqI r3.2 0) (chk (okN (l5++[r3.1]).length 88) (some (.inl ((l5++[r3.1]),(addK .i64 set_1 1))))) (some (.inl (l5,(addK .i64 set_1 1))))) (some (.inl (l5,(addK .i64 set_1 1))))) (some (.inr l5))
noncomputable def Qb0 (x0:Qad) (begins:List Qac) (now:Int) (limit1:Int) (l4:List Qaf) (kind:Int):Option ((List Qaf×Int)⊕(List Qaf)):=br (ltI kind (lenI x0.types)) (bnd (QaW (fun s=>QdL x0 begins now limit1 kind s.1 s.2) (l4,1)) (fun l6=>some (.inl (l6,(addK .i64 kind 1))))) (some (.inr l4))
noncomputable def QiG (x0:Qad) (begins:List Qac) (now:Int):Option (List Qaf×Int):=br ((ltI now 0)||(gtI now 4096)) (some ([],2)) (bnd (QaW (fun s=>QdJ x0 begins now s) 0) (fun e=>sel e (fun (_:Unit)=>bnd (QaW (fun s=>Qc9 x0 begins now s.1 s.2) (1,0)) (fun limit1=>bnd (QaW (fun s=>Qcg x0 begins now limit1 s.1 s.2) ([],0)) (fun l3=>bnd (QaW (fun s=>Qb0 x0 begins now limit1 s.1 s.2) (l3,0)) (fun l7=>some (l7,0))))) (fun r4=>some r4)))
noncomputable def QdD (x0:Qad) (l:List Qac) (now:Int) (v:Int):Option ((Int)⊕((Unit)⊕(Bool))):=br (ltI v (lenI l)) (bnd (getI l v) fun x1=>bnd (Qfm x0 x1) fun r2=>br r2 (some (.inl (addK .i64 v 1))) (bnd (QaS) fun r3=>some (.inr (.inr r3)))) (some (.inr (.inl ())))
noncomputable def QbG (l:List Qac) (r4:List Qaf×Int) (r5:List Qaf×Int) (v1:Int):Option ((Int)⊕((Unit)⊕(Bool))):=br (ltI v1 (lenI r4.1)) (bnd (getI r4.1 v1) fun x2=>bnd (getI r5.1 v1) fun x3=>bnd (QeK x2 x3) fun r6=>br r6 (some (.inl (addK .i64 v1 1))) (some (.inr (.inr false)))) (some (.inr (.inl ())))
noncomputable def Qhk (x0:Qad) (l:List Qac) (now:Int):Option Bool:=bnd (QeR x0) fun r=>br ((!r)||(gtI (lenI l) 4)) (bnd (QaS) fun r1=>some r1) (bnd (QaW (fun s=>QdD x0 l now s) 0) (fun e=>sel e (fun (_:Unit)=>bnd (Qob x0 l now) fun r4=>bnd (QiG x0 l now) fun r5=>br ((neI r4.2 r5.2)||(neI (lenI r4.1) (lenI r5.1))) (some false) (bnd (QaW (fun s=>QbG l r4 r5 s) 0) (fun e=>sel e (fun (_:Unit)=>bnd (QaS) fun r7=>some r7) (fun r8=>some r8)))) (fun r9=>some r9)))
noncomputable def Qgm (x0:Qad) (r:Qac) (at_:Int):Option Bool:=bnd (QeR x0) fun r1=>br (((!r1)||(eqI (lenI r.visits) 0))||(gtI (lenI r.rests) (lenI r.visits))) (bnd (QaS) fun r2=>some r2) (bnd (Qec x0 r) fun r3=>bnd (QcH r) fun r4=>br ((neI r3.2 0)||(neI r4.2 0)) (bnd (QaS) fun r5=>some r5) (chk (((addK .i64 (lenI r.visits) 1):Int)≠0) (bnd (slcI r.visits 0 (maxI (lenI r.rests) (remK (cvK .i64 at_) (addK .i64 (lenI r.visits) 1)))) fun l=>bnd (Qfl x0 (Qac.mk r.type_ r.start r.rests l) r4.1) fun r6=>br ((eqI r6.2 0)&&(leI r6.1.price r3.1)) (bnd (QaS) fun r7=>some r7) (some false))))
noncomputable def Qbx (x0:Qad) (b:Qac) (set_:Int) (r2:Qaf×Int) (v:Int):Option ((Int)⊕((Unit)⊕(Bool))):=br (ltI v (lenI b.visits)) (bnd (getI b.visits v) fun x1=>bnd (getI r2.1.route.visits v) fun x2=>br (eqI x2.order x1.order&&(eqB x2.drop x1.drop&&true)) (some (.inl (addK .i64 v 1))) (some (.inr (.inr false)))) (some (.inr (.inl ())))
noncomputable def Qbn (x0:Qad) (b:Qac) (set_:Int) (r2:Qaf×Int) (v1:Int):Option ((Int)⊕((Unit)⊕(Bool))):=br (ltI v1 (lenI b.rests)) (bnd (getI b.rests v1) fun x3=>bnd (getI r2.1.route.rests v1) fun x4=>br (eqB x4 x3) (some (.inl (addK .i64 v1 1))) (some (.inr (.inr false)))) (some (.inr (.inl ())))
noncomputable def Qf3 (x0:Qad) (b:Qac) (set_:Int):Option Bool:=bnd (QeR x0) fun r=>br r (bnd (Qfm x0 b) fun r1=>br r1 (bnd (Qfl x0 b set_) fun r2=>br (neI r2.2 0) (br ((eqI r2.1.set_ 0)&&(eqI r2.1.price 0)) (bnd (QaS) fun r3=>some r3) (some false)) (bnd (QcH r2.1.route) fun r4=>bnd (Qec x0 r2.1.route) fun r5=>br ((((((((((neI r4.2 0)||(neI r5.2 0))||(neI r4.1 set_))||(neI r5.1 r2.1.price))||(neI r2.1.set_ set_))||(neI r2.1.type_ b.type_))||(neI r2.1.route.type_ b.type_))||(neI r2.1.route.start b.start))||(neI (lenI r2.1.route.rests) (lenI b.rests)))||(ltI (lenI r2.1.route.visits) (lenI b.visits))) (some false) (bnd (QaW (fun s=>Qbx x0 b set_ r2 s) 0) (fun e=>sel e (fun (_:Unit)=>bnd (QaW (fun s=>Qbn x0 b set_ r2 s) 0) (fun e=>sel e (fun (_:Unit)=>br (gtI (lenI b.rests) (lenI b.visits)) (br (eqI (lenI r2.1.route.visits) (lenI b.visits)) (bnd (QaS) fun r6=>some r6) (some false)) (bnd (Qfl x0 (Qac.mk b.type_ b.start b.rests r2.1.route.visits) set_) fun r7=>br (eqI r7.2 0) (bnd (QeK r2.1 r7.1) fun r8=>br r8 (bnd (QaS) fun r9=>some r9) (some false)) (some false))) (fun r10=>some r10))) (fun r11=>some r11))))) (bnd (QaS) fun r12=>some r12)) (bnd (QaS) fun r13=>some r13)
noncomputable def QnV (x0:Qad) (r:Qac):Option Int:=bnd (Qd3 x0 r) fun r1=>some r1.2.2
end Go.Proofs.YtoedkepcaigkeaaGreatDoor
namespace Go.Proofs.YtoedkepcaigkeaaGreatDoor
set_option linter.unusedVariables false
set_option linter.unusedSectionVars false
set_option linter.unusedSimpArgs false
open Go.RowKit
variable {N : Nat}
theorem oq_9:QoA Tryz.prog N 9 (rdE 1 QmE (fun s:ByteArray=>s.size≤N) (fun _=>rfl)):=QId Tryz.underlying9 (by kernel_rfl)
theorem QIM:QoA Tryz.prog N 22 (rdE 1 (fun l:List ByteArray=>[.sl false 1 (l.map QmE)]) (fun l:List (ByteArray)=>l.length≤N∧∀ x∈l,(fun s:ByteArray=>s.size≤N) x) (fun _=>rfl)):=Qpx Tryz.underlying22 (by kernel_rfl) oq_9 (by decide)
theorem oq_3:QoA Tryz.prog N 3 (rdE 1 QaM isI (fun _=>rfl)):=QIc Tryz.underlying3 (by kernel_rfl)
def Qan.ok (N:Nat) (x:Qan):Prop:=isI x.t∧isI x.a∧True
theorem QIf:QoA Tryz.prog N 117 (rdE 2 Qan.enc (Qan.ok N) (fun _=>rfl)):=Qno Tryz.underlying117 (by kernel_rfl) (.cons rfl oq_3 (.cons rfl oq_3 .nil)) rfl (HE.pair HE.rd (HE.pair HE.rd HE.unit)) (fun a=>⟨a.1,a.2.1⟩) (fun _=>rfl) (fun _ h=>h)
theorem QHn:QoA Tryz.prog N 118 (rdE 1 (fun l:List Qan=>[.sl false 2 (l.map Qan.enc)]) (fun l:List (Qan)=>l.length≤N∧∀ x∈l,(Qan.ok N) x) (fun _=>rfl)):=Qpx Tryz.underlying118 (by kernel_rfl) QIf (by decide)
def Qas.ok (N:Nat) (x:Qas):Prop:=isI x.from_∧isI x.to_∧isI x.profile∧isI x.miles∧(fun l:List (Qan)=>l.length≤N∧∀ x∈l,(Qan.ok N) x) x.travel∧(fun l:List (Qan)=>l.length≤N∧∀ x∈l,(Qan.ok N) x) x.slow∧True
theorem QIg:QoA Tryz.prog N 120 (rdE 6 Qas.enc (Qas.ok N) (fun _=>rfl)):=Qno Tryz.underlying120 (by kernel_rfl) (.cons rfl oq_3 (.cons rfl oq_3 (.cons rfl oq_3 (.cons rfl oq_3 (.cons rfl QHn (.cons rfl QHn .nil)))))) rfl (HE.pair HE.rd (HE.pair HE.rd (HE.pair HE.rd (HE.pair HE.rd (HE.pair HE.rd (HE.pair HE.rd HE.unit)))))) (fun a=>⟨a.1,a.2.1,a.2.2.1,a.2.2.2.1,a.2.2.2.2.1,a.2.2.2.2.2.1⟩) (fun _=>rfl) (fun _ h=>h)
theorem QIN:QoA Tryz.prog N 23 (rdE 1 (fun l:List Qas=>[.sl false 6 (l.map Qas.enc)]) (fun l:List (Qas)=>l.length≤N∧∀ x∈l,(Qas.ok N) x) (fun _=>rfl)):=Qpx Tryz.underlying23 (by kernel_rfl) QIg (by decide)
def Qal.ok (N:Nat) (x:Qal):Prop:=(fun l:List (ByteArray)=>l.length≤N∧∀ x∈l,(fun s:ByteArray=>s.size≤N) x) x.places∧(fun l:List (Qas)=>l.length≤N∧∀ x∈l,(Qas.ok N) x) x.arcs∧True
theorem QIO:QoA Tryz.prog N 25 (rdE 2 Qal.enc (Qal.ok N) (fun _=>rfl)):=Qno Tryz.underlying25 (by kernel_rfl) (.cons rfl QIM (.cons rfl QIN .nil)) rfl (HE.pair HE.rd (HE.pair HE.rd HE.unit)) (fun a=>⟨a.1,a.2.1⟩) (fun _=>rfl) (fun _ h=>h)
theorem QIE:QoA Tryz.prog N 90 (rdE 1 (fun l:List Int=>[.sl false 1 (l.map QaM)]) (fun l:List (Int)=>l.length≤N∧∀ x∈l,isI x) (fun _=>rfl)):=Qpx Tryz.underlying90 (by kernel_rfl) oq_3 (by decide)
def Qak.ok (N:Nat) (x:Qak):Prop:=(fun s:ByteArray=>s.size≤N) x.name∧isI x.count∧isI x.from_∧isI x.to_∧(fun l:List (Int)=>l.length≤N∧∀ x∈l,isI x) x.cap∧isI x.skills∧isI x.profile∧isI x.open_∧isI x.close∧isI x.drive∧isI x.rest_∧isI x.fixed∧isI x.perMile∧isI x.perTick∧True
theorem QIV:QoA Tryz.prog N 94 (rdE 14 Qak.enc (Qak.ok N) (fun _=>rfl)):=Qno Tryz.underlying94 (by kernel_rfl) (.cons rfl oq_9 (.cons rfl oq_3 (.cons rfl oq_3 (.cons rfl oq_3 (.cons rfl QIE (.cons rfl oq_3 (.cons rfl oq_3 (.cons rfl oq_3 (.cons rfl oq_3 (.cons rfl oq_3 (.cons rfl oq_3 (.cons rfl oq_3 (.cons rfl oq_3 (.cons rfl oq_3 .nil)))))))))))))) rfl (HE.pair HE.rd (HE.pair HE.rd (HE.pair HE.rd (HE.pair HE.rd (HE.pair HE.rd (HE.pair HE.rd (HE.pair HE.rd (HE.pair HE.rd (HE.pair HE.rd (HE.pair HE.rd (HE.pair HE.rd (HE.pair HE.rd (HE.pair HE.rd (HE.pair HE.rd HE.unit)))))))))))))) (fun a=>⟨a.1,a.2.1,a.2.2.1,a.2.2.2.1,a.2.2.2.2.1,a.2.2.2.2.2.1,a.2.2.2.2.2.2.1,a.2.2.2.2.2.2.2.1,a.2.2.2.2.2.2.2.2.1,a.2.2.2.2.2.2.2.2.2.1,a.2.2.2.2.2.2.2.2.2.2.1,a.2.2.2.2.2.2.2.2.2.2.2.1,a.2.2.2.2.2.2.2.2.2.2.2.2.1,a.2.2.2.2.2.2.2.2.2.2.2.2.2.1⟩) (fun _=>rfl) (fun _ h=>h)
theorem QIP:QoA Tryz.prog N 26 (rdE 1 (fun l:List Qak=>[.sl false 14 (l.map Qak.enc)]) (fun l:List (Qak)=>l.length≤N∧∀ x∈l,(Qak.ok N) x) (fun _=>rfl)):=Qpx Tryz.underlying26 (by kernel_rfl) QIV (by decide)
def Qaw.ok (N:Nat) (x:Qaw):Prop:=isI x.place∧isI x.open_∧isI x.close∧isI x.service∧True
theorem QHo:QoA Tryz.prog N 122 (rdE 4 Qaw.enc (Qaw.ok N) (fun _=>rfl)):=Qno Tryz.underlying122 (by kernel_rfl) (.cons rfl oq_3 (.cons rfl oq_3 (.cons rfl oq_3 (.cons rfl oq_3 .nil)))) rfl (HE.pair HE.rd (HE.pair HE.rd (HE.pair HE.rd (HE.pair HE.rd HE.unit)))) (fun a=>⟨a.1,a.2.1,a.2.2.1,a.2.2.2.1⟩) (fun _=>rfl) (fun _ h=>h)
theorem oq_4:QoA Tryz.prog N 4 (rdE 1 QaI (fun _:Bool=>True) (fun _=>rfl)):=QHk Tryz.underlying4 (by kernel_rfl)
def Qai.ok (N:Nat) (x:Qai):Prop:=(fun s:ByteArray=>s.size≤N) x.name∧(fun l:List (Int)=>l.length≤N∧∀ x∈l,isI x) x.load∧(Qaw.ok N) x.pick∧(Qaw.ok N) x.drop∧isI x.skills∧isI x.penalty∧isI x.split∧isI x.last_∧isI x.now∧(fun _:Bool=>True) x.off∧True
theorem QIh:QoA Tryz.prog N 124 (rdE 16 Qai.enc (Qai.ok N) (fun _=>rfl)):=Qno Tryz.underlying124 (by kernel_rfl) (.cons rfl oq_9 (.cons rfl QIE (.cons rfl QHo (.cons rfl QHo (.cons rfl oq_3 (.cons rfl oq_3 (.cons rfl oq_3 (.cons rfl oq_3 (.cons rfl oq_3 (.cons rfl oq_4 .nil)))))))))) rfl (HE.pair HE.rd (HE.pair HE.rd (HE.pair HE.rd (HE.pair HE.rd (HE.pair HE.rd (HE.pair HE.rd (HE.pair HE.rd (HE.pair HE.rd (HE.pair HE.rd (HE.pair HE.rd HE.unit)))))))))) (fun a=>⟨a.1,a.2.1,a.2.2.1,a.2.2.2.1,a.2.2.2.2.1,a.2.2.2.2.2.1,a.2.2.2.2.2.2.1,a.2.2.2.2.2.2.2.1,a.2.2.2.2.2.2.2.2.1,a.2.2.2.2.2.2.2.2.2.1⟩) (fun _=>rfl) (fun _ h=>h)
theorem QIQ:QoA Tryz.prog N 27 (rdE 1 (fun l:List Qai=>[.sl false 16 (l.map Qai.enc)]) (fun l:List (Qai)=>l.length≤N∧∀ x∈l,(Qai.ok N) x) (fun _=>rfl)):=Qpx Tryz.underlying27 (by kernel_rfl) QIh (by decide)
def QaO.ok (N:Nat) (x:QaO):Prop:=isI x.x0∧isI x.x1
theorem QIi:QoA Tryz.prog N 135 (rdE 2 QaO.enc (QaO.ok N) (fun _=>rfl)):=QEn Tryz.underlying135 (by kernel_rfl) oq_3 rfl (fun a b=>⟨a,b⟩) (fun _ _=>rfl) (fun _ _ h h2=>⟨h,h2⟩)
theorem QID:QoA Tryz.prog N 28 (rdE 1 (fun l:List QaO=>[.sl false 2 (l.map QaO.enc)]) (fun l:List (QaO)=>l.length≤N∧∀ x∈l,(QaO.ok N) x) (fun _=>rfl)):=Qpx Tryz.underlying28 (by kernel_rfl) QIi (by decide)
def Qad.ok (N:Nat) (x:Qad):Prop:=(Qal.ok N) x.net∧(fun l:List (Qak)=>l.length≤N∧∀ x∈l,(Qak.ok N) x) x.types∧(fun l:List (Qai)=>l.length≤N∧∀ x∈l,(Qai.ok N) x) x.orders∧(fun l:List (QaO)=>l.length≤N∧∀ x∈l,(QaO.ok N) x) x.apart∧(fun l:List (QaO)=>l.length≤N∧∀ x∈l,(QaO.ok N) x) x.before∧True
theorem QHM:QoA Tryz.prog N 30 (rdE 6 Qad.enc (Qad.ok N) (fun _=>rfl)):=Qno Tryz.underlying30 (by kernel_rfl) (.cons rfl QIO (.cons rfl QIP (.cons rfl QIQ (.cons rfl QID (.cons rfl QID .nil))))) rfl (HE.pair HE.rd (HE.pair HE.rd (HE.pair HE.rd (HE.pair HE.rd (HE.pair HE.rd HE.unit))))) (fun a=>⟨a.1,a.2.1,a.2.2.1,a.2.2.2.1,a.2.2.2.2.1⟩) (fun _=>rfl) (fun _ h=>h)
theorem QIS:QoA Tryz.prog N 34 (rdE 1 (fun l:List Bool=>[.sl false 1 (l.map QaI)]) (fun l:List (Bool)=>l.length≤N∧∀ x∈l,(fun _:Bool=>True) x) (fun _=>rfl)):=Qpx Tryz.underlying34 (by kernel_rfl) oq_4 (by decide)
def Qaa.ok (N:Nat) (x:Qaa):Prop:=isI x.order∧(fun _:Bool=>True) x.drop∧True
theorem QIU:QoA Tryz.prog N 54 (rdE 2 Qaa.enc (Qaa.ok N) (fun _=>rfl)):=Qno Tryz.underlying54 (by kernel_rfl) (.cons rfl oq_3 (.cons rfl oq_4 .nil)) rfl (HE.pair HE.rd (HE.pair HE.rd HE.unit)) (fun a=>⟨a.1,a.2.1⟩) (fun _=>rfl) (fun _ h=>h)
theorem QIT:QoA Tryz.prog N 35 (rdE 1 (fun l:List Qaa=>[.sl false 2 (l.map Qaa.enc)]) (fun l:List (Qaa)=>l.length≤N∧∀ x∈l,(Qaa.ok N) x) (fun _=>rfl)):=Qpx Tryz.underlying35 (by kernel_rfl) QIU (by decide)
def Qac.ok (N:Nat) (x:Qac):Prop:=isI x.type_∧isI x.start∧(fun l:List (Bool)=>l.length≤N∧∀ x∈l,(fun _:Bool=>True) x) x.rests∧(fun l:List (Qaa)=>l.length≤N∧∀ x∈l,(Qaa.ok N) x) x.visits∧True
theorem QHp:QoA Tryz.prog N 37 (rdE 4 Qac.enc (Qac.ok N) (fun _=>rfl)):=Qno Tryz.underlying37 (by kernel_rfl) (.cons rfl oq_3 (.cons rfl oq_3 (.cons rfl QIS (.cons rfl QIT .nil)))) rfl (HE.pair HE.rd (HE.pair HE.rd (HE.pair HE.rd (HE.pair HE.rd HE.unit)))) (fun a=>⟨a.1,a.2.1,a.2.2.1,a.2.2.2.1⟩) (fun _=>rfl) (fun _ h=>h)
theorem QIR:QoA Tryz.prog N 31 (rdE 1 (fun l:List Qac=>[.sl false 4 (l.map Qac.enc)]) (fun l:List (Qac)=>l.length≤N∧∀ x∈l,(Qac.ok N) x) (fun _=>rfl)):=Qpx Tryz.underlying31 (by kernel_rfl) QHp (by decide)
def Qaf.ok (N:Nat) (x:Qaf):Prop:=isI x.type_∧isI x.set_∧isI x.price∧(Qac.ok N) x.route∧True
end Go.Proofs.YtoedkepcaigkeaaGreatDoor
