/- Part MT of the proof: texts Xt Xd Xo. -/
import Derived.Test.YtoedkepcaigkeaaGreatDoorMA
import Derived.Test.YtoedkepcaigkeaaGreatDoorMC
namespace Go.Proofs.YtoedkepcaigkeaaGreatDoor
set_option linter.unusedVariables false
set_option linter.unusedSectionVars false
set_option linter.unusedSimpArgs false
def e_i64 (n:Int):List Lf:=[.int .i64 n]
def e_u8 (n:Int):List Lf:=[.int .u8 n]
def e_fn (n:Nat):List Lf:=[.fn (.func n) []]
def QaQ (b:Bool):List Lf:=[.bool b]
def e_str (s:ByteArray):List Lf:=[.str s]
structure Qab where
  err:Int
  at_:ByteArray
instance:DecidableEq Qab:=fun a b=>decidable_of_iff (a.err=b.err∧a.at_=b.at_) (by cases a; cases b; simp)
structure Qao where
  t:Int
  a:Int
instance:DecidableEq Qao:=fun a b=>decidable_of_iff (a.t=b.t∧a.a=b.a) (by cases a; cases b; simp)
structure Qas where
  from_:Int
  to_:Int
  profile:Int
  miles:Int
  travel:List Qao
  slow:List Qao
instance:DecidableEq Qas:=fun a b=>decidable_of_iff (a.from_=b.from_∧a.to_=b.to_∧a.profile=b.profile∧a.miles=b.miles∧a.travel=b.travel∧a.slow=b.slow) (by cases a; cases b; simp)
structure Qam where
  places:List ByteArray
  arcs:List Qas
instance:DecidableEq Qam:=fun a b=>decidable_of_iff (a.places=b.places∧a.arcs=b.arcs) (by cases a; cases b; simp)
structure Qai where
  name:ByteArray
  count:Int
  from_:Int
  to_:Int
  cap:List Int
  skills:Int
  profile:Int
  open_:Int
  close:Int
  drive:Int
  rest_:Int
  fixed:Int
  perMile:Int
  perTick:Int
instance:DecidableEq Qai:=fun a b=>decidable_of_iff (a.name=b.name∧a.count=b.count∧a.from_=b.from_∧a.to_=b.to_∧a.cap=b.cap∧a.skills=b.skills∧a.profile=b.profile∧a.open_=b.open_∧a.close=b.close∧a.drive=b.drive∧a.rest_=b.rest_∧a.fixed=b.fixed∧a.perMile=b.perMile∧a.perTick=b.perTick) (by cases a; cases b; simp)
structure Qau where
  place:Int
  open_:Int
  close:Int
  service:Int
instance:DecidableEq Qau:=fun a b=>decidable_of_iff (a.place=b.place∧a.open_=b.open_∧a.close=b.close∧a.service=b.service) (by cases a; cases b; simp)
structure Qah where
  name:ByteArray
  load:List Int
  pick:Qau
  drop:Qau
  skills:Int
  penalty:Int
  split:Int
  last_:Int
  now:Int
  off:Bool
instance:DecidableEq Qah:=fun a b=>decidable_of_iff (a.name=b.name∧a.load=b.load∧a.pick=b.pick∧a.drop=b.drop∧a.skills=b.skills∧a.penalty=b.penalty∧a.split=b.split∧a.last_=b.last_∧a.now=b.now∧a.off=b.off) (by cases a; cases b; simp)
structure QaC where
  x0:Int
  x1:Int
instance:DecidableEq QaC:=fun a b=>decidable_of_iff (a.x0=b.x0∧a.x1=b.x1) (by cases a; cases b; simp)
structure Qac where
  net:Qam
  types:List Qai
  orders:List Qah
  apart:List QaC
  before:List QaC
instance:DecidableEq Qac:=fun a b=>decidable_of_iff (a.net=b.net∧a.types=b.types∧a.orders=b.orders∧a.apart=b.apart∧a.before=b.before) (by cases a; cases b; simp)
structure Qaa where
  order:Int
  drop:Bool
instance:DecidableEq Qaa:=fun a b=>decidable_of_iff (a.order=b.order∧a.drop=b.drop) (by cases a; cases b; simp)
structure Qad where
  type_:Int
  start:Int
  rests:List Bool
  visits:List Qaa
instance:DecidableEq Qad:=fun a b=>decidable_of_iff (a.type_=b.type_∧a.start=b.start∧a.rests=b.rests∧a.visits=b.visits) (by cases a; cases b; simp)
structure Qaz where
  x:Qac
  t:Qai
  r:Qad
  stops:List Qau
instance:DecidableEq Qaz:=fun a b=>decidable_of_iff (a.x=b.x∧a.t=b.t∧a.r=b.r∧a.stops=b.stops) (by cases a; cases b; simp)
structure Qar where
  arrive:Int
  begin:Int
  depart:Int
  rest_:Bool
instance:DecidableEq Qar:=fun a b=>decidable_of_iff (a.arrive=b.arrive∧a.begin=b.begin∧a.depart=b.depart∧a.rest_=b.rest_) (by cases a; cases b; simp)
structure Qap where
  rest_:Bool
  depart:Int
  times:List Qar
  end_:Int
  miles:Int
instance:DecidableEq Qap:=fun a b=>decidable_of_iff (a.rest_=b.rest_∧a.depart=b.depart∧a.times=b.times∧a.end_=b.end_∧a.miles=b.miles) (by cases a; cases b; simp)
structure Qaf where
  ready:Int
  since:Int
  sheet:Qap
instance:DecidableEq Qaf:=fun a b=>decidable_of_iff (a.ready=b.ready∧a.since=b.since∧a.sheet=b.sheet) (by cases a; cases b; simp)
structure Qi2 where
  from_:Int
  to_:Int
  profile:Int
instance:DecidableEq Qi2:=fun a b=>decidable_of_iff (a.from_=b.from_∧a.to_=b.to_∧a.profile=b.profile) (by cases a; cases b; simp)
structure QzP where
  x0:Int
  x1:Int
  x2:Int
  x3:Int
  x4:Int
  x5:Int
  x6:Int
  x7:Int
  x8:Int
  x9:Int
  x10:Int
  x11:Int
  x12:Int
  x13:Int
  x14:Int
  x15:Int
  x16:Int
  x17:Int
  x18:Int
  x19:Int
  x20:Int
  x21:Int
  x22:Int
  x23:Int
instance:DecidableEq QzP:=fun a b=>decidable_of_iff (a.x0=b.x0∧a.x1=b.x1∧a.x2=b.x2∧a.x3=b.x3∧a.x4=b.x4∧a.x5=b.x5∧a.x6=b.x6∧a.x7=b.x7∧a.x8=b.x8∧a.x9=b.x9∧a.x10=b.x10∧a.x11=b.x11∧a.x12=b.x12∧a.x13=b.x13∧a.x14=b.x14∧a.x15=b.x15∧a.x16=b.x16∧a.x17=b.x17∧a.x18=b.x18∧a.x19=b.x19∧a.x20=b.x20∧a.x21=b.x21∧a.x22=b.x22∧a.x23=b.x23) (by cases a; cases b; simp)
structure QaE where
  cost:Int
  moved:Int
  other:Int
  work:Int
instance:DecidableEq QaE:=fun a b=>decidable_of_iff (a.cost=b.cost∧a.moved=b.moved∧a.other=b.other∧a.work=b.work) (by cases a; cases b; simp)
structure Qzk where
  x0:Int
  x1:Int
  x2:Int
  x3:Int
instance:DecidableEq Qzk:=fun a b=>decidable_of_iff (a.x0=b.x0∧a.x1=b.x1∧a.x2=b.x2∧a.x3=b.x3) (by cases a; cases b; simp)
structure Qag where
  type_:Int
  set_:Int
  price:Int
  route:Qad
instance:DecidableEq Qag:=fun a b=>decidable_of_iff (a.type_=b.type_∧a.set_=b.set_∧a.price=b.price∧a.route=b.route) (by cases a; cases b; simp)
structure Qat where
  x:Qac
  begin:Qad
  set_:Int
  found:Bool
  best:Qag
instance:DecidableEq Qat:=fun a b=>decidable_of_iff (a.x=b.x∧a.begin=b.begin∧a.set_=b.set_∧a.found=b.found∧a.best=b.best) (by cases a; cases b; simp)
structure Quz where
  routes:List Qad
  unserved:List Int
instance:DecidableEq Quz:=fun a b=>decidable_of_iff (a.routes=b.routes∧a.unserved=b.unserved) (by cases a; cases b; simp)
structure QaA where
  place:Int
  time:Int
  driven:Int
  miles:Int
instance:DecidableEq QaA:=fun a b=>decidable_of_iff (a.place=b.place∧a.time=b.time∧a.driven=b.driven∧a.miles=b.miles) (by cases a; cases b; simp)
structure QaR where
  x:Qac
  set_:Int
  ok:Bool
  route:Qad
  price:Int
instance:DecidableEq QaR:=fun a b=>decidable_of_iff (a.x=b.x∧a.set_=b.set_∧a.ok=b.ok∧a.route=b.route∧a.price=b.price) (by cases a; cases b; simp)
structure Qal where
  ready:Int
  driven:Int
instance:DecidableEq Qal:=fun a b=>decidable_of_iff (a.ready=b.ready∧a.driven=b.driven) (by cases a; cases b; simp)
structure Qaq where
  x:Qac
  kind:Int
  set_:Int
  total:Int
  best:Qag
  found:Bool
instance:DecidableEq Qaq:=fun a b=>decidable_of_iff (a.x=b.x∧a.kind=b.kind∧a.set_=b.set_∧a.total=b.total∧a.best=b.best∧a.found=b.found) (by cases a; cases b; simp)
def Qab.enc (x:Qab):List Lf:=[lI x.err,.str x.at_]
def Qao.enc (x:Qao):List Lf:=[lI x.t,lI x.a]
def Qas.enc (x:Qas):List Lf:=[lI x.from_,lI x.to_,lI x.profile,lI x.miles,lL 2 x.travel Qao.enc,lL 2 x.slow Qao.enc]
def Qam.enc (x:Qam):List Lf:=[lL 1 x.places e_str,lL 6 x.arcs Qas.enc]
def Qai.enc (x:Qai):List Lf:=[.str x.name,lI x.count,lI x.from_,lI x.to_,lL 1 x.cap e_i64,lI x.skills,lI x.profile,lI x.open_,lI x.close,lI x.drive,lI x.rest_,lI x.fixed,lI x.perMile,lI x.perTick]
def Qau.enc (x:Qau):List Lf:=[lI x.place,lI x.open_,lI x.close,lI x.service]
def Qah.enc (x:Qah):List Lf:=[.str x.name,lL 1 x.load e_i64,lI x.pick.place,lI x.pick.open_,lI x.pick.close,lI x.pick.service,lI x.drop.place,lI x.drop.open_,lI x.drop.close,lI x.drop.service,lI x.skills,lI x.penalty,lI x.split,lI x.last_,lI x.now,.bool x.off]
def QaC.enc (x:QaC):List Lf:=[lI x.x0,lI x.x1]
def Qac.enc (x:Qac):List Lf:=[lL 1 x.net.places e_str,lL 6 x.net.arcs Qas.enc,lL 14 x.types Qai.enc,lL 16 x.orders Qah.enc,lL 2 x.apart QaC.enc,lL 2 x.before QaC.enc]
def Qaa.enc (x:Qaa):List Lf:=[lI x.order,.bool x.drop]
def Qad.enc (x:Qad):List Lf:=[lI x.type_,lI x.start,lL 1 x.rests QaQ,lL 2 x.visits Qaa.enc]
def Qaz.enc (x:Qaz):List Lf:=[lL 1 x.x.net.places e_str,lL 6 x.x.net.arcs Qas.enc,lL 14 x.x.types Qai.enc,lL 16 x.x.orders Qah.enc,lL 2 x.x.apart QaC.enc,lL 2 x.x.before QaC.enc,.str x.t.name,lI x.t.count,lI x.t.from_,lI x.t.to_,lL 1 x.t.cap e_i64,lI x.t.skills,lI x.t.profile,lI x.t.open_,lI x.t.close,lI x.t.drive,lI x.t.rest_,lI x.t.fixed,lI x.t.perMile,lI x.t.perTick,lI x.r.type_,lI x.r.start,lL 1 x.r.rests QaQ,lL 2 x.r.visits Qaa.enc,lL 4 x.stops Qau.enc]
def Qar.enc (x:Qar):List Lf:=[lI x.arrive,lI x.begin,lI x.depart,.bool x.rest_]
def Qap.enc (x:Qap):List Lf:=[.bool x.rest_,lI x.depart,lL 4 x.times Qar.enc,lI x.end_,lI x.miles]
def Qaf.enc (x:Qaf):List Lf:=[lI x.ready,lI x.since,.bool x.sheet.rest_,lI x.sheet.depart,lL 4 x.sheet.times Qar.enc,lI x.sheet.end_,lI x.sheet.miles]
def Qi2.enc (x:Qi2):List Lf:=[lI x.from_,lI x.to_,lI x.profile]
def QzP.enc (x:QzP):List Lf:=[.int .u8 x.x0,.int .u8 x.x1,.int .u8 x.x2,.int .u8 x.x3,.int .u8 x.x4,.int .u8 x.x5,.int .u8 x.x6,.int .u8 x.x7,.int .u8 x.x8,.int .u8 x.x9,.int .u8 x.x10,.int .u8 x.x11,.int .u8 x.x12,.int .u8 x.x13,.int .u8 x.x14,.int .u8 x.x15,.int .u8 x.x16,.int .u8 x.x17,.int .u8 x.x18,.int .u8 x.x19,.int .u8 x.x20,.int .u8 x.x21,.int .u8 x.x22,.int .u8 x.x23]
def QaE.enc (x:QaE):List Lf:=[lI x.cost,lI x.moved,lI x.other,lI x.work]
def Qzk.enc (x:Qzk):List Lf:=[lI x.x0,lI x.x1,lI x.x2,lI x.x3]
def Qag.enc (x:Qag):List Lf:=[lI x.type_,lI x.set_,lI x.price,lI x.route.type_,lI x.route.start,lL 1 x.route.rests QaQ,lL 2 x.route.visits Qaa.enc]
def Qat.enc (x:Qat):List Lf:=[lL 1 x.x.net.places e_str,lL 6 x.x.net.arcs Qas.enc,lL 14 x.x.types Qai.enc,lL 16 x.x.orders Qah.enc,lL 2 x.x.apart QaC.enc,lL 2 x.x.before QaC.enc,lI x.begin.type_,lI x.begin.start,lL 1 x.begin.rests QaQ,lL 2 x.begin.visits Qaa.enc,lI x.set_,.bool x.found,lI x.best.type_,lI x.best.set_,lI x.best.price,lI x.best.route.type_,lI x.best.route.start,lL 1 x.best.route.rests QaQ,lL 2 x.best.route.visits Qaa.enc]
def Quz.enc (x:Quz):List Lf:=[lL 4 x.routes Qad.enc,lL 1 x.unserved e_i64]
def QaA.enc (x:QaA):List Lf:=[lI x.place,lI x.time,lI x.driven,lI x.miles]
def QaR.enc (x:QaR):List Lf:=[lL 1 x.x.net.places e_str,lL 6 x.x.net.arcs Qas.enc,lL 14 x.x.types Qai.enc,lL 16 x.x.orders Qah.enc,lL 2 x.x.apart QaC.enc,lL 2 x.x.before QaC.enc,lI x.set_,.bool x.ok,lI x.route.type_,lI x.route.start,lL 1 x.route.rests QaQ,lL 2 x.route.visits Qaa.enc,lI x.price]
def Qal.enc (x:Qal):List Lf:=[lI x.ready,lI x.driven]
def Qaq.enc (x:Qaq):List Lf:=[lL 1 x.x.net.places e_str,lL 6 x.x.net.arcs Qas.enc,lL 14 x.x.types Qai.enc,lL 16 x.x.orders Qah.enc,lL 2 x.x.apart QaC.enc,lL 2 x.x.before QaC.enc,lI x.kind,lI x.set_,lI x.total,lI x.best.type_,lI x.best.set_,lI x.best.price,lI x.best.route.type_,lI x.best.route.start,lL 1 x.best.route.rests QaQ,lL 2 x.best.route.visits Qaa.enc,.bool x.found]
def es_T_api_Route.enc (l:List Qad):List Lf:=[.sl false 4 (l.map Qad.enc)]
def Qbc (l:List Int):List Lf:=[.sl false 1 (l.map e_i64)]
def Qc7:ByteArray:=⟨#[32]⟩
def QwI:ByteArray:=⟨#[45]⟩
def QlE:ByteArray:=⟨#[112,108,97,99,101,115]⟩
def QdR:ByteArray:=⟨#[112,108,97,99,101,32]⟩
def QaX:ByteArray:=⟨#[97,114,99,32]⟩
def QrA:ByteArray:=⟨#[97,114,99,115]⟩
def Qvi:ByteArray:=⟨#[97,112,97,114,116]⟩
def Qt6:ByteArray:=⟨#[98,101,102,111,114,101]⟩
def Qxt:ByteArray:=⟨#[110,101,116]⟩
def Qya:ByteArray:=⟨#[116,121,112,101,115]⟩
def Qxu:ByteArray:=⟨#[111,114,100,101,114,115]⟩
def Qx9:ByteArray:=⟨#[114,117,108,101,115]⟩
def Qoh:ByteArray:=⟨#[48,49,50,51,52,53,54,55,56,57,97,98,99,100,101,102,103,104,105,106,107,108,109,110,111,112,113,114,115,116,117,118,119,120,121,122]⟩
def Qog:ByteArray:=⟨#[48,48,48,49,48,50,48,51,48,52,48,53,48,54,48,55,48,56,48,57,49,48,49,49,49,50,49,51,49,52,49,53,49,54,49,55,49,56,49,57,50,48,50,49,50,50,50,51,50,52,50,53,50,54,50,55,50,56,50,57,51,48,51,49,51,50,51,51,51,52,51,53,51,54,51,55,51,56,51,57,52,48,52,49,52,50,52,51,52,52,52,53,52,54,52,55,52,56,52,57,53,48,53,49,53,50,53,51,53,52,53,53,53,54,53,55,53,56,53,57,54,48,54,49,54,50,54,51,54,52,54,53,54,54,54,55,54,56,54,57,55,48,55,49,55,50,55,51,55,52,55,53,55,54,55,55,55,56,55,57,56,48,56,49,56,50,56,51,56,52,56,53,56,54,56,55,56,56,56,57,57,48,57,49,57,50,57,51,57,52,57,53,57,54,57,55,57,56,57,57]⟩
def Qoi:ByteArray:=⟨#[0,1,2,2,3,3,3,3,4,4,4,4,4,4,4,4,5,5,5,5,5,5,5,5,5,5,5,5,5,5,5,5,6,6,6,6,6,6,6,6,6,6,6,6,6,6,6,6,6,6,6,6,6,6,6,6,6,6,6,6,6,6,6,6,7,7,7,7,7,7,7,7,7,7,7,7,7,7,7,7,7,7,7,7,7,7,7,7,7,7,7,7,7,7,7,7,7,7,7,7,7,7,7,7,7,7,7,7,7,7,7,7,7,7,7,7,7,7,7,7,7,7,7,7,7,7,7,7,8,8,8,8,8,8,8,8,8,8,8,8,8,8,8,8,8,8,8,8,8,8,8,8,8,8,8,8,8,8,8,8,8,8,8,8,8,8,8,8,8,8,8,8,8,8,8,8,8,8,8,8,8,8,8,8,8,8,8,8,8,8,8,8,8,8,8,8,8,8,8,8,8,8,8,8,8,8,8,8,8,8,8,8,8,8,8,8,8,8,8,8,8,8,8,8,8,8,8,8,8,8,8,8,8,8,8,8,8,8,8,8,8,8,8,8,8,8,8,8,8,8,8,8,8,8,8,8]⟩
def QBl:ByteArray:=⟨#[65]⟩
def QBm:ByteArray:=⟨#[66]⟩
def QBo:ByteArray:=⟨#[118]⟩
def QBn:ByteArray:=⟨#[111]⟩
def Qxs:ByteArray:=⟨#[104,117,98]⟩
def Qxr:ByteArray:=⟨#[97,115,104]⟩
def Qy5:ByteArray:=⟨#[111,97]⟩
def Qxv:ByteArray:=⟨#[118,97,110]⟩
end Go.Proofs.YtoedkepcaigkeaaGreatDoor
namespace Go.Proofs.YtoedkepcaigkeaaGreatDoor
set_option linter.unusedVariables false
set_option linter.unusedSectionVars false
set_option linter.unusedSimpArgs false
noncomputable def QfT (word:ByteArray) (l:List Qab) (l1:List Qab) (i:Int) (at_:ByteArray):Option ((List Qab×Int)⊕(List Qab)):=bnd (getI l i) fun x1=>chk (okN (l1++[(Qab.mk x1.err at_)]).length 24) (some (.inl ((l1++[(Qab.mk x1.err at_)]),(addK .i64 i 1))))
noncomputable def QeO (word:ByteArray) (l:List Qab) (l1:List Qab) (i:Int):Option ((List Qab×Int)⊕(List Qab)):=br (ltI i (lenI l)) (bnd (getI l i) fun x0=>br (eqS x0.at_ ByteArray.empty) (QfT word l l1 i word) (chk (word.size+Qc7.size≤9223372036854775807) (chk ((catS word Qc7).size+x0.at_.size≤9223372036854775807) (QfT word l l1 i (catS (catS word Qc7) x0.at_))))) (some (.inr l1))
noncomputable def Qgs (word:ByteArray) (l:List Qab):Option (List Qab):=bnd (loopF (fun s=>QeO word l s.1 s.2) ([],0)) (fun l2=>some l2)
noncomputable def QdK (n:Int) (s0:ByteArray) (left:Int) (d:Int):Option ((ByteArray×Int×Bool)⊕(ByteArray)):=chk ((Qsd [(cvK .u8 (addK .i64 48 d))]).size+s0.size≤9223372036854775807) (some (.inl ((catS (Qsd [(cvK .u8 (addK .i64 48 d))]) s0),(quoK .i64 left 10),(neI (quoK .i64 left 10) 0))))
noncomputable def Qgd (n:Int) (s0:ByteArray) (left:Int) (again:Bool):Option ((ByteArray×Int×Bool)⊕(ByteArray)):=br again (br (ltI (remK left 10) 0) (QdK n s0 left (subK .i64 0 (remK left 10))) (QdK n s0 left (remK left 10))) (some (.inr s0))
noncomputable def Qca (n:Int):Option ByteArray:=bnd (loopF (fun s=>Qgd n s.1 s.2.1 s.2.2) (ByteArray.empty,n,true)) (fun s1=>br (ltI n 0) (chk (QwI.size+s1.size≤9223372036854775807) (some (catS QwI s1))) (some s1))
noncomputable def Qju (c:Int):Option Bool:=some ((geI c 48)&&(leI c 57))
noncomputable def QlM (c:Int):Option Bool:=some ((((geI c 97)&&(leI c 122))||((geI c 65)&&(leI c 90)))||(eqI c 95))
noncomputable def Qfb (s0:ByteArray) (b:UInt8) (i:Int):Option ((Int)⊕((Unit)⊕(Bool))):=br (ltI i (sizeS s0)) (bnd (getS s0 i) fun b1=>bnd (QlM (byteI b1)) fun r1=>br r1 (some (.inl (addK .i64 i 1))) (bnd (Qju (byteI b1)) fun r2=>br r2 (some (.inl (addK .i64 i 1))) (some (.inr (.inr false))))) (some (.inr (.inl ())))
noncomputable def Qf4 (s0:ByteArray):Option Bool:=br ((ltI (sizeS s0) 1)||(gtI (sizeS s0) 16)) (some false) (bnd (getS s0 0) fun b=>bnd (Qju (byteI b)) fun r=>br r (some false) (bnd (loopF (fun s=>Qfb s0 b s) 0) (fun e=>sel e (fun (_:Unit)=>some true) (fun r3=>some r3))))
noncomputable def Qez (l:List Qao) (i:Int) (x0:Qao) (l3:List Qab):Option ((List Qab×Int)⊕(List Qab)):=br (gtI i 0) (bnd (getI l (subK .i64 i 1)) fun x1=>br (leI x0.t x1.t) (bnd (Qca i) fun r1=>chk (okN (l3++[(Qab.mk 13 r1)]).length 24) (some (.inl ((l3++[(Qab.mk 13 r1)]),(addK .i64 i 1))))) (br (ltI x0.a x1.a) (bnd (Qca i) fun r2=>chk (okN (l3++[(Qab.mk 13 r2)]).length 24) (some (.inl ((l3++[(Qab.mk 13 r2)]),(addK .i64 i 1))))) (some (.inl (l3,(addK .i64 i 1)))))) (some (.inl (l3,(addK .i64 i 1))))
noncomputable def QdC (l:List Qao) (l2:List Qab) (i:Int):Option ((List Qab×Int)⊕(List Qab)):=br (ltI i (lenI l)) (bnd (getI l i) fun x0=>br ((((ltI x0.t 0)||(gtI x0.t 4096))||(ltI x0.a x0.t))||(gtI x0.a (addK .i64 x0.t 4096))) (bnd (Qca i) fun r=>chk (okN (l2++[(Qab.mk 2 r)]).length 24) (Qez l i x0 (l2++[(Qab.mk 2 r)]))) (Qez l i x0 l2)) (some (.inr l2))
noncomputable def QfM (l:List Qao) (l1:List Qab):Option (List Qab):=bnd (loopF (fun s=>QdC l s.1 s.2) (l1,0)) (fun l4=>some l4)
noncomputable def Qfr (l:List Qao):Option (List Qab):=br ((ltI (lenI l) 1)||(gtI (lenI l) 16)) (chk (okN [(Qab.mk 4 ByteArray.empty)].length 24) (QfM l [(Qab.mk 4 ByteArray.empty)])) (QfM l [])
noncomputable def Qhc (t:Int):Option Bool:=some ((geI t 0)&&(leI t 4096))
noncomputable def Qci (n:Qam) (i:Int) (r:ByteArray) (x0:Qas) (l:List Qab) (l1:List Qab) (twice:Bool) (k:Int):Option ((Bool×Int)⊕(Bool)):=br (ltI k i) (bnd (getI n.arcs k) fun x1=>some (.inl ((twice||(((eqI x0.from_ x1.from_)&&(eqI x0.to_ x1.to_))&&(eqI x0.profile x1.profile))),(addK .i64 k 1)))) (some (.inr twice))
noncomputable def Qcj (r:ByteArray) (x0:Qas) (l:List Qab) (r1:List Qab) (l3:List Qab) (k1:Int):Option ((List Qab×Int)⊕(List Qab)):=br (ltI k1 (lenI r1)) (bnd (getI r1 k1) fun x2=>chk (okN (l3++[(Qab.mk x2.err (catS QaX r))]).length 24) (some (.inl ((l3++[(Qab.mk x2.err (catS QaX r))]),(addK .i64 k1 1))))) (some (.inr l3))
noncomputable def Qck (r:ByteArray) (x0:Qas) (l:List Qab) (l6:List Qab) (k2:Int):Option ((List Qab×Int)⊕(List Qab)):=br (ltI k2 (lenI x0.slow)) (bnd (getI x0.slow k2) fun x3=>bnd (Qhc x3.t) fun r2=>br r2 (bnd (Qhc x3.a) fun r3=>br r3 (br (gtI k2 0) (bnd (getI x0.slow (subK .i64 k2 1)) fun x4=>br (leI x3.t x4.t) (chk (okN (l6++[(Qab.mk 2 (catS QaX r))]).length 24) (some (.inl ((l6++[(Qab.mk 2 (catS QaX r))]),(addK .i64 k2 1))))) (some (.inl (l6,(addK .i64 k2 1))))) (some (.inl (l6,(addK .i64 k2 1))))) (chk (okN (l6++[(Qab.mk 2 (catS QaX r))]).length 24) (some (.inl ((l6++[(Qab.mk 2 (catS QaX r))]),(addK .i64 k2 1)))))) (chk (okN (l6++[(Qab.mk 2 (catS QaX r))]).length 24) (some (.inl ((l6++[(Qab.mk 2 (catS QaX r))]),(addK .i64 k2 1)))))) (some (.inr l6))
noncomputable def QbP (r:ByteArray) (x0:Qas) (l:List Qab) (l5:List Qab):Option (List Qab):=bnd (loopF (fun s=>Qck r x0 l s.1 s.2) (l5,0)) (fun l7=>some l7)
noncomputable def Qch (r:ByteArray) (x0:Qas) (l:List Qab) (l2:List Qab):Option (List Qab):=bnd (Qfr x0.travel) fun r1=>bnd (loopF (fun s=>Qcj r x0 l r1 s.1 s.2) (l2,0)) (fun l4=>br (gtI (lenI x0.slow) 16) (chk (okN (l4++[(Qab.mk 4 (catS QaX r))]).length 24) (QbP r x0 l (l4++[(Qab.mk 4 (catS QaX r))]))) (QbP r x0 l l4))
noncomputable def Qds (n:Qam) (i:Int) (r:ByteArray) (x0:Qas) (l:List Qab) (l1:List Qab):Option (List Qab):=bnd (loopF (fun s=>Qci n i r x0 l l1 s.1 s.2) (false,0)) (fun twice1=>br twice1 (chk (okN (l1++[(Qab.mk 6 (catS QaX r))]).length 24) (Qch r x0 l (l1++[(Qab.mk 6 (catS QaX r))]))) (Qch r x0 l l1))
noncomputable def Qdr (n:Qam) (i:Int) (r:ByteArray) (x0:Qas) (l:List Qab):Option (List Qab):=br (((((ltI x0.profile 0)||(gtI x0.profile 7))||(ltI x0.miles 0))||(gtI x0.miles 10000))||(eqI x0.from_ x0.to_)) (chk (okN (l++[(Qab.mk 2 (catS QaX r))]).length 24) (Qds n i r x0 l (l++[(Qab.mk 2 (catS QaX r))]))) (Qds n i r x0 l l)
noncomputable def QfO (n:Qam) (i:Int):Option (List Qab):=bnd (Qca i) fun r=>chk (QaX.size+r.size≤9223372036854775807) (bnd (getI n.arcs i) fun x0=>br ((((ltI x0.from_ 0)||(geI x0.from_ (lenI n.places)))||(ltI x0.to_ 0))||(geI x0.to_ (lenI n.places))) (chk (okN [(Qab.mk 11 (catS QaX r))].length 24) (Qdr n i r x0 [(Qab.mk 11 (catS QaX r))])) (Qdr n i r x0 []))
noncomputable def Qbh (n:Qam) (l:List Qab) (l1:List Qab) (i:Int) (r:ByteArray) (twice:Bool) (k:Int):Option ((Bool×Int)⊕(Bool)):=br (ltI k i) (br twice (some (.inl (true,(addK .i64 k 1)))) (bnd (getI n.places k) fun x1=>bnd (getI n.places i) fun x2=>some (.inl ((eqS x1 x2),(addK .i64 k 1))))) (some (.inr twice))
noncomputable def Qbg (n:Qam) (l:List Qab) (l1:List Qab) (i:Int):Option ((List Qab×Int)⊕(List Qab)):=br (ltI i (lenI n.places)) (bnd (Qca i) fun r=>chk (QdR.size+r.size≤9223372036854775807) (bnd (getI n.places i) fun x0=>bnd (Qf4 x0) fun r1=>br r1 (bnd (loopF (fun s=>Qbh n l l1 i r s.1 s.2) (false,0)) (fun twice1=>br twice1 (chk (okN (l1++[(Qab.mk 6 (catS QdR r))]).length 24) (some (.inl ((l1++[(Qab.mk 6 (catS QdR r))]),(addK .i64 i 1))))) (some (.inl (l1,(addK .i64 i 1)))))) (chk (okN (l1++[(Qab.mk 5 (catS QdR r))]).length 24) (some (.inl ((l1++[(Qab.mk 5 (catS QdR r))]),(addK .i64 i 1))))))) (some (.inr l1))
noncomputable def Qcy (n:Qam) (l:List Qab):Option (List Qab):=bnd (loopF (fun s=>Qbg n l s.1 s.2) (l,0)) (fun l2=>some l2)
noncomputable def Qdi (n:Qam):Option (List Qab):=br (gtI (lenI n.places) 24) (chk (okN [(Qab.mk 4 QlE)].length 24) (Qcy n [(Qab.mk 4 QlE)])) (Qcy n [])
noncomputable def Qc9 (n:Qam) (l:List Qab) (l1:List Qab) (i:Int):Option ((List Qab×Int)⊕(List Qab)):=br (ltI i (lenI n.arcs)) (bnd (QfO n i) fun r1=>chk (okN (l1++r1).length 24) (some (.inl ((l1++r1),(addK .i64 i 1))))) (some (.inr l1))
noncomputable def QfN (n:Qam) (l:List Qab):Option (List Qab):=bnd (loopF (fun s=>Qc9 n l s.1 s.2) (l,0)) (fun l2=>some l2)
noncomputable def QhJ (n:Qam):Option (List Qab):=bnd (Qdi n) fun r=>br (gtI (lenI n.arcs) 1024) (chk (okN (r++[(Qab.mk 4 QrA)]).length 24) (QfN n (r++[(Qab.mk 4 QrA)]))) (QfN n r)
noncomputable def QaV (n:Int) (lo:Int) (hi:Int):Option Bool:=some ((geI n lo)&&(leI n hi))
noncomputable def Qf5 (l:List Qai):Option Int:=br (eqI (lenI l) 0) (some 0) (bnd (getI l 0) fun x0=>some (lenI x0.cap))
noncomputable def Qcz (l:List Qai) (at_:Int) (name:ByteArray) (i:Int):Option ((Int)⊕((Unit)⊕(Bool))):=br (ltI i at_) (bnd (getI l i) fun x0=>br (eqS x0.name name) (some (.inr (.inr true))) (some (.inl (addK .i64 i 1)))) (some (.inr (.inl ())))
noncomputable def QhL (l:List Qai) (at_:Int) (name:ByteArray):Option Bool:=bnd (loopF (fun s=>Qcz l at_ name s) 0) (fun e=>sel e (fun (_:Unit)=>some false) (fun r=>some r))
noncomputable def QbQ (l:List Int) (i:Int):Option ((Int)⊕((Unit)⊕(Bool))):=br (ltI i (lenI l)) (bnd (getI l i) fun x0=>bnd (QaV x0 0 1000) fun r1=>br r1 (some (.inl (addK .i64 i 1))) (some (.inr (.inr false)))) (some (.inr (.inl ())))
noncomputable def QeA (l:List Int) (dims:Int):Option Bool:=bnd (QaV (lenI l) 1 3) fun r=>br ((!r)||(neI (lenI l) dims)) (some false) (bnd (loopF (fun s=>QbQ l s) 0) (fun e=>sel e (fun (_:Unit)=>some true) (fun r2=>some r2)))
noncomputable def QeI (x0:Qai) (l8:List Int):Option (List Int):=bnd (QaV x0.profile 0 7) fun r11=>br r11 (bnd (QaV x0.fixed 0 100000) fun r12=>br r12 (bnd (QaV x0.perMile 0 100) fun r13=>br r13 (bnd (QaV x0.perTick 0 100) fun r14=>br r14 (some l8) (chk (okN (l8++[2]).length 8) (some (l8++[2])))) (chk (okN (l8++[2]).length 8) (some (l8++[2])))) (chk (okN (l8++[2]).length 8) (some (l8++[2])))) (chk (okN (l8++[2]).length 8) (some (l8++[2])))
noncomputable def QeH (x0:Qai) (l7:List Int):Option (List Int):=bnd (QaV x0.drive 1 4096) fun r9=>br r9 (bnd (QaV x0.rest_ 0 4096) fun r10=>br r10 (QeI x0 l7) (chk (okN (l7++[16]).length 8) (QeI x0 (l7++[16])))) (chk (okN (l7++[16]).length 8) (bnd (QaV x0.profile 0 7) fun r15=>br r15 (bnd (QaV x0.fixed 0 100000) fun r16=>br r16 (bnd (QaV x0.perMile 0 100) fun r17=>br r17 (bnd (QaV x0.perTick 0 100) fun r18=>br r18 (some (l7++[16])) (chk (okN ((l7++[16])++[2]).length 8) (some ((l7++[16])++[2])))) (chk (okN ((l7++[16])++[2]).length 8) (some ((l7++[16])++[2])))) (chk (okN ((l7++[16])++[2]).length 8) (some ((l7++[16])++[2])))) (chk (okN ((l7++[16])++[2]).length 8) (some ((l7++[16])++[2])))))
noncomputable def QeG (x0:Qai) (l6:List Int):Option (List Int):=bnd (QaV x0.open_ 0 x0.close) fun r8=>br ((!r8)||(gtI x0.close 4096)) (chk (okN (l6++[15]).length 8) (QeH x0 (l6++[15]))) (QeH x0 l6)
noncomputable def QeF (x0:Qai) (l5:List Int):Option (List Int):=bnd (QaV x0.skills 0 1073741823) fun r7=>br r7 (QeG x0 l5) (chk (okN (l5++[18]).length 8) (QeG x0 (l5++[18])))
noncomputable def QeE (l:List Qai) (x0:Qai) (l4:List Int):Option (List Int):=bnd (Qf5 l) fun r5=>bnd (QeA x0.cap r5) fun r6=>br r6 (QeF x0 l4) (chk (okN (l4++[17]).length 8) (QeF x0 (l4++[17])))
noncomputable def QgQ (x0:Qai) (l12:List Int):Option (List Int):=bnd (QaV x0.profile 0 7) fun r25=>br r25 (bnd (QaV x0.fixed 0 100000) fun r26=>br r26 (bnd (QaV x0.perMile 0 100) fun r27=>br r27 (bnd (QaV x0.perTick 0 100) fun r28=>br r28 (some l12) (chk (okN (l12++[2]).length 8) (some (l12++[2])))) (chk (okN (l12++[2]).length 8) (some (l12++[2])))) (chk (okN (l12++[2]).length 8) (some (l12++[2])))) (chk (okN (l12++[2]).length 8) (some (l12++[2])))
noncomputable def QgP (x0:Qai) (l11:List Int):Option (List Int):=bnd (QaV x0.drive 1 4096) fun r23=>br r23 (bnd (QaV x0.rest_ 0 4096) fun r24=>br r24 (QgQ x0 l11) (chk (okN (l11++[16]).length 8) (QgQ x0 (l11++[16])))) (chk (okN (l11++[16]).length 8) (bnd (QaV x0.profile 0 7) fun r29=>br r29 (bnd (QaV x0.fixed 0 100000) fun r30=>br r30 (bnd (QaV x0.perMile 0 100) fun r31=>br r31 (bnd (QaV x0.perTick 0 100) fun r32=>br r32 (some (l11++[16])) (chk (okN ((l11++[16])++[2]).length 8) (some ((l11++[16])++[2])))) (chk (okN ((l11++[16])++[2]).length 8) (some ((l11++[16])++[2])))) (chk (okN ((l11++[16])++[2]).length 8) (some ((l11++[16])++[2])))) (chk (okN ((l11++[16])++[2]).length 8) (some ((l11++[16])++[2])))))
noncomputable def QgO (x0:Qai) (l10:List Int):Option (List Int):=bnd (QaV x0.open_ 0 x0.close) fun r22=>br ((!r22)||(gtI x0.close 4096)) (chk (okN (l10++[15]).length 8) (QgP x0 (l10++[15]))) (QgP x0 l10)
noncomputable def Qhw (x0:Qai) (l9:List Int):Option (List Int):=bnd (QaV x0.skills 0 1073741823) fun r21=>br r21 (QgO x0 l9) (chk (okN (l9++[18]).length 8) (QgO x0 (l9++[18])))
noncomputable def QeD (n:Qam) (l:List Qai) (x0:Qai) (l3:List Int):Option (List Int):=bnd (QaV x0.from_ 0 (subK .i64 (lenI n.places) 1)) fun r3=>br r3 (bnd (QaV x0.to_ 0 (subK .i64 (lenI n.places) 1)) fun r4=>br r4 (QeE l x0 l3) (chk (okN (l3++[11]).length 8) (QeE l x0 (l3++[11])))) (chk (okN (l3++[11]).length 8) (bnd (Qf5 l) fun r19=>bnd (QeA x0.cap r19) fun r20=>br r20 (Qhw x0 (l3++[11])) (chk (okN ((l3++[11])++[17]).length 8) (Qhw x0 ((l3++[11])++[17])))))
noncomputable def QeC (n:Qam) (l:List Qai) (x0:Qai) (l2:List Int):Option (List Int):=bnd (QaV x0.count 0 10) fun r2=>br r2 (QeD n l x0 l2) (chk (okN (l2++[22]).length 8) (QeD n l x0 (l2++[22])))
noncomputable def QeB (n:Qam) (l:List Qai) (at_:Int) (x0:Qai) (l1:List Int):Option (List Int):=bnd (QhL l at_ x0.name) fun r1=>br r1 (chk (okN (l1++[6]).length 8) (QeC n l x0 (l1++[6]))) (QeC n l x0 l1)
noncomputable def QhM (n:Qam) (l:List Qai) (at_:Int):Option (List Int):=bnd (getI l at_) fun x0=>bnd (Qf4 x0.name) fun r=>br r (QeB n l at_ x0 []) (chk (okN [5].length 8) (QeB n l at_ x0 [5]))
noncomputable def Qhv (n:Qam) (l:List Qai) (i:Int) (r1:List Int) (l3:List Qab) (k:Int):Option ((List Qab×Int)⊕(List Qab)):=br (ltI k (lenI r1)) (bnd (getI r1 k) fun x0=>bnd (Qca i) fun r2=>chk (okN (l3++[(Qab.mk x0 r2)]).length 24) (some (.inl ((l3++[(Qab.mk x0 r2)]),(addK .i64 k 1))))) (some (.inr l3))
noncomputable def Qda (n:Qam) (l:List Qai) (l2:List Qab) (i:Int):Option ((List Qab×Int)⊕(List Qab)):=br (ltI i (lenI l)) (bnd (QhM n l i) fun r1=>bnd (loopF (fun s=>Qhv n l i r1 s.1 s.2) (l2,0)) (fun l4=>some (.inl (l4,(addK .i64 i 1))))) (some (.inr l2))
noncomputable def QfP (n:Qam) (l:List Qai) (l1:List Qab):Option (List Qab):=bnd (loopF (fun s=>Qda n l s.1 s.2) (l1,0)) (fun l5=>some l5)
noncomputable def QhK (n:Qam) (l:List Qai):Option (List Qab):=bnd (QaV (lenI l) 1 6) fun r=>br r (QfP n l []) (chk (okN [(Qab.mk 4 ByteArray.empty)].length 24) (QfP n l [(Qab.mk 4 ByteArray.empty)]))
noncomputable def Qcw (a:List Int) (i:Int):Option ((Int)⊕((Unit)⊕(Bool))):=br (ltI i (lenI a)) (bnd (getI a i) fun x0=>br (ltI x0 0) (some (.inr (.inr false))) (br (gtI x0 1000) (some (.inr (.inr false))) (some (.inl (addK .i64 i 1))))) (some (.inr (.inl ())))
noncomputable def Qfq (a:List Int) (dims:Int):Option Bool:=br (neI (lenI a) dims) (some false) (bnd (loopF (fun s=>Qcw a s) 0) (fun e=>sel e (fun (_:Unit)=>some true) (fun r=>some r)))
noncomputable def QbR (n:Int) (low:Int) (high:Int):Option Bool:=some ((geI n low)&&(leI n high))
noncomputable def Qes (s0:Qau):Option Int:=br ((((eqI s0.place (-1))&&(eqI s0.open_ 0))&&(eqI s0.close 0))&&(eqI s0.service 0)) (some 0) (br ((((((ltI s0.place 0)||(ltI s0.open_ 0))||(gtI s0.open_ s0.close))||(gtI s0.close 4096))||(ltI s0.service 0))||(gtI s0.service 4096)) (some 2) (some 0))
noncomputable def QcA (places:Int) (dims:Int) (types:Int) (l:List Qah) (at_:Int) (x0:Qah) (l1:List Int) (i:Int):Option ((Int)⊕(List Int)):=br (ltI i at_) (bnd (getI l i) fun x1=>br (eqS x1.name x0.name) (chk (okN (l1++[6]).length 8) (some (.inr (l1++[6])))) (some (.inl (addK .i64 i 1)))) (some (.inr l1))
noncomputable def QeM (types:Int) (x0:Qah) (l6:List Int):Option (List Int):=bnd (QbR x0.penalty (-1) 1000000) fun r6=>br r6 (bnd (QbR x0.split 1 4) fun r7=>br ((((((!r7)||((gtI x0.split 1)&&((neI x0.pick.place (-1))&&(neI x0.drop.place (-1)))))||(ltI x0.last_ (-1)))||(geI x0.last_ types))||(ltI x0.now (-1)))||(geI x0.now types)) (chk (okN (l6++[2]).length 8) (some (l6++[2]))) (some l6)) (chk (okN (l6++[2]).length 8) (some (l6++[2])))
noncomputable def Qhy (types:Int) (x0:Qah) (l8:List Int):Option (List Int):=bnd (QbR x0.penalty (-1) 1000000) fun r10=>br r10 (bnd (QbR x0.split 1 4) fun r11=>br ((((((!r11)||((gtI x0.split 1)&&((neI x0.pick.place (-1))&&(neI x0.drop.place (-1)))))||(ltI x0.last_ (-1)))||(geI x0.last_ types))||(ltI x0.now (-1)))||(geI x0.now types)) (chk (okN (l8++[2]).length 8) (some (l8++[2]))) (some l8)) (chk (okN (l8++[2]).length 8) (some (l8++[2])))
noncomputable def QeN (types:Int) (x0:Qah) (l7:List Int):Option (List Int):=bnd (QbR x0.skills 0 1073741823) fun r9=>br r9 (Qhy types x0 l7) (chk (okN (l7++[18]).length 8) (Qhy types x0 (l7++[18])))
noncomputable def QeL (types:Int) (x0:Qah) (l5:List Int):Option (List Int):=bnd (Qes x0.pick) fun r4=>br (neI r4 0) (chk (okN (l5++[14]).length 8) (bnd (QbR x0.skills 0 1073741823) fun r5=>br r5 (QeM types x0 (l5++[14])) (chk (okN ((l5++[14])++[18]).length 8) (QeM types x0 ((l5++[14])++[18]))))) (bnd (Qes x0.drop) fun r8=>br (neI r8 0) (chk (okN (l5++[14]).length 8) (QeN types x0 (l5++[14]))) (QeN types x0 l5))
noncomputable def QeK (types:Int) (x0:Qah) (l4:List Int):Option (List Int):=br ((eqI x0.pick.place (-1))&&(eqI x0.drop.place (-1))) (chk (okN (l4++[19]).length 8) (QeL types x0 (l4++[19]))) (QeL types x0 l4)
noncomputable def QhA (types:Int) (x0:Qah) (l10:List Int):Option (List Int):=bnd (QbR x0.penalty (-1) 1000000) fun r14=>br r14 (bnd (QbR x0.split 1 4) fun r15=>br ((((((!r15)||((gtI x0.split 1)&&((neI x0.pick.place (-1))&&(neI x0.drop.place (-1)))))||(ltI x0.last_ (-1)))||(geI x0.last_ types))||(ltI x0.now (-1)))||(geI x0.now types)) (chk (okN (l10++[2]).length 8) (some (l10++[2]))) (some l10)) (chk (okN (l10++[2]).length 8) (some (l10++[2])))
noncomputable def QgT (types:Int) (x0:Qah) (l12:List Int):Option (List Int):=bnd (QbR x0.penalty (-1) 1000000) fun r18=>br r18 (bnd (QbR x0.split 1 4) fun r19=>br ((((((!r19)||((gtI x0.split 1)&&((neI x0.pick.place (-1))&&(neI x0.drop.place (-1)))))||(ltI x0.last_ (-1)))||(geI x0.last_ types))||(ltI x0.now (-1)))||(geI x0.now types)) (chk (okN (l12++[2]).length 8) (some (l12++[2]))) (some l12)) (chk (okN (l12++[2]).length 8) (some (l12++[2])))
noncomputable def QgS (types:Int) (x0:Qah) (l11:List Int):Option (List Int):=bnd (QbR x0.skills 0 1073741823) fun r17=>br r17 (QgT types x0 l11) (chk (okN (l11++[18]).length 8) (QgT types x0 (l11++[18])))
noncomputable def Qhz (types:Int) (x0:Qah) (l9:List Int):Option (List Int):=bnd (Qes x0.pick) fun r12=>br (neI r12 0) (chk (okN (l9++[14]).length 8) (bnd (QbR x0.skills 0 1073741823) fun r13=>br r13 (QhA types x0 (l9++[14])) (chk (okN ((l9++[14])++[18]).length 8) (QhA types x0 ((l9++[14])++[18]))))) (bnd (Qes x0.drop) fun r16=>br (neI r16 0) (chk (okN (l9++[14]).length 8) (QgS types x0 (l9++[14]))) (QgS types x0 l9))
noncomputable def Qcb (places:Int) (types:Int) (x0:Qah) (l3:List Int):Option (List Int):=bnd (QbR x0.pick.place (-1) (subK .i64 places 1)) fun r2=>br r2 (bnd (QbR x0.drop.place (-1) (subK .i64 places 1)) fun r3=>br r3 (QeK types x0 l3) (chk (okN (l3++[11]).length 8) (QeK types x0 (l3++[11])))) (chk (okN (l3++[11]).length 8) (br ((eqI x0.pick.place (-1))&&(eqI x0.drop.place (-1))) (chk (okN ((l3++[11])++[19]).length 8) (Qhz types x0 ((l3++[11])++[19]))) (Qhz types x0 (l3++[11]))))
noncomputable def QeJ (places:Int) (dims:Int) (types:Int) (l:List Qah) (at_:Int) (x0:Qah) (l1:List Int):Option (List Int):=bnd (loopF (fun s=>QcA places dims types l at_ x0 l1 s) 0) (fun l2=>bnd (Qfq x0.load dims) fun r1=>br r1 (Qcb places types x0 l2) (chk (okN (l2++[17]).length 8) (Qcb places types x0 (l2++[17]))))
noncomputable def QhO (places:Int) (dims:Int) (types:Int) (l:List Qah) (at_:Int):Option (List Int):=bnd (getI l at_) fun x0=>bnd (Qf4 x0.name) fun r=>br r (QeJ places dims types l at_ x0 []) (chk (okN [5].length 8) (QeJ places dims types l at_ x0 [5]))
noncomputable def Qhx (n:Qam) (dims:Int) (types:Int) (l:List Qah) (i:Int) (r:List Int) (l3:List Qab) (k:Int):Option ((List Qab×Int)⊕(List Qab)):=br (ltI k (lenI r)) (bnd (getI r k) fun x0=>bnd (Qca i) fun r1=>chk (okN (l3++[(Qab.mk x0 r1)]).length 24) (some (.inl ((l3++[(Qab.mk x0 r1)]),(addK .i64 k 1))))) (some (.inr l3))
noncomputable def Qdb (n:Qam) (dims:Int) (types:Int) (l:List Qah) (l2:List Qab) (i:Int):Option ((List Qab×Int)⊕(List Qab)):=br (ltI i (lenI l)) (bnd (QhO (lenI n.places) dims types l i) fun r=>bnd (loopF (fun s=>Qhx n dims types l i r s.1 s.2) (l2,0)) (fun l4=>some (.inl (l4,(addK .i64 i 1))))) (some (.inr l2))
noncomputable def QfR (n:Qam) (dims:Int) (types:Int) (l:List Qah) (l1:List Qab):Option (List Qab):=bnd (loopF (fun s=>Qdb n dims types l s.1 s.2) (l1,0)) (fun l5=>some l5)
noncomputable def QhN (n:Qam) (dims:Int) (types:Int) (l:List Qah):Option (List Qab):=br (gtI (lenI l) 10) (chk (okN [(Qab.mk 4 ByteArray.empty)].length 24) (QfR n dims types l [(Qab.mk 4 ByteArray.empty)])) (QfR n dims types l [])
noncomputable def QdL (n1:Int) (s0:ByteArray):Option ((Int×ByteArray)⊕(Int×ByteArray)):=br (geI n1 10) (chk ((Qsd [(cvK .u8 (addK .i64 48 (remK n1 10)))]).size+s0.size≤9223372036854775807) (some (.inl ((quoK .i64 n1 10),(catS (Qsd [(cvK .u8 (addK .i64 48 (remK n1 10)))]) s0))))) (some (.inr (n1,s0)))
noncomputable def Qfe (n:Int):Option ByteArray:=bnd (loopF (fun s=>QdL s.1 s.2) (n,ByteArray.empty)) (fun e0=>(fun n2 s1=>chk ((Qsd [(cvK .u8 (addK .i64 48 n2))]).size+s1.size≤9223372036854775807) (some (catS (Qsd [(cvK .u8 (addK .i64 48 n2))]) s1))) e0.1 e0.2)
noncomputable def Qd6 (orders:Int) (l:List QaC) (word:ByteArray) (turned:Bool) (l2:List Qab) (i:Int) (x0:QaC) (r:ByteArray) (twice:Bool) (k:Int):Option ((Bool×Int)⊕(Bool)):=br (ltI k i) (br twice (some (.inl (true,(addK .i64 k 1)))) (bnd (getI l k) fun x1=>br (eqI x1.x0 x0.x0) (br (eqI x1.x1 x0.x1) (some (.inl (true,(addK .i64 k 1)))) (br turned (br (eqI x1.x0 x0.x1) (some (.inl ((eqI x1.x1 x0.x0),(addK .i64 k 1)))) (some (.inl (false,(addK .i64 k 1))))) (some (.inl (false,(addK .i64 k 1)))))) (br turned (br (eqI x1.x0 x0.x1) (some (.inl ((eqI x1.x1 x0.x0),(addK .i64 k 1)))) (some (.inl (false,(addK .i64 k 1))))) (some (.inl (false,(addK .i64 k 1))))))) (some (.inr twice))
noncomputable def QcK (orders:Int) (l:List QaC) (word:ByteArray) (turned:Bool) (l2:List Qab) (i:Int):Option ((List Qab×Int)⊕(List Qab)):=br (ltI i (lenI l)) (bnd (getI l i) fun x0=>chk (word.size+Qc7.size≤9223372036854775807) (bnd (Qfe i) fun r=>chk ((catS word Qc7).size+r.size≤9223372036854775807) (br (((((ltI x0.x0 0)||(geI x0.x0 orders))||(ltI x0.x1 0))||(geI x0.x1 orders))||(eqI x0.x0 x0.x1)) (chk (okN (l2++[(Qab.mk 2 (catS (catS word Qc7) r))]).length 24) (some (.inl ((l2++[(Qab.mk 2 (catS (catS word Qc7) r))]),(addK .i64 i 1))))) (bnd (loopF (fun s=>Qd6 orders l word turned l2 i x0 r s.1 s.2) (false,0)) (fun twice1=>br twice1 (chk (okN (l2++[(Qab.mk 6 (catS (catS word Qc7) r))]).length 24) (some (.inl ((l2++[(Qab.mk 6 (catS (catS word Qc7) r))]),(addK .i64 i 1))))) (some (.inl (l2,(addK .i64 i 1))))))))) (some (.inr l2))
noncomputable def Qfs (orders:Int) (l:List QaC) (word:ByteArray) (turned:Bool) (l1:List Qab):Option (List Qab):=bnd (loopF (fun s=>QcK orders l word turned s.1 s.2) (l1,0)) (fun l3=>some l3)
noncomputable def Qg6 (orders:Int) (l:List QaC) (word:ByteArray) (turned:Bool):Option (List Qab):=br (gtI (lenI l) 16) (chk (okN [(Qab.mk 4 word)].length 24) (Qfs orders l word turned [(Qab.mk 4 word)])) (Qfs orders l word turned [])
noncomputable def QeZ (orders:Int) (l:List QaC) (word:ByteArray) (turned:Bool) (l2:List Qab) (i:Int) (x0:QaC) (r:ByteArray) (twice:Bool) (k:Int):Option ((Bool×Int)⊕(Bool)):=br (ltI k i) (br twice (some (.inl (true,(addK .i64 k 1)))) (bnd (getI l k) fun x1=>br (eqI x1.x0 x0.x0) (br (eqI x1.x1 x0.x1) (some (.inl (true,(addK .i64 k 1)))) (br turned (br (eqI x1.x0 x0.x1) (some (.inl ((eqI x1.x1 x0.x0),(addK .i64 k 1)))) (some (.inl (false,(addK .i64 k 1))))) (some (.inl (false,(addK .i64 k 1)))))) (br turned (br (eqI x1.x0 x0.x1) (some (.inl ((eqI x1.x1 x0.x0),(addK .i64 k 1)))) (some (.inl (false,(addK .i64 k 1))))) (some (.inl (false,(addK .i64 k 1))))))) (some (.inr twice))
noncomputable def QeY (orders:Int) (l:List QaC) (word:ByteArray) (turned:Bool) (l2:List Qab) (i:Int):Option ((List Qab×Int)⊕(List Qab)):=br (ltI i (lenI l)) (bnd (getI l i) fun x0=>chk (word.size+Qc7.size≤9223372036854775807) (bnd (Qfe i) fun r=>chk ((catS word Qc7).size+r.size≤9223372036854775807) (br (((((ltI x0.x0 0)||(geI x0.x0 orders))||(ltI x0.x1 0))||(geI x0.x1 orders))||(eqI x0.x0 x0.x1)) (chk (okN (l2++[(Qab.mk 2 (catS (catS word Qc7) r))]).length 24) (some (.inl ((l2++[(Qab.mk 2 (catS (catS word Qc7) r))]),(addK .i64 i 1))))) (bnd (loopF (fun s=>QeZ orders l word turned l2 i x0 r s.1 s.2) (false,0)) (fun twice1=>br twice1 (chk (okN (l2++[(Qab.mk 6 (catS (catS word Qc7) r))]).length 24) (some (.inl ((l2++[(Qab.mk 6 (catS (catS word Qc7) r))]),(addK .i64 i 1))))) (some (.inl (l2,(addK .i64 i 1))))))))) (some (.inr l2))
noncomputable def QeX (orders:Int) (l:List QaC) (word:ByteArray) (turned:Bool) (l1:List Qab):Option (List Qab):=bnd (loopF (fun s=>QeY orders l word turned s.1 s.2) (l1,0)) (fun l3=>some l3)
noncomputable def Qip (orders:Int) (l:List QaC) (word:ByteArray) (turned:Bool):Option (List Qab):=br (gtI (lenI l) 16) (chk (okN [(Qab.mk 4 word)].length 24) (QeX orders l word turned [(Qab.mk 4 word)])) (QeX orders l word turned [])
noncomputable def QhP (orders:Int) (apart:List QaC) (before:List QaC):Option (List Qab):=bnd (Qip orders apart Qvi true) fun r=>bnd (Qg6 orders before Qt6 false) fun r1=>chk (okN (r++r1).length 24) (some (r++r1))
noncomputable def Qfy (word:ByteArray) (l:List Qab) (l1:List Qab) (i:Int) (at_:ByteArray):Option ((List Qab×Int)⊕(List Qab)):=bnd (getI l i) fun x1=>chk (okN (l1++[(Qab.mk x1.err at_)]).length 24) (some (.inl ((l1++[(Qab.mk x1.err at_)]),(addK .i64 i 1))))
noncomputable def Qfz (word:ByteArray) (l:List Qab) (l1:List Qab) (i:Int):Option ((List Qab×Int)⊕(List Qab)):=br (ltI i (lenI l)) (bnd (getI l i) fun x0=>br (eqS x0.at_ ByteArray.empty) (Qfy word l l1 i word) (chk (word.size+Qc7.size≤9223372036854775807) (chk ((catS word Qc7).size+x0.at_.size≤9223372036854775807) (Qfy word l l1 i (catS (catS word Qc7) x0.at_))))) (some (.inr l1))
noncomputable def QgU (word:ByteArray) (l:List Qab):Option (List Qab):=bnd (loopF (fun s=>Qfz word l s.1 s.2) ([],0)) (fun l2=>some l2)
noncomputable def Qgr (x0:Qac):Option (List Qab):=bnd (QhJ x0.net) fun r=>bnd (QgU Qxt r) fun r1=>bnd (QhK x0.net x0.types) fun r2=>bnd (Qgs Qya r2) fun r3=>chk (okN (r1++r3).length 24) (bnd (Qf5 x0.types) fun r4=>bnd (QhN x0.net r4 (lenI x0.types) x0.orders) fun r5=>bnd (Qgs Qxu r5) fun r6=>chk (okN ((r1++r3)++r6).length 24) (bnd (QhP (lenI x0.orders) x0.apart x0.before) fun r7=>bnd (Qgs Qx9 r7) fun r8=>chk (okN (((r1++r3)++r6)++r8).length 24) (some (((r1++r3)++r6)++r8))))
noncomputable def QhH (x0:Qac):Option Bool:=br (leI (lenI x0.orders) 3) (bnd (Qgr x0) fun r=>some (eqI (lenI r) 0)) (some false)
noncomputable def Qkz (l:List Qad) (v:Int) (x0:Qad) (set_1:Int) (v1:Int):Option ((Int×Int)⊕(Int)):=br (ltI v1 (lenI x0.visits)) (bnd (getI x0.visits v1) fun x1=>br ((geI x1.order 0)&&(leI x1.order 62)) (chk ((0:Int)≤x1.order) (some (.inl ((orK .i64 set_1 (shlK .i64 1 x1.order)),(addK .i64 v1 1))))) (some (.inl (set_1,(addK .i64 v1 1))))) (some (.inr set_1))
noncomputable def Qky (l:List Qad) (set_:Int) (v:Int):Option ((Int×Int)⊕(Int)):=br (ltI v (lenI l)) (bnd (getI l v) fun x0=>bnd (loopF (fun s=>Qkz l v x0 s.1 s.2) (set_,0)) (fun set_2=>some (.inl (set_2,(addK .i64 v 1))))) (some (.inr set_))
noncomputable def QiU (l:List Qad):Option Int:=bnd (loopF (fun s=>Qky l s.1 s.2) (0,0)) (fun set_3=>some set_3)
noncomputable def QbG (n:Int):Option (List Qad):=br (ltI n 0) (none) (br (gtI (subK .i64 n (subK .i64 0 0)) 0) (bnd (mkI (subK .i64 n (subK .i64 0 0)) (subK .i64 n (subK .i64 0 0)) 64 (Qad.mk 0 0 [] [])) fun l=>bnd (slcI l 0 0) fun l1=>some l1) (some []))
noncomputable def Qb1 (slices:List (List Qad)) (size:Int) (v:Int):Option ((Int×Int)⊕(Int)):=br (ltI v (lenI slices)) (bnd (getI slices v) fun x0=>br (ltI (addK .i64 size (lenI x0)) 0) (none) (some (.inl ((addK .i64 size (lenI x0)),(addK .i64 v 1))))) (some (.inr size))
noncomputable def Qbt (slices:List (List Qad)) (l:List Qad) (v1:Int):Option ((List Qad×Int)⊕(List Qad)):=br (ltI v1 (lenI slices)) (bnd (getI slices v1) fun x1=>chk (okN (l++x1).length 64) (some (.inl ((l++x1),(addK .i64 v1 1))))) (some (.inr l))
noncomputable def Qdq (slices:List (List Qad)):Option (List Qad):=bnd (loopF (fun s=>Qb1 slices s.1 s.2) (0,0)) (fun size1=>bnd (QbG size1) fun r=>bnd (loopF (fun s=>Qbt slices s.1 s.2) (r,0)) (fun l1=>some l1))
noncomputable def Qfk (r:Qad) (set_:Int) (v:Int):Option ((Int×Int)⊕((Int)⊕(Int×Int))):=br (ltI v (lenI r.visits)) (bnd (getI r.visits v) fun x0=>br ((ltI x0.order 0)||(gtI x0.order 62)) (some (.inr (.inr (0,2)))) (chk ((0:Int)≤x0.order) (some (.inl ((orK .i64 set_ (shlK .i64 1 x0.order)),(addK .i64 v 1)))))) (some (.inr (.inl set_)))
noncomputable def Qem (r:Qad):Option (Int×Int):=bnd (loopF (fun s=>Qfk r s.1 s.2) (0,0)) (fun e=>sel e (fun set_1=>some (set_1,0)) (fun r1=>some r1))
noncomputable def Qn9 (x0:Qac) (set_:Int):Option Bool:=br (gtI set_ 0) (chk ((0:Int)≤(lenI x0.orders)) (some (eqI (shrK .i64 set_ (lenI x0.orders)) 0))) (some false)
noncomputable def QkC (begin:Qad):Option Bool:=some (gtI (lenI begin.rests) (lenI begin.visits))
noncomputable def QaT (s0:List Qaa) (v:Qaa) (v1:Int):Option ((Int)⊕((Unit)⊕(Int))):=br (ltI v1 (lenI s0)) (bnd (getI s0 v1) fun x0=>br (eqI v.order x0.order&&(eqB v.drop x0.drop&&true)) (some (.inr (.inr v1))) (some (.inl (addK .i64 v1 1)))) (some (.inr (.inl ())))
noncomputable def Qbn (s0:List Qaa) (v:Qaa):Option Int:=bnd (loopF (fun s=>QaT s0 v s) 0) (fun e=>sel e (fun (_:Unit)=>some (-1)) (fun r=>some r))
noncomputable def Qen (l:List Qaa) (v:Qaa):Option Int:=bnd (Qbn l v) fun r=>some r
noncomputable def Qdn (l:List Qaa) (v:Int):Option ((Int)⊕((Unit)⊕(Bool))):=br (ltI v (lenI l)) (bnd (getI l v) fun x0=>bnd (slcI l 0 v) fun l1=>bnd (Qen l1 x0) fun r=>br (geI r 0) (some (.inr (.inr true))) (some (.inl (addK .i64 v 1)))) (some (.inr (.inl ())))
noncomputable def QjS (l:List Qaa):Option Bool:=bnd (loopF (fun s=>Qdn l s) 0) (fun e=>sel e (fun (_:Unit)=>some false) (fun r1=>some r1))
noncomputable def QmM (l:List Qah) (at_:Int):Option Bool:=some ((geI at_ 0)&&(ltI at_ (lenI l)))
noncomputable def Qhi (l:List Qah) (at_:Int) (l1:List Qaa):Option (List Qaa):=bnd (getI l at_) fun x1=>br (geI x1.drop.place 0) (chk (okN (l1++[(Qaa.mk at_ true)]).length 16) (some (l1++[(Qaa.mk at_ true)]))) (some l1)
noncomputable def QgW (l:List Qah) (at_:Int):Option (List Qaa):=bnd (QmM l at_) fun r=>br r (bnd (getI l at_) fun x0=>br (geI x0.pick.place 0) (chk (okN [(Qaa.mk at_ false)].length 16) (Qhi l at_ [(Qaa.mk at_ false)])) (Qhi l at_ [])) (some [])
noncomputable def Qbw (s0:List Qaa) (v:Qaa):Option Bool:=bnd (Qbn s0 v) fun r=>some (geI r 0)
noncomputable def Qbj (x0:Qac) (l:List Qaa) (v:Int) (r:List Qaa) (last_:Int) (v1:Int):Option ((Int×Int)⊕((Unit)⊕(Bool))):=br (ltI v1 (lenI r)) (bnd (getI r v1) fun x2=>bnd (Qen l x2) fun r2=>br (leI r2 last_) (some (.inr (.inr false))) (some (.inl (r2,(addK .i64 v1 1))))) (some (.inr (.inl ())))
noncomputable def Qc2 (x0:Qac) (l:List Qaa) (v:Int):Option ((Int)⊕((Unit)⊕(Bool))):=br (ltI v (lenI l)) (bnd (getI l v) fun x1=>bnd (QgW x0.orders x1.order) fun r=>bnd (Qbw r x1) fun r1=>br r1 (bnd (loopF (fun s=>Qbj x0 l v r s.1 s.2) ((-1),0)) (fun e=>sel e (fun (_:Unit)=>some (.inl (addK .i64 v 1))) (fun r3=>some (.inr (.inr r3))))) (some (.inr (.inr false)))) (some (.inr (.inl ())))
noncomputable def QiI (x0:Qac) (l:List Qaa):Option Bool:=bnd (loopF (fun s=>Qc2 x0 l s) 0) (fun e=>sel e (fun (_:Unit)=>some true) (fun r4=>some r4))
noncomputable def QmH (v:Qaa) (c:Int):Option Bool:=some (eqI v.order c)
noncomputable def QaI (s0:List Qaa) (c:Int) (v:Int):Option ((Int)⊕((Unit)⊕(Int))):=br (ltI v (lenI s0)) (bnd (getI s0 v) fun x0=>bnd (QmH x0 c) fun r=>br r (some (.inr (.inr v))) (some (.inl (addK .i64 v 1)))) (some (.inr (.inl ())))
noncomputable def Qa8 (s0:List Qaa) (c:Int):Option Int:=bnd (loopF (fun s=>QaI s0 c s) 0) (fun e=>sel e (fun (_:Unit)=>some (-1)) (fun r1=>some r1))
noncomputable def Qbl (s0:List Qaa) (c:Int):Option Bool:=bnd (Qa8 s0 c) fun r=>some (geI r 0)
noncomputable def QhX (l:List Qaa) (o:Int):Option Bool:=bnd (Qbl l o) fun r=>some r
noncomputable def QiR (v:Qaa) (c:Int):Option Bool:=some (eqI v.order c)
noncomputable def QaF (s0:List Qaa) (c:Int) (v:Int):Option ((Int)⊕((Unit)⊕(Int))):=br (ltI v (lenI s0)) (bnd (getI s0 v) fun x0=>bnd (QiR x0 c) fun r=>br r (some (.inr (.inr v))) (some (.inl (addK .i64 v 1)))) (some (.inr (.inl ())))
noncomputable def Qa5 (s0:List Qaa) (c:Int):Option Int:=bnd (loopF (fun s=>QaF s0 c s) 0) (fun e=>sel e (fun (_:Unit)=>some (-1)) (fun r1=>some r1))
noncomputable def QiH (l:List Qaa) (a:Int) (b:Int):Option Bool:=bnd (Qa5 l b) fun r=>br (ltI r 0) (some true) (bnd (QhX l a) fun r1=>br r1 (bnd (slcI l r (lenI l)) fun l1=>bnd (QhX l1 a) fun r2=>some (!r2)) (some false))
noncomputable def QjO (v:Qaa) (c:Qac):Option Bool:=some ((ltI v.order 0)||(geI v.order (lenI c.orders)))
noncomputable def QaG (s0:List Qaa) (c:Qac) (v:Int):Option ((Int)⊕((Unit)⊕(Int))):=br (ltI v (lenI s0)) (bnd (getI s0 v) fun x0=>bnd (QjO x0 c) fun r=>br r (some (.inr (.inr v))) (some (.inl (addK .i64 v 1)))) (some (.inr (.inl ())))
noncomputable def Qa6 (s0:List Qaa) (c:Qac):Option Int:=bnd (loopF (fun s=>QaG s0 c s) 0) (fun e=>sel e (fun (_:Unit)=>some (-1)) (fun r1=>some r1))
noncomputable def Qa2 (s0:List Qaa) (c:Qac):Option Bool:=bnd (Qa6 s0 c) fun r=>some (geI r 0)
noncomputable def QjP (v:Qaa) (c:Qac):Option Bool:=bnd (getI c.orders v.order) fun x0=>some x0.off
noncomputable def QaH (s0:List Qaa) (c:Qac) (v:Int):Option ((Int)⊕((Unit)⊕(Int))):=br (ltI v (lenI s0)) (bnd (getI s0 v) fun x0=>bnd (QjP x0 c) fun r=>br r (some (.inr (.inr v))) (some (.inl (addK .i64 v 1)))) (some (.inr (.inl ())))
noncomputable def Qa7 (s0:List Qaa) (c:Qac):Option Int:=bnd (loopF (fun s=>QaH s0 c s) 0) (fun e=>sel e (fun (_:Unit)=>some (-1)) (fun r1=>some r1))
noncomputable def Qa3 (s0:List Qaa) (c:Qac):Option Bool:=bnd (Qa7 s0 c) fun r=>some (geI r 0)
noncomputable def Qdl (x0:Qac) (r:Qad) (v:Int):Option ((Int)⊕((Unit)⊕(Int))):=br (ltI v (lenI x0.apart)) (bnd (getI x0.apart v) fun x1=>bnd (QhX r.visits x1.x0) fun r5=>br r5 (bnd (QhX r.visits x1.x1) fun r6=>br r6 (some (.inr (.inr 20))) (some (.inl (addK .i64 v 1)))) (some (.inl (addK .i64 v 1)))) (some (.inr (.inl ())))
noncomputable def QcR (x0:Qac) (r:Qad) (v1:Int):Option ((Int)⊕((Unit)⊕(Int))):=br (ltI v1 (lenI x0.before)) (bnd (getI x0.before v1) fun x2=>bnd (QiH r.visits x2.x0 x2.x1) fun r7=>br r7 (some (.inl (addK .i64 v1 1))) (some (.inr (.inr 21)))) (some (.inr (.inl ())))
noncomputable def Qie (x0:Qac) (r:Qad):Option Int:=br (eqI (lenI r.visits) 0) (some 2) (bnd (Qa2 r.visits x0) fun r1=>br r1 (some 2) (bnd (Qa3 r.visits x0) fun r2=>br r2 (some 9) (bnd (QjS r.visits) fun r3=>br r3 (some 6) (bnd (QiI x0 r.visits) fun r4=>br r4 (bnd (loopF (fun s=>Qdl x0 r s) 0) (fun e=>sel e (fun (_:Unit)=>bnd (loopF (fun s=>QcR x0 r s) 0) (fun e=>sel e (fun (_:Unit)=>some 0) (fun r8=>some r8))) (fun r9=>some r9))) (some 19)))))
noncomputable def QmX (t:Qai) (skills:Int):Option Bool:=some (((geI t.skills 0)&&(geI skills 0))&&(eqI (QrX .i64 skills t.skills) 0))
noncomputable def Qf1 (x0:Qac) (r:Qad) (v:Int):Option ((Int)⊕((Unit)⊕(Int))):=br (ltI v (lenI r.visits)) (bnd (getI r.visits v) fun x1=>bnd (getI x0.types r.type_) fun x2=>bnd (getI x0.orders x1.order) fun x3=>bnd (QmX x2 x3.skills) fun r1=>br r1 (some (.inl (addK .i64 v 1))) (some (.inr (.inr 18)))) (some (.inr (.inl ())))
noncomputable def Qrd (x0:Qac) (r:Qad):Option Int:=bnd (loopF (fun s=>Qf1 x0 r s) 0) (fun e=>sel e (fun (_:Unit)=>some 0) (fun r2=>some r2))
noncomputable def Qku (set_:Int) (i:Int):Option Bool:=br ((geI i 0)&&(leI i 62)) (chk ((0:Int)≤i) (some (eqI (andK .i64 (shrK .i64 set_ i) 1) 1))) (some false)
noncomputable def QdA (set_:Int) (l:List Int) (v:Int):Option ((List Int×Int)⊕(List Int)):=br (ltI v 63) (bnd (Qku set_ v) fun r=>br r (chk (okN (l++[v]).length 8) (some (.inl ((l++[v]),(addK .i64 v 1))))) (some (.inl (l,(addK .i64 v 1))))) (some (.inr l))
noncomputable def Qi0 (set_:Int):Option (List Int):=bnd (loopF (fun s=>QdA set_ s.1 s.2) ([],0)) (fun l1=>some l1)
noncomputable def QsO (a:Int) (b:Int):Option Int:=some (addK .i64 a b)
noncomputable def Qb3 (a:List Int) (b:List Int) (l:List Int) (l1:List Int) (v:Int):Option ((List Int×Int)⊕(List Int)):=br (ltI v (lenI a)) (bnd (getI a v) fun x0=>bnd (getI b v) fun x1=>bnd (QsO x0 x1) fun r=>bnd (getI l1 v) fun x2=>some (.inl ((setI l1 v r),(addK .i64 v 1)))) (some (.inr l1))
noncomputable def Qh2 (a:List Int) (b:List Int):Option (List Int×Int):=br (neI (lenI a) (lenI b)) (some ([],2)) (bnd (mkI (lenI a) (lenI a) 8 0) fun l=>bnd (loopF (fun s=>Qb3 a b l s.1 s.2) (l,0)) (fun l2=>some (l2,0)))
noncomputable def Qrv (a:List Int) (b:List Int):Option (List Int×Int):=bnd (Qh2 a b) fun r=>some (r.1,r.2)
noncomputable def Qeh (x0:Qac) (l:List Int) (r:List Int) (sum:List Int) (v:Int):Option ((List Int×Int)⊕(List Int)):=br (ltI v (lenI r)) (bnd (getI r v) fun x1=>bnd (getI x0.orders x1) fun x2=>br (ltI x2.pick.place 0) (bnd (Qrv sum x2.load) fun r1=>some (.inl (r1.1,(addK .i64 v 1)))) (some (.inl (sum,(addK .i64 v 1))))) (some (.inr sum))
noncomputable def QoD (x0:Qac) (set_:Int) (dims:Int):Option (List Int):=bnd (mkI dims dims 8 0) fun l=>bnd (Qi0 set_) fun r=>bnd (loopF (fun s=>Qeh x0 l r s.1 s.2) (l,0)) (fun sum1=>some sum1)
noncomputable def QqB (l:List Qai):Option Int:=br (eqI (lenI l) 0) (some 0) (bnd (getI l 0) fun x0=>some (lenI x0.cap))
noncomputable def Qrw (a:Int) (b:Int):Option Int:=some (subK .i64 a b)
noncomputable def QbO (a:List Int) (b:List Int) (l:List Int) (l1:List Int) (v:Int):Option ((List Int×Int)⊕(List Int)):=br (ltI v (lenI a)) (bnd (getI a v) fun x0=>bnd (getI b v) fun x1=>bnd (Qrw x0 x1) fun r=>bnd (getI l1 v) fun x2=>some (.inl ((setI l1 v r),(addK .i64 v 1)))) (some (.inr l1))
noncomputable def Qhq (a:List Int) (b:List Int):Option (List Int×Int):=br (neI (lenI a) (lenI b)) (some ([],2)) (bnd (mkI (lenI a) (lenI a) 8 0) fun l=>bnd (loopF (fun s=>QbO a b l s.1 s.2) (l,0)) (fun l2=>some (l2,0)))
noncomputable def QsN (a:List Int) (b:List Int):Option (List Int×Int):=bnd (Qhq a b) fun r=>some (r.1,r.2)
noncomputable def Qeg (x0:Qac) (r:Qad) (l:List (List Int)) (now:List Int) (v:Int):Option ((List (List Int)×List Int×Int)⊕((List (List Int))⊕(List (List Int)×Int))):=br (ltI v (lenI r.visits)) (bnd (getI r.visits v) fun x1=>br x1.drop (bnd (getI x0.orders x1.order) fun x2=>bnd (QsN now x2.load) fun r5=>br (neI r5.2 0) (some (.inr (.inr ([],r5.2)))) (chk (okN (l++[r5.1]).length 24) (some (.inl ((l++[r5.1]),r5.1,(addK .i64 v 1)))))) (bnd (getI x0.orders x1.order) fun x3=>bnd (Qrv now x3.load) fun r6=>br (neI r6.2 0) (some (.inr (.inr ([],r6.2)))) (chk (okN (l++[r6.1]).length 24) (some (.inl ((l++[r6.1]),r6.1,(addK .i64 v 1))))))) (some (.inr (.inl l)))
noncomputable def QoC (x0:Qac) (r:Qad):Option (List (List Int)×Int):=bnd (Qie x0 r) fun r1=>br (neI r1 0) (some ([],r1)) (bnd (Qem r) fun r2=>br (neI r2.2 0) (some ([],r2.2)) (bnd (QqB x0.types) fun r3=>bnd (QoD x0 r2.1 r3) fun r4=>bnd (loopF (fun s=>Qeg x0 r s.1 s.2.1 s.2.2) ([r4],r4,0)) (fun e=>sel e (fun l1=>some (l1,0)) (fun r7=>some r7))))
noncomputable def QfK (a:List Int) (capacity:List Int) (v:Int):Option ((Int)⊕((Unit)⊕(Bool))):=br (ltI v (lenI a)) (bnd (getI a v) fun x0=>bnd (getI capacity v) fun x1=>br (gtI x0 x1) (some (.inr (.inr false))) (some (.inl (addK .i64 v 1)))) (some (.inr (.inl ())))
noncomputable def QqF (a:List Int) (capacity:List Int):Option Bool:=br (neI (lenI a) (lenI capacity)) (some false) (bnd (loopF (fun s=>QfK a capacity s) 0) (fun e=>sel e (fun (_:Unit)=>some true) (fun r=>some r)))
noncomputable def Qpw (a:List Int) (c:Qac) (c1:Qad):Option Bool:=bnd (getI c.types c1.type_) fun x0=>bnd (QqF a x0.cap) fun r=>some (!r)
noncomputable def QaN (s0:List (List Int)) (c:Qac) (c1:Qad) (v:Int):Option ((Int)⊕((Unit)⊕(Int))):=br (ltI v (lenI s0)) (bnd (getI s0 v) fun x0=>bnd (Qpw x0 c c1) fun r=>br r (some (.inr (.inr v))) (some (.inl (addK .i64 v 1)))) (some (.inr (.inl ())))
noncomputable def Qbx (s0:List (List Int)) (c:Qac) (c1:Qad):Option Int:=bnd (loopF (fun s=>QaN s0 c c1 s) 0) (fun e=>sel e (fun (_:Unit)=>some (-1)) (fun r1=>some r1))
noncomputable def QbL (s0:List (List Int)) (c:Qac) (c1:Qad):Option Bool:=bnd (Qbx s0 c c1) fun r=>some (geI r 0)
noncomputable def Qqs (x0:Qac) (r:Qad):Option Int:=br ((ltI r.type_ 0)||(geI r.type_ (lenI x0.types))) (some 2) (bnd (QoC x0 r) fun r1=>br (neI r1.2 0) (some r1.2) (bnd (QbL r1.1 x0 r) fun r2=>br r2 (some 17) (some 0)))
noncomputable def Qly (x1:Qau):Option (Qau×Int):=br (ltI x1.place 0) (some ((Qau.mk 0 0 0 0),19)) (some (x1,0))
noncomputable def Qo9 (l:List Qah) (v:Qaa):Option (Qau×Int):=bnd (QmM l v.order) fun r=>br r (bnd (getI l v.order) fun x0=>br v.drop (Qly x0.drop) (Qly x0.pick)) (some ((Qau.mk 0 0 0 0),2))
noncomputable def Qi4 (x0:Qac) (r:Qad) (x1:Qai) (l:List Qau) (v:Int):Option ((List Qau×Int)⊕((List Qau)⊕(Qaz×Bool))):=br (ltI v (lenI r.visits)) (bnd (getI r.visits v) fun x2=>bnd (Qo9 x0.orders x2) fun r1=>br ((neI r1.2 0)||(ltI r1.1.place 0)) (some (.inr (.inr ((Qaz.mk (Qac.mk (Qam.mk [] []) [] [] [] []) (Qai.mk ByteArray.empty 0 0 0 [] 0 0 0 0 0 0 0 0 0) (Qad.mk 0 0 [] []) []),false)))) (chk (okN (l++[r1.1]).length 32) (some (.inl ((l++[r1.1]),(addK .i64 v 1)))))) (some (.inr (.inl l)))
noncomputable def QoJ (x0:Qac) (r:Qad):Option (Qaz×Bool):=br (((((ltI r.type_ 0)||(geI r.type_ (lenI x0.types)))||(ltI r.start 0))||(gtI r.start 4096))||(gtI (lenI r.visits) 20)) (some ((Qaz.mk (Qac.mk (Qam.mk [] []) [] [] [] []) (Qai.mk ByteArray.empty 0 0 0 [] 0 0 0 0 0 0 0 0 0) (Qad.mk 0 0 [] []) []),false)) (bnd (getI x0.types r.type_) fun x1=>bnd (loopF (fun s=>Qi4 x0 r x1 s.1 s.2) ([],0)) (fun e=>sel e (fun l1=>some ((Qaz.mk x0 x1 r l1),true)) (fun r2=>some r2)))
noncomputable def Qdh (p:Qaz):Option Qaf:=some (Qaf.mk (maxI p.t.open_ p.r.start) 0 (Qap.mk false 0 [] 0 0))
noncomputable def Qjj (n:Qam) (i:Int):Option Bool:=some ((geI i 0)&&(ltI i (lenI n.places)))
noncomputable def Qn5 (a:Qas):Option Qi2:=some (Qi2.mk a.from_ a.to_ a.profile)
noncomputable def Qhh (n:Qam) (profile:Int) (from_:Int) (to_:Int) (v:Int):Option ((Int)⊕((Unit)⊕(Qas×Bool))):=br (ltI v (lenI n.arcs)) (bnd (getI n.arcs v) fun x0=>bnd (Qn5 x0) fun r=>br (eqI r.from_ from_&&(eqI r.to_ to_&&(eqI r.profile profile&&true))) (some (.inr (.inr (x0,true)))) (some (.inl (addK .i64 v 1)))) (some (.inr (.inl ())))
noncomputable def Qne (n:Qam) (profile:Int) (from_:Int) (to_:Int):Option (Qas×Bool):=bnd (loopF (fun s=>Qhh n profile from_ to_ s) 0) (fun e=>sel e (fun (_:Unit)=>some ((Qas.mk 0 0 0 0 [] []),false)) (fun r1=>some r1))
noncomputable def QgI (n:Int) (least:Int) (most:Int):Option Bool:=some ((geI n least)&&(leI n most))
noncomputable def Qrk (i:Int):Option ByteArray:=br (ltI i 10) (bnd (slcS Qoh i (addK .i64 i 1)) fun s0=>some (Qoh.extract (i:Int).toNat ((addK .i64 i 1):Int).toNat)) (bnd (slcS Qog (mulK .i64 i 2) (addK .i64 (mulK .i64 i 2) 2)) fun s1=>some (Qog.extract ((mulK .i64 i 2):Int).toNat ((addK .i64 (mulK .i64 i 2) 2):Int).toNat))
noncomputable def Qui (x0:Int):Option Int:=some (shrK .i64 (mulK .i64 x0 78913) 18)
noncomputable def QtV (x2:Int) (n1:Int):Option Int:=br (geI x2 256) (bnd (getS Qoi (cvK .u8 (shrK .u64 x2 8))) fun b=>some (addK .i64 (addK .i64 n1 8) (cvK .i64 (byteI b)))) (bnd (getS Qoi (cvK .u8 x2)) fun b1=>some (addK .i64 n1 (cvK .i64 (byteI b1))))
noncomputable def QtU (x1:Int) (n:Int):Option Int:=br (geI x1 65536) (QtV (shrK .u64 x1 16) (addK .i64 n 16)) (QtV x1 n)
noncomputable def Qz6 (x0:Int):Option Int:=br (geI x0 4294967296) (QtU (shrK .u64 x0 32) 32) (QtU x0 0)
noncomputable def Quj (d:Int):Option Int:=bnd (Qz6 d) fun r=>bnd (Qui r) fun r1=>none
noncomputable def QgZ (i:Int) (u:Int):Option ByteArray:=bnd (Quj u) fun r1=>none
noncomputable def QlT (i:Int) (base:Int):Option ByteArray:=br (eqI base 10) (br ((leI 0 i)&&(ltI i 100)) (bnd (Qrk i) fun r=>some r) (br (ltI i 0) (QgZ i (subK .u64 0 (cvK .u64 i))) (QgZ i (cvK .u64 i)))) (none)
noncomputable def QsA (i:Int):Option ByteArray:=bnd (QlT i 10) fun r=>some r
noncomputable def QmI (i:Int):Option ByteArray:=bnd (QsA i) fun r=>some r
noncomputable def QiL (l:List Qao) (v:Int) (x0:Qao) (r:ByteArray) (l3:List Qab):Option ((List Qab×Int)⊕(List Qab)):=br (gtI v 0) (bnd (getI l (subK .i64 v 1)) fun x1=>br (leI x0.t x1.t) (chk (okN (l3++[(Qab.mk 13 r)]).length 24) (some (.inl ((l3++[(Qab.mk 13 r)]),(addK .i64 v 1))))) (br (ltI x0.a x1.a) (chk (okN (l3++[(Qab.mk 13 r)]).length 24) (some (.inl ((l3++[(Qab.mk 13 r)]),(addK .i64 v 1))))) (some (.inl (l3,(addK .i64 v 1)))))) (some (.inl (l3,(addK .i64 v 1))))
noncomputable def Qeo (l:List Qao) (l2:List Qab) (v:Int):Option ((List Qab×Int)⊕(List Qab)):=br (ltI v (lenI l)) (bnd (getI l v) fun x0=>bnd (QmI v) fun r=>bnd (QgI x0.t 0 4096) fun r1=>br (((!r1)||(ltI x0.a x0.t))||(gtI x0.a (addK .i64 x0.t 4096))) (chk (okN (l2++[(Qab.mk 2 r)]).length 24) (QiL l v x0 r (l2++[(Qab.mk 2 r)]))) (QiL l v x0 r l2)) (some (.inr l2))
noncomputable def QiK (l:List Qao) (l1:List Qab):Option (List Qab):=bnd (loopF (fun s=>Qeo l s.1 s.2) (l1,0)) (fun l4=>some l4)
noncomputable def Qnz (l:List Qao):Option (List Qab):=br ((eqI (lenI l) 0)||(gtI (lenI l) 16)) (chk (okN [(Qab.mk 4 ByteArray.empty)].length 24) (QiK l [(Qab.mk 4 ByteArray.empty)])) (QiK l [])
noncomputable def QnA (l:List Qao):Option Bool:=bnd (Qnz l) fun r=>some (eqI (lenI r) 0)
noncomputable def Qgb (p:Qao) (t:Int):Option Int:=some (subK .i64 p.t t)
noncomputable def QaK (x0:List Qao) (target:Int) (i:Int) (j:Int):Option ((Int×Int)⊕(Int)):=br (ltI i j) (bnd (getI x0 (cvK .i64 (shrK .u64 (cvK .u64 (addK .i64 i j)) 1))) fun x1=>bnd (Qgb x1 target) fun r=>br (ltI r 0) (some (.inl ((addK .i64 (cvK .i64 (shrK .u64 (cvK .u64 (addK .i64 i j)) 1)) 1),j))) (some (.inl (i,(cvK .i64 (shrK .u64 (cvK .u64 (addK .i64 i j)) 1)))))) (some (.inr i))
noncomputable def Qa4 (x0:List Qao) (target:Int):Option (Int×Bool):=bnd (loopF (fun s=>QaK x0 target s.1 s.2) (0,(lenI x0))) (fun i1=>br (ltI i1 (lenI x0)) (bnd (getI x0 i1) fun x2=>bnd (Qgb x2 target) fun r1=>some (i1,(eqI r1 0))) (some (i1,false)))
noncomputable def QlI (l:List Qao) (t:Int):Option Int:=bnd (Qa4 l t) fun r=>br r.2 (bnd (getI l r.1) fun x0=>some x0.a) (br (eqI r.1 0) (bnd (getI l 0) fun x1=>some (subK .i64 (addK .i64 t x1.a) x1.t)) (br (eqI r.1 (lenI l)) (bnd (getI l (subK .i64 r.1 1)) fun x2=>some (subK .i64 (addK .i64 t x2.a) x2.t)) (bnd (getI l (subK .i64 r.1 1)) fun x3=>bnd (getI l r.1) fun x4=>chk (((subK .i64 x4.t x3.t):Int)≠0) (some (addK .i64 x3.a (quoK .i64 (subK .i64 (addK .i64 (mulK .i64 (subK .i64 t x3.t) (subK .i64 x4.a x3.a)) (subK .i64 x4.t x3.t)) 1) (subK .i64 x4.t x3.t)))))))
noncomputable def QlH (l:List Qao) (t:Int):Option Int:=bnd (QgI t 0 1073741824) fun r=>br r (bnd (QnA l) fun r1=>br r1 (bnd (QlI l t) fun r2=>some r2) (some 0)) (some 0)
noncomputable def Qh9 (a:Qas) (t:Int) (out:Int) (v:Int):Option ((Int×Int)⊕(Int)):=br (ltI v (lenI a.slow)) (bnd (getI a.slow v) fun x0=>br (leI x0.t t) (some (.inl ((addK .i64 out x0.a),(addK .i64 v 1)))) (some (.inl (out,(addK .i64 v 1))))) (some (.inr out))
noncomputable def QiG (a:Qas) (t:Int):Option Int:=bnd (QlH a.travel t) fun r=>bnd (loopF (fun s=>Qh9 a t s.1 s.2) (r,0)) (fun out1=>some out1)
noncomputable def Qnf (n:Qam) (profile:Int) (from_:Int) (to_:Int) (t:Int):Option (Int×Int×Int):=bnd (Qjj n from_) fun r=>br r (bnd (Qjj n to_) fun r1=>br r1 (br (eqI from_ to_) (some (t,0,0)) (bnd (Qne n profile from_ to_) fun r2=>br r2.2 (bnd (QiG r2.1 t) fun r3=>some (r3,r2.1.miles,0)) (some (0,0,12)))) (some (0,0,11))) (some (0,0,11))
noncomputable def Qkx (s0:Qau) (arrive:Int):Option (Int×Int):=br (gtI (maxI arrive s0.open_) s0.close) (some (0,14)) (some ((maxI arrive s0.open_),0))
noncomputable def Qgi (p:Qaz) (visits:Int):Option Int:=br (eqI visits 0) (some p.t.from_) (bnd (getI p.stops (subK .i64 visits 1)) fun x0=>some x0.place)
noncomputable def QbB (s0:List Qar):Option (List Qar):=br (List.isEmpty s0) (amb (some []) (chk (okN s0.length 32) (some s0))) (chk (okN s0.length 32) (some s0))
noncomputable def Qfa (p:Qaz) (l:Qaf) (depart:Int) (since:Int) (rest_1:Bool) (depart1:Int) (r2:Int×Int×Int) (l2:List Qar) (ready:Int) (end_:Int):Option (Qaf×Int):=br (gtI (subK .i64 (addK .i64 since r2.1) depart) p.t.drive) (some ((Qaf.mk 0 0 (Qap.mk false 0 [] 0 0)),16)) (some ((Qaf.mk ready (subK .i64 (addK .i64 since r2.1) depart) (Qap.mk rest_1 depart1 l2 end_ (addK .i64 l.sheet.miles r2.2.1))),0))
noncomputable def Qd3 (p:Qaz) (l:Qaf) (done:Int) (depart:Int) (since:Int) (l1:List Qar) (rest_1:Bool) (depart1:Int) (to_:Int):Option (Qaf×Int):=bnd (Qgi p done) fun r1=>bnd (Qnf p.x.net p.t.profile r1 to_ depart) fun r2=>br (neI r2.2.2 0) (some ((Qaf.mk 0 0 (Qap.mk false 0 [] 0 0)),12)) (br (eqI done (lenI p.stops)) (br (gtI r2.1 p.t.close) (some ((Qaf.mk 0 0 (Qap.mk false 0 [] 0 0)),15)) (Qfa p l depart since rest_1 depart1 r2 l1 r2.1 r2.1)) (bnd (getI p.stops done) fun x2=>bnd (Qkx x2 r2.1) fun r3=>br (neI r3.2 0) (some ((Qaf.mk 0 0 (Qap.mk false 0 [] 0 0)),14)) (chk (okN (l1++[(Qar.mk r2.1 r3.1 0 false)]).length 32) (Qfa p l depart since rest_1 depart1 r2 (l1++[(Qar.mk r2.1 r3.1 0 false)]) (addK .i64 r3.1 x2.service) l.sheet.end_))))
noncomputable def Qe9 (p:Qaz) (l:Qaf) (done:Int) (depart:Int) (since:Int) (l1:List Qar) (rest_1:Bool) (depart1:Int):Option (Qaf×Int):=br (eqI done (lenI p.stops)) (Qd3 p l done depart since l1 rest_1 depart1 p.t.to_) (bnd (getI p.stops done) fun x1=>Qd3 p l done depart since l1 rest_1 depart1 x1.place)
noncomputable def Qe8 (p:Qaz) (l:Qaf) (done:Int) (rest_:Bool) (depart:Int) (since:Int):Option (Qaf×Int):=bnd (QbB l.sheet.times) fun r=>br (eqI done 0) (Qe9 p l done depart since r rest_ depart) (bnd (getI r (subK .i64 done 1)) fun x0=>Qe9 p l done depart since (setI (setI r (subK .i64 done 1) (Qar.mk x0.arrive x0.begin x0.depart rest_)) (subK .i64 done 1) (Qar.mk x0.arrive x0.begin depart rest_)) l.sheet.rest_ l.sheet.depart)
noncomputable def Qe3 (p:Qaz) (l:Qaf) (done:Int) (rest_:Bool):Option (Qaf×Int):=br rest_ (Qe8 p l done rest_ (addK .i64 l.ready p.t.rest_) 0) (Qe8 p l done rest_ l.ready l.since)
noncomputable def QlK (l:Qaf) (m:Qaf):Option Bool:=some ((eqI l.ready m.ready)&&(leI l.since m.since))
noncomputable def Qg2 (m:Qaf) (c:Qaf):Option Bool:=bnd (QlK m c) fun r=>some r
noncomputable def Qay (s0:List Qaf) (c:Qaf) (v:Int):Option ((Int)⊕((Unit)⊕(Int))):=br (ltI v (lenI s0)) (bnd (getI s0 v) fun x0=>bnd (Qg2 x0 c) fun r=>br r (some (.inr (.inr v))) (some (.inl (addK .i64 v 1)))) (some (.inr (.inl ())))
noncomputable def Qbe (s0:List Qaf) (c:Qaf):Option Int:=bnd (loopF (fun s=>Qay s0 c s) 0) (fun e=>sel e (fun (_:Unit)=>some (-1)) (fun r1=>some r1))
noncomputable def QaS (s0:List Qaf) (c:Qaf):Option Bool:=bnd (Qbe s0 c) fun r=>some (geI r 0)
noncomputable def Qct (p:Qaz) (l:List Qaf) (done:Int) (choices:List Bool) (v:Int) (x0:Qaf) (l3:List Qaf) (v1:Int):Option ((List Qaf×Int)⊕(List Qaf)):=br (ltI v1 (lenI choices)) (bnd (getI choices v1) fun x1=>bnd (Qe3 p x0 done x1) fun r=>br (eqI r.2 0) (bnd (QaS l3 r.1) fun r1=>br r1 (some (.inl (l3,(addK .i64 v1 1)))) (chk (okN (l3++[r.1]).length 72) (some (.inl ((l3++[r.1]),(addK .i64 v1 1)))))) (some (.inl (l3,(addK .i64 v1 1))))) (some (.inr l3))
noncomputable def Qcs (p:Qaz) (l:List Qaf) (done:Int) (choices:List Bool) (l2:List Qaf) (v:Int):Option ((List Qaf×Int)⊕(List Qaf)):=br (ltI v (lenI l)) (bnd (getI l v) fun x0=>bnd (loopF (fun s=>Qct p l done choices v x0 s.1 s.2) (l2,0)) (fun l4=>some (.inl (l4,(addK .i64 v 1))))) (some (.inr l2))
noncomputable def Qe7 (p:Qaz) (l:List Qaf) (done:Int) (choices:List Bool):Option (List Qaf):=bnd (loopF (fun s=>Qcs p l done choices s.1 s.2) ([],0)) (fun l5=>some l5)
noncomputable def Qf3 (p:Qaz) (l:List Qaf) (done:Int):Option (List Qaf):=br (ltI done (lenI p.r.rests)) (bnd (slcI p.r.rests done (addK .i64 done 1)) fun l1=>Qe7 p l done l1) (Qe7 p l done [false,true])
noncomputable def QfF (p:Qaz) (rests:List Bool) (r:Qaf) (rest_:Int) (x0:Qaf) (v:Int):Option ((Int×Qaf×Int)⊕((Qaf)⊕(Qap×Int))):=br (ltI v (lenI rests)) (bnd (getI rests v) fun x1=>bnd (Qe3 (Qaz.mk p.x (Qai.mk p.t.name p.t.count p.t.from_ p.t.to_ p.t.cap p.t.skills p.t.profile p.t.open_ p.t.close p.t.drive rest_ p.t.fixed p.t.perMile p.t.perTick) p.r p.stops) x0 v x1) fun r1=>br (neI r1.2 0) (some (.inr (.inr ((Qap.mk false 0 [] 0 0),r1.2)))) (some (.inl (rest_,r1.1,(addK .i64 v 1))))) (some (.inr (.inl x0)))
noncomputable def QgK (p:Qaz) (rests:List Bool):Option (Qap×Int):=bnd (Qdh p) fun r=>bnd (loopF (fun s=>QfF p rests r s.1 s.2.1 s.2.2) (p.t.rest_,r,0)) (fun e=>sel e (fun x2=>some (x2.sheet,0)) (fun r2=>some r2))
noncomputable def Qer (r:Qad) (r1:Qaz×Bool) (l:List Qaf) (v:Int):Option ((List Qaf×Int)⊕(List Qaf)):=br (ltI v (addK .i64 (lenI r.visits) 1)) (bnd (Qf3 r1.1 l v) fun r3=>some (.inl (r3,(addK .i64 v 1)))) (some (.inr l))
noncomputable def QdN (l3:List Qaf) (x2:Qaf) (v1:Int):Option ((Qaf×Int)⊕(Qaf)):=br (ltI v1 (lenI l3)) (bnd (getI l3 v1) fun x3=>br (ltI x3.sheet.end_ x2.sheet.end_) (some (.inl (x3,(addK .i64 v1 1)))) (some (.inl (x2,(addK .i64 v1 1))))) (some (.inr x2))
noncomputable def QoI (x0:Qac) (r:Qad):Option (Qap×Int):=bnd (QoJ x0 r) fun r1=>br ((!r1.2)||(gtI (lenI r.rests) (addK .i64 (lenI r.visits) 1))) (some ((Qap.mk false 0 [] 0 0),2)) (bnd (Qdh r1.1) fun r2=>bnd (loopF (fun s=>Qer r r1 s.1 s.2) ([r2],0)) (fun l1=>br (eqI (lenI l1) 0) (bnd (mkI (addK .i64 (lenI r.visits) 1) (addK .i64 (lenI r.visits) 1) 1 false) fun l2=>bnd (QgK r1.1 (cpyL l2 r.rests)) fun r4=>some (r4.1,r4.2)) (bnd (getI l1 0) fun x1=>bnd (slcI l1 1 (lenI l1)) fun l3=>bnd (loopF (fun s=>QdN l3 s.1 s.2) (x1,0)) (fun x4=>some (x4.sheet,0)))))
noncomputable def QlD (kind:Int) (own:Int):Option Bool:=some ((neI kind (-1))&&(neI kind own))
noncomputable def QjM (x0:Qac) (r:Qad) (s0:Qap) (x1:Qai) (l:List (Int×Int)) (other:Int) (v:Int) (x2:Qaa) (x3:Qah) (moved1:Int):Option ((List (Int×Int)×Int×Int×Int)⊕(Int×Int)):=bnd (QlD x3.last_ r.type_) fun r2=>br r2 (some (.inl ((mPut eqI l x2.order (addK .i64 (mGet eqI l x2.order 0) 1)),moved1,(addK .i64 other 1),(addK .i64 v 1)))) (some (.inl ((mPut eqI l x2.order (addK .i64 (mGet eqI l x2.order 0) 1)),moved1,other,(addK .i64 v 1))))
noncomputable def Qel (x0:Qac) (r:Qad) (s0:Qap) (x1:Qai) (l:List (Int×Int)) (moved:Int) (other:Int) (v:Int):Option ((List (Int×Int)×Int×Int×Int)⊕(Int×Int)):=br (ltI v (lenI r.visits)) (bnd (getI r.visits v) fun x2=>br ((ltI x2.order 0)||(geI x2.order (lenI x0.orders))) (some (.inl ((mPut eqI l x2.order (addK .i64 (mGet eqI l x2.order 0) 1)),moved,other,(addK .i64 v 1)))) (br (gtI (mGet eqI (mPut eqI l x2.order (addK .i64 (mGet eqI l x2.order 0) 1)) x2.order 0) 1) (some (.inl ((mPut eqI l x2.order (addK .i64 (mGet eqI l x2.order 0) 1)),moved,other,(addK .i64 v 1)))) (bnd (getI x0.orders x2.order) fun x3=>bnd (QlD x3.now r.type_) fun r1=>br r1 (QjM x0 r s0 x1 l other v x2 x3 (addK .i64 moved 1)) (QjM x0 r s0 x1 l other v x2 x3 moved)))) (some (.inr (moved,other)))
noncomputable def Qpd (x0:Qac) (r:Qad) (s0:Qap):Option QaE:=br ((ltI r.type_ 0)||(geI r.type_ (lenI x0.types))) (some (QaE.mk 0 0 0 0)) (bnd (getI x0.types r.type_) fun x1=>bnd (loopF (fun s=>Qel x0 r s0 x1 s.1 s.2.1 s.2.2.1 s.2.2.2) ([],0,0,0)) (fun e0=>(fun moved2 other1=>some (QaE.mk (addK .i64 (addK .i64 x1.fixed (mulK .i64 x1.perMile s0.miles)) (mulK .i64 x1.perTick (subK .i64 s0.end_ x1.open_))) moved2 other1 (mulK .i64 (quoK .i64 (subK .i64 s0.end_ x1.open_) 64) (quoK .i64 (subK .i64 s0.end_ x1.open_) 64)))) e0.1 e0.2))
noncomputable def Qf0 (x0:Qac) (r:Qad):Option (Qap×QaE×Int):=br ((ltI r.type_ 0)||(geI r.type_ (lenI x0.types))) (some ((Qap.mk false 0 [] 0 0),(QaE.mk 0 0 0 0),2)) (bnd (Qie x0 r) fun r1=>br (neI r1 0) (some ((Qap.mk false 0 [] 0 0),(QaE.mk 0 0 0 0),r1)) (bnd (Qrd x0 r) fun r2=>br (neI r2 0) (some ((Qap.mk false 0 [] 0 0),(QaE.mk 0 0 0 0),r2)) (bnd (Qqs x0 r) fun r3=>br (neI r3 0) (some ((Qap.mk false 0 [] 0 0),(QaE.mk 0 0 0 0),r3)) (bnd (QoI x0 r) fun r4=>br (neI r4.2 0) (some ((Qap.mk false 0 [] 0 0),(QaE.mk 0 0 0 0),r4.2)) (bnd (Qpd x0 r r4.1) fun r5=>some (r4.1,r5,0))))))
noncomputable def Qpe (s0:QaE):Option Qzk:=some (Qzk.mk s0.cost s0.moved s0.other s0.work)
noncomputable def QiZ (s0:QaE):Option (Int×Int):=bnd (Qpe s0) fun r=>br (ltI r.x0 0) (some (0,2)) (br (ltI r.x1 0) (some (0,2)) (br (ltI r.x2 0) (some (0,2)) (br (ltI r.x3 0) (some (0,2)) (br ((((gtI s0.cost 1073741824)||(geI s0.moved 16))||(geI s0.other 16))||(geI s0.work 65536)) (some (0,4)) (some ((addK .i64 (mulK .i64 (addK .i64 (mulK .i64 (addK .i64 (mulK .i64 s0.cost 16) s0.moved) 16) s0.other) 65536) s0.work),0))))))
noncomputable def Qfj (x0:Qac) (r:Qad):Option (Int×Int):=bnd (Qf0 x0 r) fun r1=>br (neI r1.2.2 0) (some (0,r1.2.2)) (bnd (QiZ r1.2.1) fun r2=>some (r2.1,r2.2))
noncomputable def Qfl (v:Qaa):Option Int:=br v.drop (some 1) (some 0)
noncomputable def Qei (vals:List Int) (v:Int):Option ((Int)⊕((Unit)⊕(Int))):=br (ltI v (lenI vals)) (bnd (getI vals v) fun x0=>br (neI x0 0) (some (.inr (.inr x0))) (some (.inl (addK .i64 v 1)))) (some (.inr (.inl ())))
noncomputable def QoE (vals:List Int):Option Int:=bnd (loopF (fun s=>Qei vals s) 0) (fun e=>sel e (fun (_:Unit)=>some 0) (fun r=>some r))
noncomputable def Qjo (x0:Int):Option Bool:=some (neI x0 x0)
noncomputable def Qgg (x0:Int) (y:Int):Option Int:=bnd (Qjo x0) fun r=>bnd (Qjo y) fun r1=>br r (br r1 (some 0) (some (-1))) (br r1 (some 1) (br (ltI x0 y) (some (-1)) (br (gtI x0 y) (some 1) (some 0))))
noncomputable def QhW (a:Qaa) (b:Qaa):Option Int:=bnd (Qgg a.order b.order) fun r=>bnd (Qfl a) fun r1=>bnd (Qfl b) fun r2=>bnd (Qgg r1 r2) fun r3=>bnd (QoE [r,r3]) fun r4=>some r4
noncomputable def Qav (s1:List Qaa) (s2:List Qaa) (v:Int):Option ((Int)⊕((Unit)⊕(Int))):=br (ltI v (lenI s1)) (bnd (getI s1 v) fun x0=>br (geI v (lenI s2)) (some (.inr (.inr 1))) (bnd (getI s2 v) fun x1=>bnd (QhW x0 x1) fun r=>br (neI r 0) (some (.inr (.inr r))) (some (.inl (addK .i64 v 1))))) (some (.inr (.inl ())))
noncomputable def QaU (s1:List Qaa) (s2:List Qaa):Option Int:=bnd (loopF (fun s=>Qav s1 s2 s) 0) (fun e=>sel e (fun (_:Unit)=>br (ltI (lenI s1) (lenI s2)) (some (-1)) (some 0)) (fun r1=>some r1))
noncomputable def QlF (a:List Qaa) (b:List Qaa):Option Bool:=bnd (QaU a b) fun r=>some (ltI r 0)
noncomputable def Qh1 (a:Qag) (b:Qag):Option Bool:=br (neI a.price b.price) (some (ltI a.price b.price)) (bnd (QlF a.route.visits b.route.visits) fun r=>some r)
noncomputable def QfI (f:Qat) (l:List Qaa):Option Qat:=bnd (Qem (Qad.mk f.begin.type_ f.begin.start f.begin.rests l)) fun r=>br ((neI r.2 0)||(neI r.1 f.set_)) (some f) (bnd (Qfj f.x (Qad.mk f.begin.type_ f.begin.start f.begin.rests l)) fun r1=>br (neI r1.2 0) (some f) (br f.found (bnd (Qh1 (Qag.mk f.begin.type_ f.set_ r1.1 (Qad.mk f.begin.type_ f.begin.start f.begin.rests l)) f.best) fun r2=>br r2 (some (Qat.mk f.x f.begin f.set_ true (Qag.mk f.begin.type_ f.set_ r1.1 (Qad.mk f.begin.type_ f.begin.start f.begin.rests l)))) (some f)) (some (Qat.mk f.x f.begin f.set_ true (Qag.mk f.begin.type_ f.set_ r1.1 (Qad.mk f.begin.type_ f.begin.start f.begin.rests l))))))
noncomputable def QcT (x0:Qac) (l:List Qaa) (v:Qaa) (r1:List Qaa) (v1:Int):Option ((Int)⊕((Unit)⊕(Bool))):=br (ltI v1 (lenI r1)) (bnd (getI r1 v1) fun x1=>br (eqI x1.order v.order&&(eqB x1.drop v.drop&&true)) (some (.inr (.inl ()))) (bnd (Qen l x1) fun r2=>br (ltI r2 0) (some (.inr (.inr false))) (some (.inl (addK .i64 v1 1))))) (some (.inr (.inl ())))
noncomputable def Qdm (x0:Qac) (l:List Qaa) (v:Qaa) (v2:Int) (r3:List Qaa) (v3:Int):Option ((Int)⊕((Unit)⊕(Bool))):=br (ltI v3 (lenI r3)) (bnd (getI r3 v3) fun x3=>bnd (Qen l x3) fun r4=>br (ltI r4 0) (some (.inr (.inr false))) (some (.inl (addK .i64 v3 1)))) (some (.inr (.inl ())))
noncomputable def QcU (x0:Qac) (l:List Qaa) (v:Qaa) (v2:Int):Option ((Int)⊕((Unit)⊕(Bool))):=br (ltI v2 (lenI x0.before)) (bnd (getI x0.before v2) fun x2=>br (neI x2.x1 v.order) (some (.inl (addK .i64 v2 1))) (bnd (QgW x0.orders x2.x0) fun r3=>bnd (loopF (fun s=>Qdm x0 l v v2 r3 s) 0) (fun e=>sel e (fun (_:Unit)=>some (.inl (addK .i64 v2 1))) (fun r5=>some (.inr (.inr r5)))))) (some (.inr (.inl ())))
noncomputable def QjR (x0:Qac) (l:List Qaa) (v:Qaa):Option Bool:=bnd (Qen l v) fun r=>br (geI r 0) (some false) (bnd (QgW x0.orders v.order) fun r1=>bnd (loopF (fun s=>QcT x0 l v r1 s) 0) (fun e=>sel e (fun (_:Unit)=>bnd (loopF (fun s=>QcU x0 l v s) 0) (fun e=>sel e (fun (_:Unit)=>some true) (fun r6=>some r6))) (fun r7=>some r7)))
noncomputable def QdG (x0:Qac) (set_:Int) (l:List Qaa) (v:Int) (r:List Qaa) (l2:List Qaa) (v1:Int):Option ((List Qaa×Int)⊕(List Qaa)):=br (ltI v1 (lenI r)) (bnd (getI r v1) fun x2=>bnd (QjR x0 l x2) fun r1=>br r1 (chk (okN (l2++[x2]).length 16) (some (.inl ((l2++[x2]),(addK .i64 v1 1))))) (some (.inl (l2,(addK .i64 v1 1))))) (some (.inr l2))
noncomputable def Qdk (x0:Qac) (set_:Int) (l:List Qaa) (l1:List Qaa) (v:Int):Option ((List Qaa×Int)⊕(List Qaa)):=br (ltI v (lenI x0.orders)) (bnd (getI x0.orders v) fun x1=>br (gtI v 62) (some (.inl (l1,(addK .i64 v 1)))) (chk ((0:Int)≤v) (br ((eqI (andK .i64 (shrK .i64 set_ v) 1) 0)||x1.off) (some (.inl (l1,(addK .i64 v 1)))) (bnd (QgW x0.orders v) fun r=>bnd (loopF (fun s=>QdG x0 set_ l v r s.1 s.2) (l1,0)) (fun l3=>some (.inl (l3,(addK .i64 v 1)))))))) (some (.inr l1))
noncomputable def Qjl (x0:Qac) (set_:Int) (l:List Qaa):Option (List Qaa):=bnd (loopF (fun s=>Qdk x0 set_ l s.1 s.2) ([],0)) (fun l4=>some l4)
noncomputable def Qbs (s0:List Qaa):Option (List Qaa):=br (List.isEmpty s0) (amb (some []) (chk (okN s0.length 16) (some s0))) (chk (okN s0.length 16) (some s0))
noncomputable def QdM (self:Qat→(List Qaa)→Option Qat) (l:List Qaa) (r:List Qaa) (x0:Qat) (v:Int):Option ((Qat×Int)⊕(Qat)):=br (ltI v (lenI r)) (bnd (getI r v) fun x1=>bnd (Qbs l) fun r2=>chk (okN (r2++[x1]).length 16) (bnd (self x0 (r2++[x1])) fun r3=>some (.inl (r3,(addK .i64 v 1))))) (some (.inr x0))
noncomputable def Qfv (self:Qat→(List Qaa)→Option Qat) (f:Qat) (l:List Qaa):Option Qat:=bnd (Qjl f.x f.set_ l) fun r=>br (eqI (lenI r) 0) (bnd (QfI f l) fun r1=>some r1) (bnd (loopF (fun s=>QdM self l r s.1 s.2) (f,0)) (fun x2=>some x2))
noncomputable def Qdp:Nat→Qat→(List Qaa)→Option Qat|0=>fun _ _=>none|n+1=>fun f l=>Qfv (Qdp n) f l
noncomputable def Qpb (f:Qat) (l:List Qaa):Option Qat:=Qdp QnP f l
noncomputable def QfZ (x1:Qat):Option (Qag×Int):=br x1.found (some (x1.best,0)) (some ((Qag.mk 0 0 0 (Qad.mk 0 0 [] [])),24))
noncomputable def Qib (x0:Qac) (begin:Qad) (set_:Int):Option (Qag×Int):=br ((ltI begin.type_ 0)||(geI begin.type_ (lenI x0.types))) (some ((Qag.mk 0 0 0 (Qad.mk 0 0 [] [])),2)) (bnd (Qn9 x0 set_) fun r=>br r (bnd (Qem begin) fun r1=>br ((neI r1.2 0)||(neI (QrX .i64 r1.1 set_) 0)) (QfZ (Qat.mk x0 begin set_ false (Qag.mk 0 0 0 (Qad.mk 0 0 [] [])))) (bnd (QkC begin) fun r2=>br r2 (bnd (QfI (Qat.mk x0 begin set_ false (Qag.mk 0 0 0 (Qad.mk 0 0 [] []))) begin.visits) fun r3=>QfZ r3) (bnd (Qpb (Qat.mk x0 begin set_ false (Qag.mk 0 0 0 (Qad.mk 0 0 [] []))) begin.visits) fun r4=>QfZ r4))) (some ((Qag.mk 0 0 0 (Qad.mk 0 0 [] [])),2)))
noncomputable def Qn8 (x0:Qac) (begin:Qad) (need:Int) (without:Int) (l:List Qag) (set_:Int):Option ((List Qag×Int)⊕(List Qag)):=chk ((0:Int)≤(lenI x0.orders)) (br (ltI set_ (shlK .i64 1 (lenI x0.orders))) (br ((neI (andK .i64 set_ need) need)||(neI (andK .i64 set_ without) 0)) (some (.inl (l,(addK .i64 set_ 1)))) (bnd (Qib x0 begin set_) fun r=>br (eqI r.2 0) (chk (okN (l++[r.1]).length 88) (some (.inl ((l++[r.1]),(addK .i64 set_ 1))))) (some (.inl (l,(addK .i64 set_ 1)))))) (some (.inr l)))
noncomputable def Qs1 (x0:Qac) (begin:Qad) (need:Int) (without:Int):Option (List Qag):=bnd (loopF (fun s=>Qn8 x0 begin need without s.1 s.2) ([],1)) (fun l1=>some l1)
noncomputable def Qn6 (x0:Qac) (begins:List Qad) (now:Int) (v:Int):Option ((Int)⊕((Unit)⊕(List Qag×Int))):=br (ltI v (lenI begins)) (bnd (getI begins v) fun x1=>br ((ltI x1.type_ 0)||(geI x1.type_ (lenI x0.types))) (some (.inr (.inr ([],2)))) (some (.inl (addK .i64 v 1)))) (some (.inr (.inl ())))
noncomputable def QlB (x0:Qac) (begins:List Qad) (now:Int) (l:List Qag) (v1:Int):Option ((List Qag×Int)⊕(List Qag)):=br (ltI v1 (lenI begins)) (bnd (getI begins v1) fun x2=>bnd (slcI begins 0 v1) fun l1=>bnd (slcI begins (addK .i64 v1 1) (lenI begins)) fun l2=>bnd (Qdq [l1,l2]) fun r=>bnd (QiU r) fun r1=>bnd (slcI begins v1 (addK .i64 v1 1)) fun l3=>bnd (QiU l3) fun r2=>bnd (Qs1 x0 x2 r2 r1) fun r3=>chk (okN (l++r3).length 88) (some (.inl ((l++r3),(addK .i64 v1 1))))) (some (.inr l))
noncomputable def Qjk (x0:Qac) (now:Int) (r4:Int) (l5:List Qag) (v2:Int):Option ((List Qag×Int)⊕(List Qag)):=br (ltI v2 (lenI x0.types)) (bnd (Qs1 x0 (Qad.mk v2 now [] []) 0 r4) fun r5=>chk (okN (l5++r5).length 88) (some (.inl ((l5++r5),(addK .i64 v2 1))))) (some (.inr l5))
noncomputable def Qu2 (x0:Qac) (begins:List Qad) (now:Int):Option (List Qag×Int):=br ((ltI now 0)||(gtI now 4096)) (some ([],2)) (bnd (loopF (fun s=>Qn6 x0 begins now s) 0) (fun e=>sel e (fun (_:Unit)=>bnd (loopF (fun s=>QlB x0 begins now s.1 s.2) ([],0)) (fun l4=>bnd (QiU begins) fun r4=>bnd (loopF (fun s=>Qjk x0 now r4 s.1 s.2) (l4,0)) (fun l6=>some (l6,0)))) (fun r6=>some r6)))
noncomputable def QlL:Option Qac:=some (Qac.mk (Qam.mk [QBl,QBm] [(Qas.mk 0 1 0 3 [(Qao.mk 0 10)] []),(Qas.mk 1 0 0 3 [(Qao.mk 0 10)] [])]) [(Qai.mk QBo 1 0 0 [1] 0 0 0 100 100 0 0 1 0)] [(Qah.mk QBn [1] (Qau.mk 0 0 90 0) (Qau.mk 1 0 90 0) 0 (-1) 1 (-1) (-1) false)] [] [])
noncomputable def QfL:Option Bool:=bnd (QlL) fun r=>bnd (Qib r (Qad.mk 0 0 [false] [(Qaa.mk 0 false)]) 1) fun r1=>bnd (Qib r (Qad.mk 0 0 [false,false] [(Qaa.mk 0 false)]) 1) fun r2=>bnd (Qib r (Qad.mk 0 0 [] []) 2) fun r3=>bnd (Qu2 r [(Qad.mk 0 0 [false,false,false] [(Qaa.mk 0 false),(Qaa.mk 0 true)])] 7) fun r4=>br ((((((neI r1.2 0)||(neI r2.2 24))||(neI r3.2 2))||(neI r4.2 0))||(neI (lenI r1.1.route.visits) 2))||(neI (lenI r4.1) 1)) (some false) (bnd (getI r1.1.route.visits 1) fun x0=>br ((eqI x0.order 0&&(eqB x0.drop true&&true))&&(eqI r1.1.price 100663296)) (bnd (getI r4.1 0) fun x1=>br (eqI x1.set_ 1) (some (eqI (lenI x1.route.rests) 3)) (some false)) (some false))
noncomputable def Qbz (a:List Qad) (b:List Qad) (i:Int) (k:Int):Option ((Int)⊕((Unit)⊕(Bool))):=bnd (getI a i) fun x2=>br (ltI k (lenI x2.visits)) (bnd (getI x2.visits k) fun x3=>bnd (getI b i) fun x4=>bnd (getI x4.visits k) fun x5=>br (eqI x3.order x5.order&&(eqB x3.drop x5.drop&&true)) (some (.inl (addK .i64 k 1))) (some (.inr (.inr false)))) (some (.inr (.inl ())))
noncomputable def Qbk (a:List Qad) (b:List Qad) (i:Int) (k1:Int):Option ((Int)⊕((Unit)⊕(Bool))):=bnd (getI a i) fun x6=>br (ltI k1 (lenI x6.rests)) (bnd (getI x6.rests k1) fun x7=>bnd (getI b i) fun x8=>bnd (getI x8.rests k1) fun x9=>br (eqB x7 x9) (some (.inl (addK .i64 k1 1))) (some (.inr (.inr false)))) (some (.inr (.inl ())))
noncomputable def Qby (a:List Qad) (b:List Qad) (i:Int):Option ((Int)⊕((Unit)⊕(Bool))):=br (ltI i (lenI a)) (bnd (getI a i) fun x0=>bnd (getI b i) fun x1=>br (neI x0.type_ x1.type_) (some (.inr (.inr false))) (br (neI x0.start x1.start) (some (.inr (.inr false))) (br (neI (lenI x0.visits) (lenI x1.visits)) (some (.inr (.inr false))) (br (neI (lenI x0.rests) (lenI x1.rests)) (some (.inr (.inr false))) (bnd (loopF (fun s=>Qbz a b i s) 0) (fun e=>sel e (fun (_:Unit)=>bnd (loopF (fun s=>Qbk a b i s) 0) (fun e=>sel e (fun (_:Unit)=>some (.inl (addK .i64 i 1))) (fun r=>some (.inr (.inr r))))) (fun r1=>some (.inr (.inr r1))))))))) (some (.inr (.inl ())))
noncomputable def QeV (a:List Qad) (b:List Qad):Option Bool:=br (neI (lenI a) (lenI b)) (some false) (bnd (loopF (fun s=>Qby a b s) 0) (fun e=>sel e (fun (_:Unit)=>some true) (fun r2=>some r2)))
noncomputable def QiF (a:Qag) (b:Qag):Option Bool:=br (((eqI a.type_ b.type_)&&(eqI a.set_ b.set_))&&(eqI a.price b.price)) (bnd (QeV [a.route] [b.route]) fun r=>some r) (some false)
noncomputable def Qb6 (s1:List Qaa) (s2:List Qaa) (v:Int):Option ((Int)⊕((Unit)⊕(Bool))):=br (ltI v (lenI s1)) (bnd (getI s1 v) fun x0=>bnd (getI s2 v) fun x1=>br (eqI x0.order x1.order&&(eqB x0.drop x1.drop&&true)) (some (.inl (addK .i64 v 1))) (some (.inr (.inr false)))) (some (.inr (.inl ())))
noncomputable def Qdv (s1:List Qaa) (s2:List Qaa):Option Bool:=br (neI (lenI s1) (lenI s2)) (some false) (bnd (loopF (fun s=>Qb6 s1 s2 s) 0) (fun e=>sel e (fun (_:Unit)=>some true) (fun r=>some r)))
noncomputable def QdI (s1:List Bool) (s2:List Bool) (v:Int):Option ((Int)⊕((Unit)⊕(Bool))):=br (ltI v (lenI s1)) (bnd (getI s1 v) fun x0=>bnd (getI s2 v) fun x1=>br (eqB x0 x1) (some (.inl (addK .i64 v 1))) (some (.inr (.inr false)))) (some (.inr (.inl ())))
noncomputable def QgA (s1:List Bool) (s2:List Bool):Option Bool:=br (neI (lenI s1) (lenI s2)) (some false) (bnd (loopF (fun s=>QdI s1 s2 s) 0) (fun e=>sel e (fun (_:Unit)=>some true) (fun r=>some r)))
noncomputable def Qej (set_:Int) (i:Int):Option Bool:=br (((geI set_ 0)&&(geI i 0))&&(leI i 62)) (chk ((0:Int)≤(cvK .u64 i)) (some (eqI (remK (shrK .i64 set_ (cvK .u64 i)) 2) 1))) (some false)
noncomputable def Qd7 (r:Qad) (set_:Int) (i:Int):Option ((Int×Int)⊕((Int)⊕(Int×Int))):=br (ltI i (lenI r.visits)) (bnd (getI r.visits i) fun x0=>br ((ltI x0.order 0)||(gtI x0.order 62)) (some (.inr (.inr (0,2)))) (bnd (Qej set_ x0.order) fun r1=>br r1 (some (.inl (set_,(addK .i64 i 1)))) (chk ((0:Int)≤(cvK .u64 x0.order)) (some (.inl ((addK .i64 set_ (shlK .i64 1 (cvK .u64 x0.order))),(addK .i64 i 1))))))) (some (.inr (.inl set_)))
noncomputable def Qb8 (r:Qad):Option (Int×Int):=bnd (loopF (fun s=>Qd7 r s.1 s.2) (0,0)) (fun e=>sel e (fun set_1=>some (set_1,0)) (fun r2=>some r2))
noncomputable def QcC (l:List Qaa) (v:Qaa) (i:Int):Option ((Int)⊕((Unit)⊕(Int))):=br (ltI i (lenI l)) (bnd (getI l i) fun x0=>br (eqI x0.order v.order&&(eqB x0.drop v.drop&&true)) (some (.inr (.inr i))) (some (.inl (addK .i64 i 1)))) (some (.inr (.inl ())))
noncomputable def QcL (l:List Qaa) (v:Qaa):Option Int:=bnd (loopF (fun s=>QcC l v s) 0) (fun e=>sel e (fun (_:Unit)=>some (-1)) (fun r=>some r))
noncomputable def Qd8 (x0:Qac) (order:Int) (l:List Qaa):Option (List Qaa):=bnd (getI x0.orders order) fun x2=>br (neI x2.drop.place (-1)) (chk (okN (l++[(Qaa.mk order true)]).length 16) (some (l++[(Qaa.mk order true)]))) (some l)
noncomputable def Qg7 (x0:Qac) (order:Int):Option (List Qaa):=bnd (getI x0.orders order) fun x1=>br (neI x1.pick.place (-1)) (chk (okN [(Qaa.mk order false)].length 16) (Qd8 x0 order [(Qaa.mk order false)])) (Qd8 x0 order [])
noncomputable def QbT (l:List Qaa) (some_:List Qaa) (i:Int):Option ((Int)⊕((Unit)⊕(Bool))):=br (ltI i (lenI some_)) (bnd (getI some_ i) fun x0=>bnd (QcL l x0) fun r=>br (ltI r 0) (some (.inr (.inr false))) (some (.inl (addK .i64 i 1)))) (some (.inr (.inl ())))
noncomputable def QfU (l:List Qaa) (some_:List Qaa):Option Bool:=bnd (loopF (fun s=>QbT l some_ s) 0) (fun e=>sel e (fun (_:Unit)=>some true) (fun r1=>some r1))
noncomputable def Qco (x0:Qac) (l:List Qaa) (i:Int):Option ((Int)⊕((Unit)⊕(Bool))):=br (ltI i (lenI l)) (bnd (getI l i) fun x1=>bnd (Qg7 x0 x1.order) fun r=>bnd (QcL r x1) fun r1=>br (ltI r1 0) (some (.inr (.inr false))) (bnd (QfU l r) fun r2=>br r2 (br (eqI (lenI r) 2) (bnd (getI r 0) fun x2=>bnd (QcL l x2) fun r3=>bnd (getI r 1) fun x3=>bnd (QcL l x3) fun r4=>br (gtI r3 r4) (some (.inr (.inr false))) (some (.inl (addK .i64 i 1)))) (some (.inl (addK .i64 i 1)))) (some (.inr (.inr false))))) (some (.inr (.inl ())))
noncomputable def QdQ (x0:Qac) (l:List Qaa):Option Bool:=bnd (loopF (fun s=>Qco x0 l s) 0) (fun e=>sel e (fun (_:Unit)=>some true) (fun r5=>some r5))
noncomputable def QcD (x0:Qac) (set_:Int) (i:Int):Option ((Int)⊕((Unit)⊕(Bool))):=br (ltI i (lenI x0.apart)) (bnd (getI x0.apart i) fun x1=>bnd (Qej set_ x1.x0) fun r=>br r (bnd (Qej set_ x1.x1) fun r1=>br r1 (some (.inr (.inr false))) (some (.inl (addK .i64 i 1)))) (some (.inl (addK .i64 i 1)))) (some (.inr (.inl ())))
noncomputable def Qet (x0:Qac) (set_:Int):Option Bool:=bnd (loopF (fun s=>QcD x0 set_ s) 0) (fun e=>sel e (fun (_:Unit)=>some true) (fun r2=>some r2))
noncomputable def Qcn (x0:Qac) (set_:Int) (l:List Qaa) (i:Int) (x1:QaC) (j:Int) (k:Int):Option ((Int)⊕((Unit)⊕(Bool))):=br (ltI k j) (bnd (getI l j) fun x2=>br (eqI x2.order x1.x0) (bnd (getI l k) fun x3=>br (eqI x3.order x1.x1) (some (.inr (.inr false))) (some (.inl (addK .i64 k 1)))) (some (.inl (addK .i64 k 1)))) (some (.inr (.inl ())))
noncomputable def Qcm (x0:Qac) (set_:Int) (l:List Qaa) (i:Int) (x1:QaC) (j:Int):Option ((Int)⊕((Unit)⊕(Bool))):=br (ltI j (lenI l)) (bnd (loopF (fun s=>Qcn x0 set_ l i x1 j s) 0) (fun e=>sel e (fun (_:Unit)=>some (.inl (addK .i64 j 1))) (fun r2=>some (.inr (.inr r2))))) (some (.inr (.inl ())))
noncomputable def Qcl (x0:Qac) (set_:Int) (l:List Qaa) (i:Int):Option ((Int)⊕((Unit)⊕(Bool))):=br (ltI i (lenI x0.before)) (bnd (getI x0.before i) fun x1=>bnd (Qej set_ x1.x1) fun r=>br r (bnd (Qej set_ x1.x0) fun r1=>br r1 (bnd (loopF (fun s=>Qcm x0 set_ l i x1 s) 0) (fun e=>sel e (fun (_:Unit)=>some (.inl (addK .i64 i 1))) (fun r3=>some (.inr (.inr r3))))) (some (.inr (.inr false)))) (some (.inl (addK .i64 i 1)))) (some (.inr (.inl ())))
noncomputable def QdP (x0:Qac) (set_:Int) (l:List Qaa):Option Bool:=bnd (loopF (fun s=>Qcl x0 set_ l s) 0) (fun e=>sel e (fun (_:Unit)=>some true) (fun r4=>some r4))
noncomputable def QcB (x0:Qac) (r:Qad) (i:Int):Option ((Int)⊕((Unit)⊕(Int))):=br (ltI i (lenI r.visits)) (bnd (getI r.visits i) fun x1=>br (ltI x1.order 0) (some (.inr (.inr 2))) (br (geI x1.order (lenI x0.orders)) (some (.inr (.inr 2))) (some (.inl (addK .i64 i 1))))) (some (.inr (.inl ())))
noncomputable def Qcc (x0:Qac) (r:Qad) (r1:Int×Int) (i1:Int):Option ((Int)⊕((Unit)⊕(Int))):=br (ltI i1 (lenI r.visits)) (bnd (getI r.visits i1) fun x2=>bnd (getI x0.orders x2.order) fun x3=>br x3.off (some (.inr (.inr 9))) (some (.inl (addK .i64 i1 1)))) (some (.inr (.inl ())))
noncomputable def QbS (x0:Qac) (r:Qad) (r1:Int×Int) (i2:Int):Option ((Int)⊕((Unit)⊕(Int))):=br (ltI i2 (lenI r.visits)) (bnd (getI r.visits i2) fun x4=>bnd (QcL r.visits x4) fun r2=>br (neI r2 i2) (some (.inr (.inr 6))) (some (.inl (addK .i64 i2 1)))) (some (.inr (.inl ())))
noncomputable def Qgu (x0:Qac) (r:Qad):Option Int:=bnd (loopF (fun s=>QcB x0 r s) 0) (fun e=>sel e (fun (_:Unit)=>bnd (Qb8 r) fun r1=>br ((neI r1.2 0)||(eqI (lenI r.visits) 0)) (some 2) (bnd (loopF (fun s=>Qcc x0 r r1 s) 0) (fun e=>sel e (fun (_:Unit)=>bnd (loopF (fun s=>QbS x0 r r1 s) 0) (fun e=>sel e (fun (_:Unit)=>bnd (QdQ x0 r.visits) fun r3=>br r3 (bnd (Qet x0 r1.1) fun r4=>br r4 (bnd (QdP x0 r1.1 r.visits) fun r5=>br r5 (some 0) (some 21)) (some 20)) (some 19)) (fun r6=>some r6))) (fun r7=>some r7)))) (fun r8=>some r8))
noncomputable def Qdt (t:Qai) (skills:Int) (bit:Int):Option ((Int)⊕((Unit)⊕(Bool))):=br (gtI bit 0) (chk ((bit:Int)≠0) (br (eqI (remK (quoK .i64 skills bit) 2) 1) (chk ((bit:Int)≠0) (br (eqI (remK (quoK .i64 t.skills bit) 2) 0) (some (.inr (.inr false))) (some (.inl (mulK .i64 bit 2))))) (some (.inl (mulK .i64 bit 2))))) (some (.inr (.inl ())))
noncomputable def Qhd (t:Qai) (skills:Int):Option Bool:=br ((ltI t.skills 0)||(ltI skills 0)) (some false) (bnd (loopF (fun s=>Qdt t skills s) 1) (fun e=>sel e (fun (_:Unit)=>some true) (fun r=>some r)))
noncomputable def QcX (l:List (List Int)) (dims:Int) (i:Int):Option ((Int)⊕((Unit)⊕(Bool))):=br (ltI i (lenI l)) (bnd (getI l i) fun x0=>br (neI (lenI x0) dims) (some (.inr (.inr false))) (some (.inl (addK .i64 i 1)))) (some (.inr (.inl ())))
noncomputable def Qiw (l:List (List Int)) (dims:Int):Option Bool:=br ((ltI dims 0)||(gtI dims 3)) (some false) (bnd (loopF (fun s=>QcX l dims s) 0) (fun e=>sel e (fun (_:Unit)=>some true) (fun r=>some r)))
noncomputable def QcQ (l:List (List Int)) (dims:Int) (l1:List Int) (d:Int) (n:Int) (i:Int):Option ((Int×Int)⊕(Int)):=br (ltI i (lenI l)) (bnd (getI l i) fun x0=>bnd (getI x0 d) fun x1=>some (.inl ((addK .i64 n x1),(addK .i64 i 1)))) (some (.inr n))
noncomputable def QcP (l:List (List Int)) (dims:Int) (l1:List Int) (d:Int):Option ((List Int×Int)⊕(List Int)):=br (ltI d dims) (bnd (loopF (fun s=>QcQ l dims l1 d s.1 s.2) (0,0)) (fun n1=>chk (okN (l1++[n1]).length 8) (some (.inl ((l1++[n1]),(addK .i64 d 1)))))) (some (.inr l1))
noncomputable def Qh3 (l:List (List Int)) (dims:Int):Option (List Int×Int):=bnd (Qiw l dims) fun r=>br r (bnd (loopF (fun s=>QcP l dims s.1 s.2) ([],0)) (fun l2=>some (l2,0))) (some ([],2))
noncomputable def Qhf (x0:Qac):Option Int:=br (eqI (lenI x0.types) 0) (some 0) (bnd (getI x0.types 0) fun x1=>some (lenI x1.cap))
noncomputable def Qcf (x0:Qac) (l:List Qaa) (n:Int) (l1:List (List Int)) (i:Int) (on_:Bool) (there:Bool) (k:Int):Option ((Bool×Bool×Int)⊕(Bool×Bool)):=br (ltI k (lenI l)) (bnd (getI l k) fun x2=>br (neI x2.order i) (some (.inl (on_,there,(addK .i64 k 1)))) (br (ltI k n) (some (.inl ((!x2.drop),true,(addK .i64 k 1)))) (some (.inl (on_,true,(addK .i64 k 1)))))) (some (.inr (on_,there)))
noncomputable def Qce (x0:Qac) (l:List Qaa) (n:Int) (l1:List (List Int)) (i:Int):Option ((List (List Int)×Int)⊕(List (List Int))):=br (ltI i (lenI x0.orders)) (bnd (getI x0.orders i) fun x1=>bnd (loopF (fun s=>Qcf x0 l n l1 i s.1 s.2.1 s.2.2) ((ltI x1.pick.place 0),false,0)) (fun e0=>(fun on_1 there1=>br (on_1&&there1) (bnd (getI x0.orders i) fun x3=>chk (okN (l1++[x3.load]).length 24) (some (.inl ((l1++[x3.load]),(addK .i64 i 1))))) (some (.inl (l1,(addK .i64 i 1))))) e0.1 e0.2)) (some (.inr l1))
noncomputable def QhT (x0:Qac) (l:List Qaa) (n:Int):Option (List Int×Int):=bnd (loopF (fun s=>Qce x0 l n s.1 s.2) ([],0)) (fun l2=>bnd (Qhf x0) fun r=>bnd (Qh3 l2 r) fun r1=>some (r1.1,r1.2))
noncomputable def Qcd (x0:Qac) (r:Qad) (l:List (List Int)) (n:Int):Option ((List (List Int)×Int)⊕((List (List Int))⊕(List (List Int)×Int))):=br (leI n (lenI r.visits)) (bnd (QhT x0 r.visits n) fun r2=>br (neI r2.2 0) (some (.inr (.inr ([],r2.2)))) (chk (okN (l++[r2.1]).length 24) (some (.inl ((l++[r2.1]),(addK .i64 n 1)))))) (some (.inr (.inl l)))
noncomputable def QhS (x0:Qac) (r:Qad):Option (List (List Int)×Int):=bnd (Qgu x0 r) fun r1=>br (neI r1 0) (some ([],r1)) (bnd (loopF (fun s=>Qcd x0 r s.1 s.2) ([],0)) (fun e=>sel e (fun l1=>some (l1,0)) (fun r3=>some r3)))
noncomputable def QcW (a:List Int) (capacity:List Int) (i:Int):Option ((Int)⊕((Unit)⊕(Bool))):=br (ltI i (lenI a)) (bnd (getI a i) fun x0=>bnd (getI capacity i) fun x1=>br (gtI x0 x1) (some (.inr (.inr false))) (some (.inl (addK .i64 i 1)))) (some (.inr (.inl ())))
noncomputable def Qiv (a:List Int) (capacity:List Int):Option Bool:=br (neI (lenI a) (lenI capacity)) (some false) (bnd (loopF (fun s=>QcW a capacity s) 0) (fun e=>sel e (fun (_:Unit)=>some true) (fun r=>some r)))
noncomputable def Qc0 (x0:Qac) (r:Qad) (r1:List (List Int)×Int) (i:Int):Option ((Int)⊕((Unit)⊕(Int))):=br (ltI i (lenI r1.1)) (bnd (getI r1.1 i) fun x1=>bnd (getI x0.types r.type_) fun x2=>bnd (Qiv x1 x2.cap) fun r2=>br r2 (some (.inl (addK .i64 i 1))) (some (.inr (.inr 17)))) (some (.inr (.inl ())))
noncomputable def Qhe (x0:Qac) (r:Qad):Option Int:=br ((ltI r.type_ 0)||(geI r.type_ (lenI x0.types))) (some 2) (bnd (QhS x0 r) fun r1=>br (neI r1.2 0) (some r1.2) (bnd (loopF (fun s=>Qc0 x0 r r1 s) 0) (fun e=>sel e (fun (_:Unit)=>some 0) (fun r3=>some r3))))
noncomputable def Qek (x0:Qac) (v:Qaa):Option (Qau×Bool):=br ((ltI v.order 0)||(geI v.order (lenI x0.orders))) (some ((Qau.mk 0 0 0 0),false)) (bnd (getI x0.orders v.order) fun x1=>br v.drop (some (x1.drop,(geI x1.drop.place 0))) (some (x1.pick,(geI x1.pick.place 0))))
noncomputable def QbU (x0:Qac) (r:Qad) (i:Int):Option ((Int)⊕((Unit)⊕(Bool))):=br (ltI i (lenI r.visits)) (bnd (getI r.visits i) fun x1=>bnd (Qek x0 x1) fun r1=>br r1.2 (some (.inl (addK .i64 i 1))) (some (.inr (.inr false)))) (some (.inr (.inl ())))
noncomputable def Qdc (x0:Qac) (r:Qad):Option Bool:=br (((((ltI r.type_ 0)||(geI r.type_ (lenI x0.types)))||(ltI r.start 0))||(gtI r.start 4096))||(gtI (lenI r.visits) 20)) (some false) (bnd (loopF (fun s=>QbU x0 r s) 0) (fun e=>sel e (fun (_:Unit)=>some true) (fun r2=>some r2)))
noncomputable def Qhg (t:Qai) (s0:QaA) (yes:Bool):Option QaA:=br yes (some (QaA.mk s0.place (addK .i64 s0.time t.rest_) 0 s0.miles)) (some s0)
noncomputable def Qgk (n:Qam) (p:Int):Option Bool:=some ((geI p 0)&&(ltI p (lenI n.places)))
noncomputable def Qfd (n:Qam) (profile:Int) (from_:Int) (to_:Int) (i:Int):Option ((Int)⊕((Unit)⊕(Qas×Bool))):=br (ltI i (lenI n.arcs)) (bnd (getI n.arcs i) fun x0=>br (((eqI x0.from_ from_)&&(eqI x0.to_ to_))&&(eqI x0.profile profile)) (some (.inr (.inr (x0,true)))) (some (.inl (addK .i64 i 1)))) (some (.inr (.inl ())))
noncomputable def Qix (n:Qam) (profile:Int) (from_:Int) (to_:Int):Option (Qas×Bool):=bnd (loopF (fun s=>Qfd n profile from_ to_ s) 0) (fun e=>sel e (fun (_:Unit)=>some ((Qas.mk 0 0 0 0 [] []),false)) (fun r=>some r))
noncomputable def Qd5 (l:List Qao) (t:Int) (i:Int):Option ((Int)⊕((Unit)⊕(Int))):=br (ltI (addK .i64 i 1) (lenI l)) (bnd (getI l i) fun x0=>bnd (getI l (addK .i64 i 1)) fun x1=>br ((leI x0.t t)&&(ltI t x1.t)) (chk (((subK .i64 x1.t x0.t):Int)≠0) (some (.inr (.inr (addK .i64 x0.a (quoK .i64 (subK .i64 (subK .i64 (addK .i64 (mulK .i64 (subK .i64 t x0.t) (subK .i64 x1.a x0.a)) x1.t) x0.t) 1) (subK .i64 x1.t x0.t))))))) (some (.inl (addK .i64 i 1)))) (some (.inr (.inl ())))
noncomputable def Qg4 (l:List Qao) (t:Int):Option Int:=bnd (Qfr l) fun r=>br (((gtI (lenI r) 0)||(ltI t 0))||(gtI t 1073741824)) (some 0) (bnd (loopF (fun s=>Qd5 l t s) 0) (fun e=>sel e (fun (_:Unit)=>bnd (getI l 0) fun x2=>br (gtI t x2.t) (bnd (getI l (subK .i64 (lenI l) 1)) fun x3=>some (subK .i64 (addK .i64 t x3.a) x3.t)) (some (subK .i64 (addK .i64 t x2.a) x2.t))) (fun r1=>some r1)))
noncomputable def QgN (a:Qas) (t:Int) (n:Int) (i:Int):Option ((Int×Int)⊕(Int)):=br (ltI i (lenI a.slow)) (bnd (getI a.slow i) fun x0=>br (leI x0.t t) (some (.inl ((addK .i64 n x0.a),(addK .i64 i 1)))) (some (.inl (n,(addK .i64 i 1))))) (some (.inr n))
noncomputable def Qg5 (a:Qas) (t:Int):Option Int:=bnd (Qg4 a.travel t) fun r=>bnd (loopF (fun s=>QgN a t s.1 s.2) (r,0)) (fun n1=>some n1)
noncomputable def Qi7 (n:Qam) (profile:Int) (from_:Int) (to_:Int) (t:Int):Option (Int×Int×Int):=bnd (Qgk n from_) fun r=>br r (bnd (Qgk n to_) fun r1=>br r1 (br (eqI from_ to_) (some (t,0,0)) (bnd (Qix n profile from_ to_) fun r2=>br r2.2 (bnd (Qg5 r2.1 t) fun r3=>some (r3,r2.1.miles,0)) (some (0,0,12)))) (some (0,0,11))) (some (0,0,11))
noncomputable def QmE (x0:Qac) (profile:Int) (from_:Int) (to_:Int) (t:Int):Option (Int×Int×Bool):=bnd (Qi7 x0.net profile from_ to_ t) fun r=>some (r.1,r.2.1,(eqI r.2.2 0))
noncomputable def Qdy (x0:Qac) (t:Qai) (s0:QaA) (to_:Int) (close:Int) (late:Int):Option (QaA×Int):=bnd (QmE x0 t.profile s0.place to_ s0.time) fun r=>br r.2.2 (br (gtI r.1 close) (some (s0,late)) (br (gtI (subK .i64 (addK .i64 s0.driven r.1) s0.time) t.drive) (some (s0,16)) (some ((QaA.mk to_ r.1 (subK .i64 (addK .i64 s0.driven r.1) s0.time) (addK .i64 s0.miles r.2.1)),0)))) (some (s0,12))
noncomputable def QfG (x0:Qac) (r:Qad) (rests:List Bool) (x1:Qai) (x2:Bool) (l:List Int) (l1:List Qar) (x3:QaA) (depart:Int) (i:Int):Option ((List Int×List Qar×QaA×Int×Int)⊕((List Int×List Qar×QaA×Int)⊕(Qap×List Int×Int))):=br (ltI i (lenI r.visits)) (bnd (getI r.visits i) fun x4=>bnd (Qek x0 x4) fun r3=>bnd (Qdy x0 x1 x3 r3.1.place r3.1.close 14) fun r4=>br (neI r4.2 0) (some (.inr (.inr ((Qap.mk false 0 [] 0 0),[],r4.2)))) (chk (okN (l++[r4.1.driven]).length 8) (bnd (getI rests (addK .i64 i 1)) fun x5=>bnd (Qhg x1 (QaA.mk r4.1.place (addK .i64 (maxI r4.1.time r3.1.open_) r3.1.service) r4.1.driven r4.1.miles) x5) fun r5=>chk (okN (l1++[(Qar.mk r4.1.time (maxI r4.1.time r3.1.open_) r5.time x5)]).length 32) (some (.inl ((l++[r4.1.driven]),(l1++[(Qar.mk r4.1.time (maxI r4.1.time r3.1.open_) r5.time x5)]),r5,depart,(addK .i64 i 1))))))) (some (.inr (.inl (l,l1,x3,depart))))
noncomputable def Qh6 (x0:Qac) (r:Qad) (rests:List Bool):Option (Qap×List Int×Int):=bnd (Qdc x0 r) fun r1=>br ((!r1)||(neI (lenI rests) (addK .i64 (lenI r.visits) 1))) (some ((Qap.mk false 0 [] 0 0),[],2)) (bnd (getI x0.types r.type_) fun x1=>bnd (getI rests 0) fun x2=>bnd (Qhg x1 (QaA.mk x1.from_ (maxI x1.open_ r.start) 0 0) x2) fun r2=>bnd (loopF (fun s=>QfG x0 r rests x1 x2 s.1 s.2.1 s.2.2.1 s.2.2.2.1 s.2.2.2.2) ([],[],r2,r2.time,0)) (fun e=>sel e (fun e0=>(fun l2 l3 x6 depart1=>bnd (Qdy x0 x1 x6 x1.to_ x1.close 15) fun r6=>br (neI r6.2 0) (some ((Qap.mk false 0 [] 0 0),[],r6.2)) (chk (okN (l2++[r6.1.driven]).length 8) (some ((Qap.mk x2 depart1 l3 r6.1.time r6.1.miles),(l2++[r6.1.driven]),0)))) e0.1 e0.2.1 e0.2.2.1 e0.2.2.2) (fun r7=>some r7)))
noncomputable def Qe0 (x0:Qac) (r:Qad) (rests:List Bool):Option (Qap×Int):=bnd (Qh6 x0 r rests) fun r1=>some (r1.1,r1.2.2)
noncomputable def Qfh (n:Int) (l:List Bool) (i:Int):Option ((List Bool×Int)⊕((Unit)⊕(List Bool×Bool))):=br (geI i n) (bnd (getI l i) fun x0=>br x0 (some (.inl ((setI l i false),(subK .i64 i 1)))) (some (.inr (.inr ((setI l i true),true))))) (some (.inr (.inl ())))
noncomputable def Qf8 (rests:List Bool) (n:Int):Option (List Bool×Bool):=chk (okN rests.length 1) (bnd (loopF (fun s=>Qfh n s.1 s.2) (rests,(subK .i64 (lenI rests) 1))) (fun e=>sel e (fun (_:Unit)=>some ([],false)) (fun r=>some r)))
noncomputable def Qgv (x0:Qac) (r:Qad) (l:List Bool) (r2:Qap×Int) (rests:List Bool) (rests1:List Bool) (x2:Qap) (found1:Bool):Option ((List Bool×Qap×List Bool×Bool×Bool)⊕(Qap×Bool)):=bnd (Qf8 rests1 (lenI rests)) fun r5=>some (.inl (rests,x2,r5.1,found1,r5.2))
noncomputable def Qfg (x0:Qac) (r:Qad) (l:List Bool) (r2:Qap×Int) (rests:List Bool) (x1:Qap) (rests1:List Bool) (found:Bool) (more:Bool):Option ((List Bool×Qap×List Bool×Bool×Bool)⊕(Qap×Bool)):=br more (bnd (Qe0 x0 (Qad.mk r.type_ r.start rests r.visits) rests1) fun r4=>br ((eqI r4.2 0)&&((!found)||(ltI r4.1.end_ x1.end_))) (Qgv x0 r l r2 rests rests1 r4.1 true) (Qgv x0 r l r2 rests rests1 x1 found)) (some (.inr (x1,found)))
noncomputable def Qf7 (x0:Qac) (r:Qad):Option (Qap×Int):=bnd (Qdc x0 r) fun r1=>br ((!r1)||(gtI (lenI r.rests) (addK .i64 (lenI r.visits) 1))) (some ((Qap.mk false 0 [] 0 0),2)) (bnd (mkI (addK .i64 (lenI r.visits) 1) (addK .i64 (lenI r.visits) 1) 1 false) fun l=>bnd (Qe0 x0 r (cpyL l r.rests)) fun r2=>bnd (Qf8 (cpyL l r.rests) (lenI r.rests)) fun r3=>bnd (loopF (fun s=>Qfg x0 r l r2 s.1 s.2.1 s.2.2.1 s.2.2.2.1 s.2.2.2.2) (r.rests,r2.1,r3.1,(eqI r2.2 0),r3.2)) (fun e0=>(fun x3 found2=>br found2 (some (x3,0)) (some ((Qap.mk false 0 [] 0 0),r2.2))) e0.1 e0.2))
noncomputable def Qcp (l:List Qaa) (at_:Int) (i:Int):Option ((Int)⊕((Unit)⊕(Bool))):=br (ltI i at_) (bnd (getI l i) fun x0=>bnd (getI l at_) fun x1=>br (eqI x0.order x1.order) (some (.inr (.inr false))) (some (.inl (addK .i64 i 1)))) (some (.inr (.inl ())))
noncomputable def Qg9 (l:List Qaa) (at_:Int):Option Bool:=bnd (loopF (fun s=>Qcp l at_ s) 0) (fun e=>sel e (fun (_:Unit)=>some true) (fun r=>some r))
noncomputable def QfX (x0:Qac) (r:Qad) (s0:Qap) (x1:Qai) (other:Int) (i:Int) (x2:Qaa) (moved1:Int):Option ((Int×Int×Int)⊕(Int×Int)):=bnd (getI x0.orders x2.order) fun x4=>br (neI x4.last_ (-1)) (br (neI x4.last_ r.type_) (some (.inl (moved1,(addK .i64 other 1),(addK .i64 i 1)))) (some (.inl (moved1,other,(addK .i64 i 1))))) (some (.inl (moved1,other,(addK .i64 i 1))))
noncomputable def Qcg (x0:Qac) (r:Qad) (s0:Qap) (x1:Qai) (moved:Int) (other:Int) (i:Int):Option ((Int×Int×Int)⊕(Int×Int)):=br (ltI i (lenI r.visits)) (bnd (getI r.visits i) fun x2=>br ((ltI x2.order 0)||(geI x2.order (lenI x0.orders))) (some (.inl (moved,other,(addK .i64 i 1)))) (bnd (Qg9 r.visits i) fun r1=>br r1 (bnd (getI x0.orders x2.order) fun x3=>br (neI x3.now (-1)) (br (neI x3.now r.type_) (QfX x0 r s0 x1 other i x2 (addK .i64 moved 1)) (QfX x0 r s0 x1 other i x2 moved)) (br (neI x3.last_ (-1)) (br (neI x3.last_ r.type_) (some (.inl (moved,(addK .i64 other 1),(addK .i64 i 1)))) (some (.inl (moved,other,(addK .i64 i 1))))) (some (.inl (moved,other,(addK .i64 i 1)))))) (some (.inl (moved,other,(addK .i64 i 1)))))) (some (.inr (moved,other)))
noncomputable def Qgw (x0:Qac) (r:Qad) (s0:Qap):Option QaE:=br ((ltI r.type_ 0)||(geI r.type_ (lenI x0.types))) (some (QaE.mk 0 0 0 0)) (bnd (getI x0.types r.type_) fun x1=>bnd (loopF (fun s=>Qcg x0 r s0 x1 s.1 s.2.1 s.2.2) (0,0,0)) (fun e0=>(fun moved2 other1=>some (QaE.mk (addK .i64 (addK .i64 x1.fixed (mulK .i64 x1.perMile s0.miles)) (mulK .i64 x1.perTick (subK .i64 s0.end_ x1.open_))) moved2 other1 (mulK .i64 (quoK .i64 (subK .i64 s0.end_ x1.open_) 64) (quoK .i64 (subK .i64 s0.end_ x1.open_) 64)))) e0.1 e0.2))
noncomputable def QbA (x0:Qac) (r:Qad) (i:Int):Option ((Int)⊕((Unit)⊕(Qap×QaE×Int))):=br (ltI i (lenI r.visits)) (bnd (getI x0.types r.type_) fun x1=>bnd (getI r.visits i) fun x2=>bnd (getI x0.orders x2.order) fun x3=>bnd (Qhd x1 x3.skills) fun r2=>br r2 (some (.inl (addK .i64 i 1))) (some (.inr (.inr ((Qap.mk false 0 [] 0 0),(QaE.mk 0 0 0 0),18))))) (some (.inr (.inl ())))
noncomputable def QdD (x0:Qac) (r:Qad):Option (Qap×QaE×Int):=br ((ltI r.type_ 0)||(geI r.type_ (lenI x0.types))) (some ((Qap.mk false 0 [] 0 0),(QaE.mk 0 0 0 0),2)) (bnd (Qgu x0 r) fun r1=>br (neI r1 0) (some ((Qap.mk false 0 [] 0 0),(QaE.mk 0 0 0 0),r1)) (bnd (loopF (fun s=>QbA x0 r s) 0) (fun e=>sel e (fun (_:Unit)=>bnd (Qhe x0 r) fun r3=>br (neI r3 0) (some ((Qap.mk false 0 [] 0 0),(QaE.mk 0 0 0 0),r3)) (bnd (Qf7 x0 r) fun r4=>br (neI r4.2 0) (some ((Qap.mk false 0 [] 0 0),(QaE.mk 0 0 0 0),r4.2)) (bnd (Qgw x0 r r4.1) fun r5=>some (r4.1,r5,0)))) (fun r6=>some r6))))
noncomputable def QjH (s0:QaE):Option Bool:=some ((((((((geI s0.cost 0)&&(leI s0.cost 1073741824))&&(geI s0.moved 0))&&(leI s0.moved 15))&&(geI s0.other 0))&&(leI s0.other 15))&&(geI s0.work 0))&&(leI s0.work 65535))
noncomputable def Qg8 (s0:QaE):Option (Int×Int):=br ((((ltI s0.cost 0)||(ltI s0.moved 0))||(ltI s0.other 0))||(ltI s0.work 0)) (some (0,2)) (bnd (QjH s0) fun r=>br r (some ((addK .i64 (mulK .i64 (addK .i64 (mulK .i64 (addK .i64 (mulK .i64 s0.cost 16) s0.moved) 16) s0.other) 65536) s0.work),0)) (some (0,4)))
noncomputable def Qdj (x0:Qac) (r:Qad):Option (Int×Int):=bnd (QdD x0 r) fun r1=>br (neI r1.2.2 0) (some (0,r1.2.2)) (bnd (Qg8 r1.2.1) fun r2=>some (r2.1,r2.2))
noncomputable def QfH (i:Int) (set_1:Int) (k:Int):Option ((Int×Int)⊕(Int)):=br (ltI k i) (some (.inl ((quoK .i64 set_1 2),(addK .i64 k 1)))) (some (.inr set_1))
noncomputable def QpI (set_:Int) (i:Int):Option Bool:=bnd (loopF (fun s=>QfH i s.1 s.2) (set_,0)) (fun set_2=>some (eqI (remK set_2 2) 1))
noncomputable def Qgx (l:List Qaa) (v:Qaa) (i:Int):Option ((Int)⊕((Unit)⊕(Bool))):=br (ltI i (lenI l)) (bnd (getI l i) fun x0=>br (eqI x0.order v.order&&(eqB x0.drop v.drop&&true)) (some (.inr (.inr true))) (some (.inl (addK .i64 i 1)))) (some (.inr (.inl ())))
noncomputable def Qn4 (l:List Qaa) (v:Qaa):Option Bool:=bnd (loopF (fun s=>Qgx l v s) 0) (fun e=>sel e (fun (_:Unit)=>some false) (fun r=>some r))
noncomputable def QgR (l:List Qah) (at_:Int) (l1:List Qaa):Option (List Qaa):=bnd (getI l at_) fun x1=>br (geI x1.drop.place 0) (chk (okN (l1++[(Qaa.mk at_ true)]).length 16) (some (l1++[(Qaa.mk at_ true)]))) (some l1)
noncomputable def QlN (l:List Qah) (at_:Int):Option (List Qaa):=bnd (QbR at_ 0 (subK .i64 (lenI l) 1)) fun r=>br r (bnd (getI l at_) fun x0=>br (geI x0.pick.place 0) (chk (okN [(Qaa.mk at_ false)].length 16) (QgR l at_ [(Qaa.mk at_ false)])) (QgR l at_ [])) (some [])
noncomputable def Qfi (x0:Qac) (set_:Int) (l:List Qaa) (i:Int) (r1:List Qaa) (l2:List Qaa) (k:Int):Option ((List Qaa×Int)⊕(List Qaa)):=br (ltI k (lenI r1)) (bnd (getI r1 k) fun x1=>bnd (Qn4 l x1) fun r2=>br r2 (some (.inl (l2,(addK .i64 k 1)))) (chk (okN (l2++[x1]).length 16) (some (.inl ((l2++[x1]),(addK .i64 k 1)))))) (some (.inr l2))
noncomputable def Qea (x0:Qac) (set_:Int) (l:List Qaa) (l1:List Qaa) (i:Int):Option ((List Qaa×Int)⊕(List Qaa)):=br (ltI i (lenI x0.orders)) (bnd (QpI set_ i) fun r=>br r (bnd (QlN x0.orders i) fun r1=>bnd (loopF (fun s=>Qfi x0 set_ l i r1 s.1 s.2) (l1,0)) (fun l3=>some (.inl (l3,(addK .i64 i 1))))) (some (.inl (l1,(addK .i64 i 1))))) (some (.inr l1))
noncomputable def Qoy (x0:Qac) (set_:Int) (l:List Qaa):Option (List Qaa):=bnd (loopF (fun s=>Qea x0 set_ l s.1 s.2) ([],0)) (fun l4=>some l4)
noncomputable def QiY (self:QaR→Qad→Option QaR) (r1:List Qaa) (x0:QaR) (x1:Qad) (i:Int):Option ((QaR×Qad×Int)⊕(QaR)):=br (ltI i (lenI r1)) (chk (okN x1.visits.length 16) (bnd (getI r1 i) fun x2=>chk (okN (x1.visits++[x2]).length 16) (br x2.drop (bnd (Qn4 r1 (Qaa.mk x2.order false)) fun r4=>br r4 (some (.inl (x0,x1,(addK .i64 i 1)))) (bnd (self x0 (Qad.mk x1.type_ x1.start x1.rests (x1.visits++[x2]))) fun r5=>some (.inl (r5,x1,(addK .i64 i 1))))) (bnd (self x0 (Qad.mk x1.type_ x1.start x1.rests (x1.visits++[x2]))) fun r6=>some (.inl (r6,x1,(addK .i64 i 1))))))) (some (.inr x0))
noncomputable def QjJ (self:QaR→Qad→Option QaR) (f:QaR) (r:Qad):Option QaR:=bnd (Qoy f.x f.set_ r.visits) fun r1=>br ((eqI (lenI r1) 0)||(gtI (lenI r.rests) (lenI r.visits))) (bnd (Qb8 r) fun r2=>br (((neI r2.2 0)||(neI r2.1 f.set_))||(gtI (lenI r1) 0)) (some f) (bnd (Qdj f.x r) fun r3=>br ((eqI r3.2 0)&&((!f.ok)||(ltI r3.1 f.price))) (some (QaR.mk f.x f.set_ true r r3.1)) (some f))) (bnd (loopF (fun s=>QiY self r1 s.1 s.2.1 s.2.2) (f,r,0)) (fun x3=>some x3))
noncomputable def QfY:Nat→QaR→Qad→Option QaR|0=>fun _ _=>none|n+1=>fun f r=>QjJ (QfY n) f r
noncomputable def Qhl (before:List QaC) (l:List Int) (l2:List Int) (more1:Bool) (v:Int):Option ((List Int×Bool×Int)⊕(List Int×Bool)):=br (ltI v (lenI before)) (bnd (getI before v) fun x0=>br ((((ltI x0.x0 0)||(ltI x0.x1 0))||(geI x0.x0 (lenI l2)))||(geI x0.x1 (lenI l2))) (some (.inl (l2,more1,(addK .i64 v 1)))) (bnd (getI l2 x0.x1) fun x1=>bnd (getI l2 x0.x0) fun x2=>chk ((0:Int)≤x0.x0) (br (neI (orK .i64 (orK .i64 x1 x2) (shlK .i64 1 x0.x0)) x1) (some (.inl ((setI l2 x0.x1 (orK .i64 (orK .i64 x1 x2) (shlK .i64 1 x0.x0))),true,(addK .i64 v 1)))) (some (.inl (l2,more1,(addK .i64 v 1))))))) (some (.inr (l2,more1)))
noncomputable def Qhk (before:List QaC) (l:List Int) (l1:List Int) (more:Bool):Option ((List Int×Bool)⊕(List Int)):=br more (bnd (loopF (fun s=>Qhl before l s.1 s.2.1 s.2.2) (l1,false,0)) (fun e0=>(fun l3 more2=>some (.inl (l3,more2))) e0.1 e0.2)) (some (.inr l1))
noncomputable def QgX (orders:Int) (before:List QaC):Option (List Int):=bnd (mkI (maxI orders 0) (maxI orders 0) 8 0) fun l=>bnd (loopF (fun s=>Qhk before l s.1 s.2) (l,true)) (fun l4=>some l4)
noncomputable def QbF (x0:Qac) (set_:Int) (r:List Int) (v:Int):Option ((Int)⊕((Unit)⊕(Int))):=br (ltI v (lenI r)) (bnd (getI r v) fun x1=>br (geI x1 (lenI x0.orders)) (some (.inr (.inr 2))) (some (.inl (addK .i64 v 1)))) (some (.inr (.inl ())))
noncomputable def Qbv (x0:Qac) (set_:Int) (r:List Int) (v1:Int):Option ((Int)⊕((Unit)⊕(Int))):=br (ltI v1 (lenI r)) (bnd (getI r v1) fun x2=>bnd (getI x0.orders x2) fun x3=>br x3.off (some (.inr (.inr 9))) (some (.inl (addK .i64 v1 1)))) (some (.inr (.inl ())))
noncomputable def Qbp (x0:Qac) (set_:Int) (r:List Int) (v2:Int):Option ((Int)⊕((Unit)⊕(Int))):=br (ltI v2 (lenI x0.apart)) (bnd (getI x0.apart v2) fun x4=>bnd (Qku set_ x4.x0) fun r1=>br r1 (bnd (Qku set_ x4.x1) fun r2=>br r2 (some (.inr (.inr 20))) (some (.inl (addK .i64 v2 1)))) (some (.inl (addK .i64 v2 1)))) (some (.inr (.inl ())))
noncomputable def Qbf (x0:Qac) (set_:Int) (r:List Int) (v3:Int):Option ((Int)⊕((Unit)⊕(Int))):=br (ltI v3 (lenI x0.before)) (bnd (getI x0.before v3) fun x5=>bnd (Qku set_ x5.x1) fun r3=>br r3 (bnd (Qku set_ x5.x0) fun r4=>br r4 (some (.inl (addK .i64 v3 1))) (some (.inr (.inr 21)))) (some (.inl (addK .i64 v3 1)))) (some (.inr (.inl ())))
noncomputable def Qbb (r:List Int) (r5:List Int) (v4:Int):Option ((Int)⊕((Unit)⊕(Int))):=br (ltI v4 (lenI r)) (bnd (getI r v4) fun x6=>bnd (getI r5 x6) fun x7=>bnd (Qku x7 x6) fun r6=>br r6 (some (.inr (.inr 21))) (some (.inl (addK .i64 v4 1)))) (some (.inr (.inl ())))
noncomputable def QgG (x0:Qac) (set_:Int):Option Int:=br (ltI set_ 0) (some 2) (bnd (Qi0 set_) fun r=>bnd (loopF (fun s=>QbF x0 set_ r s) 0) (fun e=>sel e (fun (_:Unit)=>bnd (loopF (fun s=>Qbv x0 set_ r s) 0) (fun e=>sel e (fun (_:Unit)=>bnd (loopF (fun s=>Qbp x0 set_ r s) 0) (fun e=>sel e (fun (_:Unit)=>bnd (loopF (fun s=>Qbf x0 set_ r s) 0) (fun e=>sel e (fun (_:Unit)=>bnd (QgX (lenI x0.orders) x0.before) fun r5=>bnd (loopF (fun s=>Qbb r r5 s) 0) (fun e=>sel e (fun (_:Unit)=>some 0) (fun r7=>some r7))) (fun r8=>some r8))) (fun r9=>some r9))) (fun r10=>some r10))) (fun r11=>some r11)))
noncomputable def QaP (s0:List Qal) (v:Qal) (v1:Int):Option ((Int)⊕((Unit)⊕(Int))):=br (ltI v1 (lenI s0)) (bnd (getI s0 v1) fun x0=>br (eqI v.ready x0.ready&&(eqI v.driven x0.driven&&true)) (some (.inr (.inr v1))) (some (.inl (addK .i64 v1 1)))) (some (.inr (.inl ())))
noncomputable def QbC (s0:List Qal) (v:Qal):Option Int:=bnd (loopF (fun s=>QaP s0 v s) 0) (fun e=>sel e (fun (_:Unit)=>some (-1)) (fun r=>some r))
noncomputable def Qb0 (s0:List Qal) (v:Qal):Option Bool:=bnd (QbC s0 v) fun r=>some (geI r 0)
noncomputable def QgC (l:List Qal) (s0:Qal):Option (List Qal):=bnd (Qb0 l s0) fun r=>br r (some l) (chk (okN (l++[s0]).length 16) (some (l++[s0])))
noncomputable def QlJ (s0:Qau) (arrive:Int):Option (Int×Int):=bnd (Qkx s0 arrive) fun r=>br (neI r.2 0) (some (0,r.2)) (some ((addK .i64 r.1 s0.service),0))
noncomputable def QbZ (s0:List Qaa):Option (List Qaa):=bnd (slcI s0 0 (lenI s0)) fun l=>some l
noncomputable def Qdu (best:Qag) (some_:Bool) (next_:Qag):Option Qag:=br some_ (bnd (Qh1 next_ best) fun r=>br r (some next_) (some best)) (some next_)
noncomputable def QeT (s0:Qaq) (l:List Qal) (depart:Int) (driven:Int):Option (List Qal×Qaq):=bnd (QgC l (Qal.mk depart driven)) fun r=>bnd (getI s0.x.types s0.kind) fun x0=>bnd (QgC r (Qal.mk (addK .i64 depart x0.rest_) 0)) fun r1=>some (r1,s0)
noncomputable def Qd1 (from_:Int) (l:List Qal) (stop:Qau) (x0:Qai) (l1:List Qal) (x1:Qaq) (v:Int):Option ((List Qal×Qaq×Int)⊕(List Qal×Qaq)):=br (ltI v (lenI l)) (bnd (getI l v) fun x2=>bnd (Qnf x1.x.net x0.profile from_ stop.place x2.ready) fun r=>br ((neI r.2.2 0)||(gtI (subK .i64 (addK .i64 x2.driven r.1) x2.ready) x0.drive)) (some (.inl (l1,x1,(addK .i64 v 1)))) (bnd (QlJ stop r.1) fun r1=>br (neI r1.2 0) (some (.inl (l1,x1,(addK .i64 v 1)))) (bnd (QeT x1 l1 r1.1 (subK .i64 (addK .i64 x2.driven r.1) x2.ready)) fun r2=>some (.inl (r2.1,r2.2,(addK .i64 v 1)))))) (some (.inr (l1,x1)))
noncomputable def Qg1 (s0:Qaq) (from_:Int) (l:List Qal) (stop:Qau):Option (List Qal×Qaq):=bnd (getI s0.x.types s0.kind) fun x0=>bnd (loopF (fun s=>Qd1 from_ l stop x0 s.1 s.2.1 s.2.2) ([],s0,0)) (fun e0=>(fun l2 x3=>some (l2,x3)) e0.1 e0.2)
noncomputable def Qey (self:Qaq→(List Qaa)→Int→(List Qal)→Option Qaq) (visits:List Qaa) (from_:Int) (l:List Qal) (r2:List Qaa) (x0:Qaq) (v:Int):Option ((Qaq×Int)⊕(Qaq)):=br (ltI v (lenI r2)) (bnd (getI r2 v) fun x1=>bnd (Qo9 x0.x.orders x1) fun r3=>br (neI r3.2 0) (some (.inl (x0,(addK .i64 v 1)))) (bnd (Qg1 x0 from_ l r3.1) fun r4=>br (gtI (lenI r4.1) 0) (bnd (QbZ visits) fun r5=>chk (okN (r5++[x1]).length 16) (bnd (self r4.2 (r5++[x1]) r3.1.place r4.1) fun r6=>some (.inl (r6,(addK .i64 v 1))))) (some (.inl (r4.2,(addK .i64 v 1)))))) (some (.inr x0))
noncomputable def Qgf (self:Qaq→(List Qaa)→Int→(List Qal)→Option Qaq) (s0:Qaq) (visits:List Qaa) (from_:Int) (l:List Qal):Option Qaq:=br (eqI (lenI visits) s0.total) (bnd (Qfj s0.x (Qad.mk s0.kind 0 [] visits)) fun r=>br (eqI r.2 0) (bnd (Qdu s0.best s0.found (Qag.mk s0.kind s0.set_ r.1 (Qad.mk s0.kind 0 [] visits))) fun r1=>some (Qaq.mk s0.x s0.kind s0.set_ s0.total r1 true)) (some s0)) (bnd (Qjl s0.x s0.set_ visits) fun r2=>bnd (loopF (fun s=>Qey self visits from_ l r2 s.1 s.2) (s0,0)) (fun x2=>some x2))
noncomputable def Qd2:Nat→Qaq→(List Qaa)→Int→(List Qal)→Option Qaq|0=>fun _ _ _ _=>none|n+1=>fun s0 visits from_ l=>Qgf (Qd2 n) s0 visits from_ l
noncomputable def QmP (s0:Qaq) (visits:List Qaa) (from_:Int) (l:List Qal):Option Qaq:=Qd2 QnP s0 visits from_ l
noncomputable def Qep (s0:Qaq) (depart:Int) (driven:Int):Option (List Qal×Qaq):=bnd (QgC [] (Qal.mk depart driven)) fun r=>bnd (getI s0.x.types s0.kind) fun x0=>bnd (QgC r (Qal.mk (addK .i64 depart x0.rest_) 0)) fun r1=>some (r1,s0)
noncomputable def Qf2 (x0:Qac) (kind:Int) (set_:Int) (r1:List Int) (total:Int) (v:Int):Option ((Int×Int)⊕(Int)):=br (ltI v (lenI r1)) (bnd (getI r1 v) fun x1=>bnd (QgW x0.orders x1) fun r2=>some (.inl ((addK .i64 total (lenI r2)),(addK .i64 v 1)))) (some (.inr total))
noncomputable def QnJ (x0:Qac) (kind:Int) (set_:Int):Option (Qag×Int):=br (((ltI kind 0)||(geI kind (lenI x0.types)))||(leI set_ 0)) (some ((Qag.mk 0 0 0 (Qad.mk 0 0 [] [])),2)) (chk ((0:Int)≤(lenI x0.orders)) (br (neI (shrK .i64 set_ (lenI x0.orders)) 0) (some ((Qag.mk 0 0 0 (Qad.mk 0 0 [] [])),2)) (bnd (QgG x0 set_) fun r=>br (neI r 0) (some ((Qag.mk 0 0 0 (Qad.mk 0 0 [] [])),24)) (bnd (Qi0 set_) fun r1=>bnd (loopF (fun s=>Qf2 x0 kind set_ r1 s.1 s.2) (0,0)) (fun total1=>bnd (getI x0.types kind) fun x2=>bnd (Qep (Qaq.mk x0 kind set_ total1 (Qag.mk 0 0 0 (Qad.mk 0 0 [] [])) false) x2.open_ 0) fun r3=>bnd (QmP r3.2 [] x2.from_ r3.1) fun r4=>br r4.found (some (r4.best,0)) (some ((Qag.mk 0 0 0 (Qad.mk 0 0 [] [])),24)))))))
noncomputable def Qgc (x0:Qac) (kind:Int) (set_:Int):Option Bool:=bnd (QhH x0) fun r=>br r (bnd (Qib x0 (Qad.mk kind 0 [] []) set_) fun r1=>bnd (QnJ x0 kind set_) fun r2=>br (eqI r1.2 r2.2) (bnd (QiF r1.1 r2.1) fun r3=>br r3 (bnd (QfL) fun r4=>some r4) (some false)) (some false)) (bnd (QfL) fun r5=>some r5)
noncomputable def Qjs (x0:Qac):Option Bool:=br ((leI (lenI x0.orders) 3)&&(leI (lenI x0.types) 3)) (bnd (Qgr x0) fun r=>some (eqI (lenI r) 0)) (some false)
noncomputable def Qrr (x0:Qac) (l:List Qag) (v:Int) (l1:List Qag) (set_:Int):Option ((List Qag×Int)⊕(List Qag)):=chk ((0:Int)≤(lenI x0.orders)) (br (eqI (shrK .i64 set_ (lenI x0.orders)) 0) (bnd (QnJ x0 v set_) fun r=>br (eqI r.2 0) (chk (okN (l1++[r.1]).length 88) (some (.inl ((l1++[r.1]),(addK .i64 set_ 1))))) (some (.inl (l1,(addK .i64 set_ 1))))) (some (.inr l1)))
noncomputable def Qrq (x0:Qac) (l:List Qag) (v:Int):Option ((List Qag×Int)⊕(List Qag)):=br (ltI v (lenI x0.types)) (bnd (loopF (fun s=>Qrr x0 l v s.1 s.2) (l,1)) (fun l2=>some (.inl (l2,(addK .i64 v 1))))) (some (.inr l))
noncomputable def QxL (x0:Qac):Option (List Qag×Int):=bnd (loopF (fun s=>Qrq x0 s.1 s.2) ([],0)) (fun l3=>some (l3,0))
noncomputable def Qrg (a:List Qaa) (b:List Qaa):Option Bool:=bnd (Qdv a b) fun r=>some r
noncomputable def Qwc (a:Qag) (b:Qag):Option Bool:=br (((((eqI a.type_ b.type_)&&(eqI a.set_ b.set_))&&(eqI a.price b.price))&&(eqI a.route.type_ b.route.type_))&&(eqI a.route.start b.route.start)) (bnd (QgA a.route.rests b.route.rests) fun r=>br r (bnd (Qrg a.route.visits b.route.visits) fun r1=>some r1) (some false)) (some false)
noncomputable def QiP:Option Qac:=some (Qac.mk (Qam.mk [Qxs,Qxr] [(Qas.mk 0 1 0 10 [(Qao.mk 0 20)] []),(Qas.mk 1 0 0 10 [(Qao.mk 0 20)] [])]) [(Qai.mk Qxv 1 0 0 [5] 0 0 0 1000 1000 0 5 1 0)] [(Qah.mk Qy5 [1] (Qau.mk (-1) 0 0 0) (Qau.mk 1 0 50 0) 0 0 1 (-1) (-1) false)] [] [])
noncomputable def Qfp:Option Bool:=bnd (QiP) fun r=>bnd (QnJ r 0 1) fun r1=>bnd (QiP) fun r2=>bnd (QxL r2) fun r3=>br ((((((eqI r1.2 0)&&(eqI r1.1.set_ 1))&&(eqI r1.1.price 419430400))&&(eqI (lenI r1.1.route.visits) 1))&&(eqI r3.2 0))&&(eqI (lenI r3.1) 1)) (bnd (getI r3.1 0) fun x0=>bnd (Qwc x0 r1.1) fun r4=>br r4 (bnd (Qh1 r1.1 r1.1) fun r5=>some (!r5)) (some false)) (some false)
noncomputable def Qfu (x0:Qac) (r:Qad):Option Int:=bnd (QdD x0 r) fun r1=>some r1.2.2
noncomputable def QjF (a:Qaa) (b:Qaa):Option Bool:=some ((ltI a.order b.order)||(((eqI a.order b.order)&&(!a.drop))&&b.drop))
noncomputable def QcZ (a:List Qaa) (b:List Qaa) (i:Int):Option ((Int)⊕((Unit)⊕(Bool))):=br ((ltI i (lenI a))&&(ltI i (lenI b))) (bnd (getI a i) fun x0=>bnd (getI b i) fun x1=>br (eqI x0.order x1.order&&(eqB x0.drop x1.drop&&true)) (some (.inl (addK .i64 i 1))) (bnd (QjF x0 x1) fun r=>some (.inr (.inr r)))) (some (.inr (.inl ())))
noncomputable def QiB (a:List Qaa) (b:List Qaa):Option Bool:=bnd (loopF (fun s=>QcZ a b s) 0) (fun e=>sel e (fun (_:Unit)=>some (ltI (lenI a) (lenI b))) (fun r1=>some r1))
noncomputable def Qfx (x0:Qac) (r:Qad):Option Bool:=bnd (Qjs x0) fun r1=>br ((((!r1)||(gtI (lenI r.visits) 8))||(neI r.start 0))||(gtI (lenI r.rests) 0)) (bnd (Qfp) fun r2=>some r2) (bnd (Qfu x0 r) fun r3=>br (neI r3 0) (bnd (Qfp) fun r4=>some r4) (bnd (Qb8 r) fun r5=>bnd (Qdj x0 r) fun r6=>bnd (QnJ x0 r.type_ r5.1) fun r7=>br (((((((((neI r5.2 0)||(neI r6.2 0))||(neI r7.2 0))||(gtI r7.1.price r6.1))||(neI r7.1.set_ r5.1))||(neI r7.1.type_ r.type_))||(neI r7.1.route.type_ r.type_))||(neI r7.1.route.start 0))||(gtI (lenI r7.1.route.rests) 0)) (some false) (bnd (Qb8 r7.1.route) fun r8=>bnd (Qdj x0 r7.1.route) fun r9=>br ((eqI r8.2 0)&&(eqI r8.1 r5.1)) (bnd (Qfu x0 r7.1.route) fun r10=>br (((eqI r10 0)&&(eqI r9.2 0))&&(eqI r9.1 r7.1.price)) (br (ltI r7.1.price r6.1) (bnd (Qfp) fun r11=>some r11) (bnd (QiB r.visits r7.1.route.visits) fun r12=>br r12 (some false) (bnd (Qfp) fun r13=>some r13))) (some false)) (some false))))
end Go.Proofs.YtoedkepcaigkeaaGreatDoor
namespace Go.Proofs.YtoedkepcaigkeaaGreatDoor
set_option linter.unusedVariables false
set_option linter.unusedSectionVars false
set_option linter.unusedSimpArgs false
open Go.RowKit
variable {N : Nat}
theorem oq_9:Opens Tryz.prog N 9 (rdE 1 e_str (fun s:ByteArray=>s.size≤N) (fun _=>rfl)):=QFo Tryz.underlying9 (by kernel_rfl)
theorem oq_22:Opens Tryz.prog N 22 (rdE 1 (fun l:List ByteArray=>[.sl false 1 (l.map e_str)]) (fun l:List (ByteArray)=>l.length≤N∧∀ x∈l,(fun s:ByteArray=>s.size≤N) x) (fun _=>rfl)):=QpJ Tryz.underlying22 (by kernel_rfl) oq_9 (by decide)
theorem oq_3:Opens Tryz.prog N 3 (rdE 1 e_i64 isI (fun _=>rfl)):=QFn Tryz.underlying3 (by kernel_rfl)
def Qao.ok (N:Nat) (x:Qao):Prop:=isI x.t∧isI x.a∧True
theorem QFp:Opens Tryz.prog N 117 (rdE 2 Qao.enc (Qao.ok N) (fun _=>rfl)):=QmF Tryz.underlying117 (by kernel_rfl) (.cons rfl oq_3 (.cons rfl oq_3 .nil)) rfl (HE.pair HE.rd (HE.pair HE.rd HE.unit)) (fun a=>⟨a.1,a.2.1⟩) (fun _=>rfl) (fun _ h=>h)
theorem QEN:Opens Tryz.prog N 118 (rdE 1 (fun l:List Qao=>[.sl false 2 (l.map Qao.enc)]) (fun l:List (Qao)=>l.length≤N∧∀ x∈l,(Qao.ok N) x) (fun _=>rfl)):=QpJ Tryz.underlying118 (by kernel_rfl) QFp (by decide)
def Qas.ok (N:Nat) (x:Qas):Prop:=isI x.from_∧isI x.to_∧isI x.profile∧isI x.miles∧(fun l:List (Qao)=>l.length≤N∧∀ x∈l,(Qao.ok N) x) x.travel∧(fun l:List (Qao)=>l.length≤N∧∀ x∈l,(Qao.ok N) x) x.slow∧True
theorem QFq:Opens Tryz.prog N 120 (rdE 6 Qas.enc (Qas.ok N) (fun _=>rfl)):=QmF Tryz.underlying120 (by kernel_rfl) (.cons rfl oq_3 (.cons rfl oq_3 (.cons rfl oq_3 (.cons rfl oq_3 (.cons rfl QEN (.cons rfl QEN .nil)))))) rfl (HE.pair HE.rd (HE.pair HE.rd (HE.pair HE.rd (HE.pair HE.rd (HE.pair HE.rd (HE.pair HE.rd HE.unit)))))) (fun a=>⟨a.1,a.2.1,a.2.2.1,a.2.2.2.1,a.2.2.2.2.1,a.2.2.2.2.2.1⟩) (fun _=>rfl) (fun _ h=>h)
theorem oq_23:Opens Tryz.prog N 23 (rdE 1 (fun l:List Qas=>[.sl false 6 (l.map Qas.enc)]) (fun l:List (Qas)=>l.length≤N∧∀ x∈l,(Qas.ok N) x) (fun _=>rfl)):=QpJ Tryz.underlying23 (by kernel_rfl) QFq (by decide)
def Qam.ok (N:Nat) (x:Qam):Prop:=(fun l:List (ByteArray)=>l.length≤N∧∀ x∈l,(fun s:ByteArray=>s.size≤N) x) x.places∧(fun l:List (Qas)=>l.length≤N∧∀ x∈l,(Qas.ok N) x) x.arcs∧True
theorem oq_25:Opens Tryz.prog N 25 (rdE 2 Qam.enc (Qam.ok N) (fun _=>rfl)):=QmF Tryz.underlying25 (by kernel_rfl) (.cons rfl oq_22 (.cons rfl oq_23 .nil)) rfl (HE.pair HE.rd (HE.pair HE.rd HE.unit)) (fun a=>⟨a.1,a.2.1⟩) (fun _=>rfl) (fun _ h=>h)
theorem oq_90:Opens Tryz.prog N 90 (rdE 1 (fun l:List Int=>[.sl false 1 (l.map e_i64)]) (fun l:List (Int)=>l.length≤N∧∀ x∈l,isI x) (fun _=>rfl)):=QpJ Tryz.underlying90 (by kernel_rfl) oq_3 (by decide)
def Qai.ok (N:Nat) (x:Qai):Prop:=(fun s:ByteArray=>s.size≤N) x.name∧isI x.count∧isI x.from_∧isI x.to_∧(fun l:List (Int)=>l.length≤N∧∀ x∈l,isI x) x.cap∧isI x.skills∧isI x.profile∧isI x.open_∧isI x.close∧isI x.drive∧isI x.rest_∧isI x.fixed∧isI x.perMile∧isI x.perTick∧True
theorem oq_94:Opens Tryz.prog N 94 (rdE 14 Qai.enc (Qai.ok N) (fun _=>rfl)):=QmF Tryz.underlying94 (by kernel_rfl) (.cons rfl oq_9 (.cons rfl oq_3 (.cons rfl oq_3 (.cons rfl oq_3 (.cons rfl oq_90 (.cons rfl oq_3 (.cons rfl oq_3 (.cons rfl oq_3 (.cons rfl oq_3 (.cons rfl oq_3 (.cons rfl oq_3 (.cons rfl oq_3 (.cons rfl oq_3 (.cons rfl oq_3 .nil)))))))))))))) rfl (HE.pair HE.rd (HE.pair HE.rd (HE.pair HE.rd (HE.pair HE.rd (HE.pair HE.rd (HE.pair HE.rd (HE.pair HE.rd (HE.pair HE.rd (HE.pair HE.rd (HE.pair HE.rd (HE.pair HE.rd (HE.pair HE.rd (HE.pair HE.rd (HE.pair HE.rd HE.unit)))))))))))))) (fun a=>⟨a.1,a.2.1,a.2.2.1,a.2.2.2.1,a.2.2.2.2.1,a.2.2.2.2.2.1,a.2.2.2.2.2.2.1,a.2.2.2.2.2.2.2.1,a.2.2.2.2.2.2.2.2.1,a.2.2.2.2.2.2.2.2.2.1,a.2.2.2.2.2.2.2.2.2.2.1,a.2.2.2.2.2.2.2.2.2.2.2.1,a.2.2.2.2.2.2.2.2.2.2.2.2.1,a.2.2.2.2.2.2.2.2.2.2.2.2.2.1⟩) (fun _=>rfl) (fun _ h=>h)
theorem oq_26:Opens Tryz.prog N 26 (rdE 1 (fun l:List Qai=>[.sl false 14 (l.map Qai.enc)]) (fun l:List (Qai)=>l.length≤N∧∀ x∈l,(Qai.ok N) x) (fun _=>rfl)):=QpJ Tryz.underlying26 (by kernel_rfl) oq_94 (by decide)
def Qau.ok (N:Nat) (x:Qau):Prop:=isI x.place∧isI x.open_∧isI x.close∧isI x.service∧True
theorem QEO:Opens Tryz.prog N 122 (rdE 4 Qau.enc (Qau.ok N) (fun _=>rfl)):=QmF Tryz.underlying122 (by kernel_rfl) (.cons rfl oq_3 (.cons rfl oq_3 (.cons rfl oq_3 (.cons rfl oq_3 .nil)))) rfl (HE.pair HE.rd (HE.pair HE.rd (HE.pair HE.rd (HE.pair HE.rd HE.unit)))) (fun a=>⟨a.1,a.2.1,a.2.2.1,a.2.2.2.1⟩) (fun _=>rfl) (fun _ h=>h)
theorem oq_4:Opens Tryz.prog N 4 (rdE 1 QaQ (fun _:Bool=>True) (fun _=>rfl)):=QEK Tryz.underlying4 (by kernel_rfl)
def Qah.ok (N:Nat) (x:Qah):Prop:=(fun s:ByteArray=>s.size≤N) x.name∧(fun l:List (Int)=>l.length≤N∧∀ x∈l,isI x) x.load∧(Qau.ok N) x.pick∧(Qau.ok N) x.drop∧isI x.skills∧isI x.penalty∧isI x.split∧isI x.last_∧isI x.now∧(fun _:Bool=>True) x.off∧True
theorem QFr:Opens Tryz.prog N 124 (rdE 16 Qah.enc (Qah.ok N) (fun _=>rfl)):=QmF Tryz.underlying124 (by kernel_rfl) (.cons rfl oq_9 (.cons rfl oq_90 (.cons rfl QEO (.cons rfl QEO (.cons rfl oq_3 (.cons rfl oq_3 (.cons rfl oq_3 (.cons rfl oq_3 (.cons rfl oq_3 (.cons rfl oq_4 .nil)))))))))) rfl (HE.pair HE.rd (HE.pair HE.rd (HE.pair HE.rd (HE.pair HE.rd (HE.pair HE.rd (HE.pair HE.rd (HE.pair HE.rd (HE.pair HE.rd (HE.pair HE.rd (HE.pair HE.rd HE.unit)))))))))) (fun a=>⟨a.1,a.2.1,a.2.2.1,a.2.2.2.1,a.2.2.2.2.1,a.2.2.2.2.2.1,a.2.2.2.2.2.2.1,a.2.2.2.2.2.2.2.1,a.2.2.2.2.2.2.2.2.1,a.2.2.2.2.2.2.2.2.2.1⟩) (fun _=>rfl) (fun _ h=>h)
theorem oq_27:Opens Tryz.prog N 27 (rdE 1 (fun l:List Qah=>[.sl false 16 (l.map Qah.enc)]) (fun l:List (Qah)=>l.length≤N∧∀ x∈l,(Qah.ok N) x) (fun _=>rfl)):=QpJ Tryz.underlying27 (by kernel_rfl) QFr (by decide)
def QaC.ok (N:Nat) (x:QaC):Prop:=isI x.x0∧isI x.x1
theorem QFs:Opens Tryz.prog N 135 (rdE 2 QaC.enc (QaC.ok N) (fun _=>rfl)):=QCg Tryz.underlying135 (by kernel_rfl) oq_3 rfl (fun a b=>⟨a,b⟩) (fun _ _=>rfl) (fun _ _ h h2=>⟨h,h2⟩)
theorem oq_28:Opens Tryz.prog N 28 (rdE 1 (fun l:List QaC=>[.sl false 2 (l.map QaC.enc)]) (fun l:List (QaC)=>l.length≤N∧∀ x∈l,(QaC.ok N) x) (fun _=>rfl)):=QpJ Tryz.underlying28 (by kernel_rfl) QFs (by decide)
def Qac.ok (N:Nat) (x:Qac):Prop:=(Qam.ok N) x.net∧(fun l:List (Qai)=>l.length≤N∧∀ x∈l,(Qai.ok N) x) x.types∧(fun l:List (Qah)=>l.length≤N∧∀ x∈l,(Qah.ok N) x) x.orders∧(fun l:List (QaC)=>l.length≤N∧∀ x∈l,(QaC.ok N) x) x.apart∧(fun l:List (QaC)=>l.length≤N∧∀ x∈l,(QaC.ok N) x) x.before∧True
theorem oq_30:Opens Tryz.prog N 30 (rdE 6 Qac.enc (Qac.ok N) (fun _=>rfl)):=QmF Tryz.underlying30 (by kernel_rfl) (.cons rfl oq_25 (.cons rfl oq_26 (.cons rfl oq_27 (.cons rfl oq_28 (.cons rfl oq_28 .nil))))) rfl (HE.pair HE.rd (HE.pair HE.rd (HE.pair HE.rd (HE.pair HE.rd (HE.pair HE.rd HE.unit))))) (fun a=>⟨a.1,a.2.1,a.2.2.1,a.2.2.2.1,a.2.2.2.2.1⟩) (fun _=>rfl) (fun _ h=>h)
theorem oq_34:Opens Tryz.prog N 34 (rdE 1 (fun l:List Bool=>[.sl false 1 (l.map QaQ)]) (fun l:List (Bool)=>l.length≤N∧∀ x∈l,(fun _:Bool=>True) x) (fun _=>rfl)):=QpJ Tryz.underlying34 (by kernel_rfl) oq_4 (by decide)
def Qaa.ok (N:Nat) (x:Qaa):Prop:=isI x.order∧(fun _:Bool=>True) x.drop∧True
theorem oq_54:Opens Tryz.prog N 54 (rdE 2 Qaa.enc (Qaa.ok N) (fun _=>rfl)):=QmF Tryz.underlying54 (by kernel_rfl) (.cons rfl oq_3 (.cons rfl oq_4 .nil)) rfl (HE.pair HE.rd (HE.pair HE.rd HE.unit)) (fun a=>⟨a.1,a.2.1⟩) (fun _=>rfl) (fun _ h=>h)
theorem oq_35:Opens Tryz.prog N 35 (rdE 1 (fun l:List Qaa=>[.sl false 2 (l.map Qaa.enc)]) (fun l:List (Qaa)=>l.length≤N∧∀ x∈l,(Qaa.ok N) x) (fun _=>rfl)):=QpJ Tryz.underlying35 (by kernel_rfl) oq_54 (by decide)
def Qad.ok (N:Nat) (x:Qad):Prop:=isI x.type_∧isI x.start∧(fun l:List (Bool)=>l.length≤N∧∀ x∈l,(fun _:Bool=>True) x) x.rests∧(fun l:List (Qaa)=>l.length≤N∧∀ x∈l,(Qaa.ok N) x) x.visits∧True
theorem oq_37:Opens Tryz.prog N 37 (rdE 4 Qad.enc (Qad.ok N) (fun _=>rfl)):=QmF Tryz.underlying37 (by kernel_rfl) (.cons rfl oq_3 (.cons rfl oq_3 (.cons rfl oq_34 (.cons rfl oq_35 .nil)))) rfl (HE.pair HE.rd (HE.pair HE.rd (HE.pair HE.rd (HE.pair HE.rd HE.unit)))) (fun a=>⟨a.1,a.2.1,a.2.2.1,a.2.2.2.1⟩) (fun _=>rfl) (fun _ h=>h)
def Qag.ok (N:Nat) (x:Qag):Prop:=isI x.type_∧isI x.set_∧isI x.price∧(Qad.ok N) x.route∧True
end Go.Proofs.YtoedkepcaigkeaaGreatDoor
