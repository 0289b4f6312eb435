/- Part MT of the proof: texts Yt Yd Yo. -/
import Derived.Test.YtpkkaboonnedfaaGreatDoorMA
import Derived.Test.YtpkkaboonnedfaaGreatDoorMC
namespace Go.Proofs.YtpkkaboonnedfaaGreatDoor
set_option linter.unusedVariables false
set_option linter.unusedSectionVars false
set_option linter.unusedSimpArgs false
def Qay (n:Int):List Lf:=[.int .i64 n]
def e_u8 (n:Int):List Lf:=[.int .u8 n]
def e_fn (n:Nat):List Lf:=[.fn (.func n) []]
def Qbd (b:Bool):List Lf:=[.bool b]
def QmO (s:ByteArray):List Lf:=[.str s]
structure Qab where
  err:Int
  at_:ByteArray
instance:DecidableEq Qab:=fun a b=>decidable_of_iff (a.err=b.err∧a.at_=b.at_) (by cases a; cases b; simp)
structure Qao where
  t:Int
  a:Int
instance:DecidableEq Qao:=fun a b=>decidable_of_iff (a.t=b.t∧a.a=b.a) (by cases a; cases b; simp)
structure Qas where
  from_:Int
  to_:Int
  profile:Int
  miles:Int
  travel:List Qao
  slow:List Qao
instance:DecidableEq Qas:=fun a b=>decidable_of_iff (a.from_=b.from_∧a.to_=b.to_∧a.profile=b.profile∧a.miles=b.miles∧a.travel=b.travel∧a.slow=b.slow) (by cases a; cases b; simp)
structure Qam where
  places:List ByteArray
  arcs:List Qas
instance:DecidableEq Qam:=fun a b=>decidable_of_iff (a.places=b.places∧a.arcs=b.arcs) (by cases a; cases b; simp)
structure Qal where
  name:ByteArray
  count:Int
  from_:Int
  to_:Int
  cap:List Int
  skills:Int
  profile:Int
  open_:Int
  close:Int
  drive:Int
  rest_:Int
  fixed:Int
  perMile:Int
  perTick:Int
instance:DecidableEq Qal:=fun a b=>decidable_of_iff (a.name=b.name∧a.count=b.count∧a.from_=b.from_∧a.to_=b.to_∧a.cap=b.cap∧a.skills=b.skills∧a.profile=b.profile∧a.open_=b.open_∧a.close=b.close∧a.drive=b.drive∧a.rest_=b.rest_∧a.fixed=b.fixed∧a.perMile=b.perMile∧a.perTick=b.perTick) (by cases a; cases b; simp)
structure Qaw where
  place:Int
  open_:Int
  close:Int
  service:Int
instance:DecidableEq Qaw:=fun a b=>decidable_of_iff (a.place=b.place∧a.open_=b.open_∧a.close=b.close∧a.service=b.service) (by cases a; cases b; simp)
structure Qag where
  name:ByteArray
  load:List Int
  pick:Qaw
  drop:Qaw
  skills:Int
  penalty:Int
  split:Int
  last_:Int
  now:Int
  off:Bool
instance:DecidableEq Qag:=fun a b=>decidable_of_iff (a.name=b.name∧a.load=b.load∧a.pick=b.pick∧a.drop=b.drop∧a.skills=b.skills∧a.penalty=b.penalty∧a.split=b.split∧a.last_=b.last_∧a.now=b.now∧a.off=b.off) (by cases a; cases b; simp)
structure QaR where
  x0:Int
  x1:Int
instance:DecidableEq QaR:=fun a b=>decidable_of_iff (a.x0=b.x0∧a.x1=b.x1) (by cases a; cases b; simp)
structure Qac where
  net:Qam
  types:List Qal
  orders:List Qag
  apart:List QaR
  before:List QaR
instance:DecidableEq Qac:=fun a b=>decidable_of_iff (a.net=b.net∧a.types=b.types∧a.orders=b.orders∧a.apart=b.apart∧a.before=b.before) (by cases a; cases b; simp)
structure Qaa where
  order:Int
  drop:Bool
instance:DecidableEq Qaa:=fun a b=>decidable_of_iff (a.order=b.order∧a.drop=b.drop) (by cases a; cases b; simp)
structure Qad where
  type_:Int
  start:Int
  rests:List Bool
  visits:List Qaa
instance:DecidableEq Qad:=fun a b=>decidable_of_iff (a.type_=b.type_∧a.start=b.start∧a.rests=b.rests∧a.visits=b.visits) (by cases a; cases b; simp)
structure Qaz where
  x:Qac
  t:Qal
  r:Qad
  stops:List Qaw
instance:DecidableEq Qaz:=fun a b=>decidable_of_iff (a.x=b.x∧a.t=b.t∧a.r=b.r∧a.stops=b.stops) (by cases a; cases b; simp)
structure Qar where
  arrive:Int
  begin:Int
  depart:Int
  rest_:Bool
instance:DecidableEq Qar:=fun a b=>decidable_of_iff (a.arrive=b.arrive∧a.begin=b.begin∧a.depart=b.depart∧a.rest_=b.rest_) (by cases a; cases b; simp)
structure Qap where
  rest_:Bool
  depart:Int
  times:List Qar
  end_:Int
  miles:Int
instance:DecidableEq Qap:=fun a b=>decidable_of_iff (a.rest_=b.rest_∧a.depart=b.depart∧a.times=b.times∧a.end_=b.end_∧a.miles=b.miles) (by cases a; cases b; simp)
structure Qaf where
  ready:Int
  since:Int
  sheet:Qap
instance:DecidableEq Qaf:=fun a b=>decidable_of_iff (a.ready=b.ready∧a.since=b.since∧a.sheet=b.sheet) (by cases a; cases b; simp)
structure QiY where
  from_:Int
  to_:Int
  profile:Int
instance:DecidableEq QiY:=fun a b=>decidable_of_iff (a.from_=b.from_∧a.to_=b.to_∧a.profile=b.profile) (by cases a; cases b; simp)
structure QAn where
  x0:Int
  x1:Int
  x2:Int
  x3:Int
  x4:Int
  x5:Int
  x6:Int
  x7:Int
  x8:Int
  x9:Int
  x10:Int
  x11:Int
  x12:Int
  x13:Int
  x14:Int
  x15:Int
  x16:Int
  x17:Int
  x18:Int
  x19:Int
  x20:Int
  x21:Int
  x22:Int
  x23:Int
instance:DecidableEq QAn:=fun a b=>decidable_of_iff (a.x0=b.x0∧a.x1=b.x1∧a.x2=b.x2∧a.x3=b.x3∧a.x4=b.x4∧a.x5=b.x5∧a.x6=b.x6∧a.x7=b.x7∧a.x8=b.x8∧a.x9=b.x9∧a.x10=b.x10∧a.x11=b.x11∧a.x12=b.x12∧a.x13=b.x13∧a.x14=b.x14∧a.x15=b.x15∧a.x16=b.x16∧a.x17=b.x17∧a.x18=b.x18∧a.x19=b.x19∧a.x20=b.x20∧a.x21=b.x21∧a.x22=b.x22∧a.x23=b.x23) (by cases a; cases b; simp)
structure Qau where
  cost:Int
  moved:Int
  other:Int
  work:Int
instance:DecidableEq Qau:=fun a b=>decidable_of_iff (a.cost=b.cost∧a.moved=b.moved∧a.other=b.other∧a.work=b.work) (by cases a; cases b; simp)
structure QzJ where
  x0:Int
  x1:Int
  x2:Int
  x3:Int
instance:DecidableEq QzJ:=fun a b=>decidable_of_iff (a.x0=b.x0∧a.x1=b.x1∧a.x2=b.x2∧a.x3=b.x3) (by cases a; cases b; simp)
structure Qak where
  routes:List Qad
  unserved:List Int
instance:DecidableEq Qak:=fun a b=>decidable_of_iff (a.routes=b.routes∧a.unserved=b.unserved) (by cases a; cases b; simp)
structure Qaq where
  at_:Int
  route:Qad
  increase:Int
instance:DecidableEq Qaq:=fun a b=>decidable_of_iff (a.at_=b.at_∧a.route=b.route∧a.increase=b.increase) (by cases a; cases b; simp)
structure QfM where
  x0:Int
  x1:Int
  x2:Int
instance:DecidableEq QfM:=fun a b=>decidable_of_iff (a.x0=b.x0∧a.x1=b.x1∧a.x2=b.x2) (by cases a; cases b; simp)
structure QaA where
  place:Int
  time:Int
  driven:Int
  miles:Int
instance:DecidableEq QaA:=fun a b=>decidable_of_iff (a.place=b.place∧a.time=b.time∧a.driven=b.driven∧a.miles=b.miles) (by cases a; cases b; simp)
structure QaL where
  ok:Bool
  route:Qad
  price:Int
instance:DecidableEq QaL:=fun a b=>decidable_of_iff (a.ok=b.ok∧a.route=b.route∧a.price=b.price) (by cases a; cases b; simp)
structure Qai where
  ok:Bool
  place:Int
  route:Qad
  increase:Int
instance:DecidableEq Qai:=fun a b=>decidable_of_iff (a.ok=b.ok∧a.place=b.place∧a.route=b.route∧a.increase=b.increase) (by cases a; cases b; simp)
def Qab.enc (x:Qab):List Lf:=[lI x.err,.str x.at_]
def Qao.enc (x:Qao):List Lf:=[lI x.t,lI x.a]
def Qas.enc (x:Qas):List Lf:=[lI x.from_,lI x.to_,lI x.profile,lI x.miles,lL 2 x.travel Qao.enc,lL 2 x.slow Qao.enc]
def Qam.enc (x:Qam):List Lf:=[lL 1 x.places QmO,lL 6 x.arcs Qas.enc]
def Qal.enc (x:Qal):List Lf:=[.str x.name,lI x.count,lI x.from_,lI x.to_,lL 1 x.cap Qay,lI x.skills,lI x.profile,lI x.open_,lI x.close,lI x.drive,lI x.rest_,lI x.fixed,lI x.perMile,lI x.perTick]
def Qaw.enc (x:Qaw):List Lf:=[lI x.place,lI x.open_,lI x.close,lI x.service]
def Qag.enc (x:Qag):List Lf:=[.str x.name,lL 1 x.load Qay,lI x.pick.place,lI x.pick.open_,lI x.pick.close,lI x.pick.service,lI x.drop.place,lI x.drop.open_,lI x.drop.close,lI x.drop.service,lI x.skills,lI x.penalty,lI x.split,lI x.last_,lI x.now,.bool x.off]
def QaR.enc (x:QaR):List Lf:=[lI x.x0,lI x.x1]
def Qac.enc (x:Qac):List Lf:=[lL 1 x.net.places QmO,lL 6 x.net.arcs Qas.enc,lL 14 x.types Qal.enc,lL 16 x.orders Qag.enc,lL 2 x.apart QaR.enc,lL 2 x.before QaR.enc]
def Qaa.enc (x:Qaa):List Lf:=[lI x.order,.bool x.drop]
def Qad.enc (x:Qad):List Lf:=[lI x.type_,lI x.start,lL 1 x.rests Qbd,lL 2 x.visits Qaa.enc]
def Qaz.enc (x:Qaz):List Lf:=[lL 1 x.x.net.places QmO,lL 6 x.x.net.arcs Qas.enc,lL 14 x.x.types Qal.enc,lL 16 x.x.orders Qag.enc,lL 2 x.x.apart QaR.enc,lL 2 x.x.before QaR.enc,.str x.t.name,lI x.t.count,lI x.t.from_,lI x.t.to_,lL 1 x.t.cap Qay,lI x.t.skills,lI x.t.profile,lI x.t.open_,lI x.t.close,lI x.t.drive,lI x.t.rest_,lI x.t.fixed,lI x.t.perMile,lI x.t.perTick,lI x.r.type_,lI x.r.start,lL 1 x.r.rests Qbd,lL 2 x.r.visits Qaa.enc,lL 4 x.stops Qaw.enc]
def Qar.enc (x:Qar):List Lf:=[lI x.arrive,lI x.begin,lI x.depart,.bool x.rest_]
def Qap.enc (x:Qap):List Lf:=[.bool x.rest_,lI x.depart,lL 4 x.times Qar.enc,lI x.end_,lI x.miles]
def Qaf.enc (x:Qaf):List Lf:=[lI x.ready,lI x.since,.bool x.sheet.rest_,lI x.sheet.depart,lL 4 x.sheet.times Qar.enc,lI x.sheet.end_,lI x.sheet.miles]
def QiY.enc (x:QiY):List Lf:=[lI x.from_,lI x.to_,lI x.profile]
def QAn.enc (x:QAn):List Lf:=[.int .u8 x.x0,.int .u8 x.x1,.int .u8 x.x2,.int .u8 x.x3,.int .u8 x.x4,.int .u8 x.x5,.int .u8 x.x6,.int .u8 x.x7,.int .u8 x.x8,.int .u8 x.x9,.int .u8 x.x10,.int .u8 x.x11,.int .u8 x.x12,.int .u8 x.x13,.int .u8 x.x14,.int .u8 x.x15,.int .u8 x.x16,.int .u8 x.x17,.int .u8 x.x18,.int .u8 x.x19,.int .u8 x.x20,.int .u8 x.x21,.int .u8 x.x22,.int .u8 x.x23]
def Qau.enc (x:Qau):List Lf:=[lI x.cost,lI x.moved,lI x.other,lI x.work]
def QzJ.enc (x:QzJ):List Lf:=[lI x.x0,lI x.x1,lI x.x2,lI x.x3]
def Qak.enc (x:Qak):List Lf:=[lL 4 x.routes Qad.enc,lL 1 x.unserved Qay]
def Qaq.enc (x:Qaq):List Lf:=[lI x.at_,lI x.route.type_,lI x.route.start,lL 1 x.route.rests Qbd,lL 2 x.route.visits Qaa.enc,lI x.increase]
def QfM.enc (x:QfM):List Lf:=[lI x.x0,lI x.x1,lI x.x2]
def QaA.enc (x:QaA):List Lf:=[lI x.place,lI x.time,lI x.driven,lI x.miles]
def QaL.enc (x:QaL):List Lf:=[.bool x.ok,lI x.route.type_,lI x.route.start,lL 1 x.route.rests Qbd,lL 2 x.route.visits Qaa.enc,lI x.price]
def Qai.enc (x:Qai):List Lf:=[.bool x.ok,lI x.place,lI x.route.type_,lI x.route.start,lL 1 x.route.rests Qbd,lL 2 x.route.visits Qaa.enc,lI x.increase]
def Qbf (l:List Int):List Lf:=[.sl false 1 (l.map Qay)]
def es_T_api_Visit.enc (l:List Qaa):List Lf:=[.sl false 2 (l.map Qaa.enc)]
def Qde:ByteArray:=⟨#[32]⟩
def QwU:ByteArray:=⟨#[45]⟩
def QlI:ByteArray:=⟨#[112,108,97,99,101,115]⟩
def QdQ:ByteArray:=⟨#[112,108,97,99,101,32]⟩
def QaZ:ByteArray:=⟨#[97,114,99,32]⟩
def QrU:ByteArray:=⟨#[97,114,99,115]⟩
def QvB:ByteArray:=⟨#[97,112,97,114,116]⟩
def Qus:ByteArray:=⟨#[98,101,102,111,114,101]⟩
def QxF:ByteArray:=⟨#[110,101,116]⟩
def Qyo:ByteArray:=⟨#[116,121,112,101,115]⟩
def QxG:ByteArray:=⟨#[111,114,100,101,114,115]⟩
def Qyn:ByteArray:=⟨#[114,117,108,101,115]⟩
def Qor:ByteArray:=⟨#[48,49,50,51,52,53,54,55,56,57,97,98,99,100,101,102,103,104,105,106,107,108,109,110,111,112,113,114,115,116,117,118,119,120,121,122]⟩
def Qoq:ByteArray:=⟨#[48,48,48,49,48,50,48,51,48,52,48,53,48,54,48,55,48,56,48,57,49,48,49,49,49,50,49,51,49,52,49,53,49,54,49,55,49,56,49,57,50,48,50,49,50,50,50,51,50,52,50,53,50,54,50,55,50,56,50,57,51,48,51,49,51,50,51,51,51,52,51,53,51,54,51,55,51,56,51,57,52,48,52,49,52,50,52,51,52,52,52,53,52,54,52,55,52,56,52,57,53,48,53,49,53,50,53,51,53,52,53,53,53,54,53,55,53,56,53,57,54,48,54,49,54,50,54,51,54,52,54,53,54,54,54,55,54,56,54,57,55,48,55,49,55,50,55,51,55,52,55,53,55,54,55,55,55,56,55,57,56,48,56,49,56,50,56,51,56,52,56,53,56,54,56,55,56,56,56,57,57,48,57,49,57,50,57,51,57,52,57,53,57,54,57,55,57,56,57,57]⟩
def Qos:ByteArray:=⟨#[0,1,2,2,3,3,3,3,4,4,4,4,4,4,4,4,5,5,5,5,5,5,5,5,5,5,5,5,5,5,5,5,6,6,6,6,6,6,6,6,6,6,6,6,6,6,6,6,6,6,6,6,6,6,6,6,6,6,6,6,6,6,6,6,7,7,7,7,7,7,7,7,7,7,7,7,7,7,7,7,7,7,7,7,7,7,7,7,7,7,7,7,7,7,7,7,7,7,7,7,7,7,7,7,7,7,7,7,7,7,7,7,7,7,7,7,7,7,7,7,7,7,7,7,7,7,7,7,8,8,8,8,8,8,8,8,8,8,8,8,8,8,8,8,8,8,8,8,8,8,8,8,8,8,8,8,8,8,8,8,8,8,8,8,8,8,8,8,8,8,8,8,8,8,8,8,8,8,8,8,8,8,8,8,8,8,8,8,8,8,8,8,8,8,8,8,8,8,8,8,8,8,8,8,8,8,8,8,8,8,8,8,8,8,8,8,8,8,8,8,8,8,8,8,8,8,8,8,8,8,8,8,8,8,8,8,8,8,8,8,8,8,8,8,8,8,8,8,8,8,8,8,8,8,8,8]⟩
def Qg6:ByteArray:=⟨#[72,117,98]⟩
def QlT:ByteArray:=⟨#[65]⟩
def QlU:ByteArray:=⟨#[66]⟩
def QrC:ByteArray:=⟨#[118]⟩
def Qt5:ByteArray:=⟨#[111]⟩
def Qt6:ByteArray:=⟨#[112]⟩
end Go.Proofs.YtpkkaboonnedfaaGreatDoor
namespace Go.Proofs.YtpkkaboonnedfaaGreatDoor
set_option linter.unusedVariables false
set_option linter.unusedSectionVars false
set_option linter.unusedSimpArgs false
noncomputable def QfY (word:ByteArray) (l:List Qab) (l1:List Qab) (i:Int) (at_:ByteArray):Option ((List Qab×Int)⊕(List Qab)):=bnd (getI l i) fun x1=>chk (okN (l1++[(Qab.mk x1.err at_)]).length 24) (some (.inl ((l1++[(Qab.mk x1.err at_)]),(addK .i64 i 1))))
noncomputable def QeI (word:ByteArray) (l:List Qab) (l1:List Qab) (i:Int):Option ((List Qab×Int)⊕(List Qab)):=br (ltI i (lenI l)) (bnd (getI l i) fun x0=>br (eqS x0.at_ ByteArray.empty) (QfY word l l1 i word) (chk (word.size+Qde.size≤9223372036854775807) (chk ((catS word Qde).size+x0.at_.size≤9223372036854775807) (QfY word l l1 i (catS (catS word Qde) x0.at_))))) (some (.inr l1))
noncomputable def Qgu (word:ByteArray) (l:List Qab):Option (List Qab):=bnd (QaT (fun s=>QeI word l s.1 s.2) ([],0)) (fun l2=>some l2)
noncomputable def QdL (n:Int) (s0:ByteArray) (left:Int) (d:Int):Option ((ByteArray×Int×Bool)⊕(ByteArray)):=chk ((QsI [(cvK .u8 (addK .i64 48 d))]).size+s0.size≤9223372036854775807) (some (.inl ((catS (QsI [(cvK .u8 (addK .i64 48 d))]) s0),(quoK .i64 left 10),(neI (quoK .i64 left 10) 0))))
noncomputable def Qgi (n:Int) (s0:ByteArray) (left:Int) (again:Bool):Option ((ByteArray×Int×Bool)⊕(ByteArray)):=br again (br (ltI (remK left 10) 0) (QdL n s0 left (subK .i64 0 (remK left 10))) (QdL n s0 left (remK left 10))) (some (.inr s0))
noncomputable def Qb3 (n:Int):Option ByteArray:=bnd (QaT (fun s=>Qgi n s.1 s.2.1 s.2.2) (ByteArray.empty,n,true)) (fun s1=>br (ltI n 0) (chk (QwU.size+s1.size≤9223372036854775807) (some (catS QwU s1))) (some s1))
noncomputable def Qjt (c:Int):Option Bool:=some ((geI c 48)&&(leI c 57))
noncomputable def QlP (c:Int):Option Bool:=some ((((geI c 97)&&(leI c 122))||((geI c 65)&&(leI c 90)))||(eqI c 95))
noncomputable def Qfa (s0:ByteArray) (b:UInt8) (i:Int):Option ((Int)⊕((Unit)⊕(Bool))):=br (ltI i (Qz7 s0)) (bnd (getS s0 i) fun b1=>bnd (QlP (QDK b1)) fun r1=>br r1 (some (.inl (addK .i64 i 1))) (bnd (Qjt (QDK b1)) fun r2=>br r2 (some (.inl (addK .i64 i 1))) (some (.inr (.inr false))))) (some (.inr (.inl ())))
noncomputable def Qf8 (s0:ByteArray):Option Bool:=br ((ltI (Qz7 s0) 1)||(gtI (Qz7 s0) 16)) (some false) (bnd (getS s0 0) fun b=>bnd (Qjt (QDK b)) fun r=>br r (some false) (bnd (QaT (fun s=>Qfa s0 b s) 0) (fun e=>sel e (fun (_:Unit)=>some true) (fun r3=>some r3))))
noncomputable def Qet (l:List Qao) (i:Int) (x0:Qao) (l3:List Qab):Option ((List Qab×Int)⊕(List Qab)):=br (gtI i 0) (bnd (getI l (subK .i64 i 1)) fun x1=>br (leI x0.t x1.t) (bnd (Qb3 i) fun r1=>chk (okN (l3++[(Qab.mk 13 r1)]).length 24) (some (.inl ((l3++[(Qab.mk 13 r1)]),(addK .i64 i 1))))) (br (ltI x0.a x1.a) (bnd (Qb3 i) fun r2=>chk (okN (l3++[(Qab.mk 13 r2)]).length 24) (some (.inl ((l3++[(Qab.mk 13 r2)]),(addK .i64 i 1))))) (some (.inl (l3,(addK .i64 i 1)))))) (some (.inl (l3,(addK .i64 i 1))))
noncomputable def QdE (l:List Qao) (l2:List Qab) (i:Int):Option ((List Qab×Int)⊕(List Qab)):=br (ltI i (lenI l)) (bnd (getI l i) fun x0=>br ((((ltI x0.t 0)||(gtI x0.t 4096))||(ltI x0.a x0.t))||(gtI x0.a (addK .i64 x0.t 4096))) (bnd (Qb3 i) fun r=>chk (okN (l2++[(Qab.mk 2 r)]).length 24) (Qet l i x0 (l2++[(Qab.mk 2 r)]))) (Qet l i x0 l2)) (some (.inr l2))
noncomputable def QfR (l:List Qao) (l1:List Qab):Option (List Qab):=bnd (QaT (fun s=>QdE l s.1 s.2) (l1,0)) (fun l4=>some l4)
noncomputable def Qfq (l:List Qao):Option (List Qab):=br ((ltI (lenI l) 1)||(gtI (lenI l) 16)) (chk (okN [(Qab.mk 4 ByteArray.empty)].length 24) (QfR l [(Qab.mk 4 ByteArray.empty)])) (QfR l [])
noncomputable def Qg8 (t:Int):Option Bool:=some ((geI t 0)&&(leI t 4096))
noncomputable def Qcd (n:Qam) (i:Int) (r:ByteArray) (x0:Qas) (l:List Qab) (l1:List Qab) (twice:Bool) (k:Int):Option ((Bool×Int)⊕(Bool)):=br (ltI k i) (bnd (getI n.arcs k) fun x1=>some (.inl ((twice||(((eqI x0.from_ x1.from_)&&(eqI x0.to_ x1.to_))&&(eqI x0.profile x1.profile))),(addK .i64 k 1)))) (some (.inr twice))
noncomputable def Qce (r:ByteArray) (x0:Qas) (l:List Qab) (r1:List Qab) (l3:List Qab) (k1:Int):Option ((List Qab×Int)⊕(List Qab)):=br (ltI k1 (lenI r1)) (bnd (getI r1 k1) fun x2=>chk (okN (l3++[(Qab.mk x2.err (catS QaZ r))]).length 24) (some (.inl ((l3++[(Qab.mk x2.err (catS QaZ r))]),(addK .i64 k1 1))))) (some (.inr l3))
noncomputable def Qcf (r:ByteArray) (x0:Qas) (l:List Qab) (l6:List Qab) (k2:Int):Option ((List Qab×Int)⊕(List Qab)):=br (ltI k2 (lenI x0.slow)) (bnd (getI x0.slow k2) fun x3=>bnd (Qg8 x3.t) fun r2=>br r2 (bnd (Qg8 x3.a) fun r3=>br r3 (br (gtI k2 0) (bnd (getI x0.slow (subK .i64 k2 1)) fun x4=>br (leI x3.t x4.t) (chk (okN (l6++[(Qab.mk 2 (catS QaZ r))]).length 24) (some (.inl ((l6++[(Qab.mk 2 (catS QaZ r))]),(addK .i64 k2 1))))) (some (.inl (l6,(addK .i64 k2 1))))) (some (.inl (l6,(addK .i64 k2 1))))) (chk (okN (l6++[(Qab.mk 2 (catS QaZ r))]).length 24) (some (.inl ((l6++[(Qab.mk 2 (catS QaZ r))]),(addK .i64 k2 1)))))) (chk (okN (l6++[(Qab.mk 2 (catS QaZ r))]).length 24) (some (.inl ((l6++[(Qab.mk 2 (catS QaZ r))]),(addK .i64 k2 1)))))) (some (.inr l6))
noncomputable def QbO (r:ByteArray) (x0:Qas) (l:List Qab) (l5:List Qab):Option (List Qab):=bnd (QaT (fun s=>Qcf r x0 l s.1 s.2) (l5,0)) (fun l7=>some l7)
noncomputable def Qcc (r:ByteArray) (x0:Qas) (l:List Qab) (l2:List Qab):Option (List Qab):=bnd (Qfq x0.travel) fun r1=>bnd (QaT (fun s=>Qce r x0 l r1 s.1 s.2) (l2,0)) (fun l4=>br (gtI (lenI x0.slow) 16) (chk (okN (l4++[(Qab.mk 4 (catS QaZ r))]).length 24) (QbO r x0 l (l4++[(Qab.mk 4 (catS QaZ r))]))) (QbO r x0 l l4))
noncomputable def Qdx (n:Qam) (i:Int) (r:ByteArray) (x0:Qas) (l:List Qab) (l1:List Qab):Option (List Qab):=bnd (QaT (fun s=>Qcd n i r x0 l l1 s.1 s.2) (false,0)) (fun twice1=>br twice1 (chk (okN (l1++[(Qab.mk 6 (catS QaZ r))]).length 24) (Qcc r x0 l (l1++[(Qab.mk 6 (catS QaZ r))]))) (Qcc r x0 l l1))
noncomputable def Qdw (n:Qam) (i:Int) (r:ByteArray) (x0:Qas) (l:List Qab):Option (List Qab):=br (((((ltI x0.profile 0)||(gtI x0.profile 7))||(ltI x0.miles 0))||(gtI x0.miles 10000))||(eqI x0.from_ x0.to_)) (chk (okN (l++[(Qab.mk 2 (catS QaZ r))]).length 24) (Qdx n i r x0 l (l++[(Qab.mk 2 (catS QaZ r))]))) (Qdx n i r x0 l l)
noncomputable def QfT (n:Qam) (i:Int):Option (List Qab):=bnd (Qb3 i) fun r=>chk (QaZ.size+r.size≤9223372036854775807) (bnd (getI n.arcs i) fun x0=>br ((((ltI x0.from_ 0)||(geI x0.from_ (lenI n.places)))||(ltI x0.to_ 0))||(geI x0.to_ (lenI n.places))) (chk (okN [(Qab.mk 11 (catS QaZ r))].length 24) (Qdw n i r x0 [(Qab.mk 11 (catS QaZ r))])) (Qdw n i r x0 []))
noncomputable def Qbi (n:Qam) (l:List Qab) (l1:List Qab) (i:Int) (r:ByteArray) (twice:Bool) (k:Int):Option ((Bool×Int)⊕(Bool)):=br (ltI k i) (br twice (some (.inl (true,(addK .i64 k 1)))) (bnd (getI n.places k) fun x1=>bnd (getI n.places i) fun x2=>some (.inl ((eqS x1 x2),(addK .i64 k 1))))) (some (.inr twice))
noncomputable def Qbh (n:Qam) (l:List Qab) (l1:List Qab) (i:Int):Option ((List Qab×Int)⊕(List Qab)):=br (ltI i (lenI n.places)) (bnd (Qb3 i) fun r=>chk (QdQ.size+r.size≤9223372036854775807) (bnd (getI n.places i) fun x0=>bnd (Qf8 x0) fun r1=>br r1 (bnd (QaT (fun s=>Qbi n l l1 i r s.1 s.2) (false,0)) (fun twice1=>br twice1 (chk (okN (l1++[(Qab.mk 6 (catS QdQ r))]).length 24) (some (.inl ((l1++[(Qab.mk 6 (catS QdQ r))]),(addK .i64 i 1))))) (some (.inl (l1,(addK .i64 i 1)))))) (chk (okN (l1++[(Qab.mk 5 (catS QdQ r))]).length 24) (some (.inl ((l1++[(Qab.mk 5 (catS QdQ r))]),(addK .i64 i 1))))))) (some (.inr l1))
noncomputable def Qcz (n:Qam) (l:List Qab):Option (List Qab):=bnd (QaT (fun s=>Qbh n l s.1 s.2) (l,0)) (fun l2=>some l2)
noncomputable def Qdp (n:Qam):Option (List Qab):=br (gtI (lenI n.places) 24) (chk (okN [(Qab.mk 4 QlI)].length 24) (Qcz n [(Qab.mk 4 QlI)])) (Qcz n [])
noncomputable def Qdg (n:Qam) (l:List Qab) (l1:List Qab) (i:Int):Option ((List Qab×Int)⊕(List Qab)):=br (ltI i (lenI n.arcs)) (bnd (QfT n i) fun r1=>chk (okN (l1++r1).length 24) (some (.inl ((l1++r1),(addK .i64 i 1))))) (some (.inr l1))
noncomputable def QfS (n:Qam) (l:List Qab):Option (List Qab):=bnd (QaT (fun s=>Qdg n l s.1 s.2) (l,0)) (fun l2=>some l2)
noncomputable def QhI (n:Qam):Option (List Qab):=bnd (Qdp n) fun r=>br (gtI (lenI n.arcs) 1024) (chk (okN (r++[(Qab.mk 4 QrU)]).length 24) (QfS n (r++[(Qab.mk 4 QrU)]))) (QfS n r)
noncomputable def QaW (n:Int) (lo:Int) (hi:Int):Option Bool:=some ((geI n lo)&&(leI n hi))
noncomputable def Qf9 (l:List Qal):Option Int:=br (eqI (lenI l) 0) (some 0) (bnd (getI l 0) fun x0=>some (lenI x0.cap))
noncomputable def QcA (l:List Qal) (at_:Int) (name:ByteArray) (i:Int):Option ((Int)⊕((Unit)⊕(Bool))):=br (ltI i at_) (bnd (getI l i) fun x0=>br (eqS x0.name name) (some (.inr (.inr true))) (some (.inl (addK .i64 i 1)))) (some (.inr (.inl ())))
noncomputable def QhK (l:List Qal) (at_:Int) (name:ByteArray):Option Bool:=bnd (QaT (fun s=>QcA l at_ name s) 0) (fun e=>sel e (fun (_:Unit)=>some false) (fun r=>some r))
noncomputable def QbP (l:List Int) (i:Int):Option ((Int)⊕((Unit)⊕(Bool))):=br (ltI i (lenI l)) (bnd (getI l i) fun x0=>bnd (QaW x0 0 1000) fun r1=>br r1 (some (.inl (addK .i64 i 1))) (some (.inr (.inr false)))) (some (.inr (.inl ())))
noncomputable def Qeu (l:List Int) (dims:Int):Option Bool:=bnd (QaW (lenI l) 1 3) fun r=>br ((!r)||(neI (lenI l) dims)) (some false) (bnd (QaT (fun s=>QbP l s) 0) (fun e=>sel e (fun (_:Unit)=>some true) (fun r2=>some r2)))
noncomputable def QeC (x0:Qal) (l8:List Int):Option (List Int):=bnd (QaW x0.profile 0 7) fun r11=>br r11 (bnd (QaW x0.fixed 0 100000) fun r12=>br r12 (bnd (QaW x0.perMile 0 100) fun r13=>br r13 (bnd (QaW x0.perTick 0 100) fun r14=>br r14 (some l8) (chk (okN (l8++[2]).length 8) (some (l8++[2])))) (chk (okN (l8++[2]).length 8) (some (l8++[2])))) (chk (okN (l8++[2]).length 8) (some (l8++[2])))) (chk (okN (l8++[2]).length 8) (some (l8++[2])))
noncomputable def QeB (x0:Qal) (l7:List Int):Option (List Int):=bnd (QaW x0.drive 1 4096) fun r9=>br r9 (bnd (QaW x0.rest_ 0 4096) fun r10=>br r10 (QeC x0 l7) (chk (okN (l7++[16]).length 8) (QeC x0 (l7++[16])))) (chk (okN (l7++[16]).length 8) (bnd (QaW x0.profile 0 7) fun r15=>br r15 (bnd (QaW x0.fixed 0 100000) fun r16=>br r16 (bnd (QaW x0.perMile 0 100) fun r17=>br r17 (bnd (QaW x0.perTick 0 100) fun r18=>br r18 (some (l7++[16])) (chk (okN ((l7++[16])++[2]).length 8) (some ((l7++[16])++[2])))) (chk (okN ((l7++[16])++[2]).length 8) (some ((l7++[16])++[2])))) (chk (okN ((l7++[16])++[2]).length 8) (some ((l7++[16])++[2])))) (chk (okN ((l7++[16])++[2]).length 8) (some ((l7++[16])++[2])))))
noncomputable def QeA (x0:Qal) (l6:List Int):Option (List Int):=bnd (QaW x0.open_ 0 x0.close) fun r8=>br ((!r8)||(gtI x0.close 4096)) (chk (okN (l6++[15]).length 8) (QeB x0 (l6++[15]))) (QeB x0 l6)
noncomputable def Qez (x0:Qal) (l5:List Int):Option (List Int):=bnd (QaW x0.skills 0 1073741823) fun r7=>br r7 (QeA x0 l5) (chk (okN (l5++[18]).length 8) (QeA x0 (l5++[18])))
noncomputable def Qey (l:List Qal) (x0:Qal) (l4:List Int):Option (List Int):=bnd (Qf9 l) fun r5=>bnd (Qeu x0.cap r5) fun r6=>br r6 (Qez x0 l4) (chk (okN (l4++[17]).length 8) (Qez x0 (l4++[17])))
noncomputable def QgL (x0:Qal) (l12:List Int):Option (List Int):=bnd (QaW x0.profile 0 7) fun r25=>br r25 (bnd (QaW x0.fixed 0 100000) fun r26=>br r26 (bnd (QaW x0.perMile 0 100) fun r27=>br r27 (bnd (QaW x0.perTick 0 100) fun r28=>br r28 (some l12) (chk (okN (l12++[2]).length 8) (some (l12++[2])))) (chk (okN (l12++[2]).length 8) (some (l12++[2])))) (chk (okN (l12++[2]).length 8) (some (l12++[2])))) (chk (okN (l12++[2]).length 8) (some (l12++[2])))
noncomputable def QgK (x0:Qal) (l11:List Int):Option (List Int):=bnd (QaW x0.drive 1 4096) fun r23=>br r23 (bnd (QaW x0.rest_ 0 4096) fun r24=>br r24 (QgL x0 l11) (chk (okN (l11++[16]).length 8) (QgL x0 (l11++[16])))) (chk (okN (l11++[16]).length 8) (bnd (QaW x0.profile 0 7) fun r29=>br r29 (bnd (QaW x0.fixed 0 100000) fun r30=>br r30 (bnd (QaW x0.perMile 0 100) fun r31=>br r31 (bnd (QaW x0.perTick 0 100) fun r32=>br r32 (some (l11++[16])) (chk (okN ((l11++[16])++[2]).length 8) (some ((l11++[16])++[2])))) (chk (okN ((l11++[16])++[2]).length 8) (some ((l11++[16])++[2])))) (chk (okN ((l11++[16])++[2]).length 8) (some ((l11++[16])++[2])))) (chk (okN ((l11++[16])++[2]).length 8) (some ((l11++[16])++[2])))))
noncomputable def QgJ (x0:Qal) (l10:List Int):Option (List Int):=bnd (QaW x0.open_ 0 x0.close) fun r22=>br ((!r22)||(gtI x0.close 4096)) (chk (okN (l10++[15]).length 8) (QgK x0 (l10++[15]))) (QgK x0 l10)
noncomputable def Qhs (x0:Qal) (l9:List Int):Option (List Int):=bnd (QaW x0.skills 0 1073741823) fun r21=>br r21 (QgJ x0 l9) (chk (okN (l9++[18]).length 8) (QgJ x0 (l9++[18])))
noncomputable def Qex (n:Qam) (l:List Qal) (x0:Qal) (l3:List Int):Option (List Int):=bnd (QaW x0.from_ 0 (subK .i64 (lenI n.places) 1)) fun r3=>br r3 (bnd (QaW x0.to_ 0 (subK .i64 (lenI n.places) 1)) fun r4=>br r4 (Qey l x0 l3) (chk (okN (l3++[11]).length 8) (Qey l x0 (l3++[11])))) (chk (okN (l3++[11]).length 8) (bnd (Qf9 l) fun r19=>bnd (Qeu x0.cap r19) fun r20=>br r20 (Qhs x0 (l3++[11])) (chk (okN ((l3++[11])++[17]).length 8) (Qhs x0 ((l3++[11])++[17])))))
noncomputable def Qew (n:Qam) (l:List Qal) (x0:Qal) (l2:List Int):Option (List Int):=bnd (QaW x0.count 0 10) fun r2=>br r2 (Qex n l x0 l2) (chk (okN (l2++[22]).length 8) (Qex n l x0 (l2++[22])))
noncomputable def Qev (n:Qam) (l:List Qal) (at_:Int) (x0:Qal) (l1:List Int):Option (List Int):=bnd (QhK l at_ x0.name) fun r1=>br r1 (chk (okN (l1++[6]).length 8) (Qew n l x0 (l1++[6]))) (Qew n l x0 l1)
noncomputable def QhL (n:Qam) (l:List Qal) (at_:Int):Option (List Int):=bnd (getI l at_) fun x0=>bnd (Qf8 x0.name) fun r=>br r (Qev n l at_ x0 []) (chk (okN [5].length 8) (Qev n l at_ x0 [5]))
noncomputable def Qhr (n:Qam) (l:List Qal) (i:Int) (r1:List Int) (l3:List Qab) (k:Int):Option ((List Qab×Int)⊕(List Qab)):=br (ltI k (lenI r1)) (bnd (getI r1 k) fun x0=>bnd (Qb3 i) fun r2=>chk (okN (l3++[(Qab.mk x0 r2)]).length 24) (some (.inl ((l3++[(Qab.mk x0 r2)]),(addK .i64 k 1))))) (some (.inr l3))
noncomputable def Qdh (n:Qam) (l:List Qal) (l2:List Qab) (i:Int):Option ((List Qab×Int)⊕(List Qab)):=br (ltI i (lenI l)) (bnd (QhL n l i) fun r1=>bnd (QaT (fun s=>Qhr n l i r1 s.1 s.2) (l2,0)) (fun l4=>some (.inl (l4,(addK .i64 i 1))))) (some (.inr l2))
noncomputable def QfU (n:Qam) (l:List Qal) (l1:List Qab):Option (List Qab):=bnd (QaT (fun s=>Qdh n l s.1 s.2) (l1,0)) (fun l5=>some l5)
noncomputable def QhJ (n:Qam) (l:List Qal):Option (List Qab):=bnd (QaW (lenI l) 1 6) fun r=>br r (QfU n l []) (chk (okN [(Qab.mk 4 ByteArray.empty)].length 24) (QfU n l [(Qab.mk 4 ByteArray.empty)]))
noncomputable def QbQ (n:Int) (low:Int) (high:Int):Option Bool:=some ((geI n low)&&(leI n high))
noncomputable def Qcx (a:List Int) (i:Int):Option ((Int)⊕((Unit)⊕(Bool))):=br (ltI i (lenI a)) (bnd (getI a i) fun x0=>br (ltI x0 0) (some (.inr (.inr false))) (br (gtI x0 1000) (some (.inr (.inr false))) (some (.inl (addK .i64 i 1))))) (some (.inr (.inl ())))
noncomputable def Qfp (a:List Int) (dims:Int):Option Bool:=br (neI (lenI a) dims) (some false) (bnd (QaT (fun s=>Qcx a s) 0) (fun e=>sel e (fun (_:Unit)=>some true) (fun r=>some r)))
noncomputable def Qeo (s0:Qaw):Option Int:=br ((((eqI s0.place (-1))&&(eqI s0.open_ 0))&&(eqI s0.close 0))&&(eqI s0.service 0)) (some 0) (br ((((((ltI s0.place 0)||(ltI s0.open_ 0))||(gtI s0.open_ s0.close))||(gtI s0.close 4096))||(ltI s0.service 0))||(gtI s0.service 4096)) (some 2) (some 0))
noncomputable def QcB (places:Int) (dims:Int) (types:Int) (l:List Qag) (at_:Int) (x0:Qag) (l1:List Int) (i:Int):Option ((Int)⊕(List Int)):=br (ltI i at_) (bnd (getI l i) fun x1=>br (eqS x1.name x0.name) (chk (okN (l1++[6]).length 8) (some (.inr (l1++[6])))) (some (.inl (addK .i64 i 1)))) (some (.inr l1))
noncomputable def QeG (types:Int) (x0:Qag) (l6:List Int):Option (List Int):=bnd (QbQ x0.penalty (-1) 1000000) fun r6=>br r6 (bnd (QbQ x0.split 1 4) fun r7=>br ((((((!r7)||((gtI x0.split 1)&&((neI x0.pick.place (-1))&&(neI x0.drop.place (-1)))))||(ltI x0.last_ (-1)))||(geI x0.last_ types))||(ltI x0.now (-1)))||(geI x0.now types)) (chk (okN (l6++[2]).length 8) (some (l6++[2]))) (some l6)) (chk (okN (l6++[2]).length 8) (some (l6++[2])))
noncomputable def Qhu (types:Int) (x0:Qag) (l8:List Int):Option (List Int):=bnd (QbQ x0.penalty (-1) 1000000) fun r10=>br r10 (bnd (QbQ x0.split 1 4) fun r11=>br ((((((!r11)||((gtI x0.split 1)&&((neI x0.pick.place (-1))&&(neI x0.drop.place (-1)))))||(ltI x0.last_ (-1)))||(geI x0.last_ types))||(ltI x0.now (-1)))||(geI x0.now types)) (chk (okN (l8++[2]).length 8) (some (l8++[2]))) (some l8)) (chk (okN (l8++[2]).length 8) (some (l8++[2])))
noncomputable def QeH (types:Int) (x0:Qag) (l7:List Int):Option (List Int):=bnd (QbQ x0.skills 0 1073741823) fun r9=>br r9 (Qhu types x0 l7) (chk (okN (l7++[18]).length 8) (Qhu types x0 (l7++[18])))
noncomputable def QeF (types:Int) (x0:Qag) (l5:List Int):Option (List Int):=bnd (Qeo x0.pick) fun r4=>br (neI r4 0) (chk (okN (l5++[14]).length 8) (bnd (QbQ x0.skills 0 1073741823) fun r5=>br r5 (QeG types x0 (l5++[14])) (chk (okN ((l5++[14])++[18]).length 8) (QeG types x0 ((l5++[14])++[18]))))) (bnd (Qeo x0.drop) fun r8=>br (neI r8 0) (chk (okN (l5++[14]).length 8) (QeH types x0 (l5++[14]))) (QeH types x0 l5))
noncomputable def QeE (types:Int) (x0:Qag) (l4:List Int):Option (List Int):=br ((eqI x0.pick.place (-1))&&(eqI x0.drop.place (-1))) (chk (okN (l4++[19]).length 8) (QeF types x0 (l4++[19]))) (QeF types x0 l4)
noncomputable def Qhw (types:Int) (x0:Qag) (l10:List Int):Option (List Int):=bnd (QbQ x0.penalty (-1) 1000000) fun r14=>br r14 (bnd (QbQ x0.split 1 4) fun r15=>br ((((((!r15)||((gtI x0.split 1)&&((neI x0.pick.place (-1))&&(neI x0.drop.place (-1)))))||(ltI x0.last_ (-1)))||(geI x0.last_ types))||(ltI x0.now (-1)))||(geI x0.now types)) (chk (okN (l10++[2]).length 8) (some (l10++[2]))) (some l10)) (chk (okN (l10++[2]).length 8) (some (l10++[2])))
noncomputable def QgN (types:Int) (x0:Qag) (l12:List Int):Option (List Int):=bnd (QbQ x0.penalty (-1) 1000000) fun r18=>br r18 (bnd (QbQ x0.split 1 4) fun r19=>br ((((((!r19)||((gtI x0.split 1)&&((neI x0.pick.place (-1))&&(neI x0.drop.place (-1)))))||(ltI x0.last_ (-1)))||(geI x0.last_ types))||(ltI x0.now (-1)))||(geI x0.now types)) (chk (okN (l12++[2]).length 8) (some (l12++[2]))) (some l12)) (chk (okN (l12++[2]).length 8) (some (l12++[2])))
noncomputable def QgM (types:Int) (x0:Qag) (l11:List Int):Option (List Int):=bnd (QbQ x0.skills 0 1073741823) fun r17=>br r17 (QgN types x0 l11) (chk (okN (l11++[18]).length 8) (QgN types x0 (l11++[18])))
noncomputable def Qhv (types:Int) (x0:Qag) (l9:List Int):Option (List Int):=bnd (Qeo x0.pick) fun r12=>br (neI r12 0) (chk (okN (l9++[14]).length 8) (bnd (QbQ x0.skills 0 1073741823) fun r13=>br r13 (Qhw types x0 (l9++[14])) (chk (okN ((l9++[14])++[18]).length 8) (Qhw types x0 ((l9++[14])++[18]))))) (bnd (Qeo x0.drop) fun r16=>br (neI r16 0) (chk (okN (l9++[14]).length 8) (QgM types x0 (l9++[14]))) (QgM types x0 l9))
noncomputable def Qb6 (places:Int) (types:Int) (x0:Qag) (l3:List Int):Option (List Int):=bnd (QbQ x0.pick.place (-1) (subK .i64 places 1)) fun r2=>br r2 (bnd (QbQ x0.drop.place (-1) (subK .i64 places 1)) fun r3=>br r3 (QeE types x0 l3) (chk (okN (l3++[11]).length 8) (QeE types x0 (l3++[11])))) (chk (okN (l3++[11]).length 8) (br ((eqI x0.pick.place (-1))&&(eqI x0.drop.place (-1))) (chk (okN ((l3++[11])++[19]).length 8) (Qhv types x0 ((l3++[11])++[19]))) (Qhv types x0 (l3++[11]))))
noncomputable def QeD (places:Int) (dims:Int) (types:Int) (l:List Qag) (at_:Int) (x0:Qag) (l1:List Int):Option (List Int):=bnd (QaT (fun s=>QcB places dims types l at_ x0 l1 s) 0) (fun l2=>bnd (Qfp x0.load dims) fun r1=>br r1 (Qb6 places types x0 l2) (chk (okN (l2++[17]).length 8) (Qb6 places types x0 (l2++[17]))))
noncomputable def QhN (places:Int) (dims:Int) (types:Int) (l:List Qag) (at_:Int):Option (List Int):=bnd (getI l at_) fun x0=>bnd (Qf8 x0.name) fun r=>br r (QeD places dims types l at_ x0 []) (chk (okN [5].length 8) (QeD places dims types l at_ x0 [5]))
noncomputable def Qht (n:Qam) (dims:Int) (types:Int) (l:List Qag) (i:Int) (r:List Int) (l3:List Qab) (k:Int):Option ((List Qab×Int)⊕(List Qab)):=br (ltI k (lenI r)) (bnd (getI r k) fun x0=>bnd (Qb3 i) fun r1=>chk (okN (l3++[(Qab.mk x0 r1)]).length 24) (some (.inl ((l3++[(Qab.mk x0 r1)]),(addK .i64 k 1))))) (some (.inr l3))
noncomputable def Qdi (n:Qam) (dims:Int) (types:Int) (l:List Qag) (l2:List Qab) (i:Int):Option ((List Qab×Int)⊕(List Qab)):=br (ltI i (lenI l)) (bnd (QhN (lenI n.places) dims types l i) fun r=>bnd (QaT (fun s=>Qht n dims types l i r s.1 s.2) (l2,0)) (fun l4=>some (.inl (l4,(addK .i64 i 1))))) (some (.inr l2))
noncomputable def QfW (n:Qam) (dims:Int) (types:Int) (l:List Qag) (l1:List Qab):Option (List Qab):=bnd (QaT (fun s=>Qdi n dims types l s.1 s.2) (l1,0)) (fun l5=>some l5)
noncomputable def QhM (n:Qam) (dims:Int) (types:Int) (l:List Qag):Option (List Qab):=br (gtI (lenI l) 10) (chk (okN [(Qab.mk 4 ByteArray.empty)].length 24) (QfW n dims types l [(Qab.mk 4 ByteArray.empty)])) (QfW n dims types l [])
noncomputable def QdM (n1:Int) (s0:ByteArray):Option ((Int×ByteArray)⊕(Int×ByteArray)):=br (geI n1 10) (chk ((QsI [(cvK .u8 (addK .i64 48 (remK n1 10)))]).size+s0.size≤9223372036854775807) (some (.inl ((quoK .i64 n1 10),(catS (QsI [(cvK .u8 (addK .i64 48 (remK n1 10)))]) s0))))) (some (.inr (n1,s0)))
noncomputable def Qfd (n:Int):Option ByteArray:=bnd (QaT (fun s=>QdM s.1 s.2) (n,ByteArray.empty)) (fun e0=>(fun n2 s1=>chk ((QsI [(cvK .u8 (addK .i64 48 n2))]).size+s1.size≤9223372036854775807) (some (catS (QsI [(cvK .u8 (addK .i64 48 n2))]) s1))) e0.1 e0.2)
noncomputable def Qd0 (orders:Int) (l:List QaR) (word:ByteArray) (turned:Bool) (l2:List Qab) (i:Int) (x0:QaR) (r:ByteArray) (twice:Bool) (k:Int):Option ((Bool×Int)⊕(Bool)):=br (ltI k i) (br twice (some (.inl (true,(addK .i64 k 1)))) (bnd (getI l k) fun x1=>br (eqI x1.x0 x0.x0) (br (eqI x1.x1 x0.x1) (some (.inl (true,(addK .i64 k 1)))) (br turned (br (eqI x1.x0 x0.x1) (some (.inl ((eqI x1.x1 x0.x0),(addK .i64 k 1)))) (some (.inl (false,(addK .i64 k 1))))) (some (.inl (false,(addK .i64 k 1)))))) (br turned (br (eqI x1.x0 x0.x1) (some (.inl ((eqI x1.x1 x0.x0),(addK .i64 k 1)))) (some (.inl (false,(addK .i64 k 1))))) (some (.inl (false,(addK .i64 k 1))))))) (some (.inr twice))
noncomputable def QcT (orders:Int) (l:List QaR) (word:ByteArray) (turned:Bool) (l2:List Qab) (i:Int):Option ((List Qab×Int)⊕(List Qab)):=br (ltI i (lenI l)) (bnd (getI l i) fun x0=>chk (word.size+Qde.size≤9223372036854775807) (bnd (Qfd i) fun r=>chk ((catS word Qde).size+r.size≤9223372036854775807) (br (((((ltI x0.x0 0)||(geI x0.x0 orders))||(ltI x0.x1 0))||(geI x0.x1 orders))||(eqI x0.x0 x0.x1)) (chk (okN (l2++[(Qab.mk 2 (catS (catS word Qde) r))]).length 24) (some (.inl ((l2++[(Qab.mk 2 (catS (catS word Qde) r))]),(addK .i64 i 1))))) (bnd (QaT (fun s=>Qd0 orders l word turned l2 i x0 r s.1 s.2) (false,0)) (fun twice1=>br twice1 (chk (okN (l2++[(Qab.mk 6 (catS (catS word Qde) r))]).length 24) (some (.inl ((l2++[(Qab.mk 6 (catS (catS word Qde) r))]),(addK .i64 i 1))))) (some (.inl (l2,(addK .i64 i 1))))))))) (some (.inr l2))
noncomputable def Qfr (orders:Int) (l:List QaR) (word:ByteArray) (turned:Bool) (l1:List Qab):Option (List Qab):=bnd (QaT (fun s=>QcT orders l word turned s.1 s.2) (l1,0)) (fun l3=>some l3)
noncomputable def Qg0 (orders:Int) (l:List QaR) (word:ByteArray) (turned:Bool):Option (List Qab):=br (gtI (lenI l) 16) (chk (okN [(Qab.mk 4 word)].length 24) (Qfr orders l word turned [(Qab.mk 4 word)])) (Qfr orders l word turned [])
noncomputable def QeU (orders:Int) (l:List QaR) (word:ByteArray) (turned:Bool) (l2:List Qab) (i:Int) (x0:QaR) (r:ByteArray) (twice:Bool) (k:Int):Option ((Bool×Int)⊕(Bool)):=br (ltI k i) (br twice (some (.inl (true,(addK .i64 k 1)))) (bnd (getI l k) fun x1=>br (eqI x1.x0 x0.x0) (br (eqI x1.x1 x0.x1) (some (.inl (true,(addK .i64 k 1)))) (br turned (br (eqI x1.x0 x0.x1) (some (.inl ((eqI x1.x1 x0.x0),(addK .i64 k 1)))) (some (.inl (false,(addK .i64 k 1))))) (some (.inl (false,(addK .i64 k 1)))))) (br turned (br (eqI x1.x0 x0.x1) (some (.inl ((eqI x1.x1 x0.x0),(addK .i64 k 1)))) (some (.inl (false,(addK .i64 k 1))))) (some (.inl (false,(addK .i64 k 1))))))) (some (.inr twice))
noncomputable def QeT (orders:Int) (l:List QaR) (word:ByteArray) (turned:Bool) (l2:List Qab) (i:Int):Option ((List Qab×Int)⊕(List Qab)):=br (ltI i (lenI l)) (bnd (getI l i) fun x0=>chk (word.size+Qde.size≤9223372036854775807) (bnd (Qfd i) fun r=>chk ((catS word Qde).size+r.size≤9223372036854775807) (br (((((ltI x0.x0 0)||(geI x0.x0 orders))||(ltI x0.x1 0))||(geI x0.x1 orders))||(eqI x0.x0 x0.x1)) (chk (okN (l2++[(Qab.mk 2 (catS (catS word Qde) r))]).length 24) (some (.inl ((l2++[(Qab.mk 2 (catS (catS word Qde) r))]),(addK .i64 i 1))))) (bnd (QaT (fun s=>QeU orders l word turned l2 i x0 r s.1 s.2) (false,0)) (fun twice1=>br twice1 (chk (okN (l2++[(Qab.mk 6 (catS (catS word Qde) r))]).length 24) (some (.inl ((l2++[(Qab.mk 6 (catS (catS word Qde) r))]),(addK .i64 i 1))))) (some (.inl (l2,(addK .i64 i 1))))))))) (some (.inr l2))
noncomputable def QeS (orders:Int) (l:List QaR) (word:ByteArray) (turned:Bool) (l1:List Qab):Option (List Qab):=bnd (QaT (fun s=>QeT orders l word turned s.1 s.2) (l1,0)) (fun l3=>some l3)
noncomputable def Qij (orders:Int) (l:List QaR) (word:ByteArray) (turned:Bool):Option (List Qab):=br (gtI (lenI l) 16) (chk (okN [(Qab.mk 4 word)].length 24) (QeS orders l word turned [(Qab.mk 4 word)])) (QeS orders l word turned [])
noncomputable def QhO (orders:Int) (apart:List QaR) (before:List QaR):Option (List Qab):=bnd (Qij orders apart QvB true) fun r=>bnd (Qg0 orders before Qus false) fun r1=>chk (okN (r++r1).length 24) (some (r++r1))
noncomputable def Qfw (word:ByteArray) (l:List Qab) (l1:List Qab) (i:Int) (at_:ByteArray):Option ((List Qab×Int)⊕(List Qab)):=bnd (getI l i) fun x1=>chk (okN (l1++[(Qab.mk x1.err at_)]).length 24) (some (.inl ((l1++[(Qab.mk x1.err at_)]),(addK .i64 i 1))))
noncomputable def Qfx (word:ByteArray) (l:List Qab) (l1:List Qab) (i:Int):Option ((List Qab×Int)⊕(List Qab)):=br (ltI i (lenI l)) (bnd (getI l i) fun x0=>br (eqS x0.at_ ByteArray.empty) (Qfw word l l1 i word) (chk (word.size+Qde.size≤9223372036854775807) (chk ((catS word Qde).size+x0.at_.size≤9223372036854775807) (Qfw word l l1 i (catS (catS word Qde) x0.at_))))) (some (.inr l1))
noncomputable def QgO (word:ByteArray) (l:List Qab):Option (List Qab):=bnd (QaT (fun s=>Qfx word l s.1 s.2) ([],0)) (fun l2=>some l2)
noncomputable def QhP (x0:Qac):Option (List Qab):=bnd (QhI x0.net) fun r=>bnd (QgO QxF r) fun r1=>bnd (QhJ x0.net x0.types) fun r2=>bnd (Qgu Qyo r2) fun r3=>chk (okN (r1++r3).length 24) (bnd (Qf9 x0.types) fun r4=>bnd (QhM x0.net r4 (lenI x0.types) x0.orders) fun r5=>bnd (Qgu QxG r5) fun r6=>chk (okN ((r1++r3)++r6).length 24) (bnd (QhO (lenI x0.orders) x0.apart x0.before) fun r7=>bnd (Qgu Qyn r7) fun r8=>chk (okN (((r1++r3)++r6)++r8).length 24) (some (((r1++r3)++r6)++r8))))
noncomputable def QhG (x0:Qac):Option Bool:=bnd (QhP x0) fun r=>some (eqI (lenI r) 0)
noncomputable def QmY (l:List Qag) (at_:Int):Option Bool:=some ((geI at_ 0)&&(ltI at_ (lenI l)))
noncomputable def Qhe (l:List Qag) (at_:Int) (l1:List Qaa):Option (List Qaa):=bnd (getI l at_) fun x1=>br (geI x1.drop.place 0) (chk (okN (l1++[(Qaa.mk at_ true)]).length 16) (some (l1++[(Qaa.mk at_ true)]))) (some l1)
noncomputable def Qkx (l:List Qag) (at_:Int):Option (List Qaa):=bnd (QmY l at_) fun r=>br r (bnd (getI l at_) fun x0=>br (geI x0.pick.place 0) (chk (okN [(Qaa.mk at_ false)].length 16) (Qhe l at_ [(Qaa.mk at_ false)])) (Qhe l at_ [])) (some [])
noncomputable def QaQ (s0:List Qaa) (v:Qaa) (v1:Int):Option ((Int)⊕((Unit)⊕(Int))):=br (ltI v1 (lenI s0)) (bnd (getI s0 v1) fun x0=>br (eqI v.order x0.order&&(eqB v.drop x0.drop&&true)) (some (.inr (.inr v1))) (some (.inl (addK .i64 v1 1)))) (some (.inr (.inl ())))
noncomputable def Qbq (s0:List Qaa) (v:Qaa):Option Int:=bnd (QaT (fun s=>QaQ s0 v s) 0) (fun e=>sel e (fun (_:Unit)=>some (-1)) (fun r=>some r))
noncomputable def QgS (l:List Qaa) (v:Qaa):Option Int:=bnd (Qbq l v) fun r=>some r
noncomputable def Qdu (l:List Qaa) (v:Int):Option ((Int)⊕((Unit)⊕(Bool))):=br (ltI v (lenI l)) (bnd (getI l v) fun x0=>bnd (slcI l 0 v) fun l1=>bnd (QgS l1 x0) fun r=>br (geI r 0) (some (.inr (.inr true))) (some (.inl (addK .i64 v 1)))) (some (.inr (.inl ())))
noncomputable def QjP (l:List Qaa):Option Bool:=bnd (QaT (fun s=>Qdu l s) 0) (fun e=>sel e (fun (_:Unit)=>some false) (fun r1=>some r1))
noncomputable def Qbx (s0:List Qaa) (v:Qaa):Option Bool:=bnd (Qbq s0 v) fun r=>some (geI r 0)
noncomputable def Qbl (x0:Qac) (l:List Qaa) (v:Int) (r:List Qaa) (last_:Int) (v1:Int):Option ((Int×Int)⊕((Unit)⊕(Bool))):=br (ltI v1 (lenI r)) (bnd (getI r v1) fun x2=>bnd (QgS l x2) fun r2=>br (leI r2 last_) (some (.inr (.inr false))) (some (.inl (r2,(addK .i64 v1 1))))) (some (.inr (.inl ())))
noncomputable def Qc8 (x0:Qac) (l:List Qaa) (v:Int):Option ((Int)⊕((Unit)⊕(Bool))):=br (ltI v (lenI l)) (bnd (getI l v) fun x1=>bnd (Qkx x0.orders x1.order) fun r=>bnd (Qbx r x1) fun r1=>br r1 (bnd (QaT (fun s=>Qbl x0 l v r s.1 s.2) ((-1),0)) (fun e=>sel e (fun (_:Unit)=>some (.inl (addK .i64 v 1))) (fun r3=>some (.inr (.inr r3))))) (some (.inr (.inr false)))) (some (.inr (.inl ())))
noncomputable def QiD (x0:Qac) (l:List Qaa):Option Bool:=bnd (QaT (fun s=>Qc8 x0 l s) 0) (fun e=>sel e (fun (_:Unit)=>some true) (fun r4=>some r4))
noncomputable def QmR (v:Qaa) (c:Int):Option Bool:=some (eqI v.order c)
noncomputable def QaI (s0:List Qaa) (c:Int) (v:Int):Option ((Int)⊕((Unit)⊕(Int))):=br (ltI v (lenI s0)) (bnd (getI s0 v) fun x0=>bnd (QmR x0 c) fun r=>br r (some (.inr (.inr v))) (some (.inl (addK .i64 v 1)))) (some (.inr (.inl ())))
noncomputable def Qba (s0:List Qaa) (c:Int):Option Int:=bnd (QaT (fun s=>QaI s0 c s) 0) (fun e=>sel e (fun (_:Unit)=>some (-1)) (fun r1=>some r1))
noncomputable def Qbm (s0:List Qaa) (c:Int):Option Bool:=bnd (Qba s0 c) fun r=>some (geI r 0)
noncomputable def QhZ (l:List Qaa) (o:Int):Option Bool:=bnd (Qbm l o) fun r=>some r
noncomputable def QiL (v:Qaa) (c:Int):Option Bool:=some (eqI v.order c)
noncomputable def QaD (s0:List Qaa) (c:Int) (v:Int):Option ((Int)⊕((Unit)⊕(Int))):=br (ltI v (lenI s0)) (bnd (getI s0 v) fun x0=>bnd (QiL x0 c) fun r=>br r (some (.inr (.inr v))) (some (.inl (addK .i64 v 1)))) (some (.inr (.inl ())))
noncomputable def Qa7 (s0:List Qaa) (c:Int):Option Int:=bnd (QaT (fun s=>QaD s0 c s) 0) (fun e=>sel e (fun (_:Unit)=>some (-1)) (fun r1=>some r1))
noncomputable def QiC (l:List Qaa) (a:Int) (b:Int):Option Bool:=bnd (Qa7 l b) fun r=>br (ltI r 0) (some true) (bnd (QhZ l a) fun r1=>br r1 (bnd (slcI l r (lenI l)) fun l1=>bnd (QhZ l1 a) fun r2=>some (!r2)) (some false))
noncomputable def QjM (v:Qaa) (c:Qac):Option Bool:=some ((ltI v.order 0)||(geI v.order (lenI c.orders)))
noncomputable def QaE (s0:List Qaa) (c:Qac) (v:Int):Option ((Int)⊕((Unit)⊕(Int))):=br (ltI v (lenI s0)) (bnd (getI s0 v) fun x0=>bnd (QjM x0 c) fun r=>br r (some (.inr (.inr v))) (some (.inl (addK .i64 v 1)))) (some (.inr (.inl ())))
noncomputable def Qa8 (s0:List Qaa) (c:Qac):Option Int:=bnd (QaT (fun s=>QaE s0 c s) 0) (fun e=>sel e (fun (_:Unit)=>some (-1)) (fun r1=>some r1))
noncomputable def Qa4 (s0:List Qaa) (c:Qac):Option Bool:=bnd (Qa8 s0 c) fun r=>some (geI r 0)
noncomputable def QjN (v:Qaa) (c:Qac):Option Bool:=bnd (getI c.orders v.order) fun x0=>some x0.off
noncomputable def QaF (s0:List Qaa) (c:Qac) (v:Int):Option ((Int)⊕((Unit)⊕(Int))):=br (ltI v (lenI s0)) (bnd (getI s0 v) fun x0=>bnd (QjN x0 c) fun r=>br r (some (.inr (.inr v))) (some (.inl (addK .i64 v 1)))) (some (.inr (.inl ())))
noncomputable def Qa9 (s0:List Qaa) (c:Qac):Option Int:=bnd (QaT (fun s=>QaF s0 c s) 0) (fun e=>sel e (fun (_:Unit)=>some (-1)) (fun r1=>some r1))
noncomputable def Qa5 (s0:List Qaa) (c:Qac):Option Bool:=bnd (Qa9 s0 c) fun r=>some (geI r 0)
noncomputable def Qdt (x0:Qac) (r:Qad) (v:Int):Option ((Int)⊕((Unit)⊕(Int))):=br (ltI v (lenI x0.apart)) (bnd (getI x0.apart v) fun x1=>bnd (QhZ r.visits x1.x0) fun r5=>br r5 (bnd (QhZ r.visits x1.x1) fun r6=>br r6 (some (.inr (.inr 20))) (some (.inl (addK .i64 v 1)))) (some (.inl (addK .i64 v 1)))) (some (.inr (.inl ())))
noncomputable def Qc0 (x0:Qac) (r:Qad) (v1:Int):Option ((Int)⊕((Unit)⊕(Int))):=br (ltI v1 (lenI x0.before)) (bnd (getI x0.before v1) fun x2=>bnd (QiC r.visits x2.x0 x2.x1) fun r7=>br r7 (some (.inl (addK .i64 v1 1))) (some (.inr (.inr 21)))) (some (.inr (.inl ())))
noncomputable def Qie (x0:Qac) (r:Qad):Option Int:=br (eqI (lenI r.visits) 0) (some 2) (bnd (Qa4 r.visits x0) fun r1=>br r1 (some 2) (bnd (Qa5 r.visits x0) fun r2=>br r2 (some 9) (bnd (QjP r.visits) fun r3=>br r3 (some 6) (bnd (QiD x0 r.visits) fun r4=>br r4 (bnd (QaT (fun s=>Qdt x0 r s) 0) (fun e=>sel e (fun (_:Unit)=>bnd (QaT (fun s=>Qc0 x0 r s) 0) (fun e=>sel e (fun (_:Unit)=>some 0) (fun r8=>some r8))) (fun r9=>some r9))) (some 19)))))
noncomputable def Qm8 (t:Qal) (skills:Int):Option Bool:=some (((geI t.skills 0)&&(geI skills 0))&&(eqI (Qug .i64 skills t.skills) 0))
noncomputable def Qf5 (x0:Qac) (r:Qad) (v:Int):Option ((Int)⊕((Unit)⊕(Int))):=br (ltI v (lenI r.visits)) (bnd (getI r.visits v) fun x1=>bnd (getI x0.types r.type_) fun x2=>bnd (getI x0.orders x1.order) fun x3=>bnd (Qm8 x2 x3.skills) fun r1=>br r1 (some (.inl (addK .i64 v 1))) (some (.inr (.inr 18)))) (some (.inr (.inl ())))
noncomputable def Qrz (x0:Qac) (r:Qad):Option Int:=bnd (QaT (fun s=>Qf5 x0 r s) 0) (fun e=>sel e (fun (_:Unit)=>some 0) (fun r2=>some r2))
noncomputable def Qfi (r:Qad) (set_:Int) (v:Int):Option ((Int×Int)⊕((Int)⊕(Int×Int))):=br (ltI v (lenI r.visits)) (bnd (getI r.visits v) fun x0=>br ((ltI x0.order 0)||(gtI x0.order 62)) (some (.inr (.inr (0,2)))) (chk ((0:Int)≤x0.order) (some (.inl ((orK .i64 set_ (shlK .i64 1 x0.order)),(addK .i64 v 1)))))) (some (.inr (.inl set_)))
noncomputable def QiB (r:Qad):Option (Int×Int):=bnd (QaT (fun s=>Qfi r s.1 s.2) (0,0)) (fun e=>sel e (fun set_1=>some (set_1,0)) (fun r1=>some r1))
noncomputable def Qti (a:Int) (b:Int):Option Int:=some (addK .i64 a b)
noncomputable def QbZ (a:List Int) (b:List Int) (l:List Int) (l1:List Int) (v:Int):Option ((List Int×Int)⊕(List Int)):=br (ltI v (lenI a)) (bnd (getI a v) fun x0=>bnd (getI b v) fun x1=>bnd (Qti x0 x1) fun r=>bnd (getI l1 v) fun x2=>some (.inl ((setI l1 v r),(addK .i64 v 1)))) (some (.inr l1))
noncomputable def Qh3 (a:List Int) (b:List Int):Option (List Int×Int):=br (neI (lenI a) (lenI b)) (some ([],2)) (bnd (mkI (lenI a) (lenI a) 8 0) fun l=>bnd (QaT (fun s=>QbZ a b l s.1 s.2) (l,0)) (fun l2=>some (l2,0)))
noncomputable def QrQ (a:List Int) (b:List Int):Option (List Int×Int):=bnd (Qh3 a b) fun r=>some (r.1,r.2)
noncomputable def QvC (set_:Int) (i:Int):Option Bool:=br ((geI i 0)&&(leI i 62)) (chk ((0:Int)≤i) (some (eqI (andK .i64 (shrK .i64 set_ i) 1) 1))) (some false)
noncomputable def QdD (set_:Int) (l:List Int) (v:Int):Option ((List Int×Int)⊕(List Int)):=br (ltI v 63) (bnd (QvC set_ v) fun r=>br r (chk (okN (l++[v]).length 8) (some (.inl ((l++[v]),(addK .i64 v 1))))) (some (.inl (l,(addK .i64 v 1))))) (some (.inr l))
noncomputable def QnO (set_:Int):Option (List Int):=bnd (QaT (fun s=>QdD set_ s.1 s.2) ([],0)) (fun l1=>some l1)
noncomputable def Qea (x0:Qac) (l:List Int) (r:List Int) (sum:List Int) (v:Int):Option ((List Int×Int)⊕(List Int)):=br (ltI v (lenI r)) (bnd (getI r v) fun x1=>bnd (getI x0.orders x1) fun x2=>br (ltI x2.pick.place 0) (bnd (QrQ sum x2.load) fun r1=>some (.inl (r1.1,(addK .i64 v 1)))) (some (.inl (sum,(addK .i64 v 1))))) (some (.inr sum))
noncomputable def QoK (x0:Qac) (set_:Int) (dims:Int):Option (List Int):=bnd (mkI dims dims 8 0) fun l=>bnd (QnO set_) fun r=>bnd (QaT (fun s=>Qea x0 l r s.1 s.2) (l,0)) (fun sum1=>some sum1)
noncomputable def QqO (l:List Qal):Option Int:=br (eqI (lenI l) 0) (some 0) (bnd (getI l 0) fun x0=>some (lenI x0.cap))
noncomputable def QrR (a:Int) (b:Int):Option Int:=some (subK .i64 a b)
noncomputable def QbN (a:List Int) (b:List Int) (l:List Int) (l1:List Int) (v:Int):Option ((List Int×Int)⊕(List Int)):=br (ltI v (lenI a)) (bnd (getI a v) fun x0=>bnd (getI b v) fun x1=>bnd (QrR x0 x1) fun r=>bnd (getI l1 v) fun x2=>some (.inl ((setI l1 v r),(addK .i64 v 1)))) (some (.inr l1))
noncomputable def Qhm (a:List Int) (b:List Int):Option (List Int×Int):=br (neI (lenI a) (lenI b)) (some ([],2)) (bnd (mkI (lenI a) (lenI a) 8 0) fun l=>bnd (QaT (fun s=>QbN a b l s.1 s.2) (l,0)) (fun l2=>some (l2,0)))
noncomputable def Qth (a:List Int) (b:List Int):Option (List Int×Int):=bnd (Qhm a b) fun r=>some (r.1,r.2)
noncomputable def Qd9 (x0:Qac) (r:Qad) (l:List (List Int)) (now:List Int) (v:Int):Option ((List (List Int)×List Int×Int)⊕((List (List Int))⊕(List (List Int)×Int))):=br (ltI v (lenI r.visits)) (bnd (getI r.visits v) fun x1=>br x1.drop (bnd (getI x0.orders x1.order) fun x2=>bnd (Qth now x2.load) fun r5=>br (neI r5.2 0) (some (.inr (.inr ([],r5.2)))) (chk (okN (l++[r5.1]).length 24) (some (.inl ((l++[r5.1]),r5.1,(addK .i64 v 1)))))) (bnd (getI x0.orders x1.order) fun x3=>bnd (QrQ now x3.load) fun r6=>br (neI r6.2 0) (some (.inr (.inr ([],r6.2)))) (chk (okN (l++[r6.1]).length 24) (some (.inl ((l++[r6.1]),r6.1,(addK .i64 v 1))))))) (some (.inr (.inl l)))
noncomputable def QoJ (x0:Qac) (r:Qad):Option (List (List Int)×Int):=bnd (Qie x0 r) fun r1=>br (neI r1 0) (some ([],r1)) (bnd (QiB r) fun r2=>br (neI r2.2 0) (some ([],r2.2)) (bnd (QqO x0.types) fun r3=>bnd (QoK x0 r2.1 r3) fun r4=>bnd (QaT (fun s=>Qd9 x0 r s.1 s.2.1 s.2.2) ([r4],r4,0)) (fun e=>sel e (fun l1=>some (l1,0)) (fun r7=>some r7))))
noncomputable def QfP (a:List Int) (capacity:List Int) (v:Int):Option ((Int)⊕((Unit)⊕(Bool))):=br (ltI v (lenI a)) (bnd (getI a v) fun x0=>bnd (getI capacity v) fun x1=>br (gtI x0 x1) (some (.inr (.inr false))) (some (.inl (addK .i64 v 1)))) (some (.inr (.inl ())))
noncomputable def Qq0 (a:List Int) (capacity:List Int):Option Bool:=br (neI (lenI a) (lenI capacity)) (some false) (bnd (QaT (fun s=>QfP a capacity s) 0) (fun e=>sel e (fun (_:Unit)=>some true) (fun r=>some r)))
noncomputable def QpA (a:List Int) (c:Qac) (c1:Qad):Option Bool:=bnd (getI c.types c1.type_) fun x0=>bnd (Qq0 a x0.cap) fun r=>some (!r)
noncomputable def QaN (s0:List (List Int)) (c:Qac) (c1:Qad) (v:Int):Option ((Int)⊕((Unit)⊕(Int))):=br (ltI v (lenI s0)) (bnd (getI s0 v) fun x0=>bnd (QpA x0 c c1) fun r=>br r (some (.inr (.inr v))) (some (.inl (addK .i64 v 1)))) (some (.inr (.inl ())))
noncomputable def Qby (s0:List (List Int)) (c:Qac) (c1:Qad):Option Int:=bnd (QaT (fun s=>QaN s0 c c1 s) 0) (fun e=>sel e (fun (_:Unit)=>some (-1)) (fun r1=>some r1))
noncomputable def QbJ (s0:List (List Int)) (c:Qac) (c1:Qad):Option Bool:=bnd (Qby s0 c c1) fun r=>some (geI r 0)
noncomputable def QqF (x0:Qac) (r:Qad):Option Int:=br ((ltI r.type_ 0)||(geI r.type_ (lenI x0.types))) (some 2) (bnd (QoJ x0 r) fun r1=>br (neI r1.2 0) (some r1.2) (bnd (QbJ r1.1 x0 r) fun r2=>br r2 (some 17) (some 0)))
noncomputable def QlF (x1:Qaw):Option (Qaw×Int):=br (ltI x1.place 0) (some ((Qaw.mk 0 0 0 0),19)) (some (x1,0))
noncomputable def Qru (l:List Qag) (v:Qaa):Option (Qaw×Int):=bnd (QmY l v.order) fun r=>br r (bnd (getI l v.order) fun x0=>br v.drop (QlF x0.drop) (QlF x0.pick)) (some ((Qaw.mk 0 0 0 0),2))
noncomputable def QiZ (x0:Qac) (r:Qad) (x1:Qal) (l:List Qaw) (v:Int):Option ((List Qaw×Int)⊕((List Qaw)⊕(Qaz×Bool))):=br (ltI v (lenI r.visits)) (bnd (getI r.visits v) fun x2=>bnd (Qru x0.orders x2) fun r1=>br ((neI r1.2 0)||(ltI r1.1.place 0)) (some (.inr (.inr ((Qaz.mk (Qac.mk (Qam.mk [] []) [] [] [] []) (Qal.mk ByteArray.empty 0 0 0 [] 0 0 0 0 0 0 0 0 0) (Qad.mk 0 0 [] []) []),false)))) (chk (okN (l++[r1.1]).length 32) (some (.inl ((l++[r1.1]),(addK .i64 v 1)))))) (some (.inr (.inl l)))
noncomputable def QoO (x0:Qac) (r:Qad):Option (Qaz×Bool):=br (((((ltI r.type_ 0)||(geI r.type_ (lenI x0.types)))||(ltI r.start 0))||(gtI r.start 4096))||(gtI (lenI r.visits) 20)) (some ((Qaz.mk (Qac.mk (Qam.mk [] []) [] [] [] []) (Qal.mk ByteArray.empty 0 0 0 [] 0 0 0 0 0 0 0 0 0) (Qad.mk 0 0 [] []) []),false)) (bnd (getI x0.types r.type_) fun x1=>bnd (QaT (fun s=>QiZ x0 r x1 s.1 s.2) ([],0)) (fun e=>sel e (fun l1=>some ((Qaz.mk x0 x1 r l1),true)) (fun r2=>some r2)))
noncomputable def Qdo (p:Qaz):Option Qaf:=some (Qaf.mk (maxI p.t.open_ p.r.start) 0 (Qap.mk false 0 [] 0 0))
noncomputable def Qjm (n:Qam) (i:Int):Option Bool:=some ((geI i 0)&&(ltI i (lenI n.places)))
noncomputable def Qon (a:Qas):Option QiY:=some (QiY.mk a.from_ a.to_ a.profile)
noncomputable def Qhd (n:Qam) (profile:Int) (from_:Int) (to_:Int) (v:Int):Option ((Int)⊕((Unit)⊕(Qas×Bool))):=br (ltI v (lenI n.arcs)) (bnd (getI n.arcs v) fun x0=>bnd (Qon x0) fun r=>br (eqI r.from_ from_&&(eqI r.to_ to_&&(eqI r.profile profile&&true))) (some (.inr (.inr (x0,true)))) (some (.inl (addK .i64 v 1)))) (some (.inr (.inl ())))
noncomputable def QnD (n:Qam) (profile:Int) (from_:Int) (to_:Int):Option (Qas×Bool):=bnd (QaT (fun s=>Qhd n profile from_ to_ s) 0) (fun e=>sel e (fun (_:Unit)=>some ((Qas.mk 0 0 0 0 [] []),false)) (fun r1=>some r1))
noncomputable def QgE (n:Int) (least:Int) (most:Int):Option Bool:=some ((geI n least)&&(leI n most))
noncomputable def QrH (i:Int):Option ByteArray:=br (ltI i 10) (bnd (slcS Qor i (addK .i64 i 1)) fun s0=>some (Qor.extract (i:Int).toNat ((addK .i64 i 1):Int).toNat)) (bnd (slcS Qoq (mulK .i64 i 2) (addK .i64 (mulK .i64 i 2) 2)) fun s1=>some (Qoq.extract ((mulK .i64 i 2):Int).toNat ((addK .i64 (mulK .i64 i 2) 2):Int).toNat))
noncomputable def QuL (x0:Int):Option Int:=some (shrK .i64 (mulK .i64 x0 78913) 18)
noncomputable def Qui (x2:Int) (n1:Int):Option Int:=br (geI x2 256) (bnd (getS Qos (cvK .u8 (shrK .u64 x2 8))) fun b=>some (addK .i64 (addK .i64 n1 8) (cvK .i64 (QDK b)))) (bnd (getS Qos (cvK .u8 x2)) fun b1=>some (addK .i64 n1 (cvK .i64 (QDK b1))))
noncomputable def Quh (x1:Int) (n:Int):Option Int:=br (geI x1 65536) (Qui (shrK .u64 x1 16) (addK .i64 n 16)) (Qui x1 n)
noncomputable def QAF (x0:Int):Option Int:=br (geI x0 4294967296) (Quh (shrK .u64 x0 32) 32) (Quh x0 0)
noncomputable def QuM (d:Int):Option Int:=bnd (QAF d) fun r=>bnd (QuL r) fun r1=>none
noncomputable def QgU (i:Int) (u:Int):Option ByteArray:=bnd (QuM u) fun r1=>none
noncomputable def QlW (i:Int) (base:Int):Option ByteArray:=br (eqI base 10) (br ((leI 0 i)&&(ltI i 100)) (bnd (QrH i) fun r=>some r) (br (ltI i 0) (QgU i (subK .u64 0 (cvK .u64 i))) (QgU i (cvK .u64 i)))) (none)
noncomputable def Qs3 (i:Int):Option ByteArray:=bnd (QlW i 10) fun r=>some r
noncomputable def QmU (i:Int):Option ByteArray:=bnd (Qs3 i) fun r=>some r
noncomputable def QiF (l:List Qao) (v:Int) (x0:Qao) (r:ByteArray) (l3:List Qab):Option ((List Qab×Int)⊕(List Qab)):=br (gtI v 0) (bnd (getI l (subK .i64 v 1)) fun x1=>br (leI x0.t x1.t) (chk (okN (l3++[(Qab.mk 13 r)]).length 24) (some (.inl ((l3++[(Qab.mk 13 r)]),(addK .i64 v 1))))) (br (ltI x0.a x1.a) (chk (okN (l3++[(Qab.mk 13 r)]).length 24) (some (.inl ((l3++[(Qab.mk 13 r)]),(addK .i64 v 1))))) (some (.inl (l3,(addK .i64 v 1)))))) (some (.inl (l3,(addK .i64 v 1))))
noncomputable def Qei (l:List Qao) (l2:List Qab) (v:Int):Option ((List Qab×Int)⊕(List Qab)):=br (ltI v (lenI l)) (bnd (getI l v) fun x0=>bnd (QmU v) fun r=>bnd (QgE x0.t 0 4096) fun r1=>br (((!r1)||(ltI x0.a x0.t))||(gtI x0.a (addK .i64 x0.t 4096))) (chk (okN (l2++[(Qab.mk 2 r)]).length 24) (QiF l v x0 r (l2++[(Qab.mk 2 r)]))) (QiF l v x0 r l2)) (some (.inr l2))
noncomputable def QiE (l:List Qao) (l1:List Qab):Option (List Qab):=bnd (QaT (fun s=>Qei l s.1 s.2) (l1,0)) (fun l4=>some l4)
noncomputable def QnR (l:List Qao):Option (List Qab):=br ((eqI (lenI l) 0)||(gtI (lenI l) 16)) (chk (okN [(Qab.mk 4 ByteArray.empty)].length 24) (QiE l [(Qab.mk 4 ByteArray.empty)])) (QiE l [])
noncomputable def QnS (l:List Qao):Option Bool:=bnd (QnR l) fun r=>some (eqI (lenI r) 0)
noncomputable def Qgg (p:Qao) (t:Int):Option Int:=some (subK .i64 p.t t)
noncomputable def QaK (x0:List Qao) (target:Int) (i:Int) (j:Int):Option ((Int×Int)⊕(Int)):=br (ltI i j) (bnd (getI x0 (cvK .i64 (shrK .u64 (cvK .u64 (addK .i64 i j)) 1))) fun x1=>bnd (Qgg x1 target) fun r=>br (ltI r 0) (some (.inl ((addK .i64 (cvK .i64 (shrK .u64 (cvK .u64 (addK .i64 i j)) 1)) 1),j))) (some (.inl (i,(cvK .i64 (shrK .u64 (cvK .u64 (addK .i64 i j)) 1)))))) (some (.inr i))
noncomputable def Qa6 (x0:List Qao) (target:Int):Option (Int×Bool):=bnd (QaT (fun s=>QaK x0 target s.1 s.2) (0,(lenI x0))) (fun i1=>br (ltI i1 (lenI x0)) (bnd (getI x0 i1) fun x2=>bnd (Qgg x2 target) fun r1=>some (i1,(eqI r1 0))) (some (i1,false)))
noncomputable def QlL (l:List Qao) (t:Int):Option Int:=bnd (Qa6 l t) fun r=>br r.2 (bnd (getI l r.1) fun x0=>some x0.a) (br (eqI r.1 0) (bnd (getI l 0) fun x1=>some (subK .i64 (addK .i64 t x1.a) x1.t)) (br (eqI r.1 (lenI l)) (bnd (getI l (subK .i64 r.1 1)) fun x2=>some (subK .i64 (addK .i64 t x2.a) x2.t)) (bnd (getI l (subK .i64 r.1 1)) fun x3=>bnd (getI l r.1) fun x4=>chk (((subK .i64 x4.t x3.t):Int)≠0) (some (addK .i64 x3.a (quoK .i64 (subK .i64 (addK .i64 (mulK .i64 (subK .i64 t x3.t) (subK .i64 x4.a x3.a)) (subK .i64 x4.t x3.t)) 1) (subK .i64 x4.t x3.t)))))))
noncomputable def QlK (l:List Qao) (t:Int):Option Int:=bnd (QgE t 0 1073741824) fun r=>br r (bnd (QnS l) fun r1=>br r1 (bnd (QlL l t) fun r2=>some r2) (some 0)) (some 0)
noncomputable def Qib (a:Qas) (t:Int) (out:Int) (v:Int):Option ((Int×Int)⊕(Int)):=br (ltI v (lenI a.slow)) (bnd (getI a.slow v) fun x0=>br (leI x0.t t) (some (.inl ((addK .i64 out x0.a),(addK .i64 v 1)))) (some (.inl (out,(addK .i64 v 1))))) (some (.inr out))
noncomputable def Qiz (a:Qas) (t:Int):Option Int:=bnd (QlK a.travel t) fun r=>bnd (QaT (fun s=>Qib a t s.1 s.2) (r,0)) (fun out1=>some out1)
noncomputable def Qpo (n:Qam) (profile:Int) (from_:Int) (to_:Int) (t:Int):Option (Int×Int×Int):=bnd (Qjm n from_) fun r=>br r (bnd (Qjm n to_) fun r1=>br r1 (br (eqI from_ to_) (some (t,0,0)) (bnd (QnD n profile from_ to_) fun r2=>br r2.2 (bnd (Qiz r2.1 t) fun r3=>some (r3,r2.1.miles,0)) (some (0,0,12)))) (some (0,0,11))) (some (0,0,11))
noncomputable def Qgm (p:Qaz) (visits:Int):Option Int:=br (eqI visits 0) (some p.t.from_) (bnd (getI p.stops (subK .i64 visits 1)) fun x0=>some x0.place)
noncomputable def QpR (s0:Qaw) (arrive:Int):Option (Int×Int):=br (gtI (maxI arrive s0.open_) s0.close) (some (0,14)) (some ((maxI arrive s0.open_),0))
noncomputable def QbB (s0:List Qar):Option (List Qar):=br (List.isEmpty s0) (amb (some []) (chk (okN s0.length 32) (some s0))) (chk (okN s0.length 32) (some s0))
noncomputable def Qe9 (p:Qaz) (l:Qaf) (depart:Int) (since:Int) (rest_1:Bool) (depart1:Int) (r2:Int×Int×Int) (l2:List Qar) (ready:Int) (end_:Int):Option (Qaf×Int):=br (gtI (subK .i64 (addK .i64 since r2.1) depart) p.t.drive) (some ((Qaf.mk 0 0 (Qap.mk false 0 [] 0 0)),16)) (some ((Qaf.mk ready (subK .i64 (addK .i64 since r2.1) depart) (Qap.mk rest_1 depart1 l2 end_ (addK .i64 l.sheet.miles r2.2.1))),0))
noncomputable def QdX (p:Qaz) (l:Qaf) (done:Int) (depart:Int) (since:Int) (l1:List Qar) (rest_1:Bool) (depart1:Int) (to_:Int):Option (Qaf×Int):=bnd (Qgm p done) fun r1=>bnd (Qpo p.x.net p.t.profile r1 to_ depart) fun r2=>br (neI r2.2.2 0) (some ((Qaf.mk 0 0 (Qap.mk false 0 [] 0 0)),12)) (br (eqI done (lenI p.stops)) (br (gtI r2.1 p.t.close) (some ((Qaf.mk 0 0 (Qap.mk false 0 [] 0 0)),15)) (Qe9 p l depart since rest_1 depart1 r2 l1 r2.1 r2.1)) (bnd (getI p.stops done) fun x2=>bnd (QpR x2 r2.1) fun r3=>br (neI r3.2 0) (some ((Qaf.mk 0 0 (Qap.mk false 0 [] 0 0)),14)) (chk (okN (l1++[(Qar.mk r2.1 r3.1 0 false)]).length 32) (Qe9 p l depart since rest_1 depart1 r2 (l1++[(Qar.mk r2.1 r3.1 0 false)]) (addK .i64 r3.1 x2.service) l.sheet.end_))))
noncomputable def Qe8 (p:Qaz) (l:Qaf) (done:Int) (depart:Int) (since:Int) (l1:List Qar) (rest_1:Bool) (depart1:Int):Option (Qaf×Int):=br (eqI done (lenI p.stops)) (QdX p l done depart since l1 rest_1 depart1 p.t.to_) (bnd (getI p.stops done) fun x1=>QdX p l done depart since l1 rest_1 depart1 x1.place)
noncomputable def Qe7 (p:Qaz) (l:Qaf) (done:Int) (rest_:Bool) (depart:Int) (since:Int):Option (Qaf×Int):=bnd (QbB l.sheet.times) fun r=>br (eqI done 0) (Qe8 p l done depart since r rest_ depart) (bnd (getI r (subK .i64 done 1)) fun x0=>Qe8 p l done depart since (setI (setI r (subK .i64 done 1) (Qar.mk x0.arrive x0.begin x0.depart rest_)) (subK .i64 done 1) (Qar.mk x0.arrive x0.begin depart rest_)) l.sheet.rest_ l.sheet.depart)
noncomputable def Qe2 (p:Qaz) (l:Qaf) (done:Int) (rest_:Bool):Option (Qaf×Int):=br rest_ (Qe7 p l done rest_ (addK .i64 l.ready p.t.rest_) 0) (Qe7 p l done rest_ l.ready l.since)
noncomputable def QlN (l:Qaf) (m:Qaf):Option Bool:=some ((eqI l.ready m.ready)&&(leI l.since m.since))
noncomputable def QgV (m:Qaf) (c:Qaf):Option Bool:=bnd (QlN m c) fun r=>some r
noncomputable def Qax (s0:List Qaf) (c:Qaf) (v:Int):Option ((Int)⊕((Unit)⊕(Int))):=br (ltI v (lenI s0)) (bnd (getI s0 v) fun x0=>bnd (QgV x0 c) fun r=>br r (some (.inr (.inr v))) (some (.inl (addK .i64 v 1)))) (some (.inr (.inl ())))
noncomputable def Qbg (s0:List Qaf) (c:Qaf):Option Int:=bnd (QaT (fun s=>Qax s0 c s) 0) (fun e=>sel e (fun (_:Unit)=>some (-1)) (fun r1=>some r1))
noncomputable def QaP (s0:List Qaf) (c:Qaf):Option Bool:=bnd (Qbg s0 c) fun r=>some (geI r 0)
noncomputable def Qcr (p:Qaz) (l:List Qaf) (done:Int) (choices:List Bool) (v:Int) (x0:Qaf) (l3:List Qaf) (v1:Int):Option ((List Qaf×Int)⊕(List Qaf)):=br (ltI v1 (lenI choices)) (bnd (getI choices v1) fun x1=>bnd (Qe2 p x0 done x1) fun r=>br (eqI r.2 0) (bnd (QaP l3 r.1) fun r1=>br r1 (some (.inl (l3,(addK .i64 v1 1)))) (chk (okN (l3++[r.1]).length 72) (some (.inl ((l3++[r.1]),(addK .i64 v1 1)))))) (some (.inl (l3,(addK .i64 v1 1))))) (some (.inr l3))
noncomputable def Qcq (p:Qaz) (l:List Qaf) (done:Int) (choices:List Bool) (l2:List Qaf) (v:Int):Option ((List Qaf×Int)⊕(List Qaf)):=br (ltI v (lenI l)) (bnd (getI l v) fun x0=>bnd (QaT (fun s=>Qcr p l done choices v x0 s.1 s.2) (l2,0)) (fun l4=>some (.inl (l4,(addK .i64 v 1))))) (some (.inr l2))
noncomputable def Qe6 (p:Qaz) (l:List Qaf) (done:Int) (choices:List Bool):Option (List Qaf):=bnd (QaT (fun s=>Qcq p l done choices s.1 s.2) ([],0)) (fun l5=>some l5)
noncomputable def Qf6 (p:Qaz) (l:List Qaf) (done:Int):Option (List Qaf):=br (ltI done (lenI p.r.rests)) (bnd (slcI p.r.rests done (addK .i64 done 1)) fun l1=>Qe6 p l done l1) (Qe6 p l done [false,true])
noncomputable def QfG (p:Qaz) (rests:List Bool) (r:Qaf) (rest_:Int) (x0:Qaf) (v:Int):Option ((Int×Qaf×Int)⊕((Qaf)⊕(Qap×Int))):=br (ltI v (lenI rests)) (bnd (getI rests v) fun x1=>bnd (Qe2 (Qaz.mk p.x (Qal.mk p.t.name p.t.count p.t.from_ p.t.to_ p.t.cap p.t.skills p.t.profile p.t.open_ p.t.close p.t.drive rest_ p.t.fixed p.t.perMile p.t.perTick) p.r p.stops) x0 v x1) fun r1=>br (neI r1.2 0) (some (.inr (.inr ((Qap.mk false 0 [] 0 0),r1.2)))) (some (.inl (rest_,r1.1,(addK .i64 v 1))))) (some (.inr (.inl x0)))
noncomputable def QgF (p:Qaz) (rests:List Bool):Option (Qap×Int):=bnd (Qdo p) fun r=>bnd (QaT (fun s=>QfG p rests r s.1 s.2.1 s.2.2) (p.t.rest_,r,0)) (fun e=>sel e (fun x2=>some (x2.sheet,0)) (fun r2=>some r2))
noncomputable def Qek (r:Qad) (r1:Qaz×Bool) (l:List Qaf) (v:Int):Option ((List Qaf×Int)⊕(List Qaf)):=br (ltI v (addK .i64 (lenI r.visits) 1)) (bnd (Qf6 r1.1 l v) fun r3=>some (.inl (r3,(addK .i64 v 1)))) (some (.inr l))
noncomputable def QdN (l3:List Qaf) (x2:Qaf) (v1:Int):Option ((Qaf×Int)⊕(Qaf)):=br (ltI v1 (lenI l3)) (bnd (getI l3 v1) fun x3=>br (ltI x3.sheet.end_ x2.sheet.end_) (some (.inl (x3,(addK .i64 v1 1)))) (some (.inl (x2,(addK .i64 v1 1))))) (some (.inr x2))
noncomputable def QoN (x0:Qac) (r:Qad):Option (Qap×Int):=bnd (QoO x0 r) fun r1=>br ((!r1.2)||(gtI (lenI r.rests) (addK .i64 (lenI r.visits) 1))) (some ((Qap.mk false 0 [] 0 0),2)) (bnd (Qdo r1.1) fun r2=>bnd (QaT (fun s=>Qek r r1 s.1 s.2) ([r2],0)) (fun l1=>br (eqI (lenI l1) 0) (bnd (mkI (addK .i64 (lenI r.visits) 1) (addK .i64 (lenI r.visits) 1) 1 false) fun l2=>bnd (QgF r1.1 (cpyL l2 r.rests)) fun r4=>some (r4.1,r4.2)) (bnd (getI l1 0) fun x1=>bnd (slcI l1 1 (lenI l1)) fun l3=>bnd (QaT (fun s=>QdN l3 s.1 s.2) (x1,0)) (fun x4=>some (x4.sheet,0)))))
noncomputable def QlH (kind:Int) (own:Int):Option Bool:=some ((neI kind (-1))&&(neI kind own))
noncomputable def QjJ (x0:Qac) (r:Qad) (s0:Qap) (x1:Qal) (l:List (Int×Int)) (other:Int) (v:Int) (x2:Qaa) (x3:Qag) (moved1:Int):Option ((List (Int×Int)×Int×Int×Int)⊕(Int×Int)):=bnd (QlH x3.last_ r.type_) fun r2=>br r2 (some (.inl ((mPut eqI l x2.order (addK .i64 (mGet eqI l x2.order 0) 1)),moved1,(addK .i64 other 1),(addK .i64 v 1)))) (some (.inl ((mPut eqI l x2.order (addK .i64 (mGet eqI l x2.order 0) 1)),moved1,other,(addK .i64 v 1))))
noncomputable def Qeh (x0:Qac) (r:Qad) (s0:Qap) (x1:Qal) (l:List (Int×Int)) (moved:Int) (other:Int) (v:Int):Option ((List (Int×Int)×Int×Int×Int)⊕(Int×Int)):=br (ltI v (lenI r.visits)) (bnd (getI r.visits v) fun x2=>br ((ltI x2.order 0)||(geI x2.order (lenI x0.orders))) (some (.inl ((mPut eqI l x2.order (addK .i64 (mGet eqI l x2.order 0) 1)),moved,other,(addK .i64 v 1)))) (br (gtI (mGet eqI (mPut eqI l x2.order (addK .i64 (mGet eqI l x2.order 0) 1)) x2.order 0) 1) (some (.inl ((mPut eqI l x2.order (addK .i64 (mGet eqI l x2.order 0) 1)),moved,other,(addK .i64 v 1)))) (bnd (getI x0.orders x2.order) fun x3=>bnd (QlH x3.now r.type_) fun r1=>br r1 (QjJ x0 r s0 x1 l other v x2 x3 (addK .i64 moved 1)) (QjJ x0 r s0 x1 l other v x2 x3 moved)))) (some (.inr (moved,other)))
noncomputable def Qpq (x0:Qac) (r:Qad) (s0:Qap):Option Qau:=br ((ltI r.type_ 0)||(geI r.type_ (lenI x0.types))) (some (Qau.mk 0 0 0 0)) (bnd (getI x0.types r.type_) fun x1=>bnd (QaT (fun s=>Qeh x0 r s0 x1 s.1 s.2.1 s.2.2.1 s.2.2.2) ([],0,0,0)) (fun e0=>(fun moved2 other1=>some (Qau.mk (addK .i64 (addK .i64 x1.fixed (mulK .i64 x1.perMile s0.miles)) (mulK .i64 x1.perTick (subK .i64 s0.end_ x1.open_))) moved2 other1 (mulK .i64 (quoK .i64 (subK .i64 s0.end_ x1.open_) 64) (quoK .i64 (subK .i64 s0.end_ x1.open_) 64)))) e0.1 e0.2))
noncomputable def QgQ (x0:Qac) (r:Qad):Option (Qap×Qau×Int):=br ((ltI r.type_ 0)||(geI r.type_ (lenI x0.types))) (some ((Qap.mk false 0 [] 0 0),(Qau.mk 0 0 0 0),2)) (bnd (Qie x0 r) fun r1=>br (neI r1 0) (some ((Qap.mk false 0 [] 0 0),(Qau.mk 0 0 0 0),r1)) (bnd (Qrz x0 r) fun r2=>br (neI r2 0) (some ((Qap.mk false 0 [] 0 0),(Qau.mk 0 0 0 0),r2)) (bnd (QqF x0 r) fun r3=>br (neI r3 0) (some ((Qap.mk false 0 [] 0 0),(Qau.mk 0 0 0 0),r3)) (bnd (QoN x0 r) fun r4=>br (neI r4.2 0) (some ((Qap.mk false 0 [] 0 0),(Qau.mk 0 0 0 0),r4.2)) (bnd (Qpq x0 r r4.1) fun r5=>some (r4.1,r5,0))))))
noncomputable def Qpr (s0:Qau):Option QzJ:=some (QzJ.mk s0.cost s0.moved s0.other s0.work)
noncomputable def Qge (s0:Qau):Option (Int×Int):=bnd (Qpr s0) fun r=>br (ltI r.x0 0) (some (0,2)) (br (ltI r.x1 0) (some (0,2)) (br (ltI r.x2 0) (some (0,2)) (br (ltI r.x3 0) (some (0,2)) (br ((((gtI s0.cost 1073741824)||(geI s0.moved 16))||(geI s0.other 16))||(geI s0.work 65536)) (some (0,4)) (some ((addK .i64 (mulK .i64 (addK .i64 (mulK .i64 (addK .i64 (mulK .i64 s0.cost 16) s0.moved) 16) s0.other) 65536) s0.work),0))))))
noncomputable def Qhf (x0:Qac) (r:Qad):Option (Int×Int):=bnd (QgQ x0 r) fun r1=>br (neI r1.2.2 0) (some (0,r1.2.2)) (bnd (Qge r1.2.1) fun r2=>some (r2.1,r2.2))
noncomputable def QkE (x0:Qac) (order:Int):Option Int:=br ((ltI order 0)||(geI order (lenI x0.orders))) (some 2) (bnd (getI x0.orders order) fun x1=>br x1.off (some 9) (some 0))
noncomputable def QkC (v:Qaa) (c:Int):Option Bool:=some (eqI v.order c)
noncomputable def QaV (s0:List Qaa) (c:Int) (v:Int):Option ((Int)⊕((Unit)⊕(Int))):=br (ltI v (lenI s0)) (bnd (getI s0 v) fun x0=>bnd (QkC x0 c) fun r=>br r (some (.inr (.inr v))) (some (.inl (addK .i64 v 1)))) (some (.inr (.inl ())))
noncomputable def Qbo (s0:List Qaa) (c:Int):Option Int:=bnd (QaT (fun s=>QaV s0 c s) 0) (fun e=>sel e (fun (_:Unit)=>some (-1)) (fun r1=>some r1))
noncomputable def Qbe (s0:List Qaa) (c:Int):Option Bool:=bnd (Qbo s0 c) fun r=>some (geI r 0)
noncomputable def Qi5 (r:Qad) (order:Int):Option Bool:=bnd (Qbe r.visits order) fun r1=>some r1
noncomputable def Qbu (s0:List Qaa):Option (List Qaa):=br (List.isEmpty s0) (amb (some []) (chk (okN s0.length 16) (some s0))) (chk (okN s0.length 16) (some s0))
noncomputable def Qen (self:(List Qaa)→(List Qaa)→Int→Option (List (List Qaa))) (l:List Qaa) (more:List Qaa) (l1:List (List Qaa)) (at_:Int):Option ((List (List Qaa)×Int)⊕(List (List Qaa))):=br (leI at_ (lenI l)) (bnd (Qbu l) fun r=>bnd (getI more 0) fun x0=>bnd (insL 16 r at_ [x0]) fun r1=>bnd (slcI more 1 (lenI more)) fun l2=>bnd (self r1 l2 (addK .i64 at_ 1)) fun r2=>chk (okN (l1++r2).length 24) (some (.inl ((l1++r2),(addK .i64 at_ 1))))) (some (.inr l1))
noncomputable def Qf7 (self:(List Qaa)→(List Qaa)→Int→Option (List (List Qaa))) (l:List Qaa) (more:List Qaa) (from_:Int):Option (List (List Qaa)):=br (eqI (lenI more) 0) (some [l]) (bnd (QaT (fun s=>Qen self l more s.1 s.2) ([],from_)) (fun l3=>some l3))
noncomputable def Qe3:Nat→(List Qaa)→(List Qaa)→Int→Option (List (List Qaa))|0=>fun _ _ _=>none|n+1=>fun l more from_=>Qf7 (Qe3 n) l more from_
noncomputable def Qn4 (l:List Qaa) (more:List Qaa) (from_:Int):Option (List (List Qaa)):=Qe3 Qxu l more from_
noncomputable def Qfj (v:Qaa):Option Int:=br v.drop (some 1) (some 0)
noncomputable def Qeb (vals:List Int) (v:Int):Option ((Int)⊕((Unit)⊕(Int))):=br (ltI v (lenI vals)) (bnd (getI vals v) fun x0=>br (neI x0 0) (some (.inr (.inr x0))) (some (.inl (addK .i64 v 1)))) (some (.inr (.inl ())))
noncomputable def QoL (vals:List Int):Option Int:=bnd (QaT (fun s=>Qeb vals s) 0) (fun e=>sel e (fun (_:Unit)=>some 0) (fun r=>some r))
noncomputable def Qjp (x0:Int):Option Bool:=some (neI x0 x0)
noncomputable def Qgk (x0:Int) (y:Int):Option Int:=bnd (Qjp x0) fun r=>bnd (Qjp y) fun r1=>br r (br r1 (some 0) (some (-1))) (br r1 (some 1) (br (ltI x0 y) (some (-1)) (br (gtI x0 y) (some 1) (some 0))))
noncomputable def QhY (a:Qaa) (b:Qaa):Option Int:=bnd (Qgk a.order b.order) fun r=>bnd (Qfj a) fun r1=>bnd (Qfj b) fun r2=>bnd (Qgk r1 r2) fun r3=>bnd (QoL [r,r3]) fun r4=>some r4
noncomputable def Qat (s1:List Qaa) (s2:List Qaa) (v:Int):Option ((Int)⊕((Unit)⊕(Int))):=br (ltI v (lenI s1)) (bnd (getI s1 v) fun x0=>br (geI v (lenI s2)) (some (.inr (.inr 1))) (bnd (getI s2 v) fun x1=>bnd (QhY x0 x1) fun r=>br (neI r 0) (some (.inr (.inr r))) (some (.inl (addK .i64 v 1))))) (some (.inr (.inl ())))
noncomputable def QaS (s1:List Qaa) (s2:List Qaa):Option Int:=bnd (QaT (fun s=>Qat s1 s2 s) 0) (fun e=>sel e (fun (_:Unit)=>br (ltI (lenI s1) (lenI s2)) (some (-1)) (some 0)) (fun r1=>some r1))
noncomputable def QlJ (a:List Qaa) (b:List Qaa):Option Bool:=bnd (QaS a b) fun r=>some (ltI r 0)
noncomputable def QeQ (x0:Qac) (r4:List (List Qaa)) (x1:Qad) (type_:Int) (start:Int) (rests:List Bool) (visits:List Qaa) (least:Int) (v:Int):Option ((Qad×Int×Int×List Bool×List Qaa×Int×Int)⊕(Qad×Int)):=br (ltI v (lenI r4)) (bnd (getI r4 v) fun x2=>bnd (Qhf x0 (Qad.mk x1.type_ x1.start x1.rests x2)) fun r5=>br (eqI r5.2 0) (br ((ltI least 0)||(ltI r5.1 least)) (some (.inl (x1,x1.type_,x1.start,x1.rests,x2,r5.1,(addK .i64 v 1)))) (br (eqI r5.1 least) (bnd (QlJ x2 visits) fun r6=>br r6 (some (.inl (x1,x1.type_,x1.start,x1.rests,x2,r5.1,(addK .i64 v 1)))) (some (.inl (x1,type_,start,rests,visits,least,(addK .i64 v 1))))) (some (.inl (x1,type_,start,rests,visits,least,(addK .i64 v 1)))))) (some (.inl (x1,type_,start,rests,visits,least,(addK .i64 v 1))))) (some (.inr ((Qad.mk type_ start rests visits),least)))
noncomputable def Qi1 (x0:Qac) (r:Qad) (o:Int):Option (Qad×Int×Int):=br ((ltI r.type_ 0)||(geI r.type_ (lenI x0.types))) (some ((Qad.mk 0 0 [] []),0,2)) (bnd (QkE x0 o) fun r1=>br (neI r1 0) (some ((Qad.mk 0 0 [] []),0,r1)) (bnd (Qi5 r o) fun r2=>br r2 (some ((Qad.mk 0 0 [] []),0,6)) (bnd (Qkx x0.orders o) fun r3=>bnd (Qn4 r.visits r3 (lenI r.rests)) fun r4=>bnd (QaT (fun s=>QeQ x0 r4 s.1 s.2.1 s.2.2.1 s.2.2.2.1 s.2.2.2.2.1 s.2.2.2.2.2.1 s.2.2.2.2.2.2) (r,0,0,[],[],(-1),0)) (fun e0=>(fun x3 least1=>br (ltI least1 0) (some ((Qad.mk 0 0 [] []),0,24)) (some (x3,least1,0))) e0.1 e0.2))))
noncomputable def Qcu (s0:List Int) (v:Int) (v1:Int):Option ((Int)⊕((Unit)⊕(Int))):=br (ltI v1 (lenI s0)) (bnd (getI s0 v1) fun x0=>br (eqI v x0) (some (.inr (.inr v1))) (some (.inl (addK .i64 v1 1)))) (some (.inr (.inl ())))
noncomputable def Qfy (s0:List Int) (v:Int):Option Int:=bnd (QaT (fun s=>Qcu s0 v s) 0) (fun e=>sel e (fun (_:Unit)=>some (-1)) (fun r=>some r))
noncomputable def Qdq (s0:List Int) (v:Int):Option Bool:=bnd (Qfy s0 v) fun r=>some (geI r 0)
noncomputable def Qi3 (at_:Int) (r:Qad) (old:Int) (c:Qac) (c1:Int) (c2:Qaq):Option (Qac×Int×Qaq):=bnd (Qi1 c r c1) fun r1=>br ((eqI r1.2.2 0)&&((ltI c2.at_ 0)||(ltI (subK .i64 r1.2.1 old) c2.increase))) (some (c,c1,(Qaq.mk at_ r1.1 (subK .i64 r1.2.1 old)))) (some (c,c1,c2))
noncomputable def Qec (x0:Qac) (p:Qak) (o:Int) (l:List Int) (l1:List Int) (l2:List Int) (v:Int):Option ((List Int×List Int×Int)⊕((List Int×List Int)⊕(Qaq×Int))):=br (ltI v (lenI p.routes)) (bnd (getI p.routes v) fun x1=>bnd (Qhf x0 x1) fun r=>br (neI r.2 0) (some (.inr (.inr ((Qaq.mk 0 (Qad.mk 0 0 [] []) 0),r.2)))) (chk (okN (l1++[r.1]).length 8) (bnd (getI l2 x1.type_) fun x2=>some (.inl ((l1++[r.1]),(setI l2 x1.type_ (addK .i64 x2 1)),(addK .i64 v 1)))))) (some (.inr (.inl (l1,l2))))
noncomputable def QeR (p:Qak) (l:List Int) (l3:List Int) (l4:List Int) (x3:Qac) (at_:Int) (type_:Int) (start:Int) (rests:List Bool) (visits:List Qaa) (increase:Int) (x4:Int) (v1:Int):Option ((Qac×Int×Int×Int×List Bool×List Qaa×Int×Int×Int)⊕(Qac×Qaq×Int)):=br (ltI v1 (lenI p.routes)) (bnd (getI p.routes v1) fun x5=>bnd (getI l3 v1) fun x6=>bnd (Qi3 v1 x5 x6 x3 x4 (Qaq.mk at_ (Qad.mk type_ start rests visits) increase)) fun r1=>some (.inl (r1.1,r1.2.2.at_,r1.2.2.route.type_,r1.2.2.route.start,r1.2.2.route.rests,r1.2.2.route.visits,r1.2.2.increase,r1.2.1,(addK .i64 v1 1)))) (some (.inr (x3,(Qaq.mk at_ (Qad.mk type_ start rests visits) increase),x4)))
noncomputable def Qed (p:Qak) (l:List Int) (l4:List Int) (x10:Qac) (x11:Qaq) (x12:Int) (v2:Int) (v3:Int):Option ((Qac×Qaq×Int×Int×Int)⊕(Qaq)):=br (ltI v3 v2) (bnd (getI l4 v3) fun x13=>bnd (getI x10.types v3) fun x14=>br (ltI x13 x14.count) (bnd (Qi3 (lenI p.routes) (Qad.mk v3 0 [] []) 0 x10 x12 x11) fun r2=>some (.inl (r2.1,r2.2.2,r2.2.1,v2,(addK .i64 v3 1)))) (some (.inl (x10,x11,x12,v2,(addK .i64 v3 1))))) (some (.inr x11))
noncomputable def QoT (x0:Qac) (p:Qak) (o:Int):Option (Qaq×Int):=bnd (mkI (lenI x0.types) (lenI x0.types) 8 0) fun l=>bnd (QaT (fun s=>Qec x0 p o l s.1 s.2.1 s.2.2) ([],l,0)) (fun e=>sel e (fun e0=>(fun l3 l4=>bnd (QaT (fun s=>QeR p l l3 l4 s.1 s.2.1 s.2.2.1 s.2.2.2.1 s.2.2.2.2.1 s.2.2.2.2.2.1 s.2.2.2.2.2.2.1 s.2.2.2.2.2.2.2.1 s.2.2.2.2.2.2.2.2) (x0,(-1),0,0,[],[],0,o,0)) (fun e0=>(fun x7 x8 x9=>bnd (QaT (fun s=>Qed p l l4 s.1 s.2.1 s.2.2.1 s.2.2.2.1 s.2.2.2.2) (x7,x8,x9,(lenI x7.types),0)) (fun x15=>br (ltI x15.at_ 0) (some ((Qaq.mk 0 (Qad.mk 0 0 [] []) 0),24)) (some (x15,0)))) e0.1 e0.2.1 e0.2.2)) e0.1 e0.2) (fun r3=>some r3))
noncomputable def QjK (x0:Qac) (order:Int):Option (Qau×Int):=br ((ltI order 0)||(geI order (lenI x0.orders))) (some ((Qau.mk 0 0 0 0),2)) (bnd (getI x0.orders order) fun x1=>br x1.off (some ((Qau.mk 0 0 0 0),9)) (br (eqI x1.penalty (-1)) (some ((Qau.mk 0 0 0 0),23)) (br (neI x1.now (-1)) (some ((Qau.mk x1.penalty 1 0 0),0)) (some ((Qau.mk x1.penalty 0 0 0),0)))))
noncomputable def Qnc (x0:Qac) (o:Int) (increase:Int):Option Bool:=bnd (getI x0.orders o) fun x1=>br (eqI x1.penalty (-1)) (some true) (bnd (QjK x0 o) fun r=>br (neI r.2 0) (some false) (bnd (Qge r.1) fun r1=>some ((eqI r1.2 0)&&(ltI increase r1.1))))
noncomputable def Qbt (s0:List Qad):Option (List Qad):=br (List.isEmpty s0) (amb (some []) (chk (okN s0.length 64) (some s0))) (chk (okN s0.length 64) (some s0))
noncomputable def QfO (p:Qak) (c:Qaq) (o:Int) (l:List Qad) (l1:List Int) (v:Int):Option ((List Int×Int)⊕(List Int)):=br (ltI v (lenI p.unserved)) (bnd (getI p.unserved v) fun x1=>br (neI x1 o) (chk (okN (l1++[x1]).length 8) (some (.inl ((l1++[x1]),(addK .i64 v 1))))) (some (.inl (l1,(addK .i64 v 1))))) (some (.inr l1))
noncomputable def Qh2 (p:Qak) (c:Qaq) (o:Int) (l:List Qad):Option Qak:=bnd (QaT (fun s=>QfO p c o l s.1 s.2) ([],0)) (fun l2=>some (Qak.mk l l2))
noncomputable def QoX (p:Qak) (c:Qaq) (o:Int):Option Qak:=bnd (Qbt p.routes) fun r=>br (ltI c.at_ (lenI r)) (bnd (getI r c.at_) fun x0=>Qh2 p c o (setI r c.at_ c.route)) (chk (okN (r++[c.route]).length 64) (Qh2 p c o (r++[c.route])))
noncomputable def QkB (r:Qad) (c:Int):Option Bool:=bnd (Qi5 r c) fun r1=>some r1
noncomputable def QaU (s0:List Qad) (c:Int) (v:Int):Option ((Int)⊕((Unit)⊕(Int))):=br (ltI v (lenI s0)) (bnd (getI s0 v) fun x0=>bnd (QkB x0 c) fun r=>br r (some (.inr (.inr v))) (some (.inl (addK .i64 v 1)))) (some (.inr (.inl ())))
noncomputable def Qbn (s0:List Qad) (c:Int):Option Int:=bnd (QaT (fun s=>QaU s0 c s) 0) (fun e=>sel e (fun (_:Unit)=>some (-1)) (fun r1=>some r1))
noncomputable def Qa3 (s0:List Qad) (c:Int):Option Bool:=bnd (Qbn s0 c) fun r=>some (geI r 0)
noncomputable def QkF (p:Qak) (o:Int):Option Bool:=bnd (Qa3 p.routes o) fun r=>some r
noncomputable def Qel (x0:Qac) (list_:List Int) (v:Int):Option ((Int)⊕((Unit)⊕(Qak×Int))):=br (ltI v (lenI list_)) (bnd (getI list_ v) fun x1=>br ((ltI x1 0)||(geI x1 (lenI x0.orders))) (some (.inr (.inr ((Qak.mk [] []),2)))) (bnd (slcI list_ 0 v) fun l=>bnd (Qdq l x1) fun r=>br r (some (.inr (.inr ((Qak.mk [] []),6)))) (some (.inl (addK .i64 v 1))))) (some (.inr (.inl ())))
noncomputable def QcR (x0:Qac) (list_:List Int) (routes:List Qad) (unserved:List Int) (v1:Int):Option ((List Qad×List Int×Int)⊕(List Qad×List Int)):=br (ltI v1 (lenI list_)) (bnd (getI list_ v1) fun x2=>bnd (getI x0.orders x2) fun x3=>br x3.off (some (.inl (routes,unserved,(addK .i64 v1 1)))) (bnd (QoT x0 (Qak.mk routes unserved) x2) fun r1=>br (eqI r1.2 0) (bnd (Qnc x0 x2 r1.1.increase) fun r2=>br r2 (bnd (QoX (Qak.mk routes unserved) r1.1 x2) fun r3=>some (.inl (r3.routes,r3.unserved,(addK .i64 v1 1)))) (some (.inl (routes,unserved,(addK .i64 v1 1))))) (some (.inl (routes,unserved,(addK .i64 v1 1)))))) (some (.inr (routes,unserved)))
noncomputable def Qcn (x0:Qac) (routes1:List Qad) (l1:List Int) (v2:Int):Option ((List Int×Int)⊕((List Int)⊕(Qak×Int))):=br (ltI v2 (lenI x0.orders)) (bnd (getI x0.orders v2) fun x4=>br x4.off (some (.inl (l1,(addK .i64 v2 1)))) (bnd (QkF (Qak.mk routes1 l1) v2) fun r4=>br r4 (some (.inl (l1,(addK .i64 v2 1)))) (br (eqI x4.penalty (-1)) (some (.inr (.inr ((Qak.mk [] []),24)))) (chk (okN (l1++[v2]).length 8) (some (.inl ((l1++[v2]),(addK .i64 v2 1)))))))) (some (.inr (.inl l1)))
noncomputable def Qi2 (x0:Qac) (list_:List Int):Option (Qak×Int):=bnd (QaT (fun s=>Qel x0 list_ s) 0) (fun e=>sel e (fun (_:Unit)=>bnd (QaT (fun s=>QcR x0 list_ s.1 s.2.1 s.2.2) ([],[],0)) (fun e0=>(fun routes1 unserved1=>bnd (QaT (fun s=>Qcn x0 routes1 s.1 s.2) ([],0)) (fun e=>sel e (fun l2=>some ((Qak.mk routes1 l2),0)) (fun r5=>some r5))) e0.1 e0.2)) (fun r6=>some r6))
noncomputable def QgG (l:List Qas) (v:Int):Option ((List Qas×Int)⊕(List Qas)):=br (ltI v (lenI [(QfM.mk 0 1 10),(QfM.mk 1 0 10),(QfM.mk 0 2 20),(QfM.mk 2 0 20),(QfM.mk 1 2 10),(QfM.mk 2 1 10)])) (bnd (getI [(QfM.mk 0 1 10),(QfM.mk 1 0 10),(QfM.mk 0 2 20),(QfM.mk 2 0 20),(QfM.mk 1 2 10),(QfM.mk 2 1 10)] v) fun x0=>chk (okN (l++[(Qas.mk x0.x0 x0.x1 0 x0.x2 [(Qao.mk 0 x0.x2)] [])]).length 80) (some (.inl ((l++[(Qas.mk x0.x0 x0.x1 0 x0.x2 [(Qao.mk 0 x0.x2)] [])]),(addK .i64 v 1))))) (some (.inr l))
noncomputable def Qfn (l1:List Qas) (l2:List Qag) (v1:Int):Option ((List Qag×Int)⊕(List Qag)):=br (ltI v1 (lenI [Qt5,Qt6])) (bnd (getI [Qt5,Qt6] v1) fun x1=>chk (okN (l2++[(Qag.mk x1 [1] (Qaw.mk (-1) 0 0 0) (Qaw.mk (addK .i64 v1 1) 0 90 0) 0 30 1 (-1) (-1) false)]).length 152) (some (.inl ((l2++[(Qag.mk x1 [1] (Qaw.mk (-1) 0 0 0) (Qaw.mk (addK .i64 v1 1) 0 90 0) 0 30 1 (-1) (-1) false)]),(addK .i64 v1 1))))) (some (.inr l2))
noncomputable def QlO:Option Qac:=bnd (QaT (fun s=>QgG s.1 s.2) ([],0)) (fun l1=>bnd (QaT (fun s=>Qfn l1 s.1 s.2) ([],0)) (fun l3=>some (Qac.mk (Qam.mk [Qg6,QlT,QlU] l1) [(Qal.mk QrC 1 0 0 [2] 0 0 0 100 100 0 0 1 0)] l3 [] [])))
noncomputable def QfQ:Option Bool:=bnd (QlO) fun r=>bnd (Qi1 r (Qad.mk 0 0 [] [(Qaa.mk 1 true)]) 0) fun r1=>bnd (Qi1 r (Qad.mk 0 0 [false] [(Qaa.mk 1 true)]) 0) fun r2=>bnd (Qi2 r [0,1]) fun r3=>bnd (Qi1 r (Qad.mk 0 0 [] []) 2) fun r4=>br (((((((neI r1.2.2 0)||(neI r2.2.2 0))||(neI r3.2 0))||(neI r4.2.2 2))||(neI (lenI r1.1.visits) 2))||(neI (lenI r2.1.visits) 2))||(neI (lenI r3.1.routes) 1)) (some false) (bnd (getI r1.1.visits 0) fun x0=>br ((eqI x0.order 0&&(eqB x0.drop true&&true))&&(eqI r1.2.1 671088640)) (bnd (getI r2.1.visits 0) fun x1=>br (eqI x1.order 1&&(eqB x1.drop true&&true)) (bnd (getI r2.1.visits 1) fun x2=>br (eqI x2.order 0&&(eqB x2.drop true&&true)) (bnd (getI r3.1.routes 0) fun x3=>some ((eqI (lenI x3.visits) 2)&&(eqI (lenI r3.1.unserved) 0))) (some false)) (some false)) (some false))
noncomputable def QfK (x0:Qac) (order:Int):Option Bool:=some ((geI order 0)&&(ltI order (lenI x0.orders)))
noncomputable def QgA (r:Qad) (order:Int) (i:Int):Option ((Int)⊕((Unit)⊕(Bool))):=br (ltI i (lenI r.visits)) (bnd (getI r.visits i) fun x0=>br (eqI x0.order order) (some (.inr (.inr true))) (some (.inl (addK .i64 i 1)))) (some (.inr (.inl ())))
noncomputable def Qjl (r:Qad) (order:Int):Option Bool:=bnd (QaT (fun s=>QgA r order s) 0) (fun e=>sel e (fun (_:Unit)=>some false) (fun r1=>some r1))
noncomputable def QdZ (l:List Qag) (at_:Int) (l1:List Qaa):Option (List Qaa):=bnd (getI l at_) fun x1=>br (geI x1.drop.place 0) (chk (okN (l1++[(Qaa.mk at_ true)]).length 16) (some (l1++[(Qaa.mk at_ true)]))) (some l1)
noncomputable def QgZ (l:List Qag) (at_:Int):Option (List Qaa):=bnd (QbQ at_ 0 (subK .i64 (lenI l) 1)) fun r=>br r (bnd (getI l at_) fun x0=>br (geI x0.pick.place 0) (chk (okN [(Qaa.mk at_ false)].length 16) (QdZ l at_ [(Qaa.mk at_ false)])) (QdZ l at_ [])) (some [])
noncomputable def Qds (l:List Qaa) (at_:Int) (v:Qaa):Option (List Qaa):=bnd (slcI l 0 at_) fun l1=>chk (okN l1.length 16) (chk (okN (l1++[v]).length 16) (bnd (slcI l at_ (lenI l)) fun l2=>chk (okN ((l1++[v])++l2).length 16) (some ((l1++[v])++l2))))
noncomputable def QjG (s0:Qau):Option Bool:=some ((((((((geI s0.cost 0)&&(leI s0.cost 1073741824))&&(geI s0.moved 0))&&(leI s0.moved 15))&&(geI s0.other 0))&&(leI s0.other 15))&&(geI s0.work 0))&&(leI s0.work 65535))
noncomputable def Qdr (s0:Qau):Option (Int×Int):=br ((((ltI s0.cost 0)||(ltI s0.moved 0))||(ltI s0.other 0))||(ltI s0.work 0)) (some (0,2)) (bnd (QjG s0) fun r=>br r (some ((addK .i64 (mulK .i64 (addK .i64 (mulK .i64 (addK .i64 (mulK .i64 s0.cost 16) s0.moved) 16) s0.other) 65536) s0.work),0)) (some (0,4)))
noncomputable def Qee (set_:Int) (i:Int):Option Bool:=br (((geI set_ 0)&&(geI i 0))&&(leI i 62)) (chk ((0:Int)≤(cvK .u64 i)) (some (eqI (remK (shrK .i64 set_ (cvK .u64 i)) 2) 1))) (some false)
noncomputable def Qd1 (r:Qad) (set_:Int) (i:Int):Option ((Int×Int)⊕((Int)⊕(Int×Int))):=br (ltI i (lenI r.visits)) (bnd (getI r.visits i) fun x0=>br ((ltI x0.order 0)||(gtI x0.order 62)) (some (.inr (.inr (0,2)))) (bnd (Qee set_ x0.order) fun r1=>br r1 (some (.inl (set_,(addK .i64 i 1)))) (chk ((0:Int)≤(cvK .u64 x0.order)) (some (.inl ((addK .i64 set_ (shlK .i64 1 (cvK .u64 x0.order))),(addK .i64 i 1))))))) (some (.inr (.inl set_)))
noncomputable def QfH (r:Qad):Option (Int×Int):=bnd (QaT (fun s=>Qd1 r s.1 s.2) (0,0)) (fun e=>sel e (fun set_1=>some (set_1,0)) (fun r2=>some r2))
noncomputable def QcD (l:List Qaa) (v:Qaa) (i:Int):Option ((Int)⊕((Unit)⊕(Int))):=br (ltI i (lenI l)) (bnd (getI l i) fun x0=>br (eqI x0.order v.order&&(eqB x0.drop v.drop&&true)) (some (.inr (.inr i))) (some (.inl (addK .i64 i 1)))) (some (.inr (.inl ())))
noncomputable def QcU (l:List Qaa) (v:Qaa):Option Int:=bnd (QaT (fun s=>QcD l v s) 0) (fun e=>sel e (fun (_:Unit)=>some (-1)) (fun r=>some r))
noncomputable def Qd2 (x0:Qac) (order:Int) (l:List Qaa):Option (List Qaa):=bnd (getI x0.orders order) fun x2=>br (neI x2.drop.place (-1)) (chk (okN (l++[(Qaa.mk order true)]).length 16) (some (l++[(Qaa.mk order true)]))) (some l)
noncomputable def Qg1 (x0:Qac) (order:Int):Option (List Qaa):=bnd (getI x0.orders order) fun x1=>br (neI x1.pick.place (-1)) (chk (okN [(Qaa.mk order false)].length 16) (Qd2 x0 order [(Qaa.mk order false)])) (Qd2 x0 order [])
noncomputable def QbS (l:List Qaa) (some_:List Qaa) (i:Int):Option ((Int)⊕((Unit)⊕(Bool))):=br (ltI i (lenI some_)) (bnd (getI some_ i) fun x0=>bnd (QcU l x0) fun r=>br (ltI r 0) (some (.inr (.inr false))) (some (.inl (addK .i64 i 1)))) (some (.inr (.inl ())))
noncomputable def QfZ (l:List Qaa) (some_:List Qaa):Option Bool:=bnd (QaT (fun s=>QbS l some_ s) 0) (fun e=>sel e (fun (_:Unit)=>some true) (fun r1=>some r1))
noncomputable def Qcj (x0:Qac) (l:List Qaa) (i:Int):Option ((Int)⊕((Unit)⊕(Bool))):=br (ltI i (lenI l)) (bnd (getI l i) fun x1=>bnd (Qg1 x0 x1.order) fun r=>bnd (QcU r x1) fun r1=>br (ltI r1 0) (some (.inr (.inr false))) (bnd (QfZ l r) fun r2=>br r2 (br (eqI (lenI r) 2) (bnd (getI r 0) fun x2=>bnd (QcU l x2) fun r3=>bnd (getI r 1) fun x3=>bnd (QcU l x3) fun r4=>br (gtI r3 r4) (some (.inr (.inr false))) (some (.inl (addK .i64 i 1)))) (some (.inl (addK .i64 i 1)))) (some (.inr (.inr false))))) (some (.inr (.inl ())))
noncomputable def QdP (x0:Qac) (l:List Qaa):Option Bool:=bnd (QaT (fun s=>Qcj x0 l s) 0) (fun e=>sel e (fun (_:Unit)=>some true) (fun r5=>some r5))
noncomputable def QcE (x0:Qac) (set_:Int) (i:Int):Option ((Int)⊕((Unit)⊕(Bool))):=br (ltI i (lenI x0.apart)) (bnd (getI x0.apart i) fun x1=>bnd (Qee set_ x1.x0) fun r=>br r (bnd (Qee set_ x1.x1) fun r1=>br r1 (some (.inr (.inr false))) (some (.inl (addK .i64 i 1)))) (some (.inl (addK .i64 i 1)))) (some (.inr (.inl ())))
noncomputable def Qep (x0:Qac) (set_:Int):Option Bool:=bnd (QaT (fun s=>QcE x0 set_ s) 0) (fun e=>sel e (fun (_:Unit)=>some true) (fun r2=>some r2))
noncomputable def Qci (x0:Qac) (set_:Int) (l:List Qaa) (i:Int) (x1:QaR) (j:Int) (k:Int):Option ((Int)⊕((Unit)⊕(Bool))):=br (ltI k j) (bnd (getI l j) fun x2=>br (eqI x2.order x1.x0) (bnd (getI l k) fun x3=>br (eqI x3.order x1.x1) (some (.inr (.inr false))) (some (.inl (addK .i64 k 1)))) (some (.inl (addK .i64 k 1)))) (some (.inr (.inl ())))
noncomputable def Qch (x0:Qac) (set_:Int) (l:List Qaa) (i:Int) (x1:QaR) (j:Int):Option ((Int)⊕((Unit)⊕(Bool))):=br (ltI j (lenI l)) (bnd (QaT (fun s=>Qci x0 set_ l i x1 j s) 0) (fun e=>sel e (fun (_:Unit)=>some (.inl (addK .i64 j 1))) (fun r2=>some (.inr (.inr r2))))) (some (.inr (.inl ())))
noncomputable def Qcg (x0:Qac) (set_:Int) (l:List Qaa) (i:Int):Option ((Int)⊕((Unit)⊕(Bool))):=br (ltI i (lenI x0.before)) (bnd (getI x0.before i) fun x1=>bnd (Qee set_ x1.x1) fun r=>br r (bnd (Qee set_ x1.x0) fun r1=>br r1 (bnd (QaT (fun s=>Qch x0 set_ l i x1 s) 0) (fun e=>sel e (fun (_:Unit)=>some (.inl (addK .i64 i 1))) (fun r3=>some (.inr (.inr r3))))) (some (.inr (.inr false)))) (some (.inl (addK .i64 i 1)))) (some (.inr (.inl ())))
noncomputable def QdO (x0:Qac) (set_:Int) (l:List Qaa):Option Bool:=bnd (QaT (fun s=>Qcg x0 set_ l s) 0) (fun e=>sel e (fun (_:Unit)=>some true) (fun r4=>some r4))
noncomputable def QcC (x0:Qac) (r:Qad) (i:Int):Option ((Int)⊕((Unit)⊕(Int))):=br (ltI i (lenI r.visits)) (bnd (getI r.visits i) fun x1=>br (ltI x1.order 0) (some (.inr (.inr 2))) (br (geI x1.order (lenI x0.orders)) (some (.inr (.inr 2))) (some (.inl (addK .i64 i 1))))) (some (.inr (.inl ())))
noncomputable def Qb7 (x0:Qac) (r:Qad) (r1:Int×Int) (i1:Int):Option ((Int)⊕((Unit)⊕(Int))):=br (ltI i1 (lenI r.visits)) (bnd (getI r.visits i1) fun x2=>bnd (getI x0.orders x2.order) fun x3=>br x3.off (some (.inr (.inr 9))) (some (.inl (addK .i64 i1 1)))) (some (.inr (.inl ())))
noncomputable def QbR (x0:Qac) (r:Qad) (r1:Int×Int) (i2:Int):Option ((Int)⊕((Unit)⊕(Int))):=br (ltI i2 (lenI r.visits)) (bnd (getI r.visits i2) fun x4=>bnd (QcU r.visits x4) fun r2=>br (neI r2 i2) (some (.inr (.inr 6))) (some (.inl (addK .i64 i2 1)))) (some (.inr (.inl ())))
noncomputable def Qgw (x0:Qac) (r:Qad):Option Int:=bnd (QaT (fun s=>QcC x0 r s) 0) (fun e=>sel e (fun (_:Unit)=>bnd (QfH r) fun r1=>br ((neI r1.2 0)||(eqI (lenI r.visits) 0)) (some 2) (bnd (QaT (fun s=>Qb7 x0 r r1 s) 0) (fun e=>sel e (fun (_:Unit)=>bnd (QaT (fun s=>QbR x0 r r1 s) 0) (fun e=>sel e (fun (_:Unit)=>bnd (QdP x0 r.visits) fun r3=>br r3 (bnd (Qep x0 r1.1) fun r4=>br r4 (bnd (QdO x0 r1.1 r.visits) fun r5=>br r5 (some 0) (some 21)) (some 20)) (some 19)) (fun r6=>some r6))) (fun r7=>some r7)))) (fun r8=>some r8))
noncomputable def Qdy (t:Qal) (skills:Int) (bit:Int):Option ((Int)⊕((Unit)⊕(Bool))):=br (gtI bit 0) (chk ((bit:Int)≠0) (br (eqI (remK (quoK .i64 skills bit) 2) 1) (chk ((bit:Int)≠0) (br (eqI (remK (quoK .i64 t.skills bit) 2) 0) (some (.inr (.inr false))) (some (.inl (mulK .i64 bit 2))))) (some (.inl (mulK .i64 bit 2))))) (some (.inr (.inl ())))
noncomputable def Qg9 (t:Qal) (skills:Int):Option Bool:=br ((ltI t.skills 0)||(ltI skills 0)) (some false) (bnd (QaT (fun s=>Qdy t skills s) 1) (fun e=>sel e (fun (_:Unit)=>some true) (fun r=>some r)))
noncomputable def Qc3 (l:List (List Int)) (dims:Int) (i:Int):Option ((Int)⊕((Unit)⊕(Bool))):=br (ltI i (lenI l)) (bnd (getI l i) fun x0=>br (neI (lenI x0) dims) (some (.inr (.inr false))) (some (.inl (addK .i64 i 1)))) (some (.inr (.inl ())))
noncomputable def Qip (l:List (List Int)) (dims:Int):Option Bool:=br ((ltI dims 0)||(gtI dims 3)) (some false) (bnd (QaT (fun s=>Qc3 l dims s) 0) (fun e=>sel e (fun (_:Unit)=>some true) (fun r=>some r)))
noncomputable def QcZ (l:List (List Int)) (dims:Int) (l1:List Int) (d:Int) (n:Int) (i:Int):Option ((Int×Int)⊕(Int)):=br (ltI i (lenI l)) (bnd (getI l i) fun x0=>bnd (getI x0 d) fun x1=>some (.inl ((addK .i64 n x1),(addK .i64 i 1)))) (some (.inr n))
noncomputable def QcY (l:List (List Int)) (dims:Int) (l1:List Int) (d:Int):Option ((List Int×Int)⊕(List Int)):=br (ltI d dims) (bnd (QaT (fun s=>QcZ l dims l1 d s.1 s.2) (0,0)) (fun n1=>chk (okN (l1++[n1]).length 8) (some (.inl ((l1++[n1]),(addK .i64 d 1)))))) (some (.inr l1))
noncomputable def Qh4 (l:List (List Int)) (dims:Int):Option (List Int×Int):=bnd (Qip l dims) fun r=>br r (bnd (QaT (fun s=>QcY l dims s.1 s.2) ([],0)) (fun l2=>some (l2,0))) (some ([],2))
noncomputable def Qhb (x0:Qac):Option Int:=br (eqI (lenI x0.types) 0) (some 0) (bnd (getI x0.types 0) fun x1=>some (lenI x1.cap))
noncomputable def Qca (x0:Qac) (l:List Qaa) (n:Int) (l1:List (List Int)) (i:Int) (on_:Bool) (there:Bool) (k:Int):Option ((Bool×Bool×Int)⊕(Bool×Bool)):=br (ltI k (lenI l)) (bnd (getI l k) fun x2=>br (neI x2.order i) (some (.inl (on_,there,(addK .i64 k 1)))) (br (ltI k n) (some (.inl ((!x2.drop),true,(addK .i64 k 1)))) (some (.inl (on_,true,(addK .i64 k 1)))))) (some (.inr (on_,there)))
noncomputable def Qb9 (x0:Qac) (l:List Qaa) (n:Int) (l1:List (List Int)) (i:Int):Option ((List (List Int)×Int)⊕(List (List Int))):=br (ltI i (lenI x0.orders)) (bnd (getI x0.orders i) fun x1=>bnd (QaT (fun s=>Qca x0 l n l1 i s.1 s.2.1 s.2.2) ((ltI x1.pick.place 0),false,0)) (fun e0=>(fun on_1 there1=>br (on_1&&there1) (bnd (getI x0.orders i) fun x3=>chk (okN (l1++[x3.load]).length 24) (some (.inl ((l1++[x3.load]),(addK .i64 i 1))))) (some (.inl (l1,(addK .i64 i 1))))) e0.1 e0.2)) (some (.inr l1))
noncomputable def QhT (x0:Qac) (l:List Qaa) (n:Int):Option (List Int×Int):=bnd (QaT (fun s=>Qb9 x0 l n s.1 s.2) ([],0)) (fun l2=>bnd (Qhb x0) fun r=>bnd (Qh4 l2 r) fun r1=>some (r1.1,r1.2))
noncomputable def Qb8 (x0:Qac) (r:Qad) (l:List (List Int)) (n:Int):Option ((List (List Int)×Int)⊕((List (List Int))⊕(List (List Int)×Int))):=br (leI n (lenI r.visits)) (bnd (QhT x0 r.visits n) fun r2=>br (neI r2.2 0) (some (.inr (.inr ([],r2.2)))) (chk (okN (l++[r2.1]).length 24) (some (.inl ((l++[r2.1]),(addK .i64 n 1)))))) (some (.inr (.inl l)))
noncomputable def QhS (x0:Qac) (r:Qad):Option (List (List Int)×Int):=bnd (Qgw x0 r) fun r1=>br (neI r1 0) (some ([],r1)) (bnd (QaT (fun s=>Qb8 x0 r s.1 s.2) ([],0)) (fun e=>sel e (fun l1=>some (l1,0)) (fun r3=>some r3)))
noncomputable def Qc2 (a:List Int) (capacity:List Int) (i:Int):Option ((Int)⊕((Unit)⊕(Bool))):=br (ltI i (lenI a)) (bnd (getI a i) fun x0=>bnd (getI capacity i) fun x1=>br (gtI x0 x1) (some (.inr (.inr false))) (some (.inl (addK .i64 i 1)))) (some (.inr (.inl ())))
noncomputable def Qio (a:List Int) (capacity:List Int):Option Bool:=br (neI (lenI a) (lenI capacity)) (some false) (bnd (QaT (fun s=>Qc2 a capacity s) 0) (fun e=>sel e (fun (_:Unit)=>some true) (fun r=>some r)))
noncomputable def Qc6 (x0:Qac) (r:Qad) (r1:List (List Int)×Int) (i:Int):Option ((Int)⊕((Unit)⊕(Int))):=br (ltI i (lenI r1.1)) (bnd (getI r1.1 i) fun x1=>bnd (getI x0.types r.type_) fun x2=>bnd (Qio x1 x2.cap) fun r2=>br r2 (some (.inl (addK .i64 i 1))) (some (.inr (.inr 17)))) (some (.inr (.inl ())))
noncomputable def Qha (x0:Qac) (r:Qad):Option Int:=br ((ltI r.type_ 0)||(geI r.type_ (lenI x0.types))) (some 2) (bnd (QhS x0 r) fun r1=>br (neI r1.2 0) (some r1.2) (bnd (QaT (fun s=>Qc6 x0 r r1 s) 0) (fun e=>sel e (fun (_:Unit)=>some 0) (fun r3=>some r3))))
noncomputable def Qef (x0:Qac) (v:Qaa):Option (Qaw×Bool):=br ((ltI v.order 0)||(geI v.order (lenI x0.orders))) (some ((Qaw.mk 0 0 0 0),false)) (bnd (getI x0.orders v.order) fun x1=>br v.drop (some (x1.drop,(geI x1.drop.place 0))) (some (x1.pick,(geI x1.pick.place 0))))
noncomputable def QbT (x0:Qac) (r:Qad) (i:Int):Option ((Int)⊕((Unit)⊕(Bool))):=br (ltI i (lenI r.visits)) (bnd (getI r.visits i) fun x1=>bnd (Qef x0 x1) fun r1=>br r1.2 (some (.inl (addK .i64 i 1))) (some (.inr (.inr false)))) (some (.inr (.inl ())))
noncomputable def Qdj (x0:Qac) (r:Qad):Option Bool:=br (((((ltI r.type_ 0)||(geI r.type_ (lenI x0.types)))||(ltI r.start 0))||(gtI r.start 4096))||(gtI (lenI r.visits) 20)) (some false) (bnd (QaT (fun s=>QbT x0 r s) 0) (fun e=>sel e (fun (_:Unit)=>some true) (fun r2=>some r2)))
noncomputable def Qhc (t:Qal) (s0:QaA) (yes:Bool):Option QaA:=br yes (some (QaA.mk s0.place (addK .i64 s0.time t.rest_) 0 s0.miles)) (some s0)
noncomputable def Qgn (n:Qam) (p:Int):Option Bool:=some ((geI p 0)&&(ltI p (lenI n.places)))
noncomputable def Qfc (n:Qam) (profile:Int) (from_:Int) (to_:Int) (i:Int):Option ((Int)⊕((Unit)⊕(Qas×Bool))):=br (ltI i (lenI n.arcs)) (bnd (getI n.arcs i) fun x0=>br (((eqI x0.from_ from_)&&(eqI x0.to_ to_))&&(eqI x0.profile profile)) (some (.inr (.inr (x0,true)))) (some (.inl (addK .i64 i 1)))) (some (.inr (.inl ())))
noncomputable def Qiq (n:Qam) (profile:Int) (from_:Int) (to_:Int):Option (Qas×Bool):=bnd (QaT (fun s=>Qfc n profile from_ to_ s) 0) (fun e=>sel e (fun (_:Unit)=>some ((Qas.mk 0 0 0 0 [] []),false)) (fun r=>some r))
noncomputable def QdY (l:List Qao) (t:Int) (i:Int):Option ((Int)⊕((Unit)⊕(Int))):=br (ltI (addK .i64 i 1) (lenI l)) (bnd (getI l i) fun x0=>bnd (getI l (addK .i64 i 1)) fun x1=>br ((leI x0.t t)&&(ltI t x1.t)) (chk (((subK .i64 x1.t x0.t):Int)≠0) (some (.inr (.inr (addK .i64 x0.a (quoK .i64 (subK .i64 (subK .i64 (addK .i64 (mulK .i64 (subK .i64 t x0.t) (subK .i64 x1.a x0.a)) x1.t) x0.t) 1) (subK .i64 x1.t x0.t))))))) (some (.inl (addK .i64 i 1)))) (some (.inr (.inl ())))
noncomputable def QgX (l:List Qao) (t:Int):Option Int:=bnd (Qfq l) fun r=>br (((gtI (lenI r) 0)||(ltI t 0))||(gtI t 1073741824)) (some 0) (bnd (QaT (fun s=>QdY l t s) 0) (fun e=>sel e (fun (_:Unit)=>bnd (getI l 0) fun x2=>br (gtI t x2.t) (bnd (getI l (subK .i64 (lenI l) 1)) fun x3=>some (subK .i64 (addK .i64 t x3.a) x3.t)) (some (subK .i64 (addK .i64 t x2.a) x2.t))) (fun r1=>some r1)))
noncomputable def QgI (a:Qas) (t:Int) (n:Int) (i:Int):Option ((Int×Int)⊕(Int)):=br (ltI i (lenI a.slow)) (bnd (getI a.slow i) fun x0=>br (leI x0.t t) (some (.inl ((addK .i64 n x0.a),(addK .i64 i 1)))) (some (.inl (n,(addK .i64 i 1))))) (some (.inr n))
noncomputable def QgY (a:Qas) (t:Int):Option Int:=bnd (QgX a.travel t) fun r=>bnd (QaT (fun s=>QgI a t s.1 s.2) (r,0)) (fun n1=>some n1)
noncomputable def Qi7 (n:Qam) (profile:Int) (from_:Int) (to_:Int) (t:Int):Option (Int×Int×Int):=bnd (Qgn n from_) fun r=>br r (bnd (Qgn n to_) fun r1=>br r1 (br (eqI from_ to_) (some (t,0,0)) (bnd (Qiq n profile from_ to_) fun r2=>br r2.2 (bnd (QgY r2.1 t) fun r3=>some (r3,r2.1.miles,0)) (some (0,0,12)))) (some (0,0,11))) (some (0,0,11))
noncomputable def QmP (x0:Qac) (profile:Int) (from_:Int) (to_:Int) (t:Int):Option (Int×Int×Bool):=bnd (Qi7 x0.net profile from_ to_ t) fun r=>some (r.1,r.2.1,(eqI r.2.2 0))
noncomputable def QdC (x0:Qac) (t:Qal) (s0:QaA) (to_:Int) (close:Int) (late:Int):Option (QaA×Int):=bnd (QmP x0 t.profile s0.place to_ s0.time) fun r=>br r.2.2 (br (gtI r.1 close) (some (s0,late)) (br (gtI (subK .i64 (addK .i64 s0.driven r.1) s0.time) t.drive) (some (s0,16)) (some ((QaA.mk to_ r.1 (subK .i64 (addK .i64 s0.driven r.1) s0.time) (addK .i64 s0.miles r.2.1)),0)))) (some (s0,12))
noncomputable def QfI (x0:Qac) (r:Qad) (rests:List Bool) (x1:Qal) (x2:Bool) (l:List Int) (l1:List Qar) (x3:QaA) (depart:Int) (i:Int):Option ((List Int×List Qar×QaA×Int×Int)⊕((List Int×List Qar×QaA×Int)⊕(Qap×List Int×Int))):=br (ltI i (lenI r.visits)) (bnd (getI r.visits i) fun x4=>bnd (Qef x0 x4) fun r3=>bnd (QdC x0 x1 x3 r3.1.place r3.1.close 14) fun r4=>br (neI r4.2 0) (some (.inr (.inr ((Qap.mk false 0 [] 0 0),[],r4.2)))) (chk (okN (l++[r4.1.driven]).length 8) (bnd (getI rests (addK .i64 i 1)) fun x5=>bnd (Qhc x1 (QaA.mk r4.1.place (addK .i64 (maxI r4.1.time r3.1.open_) r3.1.service) r4.1.driven r4.1.miles) x5) fun r5=>chk (okN (l1++[(Qar.mk r4.1.time (maxI r4.1.time r3.1.open_) r5.time x5)]).length 32) (some (.inl ((l++[r4.1.driven]),(l1++[(Qar.mk r4.1.time (maxI r4.1.time r3.1.open_) r5.time x5)]),r5,depart,(addK .i64 i 1))))))) (some (.inr (.inl (l,l1,x3,depart))))
noncomputable def Qh7 (x0:Qac) (r:Qad) (rests:List Bool):Option (Qap×List Int×Int):=bnd (Qdj x0 r) fun r1=>br ((!r1)||(neI (lenI rests) (addK .i64 (lenI r.visits) 1))) (some ((Qap.mk false 0 [] 0 0),[],2)) (bnd (getI x0.types r.type_) fun x1=>bnd (getI rests 0) fun x2=>bnd (Qhc x1 (QaA.mk x1.from_ (maxI x1.open_ r.start) 0 0) x2) fun r2=>bnd (QaT (fun s=>QfI x0 r rests x1 x2 s.1 s.2.1 s.2.2.1 s.2.2.2.1 s.2.2.2.2) ([],[],r2,r2.time,0)) (fun e=>sel e (fun e0=>(fun l2 l3 x6 depart1=>bnd (QdC x0 x1 x6 x1.to_ x1.close 15) fun r6=>br (neI r6.2 0) (some ((Qap.mk false 0 [] 0 0),[],r6.2)) (chk (okN (l2++[r6.1.driven]).length 8) (some ((Qap.mk x2 depart1 l3 r6.1.time r6.1.miles),(l2++[r6.1.driven]),0)))) e0.1 e0.2.1 e0.2.2.1 e0.2.2.2) (fun r7=>some r7)))
noncomputable def QeV (x0:Qac) (r:Qad) (rests:List Bool):Option (Qap×Int):=bnd (Qh7 x0 r rests) fun r1=>some (r1.1,r1.2.2)
noncomputable def Qfg (n:Int) (l:List Bool) (i:Int):Option ((List Bool×Int)⊕((Unit)⊕(List Bool×Bool))):=br (geI i n) (bnd (getI l i) fun x0=>br x0 (some (.inl ((setI l i false),(subK .i64 i 1)))) (some (.inr (.inr ((setI l i true),true))))) (some (.inr (.inl ())))
noncomputable def Qgc (rests:List Bool) (n:Int):Option (List Bool×Bool):=chk (okN rests.length 1) (bnd (QaT (fun s=>Qfg n s.1 s.2) (rests,(subK .i64 (lenI rests) 1))) (fun e=>sel e (fun (_:Unit)=>some ([],false)) (fun r=>some r)))
noncomputable def Qgx (x0:Qac) (r:Qad) (l:List Bool) (r2:Qap×Int) (rests:List Bool) (rests1:List Bool) (x2:Qap) (found1:Bool):Option ((List Bool×Qap×List Bool×Bool×Bool)⊕(Qap×Bool)):=bnd (Qgc rests1 (lenI rests)) fun r5=>some (.inl (rests,x2,r5.1,found1,r5.2))
noncomputable def Qff (x0:Qac) (r:Qad) (l:List Bool) (r2:Qap×Int) (rests:List Bool) (x1:Qap) (rests1:List Bool) (found:Bool) (more:Bool):Option ((List Bool×Qap×List Bool×Bool×Bool)⊕(Qap×Bool)):=br more (bnd (QeV x0 (Qad.mk r.type_ r.start rests r.visits) rests1) fun r4=>br ((eqI r4.2 0)&&((!found)||(ltI r4.1.end_ x1.end_))) (Qgx x0 r l r2 rests rests1 r4.1 true) (Qgx x0 r l r2 rests rests1 x1 found)) (some (.inr (x1,found)))
noncomputable def Qgb (x0:Qac) (r:Qad):Option (Qap×Int):=bnd (Qdj x0 r) fun r1=>br ((!r1)||(gtI (lenI r.rests) (addK .i64 (lenI r.visits) 1))) (some ((Qap.mk false 0 [] 0 0),2)) (bnd (mkI (addK .i64 (lenI r.visits) 1) (addK .i64 (lenI r.visits) 1) 1 false) fun l=>bnd (QeV x0 r (cpyL l r.rests)) fun r2=>bnd (Qgc (cpyL l r.rests) (lenI r.rests)) fun r3=>bnd (QaT (fun s=>Qff x0 r l r2 s.1 s.2.1 s.2.2.1 s.2.2.2.1 s.2.2.2.2) (r.rests,r2.1,r3.1,(eqI r2.2 0),r3.2)) (fun e0=>(fun x3 found2=>br found2 (some (x3,0)) (some ((Qap.mk false 0 [] 0 0),r2.2))) e0.1 e0.2))
noncomputable def Qck (l:List Qaa) (at_:Int) (i:Int):Option ((Int)⊕((Unit)⊕(Bool))):=br (ltI i at_) (bnd (getI l i) fun x0=>bnd (getI l at_) fun x1=>br (eqI x0.order x1.order) (some (.inr (.inr false))) (some (.inl (addK .i64 i 1)))) (some (.inr (.inl ())))
noncomputable def Qg2 (l:List Qaa) (at_:Int):Option Bool:=bnd (QaT (fun s=>Qck l at_ s) 0) (fun e=>sel e (fun (_:Unit)=>some true) (fun r=>some r))
noncomputable def Qf2 (x0:Qac) (r:Qad) (s0:Qap) (x1:Qal) (other:Int) (i:Int) (x2:Qaa) (moved1:Int):Option ((Int×Int×Int)⊕(Int×Int)):=bnd (getI x0.orders x2.order) fun x4=>br (neI x4.last_ (-1)) (br (neI x4.last_ r.type_) (some (.inl (moved1,(addK .i64 other 1),(addK .i64 i 1)))) (some (.inl (moved1,other,(addK .i64 i 1))))) (some (.inl (moved1,other,(addK .i64 i 1))))
noncomputable def Qcb (x0:Qac) (r:Qad) (s0:Qap) (x1:Qal) (moved:Int) (other:Int) (i:Int):Option ((Int×Int×Int)⊕(Int×Int)):=br (ltI i (lenI r.visits)) (bnd (getI r.visits i) fun x2=>br ((ltI x2.order 0)||(geI x2.order (lenI x0.orders))) (some (.inl (moved,other,(addK .i64 i 1)))) (bnd (Qg2 r.visits i) fun r1=>br r1 (bnd (getI x0.orders x2.order) fun x3=>br (neI x3.now (-1)) (br (neI x3.now r.type_) (Qf2 x0 r s0 x1 other i x2 (addK .i64 moved 1)) (Qf2 x0 r s0 x1 other i x2 moved)) (br (neI x3.last_ (-1)) (br (neI x3.last_ r.type_) (some (.inl (moved,(addK .i64 other 1),(addK .i64 i 1)))) (some (.inl (moved,other,(addK .i64 i 1))))) (some (.inl (moved,other,(addK .i64 i 1)))))) (some (.inl (moved,other,(addK .i64 i 1)))))) (some (.inr (moved,other)))
noncomputable def Qgy (x0:Qac) (r:Qad) (s0:Qap):Option Qau:=br ((ltI r.type_ 0)||(geI r.type_ (lenI x0.types))) (some (Qau.mk 0 0 0 0)) (bnd (getI x0.types r.type_) fun x1=>bnd (QaT (fun s=>Qcb x0 r s0 x1 s.1 s.2.1 s.2.2) (0,0,0)) (fun e0=>(fun moved2 other1=>some (Qau.mk (addK .i64 (addK .i64 x1.fixed (mulK .i64 x1.perMile s0.miles)) (mulK .i64 x1.perTick (subK .i64 s0.end_ x1.open_))) moved2 other1 (mulK .i64 (quoK .i64 (subK .i64 s0.end_ x1.open_) 64) (quoK .i64 (subK .i64 s0.end_ x1.open_) 64)))) e0.1 e0.2))
noncomputable def Qbz (x0:Qac) (r:Qad) (i:Int):Option ((Int)⊕((Unit)⊕(Qap×Qau×Int))):=br (ltI i (lenI r.visits)) (bnd (getI x0.types r.type_) fun x1=>bnd (getI r.visits i) fun x2=>bnd (getI x0.orders x2.order) fun x3=>bnd (Qg9 x1 x3.skills) fun r2=>br r2 (some (.inl (addK .i64 i 1))) (some (.inr (.inr ((Qap.mk false 0 [] 0 0),(Qau.mk 0 0 0 0),18))))) (some (.inr (.inl ())))
noncomputable def QeK (x0:Qac) (r:Qad):Option (Qap×Qau×Int):=br ((ltI r.type_ 0)||(geI r.type_ (lenI x0.types))) (some ((Qap.mk false 0 [] 0 0),(Qau.mk 0 0 0 0),2)) (bnd (Qgw x0 r) fun r1=>br (neI r1 0) (some ((Qap.mk false 0 [] 0 0),(Qau.mk 0 0 0 0),r1)) (bnd (QaT (fun s=>Qbz x0 r s) 0) (fun e=>sel e (fun (_:Unit)=>bnd (Qha x0 r) fun r3=>br (neI r3 0) (some ((Qap.mk false 0 [] 0 0),(Qau.mk 0 0 0 0),r3)) (bnd (Qgb x0 r) fun r4=>br (neI r4.2 0) (some ((Qap.mk false 0 [] 0 0),(Qau.mk 0 0 0 0),r4.2)) (bnd (Qgy x0 r r4.1) fun r5=>some (r4.1,r5,0)))) (fun r6=>some r6))))
noncomputable def Qft (x0:Qac) (r:Qad):Option (Int×Int):=bnd (QeK x0 r) fun r1=>br (neI r1.2.2 0) (some (0,r1.2.2)) (bnd (Qdr r1.2.1) fun r2=>some (r2.1,r2.2))
noncomputable def QjE (a:Qaa) (b:Qaa):Option Bool:=some ((ltI a.order b.order)||(((eqI a.order b.order)&&(!a.drop))&&b.drop))
noncomputable def Qc5 (a:List Qaa) (b:List Qaa) (i:Int):Option ((Int)⊕((Unit)⊕(Bool))):=br ((ltI i (lenI a))&&(ltI i (lenI b))) (bnd (getI a i) fun x0=>bnd (getI b i) fun x1=>br (eqI x0.order x1.order&&(eqB x0.drop x1.drop&&true)) (some (.inl (addK .i64 i 1))) (bnd (QjE x0 x1) fun r=>some (.inr (.inr r)))) (some (.inr (.inl ())))
noncomputable def Qiu (a:List Qaa) (b:List Qaa):Option Bool:=bnd (QaT (fun s=>Qc5 a b s) 0) (fun e=>sel e (fun (_:Unit)=>some (ltI (lenI a) (lenI b))) (fun r1=>some r1))
noncomputable def QfJ (x0:Qac) (f:QaL) (r:Qad) (visits:List Qaa):Option QaL:=bnd (Qft x0 (Qad.mk r.type_ r.start r.rests visits)) fun r1=>br (neI r1.2 0) (some f) (br ((!f.ok)||(ltI r1.1 f.price)) (some (QaL.mk true (Qad.mk r.type_ r.start r.rests visits) r1.1)) (br (eqI r1.1 f.price) (bnd (Qiu visits f.route.visits) fun r2=>br r2 (some (QaL.mk true (Qad.mk r.type_ r.start r.rests visits) r1.1)) (some f)) (some f)))
noncomputable def QdA (x0:Qac) (r3:List Qaa) (x2:Qad) (ok:Bool) (type_:Int) (start:Int) (rests:List Bool) (visits:List Qaa) (price:Int) (i:Int) (r4:List Qaa) (ok1:Bool) (type_1:Int) (start1:Int) (rests1:List Bool) (visits1:List Qaa) (price1:Int) (k:Int):Option ((Bool×Int×Int×List Bool×List Qaa×Int×Int)⊕(QaL)):=br (leI k (lenI r4)) (bnd (getI r3 1) fun x4=>bnd (Qds r4 k x4) fun r6=>bnd (QfJ x0 (QaL.mk ok1 (Qad.mk type_1 start1 rests1 visits1) price1) x2 r6) fun r7=>some (.inl (r7.ok,r7.route.type_,r7.route.start,r7.route.rests,r7.route.visits,r7.price,(addK .i64 k 1)))) (some (.inr (QaL.mk ok1 (Qad.mk type_1 start1 rests1 visits1) price1)))
noncomputable def Qb4 (x0:Qac) (r3:List Qaa) (x2:Qad) (ok:Bool) (type_:Int) (start:Int) (rests:List Bool) (visits:List Qaa) (price:Int) (i:Int):Option ((Qad×Bool×Int×Int×List Bool×List Qaa×Int×Int)⊕(QaL)):=br (leI i (lenI x2.visits)) (bnd (getI r3 0) fun x3=>bnd (Qds x2.visits i x3) fun r4=>br (eqI (lenI r3) 1) (bnd (QfJ x0 (QaL.mk ok (Qad.mk type_ start rests visits) price) x2 r4) fun r5=>some (.inl (x2,r5.ok,r5.route.type_,r5.route.start,r5.route.rests,r5.route.visits,r5.price,(addK .i64 i 1)))) (bnd (QaT (fun s=>QdA x0 r3 x2 ok type_ start rests visits price i r4 s.1 s.2.1 s.2.2.1 s.2.2.2.1 s.2.2.2.2.1 s.2.2.2.2.2.1 s.2.2.2.2.2.2) (ok,type_,start,rests,visits,price,(addK .i64 i 1))) (fun x5=>some (.inl (x2,x5.ok,x5.route.type_,x5.route.start,x5.route.rests,x5.route.visits,x5.price,(addK .i64 i 1)))))) (some (.inr (QaL.mk ok (Qad.mk type_ start rests visits) price)))
noncomputable def Qgd (x0:Qac) (r:Qad) (order:Int):Option (Qad×Int×Int):=br ((ltI r.type_ 0)||(geI r.type_ (lenI x0.types))) (some ((Qad.mk 0 0 [] []),0,2)) (bnd (QfK x0 order) fun r1=>br r1 (bnd (getI x0.orders order) fun x1=>br x1.off (some ((Qad.mk 0 0 [] []),0,9)) (bnd (Qjl r order) fun r2=>br r2 (some ((Qad.mk 0 0 [] []),0,6)) (bnd (QgZ x0.orders order) fun r3=>bnd (QaT (fun s=>Qb4 x0 r3 s.1 s.2.1 s.2.2.1 s.2.2.2.1 s.2.2.2.2.1 s.2.2.2.2.2.1 s.2.2.2.2.2.2.1 s.2.2.2.2.2.2.2) (r,false,0,0,[],[],0,(lenI r.rests))) (fun x6=>br x6.ok (some (x6.route,x6.price,0)) (some ((Qad.mk 0 0 [] []),0,24)))))) (some ((Qad.mk 0 0 [] []),0,2)))
noncomputable def QbX (a:Qad) (b:Qad) (i:Int):Option ((Int)⊕((Unit)⊕(Bool))):=br (ltI i (lenI a.rests)) (bnd (getI a.rests i) fun x0=>bnd (getI b.rests i) fun x1=>br (eqB x0 x1) (some (.inl (addK .i64 i 1))) (some (.inr (.inr false)))) (some (.inr (.inl ())))
noncomputable def QbF (a:Qad) (b:Qad) (i1:Int):Option ((Int)⊕((Unit)⊕(Bool))):=br (ltI i1 (lenI a.visits)) (bnd (getI a.visits i1) fun x2=>bnd (getI b.visits i1) fun x3=>br (eqI x2.order x3.order&&(eqB x2.drop x3.drop&&true)) (some (.inl (addK .i64 i1 1))) (some (.inr (.inr false)))) (some (.inr (.inl ())))
noncomputable def Qfu (a:Qad) (b:Qad):Option Bool:=br ((((neI a.type_ b.type_)||(neI a.start b.start))||(neI (lenI a.rests) (lenI b.rests)))||(neI (lenI a.visits) (lenI b.visits))) (some false) (bnd (QaT (fun s=>QbX a b s) 0) (fun e=>sel e (fun (_:Unit)=>bnd (QaT (fun s=>QbF a b s) 0) (fun e=>sel e (fun (_:Unit)=>some true) (fun r=>some r))) (fun r1=>some r1)))
noncomputable def Qdz (a:Qak) (b:Qak) (i:Int):Option ((Int)⊕((Unit)⊕(Bool))):=br (ltI i (lenI a.routes)) (bnd (getI a.routes i) fun x0=>bnd (getI b.routes i) fun x1=>bnd (Qfu x0 x1) fun r=>br r (some (.inl (addK .i64 i 1))) (some (.inr (.inr false)))) (some (.inr (.inl ())))
noncomputable def Qc7 (a:Qak) (b:Qak) (i1:Int):Option ((Int)⊕((Unit)⊕(Bool))):=br (ltI i1 (lenI a.unserved)) (bnd (getI a.unserved i1) fun x2=>bnd (getI b.unserved i1) fun x3=>br (neI x2 x3) (some (.inr (.inr false))) (some (.inl (addK .i64 i1 1)))) (some (.inr (.inl ())))
noncomputable def QkD (a:Qak) (b:Qak):Option Bool:=br ((neI (lenI a.routes) (lenI b.routes))||(neI (lenI a.unserved) (lenI b.unserved))) (some false) (bnd (QaT (fun s=>Qdz a b s) 0) (fun e=>sel e (fun (_:Unit)=>bnd (QaT (fun s=>Qc7 a b s) 0) (fun e=>sel e (fun (_:Unit)=>some true) (fun r1=>some r1))) (fun r2=>some r2)))
noncomputable def Qix (a:Qak) (b:Qak):Option Bool:=bnd (QkD a b) fun r=>some r
noncomputable def Qcl (x0:Qac) (p:Qak) (l:List Int) (i:Int):Option ((List Int×Int)⊕((List Int)⊕(List Int×Int))):=br (ltI i (lenI p.routes)) (bnd (getI p.routes i) fun x1=>bnd (Qft x0 x1) fun r=>br (neI r.2 0) (some (.inr (.inr ([],r.2)))) (chk (okN (l++[r.1]).length 8) (some (.inl ((l++[r.1]),(addK .i64 i 1)))))) (some (.inr (.inl l)))
noncomputable def Qg4 (x0:Qac) (p:Qak):Option (List Int×Int):=bnd (QaT (fun s=>Qcl x0 p s.1 s.2) ([],0)) (fun e=>sel e (fun l1=>some (l1,0)) (fun r1=>some r1))
noncomputable def Qcs (x0:Qac) (p:Qak) (prices:List Int) (order:Int) (ok:Bool) (place:Int) (type_:Int) (start:Int) (rests:List Bool) (visits:List Qaa) (increase:Int) (i:Int):Option ((Bool×Int×Int×Int×List Bool×List Qaa×Int×Int)⊕(Qai)):=br (ltI i (lenI p.routes)) (bnd (getI p.routes i) fun x1=>bnd (Qgd x0 x1 order) fun r=>br (eqI r.2.2 0) (br ok (bnd (getI prices i) fun x2=>br (ltI (subK .i64 r.2.1 x2) increase) (some (.inl (true,i,r.1.type_,r.1.start,r.1.rests,r.1.visits,(subK .i64 r.2.1 x2),(addK .i64 i 1)))) (some (.inl (ok,place,type_,start,rests,visits,increase,(addK .i64 i 1))))) (bnd (getI prices i) fun x3=>some (.inl (true,i,r.1.type_,r.1.start,r.1.rests,r.1.visits,(subK .i64 r.2.1 x3),(addK .i64 i 1))))) (some (.inl (ok,place,type_,start,rests,visits,increase,(addK .i64 i 1))))) (some (.inr (Qai.mk ok place (Qad.mk type_ start rests visits) increase)))
noncomputable def Qct (x0:Qac) (p:Qak) (order:Int) (kind:Int) (x6:Qai) (used:Int) (i1:Int):Option ((Qai×Int×Int)⊕(Qai×Int)):=br (ltI i1 (lenI p.routes)) (bnd (getI p.routes i1) fun x7=>br (eqI x7.type_ kind) (some (.inl (x6,(addK .i64 used 1),(addK .i64 i1 1)))) (some (.inl (x6,used,(addK .i64 i1 1))))) (some (.inr (x6,used)))
noncomputable def Qb5 (x0:Qac) (p:Qak) (order:Int) (x5:Qai) (kind:Int):Option ((Qai×Int)⊕(Qai)):=br (ltI kind (lenI x0.types)) (bnd (QaT (fun s=>Qct x0 p order kind s.1 s.2.1 s.2.2) (x5,0,0)) (fun e0=>(fun x8 used1=>bnd (getI x0.types kind) fun x9=>br (geI used1 x9.count) (some (.inl (x8,(addK .i64 kind 1)))) (bnd (Qgd x0 (Qad.mk kind 0 [] []) order) fun r1=>br ((eqI r1.2.2 0)&&((!x8.ok)||(ltI r1.2.1 x8.increase))) (some (.inl ((Qai.mk true (lenI p.routes) r1.1 r1.2.1),(addK .i64 kind 1)))) (some (.inl (x8,(addK .i64 kind 1)))))) e0.1 e0.2)) (some (.inr x5))
noncomputable def Qiy (x0:Qac) (p:Qak) (prices:List Int) (order:Int):Option Qai:=bnd (QaT (fun s=>Qcs x0 p prices order s.1 s.2.1 s.2.2.1 s.2.2.2.1 s.2.2.2.2.1 s.2.2.2.2.2.1 s.2.2.2.2.2.2.1 s.2.2.2.2.2.2.2) (false,0,0,0,[],[],0,0)) (fun x4=>bnd (QaT (fun s=>Qb5 x0 p order s.1 s.2) (x4,0)) (fun x10=>some x10))
noncomputable def QdH (p:Qak) (c:Qai) (order:Int) (l:List Qad) (i:Int):Option ((List Qad×Int)⊕(List Qad)):=br (ltI i (lenI p.routes)) (br (eqI i c.place) (chk (okN (l++[c.route]).length 64) (some (.inl ((l++[c.route]),(addK .i64 i 1))))) (bnd (getI p.routes i) fun x0=>chk (okN (l++[x0]).length 64) (some (.inl ((l++[x0]),(addK .i64 i 1)))))) (some (.inr l))
noncomputable def QcF (p:Qak) (c:Qai) (order:Int) (l2:List Qad) (l3:List Int) (i1:Int):Option ((List Int×Int)⊕(List Int)):=br (ltI i1 (lenI p.unserved)) (bnd (getI p.unserved i1) fun x1=>br (neI x1 order) (chk (okN (l3++[x1]).length 8) (some (.inl ((l3++[x1]),(addK .i64 i1 1))))) (some (.inl (l3,(addK .i64 i1 1))))) (some (.inr l3))
noncomputable def QeL (p:Qak) (c:Qai) (order:Int) (l2:List Qad):Option Qak:=bnd (QaT (fun s=>QcF p c order l2 s.1 s.2) ([],0)) (fun l4=>some (Qak.mk l2 l4))
noncomputable def Qny (p:Qak) (c:Qai) (order:Int):Option Qak:=bnd (QaT (fun s=>QdH p c order s.1 s.2) ([],0)) (fun l1=>br (eqI c.place (lenI p.routes)) (chk (okN (l1++[c.route]).length 64) (QeL p c order (l1++[c.route]))) (QeL p c order l1))
noncomputable def Qd5 (p:Qak) (order:Int) (i:Int):Option ((Int)⊕((Unit)⊕(Bool))):=br (ltI i (lenI p.routes)) (bnd (getI p.routes i) fun x0=>bnd (Qjl x0 order) fun r=>br r (some (.inr (.inr true))) (some (.inl (addK .i64 i 1)))) (some (.inr (.inl ())))
noncomputable def Qg5 (p:Qak) (order:Int):Option Bool:=bnd (QaT (fun s=>Qd5 p order s) 0) (fun e=>sel e (fun (_:Unit)=>some false) (fun r1=>some r1))
noncomputable def Qdl (x0:Qac) (order:List Int) (i:Int) (k:Int):Option ((Int)⊕((Unit)⊕(Int))):=br (ltI k i) (bnd (getI order k) fun x2=>bnd (getI order i) fun x3=>br (eqI x2 x3) (some (.inr (.inr 6))) (some (.inl (addK .i64 k 1)))) (some (.inr (.inl ())))
noncomputable def Qdk (x0:Qac) (order:List Int) (i:Int):Option ((Int)⊕((Unit)⊕(Int))):=br (ltI i (lenI order)) (bnd (getI order i) fun x1=>bnd (QfK x0 x1) fun r=>br r (bnd (QaT (fun s=>Qdl x0 order i s) 0) (fun e=>sel e (fun (_:Unit)=>some (.inl (addK .i64 i 1))) (fun r1=>some (.inr (.inr r1))))) (some (.inr (.inr 2)))) (some (.inr (.inl ())))
noncomputable def QhX (x0:Qac) (order:List Int):Option Int:=bnd (QaT (fun s=>Qdk x0 order s) 0) (fun e=>sel e (fun (_:Unit)=>some 0) (fun r2=>some r2))
noncomputable def QdF (x0:Qac) (order:Int):Option (Qau×Int):=br ((ltI order 0)||(geI order (lenI x0.orders))) (some ((Qau.mk 0 0 0 0),2)) (bnd (getI x0.orders order) fun x1=>br x1.off (some ((Qau.mk 0 0 0 0),9)) (br (eqI x1.penalty (-1)) (some ((Qau.mk 0 0 0 0),23)) (br (neI x1.now (-1)) (some ((Qau.mk x1.penalty 1 0 0),0)) (some ((Qau.mk x1.penalty 0 0 0),0)))))
noncomputable def Qeg (p:Qak) (c:Qai) (order:Int) (l:List Qad) (i:Int):Option ((List Qad×Int)⊕(List Qad)):=br (ltI i (lenI p.routes)) (br (eqI i c.place) (chk (okN (l++[c.route]).length 64) (some (.inl ((l++[c.route]),(addK .i64 i 1))))) (bnd (getI p.routes i) fun x0=>chk (okN (l++[x0]).length 64) (some (.inl ((l++[x0]),(addK .i64 i 1)))))) (some (.inr l))
noncomputable def QbA (p:Qak) (c:Qai) (order:Int) (l2:List Qad):Option Qak:=br (ltI 0 0) (none) (some (Qak.mk l2 []))
noncomputable def QdV (p:Qak) (c:Qai) (order:Int):Option Qak:=bnd (QaT (fun s=>Qeg p c order s.1 s.2) ([],0)) (fun l1=>br (eqI c.place (lenI p.routes)) (chk (okN (l1++[c.route]).length 64) (QbA p c order (l1++[c.route]))) (QbA p c order l1))
noncomputable def Qbk (x0:Qac) (order:List Int) (routes:List Qad) (i:Int) (r2:Qai) (worth:Bool):Option ((List Qad×Int)⊕(List Qad)):=br worth (bnd (getI order i) fun x3=>bnd (QdV (Qak.mk routes []) r2 x3) fun r5=>some (.inl (r5.routes,(addK .i64 i 1)))) (some (.inl (routes,(addK .i64 i 1))))
noncomputable def QbV (x0:Qac) (order:List Int) (routes:List Qad) (i:Int):Option ((List Qad×Int)⊕(List Qad)):=br (ltI i (lenI order)) (bnd (getI order i) fun x1=>bnd (getI x0.orders x1) fun x2=>br x2.off (some (.inl (routes,(addK .i64 i 1)))) (bnd (Qg4 x0 (Qak.mk routes [])) fun r1=>bnd (Qiy x0 (Qak.mk routes []) r1.1 x1) fun r2=>br (geI x2.penalty 0) (bnd (QdF x0 x1) fun r3=>bnd (Qdr r3.1) fun r4=>Qbk x0 order routes i r2 (r2.ok&&(ltI r2.increase r4.1))) (Qbk x0 order routes i r2 r2.ok))) (some (.inr routes))
noncomputable def QbE (x0:Qac) (routes1:List Qad) (l:List Int) (i1:Int):Option ((List Int×Int)⊕((List Int)⊕(Qak×Int))):=br (ltI i1 (lenI x0.orders)) (bnd (getI x0.orders i1) fun x4=>br x4.off (some (.inl (l,(addK .i64 i1 1)))) (bnd (Qg5 (Qak.mk routes1 l) i1) fun r6=>br r6 (some (.inl (l,(addK .i64 i1 1)))) (chk (okN (l++[i1]).length 8) (br (eqI x4.penalty (-1)) (some (.inr (.inr ((Qak.mk [] []),24)))) (some (.inl ((l++[i1]),(addK .i64 i1 1)))))))) (some (.inr (.inl l)))
noncomputable def Qg3 (x0:Qac) (order:List Int):Option (Qak×Int):=bnd (QhX x0 order) fun r=>br (neI r 0) (some ((Qak.mk [] []),r)) (bnd (QaT (fun s=>QbV x0 order s.1 s.2) ([],0)) (fun routes1=>bnd (QaT (fun s=>QbE x0 routes1 s.1 s.2) ([],0)) (fun e=>sel e (fun l1=>some ((Qak.mk routes1 l1),0)) (fun r7=>some r7))))
noncomputable def Qfv (x0:Qac) (l:List Int):Option Bool:=bnd (QhG x0) fun r=>br ((!r)||(gtI (lenI x0.orders) 4)) (bnd (QfQ) fun r1=>some r1) (bnd (Qi2 x0 l) fun r2=>bnd (Qg3 x0 l) fun r3=>br (eqI r2.2 r3.2) (bnd (Qix r2.1 r3.1) fun r4=>br r4 (bnd (QfQ) fun r5=>some r5) (some false)) (some false))
end Go.Proofs.YtpkkaboonnedfaaGreatDoor
namespace Go.Proofs.YtpkkaboonnedfaaGreatDoor
set_option linter.unusedVariables false
set_option linter.unusedSectionVars false
set_option linter.unusedSimpArgs false
open Go.RowKit
variable {N : Nat}
theorem oq_9:QoI Tryz.prog N 9 (rdE 1 QmO (fun s:ByteArray=>s.size≤N) (fun _=>rfl)):=QHd Tryz.underlying9 (by kernel_rfl)
theorem QHV:QoI Tryz.prog N 22 (rdE 1 (fun l:List ByteArray=>[.sl false 1 (l.map QmO)]) (fun l:List (ByteArray)=>l.length≤N∧∀ x∈l,(fun s:ByteArray=>s.size≤N) x) (fun _=>rfl)):=QsW Tryz.underlying22 (by kernel_rfl) oq_9 (by decide)
theorem oq_3:QoI Tryz.prog N 3 (rdE 1 Qay isI (fun _=>rfl)):=QHc Tryz.underlying3 (by kernel_rfl)
def Qao.ok (N:Nat) (x:Qao):Prop:=isI x.t∧isI x.a∧True
theorem QHf:QoI Tryz.prog N 119 (rdE 2 Qao.enc (Qao.ok N) (fun _=>rfl)):=QpL Tryz.underlying119 (by kernel_rfl) (.cons rfl oq_3 (.cons rfl oq_3 .nil)) rfl (HE.pair HE.rd (HE.pair HE.rd HE.unit)) (fun a=>⟨a.1,a.2.1⟩) (fun _=>rfl) (fun _ h=>h)
theorem QGn:QoI Tryz.prog N 120 (rdE 1 (fun l:List Qao=>[.sl false 2 (l.map Qao.enc)]) (fun l:List (Qao)=>l.length≤N∧∀ x∈l,(Qao.ok N) x) (fun _=>rfl)):=QsW Tryz.underlying120 (by kernel_rfl) QHf (by decide)
def Qas.ok (N:Nat) (x:Qas):Prop:=isI x.from_∧isI x.to_∧isI x.profile∧isI x.miles∧(fun l:List (Qao)=>l.length≤N∧∀ x∈l,(Qao.ok N) x) x.travel∧(fun l:List (Qao)=>l.length≤N∧∀ x∈l,(Qao.ok N) x) x.slow∧True
theorem QHg:QoI Tryz.prog N 122 (rdE 6 Qas.enc (Qas.ok N) (fun _=>rfl)):=QpL Tryz.underlying122 (by kernel_rfl) (.cons rfl oq_3 (.cons rfl oq_3 (.cons rfl oq_3 (.cons rfl oq_3 (.cons rfl QGn (.cons rfl QGn .nil)))))) rfl (HE.pair HE.rd (HE.pair HE.rd (HE.pair HE.rd (HE.pair HE.rd (HE.pair HE.rd (HE.pair HE.rd HE.unit)))))) (fun a=>⟨a.1,a.2.1,a.2.2.1,a.2.2.2.1,a.2.2.2.2.1,a.2.2.2.2.2.1⟩) (fun _=>rfl) (fun _ h=>h)
theorem QHW:QoI Tryz.prog N 23 (rdE 1 (fun l:List Qas=>[.sl false 6 (l.map Qas.enc)]) (fun l:List (Qas)=>l.length≤N∧∀ x∈l,(Qas.ok N) x) (fun _=>rfl)):=QsW Tryz.underlying23 (by kernel_rfl) QHg (by decide)
def Qam.ok (N:Nat) (x:Qam):Prop:=(fun l:List (ByteArray)=>l.length≤N∧∀ x∈l,(fun s:ByteArray=>s.size≤N) x) x.places∧(fun l:List (Qas)=>l.length≤N∧∀ x∈l,(Qas.ok N) x) x.arcs∧True
theorem QHX:QoI Tryz.prog N 25 (rdE 2 Qam.enc (Qam.ok N) (fun _=>rfl)):=QpL Tryz.underlying25 (by kernel_rfl) (.cons rfl QHV (.cons rfl QHW .nil)) rfl (HE.pair HE.rd (HE.pair HE.rd HE.unit)) (fun a=>⟨a.1,a.2.1⟩) (fun _=>rfl) (fun _ h=>h)
theorem QHj:QoI Tryz.prog N 42 (rdE 1 (fun l:List Int=>[.sl false 1 (l.map Qay)]) (fun l:List (Int)=>l.length≤N∧∀ x∈l,isI x) (fun _=>rfl)):=QsW Tryz.underlying42 (by kernel_rfl) oq_3 (by decide)
def Qal.ok (N:Nat) (x:Qal):Prop:=(fun s:ByteArray=>s.size≤N) x.name∧isI x.count∧isI x.from_∧isI x.to_∧(fun l:List (Int)=>l.length≤N∧∀ x∈l,isI x) x.cap∧isI x.skills∧isI x.profile∧isI x.open_∧isI x.close∧isI x.drive∧isI x.rest_∧isI x.fixed∧isI x.perMile∧isI x.perTick∧True
theorem QHh:QoI Tryz.prog N 124 (rdE 14 Qal.enc (Qal.ok N) (fun _=>rfl)):=QpL Tryz.underlying124 (by kernel_rfl) (.cons rfl oq_9 (.cons rfl oq_3 (.cons rfl oq_3 (.cons rfl oq_3 (.cons rfl QHj (.cons rfl oq_3 (.cons rfl oq_3 (.cons rfl oq_3 (.cons rfl oq_3 (.cons rfl oq_3 (.cons rfl oq_3 (.cons rfl oq_3 (.cons rfl oq_3 (.cons rfl oq_3 .nil)))))))))))))) rfl (HE.pair HE.rd (HE.pair HE.rd (HE.pair HE.rd (HE.pair HE.rd (HE.pair HE.rd (HE.pair HE.rd (HE.pair HE.rd (HE.pair HE.rd (HE.pair HE.rd (HE.pair HE.rd (HE.pair HE.rd (HE.pair HE.rd (HE.pair HE.rd (HE.pair HE.rd HE.unit)))))))))))))) (fun a=>⟨a.1,a.2.1,a.2.2.1,a.2.2.2.1,a.2.2.2.2.1,a.2.2.2.2.2.1,a.2.2.2.2.2.2.1,a.2.2.2.2.2.2.2.1,a.2.2.2.2.2.2.2.2.1,a.2.2.2.2.2.2.2.2.2.1,a.2.2.2.2.2.2.2.2.2.2.1,a.2.2.2.2.2.2.2.2.2.2.2.1,a.2.2.2.2.2.2.2.2.2.2.2.2.1,a.2.2.2.2.2.2.2.2.2.2.2.2.2.1⟩) (fun _=>rfl) (fun _ h=>h)
theorem QHY:QoI Tryz.prog N 26 (rdE 1 (fun l:List Qal=>[.sl false 14 (l.map Qal.enc)]) (fun l:List (Qal)=>l.length≤N∧∀ x∈l,(Qal.ok N) x) (fun _=>rfl)):=QsW Tryz.underlying26 (by kernel_rfl) QHh (by decide)
def Qaw.ok (N:Nat) (x:Qaw):Prop:=isI x.place∧isI x.open_∧isI x.close∧isI x.service∧True
theorem QHH:QoI Tryz.prog N 72 (rdE 4 Qaw.enc (Qaw.ok N) (fun _=>rfl)):=QpL Tryz.underlying72 (by kernel_rfl) (.cons rfl oq_3 (.cons rfl oq_3 (.cons rfl oq_3 (.cons rfl oq_3 .nil)))) rfl (HE.pair HE.rd (HE.pair HE.rd (HE.pair HE.rd (HE.pair HE.rd HE.unit)))) (fun a=>⟨a.1,a.2.1,a.2.2.1,a.2.2.2.1⟩) (fun _=>rfl) (fun _ h=>h)
theorem oq_4:QoI Tryz.prog N 4 (rdE 1 Qbd (fun _:Bool=>True) (fun _=>rfl)):=QGk Tryz.underlying4 (by kernel_rfl)
def Qag.ok (N:Nat) (x:Qag):Prop:=(fun s:ByteArray=>s.size≤N) x.name∧(fun l:List (Int)=>l.length≤N∧∀ x∈l,isI x) x.load∧(Qaw.ok N) x.pick∧(Qaw.ok N) x.drop∧isI x.skills∧isI x.penalty∧isI x.split∧isI x.last_∧isI x.now∧(fun _:Bool=>True) x.off∧True
theorem QH1:QoI Tryz.prog N 74 (rdE 16 Qag.enc (Qag.ok N) (fun _=>rfl)):=QpL Tryz.underlying74 (by kernel_rfl) (.cons rfl oq_9 (.cons rfl QHj (.cons rfl QHH (.cons rfl QHH (.cons rfl oq_3 (.cons rfl oq_3 (.cons rfl oq_3 (.cons rfl oq_3 (.cons rfl oq_3 (.cons rfl oq_4 .nil)))))))))) rfl (HE.pair HE.rd (HE.pair HE.rd (HE.pair HE.rd (HE.pair HE.rd (HE.pair HE.rd (HE.pair HE.rd (HE.pair HE.rd (HE.pair HE.rd (HE.pair HE.rd (HE.pair HE.rd HE.unit)))))))))) (fun a=>⟨a.1,a.2.1,a.2.2.1,a.2.2.2.1,a.2.2.2.2.1,a.2.2.2.2.2.1,a.2.2.2.2.2.2.1,a.2.2.2.2.2.2.2.1,a.2.2.2.2.2.2.2.2.1,a.2.2.2.2.2.2.2.2.2.1⟩) (fun _=>rfl) (fun _ h=>h)
theorem QHZ:QoI Tryz.prog N 27 (rdE 1 (fun l:List Qag=>[.sl false 16 (l.map Qag.enc)]) (fun l:List (Qag)=>l.length≤N∧∀ x∈l,(Qag.ok N) x) (fun _=>rfl)):=QsW Tryz.underlying27 (by kernel_rfl) QH1 (by decide)
def QaR.ok (N:Nat) (x:QaR):Prop:=isI x.x0∧isI x.x1
theorem QHi:QoI Tryz.prog N 162 (rdE 2 QaR.enc (QaR.ok N) (fun _=>rfl)):=QDm Tryz.underlying162 (by kernel_rfl) oq_3 rfl (fun a b=>⟨a,b⟩) (fun _ _=>rfl) (fun _ _ h h2=>⟨h,h2⟩)
theorem QHG:QoI Tryz.prog N 28 (rdE 1 (fun l:List QaR=>[.sl false 2 (l.map QaR.enc)]) (fun l:List (QaR)=>l.length≤N∧∀ x∈l,(QaR.ok N) x) (fun _=>rfl)):=QsW Tryz.underlying28 (by kernel_rfl) QHi (by decide)
def Qac.ok (N:Nat) (x:Qac):Prop:=(Qam.ok N) x.net∧(fun l:List (Qal)=>l.length≤N∧∀ x∈l,(Qal.ok N) x) x.types∧(fun l:List (Qag)=>l.length≤N∧∀ x∈l,(Qag.ok N) x) x.orders∧(fun l:List (QaR)=>l.length≤N∧∀ x∈l,(QaR.ok N) x) x.apart∧(fun l:List (QaR)=>l.length≤N∧∀ x∈l,(QaR.ok N) x) x.before∧True
theorem QH0:QoI Tryz.prog N 30 (rdE 6 Qac.enc (Qac.ok N) (fun _=>rfl)):=QpL Tryz.underlying30 (by kernel_rfl) (.cons rfl QHX (.cons rfl QHY (.cons rfl QHZ (.cons rfl QHG (.cons rfl QHG .nil))))) rfl (HE.pair HE.rd (HE.pair HE.rd (HE.pair HE.rd (HE.pair HE.rd (HE.pair HE.rd HE.unit))))) (fun a=>⟨a.1,a.2.1,a.2.2.1,a.2.2.2.1,a.2.2.2.2.1⟩) (fun _=>rfl) (fun _ h=>h)
def Qaa.ok (N:Nat) (x:Qaa):Prop:=isI x.order∧(fun _:Bool=>True) x.drop∧True
def Qad.ok (N:Nat) (x:Qad):Prop:=isI x.type_∧isI x.start∧(fun l:List (Bool)=>l.length≤N∧∀ x∈l,(fun _:Bool=>True) x) x.rests∧(fun l:List (Qaa)=>l.length≤N∧∀ x∈l,(Qaa.ok N) x) x.visits∧True
def Qak.ok (N:Nat) (x:Qak):Prop:=(fun l:List (Qad)=>l.length≤N∧∀ x∈l,(Qad.ok N) x) x.routes∧(fun l:List (Int)=>l.length≤N∧∀ x∈l,isI x) x.unserved∧True
end Go.Proofs.YtpkkaboonnedfaaGreatDoor
