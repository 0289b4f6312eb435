/- Part MT of the proof: texts Yt Yd Yo. -/
import Derived.Test.YtpkkaboonnedfaaGreatDoorMA
import Derived.Test.YtpkkaboonnedfaaGreatDoorMC
namespace Go.Proofs.YtpkkaboonnedfaaGreatDoor
set_option linter.unusedVariables false
set_option linter.unusedSectionVars false
set_option linter.unusedSimpArgs false
def e_i64 (n:Int):List Lf:=[.int .i64 n]
def e_u8 (n:Int):List Lf:=[.int .u8 n]
def e_fn (n:Nat):List Lf:=[.fn (.func n) []]
def Qa5 (b:Bool):List Lf:=[.bool b]
def e_str (s:ByteArray):List Lf:=[.str s]
structure Qab where
  err:Int
  at_:ByteArray
instance:DecidableEq Qab:=fun a b=>decidable_of_iff (a.err=b.err∧a.at_=b.at_) (by cases a; cases b; simp)
structure Qam where
  t:Int
  a:Int
instance:DecidableEq Qam:=fun a b=>decidable_of_iff (a.t=b.t∧a.a=b.a) (by cases a; cases b; simp)
structure Qaq where
  from_:Int
  to_:Int
  profile:Int
  miles:Int
  travel:List Qam
  slow:List Qam
instance:DecidableEq Qaq:=fun a b=>decidable_of_iff (a.from_=b.from_∧a.to_=b.to_∧a.profile=b.profile∧a.miles=b.miles∧a.travel=b.travel∧a.slow=b.slow) (by cases a; cases b; simp)
structure Qak where
  places:List ByteArray
  arcs:List Qaq
instance:DecidableEq Qak:=fun a b=>decidable_of_iff (a.places=b.places∧a.arcs=b.arcs) (by cases a; cases b; simp)
structure Qai where
  name:ByteArray
  count:Int
  from_:Int
  to_:Int
  cap:List Int
  skills:Int
  profile:Int
  open_:Int
  close:Int
  drive:Int
  rest_:Int
  fixed:Int
  perMile:Int
  perTick:Int
instance:DecidableEq Qai:=fun a b=>decidable_of_iff (a.name=b.name∧a.count=b.count∧a.from_=b.from_∧a.to_=b.to_∧a.cap=b.cap∧a.skills=b.skills∧a.profile=b.profile∧a.open_=b.open_∧a.close=b.close∧a.drive=b.drive∧a.rest_=b.rest_∧a.fixed=b.fixed∧a.perMile=b.perMile∧a.perTick=b.perTick) (by cases a; cases b; simp)
structure Qau where
  place:Int
  open_:Int
  close:Int
  service:Int
instance:DecidableEq Qau:=fun a b=>decidable_of_iff (a.place=b.place∧a.open_=b.open_∧a.close=b.close∧a.service=b.service) (by cases a; cases b; simp)
structure Qag where
  name:ByteArray
  load:List Int
  pick:Qau
  drop:Qau
  skills:Int
  penalty:Int
  split:Int
  last_:Int
  now:Int
  off:Bool
instance:DecidableEq Qag:=fun a b=>decidable_of_iff (a.name=b.name∧a.load=b.load∧a.pick=b.pick∧a.drop=b.drop∧a.skills=b.skills∧a.penalty=b.penalty∧a.split=b.split∧a.last_=b.last_∧a.now=b.now∧a.off=b.off) (by cases a; cases b; simp)
structure QaO where
  x0:Int
  x1:Int
instance:DecidableEq QaO:=fun a b=>decidable_of_iff (a.x0=b.x0∧a.x1=b.x1) (by cases a; cases b; simp)
structure Qac where
  net:Qak
  types:List Qai
  orders:List Qag
  apart:List QaO
  before:List QaO
instance:DecidableEq Qac:=fun a b=>decidable_of_iff (a.net=b.net∧a.types=b.types∧a.orders=b.orders∧a.apart=b.apart∧a.before=b.before) (by cases a; cases b; simp)
structure Qaa where
  order:Int
  drop:Bool
instance:DecidableEq Qaa:=fun a b=>decidable_of_iff (a.order=b.order∧a.drop=b.drop) (by cases a; cases b; simp)
structure Qad where
  type_:Int
  start:Int
  rests:List Bool
  visits:List Qaa
instance:DecidableEq Qad:=fun a b=>decidable_of_iff (a.type_=b.type_∧a.start=b.start∧a.rests=b.rests∧a.visits=b.visits) (by cases a; cases b; simp)
structure Qaw where
  x:Qac
  t:Qai
  r:Qad
  stops:List Qau
instance:DecidableEq Qaw:=fun a b=>decidable_of_iff (a.x=b.x∧a.t=b.t∧a.r=b.r∧a.stops=b.stops) (by cases a; cases b; simp)
structure Qap where
  arrive:Int
  begin:Int
  depart:Int
  rest_:Bool
instance:DecidableEq Qap:=fun a b=>decidable_of_iff (a.arrive=b.arrive∧a.begin=b.begin∧a.depart=b.depart∧a.rest_=b.rest_) (by cases a; cases b; simp)
structure Qan where
  rest_:Bool
  depart:Int
  times:List Qap
  end_:Int
  miles:Int
instance:DecidableEq Qan:=fun a b=>decidable_of_iff (a.rest_=b.rest_∧a.depart=b.depart∧a.times=b.times∧a.end_=b.end_∧a.miles=b.miles) (by cases a; cases b; simp)
structure Qaf where
  ready:Int
  since:Int
  sheet:Qan
instance:DecidableEq Qaf:=fun a b=>decidable_of_iff (a.ready=b.ready∧a.since=b.since∧a.sheet=b.sheet) (by cases a; cases b; simp)
structure Qih where
  from_:Int
  to_:Int
  profile:Int
instance:DecidableEq Qih:=fun a b=>decidable_of_iff (a.from_=b.from_∧a.to_=b.to_∧a.profile=b.profile) (by cases a; cases b; simp)
structure Qx1 where
  x0:Int
  x1:Int
  x2:Int
  x3:Int
  x4:Int
  x5:Int
  x6:Int
  x7:Int
  x8:Int
  x9:Int
  x10:Int
  x11:Int
  x12:Int
  x13:Int
  x14:Int
  x15:Int
  x16:Int
  x17:Int
  x18:Int
  x19:Int
  x20:Int
  x21:Int
  x22:Int
  x23:Int
instance:DecidableEq Qx1:=fun a b=>decidable_of_iff (a.x0=b.x0∧a.x1=b.x1∧a.x2=b.x2∧a.x3=b.x3∧a.x4=b.x4∧a.x5=b.x5∧a.x6=b.x6∧a.x7=b.x7∧a.x8=b.x8∧a.x9=b.x9∧a.x10=b.x10∧a.x11=b.x11∧a.x12=b.x12∧a.x13=b.x13∧a.x14=b.x14∧a.x15=b.x15∧a.x16=b.x16∧a.x17=b.x17∧a.x18=b.x18∧a.x19=b.x19∧a.x20=b.x20∧a.x21=b.x21∧a.x22=b.x22∧a.x23=b.x23) (by cases a; cases b; simp)
structure Qay where
  cost:Int
  moved:Int
  other:Int
  work:Int
instance:DecidableEq Qay:=fun a b=>decidable_of_iff (a.cost=b.cost∧a.moved=b.moved∧a.other=b.other∧a.work=b.work) (by cases a; cases b; simp)
structure Qxz where
  x0:Int
  x1:Int
  x2:Int
  x3:Int
instance:DecidableEq Qxz:=fun a b=>decidable_of_iff (a.x0=b.x0∧a.x1=b.x1∧a.x2=b.x2∧a.x3=b.x3) (by cases a; cases b; simp)
structure Qas where
  routes:List Qad
  unserved:List Int
instance:DecidableEq Qas:=fun a b=>decidable_of_iff (a.routes=b.routes∧a.unserved=b.unserved) (by cases a; cases b; simp)
structure Qao where
  at_:Int
  route:Qad
  increase:Int
instance:DecidableEq Qao:=fun a b=>decidable_of_iff (a.at_=b.at_∧a.route=b.route∧a.increase=b.increase) (by cases a; cases b; simp)
structure Qfd where
  x0:Int
  x1:Int
  x2:Int
instance:DecidableEq Qfd:=fun a b=>decidable_of_iff (a.x0=b.x0∧a.x1=b.x1∧a.x2=b.x2) (by cases a; cases b; simp)
structure Qax where
  place:Int
  time:Int
  driven:Int
  miles:Int
instance:DecidableEq Qax:=fun a b=>decidable_of_iff (a.place=b.place∧a.time=b.time∧a.driven=b.driven∧a.miles=b.miles) (by cases a; cases b; simp)
structure QaJ where
  ok:Bool
  route:Qad
  price:Int
instance:DecidableEq QaJ:=fun a b=>decidable_of_iff (a.ok=b.ok∧a.route=b.route∧a.price=b.price) (by cases a; cases b; simp)
structure Qg3 where
  ok:Bool
  place:Int
  route:Qad
  increase:Int
instance:DecidableEq Qg3:=fun a b=>decidable_of_iff (a.ok=b.ok∧a.place=b.place∧a.route=b.route∧a.increase=b.increase) (by cases a; cases b; simp)
def Qab.enc (x:Qab):List Lf:=[lI x.err,.str x.at_]
def Qam.enc (x:Qam):List Lf:=[lI x.t,lI x.a]
def Qaq.enc (x:Qaq):List Lf:=[lI x.from_,lI x.to_,lI x.profile,lI x.miles,lL 2 x.travel Qam.enc,lL 2 x.slow Qam.enc]
def Qak.enc (x:Qak):List Lf:=[lL 1 x.places e_str,lL 6 x.arcs Qaq.enc]
def Qai.enc (x:Qai):List Lf:=[.str x.name,lI x.count,lI x.from_,lI x.to_,lL 1 x.cap e_i64,lI x.skills,lI x.profile,lI x.open_,lI x.close,lI x.drive,lI x.rest_,lI x.fixed,lI x.perMile,lI x.perTick]
def Qau.enc (x:Qau):List Lf:=[lI x.place,lI x.open_,lI x.close,lI x.service]
def Qag.enc (x:Qag):List Lf:=[.str x.name,lL 1 x.load e_i64,lI x.pick.place,lI x.pick.open_,lI x.pick.close,lI x.pick.service,lI x.drop.place,lI x.drop.open_,lI x.drop.close,lI x.drop.service,lI x.skills,lI x.penalty,lI x.split,lI x.last_,lI x.now,.bool x.off]
def QaO.enc (x:QaO):List Lf:=[lI x.x0,lI x.x1]
def Qac.enc (x:Qac):List Lf:=[lL 1 x.net.places e_str,lL 6 x.net.arcs Qaq.enc,lL 14 x.types Qai.enc,lL 16 x.orders Qag.enc,lL 2 x.apart QaO.enc,lL 2 x.before QaO.enc]
def Qaa.enc (x:Qaa):List Lf:=[lI x.order,.bool x.drop]
def Qad.enc (x:Qad):List Lf:=[lI x.type_,lI x.start,lL 1 x.rests Qa5,lL 2 x.visits Qaa.enc]
def Qaw.enc (x:Qaw):List Lf:=[lL 1 x.x.net.places e_str,lL 6 x.x.net.arcs Qaq.enc,lL 14 x.x.types Qai.enc,lL 16 x.x.orders Qag.enc,lL 2 x.x.apart QaO.enc,lL 2 x.x.before QaO.enc,.str x.t.name,lI x.t.count,lI x.t.from_,lI x.t.to_,lL 1 x.t.cap e_i64,lI x.t.skills,lI x.t.profile,lI x.t.open_,lI x.t.close,lI x.t.drive,lI x.t.rest_,lI x.t.fixed,lI x.t.perMile,lI x.t.perTick,lI x.r.type_,lI x.r.start,lL 1 x.r.rests Qa5,lL 2 x.r.visits Qaa.enc,lL 4 x.stops Qau.enc]
def Qap.enc (x:Qap):List Lf:=[lI x.arrive,lI x.begin,lI x.depart,.bool x.rest_]
def Qan.enc (x:Qan):List Lf:=[.bool x.rest_,lI x.depart,lL 4 x.times Qap.enc,lI x.end_,lI x.miles]
def Qaf.enc (x:Qaf):List Lf:=[lI x.ready,lI x.since,.bool x.sheet.rest_,lI x.sheet.depart,lL 4 x.sheet.times Qap.enc,lI x.sheet.end_,lI x.sheet.miles]
def Qih.enc (x:Qih):List Lf:=[lI x.from_,lI x.to_,lI x.profile]
def Qx1.enc (x:Qx1):List Lf:=[.int .u8 x.x0,.int .u8 x.x1,.int .u8 x.x2,.int .u8 x.x3,.int .u8 x.x4,.int .u8 x.x5,.int .u8 x.x6,.int .u8 x.x7,.int .u8 x.x8,.int .u8 x.x9,.int .u8 x.x10,.int .u8 x.x11,.int .u8 x.x12,.int .u8 x.x13,.int .u8 x.x14,.int .u8 x.x15,.int .u8 x.x16,.int .u8 x.x17,.int .u8 x.x18,.int .u8 x.x19,.int .u8 x.x20,.int .u8 x.x21,.int .u8 x.x22,.int .u8 x.x23]
def Qay.enc (x:Qay):List Lf:=[lI x.cost,lI x.moved,lI x.other,lI x.work]
def Qxz.enc (x:Qxz):List Lf:=[lI x.x0,lI x.x1,lI x.x2,lI x.x3]
def Qas.enc (x:Qas):List Lf:=[lL 4 x.routes Qad.enc,lL 1 x.unserved e_i64]
def Qao.enc (x:Qao):List Lf:=[lI x.at_,lI x.route.type_,lI x.route.start,lL 1 x.route.rests Qa5,lL 2 x.route.visits Qaa.enc,lI x.increase]
def Qfd.enc (x:Qfd):List Lf:=[lI x.x0,lI x.x1,lI x.x2]
def Qax.enc (x:Qax):List Lf:=[lI x.place,lI x.time,lI x.driven,lI x.miles]
def QaJ.enc (x:QaJ):List Lf:=[.bool x.ok,lI x.route.type_,lI x.route.start,lL 1 x.route.rests Qa5,lL 2 x.route.visits Qaa.enc,lI x.price]
def Qg3.enc (x:Qg3):List Lf:=[.bool x.ok,lI x.place,lI x.route.type_,lI x.route.start,lL 1 x.route.rests Qa5,lL 2 x.route.visits Qaa.enc,lI x.increase]
def Qbc (l:List Int):List Lf:=[.sl false 1 (l.map e_i64)]
def es_T_api_Visit.enc (l:List Qaa):List Lf:=[.sl false 2 (l.map Qaa.enc)]
def QcX:ByteArray:=⟨#[32]⟩
def Qu7:ByteArray:=⟨#[45]⟩
def QkP:ByteArray:=⟨#[112,108,97,99,101,115]⟩
def Qdu:ByteArray:=⟨#[112,108,97,99,101,32]⟩
def QaT:ByteArray:=⟨#[97,114,99,32]⟩
def QqB:ByteArray:=⟨#[97,114,99,115]⟩
def QtW:ByteArray:=⟨#[97,112,97,114,116]⟩
def QsT:ByteArray:=⟨#[98,101,102,111,114,101]⟩
def QvL:ByteArray:=⟨#[110,101,116]⟩
def Qwu:ByteArray:=⟨#[116,121,112,101,115]⟩
def QvM:ByteArray:=⟨#[111,114,100,101,114,115]⟩
def Qwt:ByteArray:=⟨#[114,117,108,101,115]⟩
def Qnl:ByteArray:=⟨#[48,49,50,51,52,53,54,55,56,57,97,98,99,100,101,102,103,104,105,106,107,108,109,110,111,112,113,114,115,116,117,118,119,120,121,122]⟩
def Qnk:ByteArray:=⟨#[48,48,48,49,48,50,48,51,48,52,48,53,48,54,48,55,48,56,48,57,49,48,49,49,49,50,49,51,49,52,49,53,49,54,49,55,49,56,49,57,50,48,50,49,50,50,50,51,50,52,50,53,50,54,50,55,50,56,50,57,51,48,51,49,51,50,51,51,51,52,51,53,51,54,51,55,51,56,51,57,52,48,52,49,52,50,52,51,52,52,52,53,52,54,52,55,52,56,52,57,53,48,53,49,53,50,53,51,53,52,53,53,53,54,53,55,53,56,53,57,54,48,54,49,54,50,54,51,54,52,54,53,54,54,54,55,54,56,54,57,55,48,55,49,55,50,55,51,55,52,55,53,55,54,55,55,55,56,55,57,56,48,56,49,56,50,56,51,56,52,56,53,56,54,56,55,56,56,56,57,57,48,57,49,57,50,57,51,57,52,57,53,57,54,57,55,57,56,57,57]⟩
def Qnm:ByteArray:=⟨#[0,1,2,2,3,3,3,3,4,4,4,4,4,4,4,4,5,5,5,5,5,5,5,5,5,5,5,5,5,5,5,5,6,6,6,6,6,6,6,6,6,6,6,6,6,6,6,6,6,6,6,6,6,6,6,6,6,6,6,6,6,6,6,6,7,7,7,7,7,7,7,7,7,7,7,7,7,7,7,7,7,7,7,7,7,7,7,7,7,7,7,7,7,7,7,7,7,7,7,7,7,7,7,7,7,7,7,7,7,7,7,7,7,7,7,7,7,7,7,7,7,7,7,7,7,7,7,7,8,8,8,8,8,8,8,8,8,8,8,8,8,8,8,8,8,8,8,8,8,8,8,8,8,8,8,8,8,8,8,8,8,8,8,8,8,8,8,8,8,8,8,8,8,8,8,8,8,8,8,8,8,8,8,8,8,8,8,8,8,8,8,8,8,8,8,8,8,8,8,8,8,8,8,8,8,8,8,8,8,8,8,8,8,8,8,8,8,8,8,8,8,8,8,8,8,8,8,8,8,8,8,8,8,8,8,8,8,8,8,8,8,8,8,8,8,8,8,8,8,8,8,8,8,8,8,8]⟩
def Qgz:ByteArray:=⟨#[72,117,98]⟩
def Qk0:ByteArray:=⟨#[65]⟩
def Qk1:ByteArray:=⟨#[66]⟩
def Qqj:ByteArray:=⟨#[118]⟩
def Qsw:ByteArray:=⟨#[111]⟩
def Qsx:ByteArray:=⟨#[112]⟩
end Go.Proofs.YtpkkaboonnedfaaGreatDoor
namespace Go.Proofs.YtpkkaboonnedfaaGreatDoor
set_option linter.unusedVariables false
set_option linter.unusedSectionVars false
set_option linter.unusedSimpArgs false
noncomputable def Qfp (word:ByteArray) (l:List Qab) (l1:List Qab) (i:Int) (at_:ByteArray):Option ((List Qab×Int)⊕(List Qab)):=bnd (getI l i) fun x1=>chk (okN (l1++[(Qab.mk x1.err at_)]).length 24) (some (.inl ((l1++[(Qab.mk x1.err at_)]),(addK .i64 i 1))))
noncomputable def Qeh (word:ByteArray) (l:List Qab) (l1:List Qab) (i:Int):Option ((List Qab×Int)⊕(List Qab)):=br (ltI i (lenI l)) (bnd (getI l i) fun x0=>br (eqS x0.at_ ByteArray.empty) (Qfp word l l1 i word) (chk (word.size+QcX.size≤9223372036854775807) (chk ((catS word QcX).size+x0.at_.size≤9223372036854775807) (Qfp word l l1 i (catS (catS word QcX) x0.at_))))) (some (.inr l1))
noncomputable def QfY (word:ByteArray) (l:List Qab):Option (List Qab):=bnd (loopF (fun s=>Qeh word l s.1 s.2) ([],0)) (fun l2=>some l2)
noncomputable def Qdp (n:Int) (s0:ByteArray) (left:Int) (d:Int):Option ((ByteArray×Int×Bool)⊕(ByteArray)):=chk ((Qrh [(cvK .u8 (addK .i64 48 d))]).size+s0.size≤9223372036854775807) (some (.inl ((catS (Qrh [(cvK .u8 (addK .i64 48 d))]) s0),(quoK .i64 left 10),(neI (quoK .i64 left 10) 0))))
noncomputable def QfK (n:Int) (s0:ByteArray) (left:Int) (again:Bool):Option ((ByteArray×Int×Bool)⊕(ByteArray)):=br again (br (ltI (remK left 10) 0) (Qdp n s0 left (subK .i64 0 (remK left 10))) (Qdp n s0 left (remK left 10))) (some (.inr s0))
noncomputable def QbT (n:Int):Option ByteArray:=bnd (loopF (fun s=>QfK n s.1 s.2.1 s.2.2) (ByteArray.empty,n,true)) (fun s1=>br (ltI n 0) (chk (Qu7.size+s1.size≤9223372036854775807) (some (catS Qu7 s1))) (some s1))
noncomputable def QiM (c:Int):Option Bool:=some ((geI c 48)&&(leI c 57))
noncomputable def QkW (c:Int):Option Bool:=some ((((geI c 97)&&(leI c 122))||((geI c 65)&&(leI c 90)))||(eqI c 95))
noncomputable def QeG (s0:ByteArray) (b:UInt8) (i:Int):Option ((Int)⊕((Unit)⊕(Bool))):=br (ltI i (sizeS s0)) (bnd (getS s0 i) fun b1=>bnd (QkW (byteI b1)) fun r1=>br r1 (some (.inl (addK .i64 i 1))) (bnd (QiM (byteI b1)) fun r2=>br r2 (some (.inl (addK .i64 i 1))) (some (.inr (.inr false))))) (some (.inr (.inl ())))
noncomputable def Qfz (s0:ByteArray):Option Bool:=br ((ltI (sizeS s0) 1)||(gtI (sizeS s0) 16)) (some false) (bnd (getS s0 0) fun b=>bnd (QiM (byteI b)) fun r=>br r (some false) (bnd (loopF (fun s=>QeG s0 b s) 0) (fun e=>sel e (fun (_:Unit)=>some true) (fun r3=>some r3))))
noncomputable def Qd2 (l:List Qam) (i:Int) (x0:Qam) (l3:List Qab):Option ((List Qab×Int)⊕(List Qab)):=br (gtI i 0) (bnd (getI l (subK .i64 i 1)) fun x1=>br (leI x0.t x1.t) (bnd (QbT i) fun r1=>chk (okN (l3++[(Qab.mk 13 r1)]).length 24) (some (.inl ((l3++[(Qab.mk 13 r1)]),(addK .i64 i 1))))) (br (ltI x0.a x1.a) (bnd (QbT i) fun r2=>chk (okN (l3++[(Qab.mk 13 r2)]).length 24) (some (.inl ((l3++[(Qab.mk 13 r2)]),(addK .i64 i 1))))) (some (.inl (l3,(addK .i64 i 1)))))) (some (.inl (l3,(addK .i64 i 1))))
noncomputable def Qdl (l:List Qam) (l2:List Qab) (i:Int):Option ((List Qab×Int)⊕(List Qab)):=br (ltI i (lenI l)) (bnd (getI l i) fun x0=>br ((((ltI x0.t 0)||(gtI x0.t 4096))||(ltI x0.a x0.t))||(gtI x0.a (addK .i64 x0.t 4096))) (bnd (QbT i) fun r=>chk (okN (l2++[(Qab.mk 2 r)]).length 24) (Qd2 l i x0 (l2++[(Qab.mk 2 r)]))) (Qd2 l i x0 l2)) (some (.inr l2))
noncomputable def Qfi (l:List Qam) (l1:List Qab):Option (List Qab):=bnd (loopF (fun s=>Qdl l s.1 s.2) (l1,0)) (fun l4=>some l4)
noncomputable def QeV (l:List Qam):Option (List Qab):=br ((ltI (lenI l) 1)||(gtI (lenI l) 16)) (chk (okN [(Qab.mk 4 ByteArray.empty)].length 24) (Qfi l [(Qab.mk 4 ByteArray.empty)])) (Qfi l [])
noncomputable def QgC (t:Int):Option Bool:=some ((geI t 0)&&(leI t 4096))
noncomputable def Qb4 (n:Qak) (i:Int) (r:ByteArray) (x0:Qaq) (l:List Qab) (l1:List Qab) (twice:Bool) (k:Int):Option ((Bool×Int)⊕(Bool)):=br (ltI k i) (bnd (getI n.arcs k) fun x1=>some (.inl ((twice||(((eqI x0.from_ x1.from_)&&(eqI x0.to_ x1.to_))&&(eqI x0.profile x1.profile))),(addK .i64 k 1)))) (some (.inr twice))
noncomputable def Qb5 (r:ByteArray) (x0:Qaq) (l:List Qab) (r1:List Qab) (l3:List Qab) (k1:Int):Option ((List Qab×Int)⊕(List Qab)):=br (ltI k1 (lenI r1)) (bnd (getI r1 k1) fun x2=>chk (okN (l3++[(Qab.mk x2.err (catS QaT r))]).length 24) (some (.inl ((l3++[(Qab.mk x2.err (catS QaT r))]),(addK .i64 k1 1))))) (some (.inr l3))
noncomputable def Qb6 (r:ByteArray) (x0:Qaq) (l:List Qab) (l6:List Qab) (k2:Int):Option ((List Qab×Int)⊕(List Qab)):=br (ltI k2 (lenI x0.slow)) (bnd (getI x0.slow k2) fun x3=>bnd (QgC x3.t) fun r2=>br r2 (bnd (QgC x3.a) fun r3=>br r3 (br (gtI k2 0) (bnd (getI x0.slow (subK .i64 k2 1)) fun x4=>br (leI x3.t x4.t) (chk (okN (l6++[(Qab.mk 2 (catS QaT r))]).length 24) (some (.inl ((l6++[(Qab.mk 2 (catS QaT r))]),(addK .i64 k2 1))))) (some (.inl (l6,(addK .i64 k2 1))))) (some (.inl (l6,(addK .i64 k2 1))))) (chk (okN (l6++[(Qab.mk 2 (catS QaT r))]).length 24) (some (.inl ((l6++[(Qab.mk 2 (catS QaT r))]),(addK .i64 k2 1)))))) (chk (okN (l6++[(Qab.mk 2 (catS QaT r))]).length 24) (some (.inl ((l6++[(Qab.mk 2 (catS QaT r))]),(addK .i64 k2 1)))))) (some (.inr l6))
noncomputable def QbF (r:ByteArray) (x0:Qaq) (l:List Qab) (l5:List Qab):Option (List Qab):=bnd (loopF (fun s=>Qb6 r x0 l s.1 s.2) (l5,0)) (fun l7=>some l7)
noncomputable def Qb3 (r:ByteArray) (x0:Qaq) (l:List Qab) (l2:List Qab):Option (List Qab):=bnd (QeV x0.travel) fun r1=>bnd (loopF (fun s=>Qb5 r x0 l r1 s.1 s.2) (l2,0)) (fun l4=>br (gtI (lenI x0.slow) 16) (chk (okN (l4++[(Qab.mk 4 (catS QaT r))]).length 24) (QbF r x0 l (l4++[(Qab.mk 4 (catS QaT r))]))) (QbF r x0 l l4))
noncomputable def Qdd (n:Qak) (i:Int) (r:ByteArray) (x0:Qaq) (l:List Qab) (l1:List Qab):Option (List Qab):=bnd (loopF (fun s=>Qb4 n i r x0 l l1 s.1 s.2) (false,0)) (fun twice1=>br twice1 (chk (okN (l1++[(Qab.mk 6 (catS QaT r))]).length 24) (Qb3 r x0 l (l1++[(Qab.mk 6 (catS QaT r))]))) (Qb3 r x0 l l1))
noncomputable def Qdc (n:Qak) (i:Int) (r:ByteArray) (x0:Qaq) (l:List Qab):Option (List Qab):=br (((((ltI x0.profile 0)||(gtI x0.profile 7))||(ltI x0.miles 0))||(gtI x0.miles 10000))||(eqI x0.from_ x0.to_)) (chk (okN (l++[(Qab.mk 2 (catS QaT r))]).length 24) (Qdd n i r x0 l (l++[(Qab.mk 2 (catS QaT r))]))) (Qdd n i r x0 l l)
noncomputable def Qfk (n:Qak) (i:Int):Option (List Qab):=bnd (QbT i) fun r=>chk (QaT.size+r.size≤9223372036854775807) (bnd (getI n.arcs i) fun x0=>br ((((ltI x0.from_ 0)||(geI x0.from_ (lenI n.places)))||(ltI x0.to_ 0))||(geI x0.to_ (lenI n.places))) (chk (okN [(Qab.mk 11 (catS QaT r))].length 24) (Qdc n i r x0 [(Qab.mk 11 (catS QaT r))])) (Qdc n i r x0 []))
noncomputable def Qbf (n:Qak) (l:List Qab) (l1:List Qab) (i:Int) (r:ByteArray) (twice:Bool) (k:Int):Option ((Bool×Int)⊕(Bool)):=br (ltI k i) (br twice (some (.inl (true,(addK .i64 k 1)))) (bnd (getI n.places k) fun x1=>bnd (getI n.places i) fun x2=>some (.inl ((eqS x1 x2),(addK .i64 k 1))))) (some (.inr twice))
noncomputable def Qbe (n:Qak) (l:List Qab) (l1:List Qab) (i:Int):Option ((List Qab×Int)⊕(List Qab)):=br (ltI i (lenI n.places)) (bnd (QbT i) fun r=>chk (Qdu.size+r.size≤9223372036854775807) (bnd (getI n.places i) fun x0=>bnd (Qfz x0) fun r1=>br r1 (bnd (loopF (fun s=>Qbf n l l1 i r s.1 s.2) (false,0)) (fun twice1=>br twice1 (chk (okN (l1++[(Qab.mk 6 (catS Qdu r))]).length 24) (some (.inl ((l1++[(Qab.mk 6 (catS Qdu r))]),(addK .i64 i 1))))) (some (.inl (l1,(addK .i64 i 1)))))) (chk (okN (l1++[(Qab.mk 5 (catS Qdu r))]).length 24) (some (.inl ((l1++[(Qab.mk 5 (catS Qdu r))]),(addK .i64 i 1))))))) (some (.inr l1))
noncomputable def Qcj (n:Qak) (l:List Qab):Option (List Qab):=bnd (loopF (fun s=>Qbe n l s.1 s.2) (l,0)) (fun l2=>some l2)
noncomputable def Qc6 (n:Qak):Option (List Qab):=br (gtI (lenI n.places) 24) (chk (okN [(Qab.mk 4 QkP)].length 24) (Qcj n [(Qab.mk 4 QkP)])) (Qcj n [])
noncomputable def QcZ (n:Qak) (l:List Qab) (l1:List Qab) (i:Int):Option ((List Qab×Int)⊕(List Qab)):=br (ltI i (lenI n.arcs)) (bnd (Qfk n i) fun r1=>chk (okN (l1++r1).length 24) (some (.inl ((l1++r1),(addK .i64 i 1))))) (some (.inr l1))
noncomputable def Qfj (n:Qak) (l:List Qab):Option (List Qab):=bnd (loopF (fun s=>QcZ n l s.1 s.2) (l,0)) (fun l2=>some l2)
noncomputable def Qg8 (n:Qak):Option (List Qab):=bnd (Qc6 n) fun r=>br (gtI (lenI n.arcs) 1024) (chk (okN (r++[(Qab.mk 4 QqB)]).length 24) (Qfj n (r++[(Qab.mk 4 QqB)]))) (Qfj n r)
noncomputable def QaR (n:Int) (lo:Int) (hi:Int):Option Bool:=some ((geI n lo)&&(leI n hi))
noncomputable def QfA (l:List Qai):Option Int:=br (eqI (lenI l) 0) (some 0) (bnd (getI l 0) fun x0=>some (lenI x0.cap))
noncomputable def Qck (l:List Qai) (at_:Int) (name:ByteArray) (i:Int):Option ((Int)⊕((Unit)⊕(Bool))):=br (ltI i at_) (bnd (getI l i) fun x0=>br (eqS x0.name name) (some (.inr (.inr true))) (some (.inl (addK .i64 i 1)))) (some (.inr (.inl ())))
noncomputable def Qha (l:List Qai) (at_:Int) (name:ByteArray):Option Bool:=bnd (loopF (fun s=>Qck l at_ name s) 0) (fun e=>sel e (fun (_:Unit)=>some false) (fun r=>some r))
noncomputable def QbG (l:List Int) (i:Int):Option ((Int)⊕((Unit)⊕(Bool))):=br (ltI i (lenI l)) (bnd (getI l i) fun x0=>bnd (QaR x0 0 1000) fun r1=>br r1 (some (.inl (addK .i64 i 1))) (some (.inr (.inr false)))) (some (.inr (.inl ())))
noncomputable def Qd3 (l:List Int) (dims:Int):Option Bool:=bnd (QaR (lenI l) 1 3) fun r=>br ((!r)||(neI (lenI l) dims)) (some false) (bnd (loopF (fun s=>QbG l s) 0) (fun e=>sel e (fun (_:Unit)=>some true) (fun r2=>some r2)))
noncomputable def Qeb (x0:Qai) (l8:List Int):Option (List Int):=bnd (QaR x0.profile 0 7) fun r11=>br r11 (bnd (QaR x0.fixed 0 100000) fun r12=>br r12 (bnd (QaR x0.perMile 0 100) fun r13=>br r13 (bnd (QaR x0.perTick 0 100) fun r14=>br r14 (some l8) (chk (okN (l8++[2]).length 8) (some (l8++[2])))) (chk (okN (l8++[2]).length 8) (some (l8++[2])))) (chk (okN (l8++[2]).length 8) (some (l8++[2])))) (chk (okN (l8++[2]).length 8) (some (l8++[2])))
noncomputable def Qea (x0:Qai) (l7:List Int):Option (List Int):=bnd (QaR x0.drive 1 4096) fun r9=>br r9 (bnd (QaR x0.rest_ 0 4096) fun r10=>br r10 (Qeb x0 l7) (chk (okN (l7++[16]).length 8) (Qeb x0 (l7++[16])))) (chk (okN (l7++[16]).length 8) (bnd (QaR x0.profile 0 7) fun r15=>br r15 (bnd (QaR x0.fixed 0 100000) fun r16=>br r16 (bnd (QaR x0.perMile 0 100) fun r17=>br r17 (bnd (QaR x0.perTick 0 100) fun r18=>br r18 (some (l7++[16])) (chk (okN ((l7++[16])++[2]).length 8) (some ((l7++[16])++[2])))) (chk (okN ((l7++[16])++[2]).length 8) (some ((l7++[16])++[2])))) (chk (okN ((l7++[16])++[2]).length 8) (some ((l7++[16])++[2])))) (chk (okN ((l7++[16])++[2]).length 8) (some ((l7++[16])++[2])))))
noncomputable def Qd9 (x0:Qai) (l6:List Int):Option (List Int):=bnd (QaR x0.open_ 0 x0.close) fun r8=>br ((!r8)||(gtI x0.close 4096)) (chk (okN (l6++[15]).length 8) (Qea x0 (l6++[15]))) (Qea x0 l6)
noncomputable def Qd8 (x0:Qai) (l5:List Int):Option (List Int):=bnd (QaR x0.skills 0 1073741823) fun r7=>br r7 (Qd9 x0 l5) (chk (okN (l5++[18]).length 8) (Qd9 x0 (l5++[18])))
noncomputable def Qd7 (l:List Qai) (x0:Qai) (l4:List Int):Option (List Int):=bnd (QfA l) fun r5=>bnd (Qd3 x0.cap r5) fun r6=>br r6 (Qd8 x0 l4) (chk (okN (l4++[17]).length 8) (Qd8 x0 (l4++[17])))
noncomputable def Qgf (x0:Qai) (l12:List Int):Option (List Int):=bnd (QaR x0.profile 0 7) fun r25=>br r25 (bnd (QaR x0.fixed 0 100000) fun r26=>br r26 (bnd (QaR x0.perMile 0 100) fun r27=>br r27 (bnd (QaR x0.perTick 0 100) fun r28=>br r28 (some l12) (chk (okN (l12++[2]).length 8) (some (l12++[2])))) (chk (okN (l12++[2]).length 8) (some (l12++[2])))) (chk (okN (l12++[2]).length 8) (some (l12++[2])))) (chk (okN (l12++[2]).length 8) (some (l12++[2])))
noncomputable def Qge (x0:Qai) (l11:List Int):Option (List Int):=bnd (QaR x0.drive 1 4096) fun r23=>br r23 (bnd (QaR x0.rest_ 0 4096) fun r24=>br r24 (Qgf x0 l11) (chk (okN (l11++[16]).length 8) (Qgf x0 (l11++[16])))) (chk (okN (l11++[16]).length 8) (bnd (QaR x0.profile 0 7) fun r29=>br r29 (bnd (QaR x0.fixed 0 100000) fun r30=>br r30 (bnd (QaR x0.perMile 0 100) fun r31=>br r31 (bnd (QaR x0.perTick 0 100) fun r32=>br r32 (some (l11++[16])) (chk (okN ((l11++[16])++[2]).length 8) (some ((l11++[16])++[2])))) (chk (okN ((l11++[16])++[2]).length 8) (some ((l11++[16])++[2])))) (chk (okN ((l11++[16])++[2]).length 8) (some ((l11++[16])++[2])))) (chk (okN ((l11++[16])++[2]).length 8) (some ((l11++[16])++[2])))))
noncomputable def Qgd (x0:Qai) (l10:List Int):Option (List Int):=bnd (QaR x0.open_ 0 x0.close) fun r22=>br ((!r22)||(gtI x0.close 4096)) (chk (okN (l10++[15]).length 8) (Qge x0 (l10++[15]))) (Qge x0 l10)
noncomputable def QgT (x0:Qai) (l9:List Int):Option (List Int):=bnd (QaR x0.skills 0 1073741823) fun r21=>br r21 (Qgd x0 l9) (chk (okN (l9++[18]).length 8) (Qgd x0 (l9++[18])))
noncomputable def Qd6 (n:Qak) (l:List Qai) (x0:Qai) (l3:List Int):Option (List Int):=bnd (QaR x0.from_ 0 (subK .i64 (lenI n.places) 1)) fun r3=>br r3 (bnd (QaR x0.to_ 0 (subK .i64 (lenI n.places) 1)) fun r4=>br r4 (Qd7 l x0 l3) (chk (okN (l3++[11]).length 8) (Qd7 l x0 (l3++[11])))) (chk (okN (l3++[11]).length 8) (bnd (QfA l) fun r19=>bnd (Qd3 x0.cap r19) fun r20=>br r20 (QgT x0 (l3++[11])) (chk (okN ((l3++[11])++[17]).length 8) (QgT x0 ((l3++[11])++[17])))))
noncomputable def Qd5 (n:Qak) (l:List Qai) (x0:Qai) (l2:List Int):Option (List Int):=bnd (QaR x0.count 0 10) fun r2=>br r2 (Qd6 n l x0 l2) (chk (okN (l2++[22]).length 8) (Qd6 n l x0 (l2++[22])))
noncomputable def Qd4 (n:Qak) (l:List Qai) (at_:Int) (x0:Qai) (l1:List Int):Option (List Int):=bnd (Qha l at_ x0.name) fun r1=>br r1 (chk (okN (l1++[6]).length 8) (Qd5 n l x0 (l1++[6]))) (Qd5 n l x0 l1)
noncomputable def Qhb (n:Qak) (l:List Qai) (at_:Int):Option (List Int):=bnd (getI l at_) fun x0=>bnd (Qfz x0.name) fun r=>br r (Qd4 n l at_ x0 []) (chk (okN [5].length 8) (Qd4 n l at_ x0 [5]))
noncomputable def QgS (n:Qak) (l:List Qai) (i:Int) (r1:List Int) (l3:List Qab) (k:Int):Option ((List Qab×Int)⊕(List Qab)):=br (ltI k (lenI r1)) (bnd (getI r1 k) fun x0=>bnd (QbT i) fun r2=>chk (okN (l3++[(Qab.mk x0 r2)]).length 24) (some (.inl ((l3++[(Qab.mk x0 r2)]),(addK .i64 k 1))))) (some (.inr l3))
noncomputable def Qc0 (n:Qak) (l:List Qai) (l2:List Qab) (i:Int):Option ((List Qab×Int)⊕(List Qab)):=br (ltI i (lenI l)) (bnd (Qhb n l i) fun r1=>bnd (loopF (fun s=>QgS n l i r1 s.1 s.2) (l2,0)) (fun l4=>some (.inl (l4,(addK .i64 i 1))))) (some (.inr l2))
noncomputable def Qfl (n:Qak) (l:List Qai) (l1:List Qab):Option (List Qab):=bnd (loopF (fun s=>Qc0 n l s.1 s.2) (l1,0)) (fun l5=>some l5)
noncomputable def Qg9 (n:Qak) (l:List Qai):Option (List Qab):=bnd (QaR (lenI l) 1 6) fun r=>br r (Qfl n l []) (chk (okN [(Qab.mk 4 ByteArray.empty)].length 24) (Qfl n l [(Qab.mk 4 ByteArray.empty)]))
noncomputable def QbH (n:Int) (low:Int) (high:Int):Option Bool:=some ((geI n low)&&(leI n high))
noncomputable def Qch (a:List Int) (i:Int):Option ((Int)⊕((Unit)⊕(Bool))):=br (ltI i (lenI a)) (bnd (getI a i) fun x0=>br (ltI x0 0) (some (.inr (.inr false))) (br (gtI x0 1000) (some (.inr (.inr false))) (some (.inl (addK .i64 i 1))))) (some (.inr (.inl ())))
noncomputable def QeU (a:List Int) (dims:Int):Option Bool:=br (neI (lenI a) dims) (some false) (bnd (loopF (fun s=>Qch a s) 0) (fun e=>sel e (fun (_:Unit)=>some true) (fun r=>some r)))
noncomputable def QdX (s0:Qau):Option Int:=br ((((eqI s0.place (-1))&&(eqI s0.open_ 0))&&(eqI s0.close 0))&&(eqI s0.service 0)) (some 0) (br ((((((ltI s0.place 0)||(ltI s0.open_ 0))||(gtI s0.open_ s0.close))||(gtI s0.close 4096))||(ltI s0.service 0))||(gtI s0.service 4096)) (some 2) (some 0))
noncomputable def Qcl (places:Int) (dims:Int) (types:Int) (l:List Qag) (at_:Int) (x0:Qag) (l1:List Int) (i:Int):Option ((Int)⊕(List Int)):=br (ltI i at_) (bnd (getI l i) fun x1=>br (eqS x1.name x0.name) (chk (okN (l1++[6]).length 8) (some (.inr (l1++[6])))) (some (.inl (addK .i64 i 1)))) (some (.inr l1))
noncomputable def Qef (types:Int) (x0:Qag) (l6:List Int):Option (List Int):=bnd (QbH x0.penalty (-1) 1000000) fun r6=>br r6 (bnd (QbH x0.split 1 4) fun r7=>br ((((((!r7)||((gtI x0.split 1)&&((neI x0.pick.place (-1))&&(neI x0.drop.place (-1)))))||(ltI x0.last_ (-1)))||(geI x0.last_ types))||(ltI x0.now (-1)))||(geI x0.now types)) (chk (okN (l6++[2]).length 8) (some (l6++[2]))) (some l6)) (chk (okN (l6++[2]).length 8) (some (l6++[2])))
noncomputable def QgV (types:Int) (x0:Qag) (l8:List Int):Option (List Int):=bnd (QbH x0.penalty (-1) 1000000) fun r10=>br r10 (bnd (QbH x0.split 1 4) fun r11=>br ((((((!r11)||((gtI x0.split 1)&&((neI x0.pick.place (-1))&&(neI x0.drop.place (-1)))))||(ltI x0.last_ (-1)))||(geI x0.last_ types))||(ltI x0.now (-1)))||(geI x0.now types)) (chk (okN (l8++[2]).length 8) (some (l8++[2]))) (some l8)) (chk (okN (l8++[2]).length 8) (some (l8++[2])))
noncomputable def Qeg (types:Int) (x0:Qag) (l7:List Int):Option (List Int):=bnd (QbH x0.skills 0 1073741823) fun r9=>br r9 (QgV types x0 l7) (chk (okN (l7++[18]).length 8) (QgV types x0 (l7++[18])))
noncomputable def Qee (types:Int) (x0:Qag) (l5:List Int):Option (List Int):=bnd (QdX x0.pick) fun r4=>br (neI r4 0) (chk (okN (l5++[14]).length 8) (bnd (QbH x0.skills 0 1073741823) fun r5=>br r5 (Qef types x0 (l5++[14])) (chk (okN ((l5++[14])++[18]).length 8) (Qef types x0 ((l5++[14])++[18]))))) (bnd (QdX x0.drop) fun r8=>br (neI r8 0) (chk (okN (l5++[14]).length 8) (Qeg types x0 (l5++[14]))) (Qeg types x0 l5))
noncomputable def Qed (types:Int) (x0:Qag) (l4:List Int):Option (List Int):=br ((eqI x0.pick.place (-1))&&(eqI x0.drop.place (-1))) (chk (okN (l4++[19]).length 8) (Qee types x0 (l4++[19]))) (Qee types x0 l4)
noncomputable def QgX (types:Int) (x0:Qag) (l10:List Int):Option (List Int):=bnd (QbH x0.penalty (-1) 1000000) fun r14=>br r14 (bnd (QbH x0.split 1 4) fun r15=>br ((((((!r15)||((gtI x0.split 1)&&((neI x0.pick.place (-1))&&(neI x0.drop.place (-1)))))||(ltI x0.last_ (-1)))||(geI x0.last_ types))||(ltI x0.now (-1)))||(geI x0.now types)) (chk (okN (l10++[2]).length 8) (some (l10++[2]))) (some l10)) (chk (okN (l10++[2]).length 8) (some (l10++[2])))
noncomputable def Qgh (types:Int) (x0:Qag) (l12:List Int):Option (List Int):=bnd (QbH x0.penalty (-1) 1000000) fun r18=>br r18 (bnd (QbH x0.split 1 4) fun r19=>br ((((((!r19)||((gtI x0.split 1)&&((neI x0.pick.place (-1))&&(neI x0.drop.place (-1)))))||(ltI x0.last_ (-1)))||(geI x0.last_ types))||(ltI x0.now (-1)))||(geI x0.now types)) (chk (okN (l12++[2]).length 8) (some (l12++[2]))) (some l12)) (chk (okN (l12++[2]).length 8) (some (l12++[2])))
noncomputable def Qgg (types:Int) (x0:Qag) (l11:List Int):Option (List Int):=bnd (QbH x0.skills 0 1073741823) fun r17=>br r17 (Qgh types x0 l11) (chk (okN (l11++[18]).length 8) (Qgh types x0 (l11++[18])))
noncomputable def QgW (types:Int) (x0:Qag) (l9:List Int):Option (List Int):=bnd (QdX x0.pick) fun r12=>br (neI r12 0) (chk (okN (l9++[14]).length 8) (bnd (QbH x0.skills 0 1073741823) fun r13=>br r13 (QgX types x0 (l9++[14])) (chk (okN ((l9++[14])++[18]).length 8) (QgX types x0 ((l9++[14])++[18]))))) (bnd (QdX x0.drop) fun r16=>br (neI r16 0) (chk (okN (l9++[14]).length 8) (Qgg types x0 (l9++[14]))) (Qgg types x0 l9))
noncomputable def QbX (places:Int) (types:Int) (x0:Qag) (l3:List Int):Option (List Int):=bnd (QbH x0.pick.place (-1) (subK .i64 places 1)) fun r2=>br r2 (bnd (QbH x0.drop.place (-1) (subK .i64 places 1)) fun r3=>br r3 (Qed types x0 l3) (chk (okN (l3++[11]).length 8) (Qed types x0 (l3++[11])))) (chk (okN (l3++[11]).length 8) (br ((eqI x0.pick.place (-1))&&(eqI x0.drop.place (-1))) (chk (okN ((l3++[11])++[19]).length 8) (QgW types x0 ((l3++[11])++[19]))) (QgW types x0 (l3++[11]))))
noncomputable def Qec (places:Int) (dims:Int) (types:Int) (l:List Qag) (at_:Int) (x0:Qag) (l1:List Int):Option (List Int):=bnd (loopF (fun s=>Qcl places dims types l at_ x0 l1 s) 0) (fun l2=>bnd (QeU x0.load dims) fun r1=>br r1 (QbX places types x0 l2) (chk (okN (l2++[17]).length 8) (QbX places types x0 (l2++[17]))))
noncomputable def Qhd (places:Int) (dims:Int) (types:Int) (l:List Qag) (at_:Int):Option (List Int):=bnd (getI l at_) fun x0=>bnd (Qfz x0.name) fun r=>br r (Qec places dims types l at_ x0 []) (chk (okN [5].length 8) (Qec places dims types l at_ x0 [5]))
noncomputable def QgU (n:Qak) (dims:Int) (types:Int) (l:List Qag) (i:Int) (r:List Int) (l3:List Qab) (k:Int):Option ((List Qab×Int)⊕(List Qab)):=br (ltI k (lenI r)) (bnd (getI r k) fun x0=>bnd (QbT i) fun r1=>chk (okN (l3++[(Qab.mk x0 r1)]).length 24) (some (.inl ((l3++[(Qab.mk x0 r1)]),(addK .i64 k 1))))) (some (.inr l3))
noncomputable def Qc1 (n:Qak) (dims:Int) (types:Int) (l:List Qag) (l2:List Qab) (i:Int):Option ((List Qab×Int)⊕(List Qab)):=br (ltI i (lenI l)) (bnd (Qhd (lenI n.places) dims types l i) fun r=>bnd (loopF (fun s=>QgU n dims types l i r s.1 s.2) (l2,0)) (fun l4=>some (.inl (l4,(addK .i64 i 1))))) (some (.inr l2))
noncomputable def Qfn (n:Qak) (dims:Int) (types:Int) (l:List Qag) (l1:List Qab):Option (List Qab):=bnd (loopF (fun s=>Qc1 n dims types l s.1 s.2) (l1,0)) (fun l5=>some l5)
noncomputable def Qhc (n:Qak) (dims:Int) (types:Int) (l:List Qag):Option (List Qab):=br (gtI (lenI l) 10) (chk (okN [(Qab.mk 4 ByteArray.empty)].length 24) (Qfn n dims types l [(Qab.mk 4 ByteArray.empty)])) (Qfn n dims types l [])
noncomputable def Qdq (n1:Int) (s0:ByteArray):Option ((Int×ByteArray)⊕(Int×ByteArray)):=br (geI n1 10) (chk ((Qrh [(cvK .u8 (addK .i64 48 (remK n1 10)))]).size+s0.size≤9223372036854775807) (some (.inl ((quoK .i64 n1 10),(catS (Qrh [(cvK .u8 (addK .i64 48 (remK n1 10)))]) s0))))) (some (.inr (n1,s0)))
noncomputable def QeJ (n:Int):Option ByteArray:=bnd (loopF (fun s=>Qdq s.1 s.2) (n,ByteArray.empty)) (fun e0=>(fun n2 s1=>chk ((Qrh [(cvK .u8 (addK .i64 48 n2))]).size+s1.size≤9223372036854775807) (some (catS (Qrh [(cvK .u8 (addK .i64 48 n2))]) s1))) e0.1 e0.2)
noncomputable def QdE (orders:Int) (l:List QaO) (word:ByteArray) (turned:Bool) (l2:List Qab) (i:Int) (x0:QaO) (r:ByteArray) (twice:Bool) (k:Int):Option ((Bool×Int)⊕(Bool)):=br (ltI k i) (br twice (some (.inl (true,(addK .i64 k 1)))) (bnd (getI l k) fun x1=>br (eqI x1.x0 x0.x0) (br (eqI x1.x1 x0.x1) (some (.inl (true,(addK .i64 k 1)))) (br turned (br (eqI x1.x0 x0.x1) (some (.inl ((eqI x1.x1 x0.x0),(addK .i64 k 1)))) (some (.inl (false,(addK .i64 k 1))))) (some (.inl (false,(addK .i64 k 1)))))) (br turned (br (eqI x1.x0 x0.x1) (some (.inl ((eqI x1.x1 x0.x0),(addK .i64 k 1)))) (some (.inl (false,(addK .i64 k 1))))) (some (.inl (false,(addK .i64 k 1))))))) (some (.inr twice))
noncomputable def QcA (orders:Int) (l:List QaO) (word:ByteArray) (turned:Bool) (l2:List Qab) (i:Int):Option ((List Qab×Int)⊕(List Qab)):=br (ltI i (lenI l)) (bnd (getI l i) fun x0=>chk (word.size+QcX.size≤9223372036854775807) (bnd (QeJ i) fun r=>chk ((catS word QcX).size+r.size≤9223372036854775807) (br (((((ltI x0.x0 0)||(geI x0.x0 orders))||(ltI x0.x1 0))||(geI x0.x1 orders))||(eqI x0.x0 x0.x1)) (chk (okN (l2++[(Qab.mk 2 (catS (catS word QcX) r))]).length 24) (some (.inl ((l2++[(Qab.mk 2 (catS (catS word QcX) r))]),(addK .i64 i 1))))) (bnd (loopF (fun s=>QdE orders l word turned l2 i x0 r s.1 s.2) (false,0)) (fun twice1=>br twice1 (chk (okN (l2++[(Qab.mk 6 (catS (catS word QcX) r))]).length 24) (some (.inl ((l2++[(Qab.mk 6 (catS (catS word QcX) r))]),(addK .i64 i 1))))) (some (.inl (l2,(addK .i64 i 1))))))))) (some (.inr l2))
noncomputable def QeW (orders:Int) (l:List QaO) (word:ByteArray) (turned:Bool) (l1:List Qab):Option (List Qab):=bnd (loopF (fun s=>QcA orders l word turned s.1 s.2) (l1,0)) (fun l3=>some l3)
noncomputable def Qgv (orders:Int) (l:List QaO) (word:ByteArray) (turned:Bool):Option (List Qab):=br (gtI (lenI l) 16) (chk (okN [(Qab.mk 4 word)].length 24) (QeW orders l word turned [(Qab.mk 4 word)])) (QeW orders l word turned [])
noncomputable def Qeq (orders:Int) (l:List QaO) (word:ByteArray) (turned:Bool) (l2:List Qab) (i:Int) (x0:QaO) (r:ByteArray) (twice:Bool) (k:Int):Option ((Bool×Int)⊕(Bool)):=br (ltI k i) (br twice (some (.inl (true,(addK .i64 k 1)))) (bnd (getI l k) fun x1=>br (eqI x1.x0 x0.x0) (br (eqI x1.x1 x0.x1) (some (.inl (true,(addK .i64 k 1)))) (br turned (br (eqI x1.x0 x0.x1) (some (.inl ((eqI x1.x1 x0.x0),(addK .i64 k 1)))) (some (.inl (false,(addK .i64 k 1))))) (some (.inl (false,(addK .i64 k 1)))))) (br turned (br (eqI x1.x0 x0.x1) (some (.inl ((eqI x1.x1 x0.x0),(addK .i64 k 1)))) (some (.inl (false,(addK .i64 k 1))))) (some (.inl (false,(addK .i64 k 1))))))) (some (.inr twice))
noncomputable def Qep (orders:Int) (l:List QaO) (word:ByteArray) (turned:Bool) (l2:List Qab) (i:Int):Option ((List Qab×Int)⊕(List Qab)):=br (ltI i (lenI l)) (bnd (getI l i) fun x0=>chk (word.size+QcX.size≤9223372036854775807) (bnd (QeJ i) fun r=>chk ((catS word QcX).size+r.size≤9223372036854775807) (br (((((ltI x0.x0 0)||(geI x0.x0 orders))||(ltI x0.x1 0))||(geI x0.x1 orders))||(eqI x0.x0 x0.x1)) (chk (okN (l2++[(Qab.mk 2 (catS (catS word QcX) r))]).length 24) (some (.inl ((l2++[(Qab.mk 2 (catS (catS word QcX) r))]),(addK .i64 i 1))))) (bnd (loopF (fun s=>Qeq orders l word turned l2 i x0 r s.1 s.2) (false,0)) (fun twice1=>br twice1 (chk (okN (l2++[(Qab.mk 6 (catS (catS word QcX) r))]).length 24) (some (.inl ((l2++[(Qab.mk 6 (catS (catS word QcX) r))]),(addK .i64 i 1))))) (some (.inl (l2,(addK .i64 i 1))))))))) (some (.inr l2))
noncomputable def Qeo (orders:Int) (l:List QaO) (word:ByteArray) (turned:Bool) (l1:List Qab):Option (List Qab):=bnd (loopF (fun s=>Qep orders l word turned s.1 s.2) (l1,0)) (fun l3=>some l3)
noncomputable def QhI (orders:Int) (l:List QaO) (word:ByteArray) (turned:Bool):Option (List Qab):=br (gtI (lenI l) 16) (chk (okN [(Qab.mk 4 word)].length 24) (Qeo orders l word turned [(Qab.mk 4 word)])) (Qeo orders l word turned [])
noncomputable def Qhe (orders:Int) (apart:List QaO) (before:List QaO):Option (List Qab):=bnd (QhI orders apart QtW true) fun r=>bnd (Qgv orders before QsT false) fun r1=>chk (okN (r++r1).length 24) (some (r++r1))
noncomputable def QeZ (word:ByteArray) (l:List Qab) (l1:List Qab) (i:Int) (at_:ByteArray):Option ((List Qab×Int)⊕(List Qab)):=bnd (getI l i) fun x1=>chk (okN (l1++[(Qab.mk x1.err at_)]).length 24) (some (.inl ((l1++[(Qab.mk x1.err at_)]),(addK .i64 i 1))))
noncomputable def Qe0 (word:ByteArray) (l:List Qab) (l1:List Qab) (i:Int):Option ((List Qab×Int)⊕(List Qab)):=br (ltI i (lenI l)) (bnd (getI l i) fun x0=>br (eqS x0.at_ ByteArray.empty) (QeZ word l l1 i word) (chk (word.size+QcX.size≤9223372036854775807) (chk ((catS word QcX).size+x0.at_.size≤9223372036854775807) (QeZ word l l1 i (catS (catS word QcX) x0.at_))))) (some (.inr l1))
noncomputable def Qgi (word:ByteArray) (l:List Qab):Option (List Qab):=bnd (loopF (fun s=>Qe0 word l s.1 s.2) ([],0)) (fun l2=>some l2)
noncomputable def Qhf (x0:Qac):Option (List Qab):=bnd (Qg8 x0.net) fun r=>bnd (Qgi QvL r) fun r1=>bnd (Qg9 x0.net x0.types) fun r2=>bnd (QfY Qwu r2) fun r3=>chk (okN (r1++r3).length 24) (bnd (QfA x0.types) fun r4=>bnd (Qhc x0.net r4 (lenI x0.types) x0.orders) fun r5=>bnd (QfY QvM r5) fun r6=>chk (okN ((r1++r3)++r6).length 24) (bnd (Qhe (lenI x0.orders) x0.apart x0.before) fun r7=>bnd (QfY Qwt r7) fun r8=>chk (okN (((r1++r3)++r6)++r8).length 24) (some (((r1++r3)++r6)++r8))))
noncomputable def QfQ (x0:Qac):Option Bool:=bnd (Qhf x0) fun r=>some (eqI (lenI r) 0)
noncomputable def QiK (r:Qad):Option Bool:=some ((leI (lenI r.visits) 6)||(gtI (lenI r.visits) 20))
noncomputable def QjL (l:List Qag) (at_:Int):Option Bool:=some ((geI at_ 0)&&(ltI at_ (lenI l)))
noncomputable def QgI (l:List Qag) (at_:Int) (l1:List Qaa):Option (List Qaa):=bnd (getI l at_) fun x1=>br (geI x1.drop.place 0) (chk (okN (l1++[(Qaa.mk at_ true)]).length 16) (some (l1++[(Qaa.mk at_ true)]))) (some l1)
noncomputable def Qgl (l:List Qag) (at_:Int):Option (List Qaa):=bnd (QjL l at_) fun r=>br r (bnd (getI l at_) fun x0=>br (geI x0.pick.place 0) (chk (okN [(Qaa.mk at_ false)].length 16) (QgI l at_ [(Qaa.mk at_ false)])) (QgI l at_ [])) (some [])
noncomputable def QaN (s0:List Qaa) (v:Qaa) (v1:Int):Option ((Int)⊕((Unit)⊕(Int))):=br (ltI v1 (lenI s0)) (bnd (getI s0 v1) fun x0=>br (eqI v.order x0.order&&(eqB v.drop x0.drop&&true)) (some (.inr (.inr v1))) (some (.inl (addK .i64 v1 1)))) (some (.inr (.inl ())))
noncomputable def Qbk (s0:List Qaa) (v:Qaa):Option Int:=bnd (loopF (fun s=>QaN s0 v s) 0) (fun e=>sel e (fun (_:Unit)=>some (-1)) (fun r=>some r))
noncomputable def Qgn (l:List Qaa) (v:Qaa):Option Int:=bnd (Qbk l v) fun r=>some r
noncomputable def Qda (l:List Qaa) (v:Int):Option ((Int)⊕((Unit)⊕(Bool))):=br (ltI v (lenI l)) (bnd (getI l v) fun x0=>bnd (slcI l 0 v) fun l1=>bnd (Qgn l1 x0) fun r=>br (geI r 0) (some (.inr (.inr true))) (some (.inl (addK .i64 v 1)))) (some (.inr (.inl ())))
noncomputable def Qi7 (l:List Qaa):Option Bool:=bnd (loopF (fun s=>Qda l s) 0) (fun e=>sel e (fun (_:Unit)=>some false) (fun r1=>some r1))
noncomputable def Qbq (s0:List Qaa) (v:Qaa):Option Bool:=bnd (Qbk s0 v) fun r=>some (geI r 0)
noncomputable def Qbg (x0:Qac) (l:List Qaa) (v:Int) (r:List Qaa) (last_:Int) (v1:Int):Option ((Int×Int)⊕((Unit)⊕(Bool))):=br (ltI v1 (lenI r)) (bnd (getI r v1) fun x2=>bnd (Qgn l x2) fun r2=>br (leI r2 last_) (some (.inr (.inr false))) (some (.inl (r2,(addK .i64 v1 1))))) (some (.inr (.inl ())))
noncomputable def QcQ (x0:Qac) (l:List Qaa) (v:Int):Option ((Int)⊕((Unit)⊕(Bool))):=br (ltI v (lenI l)) (bnd (getI l v) fun x1=>bnd (Qgl x0.orders x1.order) fun r=>bnd (Qbq r x1) fun r1=>br r1 (bnd (loopF (fun s=>Qbg x0 l v r s.1 s.2) ((-1),0)) (fun e=>sel e (fun (_:Unit)=>some (.inl (addK .i64 v 1))) (fun r3=>some (.inr (.inr r3))))) (some (.inr (.inr false)))) (some (.inr (.inl ())))
noncomputable def Qh0 (x0:Qac) (l:List Qaa):Option Bool:=bnd (loopF (fun s=>QcQ x0 l s) 0) (fun e=>sel e (fun (_:Unit)=>some true) (fun r4=>some r4))
noncomputable def QlX (v:Qaa) (c:Int):Option Bool:=some (eqI v.order c)
noncomputable def QaG (s0:List Qaa) (c:Int) (v:Int):Option ((Int)⊕((Unit)⊕(Int))):=br (ltI v (lenI s0)) (bnd (getI s0 v) fun x0=>bnd (QlX x0 c) fun r=>br r (some (.inr (.inr v))) (some (.inl (addK .i64 v 1)))) (some (.inr (.inl ())))
noncomputable def Qa7 (s0:List Qaa) (c:Int):Option Int:=bnd (loopF (fun s=>QaG s0 c s) 0) (fun e=>sel e (fun (_:Unit)=>some (-1)) (fun r1=>some r1))
noncomputable def Qbh (s0:List Qaa) (c:Int):Option Bool:=bnd (Qa7 s0 c) fun r=>some (geI r 0)
noncomputable def Qho (l:List Qaa) (o:Int):Option Bool:=bnd (Qbh l o) fun r=>some r
noncomputable def Qh8 (v:Qaa) (c:Int):Option Bool:=some (eqI v.order c)
noncomputable def QaB (s0:List Qaa) (c:Int) (v:Int):Option ((Int)⊕((Unit)⊕(Int))):=br (ltI v (lenI s0)) (bnd (getI s0 v) fun x0=>bnd (Qh8 x0 c) fun r=>br r (some (.inr (.inr v))) (some (.inl (addK .i64 v 1)))) (some (.inr (.inl ())))
noncomputable def Qa1 (s0:List Qaa) (c:Int):Option Int:=bnd (loopF (fun s=>QaB s0 c s) 0) (fun e=>sel e (fun (_:Unit)=>some (-1)) (fun r1=>some r1))
noncomputable def QhZ (l:List Qaa) (a:Int) (b:Int):Option Bool:=bnd (Qa1 l b) fun r=>br (ltI r 0) (some true) (bnd (Qho l a) fun r1=>br r1 (bnd (slcI l r (lenI l)) fun l1=>bnd (Qho l1 a) fun r2=>some (!r2)) (some false))
noncomputable def Qi4 (v:Qaa) (c:Qac):Option Bool:=some ((ltI v.order 0)||(geI v.order (lenI c.orders)))
noncomputable def QaC (s0:List Qaa) (c:Qac) (v:Int):Option ((Int)⊕((Unit)⊕(Int))):=br (ltI v (lenI s0)) (bnd (getI s0 v) fun x0=>bnd (Qi4 x0 c) fun r=>br r (some (.inr (.inr v))) (some (.inl (addK .i64 v 1)))) (some (.inr (.inl ())))
noncomputable def Qa2 (s0:List Qaa) (c:Qac):Option Int:=bnd (loopF (fun s=>QaC s0 c s) 0) (fun e=>sel e (fun (_:Unit)=>some (-1)) (fun r1=>some r1))
noncomputable def QaY (s0:List Qaa) (c:Qac):Option Bool:=bnd (Qa2 s0 c) fun r=>some (geI r 0)
noncomputable def Qi5 (v:Qaa) (c:Qac):Option Bool:=bnd (getI c.orders v.order) fun x0=>some x0.off
noncomputable def QaD (s0:List Qaa) (c:Qac) (v:Int):Option ((Int)⊕((Unit)⊕(Int))):=br (ltI v (lenI s0)) (bnd (getI s0 v) fun x0=>bnd (Qi5 x0 c) fun r=>br r (some (.inr (.inr v))) (some (.inl (addK .i64 v 1)))) (some (.inr (.inl ())))
noncomputable def Qa3 (s0:List Qaa) (c:Qac):Option Int:=bnd (loopF (fun s=>QaD s0 c s) 0) (fun e=>sel e (fun (_:Unit)=>some (-1)) (fun r1=>some r1))
noncomputable def QaZ (s0:List Qaa) (c:Qac):Option Bool:=bnd (Qa3 s0 c) fun r=>some (geI r 0)
noncomputable def Qc9 (x0:Qac) (r:Qad) (v:Int):Option ((Int)⊕((Unit)⊕(Int))):=br (ltI v (lenI x0.apart)) (bnd (getI x0.apart v) fun x1=>bnd (Qho r.visits x1.x0) fun r5=>br r5 (bnd (Qho r.visits x1.x1) fun r6=>br r6 (some (.inr (.inr 20))) (some (.inl (addK .i64 v 1)))) (some (.inl (addK .i64 v 1)))) (some (.inr (.inl ())))
noncomputable def QcH (x0:Qac) (r:Qad) (v1:Int):Option ((Int)⊕((Unit)⊕(Int))):=br (ltI v1 (lenI x0.before)) (bnd (getI x0.before v1) fun x2=>bnd (QhZ r.visits x2.x0 x2.x1) fun r7=>br r7 (some (.inl (addK .i64 v1 1))) (some (.inr (.inr 21)))) (some (.inr (.inl ())))
noncomputable def QhD (x0:Qac) (r:Qad):Option Int:=br (eqI (lenI r.visits) 0) (some 2) (bnd (QaY r.visits x0) fun r1=>br r1 (some 2) (bnd (QaZ r.visits x0) fun r2=>br r2 (some 9) (bnd (Qi7 r.visits) fun r3=>br r3 (some 6) (bnd (Qh0 x0 r.visits) fun r4=>br r4 (bnd (loopF (fun s=>Qc9 x0 r s) 0) (fun e=>sel e (fun (_:Unit)=>bnd (loopF (fun s=>QcH x0 r s) 0) (fun e=>sel e (fun (_:Unit)=>some 0) (fun r8=>some r8))) (fun r9=>some r9))) (some 19)))))
noncomputable def Qmb (t:Qai) (skills:Int):Option Bool:=some (((geI t.skills 0)&&(geI skills 0))&&(eqI (QsG .i64 skills t.skills) 0))
noncomputable def Qfw (x0:Qac) (r:Qad) (v:Int):Option ((Int)⊕((Unit)⊕(Int))):=br (ltI v (lenI r.visits)) (bnd (getI r.visits v) fun x1=>bnd (getI x0.types r.type_) fun x2=>bnd (getI x0.orders x1.order) fun x3=>bnd (Qmb x2 x3.skills) fun r1=>br r1 (some (.inl (addK .i64 v 1))) (some (.inr (.inr 18)))) (some (.inr (.inl ())))
noncomputable def Qqh (x0:Qac) (r:Qad):Option Int:=bnd (loopF (fun s=>Qfw x0 r s) 0) (fun e=>sel e (fun (_:Unit)=>some 0) (fun r2=>some r2))
noncomputable def QeN (r:Qad) (set_:Int) (v:Int):Option ((Int×Int)⊕((Int)⊕(Int×Int))):=br (ltI v (lenI r.visits)) (bnd (getI r.visits v) fun x0=>br ((ltI x0.order 0)||(gtI x0.order 62)) (some (.inr (.inr (0,2)))) (chk ((0:Int)≤x0.order) (some (.inl ((orK .i64 set_ (shlK .i64 1 x0.order)),(addK .i64 v 1)))))) (some (.inr (.inl set_)))
noncomputable def QhY (r:Qad):Option (Int×Int):=bnd (loopF (fun s=>QeN r s.1 s.2) (0,0)) (fun e=>sel e (fun set_1=>some (set_1,0)) (fun r1=>some r1))
noncomputable def QrQ (a:Int) (b:Int):Option Int:=some (addK .i64 a b)
noncomputable def QbP (a:List Int) (b:List Int) (l:List Int) (l1:List Int) (v:Int):Option ((List Int×Int)⊕(List Int)):=br (ltI v (lenI a)) (bnd (getI a v) fun x0=>bnd (getI b v) fun x1=>bnd (QrQ x0 x1) fun r=>bnd (getI l1 v) fun x2=>some (.inl ((setI l1 v r),(addK .i64 v 1)))) (some (.inr l1))
noncomputable def Qht (a:List Int) (b:List Int):Option (List Int×Int):=br (neI (lenI a) (lenI b)) (some ([],2)) (bnd (mkI (lenI a) (lenI a) 8 0) fun l=>bnd (loopF (fun s=>QbP a b l s.1 s.2) (l,0)) (fun l2=>some (l2,0)))
noncomputable def Qqx (a:List Int) (b:List Int):Option (List Int×Int):=bnd (Qht a b) fun r=>some (r.1,r.2)
noncomputable def QtX (set_:Int) (i:Int):Option Bool:=br ((geI i 0)&&(leI i 62)) (chk ((0:Int)≤i) (some (eqI (andK .i64 (shrK .i64 set_ i) 1) 1))) (some false)
noncomputable def Qdk (set_:Int) (l:List Int) (v:Int):Option ((List Int×Int)⊕(List Int)):=br (ltI v 63) (bnd (QtX set_ v) fun r=>br r (chk (okN (l++[v]).length 8) (some (.inl ((l++[v]),(addK .i64 v 1))))) (some (.inl (l,(addK .i64 v 1))))) (some (.inr l))
noncomputable def QmL (set_:Int):Option (List Int):=bnd (loopF (fun s=>Qdk set_ s.1 s.2) ([],0)) (fun l1=>some l1)
noncomputable def QdM (x0:Qac) (l:List Int) (r:List Int) (sum:List Int) (v:Int):Option ((List Int×Int)⊕(List Int)):=br (ltI v (lenI r)) (bnd (getI r v) fun x1=>bnd (getI x0.orders x1) fun x2=>br (ltI x2.pick.place 0) (bnd (Qqx sum x2.load) fun r1=>some (.inl (r1.1,(addK .i64 v 1)))) (some (.inl (sum,(addK .i64 v 1))))) (some (.inr sum))
noncomputable def QnA (x0:Qac) (set_:Int) (dims:Int):Option (List Int):=bnd (mkI dims dims 8 0) fun l=>bnd (QmL set_) fun r=>bnd (loopF (fun s=>QdM x0 l r s.1 s.2) (l,0)) (fun sum1=>some sum1)
noncomputable def Qpw (l:List Qai):Option Int:=br (eqI (lenI l) 0) (some 0) (bnd (getI l 0) fun x0=>some (lenI x0.cap))
noncomputable def Qqy (a:Int) (b:Int):Option Int:=some (subK .i64 a b)
noncomputable def QbE (a:List Int) (b:List Int) (l:List Int) (l1:List Int) (v:Int):Option ((List Int×Int)⊕(List Int)):=br (ltI v (lenI a)) (bnd (getI a v) fun x0=>bnd (getI b v) fun x1=>bnd (Qqy x0 x1) fun r=>bnd (getI l1 v) fun x2=>some (.inl ((setI l1 v r),(addK .i64 v 1)))) (some (.inr l1))
noncomputable def QgN (a:List Int) (b:List Int):Option (List Int×Int):=br (neI (lenI a) (lenI b)) (some ([],2)) (bnd (mkI (lenI a) (lenI a) 8 0) fun l=>bnd (loopF (fun s=>QbE a b l s.1 s.2) (l,0)) (fun l2=>some (l2,0)))
noncomputable def QrP (a:List Int) (b:List Int):Option (List Int×Int):=bnd (QgN a b) fun r=>some (r.1,r.2)
noncomputable def QdL (x0:Qac) (r:Qad) (l:List (List Int)) (now:List Int) (v:Int):Option ((List (List Int)×List Int×Int)⊕((List (List Int))⊕(List (List Int)×Int))):=br (ltI v (lenI r.visits)) (bnd (getI r.visits v) fun x1=>br x1.drop (bnd (getI x0.orders x1.order) fun x2=>bnd (QrP now x2.load) fun r5=>br (neI r5.2 0) (some (.inr (.inr ([],r5.2)))) (chk (okN (l++[r5.1]).length 24) (some (.inl ((l++[r5.1]),r5.1,(addK .i64 v 1)))))) (bnd (getI x0.orders x1.order) fun x3=>bnd (Qqx now x3.load) fun r6=>br (neI r6.2 0) (some (.inr (.inr ([],r6.2)))) (chk (okN (l++[r6.1]).length 24) (some (.inl ((l++[r6.1]),r6.1,(addK .i64 v 1))))))) (some (.inr (.inl l)))
noncomputable def Qnz (x0:Qac) (r:Qad):Option (List (List Int)×Int):=bnd (QhD x0 r) fun r1=>br (neI r1 0) (some ([],r1)) (bnd (QhY r) fun r2=>br (neI r2.2 0) (some ([],r2.2)) (bnd (Qpw x0.types) fun r3=>bnd (QnA x0 r2.1 r3) fun r4=>bnd (loopF (fun s=>QdL x0 r s.1 s.2.1 s.2.2) ([r4],r4,0)) (fun e=>sel e (fun l1=>some (l1,0)) (fun r7=>some r7))))
noncomputable def Qff (a:List Int) (capacity:List Int) (v:Int):Option ((Int)⊕((Unit)⊕(Bool))):=br (ltI v (lenI a)) (bnd (getI a v) fun x0=>bnd (getI capacity v) fun x1=>br (gtI x0 x1) (some (.inr (.inr false))) (some (.inl (addK .i64 v 1)))) (some (.inr (.inl ())))
noncomputable def QpK (a:List Int) (capacity:List Int):Option Bool:=br (neI (lenI a) (lenI capacity)) (some false) (bnd (loopF (fun s=>Qff a capacity s) 0) (fun e=>sel e (fun (_:Unit)=>some true) (fun r=>some r)))
noncomputable def Qoo (a:List Int) (c:Qac) (c1:Qad):Option Bool:=bnd (getI c.types c1.type_) fun x0=>bnd (QpK a x0.cap) fun r=>some (!r)
noncomputable def QaL (s0:List (List Int)) (c:Qac) (c1:Qad) (v:Int):Option ((Int)⊕((Unit)⊕(Int))):=br (ltI v (lenI s0)) (bnd (getI s0 v) fun x0=>bnd (Qoo x0 c c1) fun r=>br r (some (.inr (.inr v))) (some (.inl (addK .i64 v 1)))) (some (.inr (.inl ())))
noncomputable def Qbr (s0:List (List Int)) (c:Qac) (c1:Qad):Option Int:=bnd (loopF (fun s=>QaL s0 c c1 s) 0) (fun e=>sel e (fun (_:Unit)=>some (-1)) (fun r1=>some r1))
noncomputable def QbB (s0:List (List Int)) (c:Qac) (c1:Qad):Option Bool:=bnd (Qbr s0 c c1) fun r=>some (geI r 0)
noncomputable def Qpn (x0:Qac) (r:Qad):Option Int:=br ((ltI r.type_ 0)||(geI r.type_ (lenI x0.types))) (some 2) (bnd (Qnz x0 r) fun r1=>br (neI r1.2 0) (some r1.2) (bnd (QbB r1.1 x0 r) fun r2=>br r2 (some 17) (some 0)))
noncomputable def QkM (x1:Qau):Option (Qau×Int):=br (ltI x1.place 0) (some ((Qau.mk 0 0 0 0),19)) (some (x1,0))
noncomputable def Qqc (l:List Qag) (v:Qaa):Option (Qau×Int):=bnd (QjL l v.order) fun r=>br r (bnd (getI l v.order) fun x0=>br v.drop (QkM x0.drop) (QkM x0.pick)) (some ((Qau.mk 0 0 0 0),2))
noncomputable def Qii (x0:Qac) (r:Qad) (x1:Qai) (l:List Qau) (v:Int):Option ((List Qau×Int)⊕((List Qau)⊕(Qaw×Bool))):=br (ltI v (lenI r.visits)) (bnd (getI r.visits v) fun x2=>bnd (Qqc x0.orders x2) fun r1=>br ((neI r1.2 0)||(ltI r1.1.place 0)) (some (.inr (.inr ((Qaw.mk (Qac.mk (Qak.mk [] []) [] [] [] []) (Qai.mk ByteArray.empty 0 0 0 [] 0 0 0 0 0 0 0 0 0) (Qad.mk 0 0 [] []) []),false)))) (chk (okN (l++[r1.1]).length 32) (some (.inl ((l++[r1.1]),(addK .i64 v 1)))))) (some (.inr (.inl l)))
noncomputable def QnE (x0:Qac) (r:Qad):Option (Qaw×Bool):=br (((((ltI r.type_ 0)||(geI r.type_ (lenI x0.types)))||(ltI r.start 0))||(gtI r.start 4096))||(gtI (lenI r.visits) 20)) (some ((Qaw.mk (Qac.mk (Qak.mk [] []) [] [] [] []) (Qai.mk ByteArray.empty 0 0 0 [] 0 0 0 0 0 0 0 0 0) (Qad.mk 0 0 [] []) []),false)) (bnd (getI x0.types r.type_) fun x1=>bnd (loopF (fun s=>Qii x0 r x1 s.1 s.2) ([],0)) (fun e=>sel e (fun l1=>some ((Qaw.mk x0 x1 r l1),true)) (fun r2=>some r2)))
noncomputable def Qc5 (p:Qaw):Option Qaf:=some (Qaf.mk (maxI p.t.open_ p.r.start) 0 (Qan.mk false 0 [] 0 0))
noncomputable def QiB (n:Qak) (i:Int):Option Bool:=some ((geI i 0)&&(ltI i (lenI n.places)))
noncomputable def Qnh (a:Qaq):Option Qih:=some (Qih.mk a.from_ a.to_ a.profile)
noncomputable def QgH (n:Qak) (profile:Int) (from_:Int) (to_:Int) (v:Int):Option ((Int)⊕((Unit)⊕(Qaq×Bool))):=br (ltI v (lenI n.arcs)) (bnd (getI n.arcs v) fun x0=>bnd (Qnh x0) fun r=>br (eqI r.from_ from_&&(eqI r.to_ to_&&(eqI r.profile profile&&true))) (some (.inr (.inr (x0,true)))) (some (.inl (addK .i64 v 1)))) (some (.inr (.inl ())))
noncomputable def Qmz (n:Qak) (profile:Int) (from_:Int) (to_:Int):Option (Qaq×Bool):=bnd (loopF (fun s=>QgH n profile from_ to_ s) 0) (fun e=>sel e (fun (_:Unit)=>some ((Qaq.mk 0 0 0 0 [] []),false)) (fun r1=>some r1))
noncomputable def Qf8 (n:Int) (least:Int) (most:Int):Option Bool:=some ((geI n least)&&(leI n most))
noncomputable def Qqo (i:Int):Option ByteArray:=br (ltI i 10) (bnd (slcS Qnl i (addK .i64 i 1)) fun s0=>some (Qnl.extract (i:Int).toNat ((addK .i64 i 1):Int).toNat)) (bnd (slcS Qnk (mulK .i64 i 2) (addK .i64 (mulK .i64 i 2) 2)) fun s1=>some (Qnk.extract ((mulK .i64 i 2):Int).toNat ((addK .i64 (mulK .i64 i 2) 2):Int).toNat))
noncomputable def Qtc (x0:Int):Option Int:=some (shrK .i64 (mulK .i64 x0 78913) 18)
noncomputable def QsI (x2:Int) (n1:Int):Option Int:=br (geI x2 256) (bnd (getS Qnm (cvK .u8 (shrK .u64 x2 8))) fun b=>some (addK .i64 (addK .i64 n1 8) (cvK .i64 (byteI b)))) (bnd (getS Qnm (cvK .u8 x2)) fun b1=>some (addK .i64 n1 (cvK .i64 (byteI b1))))
noncomputable def QsH (x1:Int) (n:Int):Option Int:=br (geI x1 65536) (QsI (shrK .u64 x1 16) (addK .i64 n 16)) (QsI x1 n)
noncomputable def Qyj (x0:Int):Option Int:=br (geI x0 4294967296) (QsH (shrK .u64 x0 32) 32) (QsH x0 0)
noncomputable def Qtd (d:Int):Option Int:=bnd (Qyj d) fun r=>bnd (Qtc r) fun r1=>none
noncomputable def Qgp (i:Int) (u:Int):Option ByteArray:=bnd (Qtd u) fun r1=>none
noncomputable def Qk3 (i:Int) (base:Int):Option ByteArray:=br (eqI base 10) (br ((leI 0 i)&&(ltI i 100)) (bnd (Qqo i) fun r=>some r) (br (ltI i 0) (Qgp i (subK .u64 0 (cvK .u64 i))) (Qgp i (cvK .u64 i)))) (none)
noncomputable def QrD (i:Int):Option ByteArray:=bnd (Qk3 i 10) fun r=>some r
noncomputable def Ql0 (i:Int):Option ByteArray:=bnd (QrD i) fun r=>some r
noncomputable def Qh2 (l:List Qam) (v:Int) (x0:Qam) (r:ByteArray) (l3:List Qab):Option ((List Qab×Int)⊕(List Qab)):=br (gtI v 0) (bnd (getI l (subK .i64 v 1)) fun x1=>br (leI x0.t x1.t) (chk (okN (l3++[(Qab.mk 13 r)]).length 24) (some (.inl ((l3++[(Qab.mk 13 r)]),(addK .i64 v 1))))) (br (ltI x0.a x1.a) (chk (okN (l3++[(Qab.mk 13 r)]).length 24) (some (.inl ((l3++[(Qab.mk 13 r)]),(addK .i64 v 1))))) (some (.inl (l3,(addK .i64 v 1)))))) (some (.inl (l3,(addK .i64 v 1))))
noncomputable def QdS (l:List Qam) (l2:List Qab) (v:Int):Option ((List Qab×Int)⊕(List Qab)):=br (ltI v (lenI l)) (bnd (getI l v) fun x0=>bnd (Ql0 v) fun r=>bnd (Qf8 x0.t 0 4096) fun r1=>br (((!r1)||(ltI x0.a x0.t))||(gtI x0.a (addK .i64 x0.t 4096))) (chk (okN (l2++[(Qab.mk 2 r)]).length 24) (Qh2 l v x0 r (l2++[(Qab.mk 2 r)]))) (Qh2 l v x0 r l2)) (some (.inr l2))
noncomputable def Qh1 (l:List Qam) (l1:List Qab):Option (List Qab):=bnd (loopF (fun s=>QdS l s.1 s.2) (l1,0)) (fun l4=>some l4)
noncomputable def QmO (l:List Qam):Option (List Qab):=br ((eqI (lenI l) 0)||(gtI (lenI l) 16)) (chk (okN [(Qab.mk 4 ByteArray.empty)].length 24) (Qh1 l [(Qab.mk 4 ByteArray.empty)])) (Qh1 l [])
noncomputable def QmP (l:List Qam):Option Bool:=bnd (QmO l) fun r=>some (eqI (lenI r) 0)
noncomputable def QfI (p:Qam) (t:Int):Option Int:=some (subK .i64 p.t t)
noncomputable def QaH (x0:List Qam) (target:Int) (i:Int) (j:Int):Option ((Int×Int)⊕(Int)):=br (ltI i j) (bnd (getI x0 (cvK .i64 (shrK .u64 (cvK .u64 (addK .i64 i j)) 1))) fun x1=>bnd (QfI x1 target) fun r=>br (ltI r 0) (some (.inl ((addK .i64 (cvK .i64 (shrK .u64 (cvK .u64 (addK .i64 i j)) 1)) 1),j))) (some (.inl (i,(cvK .i64 (shrK .u64 (cvK .u64 (addK .i64 i j)) 1)))))) (some (.inr i))
noncomputable def Qa0 (x0:List Qam) (target:Int):Option (Int×Bool):=bnd (loopF (fun s=>QaH x0 target s.1 s.2) (0,(lenI x0))) (fun i1=>br (ltI i1 (lenI x0)) (bnd (getI x0 i1) fun x2=>bnd (QfI x2 target) fun r1=>some (i1,(eqI r1 0))) (some (i1,false)))
noncomputable def QkS (l:List Qam) (t:Int):Option Int:=bnd (Qa0 l t) fun r=>br r.2 (bnd (getI l r.1) fun x0=>some x0.a) (br (eqI r.1 0) (bnd (getI l 0) fun x1=>some (subK .i64 (addK .i64 t x1.a) x1.t)) (br (eqI r.1 (lenI l)) (bnd (getI l (subK .i64 r.1 1)) fun x2=>some (subK .i64 (addK .i64 t x2.a) x2.t)) (bnd (getI l (subK .i64 r.1 1)) fun x3=>bnd (getI l r.1) fun x4=>chk (((subK .i64 x4.t x3.t):Int)≠0) (some (addK .i64 x3.a (quoK .i64 (subK .i64 (addK .i64 (mulK .i64 (subK .i64 t x3.t) (subK .i64 x4.a x3.a)) (subK .i64 x4.t x3.t)) 1) (subK .i64 x4.t x3.t)))))))
noncomputable def QkR (l:List Qam) (t:Int):Option Int:=bnd (Qf8 t 0 1073741824) fun r=>br r (bnd (QmP l) fun r1=>br r1 (bnd (QkS l t) fun r2=>some r2) (some 0)) (some 0)
noncomputable def QhA (a:Qaq) (t:Int) (out:Int) (v:Int):Option ((Int×Int)⊕(Int)):=br (ltI v (lenI a.slow)) (bnd (getI a.slow v) fun x0=>br (leI x0.t t) (some (.inl ((addK .i64 out x0.a),(addK .i64 v 1)))) (some (.inl (out,(addK .i64 v 1))))) (some (.inr out))
noncomputable def QhX (a:Qaq) (t:Int):Option Int:=bnd (QkR a.travel t) fun r=>bnd (loopF (fun s=>QhA a t s.1 s.2) (r,0)) (fun out1=>some out1)
noncomputable def Qoc (n:Qak) (profile:Int) (from_:Int) (to_:Int) (t:Int):Option (Int×Int×Int):=bnd (QiB n from_) fun r=>br r (bnd (QiB n to_) fun r1=>br r1 (br (eqI from_ to_) (some (t,0,0)) (bnd (Qmz n profile from_ to_) fun r2=>br r2.2 (bnd (QhX r2.1 t) fun r3=>some (r3,r2.1.miles,0)) (some (0,0,12)))) (some (0,0,11))) (some (0,0,11))
noncomputable def QfO (p:Qaw) (visits:Int):Option Int:=br (eqI visits 0) (some p.t.from_) (bnd (getI p.stops (subK .i64 visits 1)) fun x0=>some x0.place)
noncomputable def QoE (s0:Qau) (arrive:Int):Option (Int×Int):=br (gtI (maxI arrive s0.open_) s0.close) (some (0,14)) (some ((maxI arrive s0.open_),0))
noncomputable def Qbt (s0:List Qap):Option (List Qap):=br (List.isEmpty s0) (amb (some []) (chk (okN s0.length 32) (some s0))) (chk (okN s0.length 32) (some s0))
noncomputable def QeF (p:Qaw) (l:Qaf) (depart:Int) (since:Int) (rest_1:Bool) (depart1:Int) (r2:Int×Int×Int) (l2:List Qap) (ready:Int) (end_:Int):Option (Qaf×Int):=br (gtI (subK .i64 (addK .i64 since r2.1) depart) p.t.drive) (some ((Qaf.mk 0 0 (Qan.mk false 0 [] 0 0)),16)) (some ((Qaf.mk ready (subK .i64 (addK .i64 since r2.1) depart) (Qan.mk rest_1 depart1 l2 end_ (addK .i64 l.sheet.miles r2.2.1))),0))
noncomputable def QdB (p:Qaw) (l:Qaf) (done:Int) (depart:Int) (since:Int) (l1:List Qap) (rest_1:Bool) (depart1:Int) (to_:Int):Option (Qaf×Int):=bnd (QfO p done) fun r1=>bnd (Qoc p.x.net p.t.profile r1 to_ depart) fun r2=>br (neI r2.2.2 0) (some ((Qaf.mk 0 0 (Qan.mk false 0 [] 0 0)),12)) (br (eqI done (lenI p.stops)) (br (gtI r2.1 p.t.close) (some ((Qaf.mk 0 0 (Qan.mk false 0 [] 0 0)),15)) (QeF p l depart since rest_1 depart1 r2 l1 r2.1 r2.1)) (bnd (getI p.stops done) fun x2=>bnd (QoE x2 r2.1) fun r3=>br (neI r3.2 0) (some ((Qaf.mk 0 0 (Qan.mk false 0 [] 0 0)),14)) (chk (okN (l1++[(Qap.mk r2.1 r3.1 0 false)]).length 32) (QeF p l depart since rest_1 depart1 r2 (l1++[(Qap.mk r2.1 r3.1 0 false)]) (addK .i64 r3.1 x2.service) l.sheet.end_))))
noncomputable def QeE (p:Qaw) (l:Qaf) (done:Int) (depart:Int) (since:Int) (l1:List Qap) (rest_1:Bool) (depart1:Int):Option (Qaf×Int):=br (eqI done (lenI p.stops)) (QdB p l done depart since l1 rest_1 depart1 p.t.to_) (bnd (getI p.stops done) fun x1=>QdB p l done depart since l1 rest_1 depart1 x1.place)
noncomputable def QeD (p:Qaw) (l:Qaf) (done:Int) (rest_:Bool) (depart:Int) (since:Int):Option (Qaf×Int):=bnd (Qbt l.sheet.times) fun r=>br (eqI done 0) (QeE p l done depart since r rest_ depart) (bnd (getI r (subK .i64 done 1)) fun x0=>QeE p l done depart since (setI (setI r (subK .i64 done 1) (Qap.mk x0.arrive x0.begin x0.depart rest_)) (subK .i64 done 1) (Qap.mk x0.arrive x0.begin depart rest_)) l.sheet.rest_ l.sheet.depart)
noncomputable def Qey (p:Qaw) (l:Qaf) (done:Int) (rest_:Bool):Option (Qaf×Int):=br rest_ (QeD p l done rest_ (addK .i64 l.ready p.t.rest_) 0) (QeD p l done rest_ l.ready l.since)
noncomputable def QkU (l:Qaf) (m:Qaf):Option Bool:=some ((eqI l.ready m.ready)&&(leI l.since m.since))
noncomputable def Qgq (m:Qaf) (c:Qaf):Option Bool:=bnd (QkU m c) fun r=>some r
noncomputable def Qav (s0:List Qaf) (c:Qaf) (v:Int):Option ((Int)⊕((Unit)⊕(Int))):=br (ltI v (lenI s0)) (bnd (getI s0 v) fun x0=>bnd (Qgq x0 c) fun r=>br r (some (.inr (.inr v))) (some (.inl (addK .i64 v 1)))) (some (.inr (.inl ())))
noncomputable def Qbd (s0:List Qaf) (c:Qaf):Option Int:=bnd (loopF (fun s=>Qav s0 c s) 0) (fun e=>sel e (fun (_:Unit)=>some (-1)) (fun r1=>some r1))
noncomputable def QaM (s0:List Qaf) (c:Qaf):Option Bool:=bnd (Qbd s0 c) fun r=>some (geI r 0)
noncomputable def Qcf (p:Qaw) (l:List Qaf) (done:Int) (choices:List Bool) (v:Int) (x0:Qaf) (l3:List Qaf) (v1:Int):Option ((List Qaf×Int)⊕(List Qaf)):=br (ltI v1 (lenI choices)) (bnd (getI choices v1) fun x1=>bnd (Qey p x0 done x1) fun r=>br (eqI r.2 0) (bnd (QaM l3 r.1) fun r1=>br r1 (some (.inl (l3,(addK .i64 v1 1)))) (chk (okN (l3++[r.1]).length 72) (some (.inl ((l3++[r.1]),(addK .i64 v1 1)))))) (some (.inl (l3,(addK .i64 v1 1))))) (some (.inr l3))
noncomputable def Qce (p:Qaw) (l:List Qaf) (done:Int) (choices:List Bool) (l2:List Qaf) (v:Int):Option ((List Qaf×Int)⊕(List Qaf)):=br (ltI v (lenI l)) (bnd (getI l v) fun x0=>bnd (loopF (fun s=>Qcf p l done choices v x0 s.1 s.2) (l2,0)) (fun l4=>some (.inl (l4,(addK .i64 v 1))))) (some (.inr l2))
noncomputable def QeC (p:Qaw) (l:List Qaf) (done:Int) (choices:List Bool):Option (List Qaf):=bnd (loopF (fun s=>Qce p l done choices s.1 s.2) ([],0)) (fun l5=>some l5)
noncomputable def Qfx (p:Qaw) (l:List Qaf) (done:Int):Option (List Qaf):=br (ltI done (lenI p.r.rests)) (bnd (slcI p.r.rests done (addK .i64 done 1)) fun l1=>QeC p l done l1) (QeC p l done [false,true])
noncomputable def Qe8 (p:Qaw) (rests:List Bool) (r:Qaf) (rest_:Int) (x0:Qaf) (v:Int):Option ((Int×Qaf×Int)⊕((Qaf)⊕(Qan×Int))):=br (ltI v (lenI rests)) (bnd (getI rests v) fun x1=>bnd (Qey (Qaw.mk p.x (Qai.mk p.t.name p.t.count p.t.from_ p.t.to_ p.t.cap p.t.skills p.t.profile p.t.open_ p.t.close p.t.drive rest_ p.t.fixed p.t.perMile p.t.perTick) p.r p.stops) x0 v x1) fun r1=>br (neI r1.2 0) (some (.inr (.inr ((Qan.mk false 0 [] 0 0),r1.2)))) (some (.inl (rest_,r1.1,(addK .i64 v 1))))) (some (.inr (.inl x0)))
noncomputable def Qf9 (p:Qaw) (rests:List Bool):Option (Qan×Int):=bnd (Qc5 p) fun r=>bnd (loopF (fun s=>Qe8 p rests r s.1 s.2.1 s.2.2) (p.t.rest_,r,0)) (fun e=>sel e (fun x2=>some (x2.sheet,0)) (fun r2=>some r2))
noncomputable def QdU (r:Qad) (r1:Qaw×Bool) (l:List Qaf) (v:Int):Option ((List Qaf×Int)⊕(List Qaf)):=br (ltI v (addK .i64 (lenI r.visits) 1)) (bnd (Qfx r1.1 l v) fun r3=>some (.inl (r3,(addK .i64 v 1)))) (some (.inr l))
noncomputable def Qdr (l3:List Qaf) (x2:Qaf) (v1:Int):Option ((Qaf×Int)⊕(Qaf)):=br (ltI v1 (lenI l3)) (bnd (getI l3 v1) fun x3=>br (ltI x3.sheet.end_ x2.sheet.end_) (some (.inl (x3,(addK .i64 v1 1)))) (some (.inl (x2,(addK .i64 v1 1))))) (some (.inr x2))
noncomputable def QnD (x0:Qac) (r:Qad):Option (Qan×Int):=bnd (QnE x0 r) fun r1=>br ((!r1.2)||(gtI (lenI r.rests) (addK .i64 (lenI r.visits) 1))) (some ((Qan.mk false 0 [] 0 0),2)) (bnd (Qc5 r1.1) fun r2=>bnd (loopF (fun s=>QdU r r1 s.1 s.2) ([r2],0)) (fun l1=>br (eqI (lenI l1) 0) (bnd (mkI (addK .i64 (lenI r.visits) 1) (addK .i64 (lenI r.visits) 1) 1 false) fun l2=>bnd (Qf9 r1.1 (cpyL l2 r.rests)) fun r4=>some (r4.1,r4.2)) (bnd (getI l1 0) fun x1=>bnd (slcI l1 1 (lenI l1)) fun l3=>bnd (loopF (fun s=>Qdr l3 s.1 s.2) (x1,0)) (fun x4=>some (x4.sheet,0)))))
noncomputable def QkO (kind:Int) (own:Int):Option Bool:=some ((neI kind (-1))&&(neI kind own))
noncomputable def Qi1 (x0:Qac) (r:Qad) (s0:Qan) (x1:Qai) (l:List (Int×Int)) (other:Int) (v:Int) (x2:Qaa) (x3:Qag) (moved1:Int):Option ((List (Int×Int)×Int×Int×Int)⊕(Int×Int)):=bnd (QkO x3.last_ r.type_) fun r2=>br r2 (some (.inl ((mPut eqI l x2.order (addK .i64 (mGet eqI l x2.order 0) 1)),moved1,(addK .i64 other 1),(addK .i64 v 1)))) (some (.inl ((mPut eqI l x2.order (addK .i64 (mGet eqI l x2.order 0) 1)),moved1,other,(addK .i64 v 1))))
noncomputable def QdQ (x0:Qac) (r:Qad) (s0:Qan) (x1:Qai) (l:List (Int×Int)) (moved:Int) (other:Int) (v:Int):Option ((List (Int×Int)×Int×Int×Int)⊕(Int×Int)):=br (ltI v (lenI r.visits)) (bnd (getI r.visits v) fun x2=>br ((ltI x2.order 0)||(geI x2.order (lenI x0.orders))) (some (.inl ((mPut eqI l x2.order (addK .i64 (mGet eqI l x2.order 0) 1)),moved,other,(addK .i64 v 1)))) (br (gtI (mGet eqI (mPut eqI l x2.order (addK .i64 (mGet eqI l x2.order 0) 1)) x2.order 0) 1) (some (.inl ((mPut eqI l x2.order (addK .i64 (mGet eqI l x2.order 0) 1)),moved,other,(addK .i64 v 1)))) (bnd (getI x0.orders x2.order) fun x3=>bnd (QkO x3.now r.type_) fun r1=>br r1 (Qi1 x0 r s0 x1 l other v x2 x3 (addK .i64 moved 1)) (Qi1 x0 r s0 x1 l other v x2 x3 moved)))) (some (.inr (moved,other)))
noncomputable def Qoe (x0:Qac) (r:Qad) (s0:Qan):Option Qay:=br ((ltI r.type_ 0)||(geI r.type_ (lenI x0.types))) (some (Qay.mk 0 0 0 0)) (bnd (getI x0.types r.type_) fun x1=>bnd (loopF (fun s=>QdQ x0 r s0 x1 s.1 s.2.1 s.2.2.1 s.2.2.2) ([],0,0,0)) (fun e0=>(fun moved2 other1=>some (Qay.mk (addK .i64 (addK .i64 x1.fixed (mulK .i64 x1.perMile s0.miles)) (mulK .i64 x1.perTick (subK .i64 s0.end_ x1.open_))) moved2 other1 (mulK .i64 (quoK .i64 (subK .i64 s0.end_ x1.open_) 64) (quoK .i64 (subK .i64 s0.end_ x1.open_) 64)))) e0.1 e0.2))
noncomputable def Qgm (x0:Qac) (r:Qad):Option (Qan×Qay×Int):=br ((ltI r.type_ 0)||(geI r.type_ (lenI x0.types))) (some ((Qan.mk false 0 [] 0 0),(Qay.mk 0 0 0 0),2)) (bnd (QhD x0 r) fun r1=>br (neI r1 0) (some ((Qan.mk false 0 [] 0 0),(Qay.mk 0 0 0 0),r1)) (bnd (Qqh x0 r) fun r2=>br (neI r2 0) (some ((Qan.mk false 0 [] 0 0),(Qay.mk 0 0 0 0),r2)) (bnd (Qpn x0 r) fun r3=>br (neI r3 0) (some ((Qan.mk false 0 [] 0 0),(Qay.mk 0 0 0 0),r3)) (bnd (QnD x0 r) fun r4=>br (neI r4.2 0) (some ((Qan.mk false 0 [] 0 0),(Qay.mk 0 0 0 0),r4.2)) (bnd (Qoe x0 r r4.1) fun r5=>some (r4.1,r5,0))))))
noncomputable def Qof (s0:Qay):Option Qxz:=some (Qxz.mk s0.cost s0.moved s0.other s0.work)
noncomputable def Qhl (s0:Qay):Option (Int×Int):=bnd (Qof s0) fun r=>br (ltI r.x0 0) (some (0,2)) (br (ltI r.x1 0) (some (0,2)) (br (ltI r.x2 0) (some (0,2)) (br (ltI r.x3 0) (some (0,2)) (br ((((gtI s0.cost 1073741824)||(geI s0.moved 16))||(geI s0.other 16))||(geI s0.work 65536)) (some (0,4)) (some ((addK .i64 (mulK .i64 (addK .i64 (mulK .i64 (addK .i64 (mulK .i64 s0.cost 16) s0.moved) 16) s0.other) 65536) s0.work),0))))))
noncomputable def Qfc (x0:Qac) (r:Qad):Option (Int×Int):=bnd (Qgm x0 r) fun r1=>br (neI r1.2.2 0) (some (0,r1.2.2)) (bnd (Qhl r1.2.1) fun r2=>some (r2.1,r2.2))
noncomputable def QjR (x0:Qac) (order:Int):Option Int:=br ((ltI order 0)||(geI order (lenI x0.orders))) (some 2) (bnd (getI x0.orders order) fun x1=>br x1.off (some 9) (some 0))
noncomputable def QjP (v:Qaa) (c:Int):Option Bool:=some (eqI v.order c)
noncomputable def QaQ (s0:List Qaa) (c:Int) (v:Int):Option ((Int)⊕((Unit)⊕(Int))):=br (ltI v (lenI s0)) (bnd (getI s0 v) fun x0=>bnd (QjP x0 c) fun r=>br r (some (.inr (.inr v))) (some (.inl (addK .i64 v 1)))) (some (.inr (.inl ())))
noncomputable def Qbi (s0:List Qaa) (c:Int):Option Int:=bnd (loopF (fun s=>QaQ s0 c s) 0) (fun e=>sel e (fun (_:Unit)=>some (-1)) (fun r1=>some r1))
noncomputable def Qba (s0:List Qaa) (c:Int):Option Bool:=bnd (Qbi s0 c) fun r=>some (geI r 0)
noncomputable def Qil (r:Qad) (order:Int):Option Bool:=bnd (Qba r.visits order) fun r1=>some r1
noncomputable def Qbo (s0:List Qaa):Option (List Qaa):=br (List.isEmpty s0) (amb (some []) (chk (okN s0.length 16) (some s0))) (chk (okN s0.length 16) (some s0))
noncomputable def QdV (self:(List Qaa)→(List Qaa)→Int→Option (List (List Qaa))) (l:List Qaa) (more:List Qaa) (l1:List (List Qaa)) (at_:Int):Option ((List (List Qaa)×Int)⊕(List (List Qaa))):=br (leI at_ (lenI l)) (bnd (Qbo l) fun r=>bnd (getI more 0) fun x0=>bnd (insL 16 r at_ [x0]) fun r1=>bnd (slcI more 1 (lenI more)) fun l2=>bnd (self r1 l2 (addK .i64 at_ 1)) fun r2=>chk (okN (l1++r2).length 24) (some (.inl ((l1++r2),(addK .i64 at_ 1))))) (some (.inr l1))
noncomputable def Qfy (self:(List Qaa)→(List Qaa)→Int→Option (List (List Qaa))) (l:List Qaa) (more:List Qaa) (from_:Int):Option (List (List Qaa)):=br (eqI (lenI more) 0) (some [l]) (bnd (loopF (fun s=>QdV self l more s.1 s.2) ([],from_)) (fun l3=>some l3))
noncomputable def Qez:Nat→(List Qaa)→(List Qaa)→Int→Option (List (List Qaa))|0=>fun _ _ _=>none|n+1=>fun l more from_=>Qfy (Qez n) l more from_
noncomputable def Qm1 (l:List Qaa) (more:List Qaa) (from_:Int):Option (List (List Qaa)):=Qez QvA l more from_
noncomputable def QeO (v:Qaa):Option Int:=br v.drop (some 1) (some 0)
noncomputable def QdN (vals:List Int) (v:Int):Option ((Int)⊕((Unit)⊕(Int))):=br (ltI v (lenI vals)) (bnd (getI vals v) fun x0=>br (neI x0 0) (some (.inr (.inr x0))) (some (.inl (addK .i64 v 1)))) (some (.inr (.inl ())))
noncomputable def QnB (vals:List Int):Option Int:=bnd (loopF (fun s=>QdN vals s) 0) (fun e=>sel e (fun (_:Unit)=>some 0) (fun r=>some r))
noncomputable def QiE (x0:Int):Option Bool:=some (neI x0 x0)
noncomputable def QfM (x0:Int) (y:Int):Option Int:=bnd (QiE x0) fun r=>bnd (QiE y) fun r1=>br r (br r1 (some 0) (some (-1))) (br r1 (some 1) (br (ltI x0 y) (some (-1)) (br (gtI x0 y) (some 1) (some 0))))
noncomputable def Qhn (a:Qaa) (b:Qaa):Option Int:=bnd (QfM a.order b.order) fun r=>bnd (QeO a) fun r1=>bnd (QeO b) fun r2=>bnd (QfM r1 r2) fun r3=>bnd (QnB [r,r3]) fun r4=>some r4
noncomputable def Qar (s1:List Qaa) (s2:List Qaa) (v:Int):Option ((Int)⊕((Unit)⊕(Int))):=br (ltI v (lenI s1)) (bnd (getI s1 v) fun x0=>br (geI v (lenI s2)) (some (.inr (.inr 1))) (bnd (getI s2 v) fun x1=>bnd (Qhn x0 x1) fun r=>br (neI r 0) (some (.inr (.inr r))) (some (.inl (addK .i64 v 1))))) (some (.inr (.inl ())))
noncomputable def QaP (s1:List Qaa) (s2:List Qaa):Option Int:=bnd (loopF (fun s=>Qar s1 s2 s) 0) (fun e=>sel e (fun (_:Unit)=>br (ltI (lenI s1) (lenI s2)) (some (-1)) (some 0)) (fun r1=>some r1))
noncomputable def QkQ (a:List Qaa) (b:List Qaa):Option Bool:=bnd (QaP a b) fun r=>some (ltI r 0)
noncomputable def Qen (x0:Qac) (r4:List (List Qaa)) (x1:Qad) (type_:Int) (start:Int) (rests:List Bool) (visits:List Qaa) (least:Int) (v:Int):Option ((Qad×Int×Int×List Bool×List Qaa×Int×Int)⊕(Qad×Int)):=br (ltI v (lenI r4)) (bnd (getI r4 v) fun x2=>bnd (Qfc x0 (Qad.mk x1.type_ x1.start x1.rests x2)) fun r5=>br (eqI r5.2 0) (br ((ltI least 0)||(ltI r5.1 least)) (some (.inl (x1,x1.type_,x1.start,x1.rests,x2,r5.1,(addK .i64 v 1)))) (br (eqI r5.1 least) (bnd (QkQ x2 visits) fun r6=>br r6 (some (.inl (x1,x1.type_,x1.start,x1.rests,x2,r5.1,(addK .i64 v 1)))) (some (.inl (x1,type_,start,rests,visits,least,(addK .i64 v 1))))) (some (.inl (x1,type_,start,rests,visits,least,(addK .i64 v 1)))))) (some (.inl (x1,type_,start,rests,visits,least,(addK .i64 v 1))))) (some (.inr ((Qad.mk type_ start rests visits),least)))
noncomputable def QgA (x0:Qac) (r:Qad) (o:Int):Option (Qad×Int×Int):=br ((ltI r.type_ 0)||(geI r.type_ (lenI x0.types))) (some ((Qad.mk 0 0 [] []),0,2)) (bnd (QjR x0 o) fun r1=>br (neI r1 0) (some ((Qad.mk 0 0 [] []),0,r1)) (bnd (Qil r o) fun r2=>br r2 (some ((Qad.mk 0 0 [] []),0,6)) (bnd (Qgl x0.orders o) fun r3=>bnd (Qm1 r.visits r3 (lenI r.rests)) fun r4=>bnd (loopF (fun s=>Qen x0 r4 s.1 s.2.1 s.2.2.1 s.2.2.2.1 s.2.2.2.2.1 s.2.2.2.2.2.1 s.2.2.2.2.2.2) (r,0,0,[],[],(-1),0)) (fun e0=>(fun x3 least1=>br (ltI least1 0) (some ((Qad.mk 0 0 [] []),0,24)) (some (x3,least1,0))) e0.1 e0.2))))
noncomputable def QdR (s0:List Int) (v:Int) (v1:Int):Option ((Int)⊕((Unit)⊕(Int))):=br (ltI v1 (lenI s0)) (bnd (getI s0 v1) fun x0=>br (eqI v x0) (some (.inr (.inr v1))) (some (.inl (addK .i64 v1 1)))) (some (.inr (.inl ())))
noncomputable def QgM (s0:List Int) (v:Int):Option Int:=bnd (loopF (fun s=>QdR s0 v s) 0) (fun e=>sel e (fun (_:Unit)=>some (-1)) (fun r=>some r))
noncomputable def QfG (s0:List Int) (v:Int):Option Bool:=bnd (QgM s0 v) fun r=>some (geI r 0)
noncomputable def Qm0 (at_:Int) (r:Qad) (old:Int) (c:Qac) (c1:Int) (c2:Qao):Option (Qac×Int×Qao):=bnd (QgA c r c1) fun r1=>br ((eqI r1.2.2 0)&&((ltI c2.at_ 0)||(ltI (subK .i64 r1.2.1 old) c2.increase))) (some (c,c1,(Qao.mk at_ r1.1 (subK .i64 r1.2.1 old)))) (some (c,c1,c2))
noncomputable def QlS (x0:Qac) (p:Qas) (o:Int) (l:List Int) (l1:List Int) (l2:List Int) (v:Int):Option ((List Int×List Int×Int)⊕((List Int×List Int)⊕(Qao×Int))):=br (ltI v (lenI p.routes)) (bnd (getI p.routes v) fun x1=>bnd (Qfc x0 x1) fun r=>br (neI r.2 0) (some (.inr (.inr ((Qao.mk 0 (Qad.mk 0 0 [] []) 0),r.2)))) (chk (okN (l1++[r.1]).length 8) (bnd (getI l2 x1.type_) fun x2=>some (.inl ((l1++[r.1]),(setI l2 x1.type_ (addK .i64 x2 1)),(addK .i64 v 1)))))) (some (.inr (.inl (l1,l2))))
noncomputable def QiH (p:Qas) (l:List Int) (l3:List Int) (l4:List Int) (x3:Qac) (at_:Int) (type_:Int) (start:Int) (rests:List Bool) (visits:List Qaa) (increase:Int) (x4:Int) (v1:Int):Option ((Qac×Int×Int×Int×List Bool×List Qaa×Int×Int×Int)⊕(Qac×Qao×Int)):=br (ltI v1 (lenI p.routes)) (bnd (getI p.routes v1) fun x5=>bnd (getI l3 v1) fun x6=>bnd (Qm0 v1 x5 x6 x3 x4 (Qao.mk at_ (Qad.mk type_ start rests visits) increase)) fun r1=>some (.inl (r1.1,r1.2.2.at_,r1.2.2.route.type_,r1.2.2.route.start,r1.2.2.route.rests,r1.2.2.route.visits,r1.2.2.increase,r1.2.1,(addK .i64 v1 1)))) (some (.inr (x3,(Qao.mk at_ (Qad.mk type_ start rests visits) increase),x4)))
noncomputable def Qhs (p:Qas) (l:List Int) (l4:List Int) (x10:Qac) (x11:Qao) (x12:Int) (v2:Int) (v3:Int):Option ((Qac×Qao×Int×Int×Int)⊕(Qao)):=br (ltI v3 v2) (bnd (getI l4 v3) fun x13=>bnd (getI x10.types v3) fun x14=>br (ltI x13 x14.count) (bnd (Qm0 (lenI p.routes) (Qad.mk v3 0 [] []) 0 x10 x12 x11) fun r2=>some (.inl (r2.1,r2.2.2,r2.2.1,v2,(addK .i64 v3 1)))) (some (.inl (x10,x11,x12,v2,(addK .i64 v3 1))))) (some (.inr x11))
noncomputable def Qsk (x0:Qac) (p:Qas) (o:Int):Option (Qao×Int):=bnd (mkI (lenI x0.types) (lenI x0.types) 8 0) fun l=>bnd (loopF (fun s=>QlS x0 p o l s.1 s.2.1 s.2.2) ([],l,0)) (fun e=>sel e (fun e0=>(fun l3 l4=>bnd (loopF (fun s=>QiH p l l3 l4 s.1 s.2.1 s.2.2.1 s.2.2.2.1 s.2.2.2.2.1 s.2.2.2.2.2.1 s.2.2.2.2.2.2.1 s.2.2.2.2.2.2.2.1 s.2.2.2.2.2.2.2.2) (x0,(-1),0,0,[],[],0,o,0)) (fun e0=>(fun x7 x8 x9=>bnd (loopF (fun s=>Qhs p l l4 s.1 s.2.1 s.2.2.1 s.2.2.2.1 s.2.2.2.2) (x7,x8,x9,(lenI x7.types),0)) (fun x15=>br (ltI x15.at_ 0) (some ((Qao.mk 0 (Qad.mk 0 0 [] []) 0),24)) (some (x15,0)))) e0.1 e0.2.1 e0.2.2)) e0.1 e0.2) (fun r3=>some r3))
noncomputable def QoB (x0:Qac) (order:Int):Option (Qay×Int):=br ((ltI order 0)||(geI order (lenI x0.orders))) (some ((Qay.mk 0 0 0 0),2)) (bnd (getI x0.orders order) fun x1=>br x1.off (some ((Qay.mk 0 0 0 0),9)) (br (eqI x1.penalty (-1)) (some ((Qay.mk 0 0 0 0),23)) (br (neI x1.now (-1)) (some ((Qay.mk x1.penalty 1 0 0),0)) (some ((Qay.mk x1.penalty 0 0 0),0)))))
noncomputable def Qrn (x0:Qac) (o:Int) (increase:Int):Option Bool:=bnd (getI x0.orders o) fun x1=>br (eqI x1.penalty (-1)) (some true) (bnd (QoB x0 o) fun r=>br (neI r.2 0) (some false) (bnd (Qhl r.1) fun r1=>some ((eqI r1.2 0)&&(ltI increase r1.1))))
noncomputable def QcR (s0:List Qad):Option (List Qad):=br (List.isEmpty s0) (amb (some []) (chk (okN s0.length 64) (some s0))) (chk (okN s0.length 64) (some s0))
noncomputable def QlU (p:Qas) (c:Qao) (o:Int) (l:List Qad) (l1:List Int) (v:Int):Option ((List Int×Int)⊕(List Int)):=br (ltI v (lenI p.unserved)) (bnd (getI p.unserved v) fun x1=>br (neI x1 o) (chk (okN (l1++[x1]).length 8) (some (.inl ((l1++[x1]),(addK .i64 v 1))))) (some (.inl (l1,(addK .i64 v 1))))) (some (.inr l1))
noncomputable def QlT (p:Qas) (c:Qao) (o:Int) (l:List Qad):Option Qas:=bnd (loopF (fun s=>QlU p c o l s.1 s.2) ([],0)) (fun l2=>some (Qas.mk l l2))
noncomputable def Qsm (p:Qas) (c:Qao) (o:Int):Option Qas:=bnd (QcR p.routes) fun r=>br (ltI c.at_ (lenI r)) (bnd (getI r c.at_) fun x0=>QlT p c o (setI r c.at_ c.route)) (chk (okN (r++[c.route]).length 64) (QlT p c o (r++[c.route])))
noncomputable def Qnu (r:Qad) (c:Int):Option Bool:=bnd (Qil r c) fun r1=>some r1
noncomputable def Qbb (s0:List Qad) (c:Int) (v:Int):Option ((Int)⊕((Unit)⊕(Int))):=br (ltI v (lenI s0)) (bnd (getI s0 v) fun x0=>bnd (Qnu x0 c) fun r=>br r (some (.inr (.inr v))) (some (.inl (addK .i64 v 1)))) (some (.inr (.inl ())))
noncomputable def QbM (s0:List Qad) (c:Int):Option Int:=bnd (loopF (fun s=>Qbb s0 c s) 0) (fun e=>sel e (fun (_:Unit)=>some (-1)) (fun r1=>some r1))
noncomputable def Qby (s0:List Qad) (c:Int):Option Bool:=bnd (QbM s0 c) fun r=>some (geI r 0)
noncomputable def QpF (p:Qas) (o:Int):Option Bool:=bnd (Qby p.routes o) fun r=>some r
noncomputable def QiG (x0:Qac) (list_:List Int) (v:Int):Option ((Int)⊕((Unit)⊕(Qas×Int))):=br (ltI v (lenI list_)) (bnd (getI list_ v) fun x1=>br ((ltI x1 0)||(geI x1 (lenI x0.orders))) (some (.inr (.inr ((Qas.mk [] []),2)))) (bnd (slcI list_ 0 v) fun l=>bnd (QfG l x1) fun r=>br r (some (.inr (.inr ((Qas.mk [] []),6)))) (some (.inl (addK .i64 v 1))))) (some (.inr (.inl ())))
noncomputable def Qg4 (x0:Qac) (list_:List Int) (routes:List Qad) (unserved:List Int) (v1:Int):Option ((List Qad×List Int×Int)⊕(List Qad×List Int)):=br (ltI v1 (lenI list_)) (bnd (getI list_ v1) fun x2=>bnd (getI x0.orders x2) fun x3=>br x3.off (some (.inl (routes,unserved,(addK .i64 v1 1)))) (bnd (Qsk x0 (Qas.mk routes unserved) x2) fun r1=>br (eqI r1.2 0) (bnd (Qrn x0 x2 r1.1.increase) fun r2=>br r2 (bnd (Qsm (Qas.mk routes unserved) r1.1 x2) fun r3=>some (.inl (r3.routes,r3.unserved,(addK .i64 v1 1)))) (some (.inl (routes,unserved,(addK .i64 v1 1))))) (some (.inl (routes,unserved,(addK .i64 v1 1)))))) (some (.inr (routes,unserved)))
noncomputable def QfP (x0:Qac) (routes1:List Qad) (l1:List Int) (v2:Int):Option ((List Int×Int)⊕((List Int)⊕(Qas×Int))):=br (ltI v2 (lenI x0.orders)) (bnd (getI x0.orders v2) fun x4=>br x4.off (some (.inl (l1,(addK .i64 v2 1)))) (bnd (QpF (Qas.mk routes1 l1) v2) fun r4=>br r4 (some (.inl (l1,(addK .i64 v2 1)))) (br (eqI x4.penalty (-1)) (some (.inr (.inr ((Qas.mk [] []),24)))) (chk (okN (l1++[v2]).length 8) (some (.inl ((l1++[v2]),(addK .i64 v2 1)))))))) (some (.inr (.inl l1)))
noncomputable def QpA (x0:Qac) (list_:List Int):Option (Qas×Int):=bnd (loopF (fun s=>QiG x0 list_ s) 0) (fun e=>sel e (fun (_:Unit)=>bnd (loopF (fun s=>Qg4 x0 list_ s.1 s.2.1 s.2.2) ([],[],0)) (fun e0=>(fun routes1 unserved1=>bnd (loopF (fun s=>QfP x0 routes1 s.1 s.2) ([],0)) (fun e=>sel e (fun l2=>some ((Qas.mk routes1 l2),0)) (fun r5=>some r5))) e0.1 e0.2)) (fun r6=>some r6))
noncomputable def Qga (l:List Qaq) (v:Int):Option ((List Qaq×Int)⊕(List Qaq)):=br (ltI v (lenI [(Qfd.mk 0 1 10),(Qfd.mk 1 0 10),(Qfd.mk 0 2 20),(Qfd.mk 2 0 20),(Qfd.mk 1 2 10),(Qfd.mk 2 1 10)])) (bnd (getI [(Qfd.mk 0 1 10),(Qfd.mk 1 0 10),(Qfd.mk 0 2 20),(Qfd.mk 2 0 20),(Qfd.mk 1 2 10),(Qfd.mk 2 1 10)] v) fun x0=>chk (okN (l++[(Qaq.mk x0.x0 x0.x1 0 x0.x2 [(Qam.mk 0 x0.x2)] [])]).length 80) (some (.inl ((l++[(Qaq.mk x0.x0 x0.x1 0 x0.x2 [(Qam.mk 0 x0.x2)] [])]),(addK .i64 v 1))))) (some (.inr l))
noncomputable def QeS (l1:List Qaq) (l2:List Qag) (v1:Int):Option ((List Qag×Int)⊕(List Qag)):=br (ltI v1 (lenI [Qsw,Qsx])) (bnd (getI [Qsw,Qsx] v1) fun x1=>chk (okN (l2++[(Qag.mk x1 [1] (Qau.mk (-1) 0 0 0) (Qau.mk (addK .i64 v1 1) 0 90 0) 0 30 1 (-1) (-1) false)]).length 152) (some (.inl ((l2++[(Qag.mk x1 [1] (Qau.mk (-1) 0 0 0) (Qau.mk (addK .i64 v1 1) 0 90 0) 0 30 1 (-1) (-1) false)]),(addK .i64 v1 1))))) (some (.inr l2))
noncomputable def QkV:Option Qac:=bnd (loopF (fun s=>Qga s.1 s.2) ([],0)) (fun l1=>bnd (loopF (fun s=>QeS l1 s.1 s.2) ([],0)) (fun l3=>some (Qac.mk (Qak.mk [Qgz,Qk0,Qk1] l1) [(Qai.mk Qqj 1 0 0 [2] 0 0 0 100 100 0 0 1 0)] l3 [] [])))
noncomputable def QbV:Option Bool:=bnd (QkV) fun r=>bnd (QgA r (Qad.mk 0 0 [] [(Qaa.mk 1 true)]) 0) fun r1=>bnd (QgA r (Qad.mk 0 0 [false] [(Qaa.mk 1 true)]) 0) fun r2=>bnd (QpA r [0,1]) fun r3=>bnd (QgA r (Qad.mk 0 0 [] []) 2) fun r4=>br (((((((neI r1.2.2 0)||(neI r2.2.2 0))||(neI r3.2 0))||(neI r4.2.2 2))||(neI (lenI r1.1.visits) 2))||(neI (lenI r2.1.visits) 2))||(neI (lenI r3.1.routes) 1)) (some false) (bnd (getI r1.1.visits 0) fun x0=>br ((eqI x0.order 0&&(eqB x0.drop true&&true))&&(eqI r1.2.1 671088640)) (bnd (getI r2.1.visits 0) fun x1=>br (eqI x1.order 1&&(eqB x1.drop true&&true)) (bnd (getI r2.1.visits 1) fun x2=>br (eqI x2.order 0&&(eqB x2.drop true&&true)) (bnd (getI r3.1.routes 0) fun x3=>some ((eqI (lenI x3.visits) 2)&&(eqI (lenI r3.1.unserved) 0))) (some false)) (some false)) (some false))
noncomputable def Qh7 (x0:Qac) (order:Int):Option Bool:=some ((geI order 0)&&(ltI order (lenI x0.orders)))
noncomputable def Qf4 (r:Qad) (order:Int) (i:Int):Option ((Int)⊕((Unit)⊕(Bool))):=br (ltI i (lenI r.visits)) (bnd (getI r.visits i) fun x0=>br (eqI x0.order order) (some (.inr (.inr true))) (some (.inl (addK .i64 i 1)))) (some (.inr (.inl ())))
noncomputable def QkK (r:Qad) (order:Int):Option Bool:=bnd (loopF (fun s=>Qf4 r order s) 0) (fun e=>sel e (fun (_:Unit)=>some false) (fun r1=>some r1))
noncomputable def QdD (l:List Qag) (at_:Int) (l1:List Qaa):Option (List Qaa):=bnd (getI l at_) fun x1=>br (geI x1.drop.place 0) (chk (okN (l1++[(Qaa.mk at_ true)]).length 16) (some (l1++[(Qaa.mk at_ true)]))) (some l1)
noncomputable def Qgu (l:List Qag) (at_:Int):Option (List Qaa):=bnd (QbH at_ 0 (subK .i64 (lenI l) 1)) fun r=>br r (bnd (getI l at_) fun x0=>br (geI x0.pick.place 0) (chk (okN [(Qaa.mk at_ false)].length 16) (QdD l at_ [(Qaa.mk at_ false)])) (QdD l at_ [])) (some [])
noncomputable def Qc7 (l:List Qaa) (at_:Int) (v:Qaa):Option (List Qaa):=bnd (slcI l 0 at_) fun l1=>chk (okN l1.length 16) (chk (okN (l1++[v]).length 16) (bnd (slcI l at_ (lenI l)) fun l2=>chk (okN ((l1++[v])++l2).length 16) (some ((l1++[v])++l2))))
noncomputable def QiZ (s0:Qay):Option Bool:=some ((((((((geI s0.cost 0)&&(leI s0.cost 1073741824))&&(geI s0.moved 0))&&(leI s0.moved 15))&&(geI s0.other 0))&&(leI s0.other 15))&&(geI s0.work 0))&&(leI s0.work 65535))
noncomputable def Qgx (s0:Qay):Option (Int×Int):=br ((((ltI s0.cost 0)||(ltI s0.moved 0))||(ltI s0.other 0))||(ltI s0.work 0)) (some (0,2)) (bnd (QiZ s0) fun r=>br r (some ((addK .i64 (mulK .i64 (addK .i64 (mulK .i64 (addK .i64 (mulK .i64 s0.cost 16) s0.moved) 16) s0.other) 65536) s0.work),0)) (some (0,4)))
noncomputable def QdO (set_:Int) (i:Int):Option Bool:=br (((geI set_ 0)&&(geI i 0))&&(leI i 62)) (chk ((0:Int)≤(cvK .u64 i)) (some (eqI (remK (shrK .i64 set_ (cvK .u64 i)) 2) 1))) (some false)
noncomputable def QdF (r:Qad) (set_:Int) (i:Int):Option ((Int×Int)⊕((Int)⊕(Int×Int))):=br (ltI i (lenI r.visits)) (bnd (getI r.visits i) fun x0=>br ((ltI x0.order 0)||(gtI x0.order 62)) (some (.inr (.inr (0,2)))) (bnd (QdO set_ x0.order) fun r1=>br r1 (some (.inl (set_,(addK .i64 i 1)))) (chk ((0:Int)≤(cvK .u64 x0.order)) (some (.inl ((addK .i64 set_ (shlK .i64 1 (cvK .u64 x0.order))),(addK .i64 i 1))))))) (some (.inr (.inl set_)))
noncomputable def Qe9 (r:Qad):Option (Int×Int):=bnd (loopF (fun s=>QdF r s.1 s.2) (0,0)) (fun e=>sel e (fun set_1=>some (set_1,0)) (fun r2=>some r2))
noncomputable def Qcn (l:List Qaa) (v:Qaa) (i:Int):Option ((Int)⊕((Unit)⊕(Int))):=br (ltI i (lenI l)) (bnd (getI l i) fun x0=>br (eqI x0.order v.order&&(eqB x0.drop v.drop&&true)) (some (.inr (.inr i))) (some (.inl (addK .i64 i 1)))) (some (.inr (.inl ())))
noncomputable def QcB (l:List Qaa) (v:Qaa):Option Int:=bnd (loopF (fun s=>Qcn l v s) 0) (fun e=>sel e (fun (_:Unit)=>some (-1)) (fun r=>some r))
noncomputable def QdG (x0:Qac) (order:Int) (l:List Qaa):Option (List Qaa):=bnd (getI x0.orders order) fun x2=>br (neI x2.drop.place (-1)) (chk (okN (l++[(Qaa.mk order true)]).length 16) (some (l++[(Qaa.mk order true)]))) (some l)
noncomputable def Qgw (x0:Qac) (order:Int):Option (List Qaa):=bnd (getI x0.orders order) fun x1=>br (neI x1.pick.place (-1)) (chk (okN [(Qaa.mk order false)].length 16) (QdG x0 order [(Qaa.mk order false)])) (QdG x0 order [])
noncomputable def QbJ (l:List Qaa) (some_:List Qaa) (i:Int):Option ((Int)⊕((Unit)⊕(Bool))):=br (ltI i (lenI some_)) (bnd (getI some_ i) fun x0=>bnd (QcB l x0) fun r=>br (ltI r 0) (some (.inr (.inr false))) (some (.inl (addK .i64 i 1)))) (some (.inr (.inl ())))
noncomputable def Qfq (l:List Qaa) (some_:List Qaa):Option Bool:=bnd (loopF (fun s=>QbJ l some_ s) 0) (fun e=>sel e (fun (_:Unit)=>some true) (fun r1=>some r1))
noncomputable def Qca (x0:Qac) (l:List Qaa) (i:Int):Option ((Int)⊕((Unit)⊕(Bool))):=br (ltI i (lenI l)) (bnd (getI l i) fun x1=>bnd (Qgw x0 x1.order) fun r=>bnd (QcB r x1) fun r1=>br (ltI r1 0) (some (.inr (.inr false))) (bnd (Qfq l r) fun r2=>br r2 (br (eqI (lenI r) 2) (bnd (getI r 0) fun x2=>bnd (QcB l x2) fun r3=>bnd (getI r 1) fun x3=>bnd (QcB l x3) fun r4=>br (gtI r3 r4) (some (.inr (.inr false))) (some (.inl (addK .i64 i 1)))) (some (.inl (addK .i64 i 1)))) (some (.inr (.inr false))))) (some (.inr (.inl ())))
noncomputable def Qdt (x0:Qac) (l:List Qaa):Option Bool:=bnd (loopF (fun s=>Qca x0 l s) 0) (fun e=>sel e (fun (_:Unit)=>some true) (fun r5=>some r5))
noncomputable def Qco (x0:Qac) (set_:Int) (i:Int):Option ((Int)⊕((Unit)⊕(Bool))):=br (ltI i (lenI x0.apart)) (bnd (getI x0.apart i) fun x1=>bnd (QdO set_ x1.x0) fun r=>br r (bnd (QdO set_ x1.x1) fun r1=>br r1 (some (.inr (.inr false))) (some (.inl (addK .i64 i 1)))) (some (.inl (addK .i64 i 1)))) (some (.inr (.inl ())))
noncomputable def QdY (x0:Qac) (set_:Int):Option Bool:=bnd (loopF (fun s=>Qco x0 set_ s) 0) (fun e=>sel e (fun (_:Unit)=>some true) (fun r2=>some r2))
noncomputable def Qb9 (x0:Qac) (set_:Int) (l:List Qaa) (i:Int) (x1:QaO) (j:Int) (k:Int):Option ((Int)⊕((Unit)⊕(Bool))):=br (ltI k j) (bnd (getI l j) fun x2=>br (eqI x2.order x1.x0) (bnd (getI l k) fun x3=>br (eqI x3.order x1.x1) (some (.inr (.inr false))) (some (.inl (addK .i64 k 1)))) (some (.inl (addK .i64 k 1)))) (some (.inr (.inl ())))
noncomputable def Qb8 (x0:Qac) (set_:Int) (l:List Qaa) (i:Int) (x1:QaO) (j:Int):Option ((Int)⊕((Unit)⊕(Bool))):=br (ltI j (lenI l)) (bnd (loopF (fun s=>Qb9 x0 set_ l i x1 j s) 0) (fun e=>sel e (fun (_:Unit)=>some (.inl (addK .i64 j 1))) (fun r2=>some (.inr (.inr r2))))) (some (.inr (.inl ())))
noncomputable def Qb7 (x0:Qac) (set_:Int) (l:List Qaa) (i:Int):Option ((Int)⊕((Unit)⊕(Bool))):=br (ltI i (lenI x0.before)) (bnd (getI x0.before i) fun x1=>bnd (QdO set_ x1.x1) fun r=>br r (bnd (QdO set_ x1.x0) fun r1=>br r1 (bnd (loopF (fun s=>Qb8 x0 set_ l i x1 s) 0) (fun e=>sel e (fun (_:Unit)=>some (.inl (addK .i64 i 1))) (fun r3=>some (.inr (.inr r3))))) (some (.inr (.inr false)))) (some (.inl (addK .i64 i 1)))) (some (.inr (.inl ())))
noncomputable def Qds (x0:Qac) (set_:Int) (l:List Qaa):Option Bool:=bnd (loopF (fun s=>Qb7 x0 set_ l s) 0) (fun e=>sel e (fun (_:Unit)=>some true) (fun r4=>some r4))
noncomputable def Qcm (x0:Qac) (r:Qad) (i:Int):Option ((Int)⊕((Unit)⊕(Int))):=br (ltI i (lenI r.visits)) (bnd (getI r.visits i) fun x1=>br (ltI x1.order 0) (some (.inr (.inr 2))) (br (geI x1.order (lenI x0.orders)) (some (.inr (.inr 2))) (some (.inl (addK .i64 i 1))))) (some (.inr (.inl ())))
noncomputable def QbY (x0:Qac) (r:Qad) (r1:Int×Int) (i1:Int):Option ((Int)⊕((Unit)⊕(Int))):=br (ltI i1 (lenI r.visits)) (bnd (getI r.visits i1) fun x2=>bnd (getI x0.orders x2.order) fun x3=>br x3.off (some (.inr (.inr 9))) (some (.inl (addK .i64 i1 1)))) (some (.inr (.inl ())))
noncomputable def QbI (x0:Qac) (r:Qad) (r1:Int×Int) (i2:Int):Option ((Int)⊕((Unit)⊕(Int))):=br (ltI i2 (lenI r.visits)) (bnd (getI r.visits i2) fun x4=>bnd (QcB r.visits x4) fun r2=>br (neI r2 i2) (some (.inr (.inr 6))) (some (.inl (addK .i64 i2 1)))) (some (.inr (.inl ())))
noncomputable def Qf0 (x0:Qac) (r:Qad):Option Int:=bnd (loopF (fun s=>Qcm x0 r s) 0) (fun e=>sel e (fun (_:Unit)=>bnd (Qe9 r) fun r1=>br ((neI r1.2 0)||(eqI (lenI r.visits) 0)) (some 2) (bnd (loopF (fun s=>QbY x0 r r1 s) 0) (fun e=>sel e (fun (_:Unit)=>bnd (loopF (fun s=>QbI x0 r r1 s) 0) (fun e=>sel e (fun (_:Unit)=>bnd (Qdt x0 r.visits) fun r3=>br r3 (bnd (QdY x0 r1.1) fun r4=>br r4 (bnd (Qds x0 r1.1 r.visits) fun r5=>br r5 (some 0) (some 21)) (some 20)) (some 19)) (fun r6=>some r6))) (fun r7=>some r7)))) (fun r8=>some r8))
noncomputable def Qde (t:Qai) (skills:Int) (bit:Int):Option ((Int)⊕((Unit)⊕(Bool))):=br (gtI bit 0) (chk ((bit:Int)≠0) (br (eqI (remK (quoK .i64 skills bit) 2) 1) (chk ((bit:Int)≠0) (br (eqI (remK (quoK .i64 t.skills bit) 2) 0) (some (.inr (.inr false))) (some (.inl (mulK .i64 bit 2))))) (some (.inl (mulK .i64 bit 2))))) (some (.inr (.inl ())))
noncomputable def QgD (t:Qai) (skills:Int):Option Bool:=br ((ltI t.skills 0)||(ltI skills 0)) (some false) (bnd (loopF (fun s=>Qde t skills s) 1) (fun e=>sel e (fun (_:Unit)=>some true) (fun r=>some r)))
noncomputable def QcL (l:List (List Int)) (dims:Int) (i:Int):Option ((Int)⊕((Unit)⊕(Bool))):=br (ltI i (lenI l)) (bnd (getI l i) fun x0=>br (neI (lenI x0) dims) (some (.inr (.inr false))) (some (.inl (addK .i64 i 1)))) (some (.inr (.inl ())))
noncomputable def QhN (l:List (List Int)) (dims:Int):Option Bool:=br ((ltI dims 0)||(gtI dims 3)) (some false) (bnd (loopF (fun s=>QcL l dims s) 0) (fun e=>sel e (fun (_:Unit)=>some true) (fun r=>some r)))
noncomputable def QcG (l:List (List Int)) (dims:Int) (l1:List Int) (d:Int) (n:Int) (i:Int):Option ((Int×Int)⊕(Int)):=br (ltI i (lenI l)) (bnd (getI l i) fun x0=>bnd (getI x0 d) fun x1=>some (.inl ((addK .i64 n x1),(addK .i64 i 1)))) (some (.inr n))
noncomputable def QcF (l:List (List Int)) (dims:Int) (l1:List Int) (d:Int):Option ((List Int×Int)⊕(List Int)):=br (ltI d dims) (bnd (loopF (fun s=>QcG l dims l1 d s.1 s.2) (0,0)) (fun n1=>chk (okN (l1++[n1]).length 8) (some (.inl ((l1++[n1]),(addK .i64 d 1)))))) (some (.inr l1))
noncomputable def Qhu (l:List (List Int)) (dims:Int):Option (List Int×Int):=bnd (QhN l dims) fun r=>br r (bnd (loopF (fun s=>QcF l dims s.1 s.2) ([],0)) (fun l2=>some (l2,0))) (some ([],2))
noncomputable def QgF (x0:Qac):Option Int:=br (eqI (lenI x0.types) 0) (some 0) (bnd (getI x0.types 0) fun x1=>some (lenI x1.cap))
noncomputable def Qb1 (x0:Qac) (l:List Qaa) (n:Int) (l1:List (List Int)) (i:Int) (on_:Bool) (there:Bool) (k:Int):Option ((Bool×Bool×Int)⊕(Bool×Bool)):=br (ltI k (lenI l)) (bnd (getI l k) fun x2=>br (neI x2.order i) (some (.inl (on_,there,(addK .i64 k 1)))) (br (ltI k n) (some (.inl ((!x2.drop),true,(addK .i64 k 1)))) (some (.inl (on_,true,(addK .i64 k 1)))))) (some (.inr (on_,there)))
noncomputable def Qb0 (x0:Qac) (l:List Qaa) (n:Int) (l1:List (List Int)) (i:Int):Option ((List (List Int)×Int)⊕(List (List Int))):=br (ltI i (lenI x0.orders)) (bnd (getI x0.orders i) fun x1=>bnd (loopF (fun s=>Qb1 x0 l n l1 i s.1 s.2.1 s.2.2) ((ltI x1.pick.place 0),false,0)) (fun e0=>(fun on_1 there1=>br (on_1&&there1) (bnd (getI x0.orders i) fun x3=>chk (okN (l1++[x3.load]).length 24) (some (.inl ((l1++[x3.load]),(addK .i64 i 1))))) (some (.inl (l1,(addK .i64 i 1))))) e0.1 e0.2)) (some (.inr l1))
noncomputable def Qhj (x0:Qac) (l:List Qaa) (n:Int):Option (List Int×Int):=bnd (loopF (fun s=>Qb0 x0 l n s.1 s.2) ([],0)) (fun l2=>bnd (QgF x0) fun r=>bnd (Qhu l2 r) fun r1=>some (r1.1,r1.2))
noncomputable def QbZ (x0:Qac) (r:Qad) (l:List (List Int)) (n:Int):Option ((List (List Int)×Int)⊕((List (List Int))⊕(List (List Int)×Int))):=br (leI n (lenI r.visits)) (bnd (Qhj x0 r.visits n) fun r2=>br (neI r2.2 0) (some (.inr (.inr ([],r2.2)))) (chk (okN (l++[r2.1]).length 24) (some (.inl ((l++[r2.1]),(addK .i64 n 1)))))) (some (.inr (.inl l)))
noncomputable def Qhi (x0:Qac) (r:Qad):Option (List (List Int)×Int):=bnd (Qf0 x0 r) fun r1=>br (neI r1 0) (some ([],r1)) (bnd (loopF (fun s=>QbZ x0 r s.1 s.2) ([],0)) (fun e=>sel e (fun l1=>some (l1,0)) (fun r3=>some r3)))
noncomputable def QcK (a:List Int) (capacity:List Int) (i:Int):Option ((Int)⊕((Unit)⊕(Bool))):=br (ltI i (lenI a)) (bnd (getI a i) fun x0=>bnd (getI capacity i) fun x1=>br (gtI x0 x1) (some (.inr (.inr false))) (some (.inl (addK .i64 i 1)))) (some (.inr (.inl ())))
noncomputable def QhM (a:List Int) (capacity:List Int):Option Bool:=br (neI (lenI a) (lenI capacity)) (some false) (bnd (loopF (fun s=>QcK a capacity s) 0) (fun e=>sel e (fun (_:Unit)=>some true) (fun r=>some r)))
noncomputable def QcO (x0:Qac) (r:Qad) (r1:List (List Int)×Int) (i:Int):Option ((Int)⊕((Unit)⊕(Int))):=br (ltI i (lenI r1.1)) (bnd (getI r1.1 i) fun x1=>bnd (getI x0.types r.type_) fun x2=>bnd (QhM x1 x2.cap) fun r2=>br r2 (some (.inl (addK .i64 i 1))) (some (.inr (.inr 17)))) (some (.inr (.inl ())))
noncomputable def QgE (x0:Qac) (r:Qad):Option Int:=br ((ltI r.type_ 0)||(geI r.type_ (lenI x0.types))) (some 2) (bnd (Qhi x0 r) fun r1=>br (neI r1.2 0) (some r1.2) (bnd (loopF (fun s=>QcO x0 r r1 s) 0) (fun e=>sel e (fun (_:Unit)=>some 0) (fun r3=>some r3))))
noncomputable def QdP (x0:Qac) (v:Qaa):Option (Qau×Bool):=br ((ltI v.order 0)||(geI v.order (lenI x0.orders))) (some ((Qau.mk 0 0 0 0),false)) (bnd (getI x0.orders v.order) fun x1=>br v.drop (some (x1.drop,(geI x1.drop.place 0))) (some (x1.pick,(geI x1.pick.place 0))))
noncomputable def QbK (x0:Qac) (r:Qad) (i:Int):Option ((Int)⊕((Unit)⊕(Bool))):=br (ltI i (lenI r.visits)) (bnd (getI r.visits i) fun x1=>bnd (QdP x0 x1) fun r1=>br r1.2 (some (.inl (addK .i64 i 1))) (some (.inr (.inr false)))) (some (.inr (.inl ())))
noncomputable def Qc2 (x0:Qac) (r:Qad):Option Bool:=br (((((ltI r.type_ 0)||(geI r.type_ (lenI x0.types)))||(ltI r.start 0))||(gtI r.start 4096))||(gtI (lenI r.visits) 20)) (some false) (bnd (loopF (fun s=>QbK x0 r s) 0) (fun e=>sel e (fun (_:Unit)=>some true) (fun r2=>some r2)))
noncomputable def QgG (t:Qai) (s0:Qax) (yes:Bool):Option Qax:=br yes (some (Qax.mk s0.place (addK .i64 s0.time t.rest_) 0 s0.miles)) (some s0)
noncomputable def QfR (n:Qak) (p:Int):Option Bool:=some ((geI p 0)&&(ltI p (lenI n.places)))
noncomputable def QeI (n:Qak) (profile:Int) (from_:Int) (to_:Int) (i:Int):Option ((Int)⊕((Unit)⊕(Qaq×Bool))):=br (ltI i (lenI n.arcs)) (bnd (getI n.arcs i) fun x0=>br (((eqI x0.from_ from_)&&(eqI x0.to_ to_))&&(eqI x0.profile profile)) (some (.inr (.inr (x0,true)))) (some (.inl (addK .i64 i 1)))) (some (.inr (.inl ())))
noncomputable def QhO (n:Qak) (profile:Int) (from_:Int) (to_:Int):Option (Qaq×Bool):=bnd (loopF (fun s=>QeI n profile from_ to_ s) 0) (fun e=>sel e (fun (_:Unit)=>some ((Qaq.mk 0 0 0 0 [] []),false)) (fun r=>some r))
noncomputable def QdC (l:List Qam) (t:Int) (i:Int):Option ((Int)⊕((Unit)⊕(Int))):=br (ltI (addK .i64 i 1) (lenI l)) (bnd (getI l i) fun x0=>bnd (getI l (addK .i64 i 1)) fun x1=>br ((leI x0.t t)&&(ltI t x1.t)) (chk (((subK .i64 x1.t x0.t):Int)≠0) (some (.inr (.inr (addK .i64 x0.a (quoK .i64 (subK .i64 (subK .i64 (addK .i64 (mulK .i64 (subK .i64 t x0.t) (subK .i64 x1.a x0.a)) x1.t) x0.t) 1) (subK .i64 x1.t x0.t))))))) (some (.inl (addK .i64 i 1)))) (some (.inr (.inl ())))
noncomputable def Qgs (l:List Qam) (t:Int):Option Int:=bnd (QeV l) fun r=>br (((gtI (lenI r) 0)||(ltI t 0))||(gtI t 1073741824)) (some 0) (bnd (loopF (fun s=>QdC l t s) 0) (fun e=>sel e (fun (_:Unit)=>bnd (getI l 0) fun x2=>br (gtI t x2.t) (bnd (getI l (subK .i64 (lenI l) 1)) fun x3=>some (subK .i64 (addK .i64 t x3.a) x3.t)) (some (subK .i64 (addK .i64 t x2.a) x2.t))) (fun r1=>some r1)))
noncomputable def Qgc (a:Qaq) (t:Int) (n:Int) (i:Int):Option ((Int×Int)⊕(Int)):=br (ltI i (lenI a.slow)) (bnd (getI a.slow i) fun x0=>br (leI x0.t t) (some (.inl ((addK .i64 n x0.a),(addK .i64 i 1)))) (some (.inl (n,(addK .i64 i 1))))) (some (.inr n))
noncomputable def Qgt (a:Qaq) (t:Int):Option Int:=bnd (Qgs a.travel t) fun r=>bnd (loopF (fun s=>Qgc a t s.1 s.2) (r,0)) (fun n1=>some n1)
noncomputable def Qin (n:Qak) (profile:Int) (from_:Int) (to_:Int) (t:Int):Option (Int×Int×Int):=bnd (QfR n from_) fun r=>br r (bnd (QfR n to_) fun r1=>br r1 (br (eqI from_ to_) (some (t,0,0)) (bnd (QhO n profile from_ to_) fun r2=>br r2.2 (bnd (Qgt r2.1 t) fun r3=>some (r3,r2.1.miles,0)) (some (0,0,12)))) (some (0,0,11))) (some (0,0,11))
noncomputable def QlV (x0:Qac) (profile:Int) (from_:Int) (to_:Int) (t:Int):Option (Int×Int×Bool):=bnd (Qin x0.net profile from_ to_ t) fun r=>some (r.1,r.2.1,(eqI r.2.2 0))
noncomputable def Qdj (x0:Qac) (t:Qai) (s0:Qax) (to_:Int) (close:Int) (late:Int):Option (Qax×Int):=bnd (QlV x0 t.profile s0.place to_ s0.time) fun r=>br r.2.2 (br (gtI r.1 close) (some (s0,late)) (br (gtI (subK .i64 (addK .i64 s0.driven r.1) s0.time) t.drive) (some (s0,16)) (some ((Qax.mk to_ r.1 (subK .i64 (addK .i64 s0.driven r.1) s0.time) (addK .i64 s0.miles r.2.1)),0)))) (some (s0,12))
noncomputable def Qfa (x0:Qac) (r:Qad) (rests:List Bool) (x1:Qai) (x2:Bool) (l:List Int) (l1:List Qap) (x3:Qax) (depart:Int) (i:Int):Option ((List Int×List Qap×Qax×Int×Int)⊕((List Int×List Qap×Qax×Int)⊕(Qan×List Int×Int))):=br (ltI i (lenI r.visits)) (bnd (getI r.visits i) fun x4=>bnd (QdP x0 x4) fun r3=>bnd (Qdj x0 x1 x3 r3.1.place r3.1.close 14) fun r4=>br (neI r4.2 0) (some (.inr (.inr ((Qan.mk false 0 [] 0 0),[],r4.2)))) (chk (okN (l++[r4.1.driven]).length 8) (bnd (getI rests (addK .i64 i 1)) fun x5=>bnd (QgG x1 (Qax.mk r4.1.place (addK .i64 (maxI r4.1.time r3.1.open_) r3.1.service) r4.1.driven r4.1.miles) x5) fun r5=>chk (okN (l1++[(Qap.mk r4.1.time (maxI r4.1.time r3.1.open_) r5.time x5)]).length 32) (some (.inl ((l++[r4.1.driven]),(l1++[(Qap.mk r4.1.time (maxI r4.1.time r3.1.open_) r5.time x5)]),r5,depart,(addK .i64 i 1))))))) (some (.inr (.inl (l,l1,x3,depart))))
noncomputable def Qhx (x0:Qac) (r:Qad) (rests:List Bool):Option (Qan×List Int×Int):=bnd (Qc2 x0 r) fun r1=>br ((!r1)||(neI (lenI rests) (addK .i64 (lenI r.visits) 1))) (some ((Qan.mk false 0 [] 0 0),[],2)) (bnd (getI x0.types r.type_) fun x1=>bnd (getI rests 0) fun x2=>bnd (QgG x1 (Qax.mk x1.from_ (maxI x1.open_ r.start) 0 0) x2) fun r2=>bnd (loopF (fun s=>Qfa x0 r rests x1 x2 s.1 s.2.1 s.2.2.1 s.2.2.2.1 s.2.2.2.2) ([],[],r2,r2.time,0)) (fun e=>sel e (fun e0=>(fun l2 l3 x6 depart1=>bnd (Qdj x0 x1 x6 x1.to_ x1.close 15) fun r6=>br (neI r6.2 0) (some ((Qan.mk false 0 [] 0 0),[],r6.2)) (chk (okN (l2++[r6.1.driven]).length 8) (some ((Qan.mk x2 depart1 l3 r6.1.time r6.1.miles),(l2++[r6.1.driven]),0)))) e0.1 e0.2.1 e0.2.2.1 e0.2.2.2) (fun r7=>some r7)))
noncomputable def Qer (x0:Qac) (r:Qad) (rests:List Bool):Option (Qan×Int):=bnd (Qhx x0 r rests) fun r1=>some (r1.1,r1.2.2)
noncomputable def QeM (n:Int) (l:List Bool) (i:Int):Option ((List Bool×Int)⊕((Unit)⊕(List Bool×Bool))):=br (geI i n) (bnd (getI l i) fun x0=>br x0 (some (.inl ((setI l i false),(subK .i64 i 1)))) (some (.inr (.inr ((setI l i true),true))))) (some (.inr (.inl ())))
noncomputable def QfD (rests:List Bool) (n:Int):Option (List Bool×Bool):=chk (okN rests.length 1) (bnd (loopF (fun s=>QeM n s.1 s.2) (rests,(subK .i64 (lenI rests) 1))) (fun e=>sel e (fun (_:Unit)=>some ([],false)) (fun r=>some r)))
noncomputable def Qf1 (x0:Qac) (r:Qad) (l:List Bool) (r2:Qan×Int) (rests:List Bool) (rests1:List Bool) (x2:Qan) (found1:Bool):Option ((List Bool×Qan×List Bool×Bool×Bool)⊕(Qan×Bool)):=bnd (QfD rests1 (lenI rests)) fun r5=>some (.inl (rests,x2,r5.1,found1,r5.2))
noncomputable def QeL (x0:Qac) (r:Qad) (l:List Bool) (r2:Qan×Int) (rests:List Bool) (x1:Qan) (rests1:List Bool) (found:Bool) (more:Bool):Option ((List Bool×Qan×List Bool×Bool×Bool)⊕(Qan×Bool)):=br more (bnd (Qer x0 (Qad.mk r.type_ r.start rests r.visits) rests1) fun r4=>br ((eqI r4.2 0)&&((!found)||(ltI r4.1.end_ x1.end_))) (Qf1 x0 r l r2 rests rests1 r4.1 true) (Qf1 x0 r l r2 rests rests1 x1 found)) (some (.inr (x1,found)))
noncomputable def QfC (x0:Qac) (r:Qad):Option (Qan×Int):=bnd (Qc2 x0 r) fun r1=>br ((!r1)||(gtI (lenI r.rests) (addK .i64 (lenI r.visits) 1))) (some ((Qan.mk false 0 [] 0 0),2)) (bnd (mkI (addK .i64 (lenI r.visits) 1) (addK .i64 (lenI r.visits) 1) 1 false) fun l=>bnd (Qer x0 r (cpyL l r.rests)) fun r2=>bnd (QfD (cpyL l r.rests) (lenI r.rests)) fun r3=>bnd (loopF (fun s=>QeL x0 r l r2 s.1 s.2.1 s.2.2.1 s.2.2.2.1 s.2.2.2.2) (r.rests,r2.1,r3.1,(eqI r2.2 0),r3.2)) (fun e0=>(fun x3 found2=>br found2 (some (x3,0)) (some ((Qan.mk false 0 [] 0 0),r2.2))) e0.1 e0.2))
noncomputable def Qcb (l:List Qaa) (at_:Int) (i:Int):Option ((Int)⊕((Unit)⊕(Bool))):=br (ltI i at_) (bnd (getI l i) fun x0=>bnd (getI l at_) fun x1=>br (eqI x0.order x1.order) (some (.inr (.inr false))) (some (.inl (addK .i64 i 1)))) (some (.inr (.inl ())))
noncomputable def Qgy (l:List Qaa) (at_:Int):Option Bool:=bnd (loopF (fun s=>Qcb l at_ s) 0) (fun e=>sel e (fun (_:Unit)=>some true) (fun r=>some r))
noncomputable def Qft (x0:Qac) (r:Qad) (s0:Qan) (x1:Qai) (other:Int) (i:Int) (x2:Qaa) (moved1:Int):Option ((Int×Int×Int)⊕(Int×Int)):=bnd (getI x0.orders x2.order) fun x4=>br (neI x4.last_ (-1)) (br (neI x4.last_ r.type_) (some (.inl (moved1,(addK .i64 other 1),(addK .i64 i 1)))) (some (.inl (moved1,other,(addK .i64 i 1))))) (some (.inl (moved1,other,(addK .i64 i 1))))
noncomputable def Qb2 (x0:Qac) (r:Qad) (s0:Qan) (x1:Qai) (moved:Int) (other:Int) (i:Int):Option ((Int×Int×Int)⊕(Int×Int)):=br (ltI i (lenI r.visits)) (bnd (getI r.visits i) fun x2=>br ((ltI x2.order 0)||(geI x2.order (lenI x0.orders))) (some (.inl (moved,other,(addK .i64 i 1)))) (bnd (Qgy r.visits i) fun r1=>br r1 (bnd (getI x0.orders x2.order) fun x3=>br (neI x3.now (-1)) (br (neI x3.now r.type_) (Qft x0 r s0 x1 other i x2 (addK .i64 moved 1)) (Qft x0 r s0 x1 other i x2 moved)) (br (neI x3.last_ (-1)) (br (neI x3.last_ r.type_) (some (.inl (moved,(addK .i64 other 1),(addK .i64 i 1)))) (some (.inl (moved,other,(addK .i64 i 1))))) (some (.inl (moved,other,(addK .i64 i 1)))))) (some (.inl (moved,other,(addK .i64 i 1)))))) (some (.inr (moved,other)))
noncomputable def Qf2 (x0:Qac) (r:Qad) (s0:Qan):Option Qay:=br ((ltI r.type_ 0)||(geI r.type_ (lenI x0.types))) (some (Qay.mk 0 0 0 0)) (bnd (getI x0.types r.type_) fun x1=>bnd (loopF (fun s=>Qb2 x0 r s0 x1 s.1 s.2.1 s.2.2) (0,0,0)) (fun e0=>(fun moved2 other1=>some (Qay.mk (addK .i64 (addK .i64 x1.fixed (mulK .i64 x1.perMile s0.miles)) (mulK .i64 x1.perTick (subK .i64 s0.end_ x1.open_))) moved2 other1 (mulK .i64 (quoK .i64 (subK .i64 s0.end_ x1.open_) 64) (quoK .i64 (subK .i64 s0.end_ x1.open_) 64)))) e0.1 e0.2))
noncomputable def Qbs (x0:Qac) (r:Qad) (i:Int):Option ((Int)⊕((Unit)⊕(Qan×Qay×Int))):=br (ltI i (lenI r.visits)) (bnd (getI x0.types r.type_) fun x1=>bnd (getI r.visits i) fun x2=>bnd (getI x0.orders x2.order) fun x3=>bnd (QgD x1 x3.skills) fun r2=>br r2 (some (.inl (addK .i64 i 1))) (some (.inr (.inr ((Qan.mk false 0 [] 0 0),(Qay.mk 0 0 0 0),18))))) (some (.inr (.inl ())))
noncomputable def Qej (x0:Qac) (r:Qad):Option (Qan×Qay×Int):=br ((ltI r.type_ 0)||(geI r.type_ (lenI x0.types))) (some ((Qan.mk false 0 [] 0 0),(Qay.mk 0 0 0 0),2)) (bnd (Qf0 x0 r) fun r1=>br (neI r1 0) (some ((Qan.mk false 0 [] 0 0),(Qay.mk 0 0 0 0),r1)) (bnd (loopF (fun s=>Qbs x0 r s) 0) (fun e=>sel e (fun (_:Unit)=>bnd (QgE x0 r) fun r3=>br (neI r3 0) (some ((Qan.mk false 0 [] 0 0),(Qay.mk 0 0 0 0),r3)) (bnd (QfC x0 r) fun r4=>br (neI r4.2 0) (some ((Qan.mk false 0 [] 0 0),(Qay.mk 0 0 0 0),r4.2)) (bnd (Qf2 x0 r r4.1) fun r5=>some (r4.1,r5,0)))) (fun r6=>some r6))))
noncomputable def Qf3 (x0:Qac) (r:Qad):Option (Int×Int):=bnd (Qej x0 r) fun r1=>br (neI r1.2.2 0) (some (0,r1.2.2)) (bnd (Qgx r1.2.1) fun r2=>some (r2.1,r2.2))
noncomputable def QiX (a:Qaa) (b:Qaa):Option Bool:=some ((ltI a.order b.order)||(((eqI a.order b.order)&&(!a.drop))&&b.drop))
noncomputable def QcN (a:List Qaa) (b:List Qaa) (i:Int):Option ((Int)⊕((Unit)⊕(Bool))):=br ((ltI i (lenI a))&&(ltI i (lenI b))) (bnd (getI a i) fun x0=>bnd (getI b i) fun x1=>br (eqI x0.order x1.order&&(eqB x0.drop x1.drop&&true)) (some (.inl (addK .i64 i 1))) (bnd (QiX x0 x1) fun r=>some (.inr (.inr r)))) (some (.inr (.inl ())))
noncomputable def QhS (a:List Qaa) (b:List Qaa):Option Bool:=bnd (loopF (fun s=>QcN a b s) 0) (fun e=>sel e (fun (_:Unit)=>some (ltI (lenI a) (lenI b))) (fun r1=>some r1))
noncomputable def Qfb (x0:Qac) (f:QaJ) (r:Qad) (visits:List Qaa):Option QaJ:=bnd (Qf3 x0 (Qad.mk r.type_ r.start r.rests visits)) fun r1=>br (neI r1.2 0) (some f) (br ((!f.ok)||(ltI r1.1 f.price)) (some (QaJ.mk true (Qad.mk r.type_ r.start r.rests visits) r1.1)) (br (eqI r1.1 f.price) (bnd (QhS visits f.route.visits) fun r2=>br r2 (some (QaJ.mk true (Qad.mk r.type_ r.start r.rests visits) r1.1)) (some f)) (some f)))
noncomputable def Qdg (x0:Qac) (r3:List Qaa) (x2:Qad) (ok:Bool) (type_:Int) (start:Int) (rests:List Bool) (visits:List Qaa) (price:Int) (i:Int) (r4:List Qaa) (ok1:Bool) (type_1:Int) (start1:Int) (rests1:List Bool) (visits1:List Qaa) (price1:Int) (k:Int):Option ((Bool×Int×Int×List Bool×List Qaa×Int×Int)⊕(QaJ)):=br (leI k (lenI r4)) (bnd (getI r3 1) fun x4=>bnd (Qc7 r4 k x4) fun r6=>bnd (Qfb x0 (QaJ.mk ok1 (Qad.mk type_1 start1 rests1 visits1) price1) x2 r6) fun r7=>some (.inl (r7.ok,r7.route.type_,r7.route.start,r7.route.rests,r7.route.visits,r7.price,(addK .i64 k 1)))) (some (.inr (QaJ.mk ok1 (Qad.mk type_1 start1 rests1 visits1) price1)))
noncomputable def QbU (x0:Qac) (r3:List Qaa) (x2:Qad) (ok:Bool) (type_:Int) (start:Int) (rests:List Bool) (visits:List Qaa) (price:Int) (i:Int):Option ((Qad×Bool×Int×Int×List Bool×List Qaa×Int×Int)⊕(QaJ)):=br (leI i (lenI x2.visits)) (bnd (getI r3 0) fun x3=>bnd (Qc7 x2.visits i x3) fun r4=>br (eqI (lenI r3) 1) (bnd (Qfb x0 (QaJ.mk ok (Qad.mk type_ start rests visits) price) x2 r4) fun r5=>some (.inl (x2,r5.ok,r5.route.type_,r5.route.start,r5.route.rests,r5.route.visits,r5.price,(addK .i64 i 1)))) (bnd (loopF (fun s=>Qdg x0 r3 x2 ok type_ start rests visits price i r4 s.1 s.2.1 s.2.2.1 s.2.2.2.1 s.2.2.2.2.1 s.2.2.2.2.2.1 s.2.2.2.2.2.2) (ok,type_,start,rests,visits,price,(addK .i64 i 1))) (fun x5=>some (.inl (x2,x5.ok,x5.route.type_,x5.route.start,x5.route.rests,x5.route.visits,x5.price,(addK .i64 i 1)))))) (some (.inr (QaJ.mk ok (Qad.mk type_ start rests visits) price)))
noncomputable def QhV (x0:Qac) (r:Qad) (order:Int):Option (Qad×Int×Int):=br ((ltI r.type_ 0)||(geI r.type_ (lenI x0.types))) (some ((Qad.mk 0 0 [] []),0,2)) (bnd (Qh7 x0 order) fun r1=>br r1 (bnd (getI x0.orders order) fun x1=>br x1.off (some ((Qad.mk 0 0 [] []),0,9)) (bnd (QkK r order) fun r2=>br r2 (some ((Qad.mk 0 0 [] []),0,6)) (bnd (Qgu x0.orders order) fun r3=>bnd (loopF (fun s=>QbU x0 r3 s.1 s.2.1 s.2.2.1 s.2.2.2.1 s.2.2.2.2.1 s.2.2.2.2.2.1 s.2.2.2.2.2.2.1 s.2.2.2.2.2.2.2) (r,false,0,0,[],[],0,(lenI r.rests))) (fun x6=>br x6.ok (some (x6.route,x6.price,0)) (some ((Qad.mk 0 0 [] []),0,24)))))) (some ((Qad.mk 0 0 [] []),0,2)))
noncomputable def QbN (a:Qad) (b:Qad) (i:Int):Option ((Int)⊕((Unit)⊕(Bool))):=br (ltI i (lenI a.rests)) (bnd (getI a.rests i) fun x0=>bnd (getI b.rests i) fun x1=>br (eqB x0 x1) (some (.inl (addK .i64 i 1))) (some (.inr (.inr false)))) (some (.inr (.inl ())))
noncomputable def Qbw (a:Qad) (b:Qad) (i1:Int):Option ((Int)⊕((Unit)⊕(Bool))):=br (ltI i1 (lenI a.visits)) (bnd (getI a.visits i1) fun x2=>bnd (getI b.visits i1) fun x3=>br (eqI x2.order x3.order&&(eqB x2.drop x3.drop&&true)) (some (.inl (addK .i64 i1 1))) (some (.inr (.inr false)))) (some (.inr (.inl ())))
noncomputable def QeY (a:Qad) (b:Qad):Option Bool:=br ((((neI a.type_ b.type_)||(neI a.start b.start))||(neI (lenI a.rests) (lenI b.rests)))||(neI (lenI a.visits) (lenI b.visits))) (some false) (bnd (loopF (fun s=>QbN a b s) 0) (fun e=>sel e (fun (_:Unit)=>bnd (loopF (fun s=>Qbw a b s) 0) (fun e=>sel e (fun (_:Unit)=>some true) (fun r=>some r))) (fun r1=>some r1)))
noncomputable def Qdf (a:Qas) (b:Qas) (i:Int):Option ((Int)⊕((Unit)⊕(Bool))):=br (ltI i (lenI a.routes)) (bnd (getI a.routes i) fun x0=>bnd (getI b.routes i) fun x1=>bnd (QeY x0 x1) fun r=>br r (some (.inl (addK .i64 i 1))) (some (.inr (.inr false)))) (some (.inr (.inl ())))
noncomputable def QcP (a:Qas) (b:Qas) (i1:Int):Option ((Int)⊕((Unit)⊕(Bool))):=br (ltI i1 (lenI a.unserved)) (bnd (getI a.unserved i1) fun x2=>bnd (getI b.unserved i1) fun x3=>br (neI x2 x3) (some (.inr (.inr false))) (some (.inl (addK .i64 i1 1)))) (some (.inr (.inl ())))
noncomputable def QjQ (a:Qas) (b:Qas):Option Bool:=br ((neI (lenI a.routes) (lenI b.routes))||(neI (lenI a.unserved) (lenI b.unserved))) (some false) (bnd (loopF (fun s=>Qdf a b s) 0) (fun e=>sel e (fun (_:Unit)=>bnd (loopF (fun s=>QcP a b s) 0) (fun e=>sel e (fun (_:Unit)=>some true) (fun r1=>some r1))) (fun r2=>some r2)))
noncomputable def QhW (a:Qas) (b:Qas):Option Bool:=bnd (QjQ a b) fun r=>some r
noncomputable def Qfg (x0:Qac) (r:Qad) (at_:Int):Option Bool:=bnd (QfQ x0) fun r1=>br r1 (bnd (QiK r) fun r2=>br r2 (bnd (QgA x0 r at_) fun r3=>bnd (QhV x0 r at_) fun r4=>br ((eqI r3.2.1 r4.2.1)&&(eqI r3.2.2 r4.2.2)) (bnd (QhW (Qas.mk [r3.1] []) (Qas.mk [r4.1] [])) fun r5=>br r5 (bnd (QbV) fun r6=>some r6) (some false)) (some false)) (bnd (QbV) fun r7=>some r7)) (bnd (QbV) fun r8=>some r8)
noncomputable def Qfh (x0:Qac) (r:Qad) (at_:Int) (place:Int):Option Bool:=bnd (QfQ x0) fun r1=>br ((((!r1)||(gtI (lenI r.visits) 6))||(ltI place (lenI r.rests)))||(gtI place (lenI r.visits))) (bnd (QbV) fun r2=>some r2) (bnd (Qgl x0.orders at_) fun r3=>br (neI (lenI r3) 1) (bnd (QbV) fun r4=>some r4) (bnd (slcI r.visits 0 place) fun l=>chk (okN l.length 16) (bnd (getI r3 0) fun x1=>chk (okN (l++[x1]).length 16) (bnd (slcI r.visits place (lenI r.visits)) fun l1=>chk (okN ((l++[x1])++l1).length 16) (bnd (Qfc x0 (Qad.mk r.type_ r.start r.rests ((l++[x1])++l1))) fun r5=>bnd (QgA x0 r at_) fun r6=>br (neI r5.2 0) (bnd (QbV) fun r7=>some r7) (bnd (Qfc x0 r6.1) fun r8=>br ((((eqI r6.2.2 0)&&(eqI r8.2 0))&&(eqI r8.1 r6.2.1))&&(leI r6.2.1 r5.1)) (bnd (QbV) fun r9=>some r9) (some false)))))))
end Go.Proofs.YtpkkaboonnedfaaGreatDoor
namespace Go.Proofs.YtpkkaboonnedfaaGreatDoor
set_option linter.unusedVariables false
set_option linter.unusedSectionVars false
set_option linter.unusedSimpArgs false
open Go.RowKit
variable {N : Nat}
theorem oq_9:Opens Tryz.prog N 9 (rdE 1 e_str (fun s:ByteArray=>s.size≤N) (fun _=>rfl)):=QDb Tryz.underlying9 (by kernel_rfl)
theorem oq_22:Opens Tryz.prog N 22 (rdE 1 (fun l:List ByteArray=>[.sl false 1 (l.map e_str)]) (fun l:List (ByteArray)=>l.length≤N∧∀ x∈l,(fun s:ByteArray=>s.size≤N) x) (fun _=>rfl)):=Qoy Tryz.underlying22 (by kernel_rfl) oq_9 (by decide)
theorem oq_3:Opens Tryz.prog N 3 (rdE 1 e_i64 isI (fun _=>rfl)):=QDa Tryz.underlying3 (by kernel_rfl)
def Qam.ok (N:Nat) (x:Qam):Prop:=isI x.t∧isI x.a∧True
theorem QDc:Opens Tryz.prog N 119 (rdE 2 Qam.enc (Qam.ok N) (fun _=>rfl)):=QlW Tryz.underlying119 (by kernel_rfl) (.cons rfl oq_3 (.cons rfl oq_3 .nil)) rfl (HE.pair HE.rd (HE.pair HE.rd HE.unit)) (fun a=>⟨a.1,a.2.1⟩) (fun _=>rfl) (fun _ h=>h)
theorem QCN:Opens Tryz.prog N 120 (rdE 1 (fun l:List Qam=>[.sl false 2 (l.map Qam.enc)]) (fun l:List (Qam)=>l.length≤N∧∀ x∈l,(Qam.ok N) x) (fun _=>rfl)):=Qoy Tryz.underlying120 (by kernel_rfl) QDc (by decide)
def Qaq.ok (N:Nat) (x:Qaq):Prop:=isI x.from_∧isI x.to_∧isI x.profile∧isI x.miles∧(fun l:List (Qam)=>l.length≤N∧∀ x∈l,(Qam.ok N) x) x.travel∧(fun l:List (Qam)=>l.length≤N∧∀ x∈l,(Qam.ok N) x) x.slow∧True
theorem QDd:Opens Tryz.prog N 122 (rdE 6 Qaq.enc (Qaq.ok N) (fun _=>rfl)):=QlW Tryz.underlying122 (by kernel_rfl) (.cons rfl oq_3 (.cons rfl oq_3 (.cons rfl oq_3 (.cons rfl oq_3 (.cons rfl QCN (.cons rfl QCN .nil)))))) rfl (HE.pair HE.rd (HE.pair HE.rd (HE.pair HE.rd (HE.pair HE.rd (HE.pair HE.rd (HE.pair HE.rd HE.unit)))))) (fun a=>⟨a.1,a.2.1,a.2.2.1,a.2.2.2.1,a.2.2.2.2.1,a.2.2.2.2.2.1⟩) (fun _=>rfl) (fun _ h=>h)
theorem oq_23:Opens Tryz.prog N 23 (rdE 1 (fun l:List Qaq=>[.sl false 6 (l.map Qaq.enc)]) (fun l:List (Qaq)=>l.length≤N∧∀ x∈l,(Qaq.ok N) x) (fun _=>rfl)):=Qoy Tryz.underlying23 (by kernel_rfl) QDd (by decide)
def Qak.ok (N:Nat) (x:Qak):Prop:=(fun l:List (ByteArray)=>l.length≤N∧∀ x∈l,(fun s:ByteArray=>s.size≤N) x) x.places∧(fun l:List (Qaq)=>l.length≤N∧∀ x∈l,(Qaq.ok N) x) x.arcs∧True
theorem oq_25:Opens Tryz.prog N 25 (rdE 2 Qak.enc (Qak.ok N) (fun _=>rfl)):=QlW Tryz.underlying25 (by kernel_rfl) (.cons rfl oq_22 (.cons rfl oq_23 .nil)) rfl (HE.pair HE.rd (HE.pair HE.rd HE.unit)) (fun a=>⟨a.1,a.2.1⟩) (fun _=>rfl) (fun _ h=>h)
theorem oq_42:Opens Tryz.prog N 42 (rdE 1 (fun l:List Int=>[.sl false 1 (l.map e_i64)]) (fun l:List (Int)=>l.length≤N∧∀ x∈l,isI x) (fun _=>rfl)):=Qoy Tryz.underlying42 (by kernel_rfl) oq_3 (by decide)
def Qai.ok (N:Nat) (x:Qai):Prop:=(fun s:ByteArray=>s.size≤N) x.name∧isI x.count∧isI x.from_∧isI x.to_∧(fun l:List (Int)=>l.length≤N∧∀ x∈l,isI x) x.cap∧isI x.skills∧isI x.profile∧isI x.open_∧isI x.close∧isI x.drive∧isI x.rest_∧isI x.fixed∧isI x.perMile∧isI x.perTick∧True
theorem QDe:Opens Tryz.prog N 124 (rdE 14 Qai.enc (Qai.ok N) (fun _=>rfl)):=QlW Tryz.underlying124 (by kernel_rfl) (.cons rfl oq_9 (.cons rfl oq_3 (.cons rfl oq_3 (.cons rfl oq_3 (.cons rfl oq_42 (.cons rfl oq_3 (.cons rfl oq_3 (.cons rfl oq_3 (.cons rfl oq_3 (.cons rfl oq_3 (.cons rfl oq_3 (.cons rfl oq_3 (.cons rfl oq_3 (.cons rfl oq_3 .nil)))))))))))))) rfl (HE.pair HE.rd (HE.pair HE.rd (HE.pair HE.rd (HE.pair HE.rd (HE.pair HE.rd (HE.pair HE.rd (HE.pair HE.rd (HE.pair HE.rd (HE.pair HE.rd (HE.pair HE.rd (HE.pair HE.rd (HE.pair HE.rd (HE.pair HE.rd (HE.pair HE.rd HE.unit)))))))))))))) (fun a=>⟨a.1,a.2.1,a.2.2.1,a.2.2.2.1,a.2.2.2.2.1,a.2.2.2.2.2.1,a.2.2.2.2.2.2.1,a.2.2.2.2.2.2.2.1,a.2.2.2.2.2.2.2.2.1,a.2.2.2.2.2.2.2.2.2.1,a.2.2.2.2.2.2.2.2.2.2.1,a.2.2.2.2.2.2.2.2.2.2.2.1,a.2.2.2.2.2.2.2.2.2.2.2.2.1,a.2.2.2.2.2.2.2.2.2.2.2.2.2.1⟩) (fun _=>rfl) (fun _ h=>h)
theorem oq_26:Opens Tryz.prog N 26 (rdE 1 (fun l:List Qai=>[.sl false 14 (l.map Qai.enc)]) (fun l:List (Qai)=>l.length≤N∧∀ x∈l,(Qai.ok N) x) (fun _=>rfl)):=Qoy Tryz.underlying26 (by kernel_rfl) QDe (by decide)
def Qau.ok (N:Nat) (x:Qau):Prop:=isI x.place∧isI x.open_∧isI x.close∧isI x.service∧True
theorem oq_72:Opens Tryz.prog N 72 (rdE 4 Qau.enc (Qau.ok N) (fun _=>rfl)):=QlW Tryz.underlying72 (by kernel_rfl) (.cons rfl oq_3 (.cons rfl oq_3 (.cons rfl oq_3 (.cons rfl oq_3 .nil)))) rfl (HE.pair HE.rd (HE.pair HE.rd (HE.pair HE.rd (HE.pair HE.rd HE.unit)))) (fun a=>⟨a.1,a.2.1,a.2.2.1,a.2.2.2.1⟩) (fun _=>rfl) (fun _ h=>h)
theorem oq_4:Opens Tryz.prog N 4 (rdE 1 Qa5 (fun _:Bool=>True) (fun _=>rfl)):=QCK Tryz.underlying4 (by kernel_rfl)
def Qag.ok (N:Nat) (x:Qag):Prop:=(fun s:ByteArray=>s.size≤N) x.name∧(fun l:List (Int)=>l.length≤N∧∀ x∈l,isI x) x.load∧(Qau.ok N) x.pick∧(Qau.ok N) x.drop∧isI x.skills∧isI x.penalty∧isI x.split∧isI x.last_∧isI x.now∧(fun _:Bool=>True) x.off∧True
theorem oq_74:Opens Tryz.prog N 74 (rdE 16 Qag.enc (Qag.ok N) (fun _=>rfl)):=QlW Tryz.underlying74 (by kernel_rfl) (.cons rfl oq_9 (.cons rfl oq_42 (.cons rfl oq_72 (.cons rfl oq_72 (.cons rfl oq_3 (.cons rfl oq_3 (.cons rfl oq_3 (.cons rfl oq_3 (.cons rfl oq_3 (.cons rfl oq_4 .nil)))))))))) rfl (HE.pair HE.rd (HE.pair HE.rd (HE.pair HE.rd (HE.pair HE.rd (HE.pair HE.rd (HE.pair HE.rd (HE.pair HE.rd (HE.pair HE.rd (HE.pair HE.rd (HE.pair HE.rd HE.unit)))))))))) (fun a=>⟨a.1,a.2.1,a.2.2.1,a.2.2.2.1,a.2.2.2.2.1,a.2.2.2.2.2.1,a.2.2.2.2.2.2.1,a.2.2.2.2.2.2.2.1,a.2.2.2.2.2.2.2.2.1,a.2.2.2.2.2.2.2.2.2.1⟩) (fun _=>rfl) (fun _ h=>h)
theorem oq_27:Opens Tryz.prog N 27 (rdE 1 (fun l:List Qag=>[.sl false 16 (l.map Qag.enc)]) (fun l:List (Qag)=>l.length≤N∧∀ x∈l,(Qag.ok N) x) (fun _=>rfl)):=Qoy Tryz.underlying27 (by kernel_rfl) oq_74 (by decide)
def QaO.ok (N:Nat) (x:QaO):Prop:=isI x.x0∧isI x.x1
theorem QDf:Opens Tryz.prog N 162 (rdE 2 QaO.enc (QaO.ok N) (fun _=>rfl)):=QAt Tryz.underlying162 (by kernel_rfl) oq_3 rfl (fun a b=>⟨a,b⟩) (fun _ _=>rfl) (fun _ _ h h2=>⟨h,h2⟩)
theorem oq_28:Opens Tryz.prog N 28 (rdE 1 (fun l:List QaO=>[.sl false 2 (l.map QaO.enc)]) (fun l:List (QaO)=>l.length≤N∧∀ x∈l,(QaO.ok N) x) (fun _=>rfl)):=Qoy Tryz.underlying28 (by kernel_rfl) QDf (by decide)
def Qac.ok (N:Nat) (x:Qac):Prop:=(Qak.ok N) x.net∧(fun l:List (Qai)=>l.length≤N∧∀ x∈l,(Qai.ok N) x) x.types∧(fun l:List (Qag)=>l.length≤N∧∀ x∈l,(Qag.ok N) x) x.orders∧(fun l:List (QaO)=>l.length≤N∧∀ x∈l,(QaO.ok N) x) x.apart∧(fun l:List (QaO)=>l.length≤N∧∀ x∈l,(QaO.ok N) x) x.before∧True
theorem oq_30:Opens Tryz.prog N 30 (rdE 6 Qac.enc (Qac.ok N) (fun _=>rfl)):=QlW Tryz.underlying30 (by kernel_rfl) (.cons rfl oq_25 (.cons rfl oq_26 (.cons rfl oq_27 (.cons rfl oq_28 (.cons rfl oq_28 .nil))))) rfl (HE.pair HE.rd (HE.pair HE.rd (HE.pair HE.rd (HE.pair HE.rd (HE.pair HE.rd HE.unit))))) (fun a=>⟨a.1,a.2.1,a.2.2.1,a.2.2.2.1,a.2.2.2.2.1⟩) (fun _=>rfl) (fun _ h=>h)
theorem oq_31:Opens Tryz.prog N 31 (rdE 1 (fun l:List Bool=>[.sl false 1 (l.map Qa5)]) (fun l:List (Bool)=>l.length≤N∧∀ x∈l,(fun _:Bool=>True) x) (fun _=>rfl)):=Qoy Tryz.underlying31 (by kernel_rfl) oq_4 (by decide)
def Qaa.ok (N:Nat) (x:Qaa):Prop:=isI x.order∧(fun _:Bool=>True) x.drop∧True
theorem oq_52:Opens Tryz.prog N 52 (rdE 2 Qaa.enc (Qaa.ok N) (fun _=>rfl)):=QlW Tryz.underlying52 (by kernel_rfl) (.cons rfl oq_3 (.cons rfl oq_4 .nil)) rfl (HE.pair HE.rd (HE.pair HE.rd HE.unit)) (fun a=>⟨a.1,a.2.1⟩) (fun _=>rfl) (fun _ h=>h)
theorem oq_32:Opens Tryz.prog N 32 (rdE 1 (fun l:List Qaa=>[.sl false 2 (l.map Qaa.enc)]) (fun l:List (Qaa)=>l.length≤N∧∀ x∈l,(Qaa.ok N) x) (fun _=>rfl)):=Qoy Tryz.underlying32 (by kernel_rfl) oq_52 (by decide)
def Qad.ok (N:Nat) (x:Qad):Prop:=isI x.type_∧isI x.start∧(fun l:List (Bool)=>l.length≤N∧∀ x∈l,(fun _:Bool=>True) x) x.rests∧(fun l:List (Qaa)=>l.length≤N∧∀ x∈l,(Qaa.ok N) x) x.visits∧True
theorem oq_34:Opens Tryz.prog N 34 (rdE 4 Qad.enc (Qad.ok N) (fun _=>rfl)):=QlW Tryz.underlying34 (by kernel_rfl) (.cons rfl oq_3 (.cons rfl oq_3 (.cons rfl oq_31 (.cons rfl oq_32 .nil)))) rfl (HE.pair HE.rd (HE.pair HE.rd (HE.pair HE.rd (HE.pair HE.rd HE.unit)))) (fun a=>⟨a.1,a.2.1,a.2.2.1,a.2.2.2.1⟩) (fun _=>rfl) (fun _ h=>h)
def Qas.ok (N:Nat) (x:Qas):Prop:=(fun l:List (Qad)=>l.length≤N∧∀ x∈l,(Qad.ok N) x) x.routes∧(fun l:List (Int)=>l.length≤N∧∀ x∈l,isI x) x.unserved∧True
end Go.Proofs.YtpkkaboonnedfaaGreatDoor
