/- Part MT of the proof: texts Yt Yd Yo. -/
import Derived.Test.YtpkkaboonnedfaaGreatDoorMA
import Derived.Test.YtpkkaboonnedfaaGreatDoorMC
namespace Go.Proofs.YtpkkaboonnedfaaGreatDoor
set_option linter.unusedVariables false
set_option linter.unusedSectionVars false
set_option linter.unusedSimpArgs false
def e_i64 (n:Int):List Lf:=[.int .i64 n]
def e_u8 (n:Int):List Lf:=[.int .u8 n]
def e_fn (n:Nat):List Lf:=[.fn (.func n) []]
def Qdt (b:Bool):List Lf:=[.bool b]
def e_str (s:ByteArray):List Lf:=[.str s]
structure Qaa where
  err:Int
  at_:ByteArray
instance:DecidableEq Qaa:=fun a b=>decidable_of_iff (a.err=b.err∧a.at_=b.at_) (by cases a; cases b; simp)
structure Qao where
  t:Int
  a:Int
instance:DecidableEq Qao:=fun a b=>decidable_of_iff (a.t=b.t∧a.a=b.a) (by cases a; cases b; simp)
structure Qas where
  from_:Int
  to_:Int
  profile:Int
  miles:Int
  travel:List Qao
  slow:List Qao
instance:DecidableEq Qas:=fun a b=>decidable_of_iff (a.from_=b.from_∧a.to_=b.to_∧a.profile=b.profile∧a.miles=b.miles∧a.travel=b.travel∧a.slow=b.slow) (by cases a; cases b; simp)
structure Qai where
  places:List ByteArray
  arcs:List Qas
instance:DecidableEq Qai:=fun a b=>decidable_of_iff (a.places=b.places∧a.arcs=b.arcs) (by cases a; cases b; simp)
structure Qaj where
  name:ByteArray
  count:Int
  from_:Int
  to_:Int
  cap:List Int
  skills:Int
  profile:Int
  open_:Int
  close:Int
  drive:Int
  rest_:Int
  fixed:Int
  perMile:Int
  perTick:Int
instance:DecidableEq Qaj:=fun a b=>decidable_of_iff (a.name=b.name∧a.count=b.count∧a.from_=b.from_∧a.to_=b.to_∧a.cap=b.cap∧a.skills=b.skills∧a.profile=b.profile∧a.open_=b.open_∧a.close=b.close∧a.drive=b.drive∧a.rest_=b.rest_∧a.fixed=b.fixed∧a.perMile=b.perMile∧a.perTick=b.perTick) (by cases a; cases b; simp)
structure Qau where
  place:Int
  open_:Int
  close:Int
  service:Int
instance:DecidableEq Qau:=fun a b=>decidable_of_iff (a.place=b.place∧a.open_=b.open_∧a.close=b.close∧a.service=b.service) (by cases a; cases b; simp)
structure Qag where
  name:ByteArray
  load:List Int
  pick:Qau
  drop:Qau
  skills:Int
  penalty:Int
  split:Int
  last_:Int
  now:Int
  off:Bool
instance:DecidableEq Qag:=fun a b=>decidable_of_iff (a.name=b.name∧a.load=b.load∧a.pick=b.pick∧a.drop=b.drop∧a.skills=b.skills∧a.penalty=b.penalty∧a.split=b.split∧a.last_=b.last_∧a.now=b.now∧a.off=b.off) (by cases a; cases b; simp)
structure QaW where
  x0:Int
  x1:Int
instance:DecidableEq QaW:=fun a b=>decidable_of_iff (a.x0=b.x0∧a.x1=b.x1) (by cases a; cases b; simp)
structure Qac where
  net:Qai
  types:List Qaj
  orders:List Qag
  apart:List QaW
  before:List QaW
instance:DecidableEq Qac:=fun a b=>decidable_of_iff (a.net=b.net∧a.types=b.types∧a.orders=b.orders∧a.apart=b.apart∧a.before=b.before) (by cases a; cases b; simp)
structure Qab where
  order:Int
  drop:Bool
instance:DecidableEq Qab:=fun a b=>decidable_of_iff (a.order=b.order∧a.drop=b.drop) (by cases a; cases b; simp)
structure Qad where
  type_:Int
  start:Int
  rests:List Bool
  visits:List Qab
instance:DecidableEq Qad:=fun a b=>decidable_of_iff (a.type_=b.type_∧a.start=b.start∧a.rests=b.rests∧a.visits=b.visits) (by cases a; cases b; simp)
structure Qaw where
  x:Qac
  t:Qaj
  r:Qad
  stops:List Qau
instance:DecidableEq Qaw:=fun a b=>decidable_of_iff (a.x=b.x∧a.t=b.t∧a.r=b.r∧a.stops=b.stops) (by cases a; cases b; simp)
structure Qar where
  arrive:Int
  begin:Int
  depart:Int
  rest_:Bool
instance:DecidableEq Qar:=fun a b=>decidable_of_iff (a.arrive=b.arrive∧a.begin=b.begin∧a.depart=b.depart∧a.rest_=b.rest_) (by cases a; cases b; simp)
structure Qap where
  rest_:Bool
  depart:Int
  times:List Qar
  end_:Int
  miles:Int
instance:DecidableEq Qap:=fun a b=>decidable_of_iff (a.rest_=b.rest_∧a.depart=b.depart∧a.times=b.times∧a.end_=b.end_∧a.miles=b.miles) (by cases a; cases b; simp)
structure Qaf where
  ready:Int
  since:Int
  sheet:Qap
instance:DecidableEq Qaf:=fun a b=>decidable_of_iff (a.ready=b.ready∧a.since=b.since∧a.sheet=b.sheet) (by cases a; cases b; simp)
structure Qhz where
  from_:Int
  to_:Int
  profile:Int
instance:DecidableEq Qhz:=fun a b=>decidable_of_iff (a.from_=b.from_∧a.to_=b.to_∧a.profile=b.profile) (by cases a; cases b; simp)
structure Qwi where
  x0:Int
  x1:Int
  x2:Int
  x3:Int
  x4:Int
  x5:Int
  x6:Int
  x7:Int
  x8:Int
  x9:Int
  x10:Int
  x11:Int
  x12:Int
  x13:Int
  x14:Int
  x15:Int
  x16:Int
  x17:Int
  x18:Int
  x19:Int
  x20:Int
  x21:Int
  x22:Int
  x23:Int
instance:DecidableEq Qwi:=fun a b=>decidable_of_iff (a.x0=b.x0∧a.x1=b.x1∧a.x2=b.x2∧a.x3=b.x3∧a.x4=b.x4∧a.x5=b.x5∧a.x6=b.x6∧a.x7=b.x7∧a.x8=b.x8∧a.x9=b.x9∧a.x10=b.x10∧a.x11=b.x11∧a.x12=b.x12∧a.x13=b.x13∧a.x14=b.x14∧a.x15=b.x15∧a.x16=b.x16∧a.x17=b.x17∧a.x18=b.x18∧a.x19=b.x19∧a.x20=b.x20∧a.x21=b.x21∧a.x22=b.x22∧a.x23=b.x23) (by cases a; cases b; simp)
structure QaG where
  cost:Int
  moved:Int
  other:Int
  work:Int
instance:DecidableEq QaG:=fun a b=>decidable_of_iff (a.cost=b.cost∧a.moved=b.moved∧a.other=b.other∧a.work=b.work) (by cases a; cases b; simp)
structure QvN where
  x0:Int
  x1:Int
  x2:Int
  x3:Int
instance:DecidableEq QvN:=fun a b=>decidable_of_iff (a.x0=b.x0∧a.x1=b.x1∧a.x2=b.x2∧a.x3=b.x3) (by cases a; cases b; simp)
structure Qam where
  routes:List Qad
  unserved:List Int
instance:DecidableEq Qam:=fun a b=>decidable_of_iff (a.routes=b.routes∧a.unserved=b.unserved) (by cases a; cases b; simp)
structure Qan where
  at_:Int
  route:Qad
  increase:Int
instance:DecidableEq Qan:=fun a b=>decidable_of_iff (a.at_=b.at_∧a.route=b.route∧a.increase=b.increase) (by cases a; cases b; simp)
structure Qe6 where
  x0:Int
  x1:Int
  x2:Int
instance:DecidableEq Qe6:=fun a b=>decidable_of_iff (a.x0=b.x0∧a.x1=b.x1∧a.x2=b.x2) (by cases a; cases b; simp)
structure QaH where
  place:Int
  time:Int
  driven:Int
  miles:Int
instance:DecidableEq QaH:=fun a b=>decidable_of_iff (a.place=b.place∧a.time=b.time∧a.driven=b.driven∧a.miles=b.miles) (by cases a; cases b; simp)
structure QiH where
  ok:Bool
  route:Qad
  price:Int
instance:DecidableEq QiH:=fun a b=>decidable_of_iff (a.ok=b.ok∧a.route=b.route∧a.price=b.price) (by cases a; cases b; simp)
structure QgA where
  ok:Bool
  place:Int
  route:Qad
  increase:Int
instance:DecidableEq QgA:=fun a b=>decidable_of_iff (a.ok=b.ok∧a.place=b.place∧a.route=b.route∧a.increase=b.increase) (by cases a; cases b; simp)
def Qaa.enc (x:Qaa):List Lf:=[lI x.err,.str x.at_]
def Qao.enc (x:Qao):List Lf:=[lI x.t,lI x.a]
def Qas.enc (x:Qas):List Lf:=[lI x.from_,lI x.to_,lI x.profile,lI x.miles,lL 2 x.travel Qao.enc,lL 2 x.slow Qao.enc]
def Qai.enc (x:Qai):List Lf:=[lL 1 x.places e_str,lL 6 x.arcs Qas.enc]
def Qaj.enc (x:Qaj):List Lf:=[.str x.name,lI x.count,lI x.from_,lI x.to_,lL 1 x.cap e_i64,lI x.skills,lI x.profile,lI x.open_,lI x.close,lI x.drive,lI x.rest_,lI x.fixed,lI x.perMile,lI x.perTick]
def Qau.enc (x:Qau):List Lf:=[lI x.place,lI x.open_,lI x.close,lI x.service]
def Qag.enc (x:Qag):List Lf:=[.str x.name,lL 1 x.load e_i64,lI x.pick.place,lI x.pick.open_,lI x.pick.close,lI x.pick.service,lI x.drop.place,lI x.drop.open_,lI x.drop.close,lI x.drop.service,lI x.skills,lI x.penalty,lI x.split,lI x.last_,lI x.now,.bool x.off]
def QaW.enc (x:QaW):List Lf:=[lI x.x0,lI x.x1]
def Qac.enc (x:Qac):List Lf:=[lL 1 x.net.places e_str,lL 6 x.net.arcs Qas.enc,lL 14 x.types Qaj.enc,lL 16 x.orders Qag.enc,lL 2 x.apart QaW.enc,lL 2 x.before QaW.enc]
def Qab.enc (x:Qab):List Lf:=[lI x.order,.bool x.drop]
def Qad.enc (x:Qad):List Lf:=[lI x.type_,lI x.start,lL 1 x.rests Qdt,lL 2 x.visits Qab.enc]
def Qaw.enc (x:Qaw):List Lf:=[lL 1 x.x.net.places e_str,lL 6 x.x.net.arcs Qas.enc,lL 14 x.x.types Qaj.enc,lL 16 x.x.orders Qag.enc,lL 2 x.x.apart QaW.enc,lL 2 x.x.before QaW.enc,.str x.t.name,lI x.t.count,lI x.t.from_,lI x.t.to_,lL 1 x.t.cap e_i64,lI x.t.skills,lI x.t.profile,lI x.t.open_,lI x.t.close,lI x.t.drive,lI x.t.rest_,lI x.t.fixed,lI x.t.perMile,lI x.t.perTick,lI x.r.type_,lI x.r.start,lL 1 x.r.rests Qdt,lL 2 x.r.visits Qab.enc,lL 4 x.stops Qau.enc]
def Qar.enc (x:Qar):List Lf:=[lI x.arrive,lI x.begin,lI x.depart,.bool x.rest_]
def Qap.enc (x:Qap):List Lf:=[.bool x.rest_,lI x.depart,lL 4 x.times Qar.enc,lI x.end_,lI x.miles]
def Qaf.enc (x:Qaf):List Lf:=[lI x.ready,lI x.since,.bool x.sheet.rest_,lI x.sheet.depart,lL 4 x.sheet.times Qar.enc,lI x.sheet.end_,lI x.sheet.miles]
def Qhz.enc (x:Qhz):List Lf:=[lI x.from_,lI x.to_,lI x.profile]
def Qwi.enc (x:Qwi):List Lf:=[.int .u8 x.x0,.int .u8 x.x1,.int .u8 x.x2,.int .u8 x.x3,.int .u8 x.x4,.int .u8 x.x5,.int .u8 x.x6,.int .u8 x.x7,.int .u8 x.x8,.int .u8 x.x9,.int .u8 x.x10,.int .u8 x.x11,.int .u8 x.x12,.int .u8 x.x13,.int .u8 x.x14,.int .u8 x.x15,.int .u8 x.x16,.int .u8 x.x17,.int .u8 x.x18,.int .u8 x.x19,.int .u8 x.x20,.int .u8 x.x21,.int .u8 x.x22,.int .u8 x.x23]
def QaG.enc (x:QaG):List Lf:=[lI x.cost,lI x.moved,lI x.other,lI x.work]
def QvN.enc (x:QvN):List Lf:=[lI x.x0,lI x.x1,lI x.x2,lI x.x3]
def Qam.enc (x:Qam):List Lf:=[lL 4 x.routes Qad.enc,lL 1 x.unserved e_i64]
def Qan.enc (x:Qan):List Lf:=[lI x.at_,lI x.route.type_,lI x.route.start,lL 1 x.route.rests Qdt,lL 2 x.route.visits Qab.enc,lI x.increase]
def Qe6.enc (x:Qe6):List Lf:=[lI x.x0,lI x.x1,lI x.x2]
def QaH.enc (x:QaH):List Lf:=[lI x.place,lI x.time,lI x.driven,lI x.miles]
def QiH.enc (x:QiH):List Lf:=[.bool x.ok,lI x.route.type_,lI x.route.start,lL 1 x.route.rests Qdt,lL 2 x.route.visits Qab.enc,lI x.price]
def QgA.enc (x:QgA):List Lf:=[.bool x.ok,lI x.place,lI x.route.type_,lI x.route.start,lL 1 x.route.rests Qdt,lL 2 x.route.visits Qab.enc,lI x.increase]
def QgB (l:List Int):List Lf:=[.sl false 1 (l.map e_i64)]
def es_T_api_Visit.enc (l:List Qab):List Lf:=[.sl false 2 (l.map Qab.enc)]
def QcC:ByteArray:=⟨#[32]⟩
def Qs8:ByteArray:=⟨#[45]⟩
def QjO:ByteArray:=⟨#[112,108,97,99,101,115]⟩
def Qdb:ByteArray:=⟨#[112,108,97,99,101,32]⟩
def QaS:ByteArray:=⟨#[97,114,99,32]⟩
def QoJ:ByteArray:=⟨#[97,114,99,115]⟩
def QrU:ByteArray:=⟨#[97,112,97,114,116]⟩
def QqM:ByteArray:=⟨#[98,101,102,111,114,101]⟩
def QtR:ByteArray:=⟨#[110,101,116]⟩
def QuB:ByteArray:=⟨#[116,121,112,101,115]⟩
def QtS:ByteArray:=⟨#[111,114,100,101,114,115]⟩
def QuA:ByteArray:=⟨#[114,117,108,101,115]⟩
def QlL:ByteArray:=⟨#[48,49,50,51,52,53,54,55,56,57,97,98,99,100,101,102,103,104,105,106,107,108,109,110,111,112,113,114,115,116,117,118,119,120,121,122]⟩
def QlK:ByteArray:=⟨#[48,48,48,49,48,50,48,51,48,52,48,53,48,54,48,55,48,56,48,57,49,48,49,49,49,50,49,51,49,52,49,53,49,54,49,55,49,56,49,57,50,48,50,49,50,50,50,51,50,52,50,53,50,54,50,55,50,56,50,57,51,48,51,49,51,50,51,51,51,52,51,53,51,54,51,55,51,56,51,57,52,48,52,49,52,50,52,51,52,52,52,53,52,54,52,55,52,56,52,57,53,48,53,49,53,50,53,51,53,52,53,53,53,54,53,55,53,56,53,57,54,48,54,49,54,50,54,51,54,52,54,53,54,54,54,55,54,56,54,57,55,48,55,49,55,50,55,51,55,52,55,53,55,54,55,55,55,56,55,57,56,48,56,49,56,50,56,51,56,52,56,53,56,54,56,55,56,56,56,57,57,48,57,49,57,50,57,51,57,52,57,53,57,54,57,55,57,56,57,57]⟩
def QlM:ByteArray:=⟨#[0,1,2,2,3,3,3,3,4,4,4,4,4,4,4,4,5,5,5,5,5,5,5,5,5,5,5,5,5,5,5,5,6,6,6,6,6,6,6,6,6,6,6,6,6,6,6,6,6,6,6,6,6,6,6,6,6,6,6,6,6,6,6,6,7,7,7,7,7,7,7,7,7,7,7,7,7,7,7,7,7,7,7,7,7,7,7,7,7,7,7,7,7,7,7,7,7,7,7,7,7,7,7,7,7,7,7,7,7,7,7,7,7,7,7,7,7,7,7,7,7,7,7,7,7,7,7,7,8,8,8,8,8,8,8,8,8,8,8,8,8,8,8,8,8,8,8,8,8,8,8,8,8,8,8,8,8,8,8,8,8,8,8,8,8,8,8,8,8,8,8,8,8,8,8,8,8,8,8,8,8,8,8,8,8,8,8,8,8,8,8,8,8,8,8,8,8,8,8,8,8,8,8,8,8,8,8,8,8,8,8,8,8,8,8,8,8,8,8,8,8,8,8,8,8,8,8,8,8,8,8,8,8,8,8,8,8,8,8,8,8,8,8,8,8,8,8,8,8,8,8,8,8,8,8,8]⟩
def Qgc:ByteArray:=⟨#[72,117,98]⟩
def Qj7:ByteArray:=⟨#[65]⟩
def Qj8:ByteArray:=⟨#[66]⟩
def Qon:ByteArray:=⟨#[118]⟩
def Qqq:ByteArray:=⟨#[111]⟩
def Qqr:ByteArray:=⟨#[112]⟩
end Go.Proofs.YtpkkaboonnedfaaGreatDoor
namespace Go.Proofs.YtpkkaboonnedfaaGreatDoor
set_option linter.unusedVariables false
set_option linter.unusedSectionVars false
set_option linter.unusedSimpArgs false
noncomputable def Qfi (word:ByteArray) (l:List Qaa) (l1:List Qaa) (i:Int) (at_:ByteArray):Option ((List Qaa×Int)⊕(List Qaa)):=bnd (getI l i) fun x1=>chk (okN (l1++[(Qaa.mk x1.err at_)]).length 24) (some (.inl ((l1++[(Qaa.mk x1.err at_)]),(addK .i64 i 1))))
noncomputable def Qd1 (word:ByteArray) (l:List Qaa) (l1:List Qaa) (i:Int):Option ((List Qaa×Int)⊕(List Qaa)):=br (ltI i (lenI l)) (bnd (getI l i) fun x0=>br (eqS x0.at_ ByteArray.empty) (Qfi word l l1 i word) (chk (word.size+QcC.size≤9223372036854775807) (chk ((catS word QcC).size+x0.at_.size≤9223372036854775807) (Qfi word l l1 i (catS (catS word QcC) x0.at_))))) (some (.inr l1))
noncomputable def QfK (word:ByteArray) (l:List Qaa):Option (List Qaa):=bnd (loopF (fun s=>Qd1 word l s.1 s.2) ([],0)) (fun l2=>some l2)
noncomputable def Qc7 (n:Int) (s0:ByteArray) (left:Int) (d:Int):Option ((ByteArray×Int×Bool)⊕(ByteArray)):=chk ((Qpi [(cvK .u8 (addK .i64 48 d))]).size+s0.size≤9223372036854775807) (some (.inl ((catS (Qpi [(cvK .u8 (addK .i64 48 d))]) s0),(quoK .i64 left 10),(neI (quoK .i64 left 10) 0))))
noncomputable def Qfx (n:Int) (s0:ByteArray) (left:Int) (again:Bool):Option ((ByteArray×Int×Bool)⊕(ByteArray)):=br again (br (ltI (remK left 10) 0) (Qc7 n s0 left (subK .i64 0 (remK left 10))) (Qc7 n s0 left (remK left 10))) (some (.inr s0))
noncomputable def QbU (n:Int):Option ByteArray:=bnd (loopF (fun s=>Qfx n s.1 s.2.1 s.2.2) (ByteArray.empty,n,true)) (fun s1=>br (ltI n 0) (chk (Qs8.size+s1.size≤9223372036854775807) (some (catS Qs8 s1))) (some s1))
noncomputable def Qh6 (c:Int):Option Bool:=some ((geI c 48)&&(leI c 57))
noncomputable def QjV (c:Int):Option Bool:=some ((((geI c 97)&&(leI c 122))||((geI c 65)&&(leI c 90)))||(eqI c 95))
noncomputable def Qex (s0:ByteArray) (b:UInt8) (i:Int):Option ((Int)⊕((Unit)⊕(Bool))):=br (ltI i (sizeS s0)) (bnd (getS s0 i) fun b1=>bnd (QjV (byteI b1)) fun r1=>br r1 (some (.inl (addK .i64 i 1))) (bnd (Qh6 (byteI b1)) fun r2=>br r2 (some (.inl (addK .i64 i 1))) (some (.inr (.inr false))))) (some (.inr (.inl ())))
noncomputable def Qfp (s0:ByteArray):Option Bool:=br ((ltI (sizeS s0) 1)||(gtI (sizeS s0) 16)) (some false) (bnd (getS s0 0) fun b=>bnd (Qh6 (byteI b)) fun r=>br r (some false) (bnd (loopF (fun s=>Qex s0 b s) 0) (fun e=>sel e (fun (_:Unit)=>some true) (fun r3=>some r3))))
noncomputable def QdM (l:List Qao) (i:Int) (x0:Qao) (l3:List Qaa):Option ((List Qaa×Int)⊕(List Qaa)):=br (gtI i 0) (bnd (getI l (subK .i64 i 1)) fun x1=>br (leI x0.t x1.t) (bnd (QbU i) fun r1=>chk (okN (l3++[(Qaa.mk 13 r1)]).length 24) (some (.inl ((l3++[(Qaa.mk 13 r1)]),(addK .i64 i 1))))) (br (ltI x0.a x1.a) (bnd (QbU i) fun r2=>chk (okN (l3++[(Qaa.mk 13 r2)]).length 24) (some (.inl ((l3++[(Qaa.mk 13 r2)]),(addK .i64 i 1))))) (some (.inl (l3,(addK .i64 i 1)))))) (some (.inl (l3,(addK .i64 i 1))))
noncomputable def QcY (l:List Qao) (l2:List Qaa) (i:Int):Option ((List Qaa×Int)⊕(List Qaa)):=br (ltI i (lenI l)) (bnd (getI l i) fun x0=>br ((((ltI x0.t 0)||(gtI x0.t 4096))||(ltI x0.a x0.t))||(gtI x0.a (addK .i64 x0.t 4096))) (bnd (QbU i) fun r=>chk (okN (l2++[(Qaa.mk 2 r)]).length 24) (QdM l i x0 (l2++[(Qaa.mk 2 r)]))) (QdM l i x0 l2)) (some (.inr l2))
noncomputable def Qfb (l:List Qao) (l1:List Qaa):Option (List Qaa):=bnd (loopF (fun s=>QcY l s.1 s.2) (l1,0)) (fun l4=>some l4)
noncomputable def QeN (l:List Qao):Option (List Qaa):=br ((ltI (lenI l) 1)||(gtI (lenI l) 16)) (chk (okN [(Qaa.mk 4 ByteArray.empty)].length 24) (Qfb l [(Qaa.mk 4 ByteArray.empty)])) (Qfb l [])
noncomputable def Qge (t:Int):Option Bool:=some ((geI t 0)&&(leI t 4096))
noncomputable def QbX (n:Qai) (i:Int) (r:ByteArray) (x0:Qas) (l:List Qaa) (l1:List Qaa) (twice:Bool) (k:Int):Option ((Bool×Int)⊕(Bool)):=br (ltI k i) (bnd (getI n.arcs k) fun x1=>some (.inl ((twice||(((eqI x0.from_ x1.from_)&&(eqI x0.to_ x1.to_))&&(eqI x0.profile x1.profile))),(addK .i64 k 1)))) (some (.inr twice))
noncomputable def QbY (r:ByteArray) (x0:Qas) (l:List Qaa) (r1:List Qaa) (l3:List Qaa) (k1:Int):Option ((List Qaa×Int)⊕(List Qaa)):=br (ltI k1 (lenI r1)) (bnd (getI r1 k1) fun x2=>chk (okN (l3++[(Qaa.mk x2.err (catS QaS r))]).length 24) (some (.inl ((l3++[(Qaa.mk x2.err (catS QaS r))]),(addK .i64 k1 1))))) (some (.inr l3))
noncomputable def QbZ (r:ByteArray) (x0:Qas) (l:List Qaa) (l6:List Qaa) (k2:Int):Option ((List Qaa×Int)⊕(List Qaa)):=br (ltI k2 (lenI x0.slow)) (bnd (getI x0.slow k2) fun x3=>bnd (Qge x3.t) fun r2=>br r2 (bnd (Qge x3.a) fun r3=>br r3 (br (gtI k2 0) (bnd (getI x0.slow (subK .i64 k2 1)) fun x4=>br (leI x3.t x4.t) (chk (okN (l6++[(Qaa.mk 2 (catS QaS r))]).length 24) (some (.inl ((l6++[(Qaa.mk 2 (catS QaS r))]),(addK .i64 k2 1))))) (some (.inl (l6,(addK .i64 k2 1))))) (some (.inl (l6,(addK .i64 k2 1))))) (chk (okN (l6++[(Qaa.mk 2 (catS QaS r))]).length 24) (some (.inl ((l6++[(Qaa.mk 2 (catS QaS r))]),(addK .i64 k2 1)))))) (chk (okN (l6++[(Qaa.mk 2 (catS QaS r))]).length 24) (some (.inl ((l6++[(Qaa.mk 2 (catS QaS r))]),(addK .i64 k2 1)))))) (some (.inr l6))
noncomputable def QbM (r:ByteArray) (x0:Qas) (l:List Qaa) (l5:List Qaa):Option (List Qaa):=bnd (loopF (fun s=>QbZ r x0 l s.1 s.2) (l5,0)) (fun l7=>some l7)
noncomputable def QbW (r:ByteArray) (x0:Qas) (l:List Qaa) (l2:List Qaa):Option (List Qaa):=bnd (QeN x0.travel) fun r1=>bnd (loopF (fun s=>QbY r x0 l r1 s.1 s.2) (l2,0)) (fun l4=>br (gtI (lenI x0.slow) 16) (chk (okN (l4++[(Qaa.mk 4 (catS QaS r))]).length 24) (QbM r x0 l (l4++[(Qaa.mk 4 (catS QaS r))]))) (QbM r x0 l l4))
noncomputable def QcR (n:Qai) (i:Int) (r:ByteArray) (x0:Qas) (l:List Qaa) (l1:List Qaa):Option (List Qaa):=bnd (loopF (fun s=>QbX n i r x0 l l1 s.1 s.2) (false,0)) (fun twice1=>br twice1 (chk (okN (l1++[(Qaa.mk 6 (catS QaS r))]).length 24) (QbW r x0 l (l1++[(Qaa.mk 6 (catS QaS r))]))) (QbW r x0 l l1))
noncomputable def QcQ (n:Qai) (i:Int) (r:ByteArray) (x0:Qas) (l:List Qaa):Option (List Qaa):=br (((((ltI x0.profile 0)||(gtI x0.profile 7))||(ltI x0.miles 0))||(gtI x0.miles 10000))||(eqI x0.from_ x0.to_)) (chk (okN (l++[(Qaa.mk 2 (catS QaS r))]).length 24) (QcR n i r x0 l (l++[(Qaa.mk 2 (catS QaS r))]))) (QcR n i r x0 l l)
noncomputable def Qfd (n:Qai) (i:Int):Option (List Qaa):=bnd (QbU i) fun r=>chk (QaS.size+r.size≤9223372036854775807) (bnd (getI n.arcs i) fun x0=>br ((((ltI x0.from_ 0)||(geI x0.from_ (lenI n.places)))||(ltI x0.to_ 0))||(geI x0.to_ (lenI n.places))) (chk (okN [(Qaa.mk 11 (catS QaS r))].length 24) (QcQ n i r x0 [(Qaa.mk 11 (catS QaS r))])) (QcQ n i r x0 []))
noncomputable def Qbf (n:Qai) (l:List Qaa) (l1:List Qaa) (i:Int) (r:ByteArray) (twice:Bool) (k:Int):Option ((Bool×Int)⊕(Bool)):=br (ltI k i) (br twice (some (.inl (true,(addK .i64 k 1)))) (bnd (getI n.places k) fun x1=>bnd (getI n.places i) fun x2=>some (.inl ((eqS x1 x2),(addK .i64 k 1))))) (some (.inr twice))
noncomputable def Qbe (n:Qai) (l:List Qaa) (l1:List Qaa) (i:Int):Option ((List Qaa×Int)⊕(List Qaa)):=br (ltI i (lenI n.places)) (bnd (QbU i) fun r=>chk (Qdb.size+r.size≤9223372036854775807) (bnd (getI n.places i) fun x0=>bnd (Qfp x0) fun r1=>br r1 (bnd (loopF (fun s=>Qbf n l l1 i r s.1 s.2) (false,0)) (fun twice1=>br twice1 (chk (okN (l1++[(Qaa.mk 6 (catS Qdb r))]).length 24) (some (.inl ((l1++[(Qaa.mk 6 (catS Qdb r))]),(addK .i64 i 1))))) (some (.inl (l1,(addK .i64 i 1)))))) (chk (okN (l1++[(Qaa.mk 5 (catS Qdb r))]).length 24) (some (.inl ((l1++[(Qaa.mk 5 (catS Qdb r))]),(addK .i64 i 1))))))) (some (.inr l1))
noncomputable def Qca (n:Qai) (l:List Qaa):Option (List Qaa):=bnd (loopF (fun s=>Qbe n l s.1 s.2) (l,0)) (fun l2=>some l2)
noncomputable def QcK (n:Qai):Option (List Qaa):=br (gtI (lenI n.places) 24) (chk (okN [(Qaa.mk 4 QjO)].length 24) (Qca n [(Qaa.mk 4 QjO)])) (Qca n [])
noncomputable def QcE (n:Qai) (l:List Qaa) (l1:List Qaa) (i:Int):Option ((List Qaa×Int)⊕(List Qaa)):=br (ltI i (lenI n.arcs)) (bnd (Qfd n i) fun r1=>chk (okN (l1++r1).length 24) (some (.inl ((l1++r1),(addK .i64 i 1))))) (some (.inr l1))
noncomputable def Qfc (n:Qai) (l:List Qaa):Option (List Qaa):=bnd (loopF (fun s=>QcE n l s.1 s.2) (l,0)) (fun l2=>some l2)
noncomputable def QgF (n:Qai):Option (List Qaa):=bnd (QcK n) fun r=>br (gtI (lenI n.arcs) 1024) (chk (okN (r++[(Qaa.mk 4 QoJ)]).length 24) (Qfc n (r++[(Qaa.mk 4 QoJ)]))) (Qfc n r)
noncomputable def QaQ (n:Int) (lo:Int) (hi:Int):Option Bool:=some ((geI n lo)&&(leI n hi))
noncomputable def Qfq (l:List Qaj):Option Int:=br (eqI (lenI l) 0) (some 0) (bnd (getI l 0) fun x0=>some (lenI x0.cap))
noncomputable def Qcb (l:List Qaj) (at_:Int) (name:ByteArray) (i:Int):Option ((Int)⊕((Unit)⊕(Bool))):=br (ltI i at_) (bnd (getI l i) fun x0=>br (eqS x0.name name) (some (.inr (.inr true))) (some (.inl (addK .i64 i 1)))) (some (.inr (.inl ())))
noncomputable def QgH (l:List Qaj) (at_:Int) (name:ByteArray):Option Bool:=bnd (loopF (fun s=>Qcb l at_ name s) 0) (fun e=>sel e (fun (_:Unit)=>some false) (fun r=>some r))
noncomputable def QbN (l:List Int) (i:Int):Option ((Int)⊕((Unit)⊕(Bool))):=br (ltI i (lenI l)) (bnd (getI l i) fun x0=>bnd (QaQ x0 0 1000) fun r1=>br r1 (some (.inl (addK .i64 i 1))) (some (.inr (.inr false)))) (some (.inr (.inl ())))
noncomputable def QdN (l:List Int) (dims:Int):Option Bool:=bnd (QaQ (lenI l) 1 3) fun r=>br ((!r)||(neI (lenI l) dims)) (some false) (bnd (loopF (fun s=>QbN l s) 0) (fun e=>sel e (fun (_:Unit)=>some true) (fun r2=>some r2)))
noncomputable def QdV (x0:Qaj) (l8:List Int):Option (List Int):=bnd (QaQ x0.profile 0 7) fun r11=>br r11 (bnd (QaQ x0.fixed 0 100000) fun r12=>br r12 (bnd (QaQ x0.perMile 0 100) fun r13=>br r13 (bnd (QaQ x0.perTick 0 100) fun r14=>br r14 (some l8) (chk (okN (l8++[2]).length 8) (some (l8++[2])))) (chk (okN (l8++[2]).length 8) (some (l8++[2])))) (chk (okN (l8++[2]).length 8) (some (l8++[2])))) (chk (okN (l8++[2]).length 8) (some (l8++[2])))
noncomputable def QdU (x0:Qaj) (l7:List Int):Option (List Int):=bnd (QaQ x0.drive 1 4096) fun r9=>br r9 (bnd (QaQ x0.rest_ 0 4096) fun r10=>br r10 (QdV x0 l7) (chk (okN (l7++[16]).length 8) (QdV x0 (l7++[16])))) (chk (okN (l7++[16]).length 8) (bnd (QaQ x0.profile 0 7) fun r15=>br r15 (bnd (QaQ x0.fixed 0 100000) fun r16=>br r16 (bnd (QaQ x0.perMile 0 100) fun r17=>br r17 (bnd (QaQ x0.perTick 0 100) fun r18=>br r18 (some (l7++[16])) (chk (okN ((l7++[16])++[2]).length 8) (some ((l7++[16])++[2])))) (chk (okN ((l7++[16])++[2]).length 8) (some ((l7++[16])++[2])))) (chk (okN ((l7++[16])++[2]).length 8) (some ((l7++[16])++[2])))) (chk (okN ((l7++[16])++[2]).length 8) (some ((l7++[16])++[2])))))
noncomputable def QdT (x0:Qaj) (l6:List Int):Option (List Int):=bnd (QaQ x0.open_ 0 x0.close) fun r8=>br ((!r8)||(gtI x0.close 4096)) (chk (okN (l6++[15]).length 8) (QdU x0 (l6++[15]))) (QdU x0 l6)
noncomputable def QdS (x0:Qaj) (l5:List Int):Option (List Int):=bnd (QaQ x0.skills 0 1073741823) fun r7=>br r7 (QdT x0 l5) (chk (okN (l5++[18]).length 8) (QdT x0 (l5++[18])))
noncomputable def QdR (l:List Qaj) (x0:Qaj) (l4:List Int):Option (List Int):=bnd (Qfq l) fun r5=>bnd (QdN x0.cap r5) fun r6=>br r6 (QdS x0 l4) (chk (okN (l4++[17]).length 8) (QdS x0 (l4++[17])))
noncomputable def QfX (x0:Qaj) (l12:List Int):Option (List Int):=bnd (QaQ x0.profile 0 7) fun r25=>br r25 (bnd (QaQ x0.fixed 0 100000) fun r26=>br r26 (bnd (QaQ x0.perMile 0 100) fun r27=>br r27 (bnd (QaQ x0.perTick 0 100) fun r28=>br r28 (some l12) (chk (okN (l12++[2]).length 8) (some (l12++[2])))) (chk (okN (l12++[2]).length 8) (some (l12++[2])))) (chk (okN (l12++[2]).length 8) (some (l12++[2])))) (chk (okN (l12++[2]).length 8) (some (l12++[2])))
noncomputable def QfW (x0:Qaj) (l11:List Int):Option (List Int):=bnd (QaQ x0.drive 1 4096) fun r23=>br r23 (bnd (QaQ x0.rest_ 0 4096) fun r24=>br r24 (QfX x0 l11) (chk (okN (l11++[16]).length 8) (QfX x0 (l11++[16])))) (chk (okN (l11++[16]).length 8) (bnd (QaQ x0.profile 0 7) fun r29=>br r29 (bnd (QaQ x0.fixed 0 100000) fun r30=>br r30 (bnd (QaQ x0.perMile 0 100) fun r31=>br r31 (bnd (QaQ x0.perTick 0 100) fun r32=>br r32 (some (l11++[16])) (chk (okN ((l11++[16])++[2]).length 8) (some ((l11++[16])++[2])))) (chk (okN ((l11++[16])++[2]).length 8) (some ((l11++[16])++[2])))) (chk (okN ((l11++[16])++[2]).length 8) (some ((l11++[16])++[2])))) (chk (okN ((l11++[16])++[2]).length 8) (some ((l11++[16])++[2])))))
noncomputable def QfV (x0:Qaj) (l10:List Int):Option (List Int):=bnd (QaQ x0.open_ 0 x0.close) fun r22=>br ((!r22)||(gtI x0.close 4096)) (chk (okN (l10++[15]).length 8) (QfW x0 (l10++[15]))) (QfW x0 l10)
noncomputable def Qgq (x0:Qaj) (l9:List Int):Option (List Int):=bnd (QaQ x0.skills 0 1073741823) fun r21=>br r21 (QfV x0 l9) (chk (okN (l9++[18]).length 8) (QfV x0 (l9++[18])))
noncomputable def QdQ (n:Qai) (l:List Qaj) (x0:Qaj) (l3:List Int):Option (List Int):=bnd (QaQ x0.from_ 0 (subK .i64 (lenI n.places) 1)) fun r3=>br r3 (bnd (QaQ x0.to_ 0 (subK .i64 (lenI n.places) 1)) fun r4=>br r4 (QdR l x0 l3) (chk (okN (l3++[11]).length 8) (QdR l x0 (l3++[11])))) (chk (okN (l3++[11]).length 8) (bnd (Qfq l) fun r19=>bnd (QdN x0.cap r19) fun r20=>br r20 (Qgq x0 (l3++[11])) (chk (okN ((l3++[11])++[17]).length 8) (Qgq x0 ((l3++[11])++[17])))))
noncomputable def QdP (n:Qai) (l:List Qaj) (x0:Qaj) (l2:List Int):Option (List Int):=bnd (QaQ x0.count 0 10) fun r2=>br r2 (QdQ n l x0 l2) (chk (okN (l2++[22]).length 8) (QdQ n l x0 (l2++[22])))
noncomputable def QdO (n:Qai) (l:List Qaj) (at_:Int) (x0:Qaj) (l1:List Int):Option (List Int):=bnd (QgH l at_ x0.name) fun r1=>br r1 (chk (okN (l1++[6]).length 8) (QdP n l x0 (l1++[6]))) (QdP n l x0 l1)
noncomputable def QgI (n:Qai) (l:List Qaj) (at_:Int):Option (List Int):=bnd (getI l at_) fun x0=>bnd (Qfp x0.name) fun r=>br r (QdO n l at_ x0 []) (chk (okN [5].length 8) (QdO n l at_ x0 [5]))
noncomputable def Qgp (n:Qai) (l:List Qaj) (i:Int) (r1:List Int) (l3:List Qaa) (k:Int):Option ((List Qaa×Int)⊕(List Qaa)):=br (ltI k (lenI r1)) (bnd (getI r1 k) fun x0=>bnd (QbU i) fun r2=>chk (okN (l3++[(Qaa.mk x0 r2)]).length 24) (some (.inl ((l3++[(Qaa.mk x0 r2)]),(addK .i64 k 1))))) (some (.inr l3))
noncomputable def QcF (n:Qai) (l:List Qaj) (l2:List Qaa) (i:Int):Option ((List Qaa×Int)⊕(List Qaa)):=br (ltI i (lenI l)) (bnd (QgI n l i) fun r1=>bnd (loopF (fun s=>Qgp n l i r1 s.1 s.2) (l2,0)) (fun l4=>some (.inl (l4,(addK .i64 i 1))))) (some (.inr l2))
noncomputable def Qfe (n:Qai) (l:List Qaj) (l1:List Qaa):Option (List Qaa):=bnd (loopF (fun s=>QcF n l s.1 s.2) (l1,0)) (fun l5=>some l5)
noncomputable def QgG (n:Qai) (l:List Qaj):Option (List Qaa):=bnd (QaQ (lenI l) 1 6) fun r=>br r (Qfe n l []) (chk (okN [(Qaa.mk 4 ByteArray.empty)].length 24) (Qfe n l [(Qaa.mk 4 ByteArray.empty)]))
noncomputable def Qb0 (n:Int) (low:Int) (high:Int):Option Bool:=some ((geI n low)&&(leI n high))
noncomputable def Qb9 (a:List Int) (i:Int):Option ((Int)⊕((Unit)⊕(Bool))):=br (ltI i (lenI a)) (bnd (getI a i) fun x0=>br (ltI x0 0) (some (.inr (.inr false))) (br (gtI x0 1000) (some (.inr (.inr false))) (some (.inl (addK .i64 i 1))))) (some (.inr (.inl ())))
noncomputable def QeM (a:List Int) (dims:Int):Option Bool:=br (neI (lenI a) dims) (some false) (bnd (loopF (fun s=>Qb9 a s) 0) (fun e=>sel e (fun (_:Unit)=>some true) (fun r=>some r)))
noncomputable def QdH (s0:Qau):Option Int:=br ((((eqI s0.place (-1))&&(eqI s0.open_ 0))&&(eqI s0.close 0))&&(eqI s0.service 0)) (some 0) (br ((((((ltI s0.place 0)||(ltI s0.open_ 0))||(gtI s0.open_ s0.close))||(gtI s0.close 4096))||(ltI s0.service 0))||(gtI s0.service 4096)) (some 2) (some 0))
noncomputable def Qcc (places:Int) (dims:Int) (types:Int) (l:List Qag) (at_:Int) (x0:Qag) (l1:List Int) (i:Int):Option ((Int)⊕(List Int)):=br (ltI i at_) (bnd (getI l i) fun x1=>br (eqS x1.name x0.name) (chk (okN (l1++[6]).length 8) (some (.inr (l1++[6])))) (some (.inl (addK .i64 i 1)))) (some (.inr l1))
noncomputable def QdZ (types:Int) (x0:Qag) (l6:List Int):Option (List Int):=bnd (Qb0 x0.penalty (-1) 1000000) fun r6=>br r6 (bnd (Qb0 x0.split 1 4) fun r7=>br ((((((!r7)||((gtI x0.split 1)&&((neI x0.pick.place (-1))&&(neI x0.drop.place (-1)))))||(ltI x0.last_ (-1)))||(geI x0.last_ types))||(ltI x0.now (-1)))||(geI x0.now types)) (chk (okN (l6++[2]).length 8) (some (l6++[2]))) (some l6)) (chk (okN (l6++[2]).length 8) (some (l6++[2])))
noncomputable def Qgs (types:Int) (x0:Qag) (l8:List Int):Option (List Int):=bnd (Qb0 x0.penalty (-1) 1000000) fun r10=>br r10 (bnd (Qb0 x0.split 1 4) fun r11=>br ((((((!r11)||((gtI x0.split 1)&&((neI x0.pick.place (-1))&&(neI x0.drop.place (-1)))))||(ltI x0.last_ (-1)))||(geI x0.last_ types))||(ltI x0.now (-1)))||(geI x0.now types)) (chk (okN (l8++[2]).length 8) (some (l8++[2]))) (some l8)) (chk (okN (l8++[2]).length 8) (some (l8++[2])))
noncomputable def Qd0 (types:Int) (x0:Qag) (l7:List Int):Option (List Int):=bnd (Qb0 x0.skills 0 1073741823) fun r9=>br r9 (Qgs types x0 l7) (chk (okN (l7++[18]).length 8) (Qgs types x0 (l7++[18])))
noncomputable def QdY (types:Int) (x0:Qag) (l5:List Int):Option (List Int):=bnd (QdH x0.pick) fun r4=>br (neI r4 0) (chk (okN (l5++[14]).length 8) (bnd (Qb0 x0.skills 0 1073741823) fun r5=>br r5 (QdZ types x0 (l5++[14])) (chk (okN ((l5++[14])++[18]).length 8) (QdZ types x0 ((l5++[14])++[18]))))) (bnd (QdH x0.drop) fun r8=>br (neI r8 0) (chk (okN (l5++[14]).length 8) (Qd0 types x0 (l5++[14]))) (Qd0 types x0 l5))
noncomputable def QdX (types:Int) (x0:Qag) (l4:List Int):Option (List Int):=br ((eqI x0.pick.place (-1))&&(eqI x0.drop.place (-1))) (chk (okN (l4++[19]).length 8) (QdY types x0 (l4++[19]))) (QdY types x0 l4)
noncomputable def Qgu (types:Int) (x0:Qag) (l10:List Int):Option (List Int):=bnd (Qb0 x0.penalty (-1) 1000000) fun r14=>br r14 (bnd (Qb0 x0.split 1 4) fun r15=>br ((((((!r15)||((gtI x0.split 1)&&((neI x0.pick.place (-1))&&(neI x0.drop.place (-1)))))||(ltI x0.last_ (-1)))||(geI x0.last_ types))||(ltI x0.now (-1)))||(geI x0.now types)) (chk (okN (l10++[2]).length 8) (some (l10++[2]))) (some l10)) (chk (okN (l10++[2]).length 8) (some (l10++[2])))
noncomputable def QfZ (types:Int) (x0:Qag) (l12:List Int):Option (List Int):=bnd (Qb0 x0.penalty (-1) 1000000) fun r18=>br r18 (bnd (Qb0 x0.split 1 4) fun r19=>br ((((((!r19)||((gtI x0.split 1)&&((neI x0.pick.place (-1))&&(neI x0.drop.place (-1)))))||(ltI x0.last_ (-1)))||(geI x0.last_ types))||(ltI x0.now (-1)))||(geI x0.now types)) (chk (okN (l12++[2]).length 8) (some (l12++[2]))) (some l12)) (chk (okN (l12++[2]).length 8) (some (l12++[2])))
noncomputable def QfY (types:Int) (x0:Qag) (l11:List Int):Option (List Int):=bnd (Qb0 x0.skills 0 1073741823) fun r17=>br r17 (QfZ types x0 l11) (chk (okN (l11++[18]).length 8) (QfZ types x0 (l11++[18])))
noncomputable def Qgt (types:Int) (x0:Qag) (l9:List Int):Option (List Int):=bnd (QdH x0.pick) fun r12=>br (neI r12 0) (chk (okN (l9++[14]).length 8) (bnd (Qb0 x0.skills 0 1073741823) fun r13=>br r13 (Qgu types x0 (l9++[14])) (chk (okN ((l9++[14])++[18]).length 8) (Qgu types x0 ((l9++[14])++[18]))))) (bnd (QdH x0.drop) fun r16=>br (neI r16 0) (chk (okN (l9++[14]).length 8) (QfY types x0 (l9++[14]))) (QfY types x0 l9))
noncomputable def QbV (places:Int) (types:Int) (x0:Qag) (l3:List Int):Option (List Int):=bnd (Qb0 x0.pick.place (-1) (subK .i64 places 1)) fun r2=>br r2 (bnd (Qb0 x0.drop.place (-1) (subK .i64 places 1)) fun r3=>br r3 (QdX types x0 l3) (chk (okN (l3++[11]).length 8) (QdX types x0 (l3++[11])))) (chk (okN (l3++[11]).length 8) (br ((eqI x0.pick.place (-1))&&(eqI x0.drop.place (-1))) (chk (okN ((l3++[11])++[19]).length 8) (Qgt types x0 ((l3++[11])++[19]))) (Qgt types x0 (l3++[11]))))
noncomputable def QdW (places:Int) (dims:Int) (types:Int) (l:List Qag) (at_:Int) (x0:Qag) (l1:List Int):Option (List Int):=bnd (loopF (fun s=>Qcc places dims types l at_ x0 l1 s) 0) (fun l2=>bnd (QeM x0.load dims) fun r1=>br r1 (QbV places types x0 l2) (chk (okN (l2++[17]).length 8) (QbV places types x0 (l2++[17]))))
noncomputable def QgK (places:Int) (dims:Int) (types:Int) (l:List Qag) (at_:Int):Option (List Int):=bnd (getI l at_) fun x0=>bnd (Qfp x0.name) fun r=>br r (QdW places dims types l at_ x0 []) (chk (okN [5].length 8) (QdW places dims types l at_ x0 [5]))
noncomputable def Qgr (n:Qai) (dims:Int) (types:Int) (l:List Qag) (i:Int) (r:List Int) (l3:List Qaa) (k:Int):Option ((List Qaa×Int)⊕(List Qaa)):=br (ltI k (lenI r)) (bnd (getI r k) fun x0=>bnd (QbU i) fun r1=>chk (okN (l3++[(Qaa.mk x0 r1)]).length 24) (some (.inl ((l3++[(Qaa.mk x0 r1)]),(addK .i64 k 1))))) (some (.inr l3))
noncomputable def QcG (n:Qai) (dims:Int) (types:Int) (l:List Qag) (l2:List Qaa) (i:Int):Option ((List Qaa×Int)⊕(List Qaa)):=br (ltI i (lenI l)) (bnd (QgK (lenI n.places) dims types l i) fun r=>bnd (loopF (fun s=>Qgr n dims types l i r s.1 s.2) (l2,0)) (fun l4=>some (.inl (l4,(addK .i64 i 1))))) (some (.inr l2))
noncomputable def Qfg (n:Qai) (dims:Int) (types:Int) (l:List Qag) (l1:List Qaa):Option (List Qaa):=bnd (loopF (fun s=>QcG n dims types l s.1 s.2) (l1,0)) (fun l5=>some l5)
noncomputable def QgJ (n:Qai) (dims:Int) (types:Int) (l:List Qag):Option (List Qaa):=br (gtI (lenI l) 10) (chk (okN [(Qaa.mk 4 ByteArray.empty)].length 24) (Qfg n dims types l [(Qaa.mk 4 ByteArray.empty)])) (Qfg n dims types l [])
noncomputable def Qc8 (n1:Int) (s0:ByteArray):Option ((Int×ByteArray)⊕(Int×ByteArray)):=br (geI n1 10) (chk ((Qpi [(cvK .u8 (addK .i64 48 (remK n1 10)))]).size+s0.size≤9223372036854775807) (some (.inl ((quoK .i64 n1 10),(catS (Qpi [(cvK .u8 (addK .i64 48 (remK n1 10)))]) s0))))) (some (.inr (n1,s0)))
noncomputable def QeB (n:Int):Option ByteArray:=bnd (loopF (fun s=>Qc8 s.1 s.2) (n,ByteArray.empty)) (fun e0=>(fun n2 s1=>chk ((Qpi [(cvK .u8 (addK .i64 48 n2))]).size+s1.size≤9223372036854775807) (some (catS (Qpi [(cvK .u8 (addK .i64 48 n2))]) s1))) e0.1 e0.2)
noncomputable def Qdi (orders:Int) (l:List QaW) (word:ByteArray) (turned:Bool) (l2:List Qaa) (i:Int) (x0:QaW) (r:ByteArray) (twice:Bool) (k:Int):Option ((Bool×Int)⊕(Bool)):=br (ltI k i) (br twice (some (.inl (true,(addK .i64 k 1)))) (bnd (getI l k) fun x1=>br (eqI x1.x0 x0.x0) (br (eqI x1.x1 x0.x1) (some (.inl (true,(addK .i64 k 1)))) (br turned (br (eqI x1.x0 x0.x1) (some (.inl ((eqI x1.x1 x0.x0),(addK .i64 k 1)))) (some (.inl (false,(addK .i64 k 1))))) (some (.inl (false,(addK .i64 k 1)))))) (br turned (br (eqI x1.x0 x0.x1) (some (.inl ((eqI x1.x1 x0.x0),(addK .i64 k 1)))) (some (.inl (false,(addK .i64 k 1))))) (some (.inl (false,(addK .i64 k 1))))))) (some (.inr twice))
noncomputable def Qco (orders:Int) (l:List QaW) (word:ByteArray) (turned:Bool) (l2:List Qaa) (i:Int):Option ((List Qaa×Int)⊕(List Qaa)):=br (ltI i (lenI l)) (bnd (getI l i) fun x0=>chk (word.size+QcC.size≤9223372036854775807) (bnd (QeB i) fun r=>chk ((catS word QcC).size+r.size≤9223372036854775807) (br (((((ltI x0.x0 0)||(geI x0.x0 orders))||(ltI x0.x1 0))||(geI x0.x1 orders))||(eqI x0.x0 x0.x1)) (chk (okN (l2++[(Qaa.mk 2 (catS (catS word QcC) r))]).length 24) (some (.inl ((l2++[(Qaa.mk 2 (catS (catS word QcC) r))]),(addK .i64 i 1))))) (bnd (loopF (fun s=>Qdi orders l word turned l2 i x0 r s.1 s.2) (false,0)) (fun twice1=>br twice1 (chk (okN (l2++[(Qaa.mk 6 (catS (catS word QcC) r))]).length 24) (some (.inl ((l2++[(Qaa.mk 6 (catS (catS word QcC) r))]),(addK .i64 i 1))))) (some (.inl (l2,(addK .i64 i 1))))))))) (some (.inr l2))
noncomputable def QeO (orders:Int) (l:List QaW) (word:ByteArray) (turned:Bool) (l1:List Qaa):Option (List Qaa):=bnd (loopF (fun s=>Qco orders l word turned s.1 s.2) (l1,0)) (fun l3=>some l3)
noncomputable def Qgb (orders:Int) (l:List QaW) (word:ByteArray) (turned:Bool):Option (List Qaa):=br (gtI (lenI l) 16) (chk (okN [(Qaa.mk 4 word)].length 24) (QeO orders l word turned [(Qaa.mk 4 word)])) (QeO orders l word turned [])
noncomputable def Qeh (orders:Int) (l:List QaW) (word:ByteArray) (turned:Bool) (l2:List Qaa) (i:Int) (x0:QaW) (r:ByteArray) (twice:Bool) (k:Int):Option ((Bool×Int)⊕(Bool)):=br (ltI k i) (br twice (some (.inl (true,(addK .i64 k 1)))) (bnd (getI l k) fun x1=>br (eqI x1.x0 x0.x0) (br (eqI x1.x1 x0.x1) (some (.inl (true,(addK .i64 k 1)))) (br turned (br (eqI x1.x0 x0.x1) (some (.inl ((eqI x1.x1 x0.x0),(addK .i64 k 1)))) (some (.inl (false,(addK .i64 k 1))))) (some (.inl (false,(addK .i64 k 1)))))) (br turned (br (eqI x1.x0 x0.x1) (some (.inl ((eqI x1.x1 x0.x0),(addK .i64 k 1)))) (some (.inl (false,(addK .i64 k 1))))) (some (.inl (false,(addK .i64 k 1))))))) (some (.inr twice))
noncomputable def Qeg (orders:Int) (l:List QaW) (word:ByteArray) (turned:Bool) (l2:List Qaa) (i:Int):Option ((List Qaa×Int)⊕(List Qaa)):=br (ltI i (lenI l)) (bnd (getI l i) fun x0=>chk (word.size+QcC.size≤9223372036854775807) (bnd (QeB i) fun r=>chk ((catS word QcC).size+r.size≤9223372036854775807) (br (((((ltI x0.x0 0)||(geI x0.x0 orders))||(ltI x0.x1 0))||(geI x0.x1 orders))||(eqI x0.x0 x0.x1)) (chk (okN (l2++[(Qaa.mk 2 (catS (catS word QcC) r))]).length 24) (some (.inl ((l2++[(Qaa.mk 2 (catS (catS word QcC) r))]),(addK .i64 i 1))))) (bnd (loopF (fun s=>Qeh orders l word turned l2 i x0 r s.1 s.2) (false,0)) (fun twice1=>br twice1 (chk (okN (l2++[(Qaa.mk 6 (catS (catS word QcC) r))]).length 24) (some (.inl ((l2++[(Qaa.mk 6 (catS (catS word QcC) r))]),(addK .i64 i 1))))) (some (.inl (l2,(addK .i64 i 1))))))))) (some (.inr l2))
noncomputable def Qef (orders:Int) (l:List QaW) (word:ByteArray) (turned:Bool) (l1:List Qaa):Option (List Qaa):=bnd (loopF (fun s=>Qeg orders l word turned s.1 s.2) (l1,0)) (fun l3=>some l3)
noncomputable def Qg8 (orders:Int) (l:List QaW) (word:ByteArray) (turned:Bool):Option (List Qaa):=br (gtI (lenI l) 16) (chk (okN [(Qaa.mk 4 word)].length 24) (Qef orders l word turned [(Qaa.mk 4 word)])) (Qef orders l word turned [])
noncomputable def QgL (orders:Int) (apart:List QaW) (before:List QaW):Option (List Qaa):=bnd (Qg8 orders apart QrU true) fun r=>bnd (Qgb orders before QqM false) fun r1=>chk (okN (r++r1).length 24) (some (r++r1))
noncomputable def QeT (word:ByteArray) (l:List Qaa) (l1:List Qaa) (i:Int) (at_:ByteArray):Option ((List Qaa×Int)⊕(List Qaa)):=bnd (getI l i) fun x1=>chk (okN (l1++[(Qaa.mk x1.err at_)]).length 24) (some (.inl ((l1++[(Qaa.mk x1.err at_)]),(addK .i64 i 1))))
noncomputable def QeU (word:ByteArray) (l:List Qaa) (l1:List Qaa) (i:Int):Option ((List Qaa×Int)⊕(List Qaa)):=br (ltI i (lenI l)) (bnd (getI l i) fun x0=>br (eqS x0.at_ ByteArray.empty) (QeT word l l1 i word) (chk (word.size+QcC.size≤9223372036854775807) (chk ((catS word QcC).size+x0.at_.size≤9223372036854775807) (QeT word l l1 i (catS (catS word QcC) x0.at_))))) (some (.inr l1))
noncomputable def Qf0 (word:ByteArray) (l:List Qaa):Option (List Qaa):=bnd (loopF (fun s=>QeU word l s.1 s.2) ([],0)) (fun l2=>some l2)
noncomputable def QgM (x0:Qac):Option (List Qaa):=bnd (QgF x0.net) fun r=>bnd (Qf0 QtR r) fun r1=>bnd (QgG x0.net x0.types) fun r2=>bnd (QfK QuB r2) fun r3=>chk (okN (r1++r3).length 24) (bnd (Qfq x0.types) fun r4=>bnd (QgJ x0.net r4 (lenI x0.types) x0.orders) fun r5=>bnd (QfK QtS r5) fun r6=>chk (okN ((r1++r3)++r6).length 24) (bnd (QgL (lenI x0.orders) x0.apart x0.before) fun r7=>bnd (QfK QuA r7) fun r8=>chk (okN (((r1++r3)++r6)++r8).length 24) (some (((r1++r3)++r6)++r8))))
noncomputable def QgD (x0:Qac):Option Bool:=bnd (QgM x0) fun r=>some (eqI (lenI r) 0)
noncomputable def Qh4 (r:Qad):Option Bool:=some ((leI (lenI r.visits) 6)||(gtI (lenI r.visits) 20))
noncomputable def QkM (l:List Qag) (at_:Int):Option Bool:=some ((geI at_ 0)&&(ltI at_ (lenI l)))
noncomputable def Qgg (l:List Qag) (at_:Int) (l1:List Qab):Option (List Qab):=bnd (getI l at_) fun x1=>br (geI x1.drop.place 0) (chk (okN (l1++[(Qab.mk at_ true)]).length 16) (some (l1++[(Qab.mk at_ true)]))) (some l1)
noncomputable def QiS (l:List Qag) (at_:Int):Option (List Qab):=bnd (QkM l at_) fun r=>br r (bnd (getI l at_) fun x0=>br (geI x0.pick.place 0) (chk (okN [(Qab.mk at_ false)].length 16) (Qgg l at_ [(Qab.mk at_ false)])) (Qgg l at_ [])) (some [])
noncomputable def QaL (s0:List Qab) (v:Qab) (v1:Int):Option ((Int)⊕((Unit)⊕(Int))):=br (ltI v1 (lenI s0)) (bnd (getI s0 v1) fun x0=>br (eqI v.order x0.order&&(eqB v.drop x0.drop&&true)) (some (.inr (.inr v1))) (some (.inl (addK .i64 v1 1)))) (some (.inr (.inl ())))
noncomputable def Qbo (s0:List Qab) (v:Qab):Option Int:=bnd (loopF (fun s=>QaL s0 v s) 0) (fun e=>sel e (fun (_:Unit)=>some (-1)) (fun r=>some r))
noncomputable def Qf4 (l:List Qab) (v:Qab):Option Int:=bnd (Qbo l v) fun r=>some r
noncomputable def QcO (l:List Qab) (v:Int):Option ((Int)⊕((Unit)⊕(Bool))):=br (ltI v (lenI l)) (bnd (getI l v) fun x0=>bnd (slcI l 0 v) fun l1=>bnd (Qf4 l1 x0) fun r=>br (geI r 0) (some (.inr (.inr true))) (some (.inl (addK .i64 v 1)))) (some (.inr (.inl ())))
noncomputable def Qin (l:List Qab):Option Bool:=bnd (loopF (fun s=>QcO l s) 0) (fun e=>sel e (fun (_:Unit)=>some false) (fun r1=>some r1))
noncomputable def Qbv (s0:List Qab) (v:Qab):Option Bool:=bnd (Qbo s0 v) fun r=>some (geI r 0)
noncomputable def Qbh (x0:Qac) (l:List Qab) (v:Int) (r:List Qab) (last_:Int) (v1:Int):Option ((Int×Int)⊕((Unit)⊕(Bool))):=br (ltI v1 (lenI r)) (bnd (getI r v1) fun x2=>bnd (Qf4 l x2) fun r2=>br (leI r2 last_) (some (.inr (.inr false))) (some (.inl (r2,(addK .i64 v1 1))))) (some (.inr (.inl ())))
noncomputable def Qcw (x0:Qac) (l:List Qab) (v:Int):Option ((Int)⊕((Unit)⊕(Bool))):=br (ltI v (lenI l)) (bnd (getI l v) fun x1=>bnd (QiS x0.orders x1.order) fun r=>bnd (Qbv r x1) fun r1=>br r1 (bnd (loopF (fun s=>Qbh x0 l v r s.1 s.2) ((-1),0)) (fun e=>sel e (fun (_:Unit)=>some (.inl (addK .i64 v 1))) (fun r3=>some (.inr (.inr r3))))) (some (.inr (.inr false)))) (some (.inr (.inl ())))
noncomputable def Qhl (x0:Qac) (l:List Qab):Option Bool:=bnd (loopF (fun s=>Qcw x0 l s) 0) (fun e=>sel e (fun (_:Unit)=>some true) (fun r4=>some r4))
noncomputable def QkD (v:Qab) (c:Int):Option Bool:=some (eqI v.order c)
noncomputable def QaC (s0:List Qab) (c:Int) (v:Int):Option ((Int)⊕((Unit)⊕(Int))):=br (ltI v (lenI s0)) (bnd (getI s0 v) fun x0=>bnd (QkD x0 c) fun r=>br r (some (.inr (.inr v))) (some (.inl (addK .i64 v 1)))) (some (.inr (.inl ())))
noncomputable def Qa9 (s0:List Qab) (c:Int):Option Int:=bnd (loopF (fun s=>QaC s0 c s) 0) (fun e=>sel e (fun (_:Unit)=>some (-1)) (fun r1=>some r1))
noncomputable def Qbk (s0:List Qab) (c:Int):Option Bool:=bnd (Qa9 s0 c) fun r=>some (geI r 0)
noncomputable def QgS (l:List Qab) (o:Int):Option Bool:=bnd (Qbk l o) fun r=>some r
noncomputable def Qhp (v:Qab) (c:Int):Option Bool:=some (eqI v.order c)
noncomputable def Qaz (s0:List Qab) (c:Int) (v:Int):Option ((Int)⊕((Unit)⊕(Int))):=br (ltI v (lenI s0)) (bnd (getI s0 v) fun x0=>bnd (Qhp x0 c) fun r=>br r (some (.inr (.inr v))) (some (.inl (addK .i64 v 1)))) (some (.inr (.inl ())))
noncomputable def Qa4 (s0:List Qab) (c:Int):Option Int:=bnd (loopF (fun s=>Qaz s0 c s) 0) (fun e=>sel e (fun (_:Unit)=>some (-1)) (fun r1=>some r1))
noncomputable def Qhk (l:List Qab) (a:Int) (b:Int):Option Bool:=bnd (Qa4 l b) fun r=>br (ltI r 0) (some true) (bnd (QgS l a) fun r1=>br r1 (bnd (slcI l r (lenI l)) fun l1=>bnd (QgS l1 a) fun r2=>some (!r2)) (some false))
noncomputable def Qik (v:Qab) (c:Qac):Option Bool:=some ((ltI v.order 0)||(geI v.order (lenI c.orders)))
noncomputable def QaA (s0:List Qab) (c:Qac) (v:Int):Option ((Int)⊕((Unit)⊕(Int))):=br (ltI v (lenI s0)) (bnd (getI s0 v) fun x0=>bnd (Qik x0 c) fun r=>br r (some (.inr (.inr v))) (some (.inl (addK .i64 v 1)))) (some (.inr (.inl ())))
noncomputable def Qa6 (s0:List Qab) (c:Qac):Option Int:=bnd (loopF (fun s=>QaA s0 c s) 0) (fun e=>sel e (fun (_:Unit)=>some (-1)) (fun r1=>some r1))
noncomputable def Qa0 (s0:List Qab) (c:Qac):Option Bool:=bnd (Qa6 s0 c) fun r=>some (geI r 0)
noncomputable def Qil (v:Qab) (c:Qac):Option Bool:=bnd (getI c.orders v.order) fun x0=>some x0.off
noncomputable def QaB (s0:List Qab) (c:Qac) (v:Int):Option ((Int)⊕((Unit)⊕(Int))):=br (ltI v (lenI s0)) (bnd (getI s0 v) fun x0=>bnd (Qil x0 c) fun r=>br r (some (.inr (.inr v))) (some (.inl (addK .i64 v 1)))) (some (.inr (.inl ())))
noncomputable def Qa7 (s0:List Qab) (c:Qac):Option Int:=bnd (loopF (fun s=>QaB s0 c s) 0) (fun e=>sel e (fun (_:Unit)=>some (-1)) (fun r1=>some r1))
noncomputable def Qa1 (s0:List Qab) (c:Qac):Option Bool:=bnd (Qa7 s0 c) fun r=>some (geI r 0)
noncomputable def QcN (x0:Qac) (r:Qad) (v:Int):Option ((Int)⊕((Unit)⊕(Int))):=br (ltI v (lenI x0.apart)) (bnd (getI x0.apart v) fun x1=>bnd (QgS r.visits x1.x0) fun r5=>br r5 (bnd (QgS r.visits x1.x1) fun r6=>br r6 (some (.inr (.inr 20))) (some (.inl (addK .i64 v 1)))) (some (.inl (addK .i64 v 1)))) (some (.inr (.inl ())))
noncomputable def Qct (x0:Qac) (r:Qad) (v1:Int):Option ((Int)⊕((Unit)⊕(Int))):=br (ltI v1 (lenI x0.before)) (bnd (getI x0.before v1) fun x2=>bnd (Qhk r.visits x2.x0 x2.x1) fun r7=>br r7 (some (.inl (addK .i64 v1 1))) (some (.inr (.inr 21)))) (some (.inr (.inl ())))
noncomputable def Qg2 (x0:Qac) (r:Qad):Option Int:=br (eqI (lenI r.visits) 0) (some 2) (bnd (Qa0 r.visits x0) fun r1=>br r1 (some 2) (bnd (Qa1 r.visits x0) fun r2=>br r2 (some 9) (bnd (Qin r.visits) fun r3=>br r3 (some 6) (bnd (Qhl x0 r.visits) fun r4=>br r4 (bnd (loopF (fun s=>QcN x0 r s) 0) (fun e=>sel e (fun (_:Unit)=>bnd (loopF (fun s=>Qct x0 r s) 0) (fun e=>sel e (fun (_:Unit)=>some 0) (fun r8=>some r8))) (fun r9=>some r9))) (some 19)))))
noncomputable def QkW (t:Qaj) (skills:Int):Option Bool:=some (((geI t.skills 0)&&(geI skills 0))&&(eqI (QqA .i64 skills t.skills) 0))
noncomputable def Qfl (x0:Qac) (r:Qad) (v:Int):Option ((Int)⊕((Unit)⊕(Int))):=br (ltI v (lenI r.visits)) (bnd (getI r.visits v) fun x1=>bnd (getI x0.types r.type_) fun x2=>bnd (getI x0.orders x1.order) fun x3=>bnd (QkW x2 x3.skills) fun r1=>br r1 (some (.inl (addK .i64 v 1))) (some (.inr (.inr 18)))) (some (.inr (.inl ())))
noncomputable def Qok (x0:Qac) (r:Qad):Option Int:=bnd (loopF (fun s=>Qfl x0 r s) 0) (fun e=>sel e (fun (_:Unit)=>some 0) (fun r2=>some r2))
noncomputable def QeD (r:Qad) (set_:Int) (v:Int):Option ((Int×Int)⊕((Int)⊕(Int×Int))):=br (ltI v (lenI r.visits)) (bnd (getI r.visits v) fun x0=>br ((ltI x0.order 0)||(gtI x0.order 62)) (some (.inr (.inr (0,2)))) (chk ((0:Int)≤x0.order) (some (.inl ((orK .i64 set_ (shlK .i64 1 x0.order)),(addK .i64 v 1)))))) (some (.inr (.inl set_)))
noncomputable def Qgh (r:Qad):Option (Int×Int):=bnd (loopF (fun s=>QeD r s.1 s.2) (0,0)) (fun e=>sel e (fun set_1=>some (set_1,0)) (fun r1=>some r1))
noncomputable def QpN (a:Int) (b:Int):Option Int:=some (addK .i64 a b)
noncomputable def QbR (a:List Int) (b:List Int) (l:List Int) (l1:List Int) (v:Int):Option ((List Int×Int)⊕(List Int)):=br (ltI v (lenI a)) (bnd (getI a v) fun x0=>bnd (getI b v) fun x1=>bnd (QpN x0 x1) fun r=>bnd (getI l1 v) fun x2=>some (.inl ((setI l1 v r),(addK .i64 v 1)))) (some (.inr l1))
noncomputable def QgW (a:List Int) (b:List Int):Option (List Int×Int):=br (neI (lenI a) (lenI b)) (some ([],2)) (bnd (mkI (lenI a) (lenI a) 8 0) fun l=>bnd (loopF (fun s=>QbR a b l s.1 s.2) (l,0)) (fun l2=>some (l2,0)))
noncomputable def QoF (a:List Int) (b:List Int):Option (List Int×Int):=bnd (QgW a b) fun r=>some (r.1,r.2)
noncomputable def QrV (set_:Int) (i:Int):Option Bool:=br ((geI i 0)&&(leI i 62)) (chk ((0:Int)≤i) (some (eqI (andK .i64 (shrK .i64 set_ i) 1) 1))) (some false)
noncomputable def QcW (set_:Int) (l:List Int) (v:Int):Option ((List Int×Int)⊕(List Int)):=br (ltI v 63) (bnd (QrV set_ v) fun r=>br r (chk (okN (l++[v]).length 8) (some (.inl ((l++[v]),(addK .i64 v 1))))) (some (.inl (l,(addK .i64 v 1))))) (some (.inr l))
noncomputable def Qlk (set_:Int):Option (List Int):=bnd (loopF (fun s=>QcW set_ s.1 s.2) ([],0)) (fun l1=>some l1)
noncomputable def Qdr (x0:Qac) (l:List Int) (r:List Int) (sum:List Int) (v:Int):Option ((List Int×Int)⊕(List Int)):=br (ltI v (lenI r)) (bnd (getI r v) fun x1=>bnd (getI x0.orders x1) fun x2=>br (ltI x2.pick.place 0) (bnd (QoF sum x2.load) fun r1=>some (.inl (r1.1,(addK .i64 v 1)))) (some (.inl (sum,(addK .i64 v 1))))) (some (.inr sum))
noncomputable def Ql8 (x0:Qac) (set_:Int) (dims:Int):Option (List Int):=bnd (mkI dims dims 8 0) fun l=>bnd (Qlk set_) fun r=>bnd (loopF (fun s=>Qdr x0 l r s.1 s.2) (l,0)) (fun sum1=>some sum1)
noncomputable def QnG (l:List Qaj):Option Int:=br (eqI (lenI l) 0) (some 0) (bnd (getI l 0) fun x0=>some (lenI x0.cap))
noncomputable def QoG (a:Int) (b:Int):Option Int:=some (subK .i64 a b)
noncomputable def QbL (a:List Int) (b:List Int) (l:List Int) (l1:List Int) (v:Int):Option ((List Int×Int)⊕(List Int)):=br (ltI v (lenI a)) (bnd (getI a v) fun x0=>bnd (getI b v) fun x1=>bnd (QoG x0 x1) fun r=>bnd (getI l1 v) fun x2=>some (.inl ((setI l1 v r),(addK .i64 v 1)))) (some (.inr l1))
noncomputable def Qgl (a:List Int) (b:List Int):Option (List Int×Int):=br (neI (lenI a) (lenI b)) (some ([],2)) (bnd (mkI (lenI a) (lenI a) 8 0) fun l=>bnd (loopF (fun s=>QbL a b l s.1 s.2) (l,0)) (fun l2=>some (l2,0)))
noncomputable def QpM (a:List Int) (b:List Int):Option (List Int×Int):=bnd (Qgl a b) fun r=>some (r.1,r.2)
noncomputable def Qdq (x0:Qac) (r:Qad) (l:List (List Int)) (now:List Int) (v:Int):Option ((List (List Int)×List Int×Int)⊕((List (List Int))⊕(List (List Int)×Int))):=br (ltI v (lenI r.visits)) (bnd (getI r.visits v) fun x1=>br x1.drop (bnd (getI x0.orders x1.order) fun x2=>bnd (QpM now x2.load) fun r5=>br (neI r5.2 0) (some (.inr (.inr ([],r5.2)))) (chk (okN (l++[r5.1]).length 24) (some (.inl ((l++[r5.1]),r5.1,(addK .i64 v 1)))))) (bnd (getI x0.orders x1.order) fun x3=>bnd (QoF now x3.load) fun r6=>br (neI r6.2 0) (some (.inr (.inr ([],r6.2)))) (chk (okN (l++[r6.1]).length 24) (some (.inl ((l++[r6.1]),r6.1,(addK .i64 v 1))))))) (some (.inr (.inl l)))
noncomputable def Ql7 (x0:Qac) (r:Qad):Option (List (List Int)×Int):=bnd (Qg2 x0 r) fun r1=>br (neI r1 0) (some ([],r1)) (bnd (Qgh r) fun r2=>br (neI r2.2 0) (some ([],r2.2)) (bnd (QnG x0.types) fun r3=>bnd (Ql8 x0 r2.1 r3) fun r4=>bnd (loopF (fun s=>Qdq x0 r s.1 s.2.1 s.2.2) ([r4],r4,0)) (fun e=>sel e (fun l1=>some (l1,0)) (fun r7=>some r7))))
noncomputable def Qe9 (a:List Int) (capacity:List Int) (v:Int):Option ((Int)⊕((Unit)⊕(Bool))):=br (ltI v (lenI a)) (bnd (getI a v) fun x0=>bnd (getI capacity v) fun x1=>br (gtI x0 x1) (some (.inr (.inr false))) (some (.inl (addK .i64 v 1)))) (some (.inr (.inl ())))
noncomputable def QnR (a:List Int) (capacity:List Int):Option Bool:=br (neI (lenI a) (lenI capacity)) (some false) (bnd (loopF (fun s=>Qe9 a capacity s) 0) (fun e=>sel e (fun (_:Unit)=>some true) (fun r=>some r)))
noncomputable def QmH (a:List Int) (c:Qac) (c1:Qad):Option Bool:=bnd (getI c.types c1.type_) fun x0=>bnd (QnR a x0.cap) fun r=>some (!r)
noncomputable def QaJ (s0:List (List Int)) (c:Qac) (c1:Qad) (v:Int):Option ((Int)⊕((Unit)⊕(Int))):=br (ltI v (lenI s0)) (bnd (getI s0 v) fun x0=>bnd (QmH x0 c c1) fun r=>br r (some (.inr (.inr v))) (some (.inl (addK .i64 v 1)))) (some (.inr (.inl ())))
noncomputable def Qbw (s0:List (List Int)) (c:Qac) (c1:Qad):Option Int:=bnd (loopF (fun s=>QaJ s0 c c1 s) 0) (fun e=>sel e (fun (_:Unit)=>some (-1)) (fun r1=>some r1))
noncomputable def QbH (s0:List (List Int)) (c:Qac) (c1:Qad):Option Bool:=bnd (Qbw s0 c c1) fun r=>some (geI r 0)
noncomputable def Qnx (x0:Qac) (r:Qad):Option Int:=br ((ltI r.type_ 0)||(geI r.type_ (lenI x0.types))) (some 2) (bnd (Ql7 x0 r) fun r1=>br (neI r1.2 0) (some r1.2) (bnd (QbH r1.1 x0 r) fun r2=>br r2 (some 17) (some 0)))
noncomputable def QjI (x1:Qau):Option (Qau×Int):=br (ltI x1.place 0) (some ((Qau.mk 0 0 0 0),19)) (some (x1,0))
noncomputable def Qob (l:List Qag) (v:Qab):Option (Qau×Int):=bnd (QkM l v.order) fun r=>br r (bnd (getI l v.order) fun x0=>br v.drop (QjI x0.drop) (QjI x0.pick)) (some ((Qau.mk 0 0 0 0),2))
noncomputable def QhA (x0:Qac) (r:Qad) (x1:Qaj) (l:List Qau) (v:Int):Option ((List Qau×Int)⊕((List Qau)⊕(Qaw×Bool))):=br (ltI v (lenI r.visits)) (bnd (getI r.visits v) fun x2=>bnd (Qob x0.orders x2) fun r1=>br ((neI r1.2 0)||(ltI r1.1.place 0)) (some (.inr (.inr ((Qaw.mk (Qac.mk (Qai.mk [] []) [] [] [] []) (Qaj.mk ByteArray.empty 0 0 0 [] 0 0 0 0 0 0 0 0 0) (Qad.mk 0 0 [] []) []),false)))) (chk (okN (l++[r1.1]).length 32) (some (.inl ((l++[r1.1]),(addK .i64 v 1)))))) (some (.inr (.inl l)))
noncomputable def Qmc (x0:Qac) (r:Qad):Option (Qaw×Bool):=br (((((ltI r.type_ 0)||(geI r.type_ (lenI x0.types)))||(ltI r.start 0))||(gtI r.start 4096))||(gtI (lenI r.visits) 20)) (some ((Qaw.mk (Qac.mk (Qai.mk [] []) [] [] [] []) (Qaj.mk ByteArray.empty 0 0 0 [] 0 0 0 0 0 0 0 0 0) (Qad.mk 0 0 [] []) []),false)) (bnd (getI x0.types r.type_) fun x1=>bnd (loopF (fun s=>QhA x0 r x1 s.1 s.2) ([],0)) (fun e=>sel e (fun l1=>some ((Qaw.mk x0 x1 r l1),true)) (fun r2=>some r2)))
noncomputable def QcJ (p:Qaw):Option Qaf:=some (Qaf.mk (maxI p.t.open_ p.r.start) 0 (Qap.mk false 0 [] 0 0))
noncomputable def QhS (n:Qai) (i:Int):Option Bool:=some ((geI i 0)&&(ltI i (lenI n.places)))
noncomputable def QlH (a:Qas):Option Qhz:=some (Qhz.mk a.from_ a.to_ a.profile)
noncomputable def Qgf (n:Qai) (profile:Int) (from_:Int) (to_:Int) (v:Int):Option ((Int)⊕((Unit)⊕(Qas×Bool))):=br (ltI v (lenI n.arcs)) (bnd (getI n.arcs v) fun x0=>bnd (QlH x0) fun r=>br (eqI r.from_ from_&&(eqI r.to_ to_&&(eqI r.profile profile&&true))) (some (.inr (.inr (x0,true)))) (some (.inl (addK .i64 v 1)))) (some (.inr (.inl ())))
noncomputable def Qk9 (n:Qai) (profile:Int) (from_:Int) (to_:Int):Option (Qas×Bool):=bnd (loopF (fun s=>Qgf n profile from_ to_ s) 0) (fun e=>sel e (fun (_:Unit)=>some ((Qas.mk 0 0 0 0 [] []),false)) (fun r1=>some r1))
noncomputable def QfR (n:Int) (least:Int) (most:Int):Option Bool:=some ((geI n least)&&(leI n most))
noncomputable def Qos (i:Int):Option ByteArray:=br (ltI i 10) (bnd (slcS QlL i (addK .i64 i 1)) fun s0=>some (QlL.extract (i:Int).toNat ((addK .i64 i 1):Int).toNat)) (bnd (slcS QlK (mulK .i64 i 2) (addK .i64 (mulK .i64 i 2) 2)) fun s1=>some (QlK.extract ((mulK .i64 i 2):Int).toNat ((addK .i64 (mulK .i64 i 2) 2):Int).toNat))
noncomputable def Qq5 (x0:Int):Option Int:=some (shrK .i64 (mulK .i64 x0 78913) 18)
noncomputable def QqC (x2:Int) (n1:Int):Option Int:=br (geI x2 256) (bnd (getS QlM (cvK .u8 (shrK .u64 x2 8))) fun b=>some (addK .i64 (addK .i64 n1 8) (cvK .i64 (byteI b)))) (bnd (getS QlM (cvK .u8 x2)) fun b1=>some (addK .i64 n1 (cvK .i64 (byteI b1))))
noncomputable def QqB (x1:Int) (n:Int):Option Int:=br (geI x1 65536) (QqC (shrK .u64 x1 16) (addK .i64 n 16)) (QqC x1 n)
noncomputable def Qwz (x0:Int):Option Int:=br (geI x0 4294967296) (QqB (shrK .u64 x0 32) 32) (QqB x0 0)
noncomputable def Qq6 (d:Int):Option Int:=bnd (Qwz d) fun r=>bnd (Qq5 r) fun r1=>none
noncomputable def Qf6 (i:Int) (u:Int):Option ByteArray:=bnd (Qq6 u) fun r1=>none
noncomputable def Qkb (i:Int) (base:Int):Option ByteArray:=br (eqI base 10) (br ((leI 0 i)&&(ltI i 100)) (bnd (Qos i) fun r=>some r) (br (ltI i 0) (Qf6 i (subK .u64 0 (cvK .u64 i))) (Qf6 i (cvK .u64 i)))) (none)
noncomputable def QpA (i:Int):Option ByteArray:=bnd (Qkb i 10) fun r=>some r
noncomputable def QkG (i:Int):Option ByteArray:=bnd (QpA i) fun r=>some r
noncomputable def Qhn (l:List Qao) (v:Int) (x0:Qao) (r:ByteArray) (l3:List Qaa):Option ((List Qaa×Int)⊕(List Qaa)):=br (gtI v 0) (bnd (getI l (subK .i64 v 1)) fun x1=>br (leI x0.t x1.t) (chk (okN (l3++[(Qaa.mk 13 r)]).length 24) (some (.inl ((l3++[(Qaa.mk 13 r)]),(addK .i64 v 1))))) (br (ltI x0.a x1.a) (chk (okN (l3++[(Qaa.mk 13 r)]).length 24) (some (.inl ((l3++[(Qaa.mk 13 r)]),(addK .i64 v 1))))) (some (.inl (l3,(addK .i64 v 1)))))) (some (.inl (l3,(addK .i64 v 1))))
noncomputable def QdC (l:List Qao) (l2:List Qaa) (v:Int):Option ((List Qaa×Int)⊕(List Qaa)):=br (ltI v (lenI l)) (bnd (getI l v) fun x0=>bnd (QkG v) fun r=>bnd (QfR x0.t 0 4096) fun r1=>br (((!r1)||(ltI x0.a x0.t))||(gtI x0.a (addK .i64 x0.t 4096))) (chk (okN (l2++[(Qaa.mk 2 r)]).length 24) (Qhn l v x0 r (l2++[(Qaa.mk 2 r)]))) (Qhn l v x0 r l2)) (some (.inr l2))
noncomputable def Qhm (l:List Qao) (l1:List Qaa):Option (List Qaa):=bnd (loopF (fun s=>QdC l s.1 s.2) (l1,0)) (fun l4=>some l4)
noncomputable def Qln (l:List Qao):Option (List Qaa):=br ((eqI (lenI l) 0)||(gtI (lenI l) 16)) (chk (okN [(Qaa.mk 4 ByteArray.empty)].length 24) (Qhm l [(Qaa.mk 4 ByteArray.empty)])) (Qhm l [])
noncomputable def Qlo (l:List Qao):Option Bool:=bnd (Qln l) fun r=>some (eqI (lenI r) 0)
noncomputable def Qfv (p:Qao) (t:Int):Option Int:=some (subK .i64 p.t t)
noncomputable def QaF (x0:List Qao) (target:Int) (i:Int) (j:Int):Option ((Int×Int)⊕(Int)):=br (ltI i j) (bnd (getI x0 (cvK .i64 (shrK .u64 (cvK .u64 (addK .i64 i j)) 1))) fun x1=>bnd (Qfv x1 target) fun r=>br (ltI r 0) (some (.inl ((addK .i64 (cvK .i64 (shrK .u64 (cvK .u64 (addK .i64 i j)) 1)) 1),j))) (some (.inl (i,(cvK .i64 (shrK .u64 (cvK .u64 (addK .i64 i j)) 1)))))) (some (.inr i))
noncomputable def Qa2 (x0:List Qao) (target:Int):Option (Int×Bool):=bnd (loopF (fun s=>QaF x0 target s.1 s.2) (0,(lenI x0))) (fun i1=>br (ltI i1 (lenI x0)) (bnd (getI x0 i1) fun x2=>bnd (Qfv x2 target) fun r1=>some (i1,(eqI r1 0))) (some (i1,false)))
noncomputable def QjR (l:List Qao) (t:Int):Option Int:=bnd (Qa2 l t) fun r=>br r.2 (bnd (getI l r.1) fun x0=>some x0.a) (br (eqI r.1 0) (bnd (getI l 0) fun x1=>some (subK .i64 (addK .i64 t x1.a) x1.t)) (br (eqI r.1 (lenI l)) (bnd (getI l (subK .i64 r.1 1)) fun x2=>some (subK .i64 (addK .i64 t x2.a) x2.t)) (bnd (getI l (subK .i64 r.1 1)) fun x3=>bnd (getI l r.1) fun x4=>chk (((subK .i64 x4.t x3.t):Int)≠0) (some (addK .i64 x3.a (quoK .i64 (subK .i64 (addK .i64 (mulK .i64 (subK .i64 t x3.t) (subK .i64 x4.a x3.a)) (subK .i64 x4.t x3.t)) 1) (subK .i64 x4.t x3.t)))))))
noncomputable def QjQ (l:List Qao) (t:Int):Option Int:=bnd (QfR t 0 1073741824) fun r=>br r (bnd (Qlo l) fun r1=>br r1 (bnd (QjR l t) fun r2=>some r2) (some 0)) (some 0)
noncomputable def QgY (a:Qas) (t:Int) (out:Int) (v:Int):Option ((Int×Int)⊕(Int)):=br (ltI v (lenI a.slow)) (bnd (getI a.slow v) fun x0=>br (leI x0.t t) (some (.inl ((addK .i64 out x0.a),(addK .i64 v 1)))) (some (.inl (out,(addK .i64 v 1))))) (some (.inr out))
noncomputable def Qhf (a:Qas) (t:Int):Option Int:=bnd (QjQ a.travel t) fun r=>bnd (loopF (fun s=>QgY a t s.1 s.2) (r,0)) (fun out1=>some out1)
noncomputable def Qmt (n:Qai) (profile:Int) (from_:Int) (to_:Int) (t:Int):Option (Int×Int×Int):=bnd (QhS n from_) fun r=>br r (bnd (QhS n to_) fun r1=>br r1 (br (eqI from_ to_) (some (t,0,0)) (bnd (Qk9 n profile from_ to_) fun r2=>br r2.2 (bnd (Qhf r2.1 t) fun r3=>some (r3,r2.1.miles,0)) (some (0,0,12)))) (some (0,0,11))) (some (0,0,11))
noncomputable def QfB (p:Qaw) (visits:Int):Option Int:=br (eqI visits 0) (some p.t.from_) (bnd (getI p.stops (subK .i64 visits 1)) fun x0=>some x0.place)
noncomputable def QmZ (s0:Qau) (arrive:Int):Option (Int×Int):=br (gtI (maxI arrive s0.open_) s0.close) (some (0,14)) (some ((maxI arrive s0.open_),0))
noncomputable def Qby (s0:List Qar):Option (List Qar):=br (List.isEmpty s0) (amb (some []) (chk (okN s0.length 32) (some s0))) (chk (okN s0.length 32) (some s0))
noncomputable def Qew (p:Qaw) (l:Qaf) (depart:Int) (since:Int) (rest_1:Bool) (depart1:Int) (r2:Int×Int×Int) (l2:List Qar) (ready:Int) (end_:Int):Option (Qaf×Int):=br (gtI (subK .i64 (addK .i64 since r2.1) depart) p.t.drive) (some ((Qaf.mk 0 0 (Qap.mk false 0 [] 0 0)),16)) (some ((Qaf.mk ready (subK .i64 (addK .i64 since r2.1) depart) (Qap.mk rest_1 depart1 l2 end_ (addK .i64 l.sheet.miles r2.2.1))),0))
noncomputable def Qdh (p:Qaw) (l:Qaf) (done:Int) (depart:Int) (since:Int) (l1:List Qar) (rest_1:Bool) (depart1:Int) (to_:Int):Option (Qaf×Int):=bnd (QfB p done) fun r1=>bnd (Qmt p.x.net p.t.profile r1 to_ depart) fun r2=>br (neI r2.2.2 0) (some ((Qaf.mk 0 0 (Qap.mk false 0 [] 0 0)),12)) (br (eqI done (lenI p.stops)) (br (gtI r2.1 p.t.close) (some ((Qaf.mk 0 0 (Qap.mk false 0 [] 0 0)),15)) (Qew p l depart since rest_1 depart1 r2 l1 r2.1 r2.1)) (bnd (getI p.stops done) fun x2=>bnd (QmZ x2 r2.1) fun r3=>br (neI r3.2 0) (some ((Qaf.mk 0 0 (Qap.mk false 0 [] 0 0)),14)) (chk (okN (l1++[(Qar.mk r2.1 r3.1 0 false)]).length 32) (Qew p l depart since rest_1 depart1 r2 (l1++[(Qar.mk r2.1 r3.1 0 false)]) (addK .i64 r3.1 x2.service) l.sheet.end_))))
noncomputable def Qev (p:Qaw) (l:Qaf) (done:Int) (depart:Int) (since:Int) (l1:List Qar) (rest_1:Bool) (depart1:Int):Option (Qaf×Int):=br (eqI done (lenI p.stops)) (Qdh p l done depart since l1 rest_1 depart1 p.t.to_) (bnd (getI p.stops done) fun x1=>Qdh p l done depart since l1 rest_1 depart1 x1.place)
noncomputable def Qeu (p:Qaw) (l:Qaf) (done:Int) (rest_:Bool) (depart:Int) (since:Int):Option (Qaf×Int):=bnd (Qby l.sheet.times) fun r=>br (eqI done 0) (Qev p l done depart since r rest_ depart) (bnd (getI r (subK .i64 done 1)) fun x0=>Qev p l done depart since (setI (setI r (subK .i64 done 1) (Qar.mk x0.arrive x0.begin x0.depart rest_)) (subK .i64 done 1) (Qar.mk x0.arrive x0.begin depart rest_)) l.sheet.rest_ l.sheet.depart)
noncomputable def Qeo (p:Qaw) (l:Qaf) (done:Int) (rest_:Bool):Option (Qaf×Int):=br rest_ (Qeu p l done rest_ (addK .i64 l.ready p.t.rest_) 0) (Qeu p l done rest_ l.ready l.since)
noncomputable def QjT (l:Qaf) (m:Qaf):Option Bool:=some ((eqI l.ready m.ready)&&(leI l.since m.since))
noncomputable def Qf8 (m:Qaf) (c:Qaf):Option Bool:=bnd (QjT m c) fun r=>some r
noncomputable def Qav (s0:List Qaf) (c:Qaf) (v:Int):Option ((Int)⊕((Unit)⊕(Int))):=br (ltI v (lenI s0)) (bnd (getI s0 v) fun x0=>bnd (Qf8 x0 c) fun r=>br r (some (.inr (.inr v))) (some (.inl (addK .i64 v 1)))) (some (.inr (.inl ())))
noncomputable def Qbd (s0:List Qaf) (c:Qaf):Option Int:=bnd (loopF (fun s=>Qav s0 c s) 0) (fun e=>sel e (fun (_:Unit)=>some (-1)) (fun r1=>some r1))
noncomputable def QaK (s0:List Qaf) (c:Qaf):Option Bool:=bnd (Qbd s0 c) fun r=>some (geI r 0)
noncomputable def Qb6 (p:Qaw) (l:List Qaf) (done:Int) (choices:List Bool) (v:Int) (x0:Qaf) (l3:List Qaf) (v1:Int):Option ((List Qaf×Int)⊕(List Qaf)):=br (ltI v1 (lenI choices)) (bnd (getI choices v1) fun x1=>bnd (Qeo p x0 done x1) fun r=>br (eqI r.2 0) (bnd (QaK l3 r.1) fun r1=>br r1 (some (.inl (l3,(addK .i64 v1 1)))) (chk (okN (l3++[r.1]).length 72) (some (.inl ((l3++[r.1]),(addK .i64 v1 1)))))) (some (.inl (l3,(addK .i64 v1 1))))) (some (.inr l3))
noncomputable def Qb5 (p:Qaw) (l:List Qaf) (done:Int) (choices:List Bool) (l2:List Qaf) (v:Int):Option ((List Qaf×Int)⊕(List Qaf)):=br (ltI v (lenI l)) (bnd (getI l v) fun x0=>bnd (loopF (fun s=>Qb6 p l done choices v x0 s.1 s.2) (l2,0)) (fun l4=>some (.inl (l4,(addK .i64 v 1))))) (some (.inr l2))
noncomputable def Qet (p:Qaw) (l:List Qaf) (done:Int) (choices:List Bool):Option (List Qaf):=bnd (loopF (fun s=>Qb5 p l done choices s.1 s.2) ([],0)) (fun l5=>some l5)
noncomputable def Qfn (p:Qaw) (l:List Qaf) (done:Int):Option (List Qaf):=br (ltI done (lenI p.r.rests)) (bnd (slcI p.r.rests done (addK .i64 done 1)) fun l1=>Qet p l done l1) (Qet p l done [false,true])
noncomputable def Qe4 (p:Qaw) (rests:List Bool) (r:Qaf) (rest_:Int) (x0:Qaf) (v:Int):Option ((Int×Qaf×Int)⊕((Qaf)⊕(Qap×Int))):=br (ltI v (lenI rests)) (bnd (getI rests v) fun x1=>bnd (Qeo (Qaw.mk p.x (Qaj.mk p.t.name p.t.count p.t.from_ p.t.to_ p.t.cap p.t.skills p.t.profile p.t.open_ p.t.close p.t.drive rest_ p.t.fixed p.t.perMile p.t.perTick) p.r p.stops) x0 v x1) fun r1=>br (neI r1.2 0) (some (.inr (.inr ((Qap.mk false 0 [] 0 0),r1.2)))) (some (.inl (rest_,r1.1,(addK .i64 v 1))))) (some (.inr (.inl x0)))
noncomputable def QfS (p:Qaw) (rests:List Bool):Option (Qap×Int):=bnd (QcJ p) fun r=>bnd (loopF (fun s=>Qe4 p rests r s.1 s.2.1 s.2.2) (p.t.rest_,r,0)) (fun e=>sel e (fun x2=>some (x2.sheet,0)) (fun r2=>some r2))
noncomputable def QdE (r:Qad) (r1:Qaw×Bool) (l:List Qaf) (v:Int):Option ((List Qaf×Int)⊕(List Qaf)):=br (ltI v (addK .i64 (lenI r.visits) 1)) (bnd (Qfn r1.1 l v) fun r3=>some (.inl (r3,(addK .i64 v 1)))) (some (.inr l))
noncomputable def Qda (l3:List Qaf) (x2:Qaf) (v1:Int):Option ((Qaf×Int)⊕(Qaf)):=br (ltI v1 (lenI l3)) (bnd (getI l3 v1) fun x3=>br (ltI x3.sheet.end_ x2.sheet.end_) (some (.inl (x3,(addK .i64 v1 1)))) (some (.inl (x2,(addK .i64 v1 1))))) (some (.inr x2))
noncomputable def Qmb (x0:Qac) (r:Qad):Option (Qap×Int):=bnd (Qmc x0 r) fun r1=>br ((!r1.2)||(gtI (lenI r.rests) (addK .i64 (lenI r.visits) 1))) (some ((Qap.mk false 0 [] 0 0),2)) (bnd (QcJ r1.1) fun r2=>bnd (loopF (fun s=>QdE r r1 s.1 s.2) ([r2],0)) (fun l1=>br (eqI (lenI l1) 0) (bnd (mkI (addK .i64 (lenI r.visits) 1) (addK .i64 (lenI r.visits) 1) 1 false) fun l2=>bnd (QfS r1.1 (cpyL l2 r.rests)) fun r4=>some (r4.1,r4.2)) (bnd (getI l1 0) fun x1=>bnd (slcI l1 1 (lenI l1)) fun l3=>bnd (loopF (fun s=>Qda l3 s.1 s.2) (x1,0)) (fun x4=>some (x4.sheet,0)))))
noncomputable def QjN (kind:Int) (own:Int):Option Bool:=some ((neI kind (-1))&&(neI kind own))
noncomputable def Qih (x0:Qac) (r:Qad) (s0:Qap) (x1:Qaj) (l:List (Int×Int)) (other:Int) (v:Int) (x2:Qab) (x3:Qag) (moved1:Int):Option ((List (Int×Int)×Int×Int×Int)⊕(Int×Int)):=bnd (QjN x3.last_ r.type_) fun r2=>br r2 (some (.inl ((mPut eqI l x2.order (addK .i64 (mGet eqI l x2.order 0) 1)),moved1,(addK .i64 other 1),(addK .i64 v 1)))) (some (.inl ((mPut eqI l x2.order (addK .i64 (mGet eqI l x2.order 0) 1)),moved1,other,(addK .i64 v 1))))
noncomputable def QdB (x0:Qac) (r:Qad) (s0:Qap) (x1:Qaj) (l:List (Int×Int)) (moved:Int) (other:Int) (v:Int):Option ((List (Int×Int)×Int×Int×Int)⊕(Int×Int)):=br (ltI v (lenI r.visits)) (bnd (getI r.visits v) fun x2=>br ((ltI x2.order 0)||(geI x2.order (lenI x0.orders))) (some (.inl ((mPut eqI l x2.order (addK .i64 (mGet eqI l x2.order 0) 1)),moved,other,(addK .i64 v 1)))) (br (gtI (mGet eqI (mPut eqI l x2.order (addK .i64 (mGet eqI l x2.order 0) 1)) x2.order 0) 1) (some (.inl ((mPut eqI l x2.order (addK .i64 (mGet eqI l x2.order 0) 1)),moved,other,(addK .i64 v 1)))) (bnd (getI x0.orders x2.order) fun x3=>bnd (QjN x3.now r.type_) fun r1=>br r1 (Qih x0 r s0 x1 l other v x2 x3 (addK .i64 moved 1)) (Qih x0 r s0 x1 l other v x2 x3 moved)))) (some (.inr (moved,other)))
noncomputable def Qmx (x0:Qac) (r:Qad) (s0:Qap):Option QaG:=br ((ltI r.type_ 0)||(geI r.type_ (lenI x0.types))) (some (QaG.mk 0 0 0 0)) (bnd (getI x0.types r.type_) fun x1=>bnd (loopF (fun s=>QdB x0 r s0 x1 s.1 s.2.1 s.2.2.1 s.2.2.2) ([],0,0,0)) (fun e0=>(fun moved2 other1=>some (QaG.mk (addK .i64 (addK .i64 x1.fixed (mulK .i64 x1.perMile s0.miles)) (mulK .i64 x1.perTick (subK .i64 s0.end_ x1.open_))) moved2 other1 (mulK .i64 (quoK .i64 (subK .i64 s0.end_ x1.open_) 64) (quoK .i64 (subK .i64 s0.end_ x1.open_) 64)))) e0.1 e0.2))
noncomputable def Qfk (x0:Qac) (r:Qad):Option (Qap×QaG×Int):=br ((ltI r.type_ 0)||(geI r.type_ (lenI x0.types))) (some ((Qap.mk false 0 [] 0 0),(QaG.mk 0 0 0 0),2)) (bnd (Qg2 x0 r) fun r1=>br (neI r1 0) (some ((Qap.mk false 0 [] 0 0),(QaG.mk 0 0 0 0),r1)) (bnd (Qok x0 r) fun r2=>br (neI r2 0) (some ((Qap.mk false 0 [] 0 0),(QaG.mk 0 0 0 0),r2)) (bnd (Qnx x0 r) fun r3=>br (neI r3 0) (some ((Qap.mk false 0 [] 0 0),(QaG.mk 0 0 0 0),r3)) (bnd (Qmb x0 r) fun r4=>br (neI r4.2 0) (some ((Qap.mk false 0 [] 0 0),(QaG.mk 0 0 0 0),r4.2)) (bnd (Qmx x0 r r4.1) fun r5=>some (r4.1,r5,0))))))
noncomputable def Qmy (s0:QaG):Option QvN:=some (QvN.mk s0.cost s0.moved s0.other s0.work)
noncomputable def QeS (s0:QaG):Option (Int×Int):=bnd (Qmy s0) fun r=>br (ltI r.x0 0) (some (0,2)) (br (ltI r.x1 0) (some (0,2)) (br (ltI r.x2 0) (some (0,2)) (br (ltI r.x3 0) (some (0,2)) (br ((((gtI s0.cost 1073741824)||(geI s0.moved 16))||(geI s0.other 16))||(geI s0.work 65536)) (some (0,4)) (some ((addK .i64 (mulK .i64 (addK .i64 (mulK .i64 (addK .i64 (mulK .i64 s0.cost 16) s0.moved) 16) s0.other) 65536) s0.work),0))))))
noncomputable def QfM (x0:Qac) (r:Qad):Option (Int×Int):=bnd (Qfk x0 r) fun r1=>br (neI r1.2.2 0) (some (0,r1.2.2)) (bnd (QeS r1.2.1) fun r2=>some (r2.1,r2.2))
noncomputable def QhE (x0:Qac) (order:Int):Option Int:=br ((ltI order 0)||(geI order (lenI x0.orders))) (some 2) (bnd (getI x0.orders order) fun x1=>br x1.off (some 9) (some 0))
noncomputable def QiZ (v:Qab) (c:Int):Option Bool:=some (eqI v.order c)
noncomputable def QaP (s0:List Qab) (c:Int) (v:Int):Option ((Int)⊕((Unit)⊕(Int))):=br (ltI v (lenI s0)) (bnd (getI s0 v) fun x0=>bnd (QiZ x0 c) fun r=>br r (some (.inr (.inr v))) (some (.inl (addK .i64 v 1)))) (some (.inr (.inl ())))
noncomputable def Qbm (s0:List Qab) (c:Int):Option Int:=bnd (loopF (fun s=>QaP s0 c s) 0) (fun e=>sel e (fun (_:Unit)=>some (-1)) (fun r1=>some r1))
noncomputable def Qbb (s0:List Qab) (c:Int):Option Bool:=bnd (Qbm s0 c) fun r=>some (geI r 0)
noncomputable def QhI (r:Qad) (order:Int):Option Bool:=bnd (Qbb r.visits order) fun r1=>some r1
noncomputable def Qbs (s0:List Qab):Option (List Qab):=br (List.isEmpty s0) (amb (some []) (chk (okN s0.length 16) (some s0))) (chk (okN s0.length 16) (some s0))
noncomputable def QdG (self:(List Qab)→(List Qab)→Int→Option (List (List Qab))) (l:List Qab) (more:List Qab) (l1:List (List Qab)) (at_:Int):Option ((List (List Qab)×Int)⊕(List (List Qab))):=br (leI at_ (lenI l)) (bnd (Qbs l) fun r=>bnd (getI more 0) fun x0=>bnd (insL 16 r at_ [x0]) fun r1=>bnd (slcI more 1 (lenI more)) fun l2=>bnd (self r1 l2 (addK .i64 at_ 1)) fun r2=>chk (okN (l1++r2).length 24) (some (.inl ((l1++r2),(addK .i64 at_ 1))))) (some (.inr l1))
noncomputable def Qfo (self:(List Qab)→(List Qab)→Int→Option (List (List Qab))) (l:List Qab) (more:List Qab) (from_:Int):Option (List (List Qab)):=br (eqI (lenI more) 0) (some [l]) (bnd (loopF (fun s=>QdG self l more s.1 s.2) ([],from_)) (fun l3=>some l3))
noncomputable def Qep:Nat→(List Qab)→(List Qab)→Int→Option (List (List Qab))|0=>fun _ _ _=>none|n+1=>fun l more from_=>Qfo (Qep n) l more from_
noncomputable def Qlz (l:List Qab) (more:List Qab) (from_:Int):Option (List (List Qab)):=Qep QtE l more from_
noncomputable def QeE (v:Qab):Option Int:=br v.drop (some 1) (some 0)
noncomputable def Qds (vals:List Int) (v:Int):Option ((Int)⊕((Unit)⊕(Int))):=br (ltI v (lenI vals)) (bnd (getI vals v) fun x0=>br (neI x0 0) (some (.inr (.inr x0))) (some (.inl (addK .i64 v 1)))) (some (.inr (.inl ())))
noncomputable def Ql9 (vals:List Int):Option Int:=bnd (loopF (fun s=>Qds vals s) 0) (fun e=>sel e (fun (_:Unit)=>some 0) (fun r=>some r))
noncomputable def QhZ (x0:Int):Option Bool:=some (neI x0 x0)
noncomputable def Qfz (x0:Int) (y:Int):Option Int:=bnd (QhZ x0) fun r=>bnd (QhZ y) fun r1=>br r (br r1 (some 0) (some (-1))) (br r1 (some 1) (br (ltI x0 y) (some (-1)) (br (gtI x0 y) (some 1) (some 0))))
noncomputable def QgR (a:Qab) (b:Qab):Option Int:=bnd (Qfz a.order b.order) fun r=>bnd (QeE a) fun r1=>bnd (QeE b) fun r2=>bnd (Qfz r1 r2) fun r3=>bnd (Ql9 [r,r3]) fun r4=>some r4
noncomputable def Qaq (s1:List Qab) (s2:List Qab) (v:Int):Option ((Int)⊕((Unit)⊕(Int))):=br (ltI v (lenI s1)) (bnd (getI s1 v) fun x0=>br (geI v (lenI s2)) (some (.inr (.inr 1))) (bnd (getI s2 v) fun x1=>bnd (QgR x0 x1) fun r=>br (neI r 0) (some (.inr (.inr r))) (some (.inl (addK .i64 v 1))))) (some (.inr (.inl ())))
noncomputable def QaM (s1:List Qab) (s2:List Qab):Option Int:=bnd (loopF (fun s=>Qaq s1 s2 s) 0) (fun e=>sel e (fun (_:Unit)=>br (ltI (lenI s1) (lenI s2)) (some (-1)) (some 0)) (fun r1=>some r1))
noncomputable def QjP (a:List Qab) (b:List Qab):Option Bool:=bnd (QaM a b) fun r=>some (ltI r 0)
noncomputable def Qed (x0:Qac) (r4:List (List Qab)) (x1:Qad) (type_:Int) (start:Int) (rests:List Bool) (visits:List Qab) (least:Int) (v:Int):Option ((Qad×Int×Int×List Bool×List Qab×Int×Int)⊕(Qad×Int)):=br (ltI v (lenI r4)) (bnd (getI r4 v) fun x2=>bnd (QfM x0 (Qad.mk x1.type_ x1.start x1.rests x2)) fun r5=>br (eqI r5.2 0) (br ((ltI least 0)||(ltI r5.1 least)) (some (.inl (x1,x1.type_,x1.start,x1.rests,x2,r5.1,(addK .i64 v 1)))) (br (eqI r5.1 least) (bnd (QjP x2 visits) fun r6=>br r6 (some (.inl (x1,x1.type_,x1.start,x1.rests,x2,r5.1,(addK .i64 v 1)))) (some (.inl (x1,type_,start,rests,visits,least,(addK .i64 v 1))))) (some (.inl (x1,type_,start,rests,visits,least,(addK .i64 v 1)))))) (some (.inl (x1,type_,start,rests,visits,least,(addK .i64 v 1))))) (some (.inr ((Qad.mk type_ start rests visits),least)))
noncomputable def QhC (x0:Qac) (r:Qad) (o:Int):Option (Qad×Int×Int):=br ((ltI r.type_ 0)||(geI r.type_ (lenI x0.types))) (some ((Qad.mk 0 0 [] []),0,2)) (bnd (QhE x0 o) fun r1=>br (neI r1 0) (some ((Qad.mk 0 0 [] []),0,r1)) (bnd (QhI r o) fun r2=>br r2 (some ((Qad.mk 0 0 [] []),0,6)) (bnd (QiS x0.orders o) fun r3=>bnd (Qlz r.visits r3 (lenI r.rests)) fun r4=>bnd (loopF (fun s=>Qed x0 r4 s.1 s.2.1 s.2.2.1 s.2.2.2.1 s.2.2.2.2.1 s.2.2.2.2.2.1 s.2.2.2.2.2.2) (r,0,0,[],[],(-1),0)) (fun e0=>(fun x3 least1=>br (ltI least1 0) (some ((Qad.mk 0 0 [] []),0,24)) (some (x3,least1,0))) e0.1 e0.2))))
noncomputable def Qb7 (s0:List Int) (v:Int) (v1:Int):Option ((Int)⊕((Unit)⊕(Int))):=br (ltI v1 (lenI s0)) (bnd (getI s0 v1) fun x0=>br (eqI v x0) (some (.inr (.inr v1))) (some (.inl (addK .i64 v1 1)))) (some (.inr (.inl ())))
noncomputable def QeV (s0:List Int) (v:Int):Option Int:=bnd (loopF (fun s=>Qb7 s0 v s) 0) (fun e=>sel e (fun (_:Unit)=>some (-1)) (fun r=>some r))
noncomputable def QcL (s0:List Int) (v:Int):Option Bool:=bnd (QeV s0 v) fun r=>some (geI r 0)
noncomputable def QhF (at_:Int) (r:Qad) (old:Int) (c:Qac) (c1:Int) (c2:Qan):Option (Qac×Int×Qan):=bnd (QhC c r c1) fun r1=>br ((eqI r1.2.2 0)&&((ltI c2.at_ 0)||(ltI (subK .i64 r1.2.1 old) c2.increase))) (some (c,c1,(Qan.mk at_ r1.1 (subK .i64 r1.2.1 old)))) (some (c,c1,c2))
noncomputable def Qdv (x0:Qac) (p:Qam) (o:Int) (l:List Int) (l1:List Int) (l2:List Int) (v:Int):Option ((List Int×List Int×Int)⊕((List Int×List Int)⊕(Qan×Int))):=br (ltI v (lenI p.routes)) (bnd (getI p.routes v) fun x1=>bnd (QfM x0 x1) fun r=>br (neI r.2 0) (some (.inr (.inr ((Qan.mk 0 (Qad.mk 0 0 [] []) 0),r.2)))) (chk (okN (l1++[r.1]).length 8) (bnd (getI l2 x1.type_) fun x2=>some (.inl ((l1++[r.1]),(setI l2 x1.type_ (addK .i64 x2 1)),(addK .i64 v 1)))))) (some (.inr (.inl (l1,l2))))
noncomputable def Qee (p:Qam) (l:List Int) (l3:List Int) (l4:List Int) (x3:Qac) (at_:Int) (type_:Int) (start:Int) (rests:List Bool) (visits:List Qab) (increase:Int) (x4:Int) (v1:Int):Option ((Qac×Int×Int×Int×List Bool×List Qab×Int×Int×Int)⊕(Qac×Qan×Int)):=br (ltI v1 (lenI p.routes)) (bnd (getI p.routes v1) fun x5=>bnd (getI l3 v1) fun x6=>bnd (QhF v1 x5 x6 x3 x4 (Qan.mk at_ (Qad.mk type_ start rests visits) increase)) fun r1=>some (.inl (r1.1,r1.2.2.at_,r1.2.2.route.type_,r1.2.2.route.start,r1.2.2.route.rests,r1.2.2.route.visits,r1.2.2.increase,r1.2.1,(addK .i64 v1 1)))) (some (.inr (x3,(Qan.mk at_ (Qad.mk type_ start rests visits) increase),x4)))
noncomputable def Qdw (p:Qam) (l:List Int) (l4:List Int) (x10:Qac) (x11:Qan) (x12:Int) (v2:Int) (v3:Int):Option ((Qac×Qan×Int×Int×Int)⊕(Qan)):=br (ltI v3 v2) (bnd (getI l4 v3) fun x13=>bnd (getI x10.types v3) fun x14=>br (ltI x13 x14.count) (bnd (QhF (lenI p.routes) (Qad.mk v3 0 [] []) 0 x10 x12 x11) fun r2=>some (.inl (r2.1,r2.2.2,r2.2.1,v2,(addK .i64 v3 1)))) (some (.inl (x10,x11,x12,v2,(addK .i64 v3 1))))) (some (.inr x11))
noncomputable def QkK (x0:Qac) (p:Qam) (o:Int):Option (Qan×Int):=bnd (mkI (lenI x0.types) (lenI x0.types) 8 0) fun l=>bnd (loopF (fun s=>Qdv x0 p o l s.1 s.2.1 s.2.2) ([],l,0)) (fun e=>sel e (fun e0=>(fun l3 l4=>bnd (loopF (fun s=>Qee p l l3 l4 s.1 s.2.1 s.2.2.1 s.2.2.2.1 s.2.2.2.2.1 s.2.2.2.2.2.1 s.2.2.2.2.2.2.1 s.2.2.2.2.2.2.2.1 s.2.2.2.2.2.2.2.2) (x0,(-1),0,0,[],[],0,o,0)) (fun e0=>(fun x7 x8 x9=>bnd (loopF (fun s=>Qdw p l l4 s.1 s.2.1 s.2.2.1 s.2.2.2.1 s.2.2.2.2) (x7,x8,x9,(lenI x7.types),0)) (fun x15=>br (ltI x15.at_ 0) (some ((Qan.mk 0 (Qad.mk 0 0 [] []) 0),24)) (some (x15,0)))) e0.1 e0.2.1 e0.2.2)) e0.1 e0.2) (fun r3=>some r3))
noncomputable def QkC (x0:Qac) (order:Int):Option (QaG×Int):=br ((ltI order 0)||(geI order (lenI x0.orders))) (some ((QaG.mk 0 0 0 0),2)) (bnd (getI x0.orders order) fun x1=>br x1.off (some ((QaG.mk 0 0 0 0),9)) (br (eqI x1.penalty (-1)) (some ((QaG.mk 0 0 0 0),23)) (br (neI x1.now (-1)) (some ((QaG.mk x1.penalty 1 0 0),0)) (some ((QaG.mk x1.penalty 0 0 0),0)))))
noncomputable def QkY (x0:Qac) (o:Int) (increase:Int):Option Bool:=bnd (getI x0.orders o) fun x1=>br (eqI x1.penalty (-1)) (some true) (bnd (QkC x0 o) fun r=>br (neI r.2 0) (some false) (bnd (QeS r.1) fun r1=>some ((eqI r1.2 0)&&(ltI increase r1.1))))
noncomputable def Qbr (s0:List Qad):Option (List Qad):=br (List.isEmpty s0) (amb (some []) (chk (okN s0.length 64) (some s0))) (chk (okN s0.length 64) (some s0))
noncomputable def Qe8 (p:Qam) (c:Qan) (o:Int) (l:List Qad) (l1:List Int) (v:Int):Option ((List Int×Int)⊕(List Int)):=br (ltI v (lenI p.unserved)) (bnd (getI p.unserved v) fun x1=>br (neI x1 o) (chk (okN (l1++[x1]).length 8) (some (.inl ((l1++[x1]),(addK .i64 v 1))))) (some (.inl (l1,(addK .i64 v 1))))) (some (.inr l1))
noncomputable def QgV (p:Qam) (c:Qan) (o:Int) (l:List Qad):Option Qam:=bnd (loopF (fun s=>Qe8 p c o l s.1 s.2) ([],0)) (fun l2=>some (Qam.mk l l2))
noncomputable def QkL (p:Qam) (c:Qan) (o:Int):Option Qam:=bnd (Qbr p.routes) fun r=>br (ltI c.at_ (lenI r)) (bnd (getI r c.at_) fun x0=>QgV p c o (setI r c.at_ c.route)) (chk (okN (r++[c.route]).length 64) (QgV p c o (r++[c.route])))
noncomputable def QiY (r:Qad) (c:Int):Option Bool:=bnd (QhI r c) fun r1=>some r1
noncomputable def QaO (s0:List Qad) (c:Int) (v:Int):Option ((Int)⊕((Unit)⊕(Int))):=br (ltI v (lenI s0)) (bnd (getI s0 v) fun x0=>bnd (QiY x0 c) fun r=>br r (some (.inr (.inr v))) (some (.inl (addK .i64 v 1)))) (some (.inr (.inl ())))
noncomputable def Qbl (s0:List Qad) (c:Int):Option Int:=bnd (loopF (fun s=>QaO s0 c s) 0) (fun e=>sel e (fun (_:Unit)=>some (-1)) (fun r1=>some r1))
noncomputable def QaZ (s0:List Qad) (c:Int):Option Bool:=bnd (Qbl s0 c) fun r=>some (geI r 0)
noncomputable def QhH (p:Qam) (o:Int):Option Bool:=bnd (QaZ p.routes o) fun r=>some r
noncomputable def QeI (x0:Qac) (list_:List Int) (v:Int):Option ((Int)⊕((Unit)⊕(Qam×Int))):=br (ltI v (lenI list_)) (bnd (getI list_ v) fun x1=>br ((ltI x1 0)||(geI x1 (lenI x0.orders))) (some (.inr (.inr ((Qam.mk [] []),2)))) (bnd (slcI list_ 0 v) fun l=>bnd (QcL l x1) fun r=>br r (some (.inr (.inr ((Qam.mk [] []),6)))) (some (.inl (addK .i64 v 1))))) (some (.inr (.inl ())))
noncomputable def QdF (x0:Qac) (list_:List Int) (routes:List Qad) (unserved:List Int) (v1:Int):Option ((List Qad×List Int×Int)⊕(List Qad×List Int)):=br (ltI v1 (lenI list_)) (bnd (getI list_ v1) fun x2=>bnd (getI x0.orders x2) fun x3=>br x3.off (some (.inl (routes,unserved,(addK .i64 v1 1)))) (bnd (QkK x0 (Qam.mk routes unserved) x2) fun r1=>br (eqI r1.2 0) (bnd (QkY x0 x2 r1.1.increase) fun r2=>br r2 (bnd (QkL (Qam.mk routes unserved) r1.1 x2) fun r3=>some (.inl (r3.routes,r3.unserved,(addK .i64 v1 1)))) (some (.inl (routes,unserved,(addK .i64 v1 1))))) (some (.inl (routes,unserved,(addK .i64 v1 1)))))) (some (.inr (routes,unserved)))
noncomputable def QcX (x0:Qac) (routes1:List Qad) (l1:List Int) (v2:Int):Option ((List Int×Int)⊕((List Int)⊕(Qam×Int))):=br (ltI v2 (lenI x0.orders)) (bnd (getI x0.orders v2) fun x4=>br x4.off (some (.inl (l1,(addK .i64 v2 1)))) (bnd (QhH (Qam.mk routes1 l1) v2) fun r4=>br r4 (some (.inl (l1,(addK .i64 v2 1)))) (br (eqI x4.penalty (-1)) (some (.inr (.inr ((Qam.mk [] []),24)))) (chk (okN (l1++[v2]).length 8) (some (.inl ((l1++[v2]),(addK .i64 v2 1)))))))) (some (.inr (.inl l1)))
noncomputable def QhD (x0:Qac) (list_:List Int):Option (Qam×Int):=bnd (loopF (fun s=>QeI x0 list_ s) 0) (fun e=>sel e (fun (_:Unit)=>bnd (loopF (fun s=>QdF x0 list_ s.1 s.2.1 s.2.2) ([],[],0)) (fun e0=>(fun routes1 unserved1=>bnd (loopF (fun s=>QcX x0 routes1 s.1 s.2) ([],0)) (fun e=>sel e (fun l2=>some ((Qam.mk routes1 l2),0)) (fun r5=>some r5))) e0.1 e0.2)) (fun r6=>some r6))
noncomputable def QfT (l:List Qas) (v:Int):Option ((List Qas×Int)⊕(List Qas)):=br (ltI v (lenI [(Qe6.mk 0 1 10),(Qe6.mk 1 0 10),(Qe6.mk 0 2 20),(Qe6.mk 2 0 20),(Qe6.mk 1 2 10),(Qe6.mk 2 1 10)])) (bnd (getI [(Qe6.mk 0 1 10),(Qe6.mk 1 0 10),(Qe6.mk 0 2 20),(Qe6.mk 2 0 20),(Qe6.mk 1 2 10),(Qe6.mk 2 1 10)] v) fun x0=>chk (okN (l++[(Qas.mk x0.x0 x0.x1 0 x0.x2 [(Qao.mk 0 x0.x2)] [])]).length 80) (some (.inl ((l++[(Qas.mk x0.x0 x0.x1 0 x0.x2 [(Qao.mk 0 x0.x2)] [])]),(addK .i64 v 1))))) (some (.inr l))
noncomputable def QeK (l1:List Qas) (l2:List Qag) (v1:Int):Option ((List Qag×Int)⊕(List Qag)):=br (ltI v1 (lenI [Qqq,Qqr])) (bnd (getI [Qqq,Qqr] v1) fun x1=>chk (okN (l2++[(Qag.mk x1 [1] (Qau.mk (-1) 0 0 0) (Qau.mk (addK .i64 v1 1) 0 90 0) 0 30 1 (-1) (-1) false)]).length 152) (some (.inl ((l2++[(Qag.mk x1 [1] (Qau.mk (-1) 0 0 0) (Qau.mk (addK .i64 v1 1) 0 90 0) 0 30 1 (-1) (-1) false)]),(addK .i64 v1 1))))) (some (.inr l2))
noncomputable def QjU:Option Qac:=bnd (loopF (fun s=>QfT s.1 s.2) ([],0)) (fun l1=>bnd (loopF (fun s=>QeK l1 s.1 s.2) ([],0)) (fun l3=>some (Qac.mk (Qai.mk [Qgc,Qj7,Qj8] l1) [(Qaj.mk Qon 1 0 0 [2] 0 0 0 100 100 0 0 1 0)] l3 [] [])))
noncomputable def Qbq:Option Bool:=bnd (QjU) fun r=>bnd (QhC r (Qad.mk 0 0 [] [(Qab.mk 1 true)]) 0) fun r1=>bnd (QhC r (Qad.mk 0 0 [false] [(Qab.mk 1 true)]) 0) fun r2=>bnd (QhD r [0,1]) fun r3=>bnd (QhC r (Qad.mk 0 0 [] []) 2) fun r4=>br (((((((neI r1.2.2 0)||(neI r2.2.2 0))||(neI r3.2 0))||(neI r4.2.2 2))||(neI (lenI r1.1.visits) 2))||(neI (lenI r2.1.visits) 2))||(neI (lenI r3.1.routes) 1)) (some false) (bnd (getI r1.1.visits 0) fun x0=>br ((eqI x0.order 0&&(eqB x0.drop true&&true))&&(eqI r1.2.1 671088640)) (bnd (getI r2.1.visits 0) fun x1=>br (eqI x1.order 1&&(eqB x1.drop true&&true)) (bnd (getI r2.1.visits 1) fun x2=>br (eqI x2.order 0&&(eqB x2.drop true&&true)) (bnd (getI r3.1.routes 0) fun x3=>some ((eqI (lenI x3.visits) 2)&&(eqI (lenI r3.1.unserved) 0))) (some false)) (some false)) (some false))
noncomputable def Qn7 (s0:QaG):Option Bool:=some ((((((((geI s0.cost 0)&&(leI s0.cost 1073741824))&&(geI s0.moved 0))&&(leI s0.moved 15))&&(geI s0.other 0))&&(leI s0.other 15))&&(geI s0.work 0))&&(leI s0.work 65535))
noncomputable def Qj3 (s0:QaG):Option (Int×Int):=br ((((ltI s0.cost 0)||(ltI s0.moved 0))||(ltI s0.other 0))||(ltI s0.work 0)) (some (0,2)) (bnd (Qn7 s0) fun r=>br r (some ((addK .i64 (mulK .i64 (addK .i64 (mulK .i64 (addK .i64 (mulK .i64 s0.cost 16) s0.moved) 16) s0.other) 65536) s0.work),0)) (some (0,4)))
noncomputable def Qfj (set_:Int) (i:Int):Option Bool:=br (((geI set_ 0)&&(geI i 0))&&(leI i 62)) (chk ((0:Int)≤(cvK .u64 i)) (some (eqI (remK (shrK .i64 set_ (cvK .u64 i)) 2) 1))) (some false)
noncomputable def Qhw (r:Qad) (set_:Int) (i:Int):Option ((Int×Int)⊕((Int)⊕(Int×Int))):=br (ltI i (lenI r.visits)) (bnd (getI r.visits i) fun x0=>br ((ltI x0.order 0)||(gtI x0.order 62)) (some (.inr (.inr (0,2)))) (bnd (Qfj set_ x0.order) fun r1=>br r1 (some (.inl (set_,(addK .i64 i 1)))) (chk ((0:Int)≤(cvK .u64 x0.order)) (some (.inl ((addK .i64 set_ (shlK .i64 1 (cvK .u64 x0.order))),(addK .i64 i 1))))))) (some (.inr (.inl set_)))
noncomputable def QjY (r:Qad):Option (Int×Int):=bnd (loopF (fun s=>Qhw r s.1 s.2) (0,0)) (fun e=>sel e (fun set_1=>some (set_1,0)) (fun r2=>some r2))
noncomputable def Qd5 (l:List Qab) (v:Qab) (i:Int):Option ((Int)⊕((Unit)⊕(Int))):=br (ltI i (lenI l)) (bnd (getI l i) fun x0=>br (eqI x0.order v.order&&(eqB x0.drop v.drop&&true)) (some (.inr (.inr i))) (some (.inl (addK .i64 i 1)))) (some (.inr (.inl ())))
noncomputable def QcZ (l:List Qab) (v:Qab):Option Int:=bnd (loopF (fun s=>Qd5 l v s) 0) (fun e=>sel e (fun (_:Unit)=>some (-1)) (fun r=>some r))
noncomputable def Qf1 (x0:Qac) (order:Int) (l:List Qab):Option (List Qab):=bnd (getI x0.orders order) fun x2=>br (neI x2.drop.place (-1)) (chk (okN (l++[(Qab.mk order true)]).length 16) (some (l++[(Qab.mk order true)]))) (some l)
noncomputable def QjZ (x0:Qac) (order:Int):Option (List Qab):=bnd (getI x0.orders order) fun x1=>br (neI x1.pick.place (-1)) (chk (okN [(Qab.mk order false)].length 16) (Qf1 x0 order [(Qab.mk order false)])) (Qf1 x0 order [])
noncomputable def QcS (l:List Qab) (some_:List Qab) (i:Int):Option ((Int)⊕((Unit)⊕(Bool))):=br (ltI i (lenI some_)) (bnd (getI some_ i) fun x0=>bnd (QcZ l x0) fun r=>br (ltI r 0) (some (.inr (.inr false))) (some (.inl (addK .i64 i 1)))) (some (.inr (.inl ())))
noncomputable def Qif (l:List Qab) (some_:List Qab):Option Bool:=bnd (loopF (fun s=>QcS l some_ s) 0) (fun e=>sel e (fun (_:Unit)=>some true) (fun r1=>some r1))
noncomputable def Qdm (x0:Qac) (l:List Qab) (i:Int):Option ((Int)⊕((Unit)⊕(Bool))):=br (ltI i (lenI l)) (bnd (getI l i) fun x1=>bnd (QjZ x0 x1.order) fun r=>bnd (QcZ r x1) fun r1=>br (ltI r1 0) (some (.inr (.inr false))) (bnd (Qif l r) fun r2=>br r2 (br (eqI (lenI r) 2) (bnd (getI r 0) fun x2=>bnd (QcZ l x2) fun r3=>bnd (getI r 1) fun x3=>bnd (QcZ l x3) fun r4=>br (gtI r3 r4) (some (.inr (.inr false))) (some (.inl (addK .i64 i 1)))) (some (.inl (addK .i64 i 1)))) (some (.inr (.inr false))))) (some (.inr (.inl ())))
noncomputable def Qj1 (x0:Qac) (l:List Qab):Option Bool:=bnd (loopF (fun s=>Qdm x0 l s) 0) (fun e=>sel e (fun (_:Unit)=>some true) (fun r5=>some r5))
noncomputable def Qd6 (x0:Qac) (set_:Int) (i:Int):Option ((Int)⊕((Unit)⊕(Bool))):=br (ltI i (lenI x0.apart)) (bnd (getI x0.apart i) fun x1=>bnd (Qfj set_ x1.x0) fun r=>br r (bnd (Qfj set_ x1.x1) fun r1=>br r1 (some (.inr (.inr false))) (some (.inl (addK .i64 i 1)))) (some (.inl (addK .i64 i 1)))) (some (.inr (.inl ())))
noncomputable def Qk4 (x0:Qac) (set_:Int):Option Bool:=bnd (loopF (fun s=>Qd6 x0 set_ s) 0) (fun e=>sel e (fun (_:Unit)=>some true) (fun r2=>some r2))
noncomputable def Qdl (x0:Qac) (set_:Int) (l:List Qab) (i:Int) (x1:QaW) (j:Int) (k:Int):Option ((Int)⊕((Unit)⊕(Bool))):=br (ltI k j) (bnd (getI l j) fun x2=>br (eqI x2.order x1.x0) (bnd (getI l k) fun x3=>br (eqI x3.order x1.x1) (some (.inr (.inr false))) (some (.inl (addK .i64 k 1)))) (some (.inl (addK .i64 k 1)))) (some (.inr (.inl ())))
noncomputable def Qdk (x0:Qac) (set_:Int) (l:List Qab) (i:Int) (x1:QaW) (j:Int):Option ((Int)⊕((Unit)⊕(Bool))):=br (ltI j (lenI l)) (bnd (loopF (fun s=>Qdl x0 set_ l i x1 j s) 0) (fun e=>sel e (fun (_:Unit)=>some (.inl (addK .i64 j 1))) (fun r2=>some (.inr (.inr r2))))) (some (.inr (.inl ())))
noncomputable def Qdj (x0:Qac) (set_:Int) (l:List Qab) (i:Int):Option ((Int)⊕((Unit)⊕(Bool))):=br (ltI i (lenI x0.before)) (bnd (getI x0.before i) fun x1=>bnd (Qfj set_ x1.x1) fun r=>br r (bnd (Qfj set_ x1.x0) fun r1=>br r1 (bnd (loopF (fun s=>Qdk x0 set_ l i x1 s) 0) (fun e=>sel e (fun (_:Unit)=>some (.inl (addK .i64 i 1))) (fun r3=>some (.inr (.inr r3))))) (some (.inr (.inr false)))) (some (.inl (addK .i64 i 1)))) (some (.inr (.inl ())))
noncomputable def Qj0 (x0:Qac) (set_:Int) (l:List Qab):Option Bool:=bnd (loopF (fun s=>Qdj x0 set_ l s) 0) (fun e=>sel e (fun (_:Unit)=>some true) (fun r4=>some r4))
noncomputable def Qd2 (x0:Qac) (r:Qad) (i:Int):Option ((Int)⊕((Unit)⊕(Int))):=br (ltI i (lenI r.visits)) (bnd (getI r.visits i) fun x1=>br (ltI x1.order 0) (some (.inr (.inr 2))) (br (geI x1.order (lenI x0.orders)) (some (.inr (.inr 2))) (some (.inl (addK .i64 i 1))))) (some (.inr (.inl ())))
noncomputable def Qd3 (x0:Qac) (r:Qad) (r1:Int×Int) (i1:Int):Option ((Int)⊕((Unit)⊕(Int))):=br (ltI i1 (lenI r.visits)) (bnd (getI r.visits i1) fun x2=>bnd (getI x0.orders x2.order) fun x3=>br x3.off (some (.inr (.inr 9))) (some (.inl (addK .i64 i1 1)))) (some (.inr (.inl ())))
noncomputable def Qd4 (x0:Qac) (r:Qad) (r1:Int×Int) (i2:Int):Option ((Int)⊕((Unit)⊕(Int))):=br (ltI i2 (lenI r.visits)) (bnd (getI r.visits i2) fun x4=>bnd (QcZ r.visits x4) fun r2=>br (neI r2 i2) (some (.inr (.inr 6))) (some (.inl (addK .i64 i2 1)))) (some (.inr (.inl ())))
noncomputable def Qie (x0:Qac) (r:Qad):Option Int:=bnd (loopF (fun s=>Qd2 x0 r s) 0) (fun e=>sel e (fun (_:Unit)=>bnd (QjY r) fun r1=>br ((neI r1.2 0)||(eqI (lenI r.visits) 0)) (some 2) (bnd (loopF (fun s=>Qd3 x0 r r1 s) 0) (fun e=>sel e (fun (_:Unit)=>bnd (loopF (fun s=>Qd4 x0 r r1 s) 0) (fun e=>sel e (fun (_:Unit)=>bnd (Qj1 x0 r.visits) fun r3=>br r3 (bnd (Qk4 x0 r1.1) fun r4=>br r4 (bnd (Qj0 x0 r1.1 r.visits) fun r5=>br r5 (some 0) (some 21)) (some 20)) (some 19)) (fun r6=>some r6))) (fun r7=>some r7)))) (fun r8=>some r8))
noncomputable def QfG (t:Qaj) (skills:Int) (bit:Int):Option ((Int)⊕((Unit)⊕(Bool))):=br (gtI bit 0) (chk ((bit:Int)≠0) (br (eqI (remK (quoK .i64 skills bit) 2) 1) (chk ((bit:Int)≠0) (br (eqI (remK (quoK .i64 t.skills bit) 2) 0) (some (.inr (.inr false))) (some (.inl (mulK .i64 bit 2))))) (some (.inl (mulK .i64 bit 2))))) (some (.inr (.inl ())))
noncomputable def Qi0 (t:Qaj) (skills:Int):Option Bool:=br ((ltI t.skills 0)||(ltI skills 0)) (some false) (bnd (loopF (fun s=>QfG t skills s) 1) (fun e=>sel e (fun (_:Unit)=>some true) (fun r=>some r)))
noncomputable def QeA (l:List (List Int)) (dims:Int) (i:Int):Option ((Int)⊕((Unit)⊕(Bool))):=br (ltI i (lenI l)) (bnd (getI l i) fun x0=>br (neI (lenI x0) dims) (some (.inr (.inr false))) (some (.inl (addK .i64 i 1)))) (some (.inr (.inl ())))
noncomputable def QlW (l:List (List Int)) (dims:Int):Option Bool:=br ((ltI dims 0)||(gtI dims 3)) (some false) (bnd (loopF (fun s=>QeA l dims s) 0) (fun e=>sel e (fun (_:Unit)=>some true) (fun r=>some r)))
noncomputable def Qea (l:List (List Int)) (dims:Int) (l1:List Int) (d:Int) (n:Int) (i:Int):Option ((Int×Int)⊕(Int)):=br (ltI i (lenI l)) (bnd (getI l i) fun x0=>bnd (getI x0 d) fun x1=>some (.inl ((addK .i64 n x1),(addK .i64 i 1)))) (some (.inr n))
noncomputable def Qd9 (l:List (List Int)) (dims:Int) (l1:List Int) (d:Int):Option ((List Int×Int)⊕(List Int)):=br (ltI d dims) (bnd (loopF (fun s=>Qea l dims l1 d s.1 s.2) (0,0)) (fun n1=>chk (okN (l1++[n1]).length 8) (some (.inl ((l1++[n1]),(addK .i64 d 1)))))) (some (.inr l1))
noncomputable def QmP (l:List (List Int)) (dims:Int):Option (List Int×Int):=bnd (QlW l dims) fun r=>br r (bnd (loopF (fun s=>Qd9 l dims s.1 s.2) ([],0)) (fun l2=>some (l2,0))) (some ([],2))
noncomputable def Ql0 (x0:Qac):Option Int:=br (eqI (lenI x0.types) 0) (some 0) (bnd (getI x0.types 0) fun x1=>some (lenI x1.cap))
noncomputable def Qc2 (x0:Qac) (l:List Qab) (n:Int) (l1:List (List Int)) (i:Int) (on_:Bool) (there:Bool) (k:Int):Option ((Bool×Bool×Int)⊕(Bool×Bool)):=br (ltI k (lenI l)) (bnd (getI l k) fun x2=>br (neI x2.order i) (some (.inl (on_,there,(addK .i64 k 1)))) (br (ltI k n) (some (.inl ((!x2.drop),true,(addK .i64 k 1)))) (some (.inl (on_,true,(addK .i64 k 1)))))) (some (.inr (on_,there)))
noncomputable def Qc1 (x0:Qac) (l:List Qab) (n:Int) (l1:List (List Int)) (i:Int):Option ((List (List Int)×Int)⊕(List (List Int))):=br (ltI i (lenI x0.orders)) (bnd (getI x0.orders i) fun x1=>bnd (loopF (fun s=>Qc2 x0 l n l1 i s.1 s.2.1 s.2.2) ((ltI x1.pick.place 0),false,0)) (fun e0=>(fun on_1 there1=>br (on_1&&there1) (bnd (getI x0.orders i) fun x3=>chk (okN (l1++[x3.load]).length 24) (some (.inl ((l1++[x3.load]),(addK .i64 i 1))))) (some (.inl (l1,(addK .i64 i 1))))) e0.1 e0.2)) (some (.inr l1))
noncomputable def Qk6 (x0:Qac) (l:List Qab) (n:Int):Option (List Int×Int):=bnd (loopF (fun s=>Qc1 x0 l n s.1 s.2) ([],0)) (fun l2=>bnd (Ql0 x0) fun r=>bnd (QmP l2 r) fun r1=>some (r1.1,r1.2))
noncomputable def Qc0 (x0:Qac) (r:Qad) (l:List (List Int)) (n:Int):Option ((List (List Int)×Int)⊕((List (List Int))⊕(List (List Int)×Int))):=br (leI n (lenI r.visits)) (bnd (Qk6 x0 r.visits n) fun r2=>br (neI r2.2 0) (some (.inr (.inr ([],r2.2)))) (chk (okN (l++[r2.1]).length 24) (some (.inl ((l++[r2.1]),(addK .i64 n 1)))))) (some (.inr (.inl l)))
noncomputable def Qk5 (x0:Qac) (r:Qad):Option (List (List Int)×Int):=bnd (Qie x0 r) fun r1=>br (neI r1 0) (some ([],r1)) (bnd (loopF (fun s=>Qc0 x0 r s.1 s.2) ([],0)) (fun e=>sel e (fun l1=>some (l1,0)) (fun r3=>some r3)))
noncomputable def Qez (a:List Int) (capacity:List Int) (i:Int):Option ((Int)⊕((Unit)⊕(Bool))):=br (ltI i (lenI a)) (bnd (getI a i) fun x0=>bnd (getI capacity i) fun x1=>br (gtI x0 x1) (some (.inr (.inr false))) (some (.inl (addK .i64 i 1)))) (some (.inr (.inl ())))
noncomputable def QlV (a:List Int) (capacity:List Int):Option Bool:=br (neI (lenI a) (lenI capacity)) (some false) (bnd (loopF (fun s=>Qez a capacity s) 0) (fun e=>sel e (fun (_:Unit)=>some true) (fun r=>some r)))
noncomputable def QeC (x0:Qac) (r:Qad) (r1:List (List Int)×Int) (i:Int):Option ((Int)⊕((Unit)⊕(Int))):=br (ltI i (lenI r1.1)) (bnd (getI r1.1 i) fun x1=>bnd (getI x0.types r.type_) fun x2=>bnd (QlV x1 x2.cap) fun r2=>br r2 (some (.inl (addK .i64 i 1))) (some (.inr (.inr 17)))) (some (.inr (.inl ())))
noncomputable def QlZ (x0:Qac) (r:Qad):Option Int:=br ((ltI r.type_ 0)||(geI r.type_ (lenI x0.types))) (some 2) (bnd (Qk5 x0 r) fun r1=>br (neI r1.2 0) (some r1.2) (bnd (loopF (fun s=>QeC x0 r r1 s) 0) (fun e=>sel e (fun (_:Unit)=>some 0) (fun r3=>some r3))))
noncomputable def Qft (x0:Qac) (v:Qab):Option (Qau×Bool):=br ((ltI v.order 0)||(geI v.order (lenI x0.orders))) (some ((Qau.mk 0 0 0 0),false)) (bnd (getI x0.orders v.order) fun x1=>br v.drop (some (x1.drop,(geI x1.drop.place 0))) (some (x1.pick,(geI x1.pick.place 0))))
noncomputable def QcT (x0:Qac) (r:Qad) (i:Int):Option ((Int)⊕((Unit)⊕(Bool))):=br (ltI i (lenI r.visits)) (bnd (getI r.visits i) fun x1=>bnd (Qft x0 x1) fun r1=>br r1.2 (some (.inl (addK .i64 i 1))) (some (.inr (.inr false)))) (some (.inr (.inl ())))
noncomputable def Qd7 (x0:Qac) (r:Qad):Option Bool:=br (((((ltI r.type_ 0)||(geI r.type_ (lenI x0.types)))||(ltI r.start 0))||(gtI r.start 4096))||(gtI (lenI r.visits) 20)) (some false) (bnd (loopF (fun s=>QcT x0 r s) 0) (fun e=>sel e (fun (_:Unit)=>some true) (fun r2=>some r2)))
noncomputable def Qi2 (t:Qaj) (s0:QaH) (yes:Bool):Option QaH:=br yes (some (QaH.mk s0.place (addK .i64 s0.time t.rest_) 0 s0.miles)) (some s0)
noncomputable def Qh7 (n:Qai) (p:Int):Option Bool:=some ((geI p 0)&&(ltI p (lenI n.places)))
noncomputable def QiL (n:Qai) (profile:Int) (from_:Int) (to_:Int) (i:Int):Option ((Int)⊕((Unit)⊕(Qas×Bool))):=br (ltI i (lenI n.arcs)) (bnd (getI n.arcs i) fun x0=>br (((eqI x0.from_ from_)&&(eqI x0.to_ to_))&&(eqI x0.profile profile)) (some (.inr (.inr (x0,true)))) (some (.inl (addK .i64 i 1)))) (some (.inr (.inl ())))
noncomputable def QlX (n:Qai) (profile:Int) (from_:Int) (to_:Int):Option (Qas×Bool):=bnd (loopF (fun s=>QiL n profile from_ to_ s) 0) (fun e=>sel e (fun (_:Unit)=>some ((Qas.mk 0 0 0 0 [] []),false)) (fun r=>some r))
noncomputable def Qhv (l:List Qao) (t:Int) (i:Int):Option ((Int)⊕((Unit)⊕(Int))):=br (ltI (addK .i64 i 1) (lenI l)) (bnd (getI l i) fun x0=>bnd (getI l (addK .i64 i 1)) fun x1=>br ((leI x0.t t)&&(ltI t x1.t)) (chk (((subK .i64 x1.t x0.t):Int)≠0) (some (.inr (.inr (addK .i64 x0.a (quoK .i64 (subK .i64 (subK .i64 (addK .i64 (mulK .i64 (subK .i64 t x0.t) (subK .i64 x1.a x0.a)) x1.t) x0.t) 1) (subK .i64 x1.t x0.t))))))) (some (.inl (addK .i64 i 1)))) (some (.inr (.inl ())))
noncomputable def QjW (l:List Qao) (t:Int):Option Int:=bnd (QeN l) fun r=>br (((gtI (lenI r) 0)||(ltI t 0))||(gtI t 1073741824)) (some 0) (bnd (loopF (fun s=>Qhv l t s) 0) (fun e=>sel e (fun (_:Unit)=>bnd (getI l 0) fun x2=>br (gtI t x2.t) (bnd (getI l (subK .i64 (lenI l) 1)) fun x3=>some (subK .i64 (addK .i64 t x3.a) x3.t)) (some (subK .i64 (addK .i64 t x2.a) x2.t))) (fun r1=>some r1)))
noncomputable def Qps (a:Qas) (t:Int) (n:Int) (i:Int):Option ((Int×Int)⊕(Int)):=br (ltI i (lenI a.slow)) (bnd (getI a.slow i) fun x0=>br (leI x0.t t) (some (.inl ((addK .i64 n x0.a),(addK .i64 i 1)))) (some (.inl (n,(addK .i64 i 1))))) (some (.inr n))
noncomputable def QjX (a:Qas) (t:Int):Option Int:=bnd (QjW a.travel t) fun r=>bnd (loopF (fun s=>Qps a t s.1 s.2) (r,0)) (fun n1=>some n1)
noncomputable def QlF (n:Qai) (profile:Int) (from_:Int) (to_:Int) (t:Int):Option (Int×Int×Int):=bnd (Qh7 n from_) fun r=>br r (bnd (Qh7 n to_) fun r1=>br r1 (br (eqI from_ to_) (some (t,0,0)) (bnd (QlX n profile from_ to_) fun r2=>br r2.2 (bnd (QjX r2.1 t) fun r3=>some (r3,r2.1.miles,0)) (some (0,0,12)))) (some (0,0,11))) (some (0,0,11))
noncomputable def QpW (x0:Qac) (profile:Int) (from_:Int) (to_:Int) (t:Int):Option (Int×Int×Bool):=bnd (QlF x0.net profile from_ to_ t) fun r=>some (r.1,r.2.1,(eqI r.2.2 0))
noncomputable def Qfs (x0:Qac) (t:Qaj) (s0:QaH) (to_:Int) (close:Int) (late:Int):Option (QaH×Int):=bnd (QpW x0 t.profile s0.place to_ s0.time) fun r=>br r.2.2 (br (gtI r.1 close) (some (s0,late)) (br (gtI (subK .i64 (addK .i64 s0.driven r.1) s0.time) t.drive) (some (s0,16)) (some ((QaH.mk to_ r.1 (subK .i64 (addK .i64 s0.driven r.1) s0.time) (addK .i64 s0.miles r.2.1)),0)))) (some (s0,12))
noncomputable def Qj2 (x0:Qac) (r:Qad) (rests:List Bool) (x1:Qaj) (x2:Bool) (l:List Int) (l1:List Qar) (x3:QaH) (depart:Int) (i:Int):Option ((List Int×List Qar×QaH×Int×Int)⊕((List Int×List Qar×QaH×Int)⊕(Qap×List Int×Int))):=br (ltI i (lenI r.visits)) (bnd (getI r.visits i) fun x4=>bnd (Qft x0 x4) fun r3=>bnd (Qfs x0 x1 x3 r3.1.place r3.1.close 14) fun r4=>br (neI r4.2 0) (some (.inr (.inr ((Qap.mk false 0 [] 0 0),[],r4.2)))) (chk (okN (l++[r4.1.driven]).length 8) (bnd (getI rests (addK .i64 i 1)) fun x5=>bnd (Qi2 x1 (QaH.mk r4.1.place (addK .i64 (maxI r4.1.time r3.1.open_) r3.1.service) r4.1.driven r4.1.miles) x5) fun r5=>chk (okN (l1++[(Qar.mk r4.1.time (maxI r4.1.time r3.1.open_) r5.time x5)]).length 32) (some (.inl ((l++[r4.1.driven]),(l1++[(Qar.mk r4.1.time (maxI r4.1.time r3.1.open_) r5.time x5)]),r5,depart,(addK .i64 i 1))))))) (some (.inr (.inl (l,l1,x3,depart))))
noncomputable def QkA (x0:Qac) (r:Qad) (rests:List Bool):Option (Qap×List Int×Int):=bnd (Qd7 x0 r) fun r1=>br ((!r1)||(neI (lenI rests) (addK .i64 (lenI r.visits) 1))) (some ((Qap.mk false 0 [] 0 0),[],2)) (bnd (getI x0.types r.type_) fun x1=>bnd (getI rests 0) fun x2=>bnd (Qi2 x1 (QaH.mk x1.from_ (maxI x1.open_ r.start) 0 0) x2) fun r2=>bnd (loopF (fun s=>Qj2 x0 r rests x1 x2 s.1 s.2.1 s.2.2.1 s.2.2.2.1 s.2.2.2.2) ([],[],r2,r2.time,0)) (fun e=>sel e (fun e0=>(fun l2 l3 x6 depart1=>bnd (Qfs x0 x1 x6 x1.to_ x1.close 15) fun r6=>br (neI r6.2 0) (some ((Qap.mk false 0 [] 0 0),[],r6.2)) (chk (okN (l2++[r6.1.driven]).length 8) (some ((Qap.mk x2 depart1 l3 r6.1.time r6.1.miles),(l2++[r6.1.driven]),0)))) e0.1 e0.2.1 e0.2.2.1 e0.2.2.2) (fun r7=>some r7)))
noncomputable def Qf2 (x0:Qac) (r:Qad) (rests:List Bool):Option (Qap×Int):=bnd (QkA x0 r rests) fun r1=>some (r1.1,r1.2.2)
noncomputable def QiR (n:Int) (l:List Bool) (i:Int):Option ((List Bool×Int)⊕((Unit)⊕(List Bool×Bool))):=br (geI i n) (bnd (getI l i) fun x0=>br x0 (some (.inl ((setI l i false),(subK .i64 i 1)))) (some (.inr (.inr ((setI l i true),true))))) (some (.inr (.inl ())))
noncomputable def Qhe (rests:List Bool) (n:Int):Option (List Bool×Bool):=chk (okN rests.length 1) (bnd (loopF (fun s=>QiR n s.1 s.2) (rests,(subK .i64 (lenI rests) 1))) (fun e=>sel e (fun (_:Unit)=>some ([],false)) (fun r=>some r)))
noncomputable def QiP (x0:Qac) (r:Qad) (l:List Bool) (r2:Qap×Int) (rests:List Bool) (rests1:List Bool) (x2:Qap) (found1:Bool):Option ((List Bool×Qap×List Bool×Bool×Bool)⊕(Qap×Bool)):=bnd (Qhe rests1 (lenI rests)) fun r5=>some (.inl (rests,x2,r5.1,found1,r5.2))
noncomputable def QiQ (x0:Qac) (r:Qad) (l:List Bool) (r2:Qap×Int) (rests:List Bool) (x1:Qap) (rests1:List Bool) (found:Bool) (more:Bool):Option ((List Bool×Qap×List Bool×Bool×Bool)⊕(Qap×Bool)):=br more (bnd (Qf2 x0 (Qad.mk r.type_ r.start rests r.visits) rests1) fun r4=>br ((eqI r4.2 0)&&((!found)||(ltI r4.1.end_ x1.end_))) (QiP x0 r l r2 rests rests1 r4.1 true) (QiP x0 r l r2 rests rests1 x1 found)) (some (.inr (x1,found)))
noncomputable def Qi1 (x0:Qac) (r:Qad):Option (Qap×Int):=bnd (Qd7 x0 r) fun r1=>br ((!r1)||(gtI (lenI r.rests) (addK .i64 (lenI r.visits) 1))) (some ((Qap.mk false 0 [] 0 0),2)) (bnd (mkI (addK .i64 (lenI r.visits) 1) (addK .i64 (lenI r.visits) 1) 1 false) fun l=>bnd (Qf2 x0 r (cpyL l r.rests)) fun r2=>bnd (Qhe (cpyL l r.rests) (lenI r.rests)) fun r3=>bnd (loopF (fun s=>QiQ x0 r l r2 s.1 s.2.1 s.2.2.1 s.2.2.2.1 s.2.2.2.2) (r.rests,r2.1,r3.1,(eqI r2.2 0),r3.2)) (fun e0=>(fun x3 found2=>br found2 (some (x3,0)) (some ((Qap.mk false 0 [] 0 0),r2.2))) e0.1 e0.2))
noncomputable def Qdn (l:List Qab) (at_:Int) (i:Int):Option ((Int)⊕((Unit)⊕(Bool))):=br (ltI i at_) (bnd (getI l i) fun x0=>bnd (getI l at_) fun x1=>br (eqI x0.order x1.order) (some (.inr (.inr false))) (some (.inl (addK .i64 i 1)))) (some (.inr (.inl ())))
noncomputable def Qj4 (l:List Qab) (at_:Int):Option Bool:=bnd (loopF (fun s=>Qdn l at_ s) 0) (fun e=>sel e (fun (_:Unit)=>some true) (fun r=>some r))
noncomputable def Qig (x0:Qac) (r:Qad) (s0:Qap) (x1:Qaj) (other:Int) (i:Int) (x2:Qab) (moved1:Int):Option ((Int×Int×Int)⊕(Int×Int)):=bnd (getI x0.orders x2.order) fun x4=>br (neI x4.last_ (-1)) (br (neI x4.last_ r.type_) (some (.inl (moved1,(addK .i64 other 1),(addK .i64 i 1)))) (some (.inl (moved1,other,(addK .i64 i 1))))) (some (.inl (moved1,other,(addK .i64 i 1))))
noncomputable def Qc3 (x0:Qac) (r:Qad) (s0:Qap) (x1:Qaj) (moved:Int) (other:Int) (i:Int):Option ((Int×Int×Int)⊕(Int×Int)):=br (ltI i (lenI r.visits)) (bnd (getI r.visits i) fun x2=>br ((ltI x2.order 0)||(geI x2.order (lenI x0.orders))) (some (.inl (moved,other,(addK .i64 i 1)))) (bnd (Qj4 r.visits i) fun r1=>br r1 (bnd (getI x0.orders x2.order) fun x3=>br (neI x3.now (-1)) (br (neI x3.now r.type_) (Qig x0 r s0 x1 other i x2 (addK .i64 moved 1)) (Qig x0 r s0 x1 other i x2 moved)) (br (neI x3.last_ (-1)) (br (neI x3.last_ r.type_) (some (.inl (moved,(addK .i64 other 1),(addK .i64 i 1)))) (some (.inl (moved,other,(addK .i64 i 1))))) (some (.inl (moved,other,(addK .i64 i 1)))))) (some (.inl (moved,other,(addK .i64 i 1)))))) (some (.inr (moved,other)))
noncomputable def Qk7 (x0:Qac) (r:Qad) (s0:Qap):Option QaG:=br ((ltI r.type_ 0)||(geI r.type_ (lenI x0.types))) (some (QaG.mk 0 0 0 0)) (bnd (getI x0.types r.type_) fun x1=>bnd (loopF (fun s=>Qc3 x0 r s0 x1 s.1 s.2.1 s.2.2) (0,0,0)) (fun e0=>(fun moved2 other1=>some (QaG.mk (addK .i64 (addK .i64 x1.fixed (mulK .i64 x1.perMile s0.miles)) (mulK .i64 x1.perTick (subK .i64 s0.end_ x1.open_))) moved2 other1 (mulK .i64 (quoK .i64 (subK .i64 s0.end_ x1.open_) 64) (quoK .i64 (subK .i64 s0.end_ x1.open_) 64)))) e0.1 e0.2))
noncomputable def Qcp (x0:Qac) (r:Qad) (i:Int):Option ((Int)⊕((Unit)⊕(Qap×QaG×Int))):=br (ltI i (lenI r.visits)) (bnd (getI x0.types r.type_) fun x1=>bnd (getI r.visits i) fun x2=>bnd (getI x0.orders x2.order) fun x3=>bnd (Qi0 x1 x3.skills) fun r2=>br r2 (some (.inl (addK .i64 i 1))) (some (.inr (.inr ((Qap.mk false 0 [] 0 0),(QaG.mk 0 0 0 0),18))))) (some (.inr (.inl ())))
noncomputable def Qgv (x0:Qac) (r:Qad):Option (Qap×QaG×Int):=br ((ltI r.type_ 0)||(geI r.type_ (lenI x0.types))) (some ((Qap.mk false 0 [] 0 0),(QaG.mk 0 0 0 0),2)) (bnd (Qie x0 r) fun r1=>br (neI r1 0) (some ((Qap.mk false 0 [] 0 0),(QaG.mk 0 0 0 0),r1)) (bnd (loopF (fun s=>Qcp x0 r s) 0) (fun e=>sel e (fun (_:Unit)=>bnd (QlZ x0 r) fun r3=>br (neI r3 0) (some ((Qap.mk false 0 [] 0 0),(QaG.mk 0 0 0 0),r3)) (bnd (Qi1 x0 r) fun r4=>br (neI r4.2 0) (some ((Qap.mk false 0 [] 0 0),(QaG.mk 0 0 0 0),r4.2)) (bnd (Qk7 x0 r r4.1) fun r5=>some (r4.1,r5,0)))) (fun r6=>some r6))))
noncomputable def Qk8 (x0:Qac) (r:Qad):Option (Int×Int):=bnd (Qgv x0 r) fun r1=>br (neI r1.2.2 0) (some (0,r1.2.2)) (bnd (Qj3 r1.2.1) fun r2=>some (r2.1,r2.2))
noncomputable def Qga (p:Qam) (v:Int):Option ((Int)⊕((Unit)⊕(Bool))):=br (ltI v (lenI p.routes)) (bnd (getI p.routes v) fun x0=>bnd (Qh4 x0) fun r=>br r (some (.inl (addK .i64 v 1))) (some (.inr (.inr false)))) (some (.inr (.inl ())))
noncomputable def Qh3 (p:Qam):Option Bool:=br (gtI (lenI p.routes) 4) (some false) (bnd (loopF (fun s=>Qga p s) 0) (fun e=>sel e (fun (_:Unit)=>some true) (fun r1=>some r1)))
noncomputable def QiJ (x0:Qac) (p:Qam) (o:Int):Option (Qam×Int):=bnd (QhE x0 o) fun r=>br (neI r 0) (some ((Qam.mk [] []),r)) (bnd (QhH p o) fun r1=>br r1 (some ((Qam.mk [] []),6)) (bnd (QkK x0 p o) fun r2=>br (neI r2.2 0) (some ((Qam.mk [] []),r2.2)) (bnd (QkL p r2.1 o) fun r3=>some (r3,0))))
noncomputable def Qmz (x0:Qac) (r:Qad):Option Int:=bnd (Qfk x0 r) fun r1=>some r1.2.2
noncomputable def Qdz (x0:Qac) (p:Qam) (l:List Int) (l1:List Int) (l2:List Int) (v:Int) (r:Int×Int) (l3:List Int) (v1:Int):Option ((List Int×Int)⊕(List Int)):=br (ltI v1 (lenI l2)) (bnd (getI l3 v1) fun x2=>chk ((0:Int)≤v1) (some (.inl ((setI l3 v1 (addK .i64 x2 (andK .i64 (shrK .i64 r.1 v1) 1))),(addK .i64 v1 1))))) (some (.inr l3))
noncomputable def Qdy (x0:Qac) (p:Qam) (l:List Int) (l1:List Int) (l2:List Int) (v:Int):Option ((List Int×Int)⊕(List Int)):=br (ltI v (lenI p.routes)) (bnd (getI p.routes v) fun x1=>bnd (Qgh x1) fun r=>bnd (loopF (fun s=>Qdz x0 p l l1 l2 v r s.1 s.2) (l2,0)) (fun l4=>some (.inl (l4,(addK .i64 v 1))))) (some (.inr l2))
noncomputable def QdA (x0:Qac) (p:Qam) (l:List Int) (l5:List Int) (l6:List Int) (v2:Int):Option ((List Int×Int)⊕((List Int)⊕(List Int×List Int×Bool))):=br (ltI v2 (lenI p.unserved)) (bnd (getI p.unserved v2) fun x3=>br ((ltI x3 0)||(geI x3 (lenI x0.orders))) (some (.inr (.inr ([],[],false)))) (bnd (getI l6 x3) fun x4=>some (.inl ((setI l6 x3 (addK .i64 x4 1)),(addK .i64 v2 1))))) (some (.inr (.inl l6)))
noncomputable def QkN (x0:Qac) (p:Qam):Option (List Int×List Int×Bool):=bnd (mkI (lenI x0.orders) (lenI x0.orders) 8 0) fun l=>bnd (mkI (lenI x0.orders) (lenI x0.orders) 8 0) fun l1=>bnd (loopF (fun s=>Qdy x0 p l l1 s.1 s.2) (l,0)) (fun l5=>bnd (loopF (fun s=>QdA x0 p l l5 s.1 s.2) (l1,0)) (fun e=>sel e (fun l7=>some (l5,l7,true)) (fun r1=>some r1)))
noncomputable def QcV (x0:Qac) (p:Qam) (l:List Int) (l1:List Int) (v:Int):Option ((List Int×Int)⊕(List Int)):=br (ltI v (lenI p.routes)) (bnd (getI p.routes v) fun x1=>bnd (getI l1 x1.type_) fun x2=>some (.inl ((setI l1 x1.type_ (addK .i64 x2 1)),(addK .i64 v 1)))) (some (.inr l1))
noncomputable def Qeq (x0:Qac) (l:List Int) (l2:List Int) (v1:Int):Option ((Int)⊕((Unit)⊕(Bool))):=br (ltI v1 (lenI l2)) (bnd (getI l2 v1) fun x3=>bnd (getI x0.types v1) fun x4=>br (gtI x3 x4.count) (some (.inr (.inr true))) (some (.inl (addK .i64 v1 1)))) (some (.inr (.inl ())))
noncomputable def QiT (x0:Qac) (p:Qam):Option Bool:=bnd (mkI (lenI x0.types) (lenI x0.types) 8 0) fun l=>bnd (loopF (fun s=>QcV x0 p l s.1 s.2) (l,0)) (fun l2=>bnd (loopF (fun s=>Qeq x0 l l2 s) 0) (fun e=>sel e (fun (_:Unit)=>some false) (fun r=>some r)))
noncomputable def QmS (i:Int) (a:Qag) (c:List Int) (c1:List Int):Option Bool:=bnd (getI c i) fun x0=>bnd (getI c1 i) fun x1=>some (gtI (addK .i64 x0 x1) 1)
noncomputable def QbC (c:List Int) (c1:List Int) (c2:Qac) (v:Int):Option ((Int)⊕((Unit)⊕(Bool))):=br (ltI v (lenI c2.orders)) (bnd (getI c2.orders v) fun x0=>bnd (QmS v x0 c c1) fun r=>br r (some (.inr (.inr true))) (some (.inl (addK .i64 v 1)))) (some (.inr (.inl ())))
noncomputable def QeP (c:List Int) (c1:List Int) (c2:Qac):Option Bool:=bnd (loopF (fun s=>QbC c c1 c2 s) 0) (fun e=>sel e (fun (_:Unit)=>some false) (fun r1=>some r1))
noncomputable def QmT (i:Int) (o:Qag) (c:List Int):Option Bool:=br o.off (bnd (getI c i) fun x0=>some (gtI x0 0)) (some false)
noncomputable def QbD (c:List Int) (c1:Qac) (v:Int):Option ((Int)⊕((Unit)⊕(Bool))):=br (ltI v (lenI c1.orders)) (bnd (getI c1.orders v) fun x0=>bnd (QmT v x0 c) fun r=>br r (some (.inr (.inr true))) (some (.inl (addK .i64 v 1)))) (some (.inr (.inl ())))
noncomputable def QeQ (c:List Int) (c1:Qac):Option Bool:=bnd (loopF (fun s=>QbD c c1 s) 0) (fun e=>sel e (fun (_:Unit)=>some false) (fun r1=>some r1))
noncomputable def QmU (i:Int) (o:Qag) (c:List Int) (c1:List Int):Option Bool:=br o.off (some false) (bnd (getI c i) fun x0=>bnd (getI c1 i) fun x1=>br (eqI (addK .i64 x0 x1) 0) (some true) (some ((gtI x1 0)&&(eqI o.penalty (-1)))))
noncomputable def QbE (c:List Int) (c1:List Int) (c2:Qac) (v:Int):Option ((Int)⊕((Unit)⊕(Bool))):=br (ltI v (lenI c2.orders)) (bnd (getI c2.orders v) fun x0=>bnd (QmU v x0 c c1) fun r=>br r (some (.inr (.inr true))) (some (.inl (addK .i64 v 1)))) (some (.inr (.inl ())))
noncomputable def QeR (c:List Int) (c1:List Int) (c2:Qac):Option Bool:=bnd (loopF (fun s=>QbE c c1 c2 s) 0) (fun e=>sel e (fun (_:Unit)=>some false) (fun r1=>some r1))
noncomputable def QgQ (x0:Qac) (p:Qam) (v:Int):Option ((Int)⊕((Unit)⊕(Int))):=br (ltI v (lenI p.routes)) (bnd (getI p.routes v) fun x1=>bnd (Qmz x0 x1) fun r=>br (neI r 0) (some (.inr (.inr r))) (some (.inl (addK .i64 v 1)))) (some (.inr (.inl ())))
noncomputable def QgP (x0:Qac) (p:Qam):Option Int:=bnd (loopF (fun s=>QgQ x0 p s) 0) (fun e=>sel e (fun (_:Unit)=>bnd (QkN x0 p) fun r1=>br r1.2.2 (bnd (QeP r1.1 r1.2.1 x0) fun r2=>br r2 (some 6) (bnd (QiT x0 p) fun r3=>br r3 (some 22) (bnd (QeQ r1.2.1 x0) fun r4=>br r4 (some 9) (bnd (QeR r1.1 r1.2.1 x0) fun r5=>br r5 (some 23) (some 0))))) (some 2)) (fun r6=>some r6))
noncomputable def Qe5 (l:List Int) (n:Int) (v:Int):Option ((Int)⊕((Unit)⊕(Bool))):=br (ltI v (lenI l)) (bnd (getI l v) fun x0=>br (eqI x0 n) (some (.inr (.inr true))) (some (.inl (addK .i64 v 1)))) (some (.inr (.inl ())))
noncomputable def Qdx (l:List Int) (n:Int):Option Bool:=bnd (loopF (fun s=>Qe5 l n s) 0) (fun e=>sel e (fun (_:Unit)=>some false) (fun r=>some r))
noncomputable def Qfa (x0:Qac) (p:Qam) (at_:Int) (l:List Int):Option Bool:=bnd (QgD x0) fun r=>br ((!r)||(gtI (lenI x0.orders) 4)) (bnd (Qbq) fun r1=>some r1) (bnd (Qh3 p) fun r2=>br r2 (bnd (QhD x0 l) fun r3=>br (eqI r3.2 0) (bnd (QgP x0 r3.1) fun r4=>br (neI r4 0) (some false) (bnd (QgP x0 p) fun r5=>br (neI r5 0) (bnd (Qbq) fun r6=>some r6) (bnd (Qdx p.unserved at_) fun r7=>br r7 (bnd (QiJ x0 p at_) fun r8=>br (neI r8.2 0) (br (eqI r8.2 24) (bnd (Qbq) fun r9=>some r9) (some false)) (bnd (QgP x0 r8.1) fun r10=>br (eqI r10 0) (bnd (Qdx r8.1.unserved at_) fun r11=>br (((!r11)&&(eqI (lenI r8.1.unserved) (subK .i64 (lenI p.unserved) 1)))&&(geI (lenI r8.1.routes) (lenI p.routes))) (bnd (Qbq) fun r12=>some r12) (some false)) (some false))) (bnd (Qbq) fun r13=>some r13)))) (bnd (QgP x0 p) fun r14=>br (neI r14 0) (bnd (Qbq) fun r15=>some r15) (bnd (Qdx p.unserved at_) fun r16=>br r16 (bnd (QiJ x0 p at_) fun r17=>br (neI r17.2 0) (br (eqI r17.2 24) (bnd (Qbq) fun r18=>some r18) (some false)) (bnd (QgP x0 r17.1) fun r19=>br (eqI r19 0) (bnd (Qdx r17.1.unserved at_) fun r20=>br (((!r20)&&(eqI (lenI r17.1.unserved) (subK .i64 (lenI p.unserved) 1)))&&(geI (lenI r17.1.routes) (lenI p.routes))) (bnd (Qbq) fun r21=>some r21) (some false)) (some false))) (bnd (Qbq) fun r22=>some r22)))) (bnd (Qbq) fun r23=>some r23))
end Go.Proofs.YtpkkaboonnedfaaGreatDoor
namespace Go.Proofs.YtpkkaboonnedfaaGreatDoor
set_option linter.unusedVariables false
set_option linter.unusedSectionVars false
set_option linter.unusedSimpArgs false
open Go.RowKit
variable {N : Nat}
theorem oq_9:Opens Tryz.prog N 9 (rdE 1 e_str (fun s:ByteArray=>s.size≤N) (fun _=>rfl)):=QB0 Tryz.underlying9 (by kernel_rfl)
theorem oq_22:Opens Tryz.prog N 22 (rdE 1 (fun l:List ByteArray=>[.sl false 1 (l.map e_str)]) (fun l:List (ByteArray)=>l.length≤N∧∀ x∈l,(fun s:ByteArray=>s.size≤N) x) (fun _=>rfl)):=Ql1 Tryz.underlying22 (by kernel_rfl) oq_9 (by decide)
theorem oq_3:Opens Tryz.prog N 3 (rdE 1 e_i64 isI (fun _=>rfl)):=QBZ Tryz.underlying3 (by kernel_rfl)
def Qao.ok (N:Nat) (x:Qao):Prop:=isI x.t∧isI x.a∧True
theorem QB1:Opens Tryz.prog N 119 (rdE 2 Qao.enc (Qao.ok N) (fun _=>rfl)):=Qi3 Tryz.underlying119 (by kernel_rfl) (.cons rfl oq_3 (.cons rfl oq_3 .nil)) rfl (HE.pair HE.rd (HE.pair HE.rd HE.unit)) (fun a=>⟨a.1,a.2.1⟩) (fun _=>rfl) (fun _ h=>h)
theorem QBw:Opens Tryz.prog N 120 (rdE 1 (fun l:List Qao=>[.sl false 2 (l.map Qao.enc)]) (fun l:List (Qao)=>l.length≤N∧∀ x∈l,(Qao.ok N) x) (fun _=>rfl)):=Ql1 Tryz.underlying120 (by kernel_rfl) QB1 (by decide)
def Qas.ok (N:Nat) (x:Qas):Prop:=isI x.from_∧isI x.to_∧isI x.profile∧isI x.miles∧(fun l:List (Qao)=>l.length≤N∧∀ x∈l,(Qao.ok N) x) x.travel∧(fun l:List (Qao)=>l.length≤N∧∀ x∈l,(Qao.ok N) x) x.slow∧True
theorem QB2:Opens Tryz.prog N 122 (rdE 6 Qas.enc (Qas.ok N) (fun _=>rfl)):=Qi3 Tryz.underlying122 (by kernel_rfl) (.cons rfl oq_3 (.cons rfl oq_3 (.cons rfl oq_3 (.cons rfl oq_3 (.cons rfl QBw (.cons rfl QBw .nil)))))) rfl (HE.pair HE.rd (HE.pair HE.rd (HE.pair HE.rd (HE.pair HE.rd (HE.pair HE.rd (HE.pair HE.rd HE.unit)))))) (fun a=>⟨a.1,a.2.1,a.2.2.1,a.2.2.2.1,a.2.2.2.2.1,a.2.2.2.2.2.1⟩) (fun _=>rfl) (fun _ h=>h)
theorem oq_23:Opens Tryz.prog N 23 (rdE 1 (fun l:List Qas=>[.sl false 6 (l.map Qas.enc)]) (fun l:List (Qas)=>l.length≤N∧∀ x∈l,(Qas.ok N) x) (fun _=>rfl)):=Ql1 Tryz.underlying23 (by kernel_rfl) QB2 (by decide)
def Qai.ok (N:Nat) (x:Qai):Prop:=(fun l:List (ByteArray)=>l.length≤N∧∀ x∈l,(fun s:ByteArray=>s.size≤N) x) x.places∧(fun l:List (Qas)=>l.length≤N∧∀ x∈l,(Qas.ok N) x) x.arcs∧True
theorem oq_25:Opens Tryz.prog N 25 (rdE 2 Qai.enc (Qai.ok N) (fun _=>rfl)):=Qi3 Tryz.underlying25 (by kernel_rfl) (.cons rfl oq_22 (.cons rfl oq_23 .nil)) rfl (HE.pair HE.rd (HE.pair HE.rd HE.unit)) (fun a=>⟨a.1,a.2.1⟩) (fun _=>rfl) (fun _ h=>h)
theorem oq_42:Opens Tryz.prog N 42 (rdE 1 (fun l:List Int=>[.sl false 1 (l.map e_i64)]) (fun l:List (Int)=>l.length≤N∧∀ x∈l,isI x) (fun _=>rfl)):=Ql1 Tryz.underlying42 (by kernel_rfl) oq_3 (by decide)
def Qaj.ok (N:Nat) (x:Qaj):Prop:=(fun s:ByteArray=>s.size≤N) x.name∧isI x.count∧isI x.from_∧isI x.to_∧(fun l:List (Int)=>l.length≤N∧∀ x∈l,isI x) x.cap∧isI x.skills∧isI x.profile∧isI x.open_∧isI x.close∧isI x.drive∧isI x.rest_∧isI x.fixed∧isI x.perMile∧isI x.perTick∧True
theorem QB3:Opens Tryz.prog N 124 (rdE 14 Qaj.enc (Qaj.ok N) (fun _=>rfl)):=Qi3 Tryz.underlying124 (by kernel_rfl) (.cons rfl oq_9 (.cons rfl oq_3 (.cons rfl oq_3 (.cons rfl oq_3 (.cons rfl oq_42 (.cons rfl oq_3 (.cons rfl oq_3 (.cons rfl oq_3 (.cons rfl oq_3 (.cons rfl oq_3 (.cons rfl oq_3 (.cons rfl oq_3 (.cons rfl oq_3 (.cons rfl oq_3 .nil)))))))))))))) rfl (HE.pair HE.rd (HE.pair HE.rd (HE.pair HE.rd (HE.pair HE.rd (HE.pair HE.rd (HE.pair HE.rd (HE.pair HE.rd (HE.pair HE.rd (HE.pair HE.rd (HE.pair HE.rd (HE.pair HE.rd (HE.pair HE.rd (HE.pair HE.rd (HE.pair HE.rd HE.unit)))))))))))))) (fun a=>⟨a.1,a.2.1,a.2.2.1,a.2.2.2.1,a.2.2.2.2.1,a.2.2.2.2.2.1,a.2.2.2.2.2.2.1,a.2.2.2.2.2.2.2.1,a.2.2.2.2.2.2.2.2.1,a.2.2.2.2.2.2.2.2.2.1,a.2.2.2.2.2.2.2.2.2.2.1,a.2.2.2.2.2.2.2.2.2.2.2.1,a.2.2.2.2.2.2.2.2.2.2.2.2.1,a.2.2.2.2.2.2.2.2.2.2.2.2.2.1⟩) (fun _=>rfl) (fun _ h=>h)
theorem oq_26:Opens Tryz.prog N 26 (rdE 1 (fun l:List Qaj=>[.sl false 14 (l.map Qaj.enc)]) (fun l:List (Qaj)=>l.length≤N∧∀ x∈l,(Qaj.ok N) x) (fun _=>rfl)):=Ql1 Tryz.underlying26 (by kernel_rfl) QB3 (by decide)
def Qau.ok (N:Nat) (x:Qau):Prop:=isI x.place∧isI x.open_∧isI x.close∧isI x.service∧True
theorem oq_72:Opens Tryz.prog N 72 (rdE 4 Qau.enc (Qau.ok N) (fun _=>rfl)):=Qi3 Tryz.underlying72 (by kernel_rfl) (.cons rfl oq_3 (.cons rfl oq_3 (.cons rfl oq_3 (.cons rfl oq_3 .nil)))) rfl (HE.pair HE.rd (HE.pair HE.rd (HE.pair HE.rd (HE.pair HE.rd HE.unit)))) (fun a=>⟨a.1,a.2.1,a.2.2.1,a.2.2.2.1⟩) (fun _=>rfl) (fun _ h=>h)
theorem oq_4:Opens Tryz.prog N 4 (rdE 1 Qdt (fun _:Bool=>True) (fun _=>rfl)):=QBt Tryz.underlying4 (by kernel_rfl)
def Qag.ok (N:Nat) (x:Qag):Prop:=(fun s:ByteArray=>s.size≤N) x.name∧(fun l:List (Int)=>l.length≤N∧∀ x∈l,isI x) x.load∧(Qau.ok N) x.pick∧(Qau.ok N) x.drop∧isI x.skills∧isI x.penalty∧isI x.split∧isI x.last_∧isI x.now∧(fun _:Bool=>True) x.off∧True
theorem oq_74:Opens Tryz.prog N 74 (rdE 16 Qag.enc (Qag.ok N) (fun _=>rfl)):=Qi3 Tryz.underlying74 (by kernel_rfl) (.cons rfl oq_9 (.cons rfl oq_42 (.cons rfl oq_72 (.cons rfl oq_72 (.cons rfl oq_3 (.cons rfl oq_3 (.cons rfl oq_3 (.cons rfl oq_3 (.cons rfl oq_3 (.cons rfl oq_4 .nil)))))))))) rfl (HE.pair HE.rd (HE.pair HE.rd (HE.pair HE.rd (HE.pair HE.rd (HE.pair HE.rd (HE.pair HE.rd (HE.pair HE.rd (HE.pair HE.rd (HE.pair HE.rd (HE.pair HE.rd HE.unit)))))))))) (fun a=>⟨a.1,a.2.1,a.2.2.1,a.2.2.2.1,a.2.2.2.2.1,a.2.2.2.2.2.1,a.2.2.2.2.2.2.1,a.2.2.2.2.2.2.2.1,a.2.2.2.2.2.2.2.2.1,a.2.2.2.2.2.2.2.2.2.1⟩) (fun _=>rfl) (fun _ h=>h)
theorem oq_27:Opens Tryz.prog N 27 (rdE 1 (fun l:List Qag=>[.sl false 16 (l.map Qag.enc)]) (fun l:List (Qag)=>l.length≤N∧∀ x∈l,(Qag.ok N) x) (fun _=>rfl)):=Ql1 Tryz.underlying27 (by kernel_rfl) oq_74 (by decide)
def QaW.ok (N:Nat) (x:QaW):Prop:=isI x.x0∧isI x.x1
theorem QB4:Opens Tryz.prog N 162 (rdE 2 QaW.enc (QaW.ok N) (fun _=>rfl)):=QyU Tryz.underlying162 (by kernel_rfl) oq_3 rfl (fun a b=>⟨a,b⟩) (fun _ _=>rfl) (fun _ _ h h2=>⟨h,h2⟩)
theorem oq_28:Opens Tryz.prog N 28 (rdE 1 (fun l:List QaW=>[.sl false 2 (l.map QaW.enc)]) (fun l:List (QaW)=>l.length≤N∧∀ x∈l,(QaW.ok N) x) (fun _=>rfl)):=Ql1 Tryz.underlying28 (by kernel_rfl) QB4 (by decide)
def Qac.ok (N:Nat) (x:Qac):Prop:=(Qai.ok N) x.net∧(fun l:List (Qaj)=>l.length≤N∧∀ x∈l,(Qaj.ok N) x) x.types∧(fun l:List (Qag)=>l.length≤N∧∀ x∈l,(Qag.ok N) x) x.orders∧(fun l:List (QaW)=>l.length≤N∧∀ x∈l,(QaW.ok N) x) x.apart∧(fun l:List (QaW)=>l.length≤N∧∀ x∈l,(QaW.ok N) x) x.before∧True
theorem oq_30:Opens Tryz.prog N 30 (rdE 6 Qac.enc (Qac.ok N) (fun _=>rfl)):=Qi3 Tryz.underlying30 (by kernel_rfl) (.cons rfl oq_25 (.cons rfl oq_26 (.cons rfl oq_27 (.cons rfl oq_28 (.cons rfl oq_28 .nil))))) rfl (HE.pair HE.rd (HE.pair HE.rd (HE.pair HE.rd (HE.pair HE.rd (HE.pair HE.rd HE.unit))))) (fun a=>⟨a.1,a.2.1,a.2.2.1,a.2.2.2.1,a.2.2.2.2.1⟩) (fun _=>rfl) (fun _ h=>h)
theorem oq_31:Opens Tryz.prog N 31 (rdE 1 (fun l:List Bool=>[.sl false 1 (l.map Qdt)]) (fun l:List (Bool)=>l.length≤N∧∀ x∈l,(fun _:Bool=>True) x) (fun _=>rfl)):=Ql1 Tryz.underlying31 (by kernel_rfl) oq_4 (by decide)
def Qab.ok (N:Nat) (x:Qab):Prop:=isI x.order∧(fun _:Bool=>True) x.drop∧True
theorem oq_52:Opens Tryz.prog N 52 (rdE 2 Qab.enc (Qab.ok N) (fun _=>rfl)):=Qi3 Tryz.underlying52 (by kernel_rfl) (.cons rfl oq_3 (.cons rfl oq_4 .nil)) rfl (HE.pair HE.rd (HE.pair HE.rd HE.unit)) (fun a=>⟨a.1,a.2.1⟩) (fun _=>rfl) (fun _ h=>h)
theorem oq_32:Opens Tryz.prog N 32 (rdE 1 (fun l:List Qab=>[.sl false 2 (l.map Qab.enc)]) (fun l:List (Qab)=>l.length≤N∧∀ x∈l,(Qab.ok N) x) (fun _=>rfl)):=Ql1 Tryz.underlying32 (by kernel_rfl) oq_52 (by decide)
def Qad.ok (N:Nat) (x:Qad):Prop:=isI x.type_∧isI x.start∧(fun l:List (Bool)=>l.length≤N∧∀ x∈l,(fun _:Bool=>True) x) x.rests∧(fun l:List (Qab)=>l.length≤N∧∀ x∈l,(Qab.ok N) x) x.visits∧True
theorem oq_34:Opens Tryz.prog N 34 (rdE 4 Qad.enc (Qad.ok N) (fun _=>rfl)):=Qi3 Tryz.underlying34 (by kernel_rfl) (.cons rfl oq_3 (.cons rfl oq_3 (.cons rfl oq_31 (.cons rfl oq_32 .nil)))) rfl (HE.pair HE.rd (HE.pair HE.rd (HE.pair HE.rd (HE.pair HE.rd HE.unit)))) (fun a=>⟨a.1,a.2.1,a.2.2.1,a.2.2.2.1⟩) (fun _=>rfl) (fun _ h=>h)
theorem oq_41:Opens Tryz.prog N 41 (rdE 1 (fun l:List Qad=>[.sl false 4 (l.map Qad.enc)]) (fun l:List (Qad)=>l.length≤N∧∀ x∈l,(Qad.ok N) x) (fun _=>rfl)):=Ql1 Tryz.underlying41 (by kernel_rfl) oq_34 (by decide)
def Qam.ok (N:Nat) (x:Qam):Prop:=(fun l:List (Qad)=>l.length≤N∧∀ x∈l,(Qad.ok N) x) x.routes∧(fun l:List (Int)=>l.length≤N∧∀ x∈l,isI x) x.unserved∧True
theorem oq_44:Opens Tryz.prog N 44 (rdE 2 Qam.enc (Qam.ok N) (fun _=>rfl)):=Qi3 Tryz.underlying44 (by kernel_rfl) (.cons rfl oq_41 (.cons rfl oq_42 .nil)) rfl (HE.pair HE.rd (HE.pair HE.rd HE.unit)) (fun a=>⟨a.1,a.2.1⟩) (fun _=>rfl) (fun _ h=>h)
end Go.Proofs.YtpkkaboonnedfaaGreatDoor
