/- Part MT of the proof: texts Lt Ld Lo. -/
import Derived.Test.YtfjiafgldchinaaGreatDoorMA
import Derived.Test.YtfjiafgldchinaaGreatDoorMC
namespace Go.Proofs.YtfjiafgldchinaaGreatDoor
set_option linter.unusedVariables false
set_option linter.unusedSectionVars false
set_option linter.unusedSimpArgs false
def Qax (n:Int):List Lf:=[.int .i64 n]
def e_u8 (n:Int):List Lf:=[.int .u8 n]
def Qc8 (b:Bool):List Lf:=[.bool b]
def Qh6 (s:ByteArray):List Lf:=[.str s]
structure Qac where
  err:Int
  at_:ByteArray
instance:DecidableEq Qac:=fun a b=>decidable_of_iff (a.err=b.err∧a.at_=b.at_) (by cases a; cases b; simp)
structure Qai where
  t:Int
  a:Int
instance:DecidableEq Qai:=fun a b=>decidable_of_iff (a.t=b.t∧a.a=b.a) (by cases a; cases b; simp)
structure Qao where
  from_:Int
  to_:Int
  profile:Int
  miles:Int
  travel:List Qai
  slow:List Qai
instance:DecidableEq Qao:=fun a b=>decidable_of_iff (a.from_=b.from_∧a.to_=b.to_∧a.profile=b.profile∧a.miles=b.miles∧a.travel=b.travel∧a.slow=b.slow) (by cases a; cases b; simp)
structure Qak where
  places:List ByteArray
  arcs:List Qao
instance:DecidableEq Qak:=fun a b=>decidable_of_iff (a.places=b.places∧a.arcs=b.arcs) (by cases a; cases b; simp)
structure Qag where
  name:ByteArray
  count:Int
  from_:Int
  to_:Int
  cap:List Int
  skills:Int
  profile:Int
  open_:Int
  close:Int
  drive:Int
  rest_:Int
  fixed:Int
  perMile:Int
  perTick:Int
instance:DecidableEq Qag:=fun a b=>decidable_of_iff (a.name=b.name∧a.count=b.count∧a.from_=b.from_∧a.to_=b.to_∧a.cap=b.cap∧a.skills=b.skills∧a.profile=b.profile∧a.open_=b.open_∧a.close=b.close∧a.drive=b.drive∧a.rest_=b.rest_∧a.fixed=b.fixed∧a.perMile=b.perMile∧a.perTick=b.perTick) (by cases a; cases b; simp)
structure Qar where
  place:Int
  open_:Int
  close:Int
  service:Int
instance:DecidableEq Qar:=fun a b=>decidable_of_iff (a.place=b.place∧a.open_=b.open_∧a.close=b.close∧a.service=b.service) (by cases a; cases b; simp)
structure Qaf where
  name:ByteArray
  load:List Int
  pick:Qar
  drop:Qar
  skills:Int
  penalty:Int
  split:Int
  last_:Int
  now:Int
  off:Bool
instance:DecidableEq Qaf:=fun a b=>decidable_of_iff (a.name=b.name∧a.load=b.load∧a.pick=b.pick∧a.drop=b.drop∧a.skills=b.skills∧a.penalty=b.penalty∧a.split=b.split∧a.last_=b.last_∧a.now=b.now∧a.off=b.off) (by cases a; cases b; simp)
structure Qau where
  x0:Int
  x1:Int
instance:DecidableEq Qau:=fun a b=>decidable_of_iff (a.x0=b.x0∧a.x1=b.x1) (by cases a; cases b; simp)
structure Qab where
  net:Qak
  types:List Qag
  orders:List Qaf
  apart:List Qau
  before:List Qau
instance:DecidableEq Qab:=fun a b=>decidable_of_iff (a.net=b.net∧a.types=b.types∧a.orders=b.orders∧a.apart=b.apart∧a.before=b.before) (by cases a; cases b; simp)
structure Qaa where
  order:Int
  drop:Bool
instance:DecidableEq Qaa:=fun a b=>decidable_of_iff (a.order=b.order∧a.drop=b.drop) (by cases a; cases b; simp)
structure Qad where
  type_:Int
  visits:List Qaa
  place:Int
  time:Int
  driven:Int
  miles:Int
  load:List Int
  done:Int
  open_:Int
instance:DecidableEq Qad:=fun a b=>decidable_of_iff (a.type_=b.type_∧a.visits=b.visits∧a.place=b.place∧a.time=b.time∧a.driven=b.driven∧a.miles=b.miles∧a.load=b.load∧a.done=b.done∧a.open_=b.open_) (by cases a; cases b; simp)
structure Qhj where
  from_:Int
  to_:Int
  profile:Int
instance:DecidableEq Qhj:=fun a b=>decidable_of_iff (a.from_=b.from_∧a.to_=b.to_∧a.profile=b.profile) (by cases a; cases b; simp)
structure QyW where
  x0:Int
  x1:Int
  x2:Int
  x3:Int
  x4:Int
  x5:Int
  x6:Int
  x7:Int
  x8:Int
  x9:Int
  x10:Int
  x11:Int
  x12:Int
  x13:Int
  x14:Int
  x15:Int
  x16:Int
  x17:Int
  x18:Int
  x19:Int
  x20:Int
  x21:Int
  x22:Int
  x23:Int
instance:DecidableEq QyW:=fun a b=>decidable_of_iff (a.x0=b.x0∧a.x1=b.x1∧a.x2=b.x2∧a.x3=b.x3∧a.x4=b.x4∧a.x5=b.x5∧a.x6=b.x6∧a.x7=b.x7∧a.x8=b.x8∧a.x9=b.x9∧a.x10=b.x10∧a.x11=b.x11∧a.x12=b.x12∧a.x13=b.x13∧a.x14=b.x14∧a.x15=b.x15∧a.x16=b.x16∧a.x17=b.x17∧a.x18=b.x18∧a.x19=b.x19∧a.x20=b.x20∧a.x21=b.x21∧a.x22=b.x22∧a.x23=b.x23) (by cases a; cases b; simp)
structure Qam where
  type_:Int
  start:Int
  rests:List Bool
  visits:List Qaa
instance:DecidableEq Qam:=fun a b=>decidable_of_iff (a.type_=b.type_∧a.start=b.start∧a.rests=b.rests∧a.visits=b.visits) (by cases a; cases b; simp)
structure QaF where
  arrive:Int
  begin:Int
  depart:Int
  rest_:Bool
instance:DecidableEq QaF:=fun a b=>decidable_of_iff (a.arrive=b.arrive∧a.begin=b.begin∧a.depart=b.depart∧a.rest_=b.rest_) (by cases a; cases b; simp)
structure Qap where
  rest_:Bool
  depart:Int
  times:List QaF
  end_:Int
  miles:Int
instance:DecidableEq Qap:=fun a b=>decidable_of_iff (a.rest_=b.rest_∧a.depart=b.depart∧a.times=b.times∧a.end_=b.end_∧a.miles=b.miles) (by cases a; cases b; simp)
structure Qay where
  cost:Int
  moved:Int
  other:Int
  work:Int
instance:DecidableEq Qay:=fun a b=>decidable_of_iff (a.cost=b.cost∧a.moved=b.moved∧a.other=b.other∧a.work=b.work) (by cases a; cases b; simp)
structure Qyd where
  x0:Int
  x1:Int
  x2:Int
  x3:Int
instance:DecidableEq Qyd:=fun a b=>decidable_of_iff (a.x0=b.x0∧a.x1=b.x1∧a.x2=b.x2∧a.x3=b.x3) (by cases a; cases b; simp)
structure Qan where
  items:List Qad
  first_:Int
instance:DecidableEq Qan:=fun a b=>decidable_of_iff (a.items=b.items∧a.first_=b.first_) (by cases a; cases b; simp)
structure Qbw where
  queue:Qan
  x:Qab
instance:DecidableEq Qbw:=fun a b=>decidable_of_iff (a.queue=b.queue∧a.x=b.x) (by cases a; cases b; simp)
structure Qaq where
  type_:Int
  visits:List Qaa
  place:Int
  time:Int
  driven:Int
  miles:Int
  load:List Int
  done:Int
  open_:Int
instance:DecidableEq Qaq:=fun a b=>decidable_of_iff (a.type_=b.type_∧a.visits=b.visits∧a.place=b.place∧a.time=b.time∧a.driven=b.driven∧a.miles=b.miles∧a.load=b.load∧a.done=b.done∧a.open_=b.open_) (by cases a; cases b; simp)
structure QfI where
  visits:List Qaa
  rests:List Bool
instance:DecidableEq QfI:=fun a b=>decidable_of_iff (a.visits=b.visits∧a.rests=b.rests) (by cases a; cases b; simp)
structure Qav where
  place:Int
  time:Int
  driven:Int
  miles:Int
instance:DecidableEq Qav:=fun a b=>decidable_of_iff (a.place=b.place∧a.time=b.time∧a.driven=b.driven∧a.miles=b.miles) (by cases a; cases b; simp)
structure Qas where
  type_:Int
  set_:Int
  price:Int
  route:Qam
instance:DecidableEq Qas:=fun a b=>decidable_of_iff (a.type_=b.type_∧a.set_=b.set_∧a.price=b.price∧a.route=b.route) (by cases a; cases b; simp)
def Qac.enc (x:Qac):List Lf:=[lI x.err,.str x.at_]
def Qai.enc (x:Qai):List Lf:=[lI x.t,lI x.a]
def Qao.enc (x:Qao):List Lf:=[lI x.from_,lI x.to_,lI x.profile,lI x.miles,lL 2 x.travel Qai.enc,lL 2 x.slow Qai.enc]
def Qak.enc (x:Qak):List Lf:=[lL 1 x.places Qh6,lL 6 x.arcs Qao.enc]
def Qag.enc (x:Qag):List Lf:=[.str x.name,lI x.count,lI x.from_,lI x.to_,lL 1 x.cap Qax,lI x.skills,lI x.profile,lI x.open_,lI x.close,lI x.drive,lI x.rest_,lI x.fixed,lI x.perMile,lI x.perTick]
def Qar.enc (x:Qar):List Lf:=[lI x.place,lI x.open_,lI x.close,lI x.service]
def Qaf.enc (x:Qaf):List Lf:=[.str x.name,lL 1 x.load Qax,lI x.pick.place,lI x.pick.open_,lI x.pick.close,lI x.pick.service,lI x.drop.place,lI x.drop.open_,lI x.drop.close,lI x.drop.service,lI x.skills,lI x.penalty,lI x.split,lI x.last_,lI x.now,.bool x.off]
def Qau.enc (x:Qau):List Lf:=[lI x.x0,lI x.x1]
def Qab.enc (x:Qab):List Lf:=[lL 1 x.net.places Qh6,lL 6 x.net.arcs Qao.enc,lL 14 x.types Qag.enc,lL 16 x.orders Qaf.enc,lL 2 x.apart Qau.enc,lL 2 x.before Qau.enc]
def Qaa.enc (x:Qaa):List Lf:=[lI x.order,.bool x.drop]
def Qad.enc (x:Qad):List Lf:=[lI x.type_,lL 2 x.visits Qaa.enc,lI x.place,lI x.time,lI x.driven,lI x.miles,lL 1 x.load Qax,lI x.done,lI x.open_]
def Qhj.enc (x:Qhj):List Lf:=[lI x.from_,lI x.to_,lI x.profile]
def QyW.enc (x:QyW):List Lf:=[.int .u8 x.x0,.int .u8 x.x1,.int .u8 x.x2,.int .u8 x.x3,.int .u8 x.x4,.int .u8 x.x5,.int .u8 x.x6,.int .u8 x.x7,.int .u8 x.x8,.int .u8 x.x9,.int .u8 x.x10,.int .u8 x.x11,.int .u8 x.x12,.int .u8 x.x13,.int .u8 x.x14,.int .u8 x.x15,.int .u8 x.x16,.int .u8 x.x17,.int .u8 x.x18,.int .u8 x.x19,.int .u8 x.x20,.int .u8 x.x21,.int .u8 x.x22,.int .u8 x.x23]
def Qam.enc (x:Qam):List Lf:=[lI x.type_,lI x.start,lL 1 x.rests Qc8,lL 2 x.visits Qaa.enc]
def QaF.enc (x:QaF):List Lf:=[lI x.arrive,lI x.begin,lI x.depart,.bool x.rest_]
def Qap.enc (x:Qap):List Lf:=[.bool x.rest_,lI x.depart,lL 4 x.times QaF.enc,lI x.end_,lI x.miles]
def Qay.enc (x:Qay):List Lf:=[lI x.cost,lI x.moved,lI x.other,lI x.work]
def Qyd.enc (x:Qyd):List Lf:=[lI x.x0,lI x.x1,lI x.x2,lI x.x3]
def Qan.enc (x:Qan):List Lf:=[lL 9 x.items Qad.enc,lI x.first_]
def Qbw.enc (x:Qbw):List Lf:=[lL 9 x.queue.items Qad.enc,lI x.queue.first_,lL 1 x.x.net.places Qh6,lL 6 x.x.net.arcs Qao.enc,lL 14 x.x.types Qag.enc,lL 16 x.x.orders Qaf.enc,lL 2 x.x.apart Qau.enc,lL 2 x.x.before Qau.enc]
def Qaq.enc (x:Qaq):List Lf:=[lI x.type_,lL 2 x.visits Qaa.enc,lI x.place,lI x.time,lI x.driven,lI x.miles,lL 1 x.load Qax,lI x.done,lI x.open_]
def QfI.enc (x:QfI):List Lf:=[lL 2 x.visits Qaa.enc,lL 1 x.rests Qc8]
def Qav.enc (x:Qav):List Lf:=[lI x.place,lI x.time,lI x.driven,lI x.miles]
def Qas.enc (x:Qas):List Lf:=[lI x.type_,lI x.set_,lI x.price,lI x.route.type_,lI x.route.start,lL 1 x.route.rests Qc8,lL 2 x.route.visits Qaa.enc]
def es_T_api_Visit.enc (l:List Qaa):List Lf:=[.sl false 2 (l.map Qaa.enc)]
def QbL (l:List Int):List Lf:=[.sl false 1 (l.map Qax)]
def Qcu:ByteArray:=⟨#[32]⟩
def QuU:ByteArray:=⟨#[45]⟩
def QjR:ByteArray:=⟨#[112,108,97,99,101,115]⟩
def Qdb:ByteArray:=⟨#[112,108,97,99,101,32]⟩
def QaL:ByteArray:=⟨#[97,114,99,32]⟩
def Qpp:ByteArray:=⟨#[97,114,99,115]⟩
def Qtx:ByteArray:=⟨#[97,112,97,114,116]⟩
def Qr8:ByteArray:=⟨#[98,101,102,111,114,101]⟩
def QvM:ByteArray:=⟨#[110,101,116]⟩
def QwG:ByteArray:=⟨#[116,121,112,101,115]⟩
def QvN:ByteArray:=⟨#[111,114,100,101,114,115]⟩
def QwF:ByteArray:=⟨#[114,117,108,101,115]⟩
def Ql6:ByteArray:=⟨#[48,49,50,51,52,53,54,55,56,57,97,98,99,100,101,102,103,104,105,106,107,108,109,110,111,112,113,114,115,116,117,118,119,120,121,122]⟩
def Ql5:ByteArray:=⟨#[48,48,48,49,48,50,48,51,48,52,48,53,48,54,48,55,48,56,48,57,49,48,49,49,49,50,49,51,49,52,49,53,49,54,49,55,49,56,49,57,50,48,50,49,50,50,50,51,50,52,50,53,50,54,50,55,50,56,50,57,51,48,51,49,51,50,51,51,51,52,51,53,51,54,51,55,51,56,51,57,52,48,52,49,52,50,52,51,52,52,52,53,52,54,52,55,52,56,52,57,53,48,53,49,53,50,53,51,53,52,53,53,53,54,53,55,53,56,53,57,54,48,54,49,54,50,54,51,54,52,54,53,54,54,54,55,54,56,54,57,55,48,55,49,55,50,55,51,55,52,55,53,55,54,55,55,55,56,55,57,56,48,56,49,56,50,56,51,56,52,56,53,56,54,56,55,56,56,56,57,57,48,57,49,57,50,57,51,57,52,57,53,57,54,57,55,57,56,57,57]⟩
def Ql7:ByteArray:=⟨#[0,1,2,2,3,3,3,3,4,4,4,4,4,4,4,4,5,5,5,5,5,5,5,5,5,5,5,5,5,5,5,5,6,6,6,6,6,6,6,6,6,6,6,6,6,6,6,6,6,6,6,6,6,6,6,6,6,6,6,6,6,6,6,6,7,7,7,7,7,7,7,7,7,7,7,7,7,7,7,7,7,7,7,7,7,7,7,7,7,7,7,7,7,7,7,7,7,7,7,7,7,7,7,7,7,7,7,7,7,7,7,7,7,7,7,7,7,7,7,7,7,7,7,7,7,7,7,7,8,8,8,8,8,8,8,8,8,8,8,8,8,8,8,8,8,8,8,8,8,8,8,8,8,8,8,8,8,8,8,8,8,8,8,8,8,8,8,8,8,8,8,8,8,8,8,8,8,8,8,8,8,8,8,8,8,8,8,8,8,8,8,8,8,8,8,8,8,8,8,8,8,8,8,8,8,8,8,8,8,8,8,8,8,8,8,8,8,8,8,8,8,8,8,8,8,8,8,8,8,8,8,8,8,8,8,8,8,8,8,8,8,8,8,8,8,8,8,8,8,8,8,8,8,8,8,8]⟩
def Qj3:ByteArray:=⟨#[97]⟩
def Qj4:ByteArray:=⟨#[98]⟩
def Qj6:ByteArray:=⟨#[118]⟩
def Qj5:ByteArray:=⟨#[111]⟩
structure QaJ where
  ready:Int
  since:Int
  sheet:Qap
end Go.Proofs.YtfjiafgldchinaaGreatDoor
namespace Go.Proofs.YtfjiafgldchinaaGreatDoor
set_option linter.unusedVariables false
set_option linter.unusedSectionVars false
set_option linter.unusedSimpArgs false
noncomputable def QeE (word:ByteArray) (l:List Qac) (l1:List Qac) (i:Int) (at_:ByteArray):Option ((List Qac×Int)⊕(List Qac)):=bnd (getI l i) fun x1=>chk (okN (l1++[(Qac.mk x1.err at_)]).length 24) (some (.inl ((l1++[(Qac.mk x1.err at_)]),(addK .i64 i 1))))
noncomputable def QdQ (word:ByteArray) (l:List Qac) (l1:List Qac) (i:Int):Option ((List Qac×Int)⊕(List Qac)):=br (ltI i (lenI l)) (bnd (getI l i) fun x0=>br (eqS x0.at_ ByteArray.empty) (QeE word l l1 i word) (chk (word.size+Qcu.size≤9223372036854775807) (chk ((catS word Qcu).size+x0.at_.size≤9223372036854775807) (QeE word l l1 i (catS (catS word Qcu) x0.at_))))) (some (.inr l1))
noncomputable def Qe7 (word:ByteArray) (l:List Qac):Option (List Qac):=bnd (QaK (fun s=>QdQ word l s.1 s.2) ([],0)) (fun l2=>some l2)
noncomputable def Qc6 (n:Int) (s0:ByteArray) (left:Int) (d:Int):Option ((ByteArray×Int×Bool)⊕(ByteArray)):=chk ((QpY [(cvK .u8 (addK .i64 48 d))]).size+s0.size≤9223372036854775807) (some (.inl ((catS (QpY [(cvK .u8 (addK .i64 48 d))]) s0),(quoK .i64 left 10),(neI (quoK .i64 left 10) 0))))
noncomputable def QeW (n:Int) (s0:ByteArray) (left:Int) (again:Bool):Option ((ByteArray×Int×Bool)⊕(ByteArray)):=br again (br (ltI (remK left 10) 0) (Qc6 n s0 left (subK .i64 0 (remK left 10))) (Qc6 n s0 left (remK left 10))) (some (.inr s0))
noncomputable def QbE (n:Int):Option ByteArray:=bnd (QaK (fun s=>QeW n s.1 s.2.1 s.2.2) (ByteArray.empty,n,true)) (fun s1=>br (ltI n 0) (chk (QuU.size+s1.size≤9223372036854775807) (some (catS QuU s1))) (some s1))
noncomputable def QhG (c:Int):Option Bool:=some ((geI c 48)&&(leI c 57))
noncomputable def QjW (c:Int):Option Bool:=some ((((geI c 97)&&(leI c 122))||((geI c 65)&&(leI c 90)))||(eqI c 95))
noncomputable def Qd7 (s0:ByteArray) (b:UInt8) (i:Int):Option ((Int)⊕((Unit)⊕(Bool))):=br (ltI i (QyH s0)) (bnd (getS s0 i) fun b1=>bnd (QjW (QCv b1)) fun r1=>br r1 (some (.inl (addK .i64 i 1))) (bnd (QhG (QCv b1)) fun r2=>br r2 (some (.inl (addK .i64 i 1))) (some (.inr (.inr false))))) (some (.inr (.inl ())))
noncomputable def QeO (s0:ByteArray):Option Bool:=br ((ltI (QyH s0) 1)||(gtI (QyH s0) 16)) (some false) (bnd (getS s0 0) fun b=>bnd (QhG (QCv b)) fun r=>br r (some false) (bnd (QaK (fun s=>Qd7 s0 b s) 0) (fun e=>sel e (fun (_:Unit)=>some true) (fun r3=>some r3))))
noncomputable def QdB (l:List Qai) (i:Int) (x0:Qai) (l3:List Qac):Option ((List Qac×Int)⊕(List Qac)):=br (gtI i 0) (bnd (getI l (subK .i64 i 1)) fun x1=>br (leI x0.t x1.t) (bnd (QbE i) fun r1=>chk (okN (l3++[(Qac.mk 13 r1)]).length 24) (some (.inl ((l3++[(Qac.mk 13 r1)]),(addK .i64 i 1))))) (br (ltI x0.a x1.a) (bnd (QbE i) fun r2=>chk (okN (l3++[(Qac.mk 13 r2)]).length 24) (some (.inl ((l3++[(Qac.mk 13 r2)]),(addK .i64 i 1))))) (some (.inl (l3,(addK .i64 i 1)))))) (some (.inl (l3,(addK .i64 i 1))))
noncomputable def Qc2 (l:List Qai) (l2:List Qac) (i:Int):Option ((List Qac×Int)⊕(List Qac)):=br (ltI i (lenI l)) (bnd (getI l i) fun x0=>br ((((ltI x0.t 0)||(gtI x0.t 4096))||(ltI x0.a x0.t))||(gtI x0.a (addK .i64 x0.t 4096))) (bnd (QbE i) fun r=>chk (okN (l2++[(Qac.mk 2 r)]).length 24) (QdB l i x0 (l2++[(Qac.mk 2 r)]))) (QdB l i x0 l2)) (some (.inr l2))
noncomputable def Qew (l:List Qai) (l1:List Qac):Option (List Qac):=bnd (QaK (fun s=>Qc2 l s.1 s.2) (l1,0)) (fun l4=>some l4)
noncomputable def Qeh (l:List Qai):Option (List Qac):=br ((ltI (lenI l) 1)||(gtI (lenI l) 16)) (chk (okN [(Qac.mk 4 ByteArray.empty)].length 24) (Qew l [(Qac.mk 4 ByteArray.empty)])) (Qew l [])
noncomputable def QfR (t:Int):Option Bool:=some ((geI t 0)&&(leI t 4096))
noncomputable def QbN (n:Qak) (i:Int) (r:ByteArray) (x0:Qao) (l:List Qac) (l1:List Qac) (twice:Bool) (k:Int):Option ((Bool×Int)⊕(Bool)):=br (ltI k i) (bnd (getI n.arcs k) fun x1=>some (.inl ((twice||(((eqI x0.from_ x1.from_)&&(eqI x0.to_ x1.to_))&&(eqI x0.profile x1.profile))),(addK .i64 k 1)))) (some (.inr twice))
noncomputable def QbO (r:ByteArray) (x0:Qao) (l:List Qac) (r1:List Qac) (l3:List Qac) (k1:Int):Option ((List Qac×Int)⊕(List Qac)):=br (ltI k1 (lenI r1)) (bnd (getI r1 k1) fun x2=>chk (okN (l3++[(Qac.mk x2.err (catS QaL r))]).length 24) (some (.inl ((l3++[(Qac.mk x2.err (catS QaL r))]),(addK .i64 k1 1))))) (some (.inr l3))
noncomputable def QbP (r:ByteArray) (x0:Qao) (l:List Qac) (l6:List Qac) (k2:Int):Option ((List Qac×Int)⊕(List Qac)):=br (ltI k2 (lenI x0.slow)) (bnd (getI x0.slow k2) fun x3=>bnd (QfR x3.t) fun r2=>br r2 (bnd (QfR x3.a) fun r3=>br r3 (br (gtI k2 0) (bnd (getI x0.slow (subK .i64 k2 1)) fun x4=>br (leI x3.t x4.t) (chk (okN (l6++[(Qac.mk 2 (catS QaL r))]).length 24) (some (.inl ((l6++[(Qac.mk 2 (catS QaL r))]),(addK .i64 k2 1))))) (some (.inl (l6,(addK .i64 k2 1))))) (some (.inl (l6,(addK .i64 k2 1))))) (chk (okN (l6++[(Qac.mk 2 (catS QaL r))]).length 24) (some (.inl ((l6++[(Qac.mk 2 (catS QaL r))]),(addK .i64 k2 1)))))) (chk (okN (l6++[(Qac.mk 2 (catS QaL r))]).length 24) (some (.inl ((l6++[(Qac.mk 2 (catS QaL r))]),(addK .i64 k2 1)))))) (some (.inr l6))
noncomputable def Qbn (r:ByteArray) (x0:Qao) (l:List Qac) (l5:List Qac):Option (List Qac):=bnd (QaK (fun s=>QbP r x0 l s.1 s.2) (l5,0)) (fun l7=>some l7)
noncomputable def QbM (r:ByteArray) (x0:Qao) (l:List Qac) (l2:List Qac):Option (List Qac):=bnd (Qeh x0.travel) fun r1=>bnd (QaK (fun s=>QbO r x0 l r1 s.1 s.2) (l2,0)) (fun l4=>br (gtI (lenI x0.slow) 16) (chk (okN (l4++[(Qac.mk 4 (catS QaL r))]).length 24) (Qbn r x0 l (l4++[(Qac.mk 4 (catS QaL r))]))) (Qbn r x0 l l4))
noncomputable def QcN (n:Qak) (i:Int) (r:ByteArray) (x0:Qao) (l:List Qac) (l1:List Qac):Option (List Qac):=bnd (QaK (fun s=>QbN n i r x0 l l1 s.1 s.2) (false,0)) (fun twice1=>br twice1 (chk (okN (l1++[(Qac.mk 6 (catS QaL r))]).length 24) (QbM r x0 l (l1++[(Qac.mk 6 (catS QaL r))]))) (QbM r x0 l l1))
noncomputable def QcM (n:Qak) (i:Int) (r:ByteArray) (x0:Qao) (l:List Qac):Option (List Qac):=br (((((ltI x0.profile 0)||(gtI x0.profile 7))||(ltI x0.miles 0))||(gtI x0.miles 10000))||(eqI x0.from_ x0.to_)) (chk (okN (l++[(Qac.mk 2 (catS QaL r))]).length 24) (QcN n i r x0 l (l++[(Qac.mk 2 (catS QaL r))]))) (QcN n i r x0 l l)
noncomputable def Qez (n:Qak) (i:Int):Option (List Qac):=bnd (QbE i) fun r=>chk (QaL.size+r.size≤9223372036854775807) (bnd (getI n.arcs i) fun x0=>br ((((ltI x0.from_ 0)||(geI x0.from_ (lenI n.places)))||(ltI x0.to_ 0))||(geI x0.to_ (lenI n.places))) (chk (okN [(Qac.mk 11 (catS QaL r))].length 24) (QcM n i r x0 [(Qac.mk 11 (catS QaL r))])) (QcM n i r x0 []))
noncomputable def Qa2 (n:Qak) (l:List Qac) (l1:List Qac) (i:Int) (r:ByteArray) (twice:Bool) (k:Int):Option ((Bool×Int)⊕(Bool)):=br (ltI k i) (br twice (some (.inl (true,(addK .i64 k 1)))) (bnd (getI n.places k) fun x1=>bnd (getI n.places i) fun x2=>some (.inl ((eqS x1 x2),(addK .i64 k 1))))) (some (.inr twice))
noncomputable def Qa1 (n:Qak) (l:List Qac) (l1:List Qac) (i:Int):Option ((List Qac×Int)⊕(List Qac)):=br (ltI i (lenI n.places)) (bnd (QbE i) fun r=>chk (Qdb.size+r.size≤9223372036854775807) (bnd (getI n.places i) fun x0=>bnd (QeO x0) fun r1=>br r1 (bnd (QaK (fun s=>Qa2 n l l1 i r s.1 s.2) (false,0)) (fun twice1=>br twice1 (chk (okN (l1++[(Qac.mk 6 (catS Qdb r))]).length 24) (some (.inl ((l1++[(Qac.mk 6 (catS Qdb r))]),(addK .i64 i 1))))) (some (.inl (l1,(addK .i64 i 1)))))) (chk (okN (l1++[(Qac.mk 5 (catS Qdb r))]).length 24) (some (.inl ((l1++[(Qac.mk 5 (catS Qdb r))]),(addK .i64 i 1))))))) (some (.inr l1))
noncomputable def Qb2 (n:Qak) (l:List Qac):Option (List Qac):=bnd (QaK (fun s=>Qa1 n l s.1 s.2) (l,0)) (fun l2=>some l2)
noncomputable def QcC (n:Qak):Option (List Qac):=br (gtI (lenI n.places) 24) (chk (okN [(Qac.mk 4 QjR)].length 24) (Qb2 n [(Qac.mk 4 QjR)])) (Qb2 n [])
noncomputable def Qcx (n:Qak) (l:List Qac) (l1:List Qac) (i:Int):Option ((List Qac×Int)⊕(List Qac)):=br (ltI i (lenI n.arcs)) (bnd (Qez n i) fun r1=>chk (okN (l1++r1).length 24) (some (.inl ((l1++r1),(addK .i64 i 1))))) (some (.inr l1))
noncomputable def Qex (n:Qak) (l:List Qac):Option (List Qac):=bnd (QaK (fun s=>Qcx n l s.1 s.2) (l,0)) (fun l2=>some l2)
noncomputable def Qgf (n:Qak):Option (List Qac):=bnd (QcC n) fun r=>br (gtI (lenI n.arcs) 1024) (chk (okN (r++[(Qac.mk 4 Qpp)]).length 24) (Qex n (r++[(Qac.mk 4 Qpp)]))) (Qex n r)
noncomputable def QaH (n:Int) (lo:Int) (hi:Int):Option Bool:=some ((geI n lo)&&(leI n hi))
noncomputable def QeQ (l:List Qag):Option Int:=br (eqI (lenI l) 0) (some 0) (bnd (getI l 0) fun x0=>some (lenI x0.cap))
noncomputable def Qb3 (l:List Qag) (at_:Int) (name:ByteArray) (i:Int):Option ((Int)⊕((Unit)⊕(Bool))):=br (ltI i at_) (bnd (getI l i) fun x0=>br (eqS x0.name name) (some (.inr (.inr true))) (some (.inl (addK .i64 i 1)))) (some (.inr (.inl ())))
noncomputable def Qgh (l:List Qag) (at_:Int) (name:ByteArray):Option Bool:=bnd (QaK (fun s=>Qb3 l at_ name s) 0) (fun e=>sel e (fun (_:Unit)=>some false) (fun r=>some r))
noncomputable def Qbo (l:List Int) (i:Int):Option ((Int)⊕((Unit)⊕(Bool))):=br (ltI i (lenI l)) (bnd (getI l i) fun x0=>bnd (QaH x0 0 1000) fun r1=>br r1 (some (.inl (addK .i64 i 1))) (some (.inr (.inr false)))) (some (.inr (.inl ())))
noncomputable def QdC (l:List Int) (dims:Int):Option Bool:=bnd (QaH (lenI l) 1 3) fun r=>br ((!r)||(neI (lenI l) dims)) (some false) (bnd (QaK (fun s=>Qbo l s) 0) (fun e=>sel e (fun (_:Unit)=>some true) (fun r2=>some r2)))
noncomputable def QdK (x0:Qag) (l8:List Int):Option (List Int):=bnd (QaH x0.profile 0 7) fun r11=>br r11 (bnd (QaH x0.fixed 0 100000) fun r12=>br r12 (bnd (QaH x0.perMile 0 100) fun r13=>br r13 (bnd (QaH x0.perTick 0 100) fun r14=>br r14 (some l8) (chk (okN (l8++[2]).length 8) (some (l8++[2])))) (chk (okN (l8++[2]).length 8) (some (l8++[2])))) (chk (okN (l8++[2]).length 8) (some (l8++[2])))) (chk (okN (l8++[2]).length 8) (some (l8++[2])))
noncomputable def QdJ (x0:Qag) (l7:List Int):Option (List Int):=bnd (QaH x0.drive 1 4096) fun r9=>br r9 (bnd (QaH x0.rest_ 0 4096) fun r10=>br r10 (QdK x0 l7) (chk (okN (l7++[16]).length 8) (QdK x0 (l7++[16])))) (chk (okN (l7++[16]).length 8) (bnd (QaH x0.profile 0 7) fun r15=>br r15 (bnd (QaH x0.fixed 0 100000) fun r16=>br r16 (bnd (QaH x0.perMile 0 100) fun r17=>br r17 (bnd (QaH x0.perTick 0 100) fun r18=>br r18 (some (l7++[16])) (chk (okN ((l7++[16])++[2]).length 8) (some ((l7++[16])++[2])))) (chk (okN ((l7++[16])++[2]).length 8) (some ((l7++[16])++[2])))) (chk (okN ((l7++[16])++[2]).length 8) (some ((l7++[16])++[2])))) (chk (okN ((l7++[16])++[2]).length 8) (some ((l7++[16])++[2])))))
noncomputable def QdI (x0:Qag) (l6:List Int):Option (List Int):=bnd (QaH x0.open_ 0 x0.close) fun r8=>br ((!r8)||(gtI x0.close 4096)) (chk (okN (l6++[15]).length 8) (QdJ x0 (l6++[15]))) (QdJ x0 l6)
noncomputable def QdH (x0:Qag) (l5:List Int):Option (List Int):=bnd (QaH x0.skills 0 1073741823) fun r7=>br r7 (QdI x0 l5) (chk (okN (l5++[18]).length 8) (QdI x0 (l5++[18])))
noncomputable def QdG (l:List Qag) (x0:Qag) (l4:List Int):Option (List Int):=bnd (QeQ l) fun r5=>bnd (QdC x0.cap r5) fun r6=>br r6 (QdH x0 l4) (chk (okN (l4++[17]).length 8) (QdH x0 (l4++[17])))
noncomputable def Qfw (x0:Qag) (l12:List Int):Option (List Int):=bnd (QaH x0.profile 0 7) fun r25=>br r25 (bnd (QaH x0.fixed 0 100000) fun r26=>br r26 (bnd (QaH x0.perMile 0 100) fun r27=>br r27 (bnd (QaH x0.perTick 0 100) fun r28=>br r28 (some l12) (chk (okN (l12++[2]).length 8) (some (l12++[2])))) (chk (okN (l12++[2]).length 8) (some (l12++[2])))) (chk (okN (l12++[2]).length 8) (some (l12++[2])))) (chk (okN (l12++[2]).length 8) (some (l12++[2])))
noncomputable def Qfv (x0:Qag) (l11:List Int):Option (List Int):=bnd (QaH x0.drive 1 4096) fun r23=>br r23 (bnd (QaH x0.rest_ 0 4096) fun r24=>br r24 (Qfw x0 l11) (chk (okN (l11++[16]).length 8) (Qfw x0 (l11++[16])))) (chk (okN (l11++[16]).length 8) (bnd (QaH x0.profile 0 7) fun r29=>br r29 (bnd (QaH x0.fixed 0 100000) fun r30=>br r30 (bnd (QaH x0.perMile 0 100) fun r31=>br r31 (bnd (QaH x0.perTick 0 100) fun r32=>br r32 (some (l11++[16])) (chk (okN ((l11++[16])++[2]).length 8) (some ((l11++[16])++[2])))) (chk (okN ((l11++[16])++[2]).length 8) (some ((l11++[16])++[2])))) (chk (okN ((l11++[16])++[2]).length 8) (some ((l11++[16])++[2])))) (chk (okN ((l11++[16])++[2]).length 8) (some ((l11++[16])++[2])))))
noncomputable def Qfu (x0:Qag) (l10:List Int):Option (List Int):=bnd (QaH x0.open_ 0 x0.close) fun r22=>br ((!r22)||(gtI x0.close 4096)) (chk (okN (l10++[15]).length 8) (Qfv x0 (l10++[15]))) (Qfv x0 l10)
noncomputable def Qf4 (x0:Qag) (l9:List Int):Option (List Int):=bnd (QaH x0.skills 0 1073741823) fun r21=>br r21 (Qfu x0 l9) (chk (okN (l9++[18]).length 8) (Qfu x0 (l9++[18])))
noncomputable def QdF (n:Qak) (l:List Qag) (x0:Qag) (l3:List Int):Option (List Int):=bnd (QaH x0.from_ 0 (subK .i64 (lenI n.places) 1)) fun r3=>br r3 (bnd (QaH x0.to_ 0 (subK .i64 (lenI n.places) 1)) fun r4=>br r4 (QdG l x0 l3) (chk (okN (l3++[11]).length 8) (QdG l x0 (l3++[11])))) (chk (okN (l3++[11]).length 8) (bnd (QeQ l) fun r19=>bnd (QdC x0.cap r19) fun r20=>br r20 (Qf4 x0 (l3++[11])) (chk (okN ((l3++[11])++[17]).length 8) (Qf4 x0 ((l3++[11])++[17])))))
noncomputable def QdE (n:Qak) (l:List Qag) (x0:Qag) (l2:List Int):Option (List Int):=bnd (QaH x0.count 0 10) fun r2=>br r2 (QdF n l x0 l2) (chk (okN (l2++[22]).length 8) (QdF n l x0 (l2++[22])))
noncomputable def QdD (n:Qak) (l:List Qag) (at_:Int) (x0:Qag) (l1:List Int):Option (List Int):=bnd (Qgh l at_ x0.name) fun r1=>br r1 (chk (okN (l1++[6]).length 8) (QdE n l x0 (l1++[6]))) (QdE n l x0 l1)
noncomputable def Qgi (n:Qak) (l:List Qag) (at_:Int):Option (List Int):=bnd (getI l at_) fun x0=>bnd (QeO x0.name) fun r=>br r (QdD n l at_ x0 []) (chk (okN [5].length 8) (QdD n l at_ x0 [5]))
noncomputable def Qf3 (n:Qak) (l:List Qag) (i:Int) (r1:List Int) (l3:List Qac) (k:Int):Option ((List Qac×Int)⊕(List Qac)):=br (ltI k (lenI r1)) (bnd (getI r1 k) fun x0=>bnd (QbE i) fun r2=>chk (okN (l3++[(Qac.mk x0 r2)]).length 24) (some (.inl ((l3++[(Qac.mk x0 r2)]),(addK .i64 k 1))))) (some (.inr l3))
noncomputable def Qcy (n:Qak) (l:List Qag) (l2:List Qac) (i:Int):Option ((List Qac×Int)⊕(List Qac)):=br (ltI i (lenI l)) (bnd (Qgi n l i) fun r1=>bnd (QaK (fun s=>Qf3 n l i r1 s.1 s.2) (l2,0)) (fun l4=>some (.inl (l4,(addK .i64 i 1))))) (some (.inr l2))
noncomputable def QeA (n:Qak) (l:List Qag) (l1:List Qac):Option (List Qac):=bnd (QaK (fun s=>Qcy n l s.1 s.2) (l1,0)) (fun l5=>some l5)
noncomputable def Qgg (n:Qak) (l:List Qag):Option (List Qac):=bnd (QaH (lenI l) 1 6) fun r=>br r (QeA n l []) (chk (okN [(Qac.mk 4 ByteArray.empty)].length 24) (QeA n l [(Qac.mk 4 ByteArray.empty)]))
noncomputable def Qbp (n:Int) (low:Int) (high:Int):Option Bool:=some ((geI n low)&&(leI n high))
noncomputable def Qb0 (a:List Int) (i:Int):Option ((Int)⊕((Unit)⊕(Bool))):=br (ltI i (lenI a)) (bnd (getI a i) fun x0=>br (ltI x0 0) (some (.inr (.inr false))) (br (gtI x0 1000) (some (.inr (.inr false))) (some (.inl (addK .i64 i 1))))) (some (.inr (.inl ())))
noncomputable def Qeg (a:List Int) (dims:Int):Option Bool:=br (neI (lenI a) dims) (some false) (bnd (QaK (fun s=>Qb0 a s) 0) (fun e=>sel e (fun (_:Unit)=>some true) (fun r=>some r)))
noncomputable def Qdx (s0:Qar):Option Int:=br ((((eqI s0.place (-1))&&(eqI s0.open_ 0))&&(eqI s0.close 0))&&(eqI s0.service 0)) (some 0) (br ((((((ltI s0.place 0)||(ltI s0.open_ 0))||(gtI s0.open_ s0.close))||(gtI s0.close 4096))||(ltI s0.service 0))||(gtI s0.service 4096)) (some 2) (some 0))
noncomputable def Qb4 (places:Int) (dims:Int) (types:Int) (l:List Qaf) (at_:Int) (x0:Qaf) (l1:List Int) (i:Int):Option ((Int)⊕(List Int)):=br (ltI i at_) (bnd (getI l i) fun x1=>br (eqS x1.name x0.name) (chk (okN (l1++[6]).length 8) (some (.inr (l1++[6])))) (some (.inl (addK .i64 i 1)))) (some (.inr l1))
noncomputable def QdO (types:Int) (x0:Qaf) (l6:List Int):Option (List Int):=bnd (Qbp x0.penalty (-1) 1000000) fun r6=>br r6 (bnd (Qbp x0.split 1 4) fun r7=>br ((((((!r7)||((gtI x0.split 1)&&((neI x0.pick.place (-1))&&(neI x0.drop.place (-1)))))||(ltI x0.last_ (-1)))||(geI x0.last_ types))||(ltI x0.now (-1)))||(geI x0.now types)) (chk (okN (l6++[2]).length 8) (some (l6++[2]))) (some l6)) (chk (okN (l6++[2]).length 8) (some (l6++[2])))
noncomputable def Qf6 (types:Int) (x0:Qaf) (l8:List Int):Option (List Int):=bnd (Qbp x0.penalty (-1) 1000000) fun r10=>br r10 (bnd (Qbp x0.split 1 4) fun r11=>br ((((((!r11)||((gtI x0.split 1)&&((neI x0.pick.place (-1))&&(neI x0.drop.place (-1)))))||(ltI x0.last_ (-1)))||(geI x0.last_ types))||(ltI x0.now (-1)))||(geI x0.now types)) (chk (okN (l8++[2]).length 8) (some (l8++[2]))) (some l8)) (chk (okN (l8++[2]).length 8) (some (l8++[2])))
noncomputable def QdP (types:Int) (x0:Qaf) (l7:List Int):Option (List Int):=bnd (Qbp x0.skills 0 1073741823) fun r9=>br r9 (Qf6 types x0 l7) (chk (okN (l7++[18]).length 8) (Qf6 types x0 (l7++[18])))
noncomputable def QdN (types:Int) (x0:Qaf) (l5:List Int):Option (List Int):=bnd (Qdx x0.pick) fun r4=>br (neI r4 0) (chk (okN (l5++[14]).length 8) (bnd (Qbp x0.skills 0 1073741823) fun r5=>br r5 (QdO types x0 (l5++[14])) (chk (okN ((l5++[14])++[18]).length 8) (QdO types x0 ((l5++[14])++[18]))))) (bnd (Qdx x0.drop) fun r8=>br (neI r8 0) (chk (okN (l5++[14]).length 8) (QdP types x0 (l5++[14]))) (QdP types x0 l5))
noncomputable def QdM (types:Int) (x0:Qaf) (l4:List Int):Option (List Int):=br ((eqI x0.pick.place (-1))&&(eqI x0.drop.place (-1))) (chk (okN (l4++[19]).length 8) (QdN types x0 (l4++[19]))) (QdN types x0 l4)
noncomputable def Qf8 (types:Int) (x0:Qaf) (l10:List Int):Option (List Int):=bnd (Qbp x0.penalty (-1) 1000000) fun r14=>br r14 (bnd (Qbp x0.split 1 4) fun r15=>br ((((((!r15)||((gtI x0.split 1)&&((neI x0.pick.place (-1))&&(neI x0.drop.place (-1)))))||(ltI x0.last_ (-1)))||(geI x0.last_ types))||(ltI x0.now (-1)))||(geI x0.now types)) (chk (okN (l10++[2]).length 8) (some (l10++[2]))) (some l10)) (chk (okN (l10++[2]).length 8) (some (l10++[2])))
noncomputable def Qfy (types:Int) (x0:Qaf) (l12:List Int):Option (List Int):=bnd (Qbp x0.penalty (-1) 1000000) fun r18=>br r18 (bnd (Qbp x0.split 1 4) fun r19=>br ((((((!r19)||((gtI x0.split 1)&&((neI x0.pick.place (-1))&&(neI x0.drop.place (-1)))))||(ltI x0.last_ (-1)))||(geI x0.last_ types))||(ltI x0.now (-1)))||(geI x0.now types)) (chk (okN (l12++[2]).length 8) (some (l12++[2]))) (some l12)) (chk (okN (l12++[2]).length 8) (some (l12++[2])))
noncomputable def Qfx (types:Int) (x0:Qaf) (l11:List Int):Option (List Int):=bnd (Qbp x0.skills 0 1073741823) fun r17=>br r17 (Qfy types x0 l11) (chk (okN (l11++[18]).length 8) (Qfy types x0 (l11++[18])))
noncomputable def Qf7 (types:Int) (x0:Qaf) (l9:List Int):Option (List Int):=bnd (Qdx x0.pick) fun r12=>br (neI r12 0) (chk (okN (l9++[14]).length 8) (bnd (Qbp x0.skills 0 1073741823) fun r13=>br r13 (Qf8 types x0 (l9++[14])) (chk (okN ((l9++[14])++[18]).length 8) (Qf8 types x0 ((l9++[14])++[18]))))) (bnd (Qdx x0.drop) fun r16=>br (neI r16 0) (chk (okN (l9++[14]).length 8) (Qfx types x0 (l9++[14]))) (Qfx types x0 l9))
noncomputable def QbF (places:Int) (types:Int) (x0:Qaf) (l3:List Int):Option (List Int):=bnd (Qbp x0.pick.place (-1) (subK .i64 places 1)) fun r2=>br r2 (bnd (Qbp x0.drop.place (-1) (subK .i64 places 1)) fun r3=>br r3 (QdM types x0 l3) (chk (okN (l3++[11]).length 8) (QdM types x0 (l3++[11])))) (chk (okN (l3++[11]).length 8) (br ((eqI x0.pick.place (-1))&&(eqI x0.drop.place (-1))) (chk (okN ((l3++[11])++[19]).length 8) (Qf7 types x0 ((l3++[11])++[19]))) (Qf7 types x0 (l3++[11]))))
noncomputable def QdL (places:Int) (dims:Int) (types:Int) (l:List Qaf) (at_:Int) (x0:Qaf) (l1:List Int):Option (List Int):=bnd (QaK (fun s=>Qb4 places dims types l at_ x0 l1 s) 0) (fun l2=>bnd (Qeg x0.load dims) fun r1=>br r1 (QbF places types x0 l2) (chk (okN (l2++[17]).length 8) (QbF places types x0 (l2++[17]))))
noncomputable def Qgk (places:Int) (dims:Int) (types:Int) (l:List Qaf) (at_:Int):Option (List Int):=bnd (getI l at_) fun x0=>bnd (QeO x0.name) fun r=>br r (QdL places dims types l at_ x0 []) (chk (okN [5].length 8) (QdL places dims types l at_ x0 [5]))
noncomputable def Qf5 (n:Qak) (dims:Int) (types:Int) (l:List Qaf) (i:Int) (r:List Int) (l3:List Qac) (k:Int):Option ((List Qac×Int)⊕(List Qac)):=br (ltI k (lenI r)) (bnd (getI r k) fun x0=>bnd (QbE i) fun r1=>chk (okN (l3++[(Qac.mk x0 r1)]).length 24) (some (.inl ((l3++[(Qac.mk x0 r1)]),(addK .i64 k 1))))) (some (.inr l3))
noncomputable def Qcz (n:Qak) (dims:Int) (types:Int) (l:List Qaf) (l2:List Qac) (i:Int):Option ((List Qac×Int)⊕(List Qac)):=br (ltI i (lenI l)) (bnd (Qgk (lenI n.places) dims types l i) fun r=>bnd (QaK (fun s=>Qf5 n dims types l i r s.1 s.2) (l2,0)) (fun l4=>some (.inl (l4,(addK .i64 i 1))))) (some (.inr l2))
noncomputable def QeC (n:Qak) (dims:Int) (types:Int) (l:List Qaf) (l1:List Qac):Option (List Qac):=bnd (QaK (fun s=>Qcz n dims types l s.1 s.2) (l1,0)) (fun l5=>some l5)
noncomputable def Qgj (n:Qak) (dims:Int) (types:Int) (l:List Qaf):Option (List Qac):=br (gtI (lenI l) 10) (chk (okN [(Qac.mk 4 ByteArray.empty)].length 24) (QeC n dims types l [(Qac.mk 4 ByteArray.empty)])) (QeC n dims types l [])
noncomputable def Qc7 (n1:Int) (s0:ByteArray):Option ((Int×ByteArray)⊕(Int×ByteArray)):=br (geI n1 10) (chk ((QpY [(cvK .u8 (addK .i64 48 (remK n1 10)))]).size+s0.size≤9223372036854775807) (some (.inl ((quoK .i64 n1 10),(catS (QpY [(cvK .u8 (addK .i64 48 (remK n1 10)))]) s0))))) (some (.inr (n1,s0)))
noncomputable def Qeb (n:Int):Option ByteArray:=bnd (QaK (fun s=>Qc7 s.1 s.2) (n,ByteArray.empty)) (fun e0=>(fun n2 s1=>chk ((QpY [(cvK .u8 (addK .i64 48 n2))]).size+s1.size≤9223372036854775807) (some (catS (QpY [(cvK .u8 (addK .i64 48 n2))]) s1))) e0.1 e0.2)
noncomputable def Qdg (orders:Int) (l:List Qau) (word:ByteArray) (turned:Bool) (l2:List Qac) (i:Int) (x0:Qau) (r:ByteArray) (twice:Bool) (k:Int):Option ((Bool×Int)⊕(Bool)):=br (ltI k i) (br twice (some (.inl (true,(addK .i64 k 1)))) (bnd (getI l k) fun x1=>br (eqI x1.x0 x0.x0) (br (eqI x1.x1 x0.x1) (some (.inl (true,(addK .i64 k 1)))) (br turned (br (eqI x1.x0 x0.x1) (some (.inl ((eqI x1.x1 x0.x0),(addK .i64 k 1)))) (some (.inl (false,(addK .i64 k 1))))) (some (.inl (false,(addK .i64 k 1)))))) (br turned (br (eqI x1.x0 x0.x1) (some (.inl ((eqI x1.x1 x0.x0),(addK .i64 k 1)))) (some (.inl (false,(addK .i64 k 1))))) (some (.inl (false,(addK .i64 k 1))))))) (some (.inr twice))
noncomputable def Qcd (orders:Int) (l:List Qau) (word:ByteArray) (turned:Bool) (l2:List Qac) (i:Int):Option ((List Qac×Int)⊕(List Qac)):=br (ltI i (lenI l)) (bnd (getI l i) fun x0=>chk (word.size+Qcu.size≤9223372036854775807) (bnd (Qeb i) fun r=>chk ((catS word Qcu).size+r.size≤9223372036854775807) (br (((((ltI x0.x0 0)||(geI x0.x0 orders))||(ltI x0.x1 0))||(geI x0.x1 orders))||(eqI x0.x0 x0.x1)) (chk (okN (l2++[(Qac.mk 2 (catS (catS word Qcu) r))]).length 24) (some (.inl ((l2++[(Qac.mk 2 (catS (catS word Qcu) r))]),(addK .i64 i 1))))) (bnd (QaK (fun s=>Qdg orders l word turned l2 i x0 r s.1 s.2) (false,0)) (fun twice1=>br twice1 (chk (okN (l2++[(Qac.mk 6 (catS (catS word Qcu) r))]).length 24) (some (.inl ((l2++[(Qac.mk 6 (catS (catS word Qcu) r))]),(addK .i64 i 1))))) (some (.inl (l2,(addK .i64 i 1))))))))) (some (.inr l2))
noncomputable def Qei (orders:Int) (l:List Qau) (word:ByteArray) (turned:Bool) (l1:List Qac):Option (List Qac):=bnd (QaK (fun s=>Qcd orders l word turned s.1 s.2) (l1,0)) (fun l3=>some l3)
noncomputable def QfN (orders:Int) (l:List Qau) (word:ByteArray) (turned:Bool):Option (List Qac):=br (gtI (lenI l) 16) (chk (okN [(Qac.mk 4 word)].length 24) (Qei orders l word turned [(Qac.mk 4 word)])) (Qei orders l word turned [])
noncomputable def Qd0 (orders:Int) (l:List Qau) (word:ByteArray) (turned:Bool) (l2:List Qac) (i:Int) (x0:Qau) (r:ByteArray) (twice:Bool) (k:Int):Option ((Bool×Int)⊕(Bool)):=br (ltI k i) (br twice (some (.inl (true,(addK .i64 k 1)))) (bnd (getI l k) fun x1=>br (eqI x1.x0 x0.x0) (br (eqI x1.x1 x0.x1) (some (.inl (true,(addK .i64 k 1)))) (br turned (br (eqI x1.x0 x0.x1) (some (.inl ((eqI x1.x1 x0.x0),(addK .i64 k 1)))) (some (.inl (false,(addK .i64 k 1))))) (some (.inl (false,(addK .i64 k 1)))))) (br turned (br (eqI x1.x0 x0.x1) (some (.inl ((eqI x1.x1 x0.x0),(addK .i64 k 1)))) (some (.inl (false,(addK .i64 k 1))))) (some (.inl (false,(addK .i64 k 1))))))) (some (.inr twice))
noncomputable def QdZ (orders:Int) (l:List Qau) (word:ByteArray) (turned:Bool) (l2:List Qac) (i:Int):Option ((List Qac×Int)⊕(List Qac)):=br (ltI i (lenI l)) (bnd (getI l i) fun x0=>chk (word.size+Qcu.size≤9223372036854775807) (bnd (Qeb i) fun r=>chk ((catS word Qcu).size+r.size≤9223372036854775807) (br (((((ltI x0.x0 0)||(geI x0.x0 orders))||(ltI x0.x1 0))||(geI x0.x1 orders))||(eqI x0.x0 x0.x1)) (chk (okN (l2++[(Qac.mk 2 (catS (catS word Qcu) r))]).length 24) (some (.inl ((l2++[(Qac.mk 2 (catS (catS word Qcu) r))]),(addK .i64 i 1))))) (bnd (QaK (fun s=>Qd0 orders l word turned l2 i x0 r s.1 s.2) (false,0)) (fun twice1=>br twice1 (chk (okN (l2++[(Qac.mk 6 (catS (catS word Qcu) r))]).length 24) (some (.inl ((l2++[(Qac.mk 6 (catS (catS word Qcu) r))]),(addK .i64 i 1))))) (some (.inl (l2,(addK .i64 i 1))))))))) (some (.inr l2))
noncomputable def QdY (orders:Int) (l:List Qau) (word:ByteArray) (turned:Bool) (l1:List Qac):Option (List Qac):=bnd (QaK (fun s=>QdZ orders l word turned s.1 s.2) (l1,0)) (fun l3=>some l3)
noncomputable def QgS (orders:Int) (l:List Qau) (word:ByteArray) (turned:Bool):Option (List Qac):=br (gtI (lenI l) 16) (chk (okN [(Qac.mk 4 word)].length 24) (QdY orders l word turned [(Qac.mk 4 word)])) (QdY orders l word turned [])
noncomputable def Qgl (orders:Int) (apart:List Qau) (before:List Qau):Option (List Qac):=bnd (QgS orders apart Qtx true) fun r=>bnd (QfN orders before Qr8 false) fun r1=>chk (okN (r++r1).length 24) (some (r++r1))
noncomputable def Qen (word:ByteArray) (l:List Qac) (l1:List Qac) (i:Int) (at_:ByteArray):Option ((List Qac×Int)⊕(List Qac)):=bnd (getI l i) fun x1=>chk (okN (l1++[(Qac.mk x1.err at_)]).length 24) (some (.inl ((l1++[(Qac.mk x1.err at_)]),(addK .i64 i 1))))
noncomputable def Qeo (word:ByteArray) (l:List Qac) (l1:List Qac) (i:Int):Option ((List Qac×Int)⊕(List Qac)):=br (ltI i (lenI l)) (bnd (getI l i) fun x0=>br (eqS x0.at_ ByteArray.empty) (Qen word l l1 i word) (chk (word.size+Qcu.size≤9223372036854775807) (chk ((catS word Qcu).size+x0.at_.size≤9223372036854775807) (Qen word l l1 i (catS (catS word Qcu) x0.at_))))) (some (.inr l1))
noncomputable def Qfz (word:ByteArray) (l:List Qac):Option (List Qac):=bnd (QaK (fun s=>Qeo word l s.1 s.2) ([],0)) (fun l2=>some l2)
noncomputable def Qgm (x0:Qab):Option (List Qac):=bnd (Qgf x0.net) fun r=>bnd (Qfz QvM r) fun r1=>bnd (Qgg x0.net x0.types) fun r2=>bnd (Qe7 QwG r2) fun r3=>chk (okN (r1++r3).length 24) (bnd (QeQ x0.types) fun r4=>bnd (Qgj x0.net r4 (lenI x0.types) x0.orders) fun r5=>bnd (Qe7 QvN r5) fun r6=>chk (okN ((r1++r3)++r6).length 24) (bnd (Qgl (lenI x0.orders) x0.apart x0.before) fun r7=>bnd (Qe7 QwF r7) fun r8=>chk (okN (((r1++r3)++r6)++r8).length 24) (some (((r1++r3)++r6)++r8))))
noncomputable def QhE (x0:Qab):Option Bool:=br (leI (lenI x0.orders) 6) (bnd (Qgm x0) fun r=>some (eqI (lenI r) 0)) (some false)
noncomputable def QbV (set_:Int) (i:Int):Option Bool:=br ((geI i 0)&&(leI i 62)) (chk ((0:Int)≤i) (some (eqI (andK .i64 (shrK .i64 set_ i) 1) 1))) (some false)
noncomputable def Qbf (set_:Int) (l:List Int) (v:Int):Option ((List Int×Int)⊕(List Int)):=br (ltI v 63) (bnd (QbV set_ v) fun r=>br r (chk (okN (l++[v]).length 8) (some (.inl ((l++[v]),(addK .i64 v 1))))) (some (.inl (l,(addK .i64 v 1))))) (some (.inr l))
noncomputable def QfE (set_:Int):Option (List Int):=bnd (QaK (fun s=>Qbf set_ s.1 s.2) ([],0)) (fun l1=>some l1)
noncomputable def QdX (x0:Qab) (r:List Int) (v:Int):Option ((Int)⊕((Unit)⊕(Bool))):=br (ltI v (lenI r)) (bnd (getI r v) fun x1=>bnd (getI x0.orders x1) fun x2=>br x2.off (some (.inr (.inr false))) (some (.inl (addK .i64 v 1)))) (some (.inr (.inl ())))
noncomputable def Qmt (x0:Qab) (set_:Int):Option Bool:=br (leI set_ 0) (some false) (chk ((0:Int)≤(cvK .u64 (lenI x0.orders))) (br (geI set_ (shlK .i64 1 (cvK .u64 (lenI x0.orders)))) (some false) (bnd (QfE set_) fun r=>bnd (QaK (fun s=>QdX x0 r s) 0) (fun e=>sel e (fun (_:Unit)=>some true) (fun r1=>some r1)))))
noncomputable def Qdo (x0:Qab) (set_:Int) (v:Int):Option ((Int)⊕((Unit)⊕(Bool))):=br (ltI v (lenI x0.apart)) (bnd (getI x0.apart v) fun x1=>bnd (QbV set_ x1.x0) fun r=>br r (bnd (QbV set_ x1.x1) fun r1=>br r1 (some (.inr (.inr false))) (some (.inl (addK .i64 v 1)))) (some (.inl (addK .i64 v 1)))) (some (.inr (.inl ())))
noncomputable def QcT (x0:Qab) (set_:Int) (v1:Int):Option ((Int)⊕((Unit)⊕(Bool))):=br (ltI v1 (lenI x0.before)) (bnd (getI x0.before v1) fun x2=>bnd (QbV set_ x2.x1) fun r2=>br r2 (bnd (QbV set_ x2.x0) fun r3=>br r3 (some (.inl (addK .i64 v1 1))) (some (.inr (.inr false)))) (some (.inl (addK .i64 v1 1)))) (some (.inr (.inl ())))
noncomputable def Qk4 (x0:Qab) (set_:Int):Option Bool:=bnd (QaK (fun s=>Qdo x0 set_ s) 0) (fun e=>sel e (fun (_:Unit)=>bnd (QaK (fun s=>QcT x0 set_ s) 0) (fun e=>sel e (fun (_:Unit)=>some true) (fun r4=>some r4))) (fun r5=>some r5))
noncomputable def QfJ (t:Qag) (skills:Int):Option Bool:=some (((geI t.skills 0)&&(geI skills 0))&&(eqI (QpI .i64 skills t.skills) 0))
noncomputable def Qqv (a:Int) (b:Int):Option Int:=some (addK .i64 a b)
noncomputable def QbB (a:List Int) (b:List Int) (l:List Int) (l1:List Int) (v:Int):Option ((List Int×Int)⊕(List Int)):=br (ltI v (lenI a)) (bnd (getI a v) fun x0=>bnd (getI b v) fun x1=>bnd (Qqv x0 x1) fun r=>bnd (getI l1 v) fun x2=>some (.inl ((setI l1 v r),(addK .i64 v 1)))) (some (.inr l1))
noncomputable def QgD (a:List Int) (b:List Int):Option (List Int×Int):=br (neI (lenI a) (lenI b)) (some ([],2)) (bnd (mkI (lenI a) (lenI a) 8 0) fun l=>bnd (QaK (fun s=>QbB a b l s.1 s.2) (l,0)) (fun l2=>some (l2,0)))
noncomputable def Qpm (a:List Int) (b:List Int):Option (List Int×Int):=bnd (QgD a b) fun r=>some (r.1,r.2)
noncomputable def Qev (a:List Int) (capacity:List Int) (v:Int):Option ((Int)⊕((Unit)⊕(Bool))):=br (ltI v (lenI a)) (bnd (getI a v) fun x0=>bnd (getI capacity v) fun x1=>br (gtI x0 x1) (some (.inr (.inr false))) (some (.inl (addK .i64 v 1)))) (some (.inr (.inl ())))
noncomputable def QhB (a:List Int) (capacity:List Int):Option Bool:=br (neI (lenI a) (lenI capacity)) (some false) (bnd (QaK (fun s=>Qev a capacity s) 0) (fun e=>sel e (fun (_:Unit)=>some true) (fun r=>some r)))
noncomputable def Qk5 (t:Qag) (l:Qad):Option (List Qad):=some [l,(Qad.mk l.type_ l.visits l.place (addK .i64 l.time t.rest_) 0 l.miles l.load l.done l.open_)]
noncomputable def Qfo (x0:Qab) (kind:Int) (x1:Qag) (l:List Int) (r2:List Int) (open_:Int) (time:Int) (load:List Int) (open_1:Int) (v:Int):Option ((Int×Int×List Int×Int×Int)⊕((Int×Int×List Int×Int)⊕(List Qad))):=br (ltI v (lenI r2)) (bnd (getI r2 v) fun x2=>bnd (getI x0.orders x2) fun x3=>bnd (QfJ (Qag.mk x1.name x1.count x1.from_ x1.to_ x1.cap x1.skills x1.profile open_ x1.close x1.drive x1.rest_ x1.fixed x1.perMile x1.perTick) x3.skills) fun r3=>br r3 (br (ltI x3.pick.place 0) (bnd (Qpm load x3.load) fun r4=>chk ((0:Int)≤(cvK .u64 x2)) (some (.inl (open_,time,r4.1,(orK .i64 open_1 (shlK .i64 1 (cvK .u64 x2))),(addK .i64 v 1))))) (some (.inl (open_,time,load,open_1,(addK .i64 v 1))))) (some (.inr (.inr [])))) (some (.inr (.inl (open_,time,load,open_1))))
noncomputable def QkU (x0:Qab) (kind:Int) (set_:Int):Option (List Qad):=br ((ltI kind 0)||(geI kind (lenI x0.types))) (some []) (bnd (Qmt x0 set_) fun r=>br r (bnd (Qk4 x0 set_) fun r1=>br r1 (bnd (getI x0.types kind) fun x1=>bnd (mkI (lenI x1.cap) (lenI x1.cap) 8 0) fun l=>bnd (QfE set_) fun r2=>bnd (QaK (fun s=>Qfo x0 kind x1 l r2 s.1 s.2.1 s.2.2.1 s.2.2.2.1 s.2.2.2.2) (x1.open_,x1.open_,l,0,0)) (fun e=>sel e (fun e0=>(fun open_2 time1 load1 open_3=>bnd (QhB load1 x1.cap) fun r5=>br r5 (bnd (Qk5 (Qag.mk x1.name x1.count x1.from_ x1.to_ x1.cap x1.skills x1.profile open_2 x1.close x1.drive x1.rest_ x1.fixed x1.perMile x1.perTick) (Qad.mk kind [] x1.from_ time1 0 0 load1 0 open_3)) fun r6=>some r6) (some [])) e0.1 e0.2.1 e0.2.2.1 e0.2.2.2) (fun r7=>some r7))) (some [])) (some []))
noncomputable def Qhx (n:Qak) (i:Int):Option Bool:=some ((geI i 0)&&(ltI i (lenI n.places)))
noncomputable def QlZ (a:Qao):Option Qhj:=some (Qhj.mk a.from_ a.to_ a.profile)
noncomputable def QfW (n:Qak) (profile:Int) (from_:Int) (to_:Int) (v:Int):Option ((Int)⊕((Unit)⊕(Qao×Bool))):=br (ltI v (lenI n.arcs)) (bnd (getI n.arcs v) fun x0=>bnd (QlZ x0) fun r=>br (eqI r.from_ from_&&(eqI r.to_ to_&&(eqI r.profile profile&&true))) (some (.inr (.inr (x0,true)))) (some (.inl (addK .i64 v 1)))) (some (.inr (.inl ())))
noncomputable def Qlr (n:Qak) (profile:Int) (from_:Int) (to_:Int):Option (Qao×Bool):=bnd (QaK (fun s=>QfW n profile from_ to_ s) 0) (fun e=>sel e (fun (_:Unit)=>some ((Qao.mk 0 0 0 0 [] []),false)) (fun r1=>some r1))
noncomputable def Qfn (n:Int) (least:Int) (most:Int):Option Bool:=some ((geI n least)&&(leI n most))
noncomputable def Qo8 (i:Int):Option ByteArray:=br (ltI i 10) (bnd (slcS Ql6 i (addK .i64 i 1)) fun s0=>some (Ql6.extract (i:Int).toNat ((addK .i64 i 1):Int).toNat)) (bnd (slcS Ql5 (mulK .i64 i 2) (addK .i64 (mulK .i64 i 2) 2)) fun s1=>some (Ql5.extract ((mulK .i64 i 2):Int).toNat ((addK .i64 (mulK .i64 i 2) 2):Int).toNat))
noncomputable def Qsv (x0:Int):Option Int:=some (shrK .i64 (mulK .i64 x0 78913) 18)
noncomputable def QrY (x2:Int) (n1:Int):Option Int:=br (geI x2 256) (bnd (getS Ql7 (cvK .u8 (shrK .u64 x2 8))) fun b=>some (addK .i64 (addK .i64 n1 8) (cvK .i64 (QCv b)))) (bnd (getS Ql7 (cvK .u8 x2)) fun b1=>some (addK .i64 n1 (cvK .i64 (QCv b1))))
noncomputable def QrX (x1:Int) (n:Int):Option Int:=br (geI x1 65536) (QrY (shrK .u64 x1 16) (addK .i64 n 16)) (QrY x1 n)
noncomputable def Qzb (x0:Int):Option Int:=br (geI x0 4294967296) (QrX (shrK .u64 x0 32) 32) (QrX x0 0)
noncomputable def Qsw (d:Int):Option Int:=bnd (Qzb d) fun r=>bnd (Qsv r) fun r1=>none
noncomputable def QfF (i:Int) (u:Int):Option ByteArray:=bnd (Qsw u) fun r1=>none
noncomputable def Qj7 (i:Int) (base:Int):Option ByteArray:=br (eqI base 10) (br ((leI 0 i)&&(ltI i 100)) (bnd (Qo8 i) fun r=>some r) (br (ltI i 0) (QfF i (subK .u64 0 (cvK .u64 i))) (QfF i (cvK .u64 i)))) (none)
noncomputable def Qqh (i:Int):Option ByteArray:=bnd (Qj7 i 10) fun r=>some r
noncomputable def QkO (i:Int):Option ByteArray:=bnd (Qqh i) fun r=>some r
noncomputable def Qg9 (l:List Qai) (v:Int) (x0:Qai) (r:ByteArray) (l3:List Qac):Option ((List Qac×Int)⊕(List Qac)):=br (gtI v 0) (bnd (getI l (subK .i64 v 1)) fun x1=>br (leI x0.t x1.t) (chk (okN (l3++[(Qac.mk 13 r)]).length 24) (some (.inl ((l3++[(Qac.mk 13 r)]),(addK .i64 v 1))))) (br (ltI x0.a x1.a) (chk (okN (l3++[(Qac.mk 13 r)]).length 24) (some (.inl ((l3++[(Qac.mk 13 r)]),(addK .i64 v 1))))) (some (.inl (l3,(addK .i64 v 1)))))) (some (.inl (l3,(addK .i64 v 1))))
noncomputable def Qdt (l:List Qai) (l2:List Qac) (v:Int):Option ((List Qac×Int)⊕(List Qac)):=br (ltI v (lenI l)) (bnd (getI l v) fun x0=>bnd (QkO v) fun r=>bnd (Qfn x0.t 0 4096) fun r1=>br (((!r1)||(ltI x0.a x0.t))||(gtI x0.a (addK .i64 x0.t 4096))) (chk (okN (l2++[(Qac.mk 2 r)]).length 24) (Qg9 l v x0 r (l2++[(Qac.mk 2 r)]))) (Qg9 l v x0 r l2)) (some (.inr l2))
noncomputable def Qg8 (l:List Qai) (l1:List Qac):Option (List Qac):=bnd (QaK (fun s=>Qdt l s.1 s.2) (l1,0)) (fun l4=>some l4)
noncomputable def QlB (l:List Qai):Option (List Qac):=br ((eqI (lenI l) 0)||(gtI (lenI l) 16)) (chk (okN [(Qac.mk 4 ByteArray.empty)].length 24) (Qg8 l [(Qac.mk 4 ByteArray.empty)])) (Qg8 l [])
noncomputable def QlC (l:List Qai):Option Bool:=bnd (QlB l) fun r=>some (eqI (lenI r) 0)
noncomputable def QeV (p:Qai) (t:Int):Option Int:=some (subK .i64 p.t t)
noncomputable def QaD (x0:List Qai) (target:Int) (i:Int) (j:Int):Option ((Int×Int)⊕(Int)):=br (ltI i j) (bnd (getI x0 (cvK .i64 (shrK .u64 (cvK .u64 (addK .i64 i j)) 1))) fun x1=>bnd (QeV x1 target) fun r=>br (ltI r 0) (some (.inl ((addK .i64 (cvK .i64 (shrK .u64 (cvK .u64 (addK .i64 i j)) 1)) 1),j))) (some (.inl (i,(cvK .i64 (shrK .u64 (cvK .u64 (addK .i64 i j)) 1)))))) (some (.inr i))
noncomputable def QaU (x0:List Qai) (target:Int):Option (Int×Bool):=bnd (QaK (fun s=>QaD x0 target s.1 s.2) (0,(lenI x0))) (fun i1=>br (ltI i1 (lenI x0)) (bnd (getI x0 i1) fun x2=>bnd (QeV x2 target) fun r1=>some (i1,(eqI r1 0))) (some (i1,false)))
noncomputable def QjU (l:List Qai) (t:Int):Option Int:=bnd (QaU l t) fun r=>br r.2 (bnd (getI l r.1) fun x0=>some x0.a) (br (eqI r.1 0) (bnd (getI l 0) fun x1=>some (subK .i64 (addK .i64 t x1.a) x1.t)) (br (eqI r.1 (lenI l)) (bnd (getI l (subK .i64 r.1 1)) fun x2=>some (subK .i64 (addK .i64 t x2.a) x2.t)) (bnd (getI l (subK .i64 r.1 1)) fun x3=>bnd (getI l r.1) fun x4=>chk (((subK .i64 x4.t x3.t):Int)≠0) (some (addK .i64 x3.a (quoK .i64 (subK .i64 (addK .i64 (mulK .i64 (subK .i64 t x3.t) (subK .i64 x4.a x3.a)) (subK .i64 x4.t x3.t)) 1) (subK .i64 x4.t x3.t)))))))
noncomputable def QjT (l:List Qai) (t:Int):Option Int:=bnd (Qfn t 0 1073741824) fun r=>br r (bnd (QlC l) fun r1=>br r1 (bnd (QjU l t) fun r2=>some r2) (some 0)) (some 0)
noncomputable def QgL (a:Qao) (t:Int) (out:Int) (v:Int):Option ((Int×Int)⊕(Int)):=br (ltI v (lenI a.slow)) (bnd (getI a.slow v) fun x0=>br (leI x0.t t) (some (.inl ((addK .i64 out x0.a),(addK .i64 v 1)))) (some (.inl (out,(addK .i64 v 1))))) (some (.inr out))
noncomputable def Qg6 (a:Qao) (t:Int):Option Int:=bnd (QjT a.travel t) fun r=>bnd (QaK (fun s=>QgL a t s.1 s.2) (r,0)) (fun out1=>some out1)
noncomputable def QmV (n:Qak) (profile:Int) (from_:Int) (to_:Int) (t:Int):Option (Int×Int×Int):=bnd (Qhx n from_) fun r=>br r (bnd (Qhx n to_) fun r1=>br r1 (br (eqI from_ to_) (some (t,0,0)) (bnd (Qlr n profile from_ to_) fun r2=>br r2.2 (bnd (Qg6 r2.1 t) fun r3=>some (r3,r2.1.miles,0)) (some (0,0,12)))) (some (0,0,11))) (some (0,0,11))
noncomputable def QjO (kind:Int) (own:Int):Option Bool:=some ((neI kind (-1))&&(neI kind own))
noncomputable def QhX (x0:Qab) (r:Qam) (s0:Qap) (x1:Qag) (l:List (Int×Int)) (other:Int) (v:Int) (x2:Qaa) (x3:Qaf) (moved1:Int):Option ((List (Int×Int)×Int×Int×Int)⊕(Int×Int)):=bnd (QjO x3.last_ r.type_) fun r2=>br r2 (some (.inl ((mPut eqI l x2.order (addK .i64 (mGet eqI l x2.order 0) 1)),moved1,(addK .i64 other 1),(addK .i64 v 1)))) (some (.inl ((mPut eqI l x2.order (addK .i64 (mGet eqI l x2.order 0) 1)),moved1,other,(addK .i64 v 1))))
noncomputable def Qds (x0:Qab) (r:Qam) (s0:Qap) (x1:Qag) (l:List (Int×Int)) (moved:Int) (other:Int) (v:Int):Option ((List (Int×Int)×Int×Int×Int)⊕(Int×Int)):=br (ltI v (lenI r.visits)) (bnd (getI r.visits v) fun x2=>br ((ltI x2.order 0)||(geI x2.order (lenI x0.orders))) (some (.inl ((mPut eqI l x2.order (addK .i64 (mGet eqI l x2.order 0) 1)),moved,other,(addK .i64 v 1)))) (br (gtI (mGet eqI (mPut eqI l x2.order (addK .i64 (mGet eqI l x2.order 0) 1)) x2.order 0) 1) (some (.inl ((mPut eqI l x2.order (addK .i64 (mGet eqI l x2.order 0) 1)),moved,other,(addK .i64 v 1)))) (bnd (getI x0.orders x2.order) fun x3=>bnd (QjO x3.now r.type_) fun r1=>br r1 (QhX x0 r s0 x1 l other v x2 x3 (addK .i64 moved 1)) (QhX x0 r s0 x1 l other v x2 x3 moved)))) (some (.inr (moved,other)))
noncomputable def QkX (x0:Qab) (r:Qam) (s0:Qap):Option Qay:=br ((ltI r.type_ 0)||(geI r.type_ (lenI x0.types))) (some (Qay.mk 0 0 0 0)) (bnd (getI x0.types r.type_) fun x1=>bnd (QaK (fun s=>Qds x0 r s0 x1 s.1 s.2.1 s.2.2.1 s.2.2.2) ([],0,0,0)) (fun e0=>(fun moved2 other1=>some (Qay.mk (addK .i64 (addK .i64 x1.fixed (mulK .i64 x1.perMile s0.miles)) (mulK .i64 x1.perTick (subK .i64 s0.end_ x1.open_))) moved2 other1 (mulK .i64 (quoK .i64 (subK .i64 s0.end_ x1.open_) 64) (quoK .i64 (subK .i64 s0.end_ x1.open_) 64)))) e0.1 e0.2))
noncomputable def QmX (s0:Qay):Option Qyd:=some (Qyd.mk s0.cost s0.moved s0.other s0.work)
noncomputable def QfC (s0:Qay):Option (Int×Int):=bnd (QmX s0) fun r=>br (ltI r.x0 0) (some (0,2)) (br (ltI r.x1 0) (some (0,2)) (br (ltI r.x2 0) (some (0,2)) (br (ltI r.x3 0) (some (0,2)) (br ((((gtI s0.cost 1073741824)||(geI s0.moved 16))||(geI s0.other 16))||(geI s0.work 65536)) (some (0,4)) (some ((addK .i64 (mulK .i64 (addK .i64 (mulK .i64 (addK .i64 (mulK .i64 s0.cost 16) s0.moved) 16) s0.other) 65536) s0.work),0))))))
noncomputable def Qiz (x0:Qab) (l:Qad):Option (Int×Int×Bool):=br ((((eqI (lenI l.visits) 0)||(neI l.open_ 0))||(ltI l.type_ 0))||(geI l.type_ (lenI x0.types))) (some (0,0,false)) (bnd (getI x0.types l.type_) fun x1=>bnd (QmV x0.net x1.profile l.place x1.to_ l.time) fun r=>br (((neI r.2.2 0)||(gtI (subK .i64 (addK .i64 l.driven r.1) l.time) x1.drive))||(gtI r.1 x1.close)) (some (0,0,false)) (bnd (QkX x0 (Qam.mk l.type_ 0 [] l.visits) (Qap.mk false 0 [] r.1 (addK .i64 l.miles r.2.1))) fun r1=>bnd (QfC r1) fun r2=>br (neI r2.2 0) (some (0,0,false)) (some (r.1,r2.1,true))))
noncomputable def QkW (l:List Qaf) (at_:Int):Option Bool:=some ((geI at_ 0)&&(ltI at_ (lenI l)))
noncomputable def QjM (x1:Qar):Option (Qar×Int):=br (ltI x1.place 0) (some ((Qar.mk 0 0 0 0),19)) (some (x1,0))
noncomputable def Qo0 (l:List Qaf) (v:Qaa):Option (Qar×Int):=bnd (QkW l v.order) fun r=>br r (bnd (getI l v.order) fun x0=>br v.drop (QjM x0.drop) (QjM x0.pick)) (some ((Qar.mk 0 0 0 0),2))
noncomputable def Qdp (x0:Qab) (l:Qad) (v:Qaa) (x1:Qaf) (v1:Int):Option ((Int)⊕((Unit)⊕(Bool))):=br (ltI v1 (lenI x0.apart)) (bnd (getI x0.apart v1) fun x3=>br (eqI x3.x0 v.order) (bnd (QbV (orK .i64 l.done l.open_) x3.x1) fun r2=>br r2 (some (.inr (.inr false))) (br (eqI x3.x1 v.order) (bnd (QbV (orK .i64 l.done l.open_) x3.x0) fun r3=>br r3 (some (.inr (.inr false))) (some (.inl (addK .i64 v1 1)))) (some (.inl (addK .i64 v1 1))))) (br (eqI x3.x1 v.order) (bnd (QbV (orK .i64 l.done l.open_) x3.x0) fun r4=>br r4 (some (.inr (.inr false))) (some (.inl (addK .i64 v1 1)))) (some (.inl (addK .i64 v1 1))))) (some (.inr (.inl ())))
noncomputable def Qc0 (x0:Qab) (l:Qad) (v:Qaa) (x1:Qaf) (v2:Int):Option ((Int)⊕((Unit)⊕(Bool))):=br (ltI v2 (lenI x0.before)) (bnd (getI x0.before v2) fun x4=>br (eqI x4.x1 v.order) (bnd (QbV l.done x4.x0) fun r6=>br r6 (bnd (QbV l.open_ x4.x0) fun r7=>br r7 (some (.inr (.inr false))) (some (.inl (addK .i64 v2 1)))) (some (.inr (.inr false)))) (some (.inl (addK .i64 v2 1)))) (some (.inr (.inl ())))
noncomputable def Qdq (x0:Qab) (l:Qad) (v:Qaa) (x1:Qaf) (v3:Int):Option ((Int)⊕((Unit)⊕(Bool))):=br (ltI v3 (lenI x0.apart)) (bnd (getI x0.apart v3) fun x5=>br (eqI x5.x0 v.order) (bnd (QbV (orK .i64 l.done l.open_) x5.x1) fun r11=>br r11 (some (.inr (.inr false))) (br (eqI x5.x1 v.order) (bnd (QbV (orK .i64 l.done l.open_) x5.x0) fun r12=>br r12 (some (.inr (.inr false))) (some (.inl (addK .i64 v3 1)))) (some (.inl (addK .i64 v3 1))))) (br (eqI x5.x1 v.order) (bnd (QbV (orK .i64 l.done l.open_) x5.x0) fun r13=>br r13 (some (.inr (.inr false))) (some (.inl (addK .i64 v3 1)))) (some (.inl (addK .i64 v3 1))))) (some (.inr (.inl ())))
noncomputable def Qc1 (x0:Qab) (l:Qad) (v:Qaa) (x1:Qaf) (v4:Int):Option ((Int)⊕((Unit)⊕(Bool))):=br (ltI v4 (lenI x0.before)) (bnd (getI x0.before v4) fun x6=>br (eqI x6.x1 v.order) (bnd (QbV l.done x6.x0) fun r15=>br r15 (bnd (QbV l.open_ x6.x0) fun r16=>br r16 (some (.inr (.inr false))) (some (.inl (addK .i64 v4 1)))) (some (.inr (.inr false)))) (some (.inl (addK .i64 v4 1)))) (some (.inr (.inl ())))
noncomputable def Qmw (x0:Qab) (l:Qad) (v:Qaa):Option Bool:=bnd (getI x0.orders v.order) fun x1=>br x1.off (some false) (bnd (getI x0.types l.type_) fun x2=>bnd (QfJ x2 x1.skills) fun r=>br r (br v.drop (bnd (QbV l.open_ v.order) fun r1=>br r1 (bnd (QaK (fun s=>Qdp x0 l v x1 s) 0) (fun e=>sel e (fun (_:Unit)=>bnd (QbV l.done v.order) fun r5=>br r5 (some true) (bnd (QaK (fun s=>Qc0 x0 l v x1 s) 0) (fun e=>sel e (fun (_:Unit)=>some true) (fun r8=>some r8)))) (fun r9=>some r9))) (some false)) (bnd (QbV l.done v.order) fun r10=>br r10 (some false) (bnd (QaK (fun s=>Qdq x0 l v x1 s) 0) (fun e=>sel e (fun (_:Unit)=>bnd (QbV l.done v.order) fun r14=>br r14 (some true) (bnd (QaK (fun s=>Qc1 x0 l v x1 s) 0) (fun e=>sel e (fun (_:Unit)=>some true) (fun r17=>some r17)))) (fun r18=>some r18))))) (some false))
noncomputable def Qnz (s0:Qar) (arrive:Int):Option (Int×Int):=br (gtI (maxI arrive s0.open_) s0.close) (some (0,14)) (some ((maxI arrive s0.open_),0))
noncomputable def QjV (s0:Qar) (arrive:Int):Option (Int×Int):=bnd (Qnz s0 arrive) fun r=>br (neI r.2 0) (some (0,r.2)) (some ((addK .i64 r.1 s0.service),0))
noncomputable def Qpn (a:Int) (b:Int):Option Int:=some (subK .i64 a b)
noncomputable def Qbl (a:List Int) (b:List Int) (l:List Int) (l1:List Int) (v:Int):Option ((List Int×Int)⊕(List Int)):=br (ltI v (lenI a)) (bnd (getI a v) fun x0=>bnd (getI b v) fun x1=>bnd (Qpn x0 x1) fun r=>bnd (getI l1 v) fun x2=>some (.inl ((setI l1 v r),(addK .i64 v 1)))) (some (.inr l1))
noncomputable def QfZ (a:List Int) (b:List Int):Option (List Int×Int):=br (neI (lenI a) (lenI b)) (some ([],2)) (bnd (mkI (lenI a) (lenI a) 8 0) fun l=>bnd (QaK (fun s=>Qbl a b l s.1 s.2) (l,0)) (fun l2=>some (l2,0)))
noncomputable def Qqu (a:List Int) (b:List Int):Option (List Int×Int):=bnd (QfZ a b) fun r=>some (r.1,r.2)
noncomputable def Qk3 (x0:Qab) (l:Qad) (v:Qaa):Option (List Int):=br v.drop (bnd (getI x0.orders v.order) fun x1=>bnd (Qqu l.load x1.load) fun r=>some r.1) (bnd (getI x0.orders v.order) fun x2=>bnd (Qpm l.load x2.load) fun r1=>some r1.1)
noncomputable def QeM (l:Qad) (v:Qaa) (r:Qar×Int) (x1:Qag) (r2:Int×Int×Int) (r3:Int×Int) (r4:List Int) (l1:List Qaa) (open_:Int):Option (List Qad):=bnd (Qk5 x1 (Qad.mk l.type_ ((cpyL l1 l.visits)++[v]) r.1.place r3.1 (subK .i64 (addK .i64 l.driven r2.1) l.time) (addK .i64 l.miles r2.2.1) r4 (orK .i64 l.done (shlK .i64 1 (cvK .u64 v.order))) open_)) fun r6=>some r6
noncomputable def QiB (x0:Qab) (l:Qad) (v:Qaa):Option (List Qad):=br ((ltI l.type_ 0)||(geI l.type_ (lenI x0.types))) (some []) (bnd (Qo0 x0.orders v) fun r=>br (neI r.2 0) (some []) (bnd (Qmw x0 l v) fun r1=>br r1 (bnd (getI x0.types l.type_) fun x1=>bnd (QmV x0.net x1.profile l.place r.1.place l.time) fun r2=>br (((neI r2.2.2 0)||(gtI (subK .i64 (addK .i64 l.driven r2.1) l.time) x1.drive))||(gtI r2.1 r.1.close)) (some []) (bnd (QjV r.1 r2.1) fun r3=>bnd (Qk3 x0 l v) fun r4=>br (neI r3.2 0) (some []) (bnd (QhB r4 x1.cap) fun r5=>br r5 (bnd (mkI (lenI l.visits) (addK .i64 (lenI l.visits) 1) 16 (Qaa.mk 0 false)) fun l1=>chk (okN ((cpyL l1 l.visits)++[v]).length 16) (chk ((0:Int)≤(cvK .u64 v.order)) (br v.drop (QeM l v r x1 r2 r3 r4 l1 (QpI .i64 l.open_ (shlK .i64 1 (cvK .u64 v.order)))) (bnd (getI x0.orders v.order) fun x2=>br (geI x2.drop.place 0) (QeM l v r x1 r2 r3 r4 l1 (orK .i64 l.open_ (shlK .i64 1 (cvK .u64 v.order)))) (QeM l v r x1 r2 r3 r4 l1 l.open_))))) (some [])))) (some [])))
noncomputable def QcY (before:List Qau) (l:List Int) (l2:List Int) (more1:Bool) (v:Int):Option ((List Int×Bool×Int)⊕(List Int×Bool)):=br (ltI v (lenI before)) (bnd (getI before v) fun x0=>br ((((ltI x0.x0 0)||(ltI x0.x1 0))||(geI x0.x0 (lenI l2)))||(geI x0.x1 (lenI l2))) (some (.inl (l2,more1,(addK .i64 v 1)))) (bnd (getI l2 x0.x1) fun x1=>bnd (getI l2 x0.x0) fun x2=>chk ((0:Int)≤x0.x0) (br (neI (orK .i64 (orK .i64 x1 x2) (shlK .i64 1 x0.x0)) x1) (some (.inl ((setI l2 x0.x1 (orK .i64 (orK .i64 x1 x2) (shlK .i64 1 x0.x0))),true,(addK .i64 v 1)))) (some (.inl (l2,more1,(addK .i64 v 1))))))) (some (.inr (l2,more1)))
noncomputable def QcX (before:List Qau) (l:List Int) (l1:List Int) (more:Bool):Option ((List Int×Bool)⊕(List Int)):=br more (bnd (QaK (fun s=>QcY before l s.1 s.2.1 s.2.2) (l1,false,0)) (fun e0=>(fun l3 more2=>some (.inl (l3,more2))) e0.1 e0.2)) (some (.inr l1))
noncomputable def Qel (orders:Int) (before:List Qau):Option (List Int):=bnd (mkI (maxI orders 0) (maxI orders 0) 8 0) fun l=>bnd (QaK (fun s=>QcX before l s.1 s.2) (l,true)) (fun l4=>some l4)
noncomputable def QaZ (x0:Qab) (set_:Int) (r:List Int) (v:Int):Option ((Int)⊕((Unit)⊕(Int))):=br (ltI v (lenI r)) (bnd (getI r v) fun x1=>br (geI x1 (lenI x0.orders)) (some (.inr (.inr 2))) (some (.inl (addK .i64 v 1)))) (some (.inr (.inl ())))
noncomputable def QaY (x0:Qab) (set_:Int) (r:List Int) (v1:Int):Option ((Int)⊕((Unit)⊕(Int))):=br (ltI v1 (lenI r)) (bnd (getI r v1) fun x2=>bnd (getI x0.orders x2) fun x3=>br x3.off (some (.inr (.inr 9))) (some (.inl (addK .i64 v1 1)))) (some (.inr (.inl ())))
noncomputable def QaT (x0:Qab) (set_:Int) (r:List Int) (v2:Int):Option ((Int)⊕((Unit)⊕(Int))):=br (ltI v2 (lenI x0.apart)) (bnd (getI x0.apart v2) fun x4=>bnd (QbV set_ x4.x0) fun r1=>br r1 (bnd (QbV set_ x4.x1) fun r2=>br r2 (some (.inr (.inr 20))) (some (.inl (addK .i64 v2 1)))) (some (.inl (addK .i64 v2 1)))) (some (.inr (.inl ())))
noncomputable def QaQ (x0:Qab) (set_:Int) (r:List Int) (v3:Int):Option ((Int)⊕((Unit)⊕(Int))):=br (ltI v3 (lenI x0.before)) (bnd (getI x0.before v3) fun x5=>bnd (QbV set_ x5.x1) fun r3=>br r3 (bnd (QbV set_ x5.x0) fun r4=>br r4 (some (.inl (addK .i64 v3 1))) (some (.inr (.inr 21)))) (some (.inl (addK .i64 v3 1)))) (some (.inr (.inl ())))
noncomputable def QaN (r:List Int) (r5:List Int) (v4:Int):Option ((Int)⊕((Unit)⊕(Int))):=br (ltI v4 (lenI r)) (bnd (getI r v4) fun x6=>bnd (getI r5 x6) fun x7=>bnd (QbV x7 x6) fun r6=>br r6 (some (.inr (.inr 21))) (some (.inl (addK .i64 v4 1)))) (some (.inr (.inl ())))
noncomputable def Qdz (x0:Qab) (set_:Int):Option Int:=br (ltI set_ 0) (some 2) (bnd (QfE set_) fun r=>bnd (QaK (fun s=>QaZ x0 set_ r s) 0) (fun e=>sel e (fun (_:Unit)=>bnd (QaK (fun s=>QaY x0 set_ r s) 0) (fun e=>sel e (fun (_:Unit)=>bnd (QaK (fun s=>QaT x0 set_ r s) 0) (fun e=>sel e (fun (_:Unit)=>bnd (QaK (fun s=>QaQ x0 set_ r s) 0) (fun e=>sel e (fun (_:Unit)=>bnd (Qel (lenI x0.orders) x0.before) fun r5=>bnd (QaK (fun s=>QaN r r5 s) 0) (fun e=>sel e (fun (_:Unit)=>some 0) (fun r7=>some r7))) (fun r8=>some r8))) (fun r9=>some r9))) (fun r10=>some r10))) (fun r11=>some r11)))
noncomputable def QbD (x0:Qab) (set_:Int) (v:Int):Option ((Int)⊕((Unit)⊕(Bool))):=br (ltI v (lenI x0.orders)) (bnd (getI x0.orders v) fun x1=>chk ((0:Int)≤v) (br ((eqI (andK .i64 (shrK .i64 set_ v) 1) 1)&&x1.off) (some (.inr (.inr true))) (some (.inl (addK .i64 v 1))))) (some (.inr (.inl ())))
noncomputable def Qff (x0:Qab) (set_:Int):Option Bool:=bnd (QaK (fun s=>QbD x0 set_ s) 0) (fun e=>sel e (fun (_:Unit)=>bnd (Qdz x0 set_) fun r=>some (neI r 0)) (fun r1=>some r1))
noncomputable def QfX (l:List Qaf) (at_:Int) (l1:List Qaa):Option (List Qaa):=bnd (getI l at_) fun x1=>br (geI x1.drop.place 0) (chk (okN (l1++[(Qaa.mk at_ true)]).length 16) (some (l1++[(Qaa.mk at_ true)]))) (some l1)
noncomputable def Qgu (l:List Qaf) (at_:Int):Option (List Qaa):=bnd (QkW l at_) fun r=>br r (bnd (getI l at_) fun x0=>br (geI x0.pick.place 0) (chk (okN [(Qaa.mk at_ false)].length 16) (QfX l at_ [(Qaa.mk at_ false)])) (QfX l at_ [])) (some [])
noncomputable def QaG (s0:List Qaa) (v:Qaa) (v1:Int):Option ((Int)⊕((Unit)⊕(Int))):=br (ltI v1 (lenI s0)) (bnd (getI s0 v1) fun x0=>br (eqI v.order x0.order&&(eqB v.drop x0.drop&&true)) (some (.inr (.inr v1))) (some (.inl (addK .i64 v1 1)))) (some (.inr (.inl ())))
noncomputable def QbX (s0:List Qaa) (v:Qaa):Option Int:=bnd (QaK (fun s=>QaG s0 v s) 0) (fun e=>sel e (fun (_:Unit)=>some (-1)) (fun r=>some r))
noncomputable def QfD (l:List Qaa) (v:Qaa):Option Int:=bnd (QbX l v) fun r=>some r
noncomputable def Qcl (x0:Qab) (l:List Qaa) (v:Qaa) (r1:List Qaa) (v1:Int):Option ((Int)⊕((Unit)⊕(Bool))):=br (ltI v1 (lenI r1)) (bnd (getI r1 v1) fun x1=>br (eqI x1.order v.order&&(eqB x1.drop v.drop&&true)) (some (.inr (.inl ()))) (bnd (QfD l x1) fun r2=>br (ltI r2 0) (some (.inr (.inr false))) (some (.inl (addK .i64 v1 1))))) (some (.inr (.inl ())))
noncomputable def QcJ (x0:Qab) (l:List Qaa) (v:Qaa) (v2:Int) (r3:List Qaa) (v3:Int):Option ((Int)⊕((Unit)⊕(Bool))):=br (ltI v3 (lenI r3)) (bnd (getI r3 v3) fun x3=>bnd (QfD l x3) fun r4=>br (ltI r4 0) (some (.inr (.inr false))) (some (.inl (addK .i64 v3 1)))) (some (.inr (.inl ())))
noncomputable def Qcm (x0:Qab) (l:List Qaa) (v:Qaa) (v2:Int):Option ((Int)⊕((Unit)⊕(Bool))):=br (ltI v2 (lenI x0.before)) (bnd (getI x0.before v2) fun x2=>br (neI x2.x1 v.order) (some (.inl (addK .i64 v2 1))) (bnd (Qgu x0.orders x2.x0) fun r3=>bnd (QaK (fun s=>QcJ x0 l v v2 r3 s) 0) (fun e=>sel e (fun (_:Unit)=>some (.inl (addK .i64 v2 1))) (fun r5=>some (.inr (.inr r5)))))) (some (.inr (.inl ())))
noncomputable def Qh0 (x0:Qab) (l:List Qaa) (v:Qaa):Option Bool:=bnd (QfD l v) fun r=>br (geI r 0) (some false) (bnd (Qgu x0.orders v.order) fun r1=>bnd (QaK (fun s=>Qcl x0 l v r1 s) 0) (fun e=>sel e (fun (_:Unit)=>bnd (QaK (fun s=>Qcm x0 l v s) 0) (fun e=>sel e (fun (_:Unit)=>some true) (fun r6=>some r6))) (fun r7=>some r7)))
noncomputable def Qc5 (x0:Qab) (set_:Int) (l:List Qaa) (v:Int) (r:List Qaa) (l2:List Qaa) (v1:Int):Option ((List Qaa×Int)⊕(List Qaa)):=br (ltI v1 (lenI r)) (bnd (getI r v1) fun x2=>bnd (Qh0 x0 l x2) fun r1=>br r1 (chk (okN (l2++[x2]).length 16) (some (.inl ((l2++[x2]),(addK .i64 v1 1))))) (some (.inl (l2,(addK .i64 v1 1))))) (some (.inr l2))
noncomputable def QcF (x0:Qab) (set_:Int) (l:List Qaa) (l1:List Qaa) (v:Int):Option ((List Qaa×Int)⊕(List Qaa)):=br (ltI v (lenI x0.orders)) (bnd (getI x0.orders v) fun x1=>br (gtI v 62) (some (.inl (l1,(addK .i64 v 1)))) (chk ((0:Int)≤v) (br ((eqI (andK .i64 (shrK .i64 set_ v) 1) 0)||x1.off) (some (.inl (l1,(addK .i64 v 1)))) (bnd (Qgu x0.orders v) fun r=>bnd (QaK (fun s=>Qc5 x0 set_ l v r s.1 s.2) (l1,0)) (fun l3=>some (.inl (l3,(addK .i64 v 1)))))))) (some (.inr l1))
noncomputable def QjS (x0:Qab) (set_:Int) (l:List Qaa):Option (List Qaa):=bnd (QaK (fun s=>QcF x0 set_ l s.1 s.2) ([],0)) (fun l4=>some l4)
noncomputable def Qbv (s0:List Qaa):Option (List Qaa):=bnd (slcI s0 0 (lenI s0)) fun l=>some l
noncomputable def Qck (self:(List Qaa)→Int→(List (List Qaa))→Qab→Int→Option (Bool×Int×List (List Qaa)×Qab×Int)) (l:List Qaa) (c:Int) (r:List Qaa) (l1:List (List Qaa)) (x0:Int) (x1:Qab) (x2:Int) (v:Int):Option ((List (List Qaa)×Int×Qab×Int×Int)⊕((List (List Qaa)×Int×Qab×Int)⊕(Bool×Int×List (List Qaa)×Qab×Int))):=br (ltI v (lenI r)) (bnd (getI r v) fun x3=>bnd (Qbv l) fun r1=>chk (okN (r1++[x3]).length 16) (bnd (self (r1++[x3]) x0 l1 x1 x2) fun r2=>br r2.1 (some (.inl (r2.2.2.1,r2.2.1,r2.2.2.2.1,r2.2.2.2.2,(addK .i64 v 1)))) (some (.inr (.inr (false,r2.2.1,r2.2.2.1,r2.2.2.2.1,r2.2.2.2.2)))))) (some (.inr (.inl (l1,x0,x1,x2))))
noncomputable def Qem (self:(List Qaa)→Int→(List (List Qaa))→Qab→Int→Option (Bool×Int×List (List Qaa)×Qab×Int)) (l:List Qaa) (c:Int) (c1:List (List Qaa)) (c2:Qab) (c3:Int):Option (Bool×Int×List (List Qaa)×Qab×Int):=br (eqI (lenI l) c) (chk (okN (c1++[l]).length 24) (some ((leI (lenI (c1++[l])) 8192),c,(c1++[l]),c2,c3))) (bnd (QjS c2 c3 l) fun r=>bnd (QaK (fun s=>Qck self l c r s.1 s.2.1 s.2.2.1 s.2.2.2.1 s.2.2.2.2) (c1,c,c2,c3,0)) (fun e=>sel e (fun e0=>(fun l2 x4 x5 x6=>some (true,x4,l2,x5,x6)) e0.1 e0.2.1 e0.2.2.1 e0.2.2.2) (fun r3=>some r3)))
noncomputable def QcE:Nat→(List Qaa)→Int→(List (List Qaa))→Qab→Int→Option (Bool×Int×List (List Qaa)×Qab×Int)|0=>fun _ _ _ _ _=>none|fuel_+1=>fun l c c1 c2 c3=>Qem (QcE fuel_) l c c1 c2 c3
noncomputable def QkN (l:List Qaa) (c:Int) (c1:List (List Qaa)) (c2:Qab) (c3:Int):Option (Bool×Int×List (List Qaa)×Qab×Int):=QcE Qmy l c c1 c2 c3
noncomputable def QcZ (x0:Qab) (set_:Int) (x1:Int) (v:Int):Option ((Int×Int)⊕(Int)):=br (ltI v (lenI x0.orders)) (chk ((0:Int)≤v) (br (eqI (andK .i64 (shrK .i64 set_ v) 1) 1) (bnd (Qgu x0.orders v) fun r1=>some (.inl ((addK .i64 x1 (lenI r1)),(addK .i64 v 1)))) (some (.inl (x1,(addK .i64 v 1)))))) (some (.inr x1))
noncomputable def Qgw (x0:Qab) (set_:Int):Option (List (List Qaa)×Int):=br (ltI set_ 0) (some ([],2)) (chk ((0:Int)≤(lenI x0.orders)) (br (neI (shrK .i64 set_ (lenI x0.orders)) 0) (some ([],2)) (br (eqI set_ 0) (some ([],0)) (bnd (Qff x0 set_) fun r=>br r (some ([],0)) (bnd (QaK (fun s=>QcZ x0 set_ s.1 s.2) (0,0)) (fun x2=>bnd (QkN [] x2 [] x0 set_) fun r2=>br r2.1 (some (r2.2.2.1,0)) (some ([],4))))))))
noncomputable def QaX (q:Qan):Option (Int×Qan):=some ((subK .i64 (lenI q.items) q.first_),q)
noncomputable def Qa5 (q:Qan):Option (Qad×Qan):=bnd (getI q.items q.first_) fun x0=>some (x0,(Qan.mk q.items (addK .i64 q.first_ 1)))
noncomputable def Qa0 (q:Qan) (l:List Qad):Option Qan:=chk (okN (q.items++l).length 104) (some (Qan.mk (q.items++l) q.first_))
noncomputable def Qbd (l:Qbw) (v:Qaa) (r:Int×Qan) (l1:List Qad) (first_:Int) (v1:Int):Option ((List Qad×Int×Int)⊕(List Qad×Int)):=br (ltI v1 r.1) (bnd (Qa5 (Qan.mk l1 first_)) fun r1=>bnd (QiB l.x r1.1 v) fun r2=>bnd (Qa0 r1.2 r2) fun r3=>some (.inl (r3.items,r3.first_,(addK .i64 v1 1)))) (some (.inr (l1,first_)))
noncomputable def QeY (l:Qbw) (v:Qaa):Option Qbw:=bnd (QaX l.queue) fun r=>bnd (QaK (fun s=>Qbd l v r s.1 s.2.1 s.2.2) (r.2.items,r.2.first_,0)) (fun e0=>(fun l2 first_1=>some (Qbw.mk (Qan.mk l2 first_1) l.x)) e0.1 e0.2)
noncomputable def QeL (a:Qad) (b:Qad):Option Bool:=br ((((neI a.type_ b.type_)||(neI a.place b.place))||(neI a.done b.done))||(neI a.open_ b.open_)) (some false) (br (((leI a.time b.time)&&(leI a.driven b.driven))&&(leI a.miles b.miles)) (bnd (QhB a.load b.load) fun r=>some r) (some false))
noncomputable def Qeu (l:List Qad) (next_:Qad) (v:Int):Option ((Int)⊕((Unit)⊕(List Qad))):=br (ltI v (lenI l)) (bnd (getI l v) fun x0=>bnd (QeL x0 next_) fun r=>br r (some (.inr (.inr l))) (some (.inl (addK .i64 v 1)))) (some (.inr (.inl ())))
noncomputable def Qd4 (l:List Qad) (next_:Qad) (l1:List Qad) (v1:Int):Option ((List Qad×Int)⊕(List Qad)):=br (ltI v1 (lenI l)) (bnd (getI l v1) fun x1=>bnd (QeL next_ x1) fun r1=>br r1 (some (.inl (l1,(addK .i64 v1 1)))) (chk (okN (l1++[x1]).length 104) (some (.inl ((l1++[x1]),(addK .i64 v1 1)))))) (some (.inr l1))
noncomputable def Qop (l:List Qad) (next_:Qad):Option (List Qad):=bnd (QaK (fun s=>Qeu l next_ s) 0) (fun e=>sel e (fun (_:Unit)=>bnd (QaK (fun s=>Qd4 l next_ s.1 s.2) ([],0)) (fun l2=>chk (okN (l2++[next_]).length 104) (some (l2++[next_])))) (fun r2=>some r2))
noncomputable def Qfi (r:List (List Qaa)×Int) (r1:List Qad) (out:List Qad) (v:Int) (x2:List Qaa) (l:List Qad) (x3:Qab) (first_:Int) (x4:Qab) (v1:Int):Option ((List Qad×Qab×Int×Qab×Int)⊕(List Qad×Qab×Int×Qab)):=br (ltI v1 (lenI x2)) (bnd (getI x2 v1) fun x5=>bnd (QeY (Qbw.mk (Qan.mk l first_) x4) x5) fun r3=>some (.inl (r3.queue.items,x3,r3.queue.first_,r3.x,(addK .i64 v1 1)))) (some (.inr (l,x3,first_,x4)))
noncomputable def Qdu (r:List (List Qaa)×Int) (r1:List Qad) (v:Int) (l2:List Qad) (x8:Qab) (first_2:Int) (x9:Qab) (out1:List Qad):Option ((List Qad×Qab×Int×Qab×List Qad)⊕(Qab×List Qad)):=bnd (QaX (Qan.mk l2 first_2)) fun r4=>br (gtI r4.1 0) (bnd (Qa5 r4.2) fun r5=>bnd (Qiz x8 r5.1) fun r6=>br r6.2.2 (bnd (Qop out1 r5.1) fun r7=>some (.inl (r5.2.items,x8,r5.2.first_,x9,r7))) (some (.inl (r5.2.items,x8,r5.2.first_,x9,out1)))) (some (.inr (x8,out1)))
noncomputable def Qd3 (r:List (List Qaa)×Int) (r1:List Qad) (x1:Qab) (out:List Qad) (v:Int):Option ((Qab×List Qad×Int)⊕(List Qad)):=br (ltI v (lenI r.1)) (bnd (getI r.1 v) fun x2=>bnd (Qa0 (Qan.mk [] 0) r1) fun r2=>bnd (QaK (fun s=>Qfi r r1 out v x2 s.1 s.2.1 s.2.2.1 s.2.2.2.1 s.2.2.2.2) (r2.items,x1,r2.first_,x1,0)) (fun e0=>(fun l1 x6 first_1 x7=>bnd (QaK (fun s=>Qdu r r1 v s.1 s.2.1 s.2.2.1 s.2.2.2.1 s.2.2.2.2) (l1,x6,first_1,x7,out)) (fun e0=>(fun x10 out2=>some (.inl (x10,out2,(addK .i64 v 1)))) e0.1 e0.2)) e0.1 e0.2.1 e0.2.2.1 e0.2.2.2)) (some (.inr out))
noncomputable def Qhz (x0:Qab) (kind:Int) (set_:Int):Option (List Qad×Int):=br ((ltI kind 0)||(geI kind (lenI x0.types))) (some ([],2)) (bnd (Qgw x0 set_) fun r=>br (neI r.2 0) (some ([],r.2)) (bnd (QkU x0 kind set_) fun r1=>bnd (QaK (fun s=>Qd3 r r1 s.1 s.2.1 s.2.2) (x0,[],0)) (fun out3=>some (out3,0))))
noncomputable def Qdw:Option Bool:=bnd (QkU (Qab.mk (Qak.mk [Qj3,Qj4] [(Qao.mk 0 1 0 4 [(Qai.mk 0 10)] []),(Qao.mk 1 0 0 4 [(Qai.mk 0 10)] [])]) [(Qag.mk Qj6 1 0 0 [5] 0 0 0 90 50 5 0 0 0)] [(Qaf.mk Qj5 [3] (Qar.mk (-1) 0 0 0) (Qar.mk 1 0 80 0) 0 0 1 (-1) (-1) false)] [] []) 0 1) fun r=>br (neI (lenI r) 2) (some false) (bnd (getI r 1) fun x0=>br (neI x0.time 5) (some false) (bnd (getI r 0) fun x1=>bnd (QiB (Qab.mk (Qak.mk [Qj3,Qj4] [(Qao.mk 0 1 0 4 [(Qai.mk 0 10)] []),(Qao.mk 1 0 0 4 [(Qai.mk 0 10)] [])]) [(Qag.mk Qj6 1 0 0 [5] 0 0 0 90 50 5 0 0 0)] [(Qaf.mk Qj5 [3] (Qar.mk (-1) 0 0 0) (Qar.mk 1 0 80 0) 0 0 1 (-1) (-1) false)] [] []) x1 (Qaa.mk 0 true)) fun r1=>br (neI (lenI r1) 2) (some false) (bnd (getI r1 0) fun x2=>br (neI x2.time 10) (some false) (br (neI x2.driven 10) (some false) (br (neI x2.miles 4) (some false) (bnd (getI r1 1) fun x3=>br (neI x3.time 15) (some false) (bnd (Qiz (Qab.mk (Qak.mk [Qj3,Qj4] [(Qao.mk 0 1 0 4 [(Qai.mk 0 10)] []),(Qao.mk 1 0 0 4 [(Qai.mk 0 10)] [])]) [(Qag.mk Qj6 1 0 0 [5] 0 0 0 90 50 5 0 0 0)] [(Qaf.mk Qj5 [3] (Qar.mk (-1) 0 0 0) (Qar.mk 1 0 80 0) 0 0 1 (-1) (-1) false)] [] []) x2) fun r2=>bnd (Qhz (Qab.mk (Qak.mk [Qj3,Qj4] [(Qao.mk 0 1 0 4 [(Qai.mk 0 10)] []),(Qao.mk 1 0 0 4 [(Qai.mk 0 10)] [])]) [(Qag.mk Qj6 1 0 0 [5] 0 0 0 90 50 5 0 0 0)] [(Qaf.mk Qj5 [3] (Qar.mk (-1) 0 0 0) (Qar.mk 1 0 80 0) 0 0 1 (-1) (-1) false)] [] []) 0 1) fun r3=>some (((r2.2.2&&(eqI r2.1 20))&&(eqI r3.2 0))&&(gtI (lenI r3.1) 0)))))))))
noncomputable def Qsh (i:Int) (n:Int) (k:Int):Option ((Int×Int)⊕(Int)):=br (ltI k i) (some (.inl ((mulK .i64 2 n),(addK .i64 k 1)))) (some (.inr n))
noncomputable def QhH (i:Int):Option Int:=bnd (QaK (fun s=>Qsh i s.1 s.2) (1,0)) (fun n1=>some n1)
noncomputable def Qbm (set_:Int) (i:Int):Option Bool:=br ((geI i 0)&&(leI i 62)) (bnd (QhH i) fun r=>chk ((r:Int)≠0) (some (eqI (remK (quoK .i64 set_ r) 2) 1))) (some false)
noncomputable def Qpt (set_:Int) (l:List Int) (i:Int):Option ((List Int×Int)⊕(List Int)):=br (leI i 62) (bnd (Qbm set_ i) fun r=>br r (chk (okN (l++[i]).length 8) (some (.inl ((l++[i]),(addK .i64 i 1))))) (some (.inl (l,(addK .i64 i 1))))) (some (.inr l))
noncomputable def QiD (set_:Int):Option (List Int):=bnd (QaK (fun s=>Qpt set_ s.1 s.2) ([],0)) (fun l1=>some l1)
noncomputable def QcO (t:Qag) (skills:Int) (bit:Int):Option ((Int)⊕((Unit)⊕(Bool))):=br (gtI bit 0) (chk ((bit:Int)≠0) (br (eqI (remK (quoK .i64 skills bit) 2) 1) (chk ((bit:Int)≠0) (br (eqI (remK (quoK .i64 t.skills bit) 2) 0) (some (.inr (.inr false))) (some (.inl (mulK .i64 bit 2))))) (some (.inl (mulK .i64 bit 2))))) (some (.inr (.inl ())))
noncomputable def QcU (t:Qag) (skills:Int):Option Bool:=br ((ltI t.skills 0)||(ltI skills 0)) (some false) (bnd (QaK (fun s=>QcO t skills s) 1) (fun e=>sel e (fun (_:Unit)=>some true) (fun r=>some r)))
noncomputable def Qsn (x0:Qab) (kind:Int) (set_:Int) (r:List Int) (i:Int):Option ((Int)⊕((Unit)⊕(Bool))):=br (ltI i (lenI r)) (bnd (getI r i) fun x1=>br (geI x1 (lenI x0.orders)) (some (.inr (.inr false))) (bnd (getI x0.orders x1) fun x2=>br x2.off (some (.inr (.inr false))) (bnd (getI x0.types kind) fun x3=>bnd (QcU x3 x2.skills) fun r1=>br r1 (some (.inl (addK .i64 i 1))) (some (.inr (.inr false)))))) (some (.inr (.inl ())))
noncomputable def Qso (x0:Qab) (set_:Int) (i1:Int):Option ((Int)⊕((Unit)⊕(Bool))):=br (ltI i1 (lenI x0.apart)) (bnd (getI x0.apart i1) fun x4=>bnd (Qbm set_ x4.x0) fun r2=>br r2 (bnd (Qbm set_ x4.x1) fun r3=>br r3 (some (.inr (.inr false))) (some (.inl (addK .i64 i1 1)))) (some (.inl (addK .i64 i1 1)))) (some (.inr (.inl ())))
noncomputable def Qsp (x0:Qab) (set_:Int) (i2:Int):Option ((Int)⊕((Unit)⊕(Bool))):=br (ltI i2 (lenI x0.before)) (bnd (getI x0.before i2) fun x5=>bnd (Qbm set_ x5.x1) fun r4=>br r4 (bnd (Qbm set_ x5.x0) fun r5=>br r5 (some (.inl (addK .i64 i2 1))) (some (.inr (.inr false)))) (some (.inl (addK .i64 i2 1)))) (some (.inr (.inl ())))
noncomputable def QuB (x0:Qab) (kind:Int) (set_:Int):Option Bool:=br (((ltI kind 0)||(geI kind (lenI x0.types)))||(leI set_ 0)) (some false) (bnd (QiD set_) fun r=>bnd (QaK (fun s=>Qsn x0 kind set_ r s) 0) (fun e=>sel e (fun (_:Unit)=>bnd (QaK (fun s=>Qso x0 set_ s) 0) (fun e=>sel e (fun (_:Unit)=>bnd (QaK (fun s=>Qsp x0 set_ s) 0) (fun e=>sel e (fun (_:Unit)=>some true) (fun r6=>some r6))) (fun r7=>some r7))) (fun r8=>some r8)))
noncomputable def Qcp (l:List (List Int)) (dims:Int) (i:Int):Option ((Int)⊕((Unit)⊕(Bool))):=br (ltI i (lenI l)) (bnd (getI l i) fun x0=>br (neI (lenI x0) dims) (some (.inr (.inr false))) (some (.inl (addK .i64 i 1)))) (some (.inr (.inl ())))
noncomputable def Qg0 (l:List (List Int)) (dims:Int):Option Bool:=br ((ltI dims 0)||(gtI dims 3)) (some false) (bnd (QaK (fun s=>Qcp l dims s) 0) (fun e=>sel e (fun (_:Unit)=>some true) (fun r=>some r)))
noncomputable def Qci (l:List (List Int)) (dims:Int) (l1:List Int) (d:Int) (n:Int) (i:Int):Option ((Int×Int)⊕(Int)):=br (ltI i (lenI l)) (bnd (getI l i) fun x0=>bnd (getI x0 d) fun x1=>some (.inl ((addK .i64 n x1),(addK .i64 i 1)))) (some (.inr n))
noncomputable def Qch (l:List (List Int)) (dims:Int) (l1:List Int) (d:Int):Option ((List Int×Int)⊕(List Int)):=br (ltI d dims) (bnd (QaK (fun s=>Qci l dims l1 d s.1 s.2) (0,0)) (fun n1=>chk (okN (l1++[n1]).length 8) (some (.inl ((l1++[n1]),(addK .i64 d 1)))))) (some (.inr l1))
noncomputable def Qfs (l:List (List Int)) (dims:Int):Option (List Int×Int):=bnd (Qg0 l dims) fun r=>br r (bnd (QaK (fun s=>Qch l dims s.1 s.2) ([],0)) (fun l2=>some (l2,0))) (some ([],2))
noncomputable def Qrr (l:List Qaf) (dims:Int) (r1:List Int) (l1:List (List Int)) (i:Int):Option ((List (List Int)×Int)⊕((List (List Int))⊕(List Int×Int))):=br (ltI i (lenI r1)) (bnd (getI r1 i) fun x0=>br (geI x0 (lenI l)) (some (.inr (.inr ([],2)))) (bnd (getI l x0) fun x1=>chk (okN (l1++[x1.load]).length 24) (some (.inl ((l1++[x1.load]),(addK .i64 i 1)))))) (some (.inr (.inl l1)))
noncomputable def QtU (l:List Qaf) (set_:Int) (dims:Int):Option (List Int×Int):=br (ltI set_ 0) (some ([],2)) (bnd (Qbp dims 0 3) fun r=>br r (bnd (QiD set_) fun r1=>bnd (QaK (fun s=>Qrr l dims r1 s.1 s.2) ([],0)) (fun e=>sel e (fun l2=>bnd (Qfs l2 dims) fun r2=>some (r2.1,r2.2)) (fun r3=>some r3))) (some ([],2)))
noncomputable def Qco (a:List Int) (capacity:List Int) (i:Int):Option ((Int)⊕((Unit)⊕(Bool))):=br (ltI i (lenI a)) (bnd (getI a i) fun x0=>bnd (getI capacity i) fun x1=>br (gtI x0 x1) (some (.inr (.inr false))) (some (.inl (addK .i64 i 1)))) (some (.inr (.inl ())))
noncomputable def QeP (a:List Int) (capacity:List Int):Option Bool:=br (neI (lenI a) (lenI capacity)) (some false) (bnd (QaK (fun s=>Qco a capacity s) 0) (fun e=>sel e (fun (_:Unit)=>some true) (fun r=>some r)))
noncomputable def QnR (x0:Qab) (l:Qaq):Option (List Qaq):=bnd (getI x0.types l.type_) fun x1=>some [l,(Qaq.mk l.type_ l.visits l.place (addK .i64 l.time x1.rest_) 0 l.miles l.load l.done l.open_)]
noncomputable def QqG (x0:Qab) (kind:Int) (x1:Qag) (r1:List Int) (open_:Int) (open_1:Int) (i:Int):Option ((Int×Int×Int)⊕(Int×Int)):=br (ltI i (lenI r1)) (bnd (getI r1 i) fun x2=>bnd (getI x0.orders x2) fun x3=>br (ltI x3.pick.place 0) (bnd (QhH x2) fun r2=>some (.inl (open_,(addK .i64 open_1 r2),(addK .i64 i 1)))) (some (.inl (open_,open_1,(addK .i64 i 1))))) (some (.inr (open_,open_1)))
noncomputable def Qtf (x0:Qab) (kind:Int) (set_:Int):Option (List Qaq):=bnd (QuB x0 kind set_) fun r=>br r (bnd (getI x0.types kind) fun x1=>bnd (QiD set_) fun r1=>bnd (QaK (fun s=>QqG x0 kind x1 r1 s.1 s.2.1 s.2.2) (x1.open_,0,0)) (fun e0=>(fun open_2 open_3=>bnd (QtU x0.orders open_3 (lenI x1.cap)) fun r3=>br (neI r3.2 0) (some []) (bnd (QeP r3.1 x1.cap) fun r4=>br r4 (bnd (QnR x0 (Qaq.mk kind [] x1.from_ open_2 0 0 r3.1 0 open_3)) fun r5=>some r5) (some []))) e0.1 e0.2)) (some [])
noncomputable def Qe0 (n:Qak) (p:Int):Option Bool:=some ((geI p 0)&&(ltI p (lenI n.places)))
noncomputable def Qea (n:Qak) (profile:Int) (from_:Int) (to_:Int) (i:Int):Option ((Int)⊕((Unit)⊕(Qao×Bool))):=br (ltI i (lenI n.arcs)) (bnd (getI n.arcs i) fun x0=>br (((eqI x0.from_ from_)&&(eqI x0.to_ to_))&&(eqI x0.profile profile)) (some (.inr (.inr (x0,true)))) (some (.inl (addK .i64 i 1)))) (some (.inr (.inl ())))
noncomputable def Qg1 (n:Qak) (profile:Int) (from_:Int) (to_:Int):Option (Qao×Bool):=bnd (QaK (fun s=>Qea n profile from_ to_ s) 0) (fun e=>sel e (fun (_:Unit)=>some ((Qao.mk 0 0 0 0 [] []),false)) (fun r=>some r))
noncomputable def Qdf (l:List Qai) (t:Int) (i:Int):Option ((Int)⊕((Unit)⊕(Int))):=br (ltI (addK .i64 i 1) (lenI l)) (bnd (getI l i) fun x0=>bnd (getI l (addK .i64 i 1)) fun x1=>br ((leI x0.t t)&&(ltI t x1.t)) (chk (((subK .i64 x1.t x0.t):Int)≠0) (some (.inr (.inr (addK .i64 x0.a (quoK .i64 (subK .i64 (subK .i64 (addK .i64 (mulK .i64 (subK .i64 t x0.t) (subK .i64 x1.a x0.a)) x1.t) x0.t) 1) (subK .i64 x1.t x0.t))))))) (some (.inl (addK .i64 i 1)))) (some (.inr (.inl ())))
noncomputable def QfL (l:List Qai) (t:Int):Option Int:=bnd (Qeh l) fun r=>br (((gtI (lenI r) 0)||(ltI t 0))||(gtI t 1073741824)) (some 0) (bnd (QaK (fun s=>Qdf l t s) 0) (fun e=>sel e (fun (_:Unit)=>bnd (getI l 0) fun x2=>br (gtI t x2.t) (bnd (getI l (subK .i64 (lenI l) 1)) fun x3=>some (subK .i64 (addK .i64 t x3.a) x3.t)) (some (subK .i64 (addK .i64 t x2.a) x2.t))) (fun r1=>some r1)))
noncomputable def Qft (a:Qao) (t:Int) (n:Int) (i:Int):Option ((Int×Int)⊕(Int)):=br (ltI i (lenI a.slow)) (bnd (getI a.slow i) fun x0=>br (leI x0.t t) (some (.inl ((addK .i64 n x0.a),(addK .i64 i 1)))) (some (.inl (n,(addK .i64 i 1))))) (some (.inr n))
noncomputable def QfM (a:Qao) (t:Int):Option Int:=bnd (QfL a.travel t) fun r=>bnd (QaK (fun s=>Qft a t s.1 s.2) (r,0)) (fun n1=>some n1)
noncomputable def Qey (n:Qak) (profile:Int) (from_:Int) (to_:Int) (t:Int):Option (Int×Int×Int):=bnd (Qe0 n from_) fun r=>br r (bnd (Qe0 n to_) fun r1=>br r1 (br (eqI from_ to_) (some (t,0,0)) (bnd (Qg1 n profile from_ to_) fun r2=>br r2.2 (bnd (QfM r2.1 t) fun r3=>some (r3,r2.1.miles,0)) (some (0,0,12)))) (some (0,0,11))) (some (0,0,11))
noncomputable def QbU (l:List Qaa) (at_:Int) (i:Int):Option ((Int)⊕((Unit)⊕(Bool))):=br (ltI i at_) (bnd (getI l i) fun x0=>bnd (getI l at_) fun x1=>br (eqI x0.order x1.order) (some (.inr (.inr false))) (some (.inl (addK .i64 i 1)))) (some (.inr (.inl ())))
noncomputable def QfO (l:List Qaa) (at_:Int):Option Bool:=bnd (QaK (fun s=>QbU l at_ s) 0) (fun e=>sel e (fun (_:Unit)=>some true) (fun r=>some r))
noncomputable def QeH (x0:Qab) (r:Qam) (s0:Qap) (x1:Qag) (other:Int) (i:Int) (x2:Qaa) (moved1:Int):Option ((Int×Int×Int)⊕(Int×Int)):=bnd (getI x0.orders x2.order) fun x4=>br (neI x4.last_ (-1)) (br (neI x4.last_ r.type_) (some (.inl (moved1,(addK .i64 other 1),(addK .i64 i 1)))) (some (.inl (moved1,other,(addK .i64 i 1))))) (some (.inl (moved1,other,(addK .i64 i 1))))
noncomputable def QbK (x0:Qab) (r:Qam) (s0:Qap) (x1:Qag) (moved:Int) (other:Int) (i:Int):Option ((Int×Int×Int)⊕(Int×Int)):=br (ltI i (lenI r.visits)) (bnd (getI r.visits i) fun x2=>br ((ltI x2.order 0)||(geI x2.order (lenI x0.orders))) (some (.inl (moved,other,(addK .i64 i 1)))) (bnd (QfO r.visits i) fun r1=>br r1 (bnd (getI x0.orders x2.order) fun x3=>br (neI x3.now (-1)) (br (neI x3.now r.type_) (QeH x0 r s0 x1 other i x2 (addK .i64 moved 1)) (QeH x0 r s0 x1 other i x2 moved)) (br (neI x3.last_ (-1)) (br (neI x3.last_ r.type_) (some (.inl (moved,(addK .i64 other 1),(addK .i64 i 1)))) (some (.inl (moved,other,(addK .i64 i 1))))) (some (.inl (moved,other,(addK .i64 i 1)))))) (some (.inl (moved,other,(addK .i64 i 1)))))) (some (.inr (moved,other)))
noncomputable def Qdy (x0:Qab) (r:Qam) (s0:Qap):Option Qay:=br ((ltI r.type_ 0)||(geI r.type_ (lenI x0.types))) (some (Qay.mk 0 0 0 0)) (bnd (getI x0.types r.type_) fun x1=>bnd (QaK (fun s=>QbK x0 r s0 x1 s.1 s.2.1 s.2.2) (0,0,0)) (fun e0=>(fun moved2 other1=>some (Qay.mk (addK .i64 (addK .i64 x1.fixed (mulK .i64 x1.perMile s0.miles)) (mulK .i64 x1.perTick (subK .i64 s0.end_ x1.open_))) moved2 other1 (mulK .i64 (quoK .i64 (subK .i64 s0.end_ x1.open_) 64) (quoK .i64 (subK .i64 s0.end_ x1.open_) 64)))) e0.1 e0.2))
noncomputable def QhV (s0:Qay):Option Bool:=some ((((((((geI s0.cost 0)&&(leI s0.cost 1073741824))&&(geI s0.moved 0))&&(leI s0.moved 15))&&(geI s0.other 0))&&(leI s0.other 15))&&(geI s0.work 0))&&(leI s0.work 65535))
noncomputable def QcI (s0:Qay):Option (Int×Int):=br ((((ltI s0.cost 0)||(ltI s0.moved 0))||(ltI s0.other 0))||(ltI s0.work 0)) (some (0,2)) (bnd (QhV s0) fun r=>br r (some ((addK .i64 (mulK .i64 (addK .i64 (mulK .i64 (addK .i64 (mulK .i64 s0.cost 16) s0.moved) 16) s0.other) 65536) s0.work),0)) (some (0,4)))
noncomputable def Qlp (x0:Qab) (l:Qaq):Option (Int×Int×Bool):=br ((eqI (lenI l.visits) 0)||(neI l.open_ 0)) (some (0,0,false)) (bnd (getI x0.types l.type_) fun x1=>bnd (Qey x0.net x1.profile l.place x1.to_ l.time) fun r=>br (((neI r.2.2 0)||(gtI (subK .i64 (addK .i64 l.driven r.1) l.time) x1.drive))||(gtI r.1 x1.close)) (some (0,0,false)) (bnd (Qdy x0 (Qam.mk l.type_ 0 [] l.visits) (Qap.mk false 0 [] r.1 (addK .i64 l.miles r.2.1))) fun r1=>bnd (QcI r1) fun r2=>some (r.1,r2.1,(eqI r2.2 0))))
noncomputable def Qiv (a:Qaq) (b:Qaq) (i:Int):Option ((Int)⊕((Unit)⊕(Bool))):=br (ltI i (lenI a.load)) (bnd (getI a.load i) fun x0=>bnd (getI b.load i) fun x1=>br (gtI x0 x1) (some (.inr (.inr false))) (some (.inl (addK .i64 i 1)))) (some (.inr (.inl ())))
noncomputable def Qej (a:Qaq) (b:Qaq):Option Bool:=br (((((neI a.type_ b.type_)||(neI a.place b.place))||(neI a.done b.done))||(neI a.open_ b.open_))||(neI (lenI a.load) (lenI b.load))) (some false) (bnd (QaK (fun s=>Qiv a b s) 0) (fun e=>sel e (fun (_:Unit)=>some (((leI a.time b.time)&&(leI a.driven b.driven))&&(leI a.miles b.miles))) (fun r=>some r)))
noncomputable def QmJ (x1:Qar):Option (Qar×Int):=br (ltI x1.place 0) (some ((Qar.mk 0 0 0 0),19)) (some (x1,0))
noncomputable def QpR (l:List Qaf) (v:Qaa):Option (Qar×Int):=bnd (Qbp v.order 0 (subK .i64 (lenI l) 1)) fun r=>br r (bnd (getI l v.order) fun x0=>br v.drop (QmJ x0.drop) (QmJ x0.pick)) (some ((Qar.mk 0 0 0 0),2))
noncomputable def Qry (x0:Qab) (l:Qaq) (v:Qaa) (x1:Qaf) (r1:Bool) (i:Int):Option ((Int)⊕((Unit)⊕(Bool))):=br (ltI i (lenI x0.apart)) (bnd (getI x0.apart i) fun x3=>br (eqI x3.x0 v.order) (bnd (Qbm (orK .i64 l.done l.open_) x3.x1) fun r4=>br r4 (some (.inr (.inr false))) (br (eqI x3.x1 v.order) (bnd (Qbm (orK .i64 l.done l.open_) x3.x0) fun r5=>br r5 (some (.inr (.inr false))) (some (.inl (addK .i64 i 1)))) (some (.inl (addK .i64 i 1))))) (br (eqI x3.x1 v.order) (bnd (Qbm (orK .i64 l.done l.open_) x3.x0) fun r6=>br r6 (some (.inr (.inr false))) (some (.inl (addK .i64 i 1)))) (some (.inl (addK .i64 i 1))))) (some (.inr (.inl ())))
noncomputable def Qrz (x0:Qab) (l:Qaq) (v:Qaa) (x1:Qaf) (r1:Bool) (i1:Int):Option ((Int)⊕((Unit)⊕(Bool))):=br ((ltI i1 (lenI x0.before))&&(!r1)) (bnd (getI x0.before i1) fun x4=>br (eqI x4.x1 v.order) (bnd (Qbm l.done x4.x0) fun r7=>br r7 (bnd (Qbm l.open_ x4.x0) fun r8=>br r8 (some (.inr (.inr false))) (some (.inl (addK .i64 i1 1)))) (some (.inr (.inr false)))) (some (.inl (addK .i64 i1 1)))) (some (.inr (.inl ())))
noncomputable def QrA (x0:Qab) (l:Qaq) (v:Qaa) (x1:Qaf) (r1:Bool) (i2:Int):Option ((Int)⊕((Unit)⊕(Bool))):=br (ltI i2 (lenI x0.apart)) (bnd (getI x0.apart i2) fun x6=>br (eqI x6.x0 v.order) (bnd (Qbm (orK .i64 l.done l.open_) x6.x1) fun r12=>br r12 (some (.inr (.inr false))) (br (eqI x6.x1 v.order) (bnd (Qbm (orK .i64 l.done l.open_) x6.x0) fun r13=>br r13 (some (.inr (.inr false))) (some (.inl (addK .i64 i2 1)))) (some (.inl (addK .i64 i2 1))))) (br (eqI x6.x1 v.order) (bnd (Qbm (orK .i64 l.done l.open_) x6.x0) fun r14=>br r14 (some (.inr (.inr false))) (some (.inl (addK .i64 i2 1)))) (some (.inl (addK .i64 i2 1))))) (some (.inr (.inl ())))
noncomputable def QrB (x0:Qab) (l:Qaq) (v:Qaa) (x1:Qaf) (r1:Bool) (i3:Int):Option ((Int)⊕((Unit)⊕(Bool))):=br ((ltI i3 (lenI x0.before))&&(!r1)) (bnd (getI x0.before i3) fun x7=>br (eqI x7.x1 v.order) (bnd (Qbm l.done x7.x0) fun r15=>br r15 (bnd (Qbm l.open_ x7.x0) fun r16=>br r16 (some (.inr (.inr false))) (some (.inl (addK .i64 i3 1)))) (some (.inr (.inr false)))) (some (.inl (addK .i64 i3 1)))) (some (.inr (.inl ())))
noncomputable def QtV (x0:Qab) (l:Qaq) (v:Qaa):Option Bool:=bnd (QpR x0.orders v) fun r=>br (neI r.2 0) (some false) (bnd (getI x0.orders v.order) fun x1=>br x1.off (some false) (bnd (Qbm l.done v.order) fun r1=>br ((!v.drop)&&r1) (some false) (br v.drop (bnd (Qbm l.open_ v.order) fun r2=>br r2 (bnd (getI x0.types l.type_) fun x2=>bnd (QcU x2 x1.skills) fun r3=>br r3 (bnd (QaK (fun s=>Qry x0 l v x1 r1 s) 0) (fun e=>sel e (fun (_:Unit)=>bnd (QaK (fun s=>Qrz x0 l v x1 r1 s) 0) (fun e=>sel e (fun (_:Unit)=>some true) (fun r9=>some r9))) (fun r10=>some r10))) (some false)) (some false)) (bnd (getI x0.types l.type_) fun x5=>bnd (QcU x5 x1.skills) fun r11=>br r11 (bnd (QaK (fun s=>QrA x0 l v x1 r1 s) 0) (fun e=>sel e (fun (_:Unit)=>bnd (QaK (fun s=>QrB x0 l v x1 r1 s) 0) (fun e=>sel e (fun (_:Unit)=>some true) (fun r17=>some r17))) (fun r18=>some r18))) (some false)))))
noncomputable def QoB (s0:Qar) (arrive:Int):Option (Int×Int):=br (gtI arrive s0.close) (some (0,14)) (br (ltI arrive s0.open_) (some (s0.open_,0)) (some (arrive,0)))
noncomputable def QjX (s0:Qar) (arrive:Int):Option (Int×Int):=bnd (QoB s0 arrive) fun r=>br (neI r.2 0) (some (0,r.2)) (some ((addK .i64 r.1 s0.service),0))
noncomputable def Qsi (a:List Int) (b:List Int) (l:List Int) (i:Int):Option ((List Int×Int)⊕(List Int)):=br (ltI i (lenI a)) (bnd (getI a i) fun x0=>bnd (getI b i) fun x1=>chk (okN (l++[(addK .i64 x0 x1)]).length 8) (some (.inl ((l++[(addK .i64 x0 x1)]),(addK .i64 i 1))))) (some (.inr l))
noncomputable def Quz (a:List Int) (b:List Int):Option (List Int×Int):=br (neI (lenI a) (lenI b)) (some ([],2)) (bnd (QaK (fun s=>Qsi a b s.1 s.2) ([],0)) (fun l1=>some (l1,0)))
noncomputable def Qsj (a:List Int) (b:List Int) (l:List Int) (i:Int):Option ((List Int×Int)⊕(List Int)):=br (ltI i (lenI a)) (bnd (getI a i) fun x0=>bnd (getI b i) fun x1=>chk (okN (l++[(subK .i64 x0 x1)]).length 8) (some (.inl ((l++[(subK .i64 x0 x1)]),(addK .i64 i 1))))) (some (.inr l))
noncomputable def QuA (a:List Int) (b:List Int):Option (List Int×Int):=br (neI (lenI a) (lenI b)) (some ([],2)) (bnd (QaK (fun s=>Qsj a b s.1 s.2) ([],0)) (fun l1=>some (l1,0)))
noncomputable def Qhh (x0:Qab) (l:Qaq) (v:Qaa) (r1:Qar×Int) (r2:Int×Int×Int) (r3:Int×Int) (load:List Int) (r7:Int) (open_:Int):Option (List Qaq):=bnd (QnR x0 (Qaq.mk l.type_ (l.visits++[v]) r1.1.place r3.1 (subK .i64 (addK .i64 l.driven r2.1) l.time) (addK .i64 l.miles r2.2.1) load (orK .i64 l.done r7) open_)) fun r10=>some r10
noncomputable def Qlq (x0:Qab) (l:Qaq) (v:Qaa) (x1:Qag) (x2:Qaf) (r1:Qar×Int) (r2:Int×Int×Int) (r3:Int×Int) (load:List Int) (g:Int):Option (List Qaq):=br (neI g 0) (some []) (bnd (QeP load x1.cap) fun r6=>br r6 (bnd (QhH v.order) fun r7=>chk (okN l.visits.length 16) (chk (okN (l.visits++[v]).length 16) (br v.drop (bnd (QhH v.order) fun r8=>Qhh x0 l v r1 r2 r3 load r7 (subK .i64 l.open_ r8)) (br (geI x2.drop.place 0) (bnd (QhH v.order) fun r9=>Qhh x0 l v r1 r2 r3 load r7 (orK .i64 l.open_ r9)) (Qhh x0 l v r1 r2 r3 load r7 l.open_))))) (some []))
noncomputable def Qsm (x0:Qab) (l:Qaq) (v:Qaa):Option (List Qaq):=bnd (QtV x0 l v) fun r=>br r (bnd (getI x0.types l.type_) fun x1=>bnd (getI x0.orders v.order) fun x2=>bnd (QpR x0.orders v) fun r1=>bnd (Qey x0.net x1.profile l.place r1.1.place l.time) fun r2=>br ((neI r2.2.2 0)||(gtI (subK .i64 (addK .i64 l.driven r2.1) l.time) x1.drive)) (some []) (bnd (QjX r1.1 r2.1) fun r3=>br (neI r3.2 0) (some []) (bnd (Quz l.load x2.load) fun r4=>br v.drop (bnd (QuA l.load x2.load) fun r5=>Qlq x0 l v x1 x2 r1 r2 r3 r5.1 r5.2) (Qlq x0 l v x1 x2 r1 r2 r3 r4.1 r4.2)))) (some [])
noncomputable def Qdr (x0:Qab) (v:Qaa):Option (Qar×Bool):=br ((ltI v.order 0)||(geI v.order (lenI x0.orders))) (some ((Qar.mk 0 0 0 0),false)) (bnd (getI x0.orders v.order) fun x1=>br v.drop (some (x1.drop,(geI x1.drop.place 0))) (some (x1.pick,(geI x1.pick.place 0))))
noncomputable def Qbt (x0:Qab) (r:Qam) (i:Int):Option ((Int)⊕((Unit)⊕(Bool))):=br (ltI i (lenI r.visits)) (bnd (getI r.visits i) fun x1=>bnd (Qdr x0 x1) fun r1=>br r1.2 (some (.inl (addK .i64 i 1))) (some (.inr (.inr false)))) (some (.inr (.inl ())))
noncomputable def QcB (x0:Qab) (r:Qam):Option Bool:=br (((((ltI r.type_ 0)||(geI r.type_ (lenI x0.types)))||(ltI r.start 0))||(gtI r.start 4096))||(gtI (lenI r.visits) 20)) (some false) (bnd (QaK (fun s=>Qbt x0 r s) 0) (fun e=>sel e (fun (_:Unit)=>some true) (fun r2=>some r2)))
noncomputable def QfV (t:Qag) (s0:Qav) (yes:Bool):Option Qav:=br yes (some (Qav.mk s0.place (addK .i64 s0.time t.rest_) 0 s0.miles)) (some s0)
noncomputable def QkL (x0:Qab) (profile:Int) (from_:Int) (to_:Int) (t:Int):Option (Int×Int×Bool):=bnd (Qey x0.net profile from_ to_ t) fun r=>some (r.1,r.2.1,(eqI r.2.2 0))
noncomputable def QcV (x0:Qab) (t:Qag) (s0:Qav) (to_:Int) (close:Int) (late:Int):Option (Qav×Int):=bnd (QkL x0 t.profile s0.place to_ s0.time) fun r=>br r.2.2 (br (gtI r.1 close) (some (s0,late)) (br (gtI (subK .i64 (addK .i64 s0.driven r.1) s0.time) t.drive) (some (s0,16)) (some ((Qav.mk to_ r.1 (subK .i64 (addK .i64 s0.driven r.1) s0.time) (addK .i64 s0.miles r.2.1)),0)))) (some (s0,12))
noncomputable def Qes (x0:Qab) (r:Qam) (rests:List Bool) (x1:Qag) (x2:Bool) (l:List Int) (l1:List QaF) (x3:Qav) (depart:Int) (i:Int):Option ((List Int×List QaF×Qav×Int×Int)⊕((List Int×List QaF×Qav×Int)⊕(Qap×List Int×Int))):=br (ltI i (lenI r.visits)) (bnd (getI r.visits i) fun x4=>bnd (Qdr x0 x4) fun r3=>bnd (QcV x0 x1 x3 r3.1.place r3.1.close 14) fun r4=>br (neI r4.2 0) (some (.inr (.inr ((Qap.mk false 0 [] 0 0),[],r4.2)))) (chk (okN (l++[r4.1.driven]).length 8) (bnd (getI rests (addK .i64 i 1)) fun x5=>bnd (QfV x1 (Qav.mk r4.1.place (addK .i64 (maxI r4.1.time r3.1.open_) r3.1.service) r4.1.driven r4.1.miles) x5) fun r5=>chk (okN (l1++[(QaF.mk r4.1.time (maxI r4.1.time r3.1.open_) r5.time x5)]).length 32) (some (.inl ((l++[r4.1.driven]),(l1++[(QaF.mk r4.1.time (maxI r4.1.time r3.1.open_) r5.time x5)]),r5,depart,(addK .i64 i 1))))))) (some (.inr (.inl (l,l1,x3,depart))))
noncomputable def QgH (x0:Qab) (r:Qam) (rests:List Bool):Option (Qap×List Int×Int):=bnd (QcB x0 r) fun r1=>br ((!r1)||(neI (lenI rests) (addK .i64 (lenI r.visits) 1))) (some ((Qap.mk false 0 [] 0 0),[],2)) (bnd (getI x0.types r.type_) fun x1=>bnd (getI rests 0) fun x2=>bnd (QfV x1 (Qav.mk x1.from_ (maxI x1.open_ r.start) 0 0) x2) fun r2=>bnd (QaK (fun s=>Qes x0 r rests x1 x2 s.1 s.2.1 s.2.2.1 s.2.2.2.1 s.2.2.2.2) ([],[],r2,r2.time,0)) (fun e=>sel e (fun e0=>(fun l2 l3 x6 depart1=>bnd (QcV x0 x1 x6 x1.to_ x1.close 15) fun r6=>br (neI r6.2 0) (some ((Qap.mk false 0 [] 0 0),[],r6.2)) (chk (okN (l2++[r6.1.driven]).length 8) (some ((Qap.mk x2 depart1 l3 r6.1.time r6.1.miles),(l2++[r6.1.driven]),0)))) e0.1 e0.2.1 e0.2.2.1 e0.2.2.2) (fun r7=>some r7)))
noncomputable def Qd1 (x0:Qab) (r:Qam) (rests:List Bool):Option (Qap×Int):=bnd (QgH x0 r rests) fun r1=>some (r1.1,r1.2.2)
noncomputable def Qd9 (set_1:Int) (n:Int):Option ((Int×Int)⊕(Int)):=br (gtI set_1 0) (some (.inl ((quoK .i64 set_1 2),(addK .i64 n (remK set_1 2))))) (some (.inr n))
noncomputable def QgZ (set_:Int):Option Int:=bnd (QaK (fun s=>Qd9 s.1 s.2) (set_,0)) (fun n1=>some n1)
noncomputable def Qb8 (set_:Int) (i:Int):Option Bool:=br (((geI set_ 0)&&(geI i 0))&&(leI i 62)) (chk ((0:Int)≤(cvK .u64 i)) (some (eqI (remK (shrK .i64 set_ (cvK .u64 i)) 2) 1))) (some false)
noncomputable def Qb7 (x0:Qab) (set_:Int) (i:Int):Option ((Int)⊕((Unit)⊕(Bool))):=br (ltI i (lenI x0.apart)) (bnd (getI x0.apart i) fun x1=>bnd (Qb8 set_ x1.x0) fun r=>br r (bnd (Qb8 set_ x1.x1) fun r1=>br r1 (some (.inr (.inr false))) (some (.inl (addK .i64 i 1)))) (some (.inl (addK .i64 i 1)))) (some (.inr (.inl ())))
noncomputable def QcD (x0:Qab) (set_:Int):Option Bool:=bnd (QaK (fun s=>Qb7 x0 set_ s) 0) (fun e=>sel e (fun (_:Unit)=>some true) (fun r2=>some r2))
noncomputable def Qb6 (l:List Qaa) (v:Qaa) (i:Int):Option ((Int)⊕((Unit)⊕(Int))):=br (ltI i (lenI l)) (bnd (getI l i) fun x0=>br (eqI x0.order v.order&&(eqB x0.drop v.drop&&true)) (some (.inr (.inr i))) (some (.inl (addK .i64 i 1)))) (some (.inr (.inl ())))
noncomputable def Qbr (l:List Qaa) (v:Qaa):Option Int:=bnd (QaK (fun s=>Qb6 l v s) 0) (fun e=>sel e (fun (_:Unit)=>some (-1)) (fun r=>some r))
noncomputable def Qbs (l:List Qaa) (some_:List Qaa) (i:Int):Option ((Int)⊕((Unit)⊕(Bool))):=br (ltI i (lenI some_)) (bnd (getI some_ i) fun x0=>bnd (Qbr l x0) fun r=>br (ltI r 0) (some (.inr (.inr false))) (some (.inl (addK .i64 i 1)))) (some (.inr (.inl ())))
noncomputable def QcA (l:List Qaa) (some_:List Qaa):Option Bool:=bnd (QaK (fun s=>Qbs l some_ s) 0) (fun e=>sel e (fun (_:Unit)=>some true) (fun r1=>some r1))
noncomputable def Qdj (x0:Qab) (order:Int) (l:List Qaa):Option (List Qaa):=bnd (getI x0.orders order) fun x2=>br (neI x2.drop.place (-1)) (chk (okN (l++[(Qaa.mk order true)]).length 16) (some (l++[(Qaa.mk order true)]))) (some l)
noncomputable def Qcj (x0:Qab) (order:Int):Option (List Qaa):=bnd (getI x0.orders order) fun x1=>br (neI x1.pick.place (-1)) (chk (okN [(Qaa.mk order false)].length 16) (Qdj x0 order [(Qaa.mk order false)])) (Qdj x0 order [])
noncomputable def Qb9 (x0:Qab) (order:Int) (l:List Qaa) (i:Int):Option ((Int)⊕((Unit)⊕(Bool))):=br (ltI i (lenI x0.before)) (bnd (getI x0.before i) fun x1=>br (eqI x1.x1 order) (br ((ltI x1.x0 0)||(geI x1.x0 (lenI x0.orders))) (some (.inr (.inr false))) (bnd (Qcj x0 x1.x0) fun r=>bnd (QcA l r) fun r1=>br r1 (some (.inl (addK .i64 i 1))) (some (.inr (.inr false))))) (some (.inl (addK .i64 i 1)))) (some (.inr (.inl ())))
noncomputable def Qfa (x0:Qab) (order:Int) (l:List Qaa):Option Bool:=bnd (QaK (fun s=>Qb9 x0 order l s) 0) (fun e=>sel e (fun (_:Unit)=>some true) (fun r2=>some r2))
noncomputable def Qgp (x0:Qab) (set_:Int) (l:List Qaa) (l1:List Qaa) (again1:Bool) (i:Int):Option ((List Qaa×Bool×Int)⊕(List Qaa×Bool)):=br (ltI i (lenI x0.orders)) (bnd (Qb8 set_ i) fun r1=>br r1 (bnd (getI x0.orders i) fun x1=>br x1.off (some (.inl (l1,again1,(addK .i64 i 1)))) (bnd (Qcj x0 i) fun r2=>bnd (QcA l1 r2) fun r3=>br r3 (some (.inl (l1,again1,(addK .i64 i 1)))) (bnd (Qfa x0 i l1) fun r4=>br r4 (bnd (Qcj x0 i) fun r5=>chk (okN (l1++r5).length 16) (some (.inl ((l1++r5),true,(addK .i64 i 1))))) (some (.inl (l1,again1,(addK .i64 i 1))))))) (some (.inl (l1,again1,(addK .i64 i 1))))) (some (.inr (l1,again1)))
noncomputable def QeF (x0:Qab) (set_:Int) (l:List Qaa) (again:Bool):Option ((List Qaa×Bool)⊕(List Qaa)):=br again (bnd (QaK (fun s=>Qgp x0 set_ l s.1 s.2.1 s.2.2) (l,false,0)) (fun e0=>(fun l2 again2=>some (.inl (l2,again2))) e0.1 e0.2)) (some (.inr l))
noncomputable def QcR (x0:Qab) (set_:Int) (l3:List Qaa) (i1:Int):Option ((Int)⊕((Unit)⊕(Bool))):=br (ltI i1 (lenI x0.orders)) (bnd (Qb8 set_ i1) fun r6=>br r6 (bnd (getI x0.orders i1) fun x2=>br x2.off (some (.inr (.inr false))) (bnd (Qcj x0 i1) fun r7=>bnd (QcA l3 r7) fun r8=>br r8 (some (.inl (addK .i64 i1 1))) (some (.inr (.inr false))))) (some (.inl (addK .i64 i1 1)))) (some (.inr (.inl ())))
noncomputable def QhT (x0:Qab) (set_:Int):Option Bool:=br (eqI set_ 0) (some false) (bnd (QcD x0 set_) fun r=>br r (bnd (QaK (fun s=>QeF x0 set_ s.1 s.2) ([],true)) (fun l3=>bnd (QaK (fun s=>QcR x0 set_ l3 s) 0) (fun e=>sel e (fun (_:Unit)=>some true) (fun r9=>some r9)))) (some false))
noncomputable def Qcr (x0:Qab) (set_:Int) (l:List Qaa) (i:Int) (r2:List Qaa) (l2:List Qaa) (k:Int):Option ((List Qaa×Int)⊕(List Qaa)):=br (ltI k (lenI r2)) (bnd (getI r2 k) fun x2=>bnd (Qbr l x2) fun r3=>br (ltI r3 0) (br (eqI k 0) (chk (okN (l2++[x2]).length 16) (some (.inl ((l2++[x2]),(addK .i64 k 1))))) (bnd (getI r2 0) fun x3=>bnd (Qbr l x3) fun r4=>br (geI r4 0) (chk (okN (l2++[x2]).length 16) (some (.inl ((l2++[x2]),(addK .i64 k 1))))) (some (.inl (l2,(addK .i64 k 1)))))) (some (.inl (l2,(addK .i64 k 1))))) (some (.inr l2))
noncomputable def QbY (x0:Qab) (set_:Int) (l:List Qaa) (l1:List Qaa) (i:Int):Option ((List Qaa×Int)⊕(List Qaa)):=br (ltI i (lenI x0.orders)) (bnd (Qb8 set_ i) fun r=>br r (bnd (getI x0.orders i) fun x1=>br x1.off (some (.inl (l1,(addK .i64 i 1)))) (bnd (Qfa x0 i l) fun r1=>br r1 (bnd (Qcj x0 i) fun r2=>bnd (QaK (fun s=>Qcr x0 set_ l i r2 s.1 s.2) (l1,0)) (fun l3=>some (.inl (l3,(addK .i64 i 1))))) (some (.inl (l1,(addK .i64 i 1)))))) (some (.inl (l1,(addK .i64 i 1))))) (some (.inr l1))
noncomputable def QeS (x0:Qab) (set_:Int) (l:List Qaa):Option (List Qaa):=bnd (QaK (fun s=>QbY x0 set_ l s.1 s.2) ([],0)) (fun l4=>some l4)
noncomputable def Qbx (self:Qab→Int→(List Qaa)→(List (List Qaa))→Option (List (List Qaa))) (x0:Qab) (set_:Int) (l:List Qaa) (r:List Qaa) (l1:List (List Qaa)) (i:Int):Option ((List (List Qaa)×Int)⊕(List (List Qaa))):=br (ltI i (lenI r)) (chk (okN l.length 16) (bnd (getI r i) fun x1=>chk (okN (l++[x1]).length 16) (bnd (self x0 set_ (l++[x1]) l1) fun r1=>some (.inl (r1,(addK .i64 i 1)))))) (some (.inr l1))
noncomputable def QcQ (self:Qab→Int→(List Qaa)→(List (List Qaa))→Option (List (List Qaa))) (x0:Qab) (set_:Int) (l:List Qaa) (out:List (List Qaa)):Option (List (List Qaa)):=br (gtI (lenI out) 8192) (some out) (bnd (QeS x0 set_ l) fun r=>br (eqI (lenI r) 0) (chk (okN (out++[l]).length 24) (some (out++[l]))) (bnd (QaK (fun s=>Qbx self x0 set_ l r s.1 s.2) (out,0)) (fun l2=>some l2)))
noncomputable def Qa8:Nat→Qab→Int→(List Qaa)→(List (List Qaa))→Option (List (List Qaa))|0=>fun _ _ _ _=>none|fuel_+1=>fun x0 set_ l out=>QcQ (Qa8 fuel_) x0 set_ l out
noncomputable def Qiq (x0:Qab) (set_:Int) (l:List Qaa) (out:List (List Qaa)):Option (List (List Qaa)):=Qa8 Qmy x0 set_ l out
noncomputable def Qbg (x0:Qab) (set_:Int) (l:List Qaa) (r:List Qaa) (l1:List (List Qaa)) (i:Int):Option ((List (List Qaa)×Int)⊕(List (List Qaa))):=br (ltI i (lenI r)) (chk (okN l.length 16) (bnd (getI r i) fun x1=>chk (okN (l++[x1]).length 16) (bnd (Qiq x0 set_ (l++[x1]) l1) fun r1=>some (.inl (r1,(addK .i64 i 1)))))) (some (.inr l1))
noncomputable def QfA (x0:Qab) (set_:Int) (l:List Qaa):Option (List (List Qaa)):=br (gtI 0 8192) (some []) (bnd (QeS x0 set_ l) fun r=>br (eqI (lenI r) 0) (chk (okN [l].length 24) (some [l])) (bnd (QaK (fun s=>Qbg x0 set_ l r s.1 s.2) ([],0)) (fun l2=>some l2)))
noncomputable def QdU (x0:Qab) (set_:Int) (i:Int):Option ((Int)⊕((Unit)⊕(List (List Qaa)×Int))):=br (leI i 62) (bnd (Qb8 set_ i) fun r=>br (r&&(geI i (lenI x0.orders))) (some (.inr (.inr ([],2)))) (some (.inl (addK .i64 i 1)))) (some (.inr (.inl ())))
noncomputable def QgF (x0:Qab) (set_:Int):Option (List (List Qaa)×Int):=br (ltI set_ 0) (some ([],2)) (bnd (QaK (fun s=>QdU x0 set_ s) 0) (fun e=>sel e (fun (_:Unit)=>bnd (QhT x0 set_) fun r1=>br r1 (bnd (QfA x0 set_ []) fun r2=>br (gtI (lenI r2) 8192) (some ([],4)) (some (r2,0))) (some ([],0))) (fun r3=>some r3)))
noncomputable def QqI (x0:Qab) (visits:List Qaa) (cur:List Qaq) (i:Int) (l:List Qaq) (k:Int):Option ((List Qaq×Int)⊕(List Qaq)):=br (ltI k (lenI cur)) (bnd (getI cur k) fun x1=>bnd (getI visits i) fun x2=>bnd (Qsm x0 x1 x2) fun r1=>chk (okN (l++r1).length 104) (some (.inl ((l++r1),(addK .i64 k 1))))) (some (.inr l))
noncomputable def QqH (x0:Qab) (visits:List Qaa) (cur:List Qaq) (i:Int):Option ((List Qaq×Int)⊕(List Qaq)):=br (ltI i (lenI visits)) (bnd (QaK (fun s=>QqI x0 visits cur i s.1 s.2) ([],0)) (fun l1=>some (.inl (l1,(addK .i64 i 1))))) (some (.inr cur))
noncomputable def Qtg (x0:Qab) (kind:Int) (set_:Int) (visits:List Qaa):Option (List Qaq):=bnd (Qtf x0 kind set_) fun r=>bnd (QaK (fun s=>QqH x0 visits s.1 s.2) (r,0)) (fun cur1=>some cur1)
noncomputable def Qrv (x0:Qab) (kind:Int) (set_:Int) (r:List (List Qaa)×Int) (l:List Qaq) (i:Int) (r1:List Qaq) (l1:List Qaq) (k:Int):Option ((List Qaq×Int)⊕(List Qaq)):=br (ltI k (lenI r1)) (bnd (getI r1 k) fun x2=>bnd (Qlp x0 x2) fun r2=>br r2.2.2 (chk (okN (l1++[x2]).length 104) (some (.inl ((l1++[x2]),(addK .i64 k 1))))) (some (.inl (l1,(addK .i64 k 1))))) (some (.inr l1))
noncomputable def Qru (x0:Qab) (kind:Int) (set_:Int) (r:List (List Qaa)×Int) (l:List Qaq) (i:Int):Option ((List Qaq×Int)⊕(List Qaq)):=br (ltI i (lenI r.1)) (bnd (getI r.1 i) fun x1=>bnd (Qtg x0 kind set_ x1) fun r1=>bnd (QaK (fun s=>Qrv x0 kind set_ r l i r1 s.1 s.2) (l,0)) (fun l2=>some (.inl (l2,(addK .i64 i 1))))) (some (.inr l))
noncomputable def Qrx (l3:List Qaq) (l4:List Qaq) (i1:Int) (good:Bool) (k1:Int):Option ((Bool×Int)⊕(Bool)):=br ((ltI k1 (lenI l3))&&good) (br (eqI k1 i1) (some (.inl (true,(addK .i64 k1 1)))) (bnd (getI l3 k1) fun x3=>bnd (getI l3 i1) fun x4=>bnd (Qej x3 x4) fun r3=>br r3 (br (gtI k1 i1) (bnd (Qej x4 x3) fun r4=>some (.inl (r4,(addK .i64 k1 1)))) (some (.inl (false,(addK .i64 k1 1))))) (some (.inl (true,(addK .i64 k1 1)))))) (some (.inr good))
noncomputable def Qrw (l3:List Qaq) (l4:List Qaq) (i1:Int):Option ((List Qaq×Int)⊕(List Qaq)):=br (ltI i1 (lenI l3)) (bnd (QaK (fun s=>Qrx l3 l4 i1 s.1 s.2) (true,0)) (fun QFc=>br QFc (bnd (getI l3 i1) fun x5=>chk (okN (l4++[x5]).length 104) (some (.inl ((l4++[x5]),(addK .i64 i1 1))))) (some (.inl (l4,(addK .i64 i1 1)))))) (some (.inr l4))
noncomputable def Qmj (x0:Qab) (kind:Int) (set_:Int):Option (List Qaq×Int):=br ((ltI kind 0)||(geI kind (lenI x0.types))) (some ([],2)) (bnd (QgF x0 set_) fun r=>br (neI r.2 0) (some ([],r.2)) (bnd (QaK (fun s=>Qru x0 kind set_ r s.1 s.2) ([],0)) (fun l3=>bnd (QaK (fun s=>Qrw l3 s.1 s.2) ([],0)) (fun l5=>some (l5,0)))))
noncomputable def Qby (x0:Qab) (set_:Int) (left:Int) (i:Int):Option ((Int×Int)⊕(Int)):=br ((ltI i (lenI x0.orders))&&(ltI i 63)) (some (.inl ((quoK .i64 left 2),(addK .i64 i 1)))) (some (.inr left))
noncomputable def QfQ (x0:Qab) (set_:Int):Option Bool:=bnd (QaK (fun s=>Qby x0 set_ s.1 s.2) (set_,0)) (fun left1=>some ((gtI set_ 0)&&(eqI left1 0)))
noncomputable def Qdi (r:Qam) (set_:Int) (i:Int):Option ((Int×Int)⊕((Int)⊕(Int×Int))):=br (ltI i (lenI r.visits)) (bnd (getI r.visits i) fun x0=>br ((ltI x0.order 0)||(gtI x0.order 62)) (some (.inr (.inr (0,2)))) (bnd (Qb8 set_ x0.order) fun r1=>br r1 (some (.inl (set_,(addK .i64 i 1)))) (chk ((0:Int)≤(cvK .u64 x0.order)) (some (.inl ((addK .i64 set_ (shlK .i64 1 (cvK .u64 x0.order))),(addK .i64 i 1))))))) (some (.inr (.inl set_)))
noncomputable def QcH (r:Qam):Option (Int×Int):=bnd (QaK (fun s=>Qdi r s.1 s.2) (0,0)) (fun e=>sel e (fun set_1=>some (set_1,0)) (fun r2=>some r2))
noncomputable def QbT (x0:Qab) (l:List Qaa) (i:Int):Option ((Int)⊕((Unit)⊕(Bool))):=br (ltI i (lenI l)) (bnd (getI l i) fun x1=>bnd (Qcj x0 x1.order) fun r=>bnd (Qbr r x1) fun r1=>br (ltI r1 0) (some (.inr (.inr false))) (bnd (QcA l r) fun r2=>br r2 (br (eqI (lenI r) 2) (bnd (getI r 0) fun x2=>bnd (Qbr l x2) fun r3=>bnd (getI r 1) fun x3=>bnd (Qbr l x3) fun r4=>br (gtI r3 r4) (some (.inr (.inr false))) (some (.inl (addK .i64 i 1)))) (some (.inl (addK .i64 i 1)))) (some (.inr (.inr false))))) (some (.inr (.inl ())))
noncomputable def Qda (x0:Qab) (l:List Qaa):Option Bool:=bnd (QaK (fun s=>QbT x0 l s) 0) (fun e=>sel e (fun (_:Unit)=>some true) (fun r5=>some r5))
noncomputable def QbS (x0:Qab) (set_:Int) (l:List Qaa) (i:Int) (x1:Qau) (j:Int) (k:Int):Option ((Int)⊕((Unit)⊕(Bool))):=br (ltI k j) (bnd (getI l j) fun x2=>br (eqI x2.order x1.x0) (bnd (getI l k) fun x3=>br (eqI x3.order x1.x1) (some (.inr (.inr false))) (some (.inl (addK .i64 k 1)))) (some (.inl (addK .i64 k 1)))) (some (.inr (.inl ())))
noncomputable def QbR (x0:Qab) (set_:Int) (l:List Qaa) (i:Int) (x1:Qau) (j:Int):Option ((Int)⊕((Unit)⊕(Bool))):=br (ltI j (lenI l)) (bnd (QaK (fun s=>QbS x0 set_ l i x1 j s) 0) (fun e=>sel e (fun (_:Unit)=>some (.inl (addK .i64 j 1))) (fun r2=>some (.inr (.inr r2))))) (some (.inr (.inl ())))
noncomputable def QbQ (x0:Qab) (set_:Int) (l:List Qaa) (i:Int):Option ((Int)⊕((Unit)⊕(Bool))):=br (ltI i (lenI x0.before)) (bnd (getI x0.before i) fun x1=>bnd (Qb8 set_ x1.x1) fun r=>br r (bnd (Qb8 set_ x1.x0) fun r1=>br r1 (bnd (QaK (fun s=>QbR x0 set_ l i x1 s) 0) (fun e=>sel e (fun (_:Unit)=>some (.inl (addK .i64 i 1))) (fun r3=>some (.inr (.inr r3))))) (some (.inr (.inr false)))) (some (.inl (addK .i64 i 1)))) (some (.inr (.inl ())))
noncomputable def Qc9 (x0:Qab) (set_:Int) (l:List Qaa):Option Bool:=bnd (QaK (fun s=>QbQ x0 set_ l s) 0) (fun e=>sel e (fun (_:Unit)=>some true) (fun r4=>some r4))
noncomputable def Qb5 (x0:Qab) (r:Qam) (i:Int):Option ((Int)⊕((Unit)⊕(Int))):=br (ltI i (lenI r.visits)) (bnd (getI r.visits i) fun x1=>br (ltI x1.order 0) (some (.inr (.inr 2))) (br (geI x1.order (lenI x0.orders)) (some (.inr (.inr 2))) (some (.inl (addK .i64 i 1))))) (some (.inr (.inl ())))
noncomputable def QbG (x0:Qab) (r:Qam) (r1:Int×Int) (i1:Int):Option ((Int)⊕((Unit)⊕(Int))):=br (ltI i1 (lenI r.visits)) (bnd (getI r.visits i1) fun x2=>bnd (getI x0.orders x2.order) fun x3=>br x3.off (some (.inr (.inr 9))) (some (.inl (addK .i64 i1 1)))) (some (.inr (.inl ())))
noncomputable def Qbq (x0:Qab) (r:Qam) (r1:Int×Int) (i2:Int):Option ((Int)⊕((Unit)⊕(Int))):=br (ltI i2 (lenI r.visits)) (bnd (getI r.visits i2) fun x4=>bnd (Qbr r.visits x4) fun r2=>br (neI r2 i2) (some (.inr (.inr 6))) (some (.inl (addK .i64 i2 1)))) (some (.inr (.inl ())))
noncomputable def Qe9 (x0:Qab) (r:Qam):Option Int:=bnd (QaK (fun s=>Qb5 x0 r s) 0) (fun e=>sel e (fun (_:Unit)=>bnd (QcH r) fun r1=>br ((neI r1.2 0)||(eqI (lenI r.visits) 0)) (some 2) (bnd (QaK (fun s=>QbG x0 r r1 s) 0) (fun e=>sel e (fun (_:Unit)=>bnd (QaK (fun s=>Qbq x0 r r1 s) 0) (fun e=>sel e (fun (_:Unit)=>bnd (Qda x0 r.visits) fun r3=>br r3 (bnd (QcD x0 r1.1) fun r4=>br r4 (bnd (Qc9 x0 r1.1 r.visits) fun r5=>br r5 (some 0) (some 21)) (some 20)) (some 19)) (fun r6=>some r6))) (fun r7=>some r7)))) (fun r8=>some r8))
noncomputable def QfT (x0:Qab):Option Int:=br (eqI (lenI x0.types) 0) (some 0) (bnd (getI x0.types 0) fun x1=>some (lenI x1.cap))
noncomputable def QbJ (x0:Qab) (l:List Qaa) (n:Int) (l1:List (List Int)) (i:Int) (on_:Bool) (there:Bool) (k:Int):Option ((Bool×Bool×Int)⊕(Bool×Bool)):=br (ltI k (lenI l)) (bnd (getI l k) fun x2=>br (neI x2.order i) (some (.inl (on_,there,(addK .i64 k 1)))) (br (ltI k n) (some (.inl ((!x2.drop),true,(addK .i64 k 1)))) (some (.inl (on_,true,(addK .i64 k 1)))))) (some (.inr (on_,there)))
noncomputable def QbI (x0:Qab) (l:List Qaa) (n:Int) (l1:List (List Int)) (i:Int):Option ((List (List Int)×Int)⊕(List (List Int))):=br (ltI i (lenI x0.orders)) (bnd (getI x0.orders i) fun x1=>bnd (QaK (fun s=>QbJ x0 l n l1 i s.1 s.2.1 s.2.2) ((ltI x1.pick.place 0),false,0)) (fun e0=>(fun on_1 there1=>br (on_1&&there1) (bnd (getI x0.orders i) fun x3=>chk (okN (l1++[x3.load]).length 24) (some (.inl ((l1++[x3.load]),(addK .i64 i 1))))) (some (.inl (l1,(addK .i64 i 1))))) e0.1 e0.2)) (some (.inr l1))
noncomputable def Qgr (x0:Qab) (l:List Qaa) (n:Int):Option (List Int×Int):=bnd (QaK (fun s=>QbI x0 l n s.1 s.2) ([],0)) (fun l2=>bnd (QfT x0) fun r=>bnd (Qfs l2 r) fun r1=>some (r1.1,r1.2))
noncomputable def QbH (x0:Qab) (r:Qam) (l:List (List Int)) (n:Int):Option ((List (List Int)×Int)⊕((List (List Int))⊕(List (List Int)×Int))):=br (leI n (lenI r.visits)) (bnd (Qgr x0 r.visits n) fun r2=>br (neI r2.2 0) (some (.inr (.inr ([],r2.2)))) (chk (okN (l++[r2.1]).length 24) (some (.inl ((l++[r2.1]),(addK .i64 n 1)))))) (some (.inr (.inl l)))
noncomputable def Qgq (x0:Qab) (r:Qam):Option (List (List Int)×Int):=bnd (Qe9 x0 r) fun r1=>br (neI r1 0) (some ([],r1)) (bnd (QaK (fun s=>QbH x0 r s.1 s.2) ([],0)) (fun e=>sel e (fun l1=>some (l1,0)) (fun r3=>some r3)))
noncomputable def Qcs (x0:Qab) (r:Qam) (r1:List (List Int)×Int) (i:Int):Option ((Int)⊕((Unit)⊕(Int))):=br (ltI i (lenI r1.1)) (bnd (getI r1.1 i) fun x1=>bnd (getI x0.types r.type_) fun x2=>bnd (QeP x1 x2.cap) fun r2=>br r2 (some (.inl (addK .i64 i 1))) (some (.inr (.inr 17)))) (some (.inr (.inl ())))
noncomputable def QfS (x0:Qab) (r:Qam):Option Int:=br ((ltI r.type_ 0)||(geI r.type_ (lenI x0.types))) (some 2) (bnd (Qgq x0 r) fun r1=>br (neI r1.2 0) (some r1.2) (bnd (QaK (fun s=>Qcs x0 r r1 s) 0) (fun e=>sel e (fun (_:Unit)=>some 0) (fun r3=>some r3))))
noncomputable def Qef (n:Int) (l:List Bool) (i:Int):Option ((List Bool×Int)⊕((Unit)⊕(List Bool×Bool))):=br (geI i n) (bnd (getI l i) fun x0=>br x0 (some (.inl ((setI l i false),(subK .i64 i 1)))) (some (.inr (.inr ((setI l i true),true))))) (some (.inr (.inl ())))
noncomputable def QeT (rests:List Bool) (n:Int):Option (List Bool×Bool):=chk (okN rests.length 1) (bnd (QaK (fun s=>Qef n s.1 s.2) (rests,(subK .i64 (lenI rests) 1))) (fun e=>sel e (fun (_:Unit)=>some ([],false)) (fun r=>some r)))
noncomputable def Qfb (x0:Qab) (r:Qam) (l:List Bool) (r2:Qap×Int) (rests:List Bool) (rests1:List Bool) (x2:Qap) (found1:Bool):Option ((List Bool×Qap×List Bool×Bool×Bool)⊕(Qap×Bool)):=bnd (QeT rests1 (lenI rests)) fun r5=>some (.inl (rests,x2,r5.1,found1,r5.2))
noncomputable def Qee (x0:Qab) (r:Qam) (l:List Bool) (r2:Qap×Int) (rests:List Bool) (x1:Qap) (rests1:List Bool) (found:Bool) (more:Bool):Option ((List Bool×Qap×List Bool×Bool×Bool)⊕(Qap×Bool)):=br more (bnd (Qd1 x0 (Qam.mk r.type_ r.start rests r.visits) rests1) fun r4=>br ((eqI r4.2 0)&&((!found)||(ltI r4.1.end_ x1.end_))) (Qfb x0 r l r2 rests rests1 r4.1 true) (Qfb x0 r l r2 rests rests1 x1 found)) (some (.inr (x1,found)))
noncomputable def QfU (x0:Qab) (r:Qam):Option (Qap×Int):=bnd (QcB x0 r) fun r1=>br ((!r1)||(gtI (lenI r.rests) (addK .i64 (lenI r.visits) 1))) (some ((Qap.mk false 0 [] 0 0),2)) (bnd (mkI (addK .i64 (lenI r.visits) 1) (addK .i64 (lenI r.visits) 1) 1 false) fun l=>bnd (Qd1 x0 r (cpyL l r.rests)) fun r2=>bnd (QeT (cpyL l r.rests) (lenI r.rests)) fun r3=>bnd (QaK (fun s=>Qee x0 r l r2 s.1 s.2.1 s.2.2.1 s.2.2.2.1 s.2.2.2.2) (r.rests,r2.1,r3.1,(eqI r2.2 0),r3.2)) (fun e0=>(fun x3 found2=>br found2 (some (x3,0)) (some ((Qap.mk false 0 [] 0 0),r2.2))) e0.1 e0.2))
noncomputable def Qa9 (x0:Qab) (r:Qam) (i:Int):Option ((Int)⊕((Unit)⊕(Qap×Qay×Int))):=br (ltI i (lenI r.visits)) (bnd (getI x0.types r.type_) fun x1=>bnd (getI r.visits i) fun x2=>bnd (getI x0.orders x2.order) fun x3=>bnd (QcU x1 x3.skills) fun r2=>br r2 (some (.inl (addK .i64 i 1))) (some (.inr (.inr ((Qap.mk false 0 [] 0 0),(Qay.mk 0 0 0 0),18))))) (some (.inr (.inl ())))
noncomputable def QdS (x0:Qab) (r:Qam):Option (Qap×Qay×Int):=br ((ltI r.type_ 0)||(geI r.type_ (lenI x0.types))) (some ((Qap.mk false 0 [] 0 0),(Qay.mk 0 0 0 0),2)) (bnd (Qe9 x0 r) fun r1=>br (neI r1 0) (some ((Qap.mk false 0 [] 0 0),(Qay.mk 0 0 0 0),r1)) (bnd (QaK (fun s=>Qa9 x0 r s) 0) (fun e=>sel e (fun (_:Unit)=>bnd (QfS x0 r) fun r3=>br (neI r3 0) (some ((Qap.mk false 0 [] 0 0),(Qay.mk 0 0 0 0),r3)) (bnd (QfU x0 r) fun r4=>br (neI r4.2 0) (some ((Qap.mk false 0 [] 0 0),(Qay.mk 0 0 0 0),r4.2)) (bnd (Qdy x0 r r4.1) fun r5=>some (r4.1,r5,0)))) (fun r6=>some r6))))
noncomputable def Qfd (x0:Qab) (r:Qam):Option Int:=bnd (QdS x0 r) fun r1=>some r1.2.2
noncomputable def Qfc (x0:Qab) (r:Qam):Option (Int×Int):=bnd (QdS x0 r) fun r1=>br (neI r1.2.2 0) (some (0,r1.2.2)) (bnd (QcI r1.2.1) fun r2=>some (r2.1,r2.2))
noncomputable def QhS (a:Qaa) (b:Qaa):Option Bool:=some ((ltI a.order b.order)||(((eqI a.order b.order)&&(!a.drop))&&b.drop))
noncomputable def Qed (a:List Qaa) (b:List Qaa) (i:Int):Option ((Int)⊕((Unit)⊕(Bool))):=br ((ltI i (lenI a))&&(ltI i (lenI b))) (bnd (getI a i) fun x0=>bnd (getI b i) fun x1=>br (eqI x0.order x1.order&&(eqB x0.drop x1.drop&&true)) (some (.inl (addK .i64 i 1))) (bnd (QhS x0 x1) fun r=>some (.inr (.inr r)))) (some (.inr (.inl ())))
noncomputable def Qg5 (a:List Qaa) (b:List Qaa):Option Bool:=bnd (QaK (fun s=>Qed a b s) 0) (fun e=>sel e (fun (_:Unit)=>some (ltI (lenI a) (lenI b))) (fun r1=>some r1))
noncomputable def QfP (a:Qas) (b:Qas):Option Bool:=br (neI a.price b.price) (some (ltI a.price b.price)) (bnd (Qg5 a.route.visits b.route.visits) fun r=>some r)
noncomputable def Qdl (self:Qab→Qas→Bool→(List Qaa)→Option (Qas×Bool)) (x0:Qab) (l:List Qaa) (r:List Qaa) (x1:Qas) (found1:Bool) (i:Int):Option ((Qas×Bool×Int)⊕(Qas×Bool)):=br (ltI i (lenI r)) (chk (okN l.length 16) (bnd (getI r i) fun x2=>chk (okN (l++[x2]).length 16) (bnd (self x0 x1 found1 (l++[x2])) fun r5=>some (.inl (r5.1,r5.2,(addK .i64 i 1)))))) (some (.inr (x1,found1)))
noncomputable def QeJ (self:Qab→Qas→Bool→(List Qaa)→Option (Qas×Bool)) (x0:Qab) (best:Qas) (found:Bool) (l:List Qaa):Option (Qas×Bool):=bnd (QeS x0 best.set_ l) fun r=>br (eqI (lenI r) 0) (bnd (QcH (Qam.mk best.type_ 0 [] l)) fun r1=>br (neI r1.1 best.set_) (some (best,found)) (bnd (Qfd x0 (Qam.mk best.type_ 0 [] l)) fun r2=>br (neI r2 0) (some (best,found)) (bnd (Qfc x0 (Qam.mk best.type_ 0 [] l)) fun r3=>br (neI r3.2 0) (some (best,found)) (br found (bnd (QfP (Qas.mk best.type_ best.set_ r3.1 (Qam.mk best.type_ 0 [] l)) best) fun r4=>br r4 (some ((Qas.mk best.type_ best.set_ r3.1 (Qam.mk best.type_ 0 [] l)),true)) (some (best,found))) (some ((Qas.mk best.type_ best.set_ r3.1 (Qam.mk best.type_ 0 [] l)),true)))))) (bnd (QaK (fun s=>Qdl self x0 l r s.1 s.2.1 s.2.2) (best,found,0)) (fun e0=>(fun x3 found2=>some (x3,found2)) e0.1 e0.2))
noncomputable def QdT:Nat→Qab→Qas→Bool→(List Qaa)→Option (Qas×Bool)|0=>fun _ _ _ _=>none|fuel_+1=>fun x0 best found l=>QeJ (QdT fuel_) x0 best found l
noncomputable def Qj0 (x0:Qab) (best:Qas) (found:Bool) (l:List Qaa):Option (Qas×Bool):=QdT Qmy x0 best found l
noncomputable def QeU (x0:Qab) (kind:Int) (set_:Int):Option (Qas×Int):=br ((ltI kind 0)||(geI kind (lenI x0.types))) (some ((Qas.mk 0 0 0 (Qam.mk 0 0 [] [])),2)) (bnd (QfQ x0 set_) fun r=>br r (bnd (Qj0 x0 (Qas.mk kind set_ 0 (Qam.mk 0 0 [] [])) false []) fun r1=>br r1.2 (some (r1.1,0)) (some ((Qas.mk 0 0 0 (Qam.mk 0 0 [] [])),24))) (some ((Qas.mk 0 0 0 (Qam.mk 0 0 [] [])),2)))
noncomputable def QbZ (x0:Qab) (r4:Qas×Int) (r5:List Qad×Int) (least:Int) (i:Int):Option ((Int×Int)⊕((Int)⊕(Bool))):=br (ltI i (lenI r5.1)) (bnd (getI r5.1 i) fun x1=>bnd (Qiz x0 x1) fun r7=>br r7.2.2 (br ((eqI i 0)||(ltI r7.2.1 least)) (some (.inl (r7.2.1,(addK .i64 i 1)))) (some (.inl (least,(addK .i64 i 1))))) (some (.inr (.inr false)))) (some (.inr (.inl least)))
noncomputable def Qfq (x0:Qab) (kind:Int) (set_:Int):Option Bool:=bnd (QhE x0) fun r=>br ((!r)||(leI set_ 0)) (bnd (Qdw) fun r1=>some r1) (bnd (QgZ set_) fun r2=>br (gtI r2 3) (bnd (Qdw) fun r3=>some r3) (bnd (QeU x0 kind set_) fun r4=>bnd (Qhz x0 kind set_) fun r5=>br (eqI r4.2 2) (br (eqI r5.2 2) (bnd (Qdw) fun r6=>some r6) (some false)) (br ((neI r5.2 0)||(!eqB (eqI r4.2 0) (gtI (lenI r5.1) 0))) (some false) (bnd (QaK (fun s=>QbZ x0 r4 r5 s.1 s.2) (0,0)) (fun e=>sel e (fun least1=>br ((neI r4.2 0)||(eqI least1 r4.1.price)) (bnd (Qdw) fun r8=>some r8) (some false)) (fun r9=>some r9))))))
end Go.Proofs.YtfjiafgldchinaaGreatDoor
namespace Go.Proofs.YtfjiafgldchinaaGreatDoor
set_option linter.unusedVariables false
set_option linter.unusedSectionVars false
set_option linter.unusedSimpArgs false
open Go.RowKit
variable {N : Nat}
theorem oq_9:Qmn Tryz.prog N 9 (rdE 1 Qh6 (fun s:ByteArray=>s.size≤N) (fun _=>rfl)):=QGd Tryz.underlying9 (by kernel_rfl)
theorem QGI:Qmn Tryz.prog N 22 (rdE 1 (fun l:List ByteArray=>[.sl false 1 (l.map Qh6)]) (fun l:List (ByteArray)=>l.length≤N∧∀ x∈l,(fun s:ByteArray=>s.size≤N) x) (fun _=>rfl)):=Qp7 Tryz.underlying22 (by kernel_rfl) oq_9 (by decide)
theorem oq_3:Qmn Tryz.prog N 3 (rdE 1 Qax isI (fun _=>rfl)):=QGc Tryz.underlying3 (by kernel_rfl)
def Qai.ok (N:Nat) (x:Qai):Prop:=isI x.t∧isI x.a∧True
theorem QGP:Qmn Tryz.prog N 74 (rdE 2 Qai.enc (Qai.ok N) (fun _=>rfl)):=Qns Tryz.underlying74 (by kernel_rfl) (.cons rfl oq_3 (.cons rfl oq_3 .nil)) rfl (HE.pair HE.rd (HE.pair HE.rd HE.unit)) (fun a=>⟨a.1,a.2.1⟩) (fun _=>rfl) (fun _ h=>h)
theorem QGx:Qmn Tryz.prog N 75 (rdE 1 (fun l:List Qai=>[.sl false 2 (l.map Qai.enc)]) (fun l:List (Qai)=>l.length≤N∧∀ x∈l,(Qai.ok N) x) (fun _=>rfl)):=Qp7 Tryz.underlying75 (by kernel_rfl) QGP (by decide)
def Qao.ok (N:Nat) (x:Qao):Prop:=isI x.from_∧isI x.to_∧isI x.profile∧isI x.miles∧(fun l:List (Qai)=>l.length≤N∧∀ x∈l,(Qai.ok N) x) x.travel∧(fun l:List (Qai)=>l.length≤N∧∀ x∈l,(Qai.ok N) x) x.slow∧True
theorem QGQ:Qmn Tryz.prog N 77 (rdE 6 Qao.enc (Qao.ok N) (fun _=>rfl)):=Qns Tryz.underlying77 (by kernel_rfl) (.cons rfl oq_3 (.cons rfl oq_3 (.cons rfl oq_3 (.cons rfl oq_3 (.cons rfl QGx (.cons rfl QGx .nil)))))) rfl (HE.pair HE.rd (HE.pair HE.rd (HE.pair HE.rd (HE.pair HE.rd (HE.pair HE.rd (HE.pair HE.rd HE.unit)))))) (fun a=>⟨a.1,a.2.1,a.2.2.1,a.2.2.2.1,a.2.2.2.2.1,a.2.2.2.2.2.1⟩) (fun _=>rfl) (fun _ h=>h)
theorem QGJ:Qmn Tryz.prog N 23 (rdE 1 (fun l:List Qao=>[.sl false 6 (l.map Qao.enc)]) (fun l:List (Qao)=>l.length≤N∧∀ x∈l,(Qao.ok N) x) (fun _=>rfl)):=Qp7 Tryz.underlying23 (by kernel_rfl) QGQ (by decide)
def Qak.ok (N:Nat) (x:Qak):Prop:=(fun l:List (ByteArray)=>l.length≤N∧∀ x∈l,(fun s:ByteArray=>s.size≤N) x) x.places∧(fun l:List (Qao)=>l.length≤N∧∀ x∈l,(Qao.ok N) x) x.arcs∧True
theorem QGK:Qmn Tryz.prog N 25 (rdE 2 Qak.enc (Qak.ok N) (fun _=>rfl)):=Qns Tryz.underlying25 (by kernel_rfl) (.cons rfl QGI (.cons rfl QGJ .nil)) rfl (HE.pair HE.rd (HE.pair HE.rd HE.unit)) (fun a=>⟨a.1,a.2.1⟩) (fun _=>rfl) (fun _ h=>h)
theorem QGw:Qmn Tryz.prog N 45 (rdE 1 (fun l:List Int=>[.sl false 1 (l.map Qax)]) (fun l:List (Int)=>l.length≤N∧∀ x∈l,isI x) (fun _=>rfl)):=Qp7 Tryz.underlying45 (by kernel_rfl) oq_3 (by decide)
def Qag.ok (N:Nat) (x:Qag):Prop:=(fun s:ByteArray=>s.size≤N) x.name∧isI x.count∧isI x.from_∧isI x.to_∧(fun l:List (Int)=>l.length≤N∧∀ x∈l,isI x) x.cap∧isI x.skills∧isI x.profile∧isI x.open_∧isI x.close∧isI x.drive∧isI x.rest_∧isI x.fixed∧isI x.perMile∧isI x.perTick∧True
theorem QGR:Qmn Tryz.prog N 79 (rdE 14 Qag.enc (Qag.ok N) (fun _=>rfl)):=Qns Tryz.underlying79 (by kernel_rfl) (.cons rfl oq_9 (.cons rfl oq_3 (.cons rfl oq_3 (.cons rfl oq_3 (.cons rfl QGw (.cons rfl oq_3 (.cons rfl oq_3 (.cons rfl oq_3 (.cons rfl oq_3 (.cons rfl oq_3 (.cons rfl oq_3 (.cons rfl oq_3 (.cons rfl oq_3 (.cons rfl oq_3 .nil)))))))))))))) rfl (HE.pair HE.rd (HE.pair HE.rd (HE.pair HE.rd (HE.pair HE.rd (HE.pair HE.rd (HE.pair HE.rd (HE.pair HE.rd (HE.pair HE.rd (HE.pair HE.rd (HE.pair HE.rd (HE.pair HE.rd (HE.pair HE.rd (HE.pair HE.rd (HE.pair HE.rd HE.unit)))))))))))))) (fun a=>⟨a.1,a.2.1,a.2.2.1,a.2.2.2.1,a.2.2.2.2.1,a.2.2.2.2.2.1,a.2.2.2.2.2.2.1,a.2.2.2.2.2.2.2.1,a.2.2.2.2.2.2.2.2.1,a.2.2.2.2.2.2.2.2.2.1,a.2.2.2.2.2.2.2.2.2.2.1,a.2.2.2.2.2.2.2.2.2.2.2.1,a.2.2.2.2.2.2.2.2.2.2.2.2.1,a.2.2.2.2.2.2.2.2.2.2.2.2.2.1⟩) (fun _=>rfl) (fun _ h=>h)
theorem QGL:Qmn Tryz.prog N 26 (rdE 1 (fun l:List Qag=>[.sl false 14 (l.map Qag.enc)]) (fun l:List (Qag)=>l.length≤N∧∀ x∈l,(Qag.ok N) x) (fun _=>rfl)):=Qp7 Tryz.underlying26 (by kernel_rfl) QGR (by decide)
def Qar.ok (N:Nat) (x:Qar):Prop:=isI x.place∧isI x.open_∧isI x.close∧isI x.service∧True
theorem QGy:Qmn Tryz.prog N 81 (rdE 4 Qar.enc (Qar.ok N) (fun _=>rfl)):=Qns Tryz.underlying81 (by kernel_rfl) (.cons rfl oq_3 (.cons rfl oq_3 (.cons rfl oq_3 (.cons rfl oq_3 .nil)))) rfl (HE.pair HE.rd (HE.pair HE.rd (HE.pair HE.rd (HE.pair HE.rd HE.unit)))) (fun a=>⟨a.1,a.2.1,a.2.2.1,a.2.2.2.1⟩) (fun _=>rfl) (fun _ h=>h)
theorem oq_4:Qmn Tryz.prog N 4 (rdE 1 Qc8 (fun _:Bool=>True) (fun _=>rfl)):=QFk Tryz.underlying4 (by kernel_rfl)
def Qaf.ok (N:Nat) (x:Qaf):Prop:=(fun s:ByteArray=>s.size≤N) x.name∧(fun l:List (Int)=>l.length≤N∧∀ x∈l,isI x) x.load∧(Qar.ok N) x.pick∧(Qar.ok N) x.drop∧isI x.skills∧isI x.penalty∧isI x.split∧isI x.last_∧isI x.now∧(fun _:Bool=>True) x.off∧True
theorem QGS:Qmn Tryz.prog N 83 (rdE 16 Qaf.enc (Qaf.ok N) (fun _=>rfl)):=Qns Tryz.underlying83 (by kernel_rfl) (.cons rfl oq_9 (.cons rfl QGw (.cons rfl QGy (.cons rfl QGy (.cons rfl oq_3 (.cons rfl oq_3 (.cons rfl oq_3 (.cons rfl oq_3 (.cons rfl oq_3 (.cons rfl oq_4 .nil)))))))))) rfl (HE.pair HE.rd (HE.pair HE.rd (HE.pair HE.rd (HE.pair HE.rd (HE.pair HE.rd (HE.pair HE.rd (HE.pair HE.rd (HE.pair HE.rd (HE.pair HE.rd (HE.pair HE.rd HE.unit)))))))))) (fun a=>⟨a.1,a.2.1,a.2.2.1,a.2.2.2.1,a.2.2.2.2.1,a.2.2.2.2.2.1,a.2.2.2.2.2.2.1,a.2.2.2.2.2.2.2.1,a.2.2.2.2.2.2.2.2.1,a.2.2.2.2.2.2.2.2.2.1⟩) (fun _=>rfl) (fun _ h=>h)
theorem QGM:Qmn Tryz.prog N 27 (rdE 1 (fun l:List Qaf=>[.sl false 16 (l.map Qaf.enc)]) (fun l:List (Qaf)=>l.length≤N∧∀ x∈l,(Qaf.ok N) x) (fun _=>rfl)):=Qp7 Tryz.underlying27 (by kernel_rfl) QGS (by decide)
def Qau.ok (N:Nat) (x:Qau):Prop:=isI x.x0∧isI x.x1
theorem QGO:Qmn Tryz.prog N 31 (rdE 2 Qau.enc (Qau.ok N) (fun _=>rfl)):=QB5 Tryz.underlying31 (by kernel_rfl) oq_3 rfl (fun a b=>⟨a,b⟩) (fun _ _=>rfl) (fun _ _ h h2=>⟨h,h2⟩)
theorem QGv:Qmn Tryz.prog N 28 (rdE 1 (fun l:List Qau=>[.sl false 2 (l.map Qau.enc)]) (fun l:List (Qau)=>l.length≤N∧∀ x∈l,(Qau.ok N) x) (fun _=>rfl)):=Qp7 Tryz.underlying28 (by kernel_rfl) QGO (by decide)
def Qab.ok (N:Nat) (x:Qab):Prop:=(Qak.ok N) x.net∧(fun l:List (Qag)=>l.length≤N∧∀ x∈l,(Qag.ok N) x) x.types∧(fun l:List (Qaf)=>l.length≤N∧∀ x∈l,(Qaf.ok N) x) x.orders∧(fun l:List (Qau)=>l.length≤N∧∀ x∈l,(Qau.ok N) x) x.apart∧(fun l:List (Qau)=>l.length≤N∧∀ x∈l,(Qau.ok N) x) x.before∧True
theorem QGN:Qmn Tryz.prog N 30 (rdE 6 Qab.enc (Qab.ok N) (fun _=>rfl)):=Qns Tryz.underlying30 (by kernel_rfl) (.cons rfl QGK (.cons rfl QGL (.cons rfl QGM (.cons rfl QGv (.cons rfl QGv .nil))))) rfl (HE.pair HE.rd (HE.pair HE.rd (HE.pair HE.rd (HE.pair HE.rd (HE.pair HE.rd HE.unit))))) (fun a=>⟨a.1,a.2.1,a.2.2.1,a.2.2.2.1,a.2.2.2.2.1⟩) (fun _=>rfl) (fun _ h=>h)
def Qaa.ok (N:Nat) (x:Qaa):Prop:=isI x.order∧(fun _:Bool=>True) x.drop∧True
def QfI.ok (N:Nat) (x:QfI):Prop:=(fun l:List (Qaa)=>l.length≤N∧∀ x∈l,(Qaa.ok N) x) x.visits∧(fun l:List (Bool)=>l.length≤N∧∀ x∈l,(fun _:Bool=>True) x) x.rests∧True
end Go.Proofs.YtfjiafgldchinaaGreatDoor
