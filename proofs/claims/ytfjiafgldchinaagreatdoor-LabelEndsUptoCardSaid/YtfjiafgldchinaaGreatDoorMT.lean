/- Part MT of the proof: texts Lt Ld Lo. -/
import Derived.Test.YtfjiafgldchinaaGreatDoorMA
import Derived.Test.YtfjiafgldchinaaGreatDoorMC
namespace Go.Proofs.YtfjiafgldchinaaGreatDoor
set_option linter.unusedVariables false
set_option linter.unusedSectionVars false
set_option linter.unusedSimpArgs false
def e_i64 (n:Int):List Lf:=[.int .i64 n]
def e_u8 (n:Int):List Lf:=[.int .u8 n]
def Qyw (b:Bool):List Lf:=[.bool b]
def e_str (s:ByteArray):List Lf:=[.str s]
structure Qab where
  err:Int
  at_:ByteArray
instance:DecidableEq Qab:=fun a b=>decidable_of_iff (a.err=b.err∧a.at_=b.at_) (by cases a; cases b; simp)
structure Qak where
  t:Int
  a:Int
instance:DecidableEq Qak:=fun a b=>decidable_of_iff (a.t=b.t∧a.a=b.a) (by cases a; cases b; simp)
structure Qao where
  from_:Int
  to_:Int
  profile:Int
  miles:Int
  travel:List Qak
  slow:List Qak
instance:DecidableEq Qao:=fun a b=>decidable_of_iff (a.from_=b.from_∧a.to_=b.to_∧a.profile=b.profile∧a.miles=b.miles∧a.travel=b.travel∧a.slow=b.slow) (by cases a; cases b; simp)
structure Qal where
  places:List ByteArray
  arcs:List Qao
instance:DecidableEq Qal:=fun a b=>decidable_of_iff (a.places=b.places∧a.arcs=b.arcs) (by cases a; cases b; simp)
structure Qai where
  name:ByteArray
  count:Int
  from_:Int
  to_:Int
  cap:List Int
  skills:Int
  profile:Int
  open_:Int
  close:Int
  drive:Int
  rest_:Int
  fixed:Int
  perMile:Int
  perTick:Int
instance:DecidableEq Qai:=fun a b=>decidable_of_iff (a.name=b.name∧a.count=b.count∧a.from_=b.from_∧a.to_=b.to_∧a.cap=b.cap∧a.skills=b.skills∧a.profile=b.profile∧a.open_=b.open_∧a.close=b.close∧a.drive=b.drive∧a.rest_=b.rest_∧a.fixed=b.fixed∧a.perMile=b.perMile∧a.perTick=b.perTick) (by cases a; cases b; simp)
structure Qas where
  place:Int
  open_:Int
  close:Int
  service:Int
instance:DecidableEq Qas:=fun a b=>decidable_of_iff (a.place=b.place∧a.open_=b.open_∧a.close=b.close∧a.service=b.service) (by cases a; cases b; simp)
structure Qag where
  name:ByteArray
  load:List Int
  pick:Qas
  drop:Qas
  skills:Int
  penalty:Int
  split:Int
  last_:Int
  now:Int
  off:Bool
instance:DecidableEq Qag:=fun a b=>decidable_of_iff (a.name=b.name∧a.load=b.load∧a.pick=b.pick∧a.drop=b.drop∧a.skills=b.skills∧a.penalty=b.penalty∧a.split=b.split∧a.last_=b.last_∧a.now=b.now∧a.off=b.off) (by cases a; cases b; simp)
structure Qap where
  x0:Int
  x1:Int
instance:DecidableEq Qap:=fun a b=>decidable_of_iff (a.x0=b.x0∧a.x1=b.x1) (by cases a; cases b; simp)
structure Qac where
  net:Qal
  types:List Qai
  orders:List Qag
  apart:List Qap
  before:List Qap
instance:DecidableEq Qac:=fun a b=>decidable_of_iff (a.net=b.net∧a.types=b.types∧a.orders=b.orders∧a.apart=b.apart∧a.before=b.before) (by cases a; cases b; simp)
structure Qaa where
  order:Int
  drop:Bool
instance:DecidableEq Qaa:=fun a b=>decidable_of_iff (a.order=b.order∧a.drop=b.drop) (by cases a; cases b; simp)
structure Qae where
  type_:Int
  visits:List Qaa
  place:Int
  time:Int
  driven:Int
  miles:Int
  load:List Int
  done:Int
  open_:Int
instance:DecidableEq Qae:=fun a b=>decidable_of_iff (a.type_=b.type_∧a.visits=b.visits∧a.place=b.place∧a.time=b.time∧a.driven=b.driven∧a.miles=b.miles∧a.load=b.load∧a.done=b.done∧a.open_=b.open_) (by cases a; cases b; simp)
structure Qhi where
  from_:Int
  to_:Int
  profile:Int
instance:DecidableEq Qhi:=fun a b=>decidable_of_iff (a.from_=b.from_∧a.to_=b.to_∧a.profile=b.profile) (by cases a; cases b; simp)
structure QwF where
  x0:Int
  x1:Int
  x2:Int
  x3:Int
  x4:Int
  x5:Int
  x6:Int
  x7:Int
  x8:Int
  x9:Int
  x10:Int
  x11:Int
  x12:Int
  x13:Int
  x14:Int
  x15:Int
  x16:Int
  x17:Int
  x18:Int
  x19:Int
  x20:Int
  x21:Int
  x22:Int
  x23:Int
instance:DecidableEq QwF:=fun a b=>decidable_of_iff (a.x0=b.x0∧a.x1=b.x1∧a.x2=b.x2∧a.x3=b.x3∧a.x4=b.x4∧a.x5=b.x5∧a.x6=b.x6∧a.x7=b.x7∧a.x8=b.x8∧a.x9=b.x9∧a.x10=b.x10∧a.x11=b.x11∧a.x12=b.x12∧a.x13=b.x13∧a.x14=b.x14∧a.x15=b.x15∧a.x16=b.x16∧a.x17=b.x17∧a.x18=b.x18∧a.x19=b.x19∧a.x20=b.x20∧a.x21=b.x21∧a.x22=b.x22∧a.x23=b.x23) (by cases a; cases b; simp)
structure QaF where
  type_:Int
  start:Int
  rests:List Bool
  visits:List Qaa
instance:DecidableEq QaF:=fun a b=>decidable_of_iff (a.type_=b.type_∧a.start=b.start∧a.rests=b.rests∧a.visits=b.visits) (by cases a; cases b; simp)
structure QfE where
  arrive:Int
  begin:Int
  depart:Int
  rest_:Bool
instance:DecidableEq QfE:=fun a b=>decidable_of_iff (a.arrive=b.arrive∧a.begin=b.begin∧a.depart=b.depart∧a.rest_=b.rest_) (by cases a; cases b; simp)
structure Qa0 where
  rest_:Bool
  depart:Int
  times:List QfE
  end_:Int
  miles:Int
instance:DecidableEq Qa0:=fun a b=>decidable_of_iff (a.rest_=b.rest_∧a.depart=b.depart∧a.times=b.times∧a.end_=b.end_∧a.miles=b.miles) (by cases a; cases b; simp)
structure QaL where
  cost:Int
  moved:Int
  other:Int
  work:Int
instance:DecidableEq QaL:=fun a b=>decidable_of_iff (a.cost=b.cost∧a.moved=b.moved∧a.other=b.other∧a.work=b.work) (by cases a; cases b; simp)
structure Qwf where
  x0:Int
  x1:Int
  x2:Int
  x3:Int
instance:DecidableEq Qwf:=fun a b=>decidable_of_iff (a.x0=b.x0∧a.x1=b.x1∧a.x2=b.x2∧a.x3=b.x3) (by cases a; cases b; simp)
structure Qan where
  items:List Qae
  first_:Int
instance:DecidableEq Qan:=fun a b=>decidable_of_iff (a.items=b.items∧a.first_=b.first_) (by cases a; cases b; simp)
structure Qbs where
  queue:Qan
  x:Qac
instance:DecidableEq Qbs:=fun a b=>decidable_of_iff (a.queue=b.queue∧a.x=b.x) (by cases a; cases b; simp)
structure Qad where
  type_:Int
  visits:List Qaa
  place:Int
  time:Int
  driven:Int
  miles:Int
  load:List Int
  done:Int
  open_:Int
instance:DecidableEq Qad:=fun a b=>decidable_of_iff (a.type_=b.type_∧a.visits=b.visits∧a.place=b.place∧a.time=b.time∧a.driven=b.driven∧a.miles=b.miles∧a.load=b.load∧a.done=b.done∧a.open_=b.open_) (by cases a; cases b; simp)
structure QfF where
  visits:List Qaa
  rests:List Bool
instance:DecidableEq QfF:=fun a b=>decidable_of_iff (a.visits=b.visits∧a.rests=b.rests) (by cases a; cases b; simp)
structure Qit where
  place:Int
  time:Int
  driven:Int
  miles:Int
instance:DecidableEq Qit:=fun a b=>decidable_of_iff (a.place=b.place∧a.time=b.time∧a.driven=b.driven∧a.miles=b.miles) (by cases a; cases b; simp)
structure QpG where
  type_:Int
  set_:Int
  price:Int
  route:QaF
instance:DecidableEq QpG:=fun a b=>decidable_of_iff (a.type_=b.type_∧a.set_=b.set_∧a.price=b.price∧a.route=b.route) (by cases a; cases b; simp)
def Qab.enc (x:Qab):List Lf:=[lI x.err,.str x.at_]
def Qak.enc (x:Qak):List Lf:=[lI x.t,lI x.a]
def Qao.enc (x:Qao):List Lf:=[lI x.from_,lI x.to_,lI x.profile,lI x.miles,lL 2 x.travel Qak.enc,lL 2 x.slow Qak.enc]
def Qal.enc (x:Qal):List Lf:=[lL 1 x.places e_str,lL 6 x.arcs Qao.enc]
def Qai.enc (x:Qai):List Lf:=[.str x.name,lI x.count,lI x.from_,lI x.to_,lL 1 x.cap e_i64,lI x.skills,lI x.profile,lI x.open_,lI x.close,lI x.drive,lI x.rest_,lI x.fixed,lI x.perMile,lI x.perTick]
def Qas.enc (x:Qas):List Lf:=[lI x.place,lI x.open_,lI x.close,lI x.service]
def Qag.enc (x:Qag):List Lf:=[.str x.name,lL 1 x.load e_i64,lI x.pick.place,lI x.pick.open_,lI x.pick.close,lI x.pick.service,lI x.drop.place,lI x.drop.open_,lI x.drop.close,lI x.drop.service,lI x.skills,lI x.penalty,lI x.split,lI x.last_,lI x.now,.bool x.off]
def Qap.enc (x:Qap):List Lf:=[lI x.x0,lI x.x1]
def Qac.enc (x:Qac):List Lf:=[lL 1 x.net.places e_str,lL 6 x.net.arcs Qao.enc,lL 14 x.types Qai.enc,lL 16 x.orders Qag.enc,lL 2 x.apart Qap.enc,lL 2 x.before Qap.enc]
def Qaa.enc (x:Qaa):List Lf:=[lI x.order,.bool x.drop]
def Qae.enc (x:Qae):List Lf:=[lI x.type_,lL 2 x.visits Qaa.enc,lI x.place,lI x.time,lI x.driven,lI x.miles,lL 1 x.load e_i64,lI x.done,lI x.open_]
def Qhi.enc (x:Qhi):List Lf:=[lI x.from_,lI x.to_,lI x.profile]
def QwF.enc (x:QwF):List Lf:=[.int .u8 x.x0,.int .u8 x.x1,.int .u8 x.x2,.int .u8 x.x3,.int .u8 x.x4,.int .u8 x.x5,.int .u8 x.x6,.int .u8 x.x7,.int .u8 x.x8,.int .u8 x.x9,.int .u8 x.x10,.int .u8 x.x11,.int .u8 x.x12,.int .u8 x.x13,.int .u8 x.x14,.int .u8 x.x15,.int .u8 x.x16,.int .u8 x.x17,.int .u8 x.x18,.int .u8 x.x19,.int .u8 x.x20,.int .u8 x.x21,.int .u8 x.x22,.int .u8 x.x23]
def QaF.enc (x:QaF):List Lf:=[lI x.type_,lI x.start,lL 1 x.rests Qyw,lL 2 x.visits Qaa.enc]
def QfE.enc (x:QfE):List Lf:=[lI x.arrive,lI x.begin,lI x.depart,.bool x.rest_]
def Qa0.enc (x:Qa0):List Lf:=[.bool x.rest_,lI x.depart,lL 4 x.times QfE.enc,lI x.end_,lI x.miles]
def QaL.enc (x:QaL):List Lf:=[lI x.cost,lI x.moved,lI x.other,lI x.work]
def Qwf.enc (x:Qwf):List Lf:=[lI x.x0,lI x.x1,lI x.x2,lI x.x3]
def Qan.enc (x:Qan):List Lf:=[lL 9 x.items Qae.enc,lI x.first_]
def Qbs.enc (x:Qbs):List Lf:=[lL 9 x.queue.items Qae.enc,lI x.queue.first_,lL 1 x.x.net.places e_str,lL 6 x.x.net.arcs Qao.enc,lL 14 x.x.types Qai.enc,lL 16 x.x.orders Qag.enc,lL 2 x.x.apart Qap.enc,lL 2 x.x.before Qap.enc]
def Qad.enc (x:Qad):List Lf:=[lI x.type_,lL 2 x.visits Qaa.enc,lI x.place,lI x.time,lI x.driven,lI x.miles,lL 1 x.load e_i64,lI x.done,lI x.open_]
def QfF.enc (x:QfF):List Lf:=[lL 2 x.visits Qaa.enc,lL 1 x.rests Qyw]
def Qit.enc (x:Qit):List Lf:=[lI x.place,lI x.time,lI x.driven,lI x.miles]
def QpG.enc (x:QpG):List Lf:=[lI x.type_,lI x.set_,lI x.price,lI x.route.type_,lI x.route.start,lL 1 x.route.rests Qyw,lL 2 x.route.visits Qaa.enc]
def es_T_api_Visit.enc (l:List Qaa):List Lf:=[.sl false 2 (l.map Qaa.enc)]
def QeN (l:List Int):List Lf:=[.sl false 1 (l.map e_i64)]
def Qcx:ByteArray:=⟨#[32]⟩
def QtN:ByteArray:=⟨#[45]⟩
def Qjx:ByteArray:=⟨#[112,108,97,99,101,115]⟩
def Qdc:ByteArray:=⟨#[112,108,97,99,101,32]⟩
def QaD:ByteArray:=⟨#[97,114,99,32]⟩
def Qo0:ByteArray:=⟨#[97,114,99,115]⟩
def QsA:ByteArray:=⟨#[97,112,97,114,116]⟩
def Qrt:ByteArray:=⟨#[98,101,102,111,114,101]⟩
def Qup:ByteArray:=⟨#[110,101,116]⟩
def Qu8:ByteArray:=⟨#[116,121,112,101,115]⟩
def Quq:ByteArray:=⟨#[111,114,100,101,114,115]⟩
def Qu7:ByteArray:=⟨#[114,117,108,101,115]⟩
def Ql2:ByteArray:=⟨#[48,49,50,51,52,53,54,55,56,57,97,98,99,100,101,102,103,104,105,106,107,108,109,110,111,112,113,114,115,116,117,118,119,120,121,122]⟩
def Ql1:ByteArray:=⟨#[48,48,48,49,48,50,48,51,48,52,48,53,48,54,48,55,48,56,48,57,49,48,49,49,49,50,49,51,49,52,49,53,49,54,49,55,49,56,49,57,50,48,50,49,50,50,50,51,50,52,50,53,50,54,50,55,50,56,50,57,51,48,51,49,51,50,51,51,51,52,51,53,51,54,51,55,51,56,51,57,52,48,52,49,52,50,52,51,52,52,52,53,52,54,52,55,52,56,52,57,53,48,53,49,53,50,53,51,53,52,53,53,53,54,53,55,53,56,53,57,54,48,54,49,54,50,54,51,54,52,54,53,54,54,54,55,54,56,54,57,55,48,55,49,55,50,55,51,55,52,55,53,55,54,55,55,55,56,55,57,56,48,56,49,56,50,56,51,56,52,56,53,56,54,56,55,56,56,56,57,57,48,57,49,57,50,57,51,57,52,57,53,57,54,57,55,57,56,57,57]⟩
def Ql3:ByteArray:=⟨#[0,1,2,2,3,3,3,3,4,4,4,4,4,4,4,4,5,5,5,5,5,5,5,5,5,5,5,5,5,5,5,5,6,6,6,6,6,6,6,6,6,6,6,6,6,6,6,6,6,6,6,6,6,6,6,6,6,6,6,6,6,6,6,6,7,7,7,7,7,7,7,7,7,7,7,7,7,7,7,7,7,7,7,7,7,7,7,7,7,7,7,7,7,7,7,7,7,7,7,7,7,7,7,7,7,7,7,7,7,7,7,7,7,7,7,7,7,7,7,7,7,7,7,7,7,7,7,7,8,8,8,8,8,8,8,8,8,8,8,8,8,8,8,8,8,8,8,8,8,8,8,8,8,8,8,8,8,8,8,8,8,8,8,8,8,8,8,8,8,8,8,8,8,8,8,8,8,8,8,8,8,8,8,8,8,8,8,8,8,8,8,8,8,8,8,8,8,8,8,8,8,8,8,8,8,8,8,8,8,8,8,8,8,8,8,8,8,8,8,8,8,8,8,8,8,8,8,8,8,8,8,8,8,8,8,8,8,8,8,8,8,8,8,8,8,8,8,8,8,8,8,8,8,8,8,8]⟩
def QjG:ByteArray:=⟨#[97]⟩
def QjH:ByteArray:=⟨#[98]⟩
def QjJ:ByteArray:=⟨#[118]⟩
def QjI:ByteArray:=⟨#[111]⟩
structure Qa3 where
  ready:Int
  since:Int
  sheet:Qa0
end Go.Proofs.YtfjiafgldchinaaGreatDoor
namespace Go.Proofs.YtfjiafgldchinaaGreatDoor
set_option linter.unusedVariables false
set_option linter.unusedSectionVars false
set_option linter.unusedSimpArgs false
noncomputable def QeI (word:ByteArray) (l:List Qab) (l1:List Qab) (i:Int) (at_:ByteArray):Option ((List Qab×Int)⊕(List Qab)):=bnd (getI l i) fun x1=>chk (okN (l1++[(Qab.mk x1.err at_)]).length 24) (some (.inl ((l1++[(Qab.mk x1.err at_)]),(addK .i64 i 1))))
noncomputable def QdQ (word:ByteArray) (l:List Qab) (l1:List Qab) (i:Int):Option ((List Qab×Int)⊕(List Qab)):=br (ltI i (lenI l)) (bnd (getI l i) fun x0=>br (eqS x0.at_ ByteArray.empty) (QeI word l l1 i word) (chk (word.size+Qcx.size≤9223372036854775807) (chk ((catS word Qcx).size+x0.at_.size≤9223372036854775807) (QeI word l l1 i (catS (catS word Qcx) x0.at_))))) (some (.inr l1))
noncomputable def Qe6 (word:ByteArray) (l:List Qab):Option (List Qab):=bnd (loopF (fun s=>QdQ word l s.1 s.2) ([],0)) (fun l2=>some l2)
noncomputable def Qc5 (n:Int) (s0:ByteArray) (left:Int) (d:Int):Option ((ByteArray×Int×Bool)⊕(ByteArray)):=chk ((QpH [(cvK .u8 (addK .i64 48 d))]).size+s0.size≤9223372036854775807) (some (.inl ((catS (QpH [(cvK .u8 (addK .i64 48 d))]) s0),(quoK .i64 left 10),(neI (quoK .i64 left 10) 0))))
noncomputable def QeV (n:Int) (s0:ByteArray) (left:Int) (again:Bool):Option ((ByteArray×Int×Bool)⊕(ByteArray)):=br again (br (ltI (remK left 10) 0) (Qc5 n s0 left (subK .i64 0 (remK left 10))) (Qc5 n s0 left (remK left 10))) (some (.inr s0))
noncomputable def Qby (n:Int):Option ByteArray:=bnd (loopF (fun s=>QeV n s.1 s.2.1 s.2.2) (ByteArray.empty,n,true)) (fun s1=>br (ltI n 0) (chk (QtN.size+s1.size≤9223372036854775807) (some (catS QtN s1))) (some s1))
noncomputable def QhL (c:Int):Option Bool:=some ((geI c 48)&&(leI c 57))
noncomputable def QjC (c:Int):Option Bool:=some ((((geI c 97)&&(leI c 122))||((geI c 65)&&(leI c 90)))||(eqI c 95))
noncomputable def Qec (s0:ByteArray) (b:UInt8) (i:Int):Option ((Int)⊕((Unit)⊕(Bool))):=br (ltI i (sizeS s0)) (bnd (getS s0 i) fun b1=>bnd (QjC (byteI b1)) fun r1=>br r1 (some (.inl (addK .i64 i 1))) (bnd (QhL (byteI b1)) fun r2=>br r2 (some (.inl (addK .i64 i 1))) (some (.inr (.inr false))))) (some (.inr (.inl ())))
noncomputable def QeQ (s0:ByteArray):Option Bool:=br ((ltI (sizeS s0) 1)||(gtI (sizeS s0) 16)) (some false) (bnd (getS s0 0) fun b=>bnd (QhL (byteI b)) fun r=>br r (some false) (bnd (loopF (fun s=>Qec s0 b s) 0) (fun e=>sel e (fun (_:Unit)=>some true) (fun r3=>some r3))))
noncomputable def QdB (l:List Qak) (i:Int) (x0:Qak) (l3:List Qab):Option ((List Qab×Int)⊕(List Qab)):=br (gtI i 0) (bnd (getI l (subK .i64 i 1)) fun x1=>br (leI x0.t x1.t) (bnd (Qby i) fun r1=>chk (okN (l3++[(Qab.mk 13 r1)]).length 24) (some (.inl ((l3++[(Qab.mk 13 r1)]),(addK .i64 i 1))))) (br (ltI x0.a x1.a) (bnd (Qby i) fun r2=>chk (okN (l3++[(Qab.mk 13 r2)]).length 24) (some (.inl ((l3++[(Qab.mk 13 r2)]),(addK .i64 i 1))))) (some (.inl (l3,(addK .i64 i 1)))))) (some (.inl (l3,(addK .i64 i 1))))
noncomputable def Qc0 (l:List Qak) (l2:List Qab) (i:Int):Option ((List Qab×Int)⊕(List Qab)):=br (ltI i (lenI l)) (bnd (getI l i) fun x0=>br ((((ltI x0.t 0)||(gtI x0.t 4096))||(ltI x0.a x0.t))||(gtI x0.a (addK .i64 x0.t 4096))) (bnd (Qby i) fun r=>chk (okN (l2++[(Qab.mk 2 r)]).length 24) (QdB l i x0 (l2++[(Qab.mk 2 r)]))) (QdB l i x0 l2)) (some (.inr l2))
noncomputable def QeB (l:List Qak) (l1:List Qab):Option (List Qab):=bnd (loopF (fun s=>Qc0 l s.1 s.2) (l1,0)) (fun l4=>some l4)
noncomputable def Qen (l:List Qak):Option (List Qab):=br ((ltI (lenI l) 1)||(gtI (lenI l) 16)) (chk (okN [(Qab.mk 4 ByteArray.empty)].length 24) (QeB l [(Qab.mk 4 ByteArray.empty)])) (QeB l [])
noncomputable def QfQ (t:Int):Option Bool:=some ((geI t 0)&&(leI t 4096))
noncomputable def QbI (n:Qal) (i:Int) (r:ByteArray) (x0:Qao) (l:List Qab) (l1:List Qab) (twice:Bool) (k:Int):Option ((Bool×Int)⊕(Bool)):=br (ltI k i) (bnd (getI n.arcs k) fun x1=>some (.inl ((twice||(((eqI x0.from_ x1.from_)&&(eqI x0.to_ x1.to_))&&(eqI x0.profile x1.profile))),(addK .i64 k 1)))) (some (.inr twice))
noncomputable def QbJ (r:ByteArray) (x0:Qao) (l:List Qab) (r1:List Qab) (l3:List Qab) (k1:Int):Option ((List Qab×Int)⊕(List Qab)):=br (ltI k1 (lenI r1)) (bnd (getI r1 k1) fun x2=>chk (okN (l3++[(Qab.mk x2.err (catS QaD r))]).length 24) (some (.inl ((l3++[(Qab.mk x2.err (catS QaD r))]),(addK .i64 k1 1))))) (some (.inr l3))
noncomputable def QbK (r:ByteArray) (x0:Qao) (l:List Qab) (l6:List Qab) (k2:Int):Option ((List Qab×Int)⊕(List Qab)):=br (ltI k2 (lenI x0.slow)) (bnd (getI x0.slow k2) fun x3=>bnd (QfQ x3.t) fun r2=>br r2 (bnd (QfQ x3.a) fun r3=>br r3 (br (gtI k2 0) (bnd (getI x0.slow (subK .i64 k2 1)) fun x4=>br (leI x3.t x4.t) (chk (okN (l6++[(Qab.mk 2 (catS QaD r))]).length 24) (some (.inl ((l6++[(Qab.mk 2 (catS QaD r))]),(addK .i64 k2 1))))) (some (.inl (l6,(addK .i64 k2 1))))) (some (.inl (l6,(addK .i64 k2 1))))) (chk (okN (l6++[(Qab.mk 2 (catS QaD r))]).length 24) (some (.inl ((l6++[(Qab.mk 2 (catS QaD r))]),(addK .i64 k2 1)))))) (chk (okN (l6++[(Qab.mk 2 (catS QaD r))]).length 24) (some (.inl ((l6++[(Qab.mk 2 (catS QaD r))]),(addK .i64 k2 1)))))) (some (.inr l6))
noncomputable def Qbn (r:ByteArray) (x0:Qao) (l:List Qab) (l5:List Qab):Option (List Qab):=bnd (loopF (fun s=>QbK r x0 l s.1 s.2) (l5,0)) (fun l7=>some l7)
noncomputable def QbH (r:ByteArray) (x0:Qao) (l:List Qab) (l2:List Qab):Option (List Qab):=bnd (Qen x0.travel) fun r1=>bnd (loopF (fun s=>QbJ r x0 l r1 s.1 s.2) (l2,0)) (fun l4=>br (gtI (lenI x0.slow) 16) (chk (okN (l4++[(Qab.mk 4 (catS QaD r))]).length 24) (Qbn r x0 l (l4++[(Qab.mk 4 (catS QaD r))]))) (Qbn r x0 l l4))
noncomputable def QcL (n:Qal) (i:Int) (r:ByteArray) (x0:Qao) (l:List Qab) (l1:List Qab):Option (List Qab):=bnd (loopF (fun s=>QbI n i r x0 l l1 s.1 s.2) (false,0)) (fun twice1=>br twice1 (chk (okN (l1++[(Qab.mk 6 (catS QaD r))]).length 24) (QbH r x0 l (l1++[(Qab.mk 6 (catS QaD r))]))) (QbH r x0 l l1))
noncomputable def QcK (n:Qal) (i:Int) (r:ByteArray) (x0:Qao) (l:List Qab):Option (List Qab):=br (((((ltI x0.profile 0)||(gtI x0.profile 7))||(ltI x0.miles 0))||(gtI x0.miles 10000))||(eqI x0.from_ x0.to_)) (chk (okN (l++[(Qab.mk 2 (catS QaD r))]).length 24) (QcL n i r x0 l (l++[(Qab.mk 2 (catS QaD r))]))) (QcL n i r x0 l l)
noncomputable def QeD (n:Qal) (i:Int):Option (List Qab):=bnd (Qby i) fun r=>chk (QaD.size+r.size≤9223372036854775807) (bnd (getI n.arcs i) fun x0=>br ((((ltI x0.from_ 0)||(geI x0.from_ (lenI n.places)))||(ltI x0.to_ 0))||(geI x0.to_ (lenI n.places))) (chk (okN [(Qab.mk 11 (catS QaD r))].length 24) (QcK n i r x0 [(Qab.mk 11 (catS QaD r))])) (QcK n i r x0 []))
noncomputable def QaZ (n:Qal) (l:List Qab) (l1:List Qab) (i:Int) (r:ByteArray) (twice:Bool) (k:Int):Option ((Bool×Int)⊕(Bool)):=br (ltI k i) (br twice (some (.inl (true,(addK .i64 k 1)))) (bnd (getI n.places k) fun x1=>bnd (getI n.places i) fun x2=>some (.inl ((eqS x1 x2),(addK .i64 k 1))))) (some (.inr twice))
noncomputable def QaY (n:Qal) (l:List Qab) (l1:List Qab) (i:Int):Option ((List Qab×Int)⊕(List Qab)):=br (ltI i (lenI n.places)) (bnd (Qby i) fun r=>chk (Qdc.size+r.size≤9223372036854775807) (bnd (getI n.places i) fun x0=>bnd (QeQ x0) fun r1=>br r1 (bnd (loopF (fun s=>QaZ n l l1 i r s.1 s.2) (false,0)) (fun twice1=>br twice1 (chk (okN (l1++[(Qab.mk 6 (catS Qdc r))]).length 24) (some (.inl ((l1++[(Qab.mk 6 (catS Qdc r))]),(addK .i64 i 1))))) (some (.inl (l1,(addK .i64 i 1)))))) (chk (okN (l1++[(Qab.mk 5 (catS Qdc r))]).length 24) (some (.inl ((l1++[(Qab.mk 5 (catS Qdc r))]),(addK .i64 i 1))))))) (some (.inr l1))
noncomputable def QbZ (n:Qal) (l:List Qab):Option (List Qab):=bnd (loopF (fun s=>QaY n l s.1 s.2) (l,0)) (fun l2=>some l2)
noncomputable def QcD (n:Qal):Option (List Qab):=br (gtI (lenI n.places) 24) (chk (okN [(Qab.mk 4 Qjx)].length 24) (QbZ n [(Qab.mk 4 Qjx)])) (QbZ n [])
noncomputable def Qcz (n:Qal) (l:List Qab) (l1:List Qab) (i:Int):Option ((List Qab×Int)⊕(List Qab)):=br (ltI i (lenI n.arcs)) (bnd (QeD n i) fun r1=>chk (okN (l1++r1).length 24) (some (.inl ((l1++r1),(addK .i64 i 1))))) (some (.inr l1))
noncomputable def QeC (n:Qal) (l:List Qab):Option (List Qab):=bnd (loopF (fun s=>Qcz n l s.1 s.2) (l,0)) (fun l2=>some l2)
noncomputable def Qge (n:Qal):Option (List Qab):=bnd (QcD n) fun r=>br (gtI (lenI n.arcs) 1024) (chk (okN (r++[(Qab.mk 4 Qo0)]).length 24) (QeC n (r++[(Qab.mk 4 Qo0)]))) (QeC n r)
noncomputable def QaA (n:Int) (lo:Int) (hi:Int):Option Bool:=some ((geI n lo)&&(leI n hi))
noncomputable def QeR (l:List Qai):Option Int:=br (eqI (lenI l) 0) (some 0) (bnd (getI l 0) fun x0=>some (lenI x0.cap))
noncomputable def Qb0 (l:List Qai) (at_:Int) (name:ByteArray) (i:Int):Option ((Int)⊕((Unit)⊕(Bool))):=br (ltI i at_) (bnd (getI l i) fun x0=>br (eqS x0.name name) (some (.inr (.inr true))) (some (.inl (addK .i64 i 1)))) (some (.inr (.inl ())))
noncomputable def Qgg (l:List Qai) (at_:Int) (name:ByteArray):Option Bool:=bnd (loopF (fun s=>Qb0 l at_ name s) 0) (fun e=>sel e (fun (_:Unit)=>some false) (fun r=>some r))
noncomputable def Qbo (l:List Int) (i:Int):Option ((Int)⊕((Unit)⊕(Bool))):=br (ltI i (lenI l)) (bnd (getI l i) fun x0=>bnd (QaA x0 0 1000) fun r1=>br r1 (some (.inl (addK .i64 i 1))) (some (.inr (.inr false)))) (some (.inr (.inl ())))
noncomputable def QdC (l:List Int) (dims:Int):Option Bool:=bnd (QaA (lenI l) 1 3) fun r=>br ((!r)||(neI (lenI l) dims)) (some false) (bnd (loopF (fun s=>Qbo l s) 0) (fun e=>sel e (fun (_:Unit)=>some true) (fun r2=>some r2)))
noncomputable def QdK (x0:Qai) (l8:List Int):Option (List Int):=bnd (QaA x0.profile 0 7) fun r11=>br r11 (bnd (QaA x0.fixed 0 100000) fun r12=>br r12 (bnd (QaA x0.perMile 0 100) fun r13=>br r13 (bnd (QaA x0.perTick 0 100) fun r14=>br r14 (some l8) (chk (okN (l8++[2]).length 8) (some (l8++[2])))) (chk (okN (l8++[2]).length 8) (some (l8++[2])))) (chk (okN (l8++[2]).length 8) (some (l8++[2])))) (chk (okN (l8++[2]).length 8) (some (l8++[2])))
noncomputable def QdJ (x0:Qai) (l7:List Int):Option (List Int):=bnd (QaA x0.drive 1 4096) fun r9=>br r9 (bnd (QaA x0.rest_ 0 4096) fun r10=>br r10 (QdK x0 l7) (chk (okN (l7++[16]).length 8) (QdK x0 (l7++[16])))) (chk (okN (l7++[16]).length 8) (bnd (QaA x0.profile 0 7) fun r15=>br r15 (bnd (QaA x0.fixed 0 100000) fun r16=>br r16 (bnd (QaA x0.perMile 0 100) fun r17=>br r17 (bnd (QaA x0.perTick 0 100) fun r18=>br r18 (some (l7++[16])) (chk (okN ((l7++[16])++[2]).length 8) (some ((l7++[16])++[2])))) (chk (okN ((l7++[16])++[2]).length 8) (some ((l7++[16])++[2])))) (chk (okN ((l7++[16])++[2]).length 8) (some ((l7++[16])++[2])))) (chk (okN ((l7++[16])++[2]).length 8) (some ((l7++[16])++[2])))))
noncomputable def QdI (x0:Qai) (l6:List Int):Option (List Int):=bnd (QaA x0.open_ 0 x0.close) fun r8=>br ((!r8)||(gtI x0.close 4096)) (chk (okN (l6++[15]).length 8) (QdJ x0 (l6++[15]))) (QdJ x0 l6)
noncomputable def QdH (x0:Qai) (l5:List Int):Option (List Int):=bnd (QaA x0.skills 0 1073741823) fun r7=>br r7 (QdI x0 l5) (chk (okN (l5++[18]).length 8) (QdI x0 (l5++[18])))
noncomputable def QdG (l:List Qai) (x0:Qai) (l4:List Int):Option (List Int):=bnd (QeR l) fun r5=>bnd (QdC x0.cap r5) fun r6=>br r6 (QdH x0 l4) (chk (okN (l4++[17]).length 8) (QdH x0 (l4++[17])))
noncomputable def Qfw (x0:Qai) (l12:List Int):Option (List Int):=bnd (QaA x0.profile 0 7) fun r25=>br r25 (bnd (QaA x0.fixed 0 100000) fun r26=>br r26 (bnd (QaA x0.perMile 0 100) fun r27=>br r27 (bnd (QaA x0.perTick 0 100) fun r28=>br r28 (some l12) (chk (okN (l12++[2]).length 8) (some (l12++[2])))) (chk (okN (l12++[2]).length 8) (some (l12++[2])))) (chk (okN (l12++[2]).length 8) (some (l12++[2])))) (chk (okN (l12++[2]).length 8) (some (l12++[2])))
noncomputable def Qfv (x0:Qai) (l11:List Int):Option (List Int):=bnd (QaA x0.drive 1 4096) fun r23=>br r23 (bnd (QaA x0.rest_ 0 4096) fun r24=>br r24 (Qfw x0 l11) (chk (okN (l11++[16]).length 8) (Qfw x0 (l11++[16])))) (chk (okN (l11++[16]).length 8) (bnd (QaA x0.profile 0 7) fun r29=>br r29 (bnd (QaA x0.fixed 0 100000) fun r30=>br r30 (bnd (QaA x0.perMile 0 100) fun r31=>br r31 (bnd (QaA x0.perTick 0 100) fun r32=>br r32 (some (l11++[16])) (chk (okN ((l11++[16])++[2]).length 8) (some ((l11++[16])++[2])))) (chk (okN ((l11++[16])++[2]).length 8) (some ((l11++[16])++[2])))) (chk (okN ((l11++[16])++[2]).length 8) (some ((l11++[16])++[2])))) (chk (okN ((l11++[16])++[2]).length 8) (some ((l11++[16])++[2])))))
noncomputable def Qfu (x0:Qai) (l10:List Int):Option (List Int):=bnd (QaA x0.open_ 0 x0.close) fun r22=>br ((!r22)||(gtI x0.close 4096)) (chk (okN (l10++[15]).length 8) (Qfv x0 (l10++[15]))) (Qfv x0 l10)
noncomputable def Qf3 (x0:Qai) (l9:List Int):Option (List Int):=bnd (QaA x0.skills 0 1073741823) fun r21=>br r21 (Qfu x0 l9) (chk (okN (l9++[18]).length 8) (Qfu x0 (l9++[18])))
noncomputable def QdF (n:Qal) (l:List Qai) (x0:Qai) (l3:List Int):Option (List Int):=bnd (QaA x0.from_ 0 (subK .i64 (lenI n.places) 1)) fun r3=>br r3 (bnd (QaA x0.to_ 0 (subK .i64 (lenI n.places) 1)) fun r4=>br r4 (QdG l x0 l3) (chk (okN (l3++[11]).length 8) (QdG l x0 (l3++[11])))) (chk (okN (l3++[11]).length 8) (bnd (QeR l) fun r19=>bnd (QdC x0.cap r19) fun r20=>br r20 (Qf3 x0 (l3++[11])) (chk (okN ((l3++[11])++[17]).length 8) (Qf3 x0 ((l3++[11])++[17])))))
noncomputable def QdE (n:Qal) (l:List Qai) (x0:Qai) (l2:List Int):Option (List Int):=bnd (QaA x0.count 0 10) fun r2=>br r2 (QdF n l x0 l2) (chk (okN (l2++[22]).length 8) (QdF n l x0 (l2++[22])))
noncomputable def QdD (n:Qal) (l:List Qai) (at_:Int) (x0:Qai) (l1:List Int):Option (List Int):=bnd (Qgg l at_ x0.name) fun r1=>br r1 (chk (okN (l1++[6]).length 8) (QdE n l x0 (l1++[6]))) (QdE n l x0 l1)
noncomputable def Qgh (n:Qal) (l:List Qai) (at_:Int):Option (List Int):=bnd (getI l at_) fun x0=>bnd (QeQ x0.name) fun r=>br r (QdD n l at_ x0 []) (chk (okN [5].length 8) (QdD n l at_ x0 [5]))
noncomputable def Qf2 (n:Qal) (l:List Qai) (i:Int) (r1:List Int) (l3:List Qab) (k:Int):Option ((List Qab×Int)⊕(List Qab)):=br (ltI k (lenI r1)) (bnd (getI r1 k) fun x0=>bnd (Qby i) fun r2=>chk (okN (l3++[(Qab.mk x0 r2)]).length 24) (some (.inl ((l3++[(Qab.mk x0 r2)]),(addK .i64 k 1))))) (some (.inr l3))
noncomputable def QcA (n:Qal) (l:List Qai) (l2:List Qab) (i:Int):Option ((List Qab×Int)⊕(List Qab)):=br (ltI i (lenI l)) (bnd (Qgh n l i) fun r1=>bnd (loopF (fun s=>Qf2 n l i r1 s.1 s.2) (l2,0)) (fun l4=>some (.inl (l4,(addK .i64 i 1))))) (some (.inr l2))
noncomputable def QeE (n:Qal) (l:List Qai) (l1:List Qab):Option (List Qab):=bnd (loopF (fun s=>QcA n l s.1 s.2) (l1,0)) (fun l5=>some l5)
noncomputable def Qgf (n:Qal) (l:List Qai):Option (List Qab):=bnd (QaA (lenI l) 1 6) fun r=>br r (QeE n l []) (chk (okN [(Qab.mk 4 ByteArray.empty)].length 24) (QeE n l [(Qab.mk 4 ByteArray.empty)]))
noncomputable def Qa6 (n:Int) (low:Int) (high:Int):Option Bool:=some ((geI n low)&&(leI n high))
noncomputable def QbX (a:List Int) (i:Int):Option ((Int)⊕((Unit)⊕(Bool))):=br (ltI i (lenI a)) (bnd (getI a i) fun x0=>br (ltI x0 0) (some (.inr (.inr false))) (br (gtI x0 1000) (some (.inr (.inr false))) (some (.inl (addK .i64 i 1))))) (some (.inr (.inl ())))
noncomputable def Qem (a:List Int) (dims:Int):Option Bool:=br (neI (lenI a) dims) (some false) (bnd (loopF (fun s=>QbX a s) 0) (fun e=>sel e (fun (_:Unit)=>some true) (fun r=>some r)))
noncomputable def Qdx (s0:Qas):Option Int:=br ((((eqI s0.place (-1))&&(eqI s0.open_ 0))&&(eqI s0.close 0))&&(eqI s0.service 0)) (some 0) (br ((((((ltI s0.place 0)||(ltI s0.open_ 0))||(gtI s0.open_ s0.close))||(gtI s0.close 4096))||(ltI s0.service 0))||(gtI s0.service 4096)) (some 2) (some 0))
noncomputable def Qb1 (places:Int) (dims:Int) (types:Int) (l:List Qag) (at_:Int) (x0:Qag) (l1:List Int) (i:Int):Option ((Int)⊕(List Int)):=br (ltI i at_) (bnd (getI l i) fun x1=>br (eqS x1.name x0.name) (chk (okN (l1++[6]).length 8) (some (.inr (l1++[6])))) (some (.inl (addK .i64 i 1)))) (some (.inr l1))
noncomputable def QdO (types:Int) (x0:Qag) (l6:List Int):Option (List Int):=bnd (Qa6 x0.penalty (-1) 1000000) fun r6=>br r6 (bnd (Qa6 x0.split 1 4) fun r7=>br ((((((!r7)||((gtI x0.split 1)&&((neI x0.pick.place (-1))&&(neI x0.drop.place (-1)))))||(ltI x0.last_ (-1)))||(geI x0.last_ types))||(ltI x0.now (-1)))||(geI x0.now types)) (chk (okN (l6++[2]).length 8) (some (l6++[2]))) (some l6)) (chk (okN (l6++[2]).length 8) (some (l6++[2])))
noncomputable def Qf5 (types:Int) (x0:Qag) (l8:List Int):Option (List Int):=bnd (Qa6 x0.penalty (-1) 1000000) fun r10=>br r10 (bnd (Qa6 x0.split 1 4) fun r11=>br ((((((!r11)||((gtI x0.split 1)&&((neI x0.pick.place (-1))&&(neI x0.drop.place (-1)))))||(ltI x0.last_ (-1)))||(geI x0.last_ types))||(ltI x0.now (-1)))||(geI x0.now types)) (chk (okN (l8++[2]).length 8) (some (l8++[2]))) (some l8)) (chk (okN (l8++[2]).length 8) (some (l8++[2])))
noncomputable def QdP (types:Int) (x0:Qag) (l7:List Int):Option (List Int):=bnd (Qa6 x0.skills 0 1073741823) fun r9=>br r9 (Qf5 types x0 l7) (chk (okN (l7++[18]).length 8) (Qf5 types x0 (l7++[18])))
noncomputable def QdN (types:Int) (x0:Qag) (l5:List Int):Option (List Int):=bnd (Qdx x0.pick) fun r4=>br (neI r4 0) (chk (okN (l5++[14]).length 8) (bnd (Qa6 x0.skills 0 1073741823) fun r5=>br r5 (QdO types x0 (l5++[14])) (chk (okN ((l5++[14])++[18]).length 8) (QdO types x0 ((l5++[14])++[18]))))) (bnd (Qdx x0.drop) fun r8=>br (neI r8 0) (chk (okN (l5++[14]).length 8) (QdP types x0 (l5++[14]))) (QdP types x0 l5))
noncomputable def QdM (types:Int) (x0:Qag) (l4:List Int):Option (List Int):=br ((eqI x0.pick.place (-1))&&(eqI x0.drop.place (-1))) (chk (okN (l4++[19]).length 8) (QdN types x0 (l4++[19]))) (QdN types x0 l4)
noncomputable def Qf7 (types:Int) (x0:Qag) (l10:List Int):Option (List Int):=bnd (Qa6 x0.penalty (-1) 1000000) fun r14=>br r14 (bnd (Qa6 x0.split 1 4) fun r15=>br ((((((!r15)||((gtI x0.split 1)&&((neI x0.pick.place (-1))&&(neI x0.drop.place (-1)))))||(ltI x0.last_ (-1)))||(geI x0.last_ types))||(ltI x0.now (-1)))||(geI x0.now types)) (chk (okN (l10++[2]).length 8) (some (l10++[2]))) (some l10)) (chk (okN (l10++[2]).length 8) (some (l10++[2])))
noncomputable def Qfy (types:Int) (x0:Qag) (l12:List Int):Option (List Int):=bnd (Qa6 x0.penalty (-1) 1000000) fun r18=>br r18 (bnd (Qa6 x0.split 1 4) fun r19=>br ((((((!r19)||((gtI x0.split 1)&&((neI x0.pick.place (-1))&&(neI x0.drop.place (-1)))))||(ltI x0.last_ (-1)))||(geI x0.last_ types))||(ltI x0.now (-1)))||(geI x0.now types)) (chk (okN (l12++[2]).length 8) (some (l12++[2]))) (some l12)) (chk (okN (l12++[2]).length 8) (some (l12++[2])))
noncomputable def Qfx (types:Int) (x0:Qag) (l11:List Int):Option (List Int):=bnd (Qa6 x0.skills 0 1073741823) fun r17=>br r17 (Qfy types x0 l11) (chk (okN (l11++[18]).length 8) (Qfy types x0 (l11++[18])))
noncomputable def Qf6 (types:Int) (x0:Qag) (l9:List Int):Option (List Int):=bnd (Qdx x0.pick) fun r12=>br (neI r12 0) (chk (okN (l9++[14]).length 8) (bnd (Qa6 x0.skills 0 1073741823) fun r13=>br r13 (Qf7 types x0 (l9++[14])) (chk (okN ((l9++[14])++[18]).length 8) (Qf7 types x0 ((l9++[14])++[18]))))) (bnd (Qdx x0.drop) fun r16=>br (neI r16 0) (chk (okN (l9++[14]).length 8) (Qfx types x0 (l9++[14]))) (Qfx types x0 l9))
noncomputable def QbC (places:Int) (types:Int) (x0:Qag) (l3:List Int):Option (List Int):=bnd (Qa6 x0.pick.place (-1) (subK .i64 places 1)) fun r2=>br r2 (bnd (Qa6 x0.drop.place (-1) (subK .i64 places 1)) fun r3=>br r3 (QdM types x0 l3) (chk (okN (l3++[11]).length 8) (QdM types x0 (l3++[11])))) (chk (okN (l3++[11]).length 8) (br ((eqI x0.pick.place (-1))&&(eqI x0.drop.place (-1))) (chk (okN ((l3++[11])++[19]).length 8) (Qf6 types x0 ((l3++[11])++[19]))) (Qf6 types x0 (l3++[11]))))
noncomputable def QdL (places:Int) (dims:Int) (types:Int) (l:List Qag) (at_:Int) (x0:Qag) (l1:List Int):Option (List Int):=bnd (loopF (fun s=>Qb1 places dims types l at_ x0 l1 s) 0) (fun l2=>bnd (Qem x0.load dims) fun r1=>br r1 (QbC places types x0 l2) (chk (okN (l2++[17]).length 8) (QbC places types x0 (l2++[17]))))
noncomputable def Qgj (places:Int) (dims:Int) (types:Int) (l:List Qag) (at_:Int):Option (List Int):=bnd (getI l at_) fun x0=>bnd (QeQ x0.name) fun r=>br r (QdL places dims types l at_ x0 []) (chk (okN [5].length 8) (QdL places dims types l at_ x0 [5]))
noncomputable def Qf4 (n:Qal) (dims:Int) (types:Int) (l:List Qag) (i:Int) (r:List Int) (l3:List Qab) (k:Int):Option ((List Qab×Int)⊕(List Qab)):=br (ltI k (lenI r)) (bnd (getI r k) fun x0=>bnd (Qby i) fun r1=>chk (okN (l3++[(Qab.mk x0 r1)]).length 24) (some (.inl ((l3++[(Qab.mk x0 r1)]),(addK .i64 k 1))))) (some (.inr l3))
noncomputable def QcB (n:Qal) (dims:Int) (types:Int) (l:List Qag) (l2:List Qab) (i:Int):Option ((List Qab×Int)⊕(List Qab)):=br (ltI i (lenI l)) (bnd (Qgj (lenI n.places) dims types l i) fun r=>bnd (loopF (fun s=>Qf4 n dims types l i r s.1 s.2) (l2,0)) (fun l4=>some (.inl (l4,(addK .i64 i 1))))) (some (.inr l2))
noncomputable def QeG (n:Qal) (dims:Int) (types:Int) (l:List Qag) (l1:List Qab):Option (List Qab):=bnd (loopF (fun s=>QcB n dims types l s.1 s.2) (l1,0)) (fun l5=>some l5)
noncomputable def Qgi (n:Qal) (dims:Int) (types:Int) (l:List Qag):Option (List Qab):=br (gtI (lenI l) 10) (chk (okN [(Qab.mk 4 ByteArray.empty)].length 24) (QeG n dims types l [(Qab.mk 4 ByteArray.empty)])) (QeG n dims types l [])
noncomputable def Qc6 (n1:Int) (s0:ByteArray):Option ((Int×ByteArray)⊕(Int×ByteArray)):=br (geI n1 10) (chk ((QpH [(cvK .u8 (addK .i64 48 (remK n1 10)))]).size+s0.size≤9223372036854775807) (some (.inl ((quoK .i64 n1 10),(catS (QpH [(cvK .u8 (addK .i64 48 (remK n1 10)))]) s0))))) (some (.inr (n1,s0)))
noncomputable def Qej (n:Int):Option ByteArray:=bnd (loopF (fun s=>Qc6 s.1 s.2) (n,ByteArray.empty)) (fun e0=>(fun n2 s1=>chk ((QpH [(cvK .u8 (addK .i64 48 n2))]).size+s1.size≤9223372036854775807) (some (catS (QpH [(cvK .u8 (addK .i64 48 n2))]) s1))) e0.1 e0.2)
noncomputable def Qdj (orders:Int) (l:List Qap) (word:ByteArray) (turned:Bool) (l2:List Qab) (i:Int) (x0:Qap) (r:ByteArray) (twice:Bool) (k:Int):Option ((Bool×Int)⊕(Bool)):=br (ltI k i) (br twice (some (.inl (true,(addK .i64 k 1)))) (bnd (getI l k) fun x1=>br (eqI x1.x0 x0.x0) (br (eqI x1.x1 x0.x1) (some (.inl (true,(addK .i64 k 1)))) (br turned (br (eqI x1.x0 x0.x1) (some (.inl ((eqI x1.x1 x0.x0),(addK .i64 k 1)))) (some (.inl (false,(addK .i64 k 1))))) (some (.inl (false,(addK .i64 k 1)))))) (br turned (br (eqI x1.x0 x0.x1) (some (.inl ((eqI x1.x1 x0.x0),(addK .i64 k 1)))) (some (.inl (false,(addK .i64 k 1))))) (some (.inl (false,(addK .i64 k 1))))))) (some (.inr twice))
noncomputable def Qb8 (orders:Int) (l:List Qap) (word:ByteArray) (turned:Bool) (l2:List Qab) (i:Int):Option ((List Qab×Int)⊕(List Qab)):=br (ltI i (lenI l)) (bnd (getI l i) fun x0=>chk (word.size+Qcx.size≤9223372036854775807) (bnd (Qej i) fun r=>chk ((catS word Qcx).size+r.size≤9223372036854775807) (br (((((ltI x0.x0 0)||(geI x0.x0 orders))||(ltI x0.x1 0))||(geI x0.x1 orders))||(eqI x0.x0 x0.x1)) (chk (okN (l2++[(Qab.mk 2 (catS (catS word Qcx) r))]).length 24) (some (.inl ((l2++[(Qab.mk 2 (catS (catS word Qcx) r))]),(addK .i64 i 1))))) (bnd (loopF (fun s=>Qdj orders l word turned l2 i x0 r s.1 s.2) (false,0)) (fun twice1=>br twice1 (chk (okN (l2++[(Qab.mk 6 (catS (catS word Qcx) r))]).length 24) (some (.inl ((l2++[(Qab.mk 6 (catS (catS word Qcx) r))]),(addK .i64 i 1))))) (some (.inl (l2,(addK .i64 i 1))))))))) (some (.inr l2))
noncomputable def Qeo (orders:Int) (l:List Qap) (word:ByteArray) (turned:Bool) (l1:List Qab):Option (List Qab):=bnd (loopF (fun s=>Qb8 orders l word turned s.1 s.2) (l1,0)) (fun l3=>some l3)
noncomputable def QfL (orders:Int) (l:List Qap) (word:ByteArray) (turned:Bool):Option (List Qab):=br (gtI (lenI l) 16) (chk (okN [(Qab.mk 4 word)].length 24) (Qeo orders l word turned [(Qab.mk 4 word)])) (Qeo orders l word turned [])
noncomputable def QdZ (orders:Int) (l:List Qap) (word:ByteArray) (turned:Bool) (l2:List Qab) (i:Int) (x0:Qap) (r:ByteArray) (twice:Bool) (k:Int):Option ((Bool×Int)⊕(Bool)):=br (ltI k i) (br twice (some (.inl (true,(addK .i64 k 1)))) (bnd (getI l k) fun x1=>br (eqI x1.x0 x0.x0) (br (eqI x1.x1 x0.x1) (some (.inl (true,(addK .i64 k 1)))) (br turned (br (eqI x1.x0 x0.x1) (some (.inl ((eqI x1.x1 x0.x0),(addK .i64 k 1)))) (some (.inl (false,(addK .i64 k 1))))) (some (.inl (false,(addK .i64 k 1)))))) (br turned (br (eqI x1.x0 x0.x1) (some (.inl ((eqI x1.x1 x0.x0),(addK .i64 k 1)))) (some (.inl (false,(addK .i64 k 1))))) (some (.inl (false,(addK .i64 k 1))))))) (some (.inr twice))
noncomputable def QdY (orders:Int) (l:List Qap) (word:ByteArray) (turned:Bool) (l2:List Qab) (i:Int):Option ((List Qab×Int)⊕(List Qab)):=br (ltI i (lenI l)) (bnd (getI l i) fun x0=>chk (word.size+Qcx.size≤9223372036854775807) (bnd (Qej i) fun r=>chk ((catS word Qcx).size+r.size≤9223372036854775807) (br (((((ltI x0.x0 0)||(geI x0.x0 orders))||(ltI x0.x1 0))||(geI x0.x1 orders))||(eqI x0.x0 x0.x1)) (chk (okN (l2++[(Qab.mk 2 (catS (catS word Qcx) r))]).length 24) (some (.inl ((l2++[(Qab.mk 2 (catS (catS word Qcx) r))]),(addK .i64 i 1))))) (bnd (loopF (fun s=>QdZ orders l word turned l2 i x0 r s.1 s.2) (false,0)) (fun twice1=>br twice1 (chk (okN (l2++[(Qab.mk 6 (catS (catS word Qcx) r))]).length 24) (some (.inl ((l2++[(Qab.mk 6 (catS (catS word Qcx) r))]),(addK .i64 i 1))))) (some (.inl (l2,(addK .i64 i 1))))))))) (some (.inr l2))
noncomputable def QdX (orders:Int) (l:List Qap) (word:ByteArray) (turned:Bool) (l1:List Qab):Option (List Qab):=bnd (loopF (fun s=>QdY orders l word turned s.1 s.2) (l1,0)) (fun l3=>some l3)
noncomputable def QgQ (orders:Int) (l:List Qap) (word:ByteArray) (turned:Bool):Option (List Qab):=br (gtI (lenI l) 16) (chk (okN [(Qab.mk 4 word)].length 24) (QdX orders l word turned [(Qab.mk 4 word)])) (QdX orders l word turned [])
noncomputable def Qgk (orders:Int) (apart:List Qap) (before:List Qap):Option (List Qab):=bnd (QgQ orders apart QsA true) fun r=>bnd (QfL orders before Qrt false) fun r1=>chk (okN (r++r1).length 24) (some (r++r1))
noncomputable def Qer (word:ByteArray) (l:List Qab) (l1:List Qab) (i:Int) (at_:ByteArray):Option ((List Qab×Int)⊕(List Qab)):=bnd (getI l i) fun x1=>chk (okN (l1++[(Qab.mk x1.err at_)]).length 24) (some (.inl ((l1++[(Qab.mk x1.err at_)]),(addK .i64 i 1))))
noncomputable def Qes (word:ByteArray) (l:List Qab) (l1:List Qab) (i:Int):Option ((List Qab×Int)⊕(List Qab)):=br (ltI i (lenI l)) (bnd (getI l i) fun x0=>br (eqS x0.at_ ByteArray.empty) (Qer word l l1 i word) (chk (word.size+Qcx.size≤9223372036854775807) (chk ((catS word Qcx).size+x0.at_.size≤9223372036854775807) (Qer word l l1 i (catS (catS word Qcx) x0.at_))))) (some (.inr l1))
noncomputable def Qfz (word:ByteArray) (l:List Qab):Option (List Qab):=bnd (loopF (fun s=>Qes word l s.1 s.2) ([],0)) (fun l2=>some l2)
noncomputable def Qgl (x0:Qac):Option (List Qab):=bnd (Qge x0.net) fun r=>bnd (Qfz Qup r) fun r1=>bnd (Qgf x0.net x0.types) fun r2=>bnd (Qe6 Qu8 r2) fun r3=>chk (okN (r1++r3).length 24) (bnd (QeR x0.types) fun r4=>bnd (Qgi x0.net r4 (lenI x0.types) x0.orders) fun r5=>bnd (Qe6 Quq r5) fun r6=>chk (okN ((r1++r3)++r6).length 24) (bnd (Qgk (lenI x0.orders) x0.apart x0.before) fun r7=>bnd (Qe6 Qu7 r7) fun r8=>chk (okN (((r1++r3)++r6)++r8).length 24) (some (((r1++r3)++r6)++r8))))
noncomputable def QhI (x0:Qac):Option Bool:=br (leI (lenI x0.orders) 6) (bnd (Qgl x0) fun r=>some (eqI (lenI r) 0)) (some false)
noncomputable def QbN (set_:Int) (i:Int):Option Bool:=br ((geI i 0)&&(leI i 62)) (chk ((0:Int)≤i) (some (eqI (andK .i64 (shrK .i64 set_ i) 1) 1))) (some false)
noncomputable def Qbf (set_:Int) (l:List Int) (v:Int):Option ((List Int×Int)⊕(List Int)):=br (ltI v 63) (bnd (QbN set_ v) fun r=>br r (chk (okN (l++[v]).length 8) (some (.inl ((l++[v]),(addK .i64 v 1))))) (some (.inl (l,(addK .i64 v 1))))) (some (.inr l))
noncomputable def QfC (set_:Int):Option (List Int):=bnd (loopF (fun s=>Qbf set_ s.1 s.2) ([],0)) (fun l1=>some l1)
noncomputable def QdV (x0:Qac) (r:List Int) (v:Int):Option ((Int)⊕((Unit)⊕(Bool))):=br (ltI v (lenI r)) (bnd (getI r v) fun x1=>bnd (getI x0.orders x1) fun x2=>br x2.off (some (.inr (.inr false))) (some (.inl (addK .i64 v 1)))) (some (.inr (.inl ())))
noncomputable def Qmm (x0:Qac) (set_:Int):Option Bool:=br (leI set_ 0) (some false) (chk ((0:Int)≤(cvK .u64 (lenI x0.orders))) (br (geI set_ (shlK .i64 1 (cvK .u64 (lenI x0.orders)))) (some false) (bnd (QfC set_) fun r=>bnd (loopF (fun s=>QdV x0 r s) 0) (fun e=>sel e (fun (_:Unit)=>some true) (fun r1=>some r1)))))
noncomputable def Qdq (x0:Qac) (set_:Int) (v:Int):Option ((Int)⊕((Unit)⊕(Bool))):=br (ltI v (lenI x0.apart)) (bnd (getI x0.apart v) fun x1=>bnd (QbN set_ x1.x0) fun r=>br r (bnd (QbN set_ x1.x1) fun r1=>br r1 (some (.inr (.inr false))) (some (.inl (addK .i64 v 1)))) (some (.inl (addK .i64 v 1)))) (some (.inr (.inl ())))
noncomputable def QcT (x0:Qac) (set_:Int) (v1:Int):Option ((Int)⊕((Unit)⊕(Bool))):=br (ltI v1 (lenI x0.before)) (bnd (getI x0.before v1) fun x2=>bnd (QbN set_ x2.x1) fun r2=>br r2 (bnd (QbN set_ x2.x0) fun r3=>br r3 (some (.inl (addK .i64 v1 1))) (some (.inr (.inr false)))) (some (.inl (addK .i64 v1 1)))) (some (.inr (.inl ())))
noncomputable def QkJ (x0:Qac) (set_:Int):Option Bool:=bnd (loopF (fun s=>Qdq x0 set_ s) 0) (fun e=>sel e (fun (_:Unit)=>bnd (loopF (fun s=>QcT x0 set_ s) 0) (fun e=>sel e (fun (_:Unit)=>some true) (fun r4=>some r4))) (fun r5=>some r5))
noncomputable def QhB (t:Qai) (skills:Int):Option Bool:=some (((geI t.skills 0)&&(geI skills 0))&&(eqI (Qpr .i64 skills t.skills) 0))
noncomputable def Qqg (a:Int) (b:Int):Option Int:=some (addK .i64 a b)
noncomputable def Qbu (a:List Int) (b:List Int) (l:List Int) (l1:List Int) (v:Int):Option ((List Int×Int)⊕(List Int)):=br (ltI v (lenI a)) (bnd (getI a v) fun x0=>bnd (getI b v) fun x1=>bnd (Qqg x0 x1) fun r=>bnd (getI l1 v) fun x2=>some (.inl ((setI l1 v r),(addK .i64 v 1)))) (some (.inr l1))
noncomputable def Qgz (a:List Int) (b:List Int):Option (List Int×Int):=br (neI (lenI a) (lenI b)) (some ([],2)) (bnd (mkI (lenI a) (lenI a) 8 0) fun l=>bnd (loopF (fun s=>Qbu a b l s.1 s.2) (l,0)) (fun l2=>some (l2,0)))
noncomputable def QoW (a:List Int) (b:List Int):Option (List Int×Int):=bnd (Qgz a b) fun r=>some (r.1,r.2)
noncomputable def Qez (a:List Int) (capacity:List Int) (v:Int):Option ((Int)⊕((Unit)⊕(Bool))):=br (ltI v (lenI a)) (bnd (getI a v) fun x0=>bnd (getI capacity v) fun x1=>br (gtI x0 x1) (some (.inr (.inr false))) (some (.inl (addK .i64 v 1)))) (some (.inr (.inl ())))
noncomputable def QhE (a:List Int) (capacity:List Int):Option Bool:=br (neI (lenI a) (lenI capacity)) (some false) (bnd (loopF (fun s=>Qez a capacity s) 0) (fun e=>sel e (fun (_:Unit)=>some true) (fun r=>some r)))
noncomputable def QkK (t:Qai) (l:Qae):Option (List Qae):=some [l,(Qae.mk l.type_ l.visits l.place (addK .i64 l.time t.rest_) 0 l.miles l.load l.done l.open_)]
noncomputable def Qfo (x0:Qac) (kind:Int) (x1:Qai) (l:List Int) (r2:List Int) (open_:Int) (time:Int) (load:List Int) (open_1:Int) (v:Int):Option ((Int×Int×List Int×Int×Int)⊕((Int×Int×List Int×Int)⊕(List Qae))):=br (ltI v (lenI r2)) (bnd (getI r2 v) fun x2=>bnd (getI x0.orders x2) fun x3=>bnd (QhB (Qai.mk x1.name x1.count x1.from_ x1.to_ x1.cap x1.skills x1.profile open_ x1.close x1.drive x1.rest_ x1.fixed x1.perMile x1.perTick) x3.skills) fun r3=>br r3 (br (ltI x3.pick.place 0) (bnd (QoW load x3.load) fun r4=>chk ((0:Int)≤(cvK .u64 x2)) (some (.inl (open_,time,r4.1,(orK .i64 open_1 (shlK .i64 1 (cvK .u64 x2))),(addK .i64 v 1))))) (some (.inl (open_,time,load,open_1,(addK .i64 v 1))))) (some (.inr (.inr [])))) (some (.inr (.inl (open_,time,load,open_1))))
noncomputable def QkB (x0:Qac) (kind:Int) (set_:Int):Option (List Qae):=br ((ltI kind 0)||(geI kind (lenI x0.types))) (some []) (bnd (Qmm x0 set_) fun r=>br r (bnd (QkJ x0 set_) fun r1=>br r1 (bnd (getI x0.types kind) fun x1=>bnd (mkI (lenI x1.cap) (lenI x1.cap) 8 0) fun l=>bnd (QfC set_) fun r2=>bnd (loopF (fun s=>Qfo x0 kind x1 l r2 s.1 s.2.1 s.2.2.1 s.2.2.2.1 s.2.2.2.2) (x1.open_,x1.open_,l,0,0)) (fun e=>sel e (fun e0=>(fun open_2 time1 load1 open_3=>bnd (QhE load1 x1.cap) fun r5=>br r5 (bnd (QkK (Qai.mk x1.name x1.count x1.from_ x1.to_ x1.cap x1.skills x1.profile open_2 x1.close x1.drive x1.rest_ x1.fixed x1.perMile x1.perTick) (Qae.mk kind [] x1.from_ time1 0 0 load1 0 open_3)) fun r6=>some r6) (some [])) e0.1 e0.2.1 e0.2.2.1 e0.2.2.2) (fun r7=>some r7))) (some [])) (some []))
noncomputable def QhA (n:Qal) (i:Int):Option Bool:=some ((geI i 0)&&(ltI i (lenI n.places)))
noncomputable def QlV (a:Qao):Option Qhi:=some (Qhi.mk a.from_ a.to_ a.profile)
noncomputable def QfU (n:Qal) (profile:Int) (from_:Int) (to_:Int) (v:Int):Option ((Int)⊕((Unit)⊕(Qao×Bool))):=br (ltI v (lenI n.arcs)) (bnd (getI n.arcs v) fun x0=>bnd (QlV x0) fun r=>br (eqI r.from_ from_&&(eqI r.to_ to_&&(eqI r.profile profile&&true))) (some (.inr (.inr (x0,true)))) (some (.inl (addK .i64 v 1)))) (some (.inr (.inl ())))
noncomputable def Qlj (n:Qal) (profile:Int) (from_:Int) (to_:Int):Option (Qao×Bool):=bnd (loopF (fun s=>QfU n profile from_ to_ s) 0) (fun e=>sel e (fun (_:Unit)=>some ((Qao.mk 0 0 0 0 [] []),false)) (fun r1=>some r1))
noncomputable def Qfn (n:Int) (least:Int) (most:Int):Option Bool:=some ((geI n least)&&(leI n most))
noncomputable def QoL (i:Int):Option ByteArray:=br (ltI i 10) (bnd (slcS Ql2 i (addK .i64 i 1)) fun s0=>some (Ql2.extract (i:Int).toNat ((addK .i64 i 1):Int).toNat)) (bnd (slcS Ql1 (mulK .i64 i 2) (addK .i64 (mulK .i64 i 2) 2)) fun s1=>some (Ql1.extract ((mulK .i64 i 2):Int).toNat ((addK .i64 (mulK .i64 i 2) 2):Int).toNat))
noncomputable def QrJ (x0:Int):Option Int:=some (shrK .i64 (mulK .i64 x0 78913) 18)
noncomputable def Qrk (x2:Int) (n1:Int):Option Int:=br (geI x2 256) (bnd (getS Ql3 (cvK .u8 (shrK .u64 x2 8))) fun b=>some (addK .i64 (addK .i64 n1 8) (cvK .i64 (byteI b)))) (bnd (getS Ql3 (cvK .u8 x2)) fun b1=>some (addK .i64 n1 (cvK .i64 (byteI b1))))
noncomputable def Qrj (x1:Int) (n:Int):Option Int:=br (geI x1 65536) (Qrk (shrK .u64 x1 16) (addK .i64 n 16)) (Qrk x1 n)
noncomputable def QwR (x0:Int):Option Int:=br (geI x0 4294967296) (Qrj (shrK .u64 x0 32) 32) (Qrj x0 0)
noncomputable def QrK (d:Int):Option Int:=bnd (QwR d) fun r=>bnd (QrJ r) fun r1=>none
noncomputable def QfD (i:Int) (u:Int):Option ByteArray:=bnd (QrK u) fun r1=>none
noncomputable def QjK (i:Int) (base:Int):Option ByteArray:=br (eqI base 10) (br ((leI 0 i)&&(ltI i 100)) (bnd (QoL i) fun r=>some r) (br (ltI i 0) (QfD i (subK .u64 0 (cvK .u64 i))) (QfD i (cvK .u64 i)))) (none)
noncomputable def Qp7 (i:Int):Option ByteArray:=bnd (QjK i 10) fun r=>some r
noncomputable def Qkv (i:Int):Option ByteArray:=bnd (Qp7 i) fun r=>some r
noncomputable def Qg8 (l:List Qak) (v:Int) (x0:Qak) (r:ByteArray) (l3:List Qab):Option ((List Qab×Int)⊕(List Qab)):=br (gtI v 0) (bnd (getI l (subK .i64 v 1)) fun x1=>br (leI x0.t x1.t) (chk (okN (l3++[(Qab.mk 13 r)]).length 24) (some (.inl ((l3++[(Qab.mk 13 r)]),(addK .i64 v 1))))) (br (ltI x0.a x1.a) (chk (okN (l3++[(Qab.mk 13 r)]).length 24) (some (.inl ((l3++[(Qab.mk 13 r)]),(addK .i64 v 1))))) (some (.inl (l3,(addK .i64 v 1)))))) (some (.inl (l3,(addK .i64 v 1))))
noncomputable def Qdu (l:List Qak) (l2:List Qab) (v:Int):Option ((List Qab×Int)⊕(List Qab)):=br (ltI v (lenI l)) (bnd (getI l v) fun x0=>bnd (Qkv v) fun r=>bnd (Qfn x0.t 0 4096) fun r1=>br (((!r1)||(ltI x0.a x0.t))||(gtI x0.a (addK .i64 x0.t 4096))) (chk (okN (l2++[(Qab.mk 2 r)]).length 24) (Qg8 l v x0 r (l2++[(Qab.mk 2 r)]))) (Qg8 l v x0 r l2)) (some (.inr l2))
noncomputable def Qg7 (l:List Qak) (l1:List Qab):Option (List Qab):=bnd (loopF (fun s=>Qdu l s.1 s.2) (l1,0)) (fun l4=>some l4)
noncomputable def Qlu (l:List Qak):Option (List Qab):=br ((eqI (lenI l) 0)||(gtI (lenI l) 16)) (chk (okN [(Qab.mk 4 ByteArray.empty)].length 24) (Qg7 l [(Qab.mk 4 ByteArray.empty)])) (Qg7 l [])
noncomputable def Qlv (l:List Qak):Option Bool:=bnd (Qlu l) fun r=>some (eqI (lenI r) 0)
noncomputable def QeU (p:Qak) (t:Int):Option Int:=some (subK .i64 p.t t)
noncomputable def Qax (x0:List Qak) (target:Int) (i:Int) (j:Int):Option ((Int×Int)⊕(Int)):=br (ltI i j) (bnd (getI x0 (cvK .i64 (shrK .u64 (cvK .u64 (addK .i64 i j)) 1))) fun x1=>bnd (QeU x1 target) fun r=>br (ltI r 0) (some (.inl ((addK .i64 (cvK .i64 (shrK .u64 (cvK .u64 (addK .i64 i j)) 1)) 1),j))) (some (.inl (i,(cvK .i64 (shrK .u64 (cvK .u64 (addK .i64 i j)) 1)))))) (some (.inr i))
noncomputable def QaJ (x0:List Qak) (target:Int):Option (Int×Bool):=bnd (loopF (fun s=>Qax x0 target s.1 s.2) (0,(lenI x0))) (fun i1=>br (ltI i1 (lenI x0)) (bnd (getI x0 i1) fun x2=>bnd (QeU x2 target) fun r1=>some (i1,(eqI r1 0))) (some (i1,false)))
noncomputable def QjA (l:List Qak) (t:Int):Option Int:=bnd (QaJ l t) fun r=>br r.2 (bnd (getI l r.1) fun x0=>some x0.a) (br (eqI r.1 0) (bnd (getI l 0) fun x1=>some (subK .i64 (addK .i64 t x1.a) x1.t)) (br (eqI r.1 (lenI l)) (bnd (getI l (subK .i64 r.1 1)) fun x2=>some (subK .i64 (addK .i64 t x2.a) x2.t)) (bnd (getI l (subK .i64 r.1 1)) fun x3=>bnd (getI l r.1) fun x4=>chk (((subK .i64 x4.t x3.t):Int)≠0) (some (addK .i64 x3.a (quoK .i64 (subK .i64 (addK .i64 (mulK .i64 (subK .i64 t x3.t) (subK .i64 x4.a x3.a)) (subK .i64 x4.t x3.t)) 1) (subK .i64 x4.t x3.t)))))))
noncomputable def Qjz (l:List Qak) (t:Int):Option Int:=bnd (Qfn t 0 1073741824) fun r=>br r (bnd (Qlv l) fun r1=>br r1 (bnd (QjA l t) fun r2=>some r2) (some 0)) (some 0)
noncomputable def QgG (a:Qao) (t:Int) (out:Int) (v:Int):Option ((Int×Int)⊕(Int)):=br (ltI v (lenI a.slow)) (bnd (getI a.slow v) fun x0=>br (leI x0.t t) (some (.inl ((addK .i64 out x0.a),(addK .i64 v 1)))) (some (.inl (out,(addK .i64 v 1))))) (some (.inr out))
noncomputable def Qg5 (a:Qao) (t:Int):Option Int:=bnd (Qjz a.travel t) fun r=>bnd (loopF (fun s=>QgG a t s.1 s.2) (r,0)) (fun out1=>some out1)
noncomputable def QmK (n:Qal) (profile:Int) (from_:Int) (to_:Int) (t:Int):Option (Int×Int×Int):=bnd (QhA n from_) fun r=>br r (bnd (QhA n to_) fun r1=>br r1 (br (eqI from_ to_) (some (t,0,0)) (bnd (Qlj n profile from_ to_) fun r2=>br r2.2 (bnd (Qg5 r2.1 t) fun r3=>some (r3,r2.1.miles,0)) (some (0,0,12)))) (some (0,0,11))) (some (0,0,11))
noncomputable def Qjv (kind:Int) (own:Int):Option Bool:=some ((neI kind (-1))&&(neI kind own))
noncomputable def Qh2 (x0:Qac) (r:QaF) (s0:Qa0) (x1:Qai) (l:List (Int×Int)) (other:Int) (v:Int) (x2:Qaa) (x3:Qag) (moved1:Int):Option ((List (Int×Int)×Int×Int×Int)⊕(Int×Int)):=bnd (Qjv x3.last_ r.type_) fun r2=>br r2 (some (.inl ((mPut eqI l x2.order (addK .i64 (mGet eqI l x2.order 0) 1)),moved1,(addK .i64 other 1),(addK .i64 v 1)))) (some (.inl ((mPut eqI l x2.order (addK .i64 (mGet eqI l x2.order 0) 1)),moved1,other,(addK .i64 v 1))))
noncomputable def Qdt (x0:Qac) (r:QaF) (s0:Qa0) (x1:Qai) (l:List (Int×Int)) (moved:Int) (other:Int) (v:Int):Option ((List (Int×Int)×Int×Int×Int)⊕(Int×Int)):=br (ltI v (lenI r.visits)) (bnd (getI r.visits v) fun x2=>br ((ltI x2.order 0)||(geI x2.order (lenI x0.orders))) (some (.inl ((mPut eqI l x2.order (addK .i64 (mGet eqI l x2.order 0) 1)),moved,other,(addK .i64 v 1)))) (br (gtI (mGet eqI (mPut eqI l x2.order (addK .i64 (mGet eqI l x2.order 0) 1)) x2.order 0) 1) (some (.inl ((mPut eqI l x2.order (addK .i64 (mGet eqI l x2.order 0) 1)),moved,other,(addK .i64 v 1)))) (bnd (getI x0.orders x2.order) fun x3=>bnd (Qjv x3.now r.type_) fun r1=>br r1 (Qh2 x0 r s0 x1 l other v x2 x3 (addK .i64 moved 1)) (Qh2 x0 r s0 x1 l other v x2 x3 moved)))) (some (.inr (moved,other)))
noncomputable def QkD (x0:Qac) (r:QaF) (s0:Qa0):Option QaL:=br ((ltI r.type_ 0)||(geI r.type_ (lenI x0.types))) (some (QaL.mk 0 0 0 0)) (bnd (getI x0.types r.type_) fun x1=>bnd (loopF (fun s=>Qdt x0 r s0 x1 s.1 s.2.1 s.2.2.1 s.2.2.2) ([],0,0,0)) (fun e0=>(fun moved2 other1=>some (QaL.mk (addK .i64 (addK .i64 x1.fixed (mulK .i64 x1.perMile s0.miles)) (mulK .i64 x1.perTick (subK .i64 s0.end_ x1.open_))) moved2 other1 (mulK .i64 (quoK .i64 (subK .i64 s0.end_ x1.open_) 64) (quoK .i64 (subK .i64 s0.end_ x1.open_) 64)))) e0.1 e0.2))
noncomputable def QmM (s0:QaL):Option Qwf:=some (Qwf.mk s0.cost s0.moved s0.other s0.work)
noncomputable def QfA (s0:QaL):Option (Int×Int):=bnd (QmM s0) fun r=>br (ltI r.x0 0) (some (0,2)) (br (ltI r.x1 0) (some (0,2)) (br (ltI r.x2 0) (some (0,2)) (br (ltI r.x3 0) (some (0,2)) (br ((((gtI s0.cost 1073741824)||(geI s0.moved 16))||(geI s0.other 16))||(geI s0.work 65536)) (some (0,4)) (some ((addK .i64 (mulK .i64 (addK .i64 (mulK .i64 (addK .i64 (mulK .i64 s0.cost 16) s0.moved) 16) s0.other) 65536) s0.work),0))))))
noncomputable def QkA (x0:Qac) (l:Qae):Option (Int×Int×Bool):=br ((((eqI (lenI l.visits) 0)||(neI l.open_ 0))||(ltI l.type_ 0))||(geI l.type_ (lenI x0.types))) (some (0,0,false)) (bnd (getI x0.types l.type_) fun x1=>bnd (QmK x0.net x1.profile l.place x1.to_ l.time) fun r=>br (((neI r.2.2 0)||(gtI (subK .i64 (addK .i64 l.driven r.1) l.time) x1.drive))||(gtI r.1 x1.close)) (some (0,0,false)) (bnd (QkD x0 (QaF.mk l.type_ 0 [] l.visits) (Qa0.mk false 0 [] r.1 (addK .i64 l.miles r.2.1))) fun r1=>bnd (QfA r1) fun r2=>br (neI r2.2 0) (some (0,0,false)) (some (r.1,r2.1,true))))
noncomputable def QkC (l:List Qag) (at_:Int):Option Bool:=some ((geI at_ 0)&&(ltI at_ (lenI l)))
noncomputable def Qjt (x1:Qas):Option (Qas×Int):=br (ltI x1.place 0) (some ((Qas.mk 0 0 0 0),19)) (some (x1,0))
noncomputable def QoC (l:List Qag) (v:Qaa):Option (Qas×Int):=bnd (QkC l v.order) fun r=>br r (bnd (getI l v.order) fun x0=>br v.drop (Qjt x0.drop) (Qjt x0.pick)) (some ((Qas.mk 0 0 0 0),2))
noncomputable def Qdr (x0:Qac) (l:Qae) (v:Qaa) (x1:Qag) (v1:Int):Option ((Int)⊕((Unit)⊕(Bool))):=br (ltI v1 (lenI x0.apart)) (bnd (getI x0.apart v1) fun x3=>br (eqI x3.x0 v.order) (bnd (QbN (orK .i64 l.done l.open_) x3.x1) fun r2=>br r2 (some (.inr (.inr false))) (br (eqI x3.x1 v.order) (bnd (QbN (orK .i64 l.done l.open_) x3.x0) fun r3=>br r3 (some (.inr (.inr false))) (some (.inl (addK .i64 v1 1)))) (some (.inl (addK .i64 v1 1))))) (br (eqI x3.x1 v.order) (bnd (QbN (orK .i64 l.done l.open_) x3.x0) fun r4=>br r4 (some (.inr (.inr false))) (some (.inl (addK .i64 v1 1)))) (some (.inl (addK .i64 v1 1))))) (some (.inr (.inl ())))
noncomputable def QcY (x0:Qac) (l:Qae) (v:Qaa) (x1:Qag) (v2:Int):Option ((Int)⊕((Unit)⊕(Bool))):=br (ltI v2 (lenI x0.before)) (bnd (getI x0.before v2) fun x4=>br (eqI x4.x1 v.order) (bnd (QbN l.done x4.x0) fun r6=>br r6 (bnd (QbN l.open_ x4.x0) fun r7=>br r7 (some (.inr (.inr false))) (some (.inl (addK .i64 v2 1)))) (some (.inr (.inr false)))) (some (.inl (addK .i64 v2 1)))) (some (.inr (.inl ())))
noncomputable def Qds (x0:Qac) (l:Qae) (v:Qaa) (x1:Qag) (v3:Int):Option ((Int)⊕((Unit)⊕(Bool))):=br (ltI v3 (lenI x0.apart)) (bnd (getI x0.apart v3) fun x5=>br (eqI x5.x0 v.order) (bnd (QbN (orK .i64 l.done l.open_) x5.x1) fun r11=>br r11 (some (.inr (.inr false))) (br (eqI x5.x1 v.order) (bnd (QbN (orK .i64 l.done l.open_) x5.x0) fun r12=>br r12 (some (.inr (.inr false))) (some (.inl (addK .i64 v3 1)))) (some (.inl (addK .i64 v3 1))))) (br (eqI x5.x1 v.order) (bnd (QbN (orK .i64 l.done l.open_) x5.x0) fun r13=>br r13 (some (.inr (.inr false))) (some (.inl (addK .i64 v3 1)))) (some (.inl (addK .i64 v3 1))))) (some (.inr (.inl ())))
noncomputable def QcZ (x0:Qac) (l:Qae) (v:Qaa) (x1:Qag) (v4:Int):Option ((Int)⊕((Unit)⊕(Bool))):=br (ltI v4 (lenI x0.before)) (bnd (getI x0.before v4) fun x6=>br (eqI x6.x1 v.order) (bnd (QbN l.done x6.x0) fun r15=>br r15 (bnd (QbN l.open_ x6.x0) fun r16=>br r16 (some (.inr (.inr false))) (some (.inl (addK .i64 v4 1)))) (some (.inr (.inr false)))) (some (.inl (addK .i64 v4 1)))) (some (.inr (.inl ())))
noncomputable def Qmp (x0:Qac) (l:Qae) (v:Qaa):Option Bool:=bnd (getI x0.orders v.order) fun x1=>br x1.off (some false) (bnd (getI x0.types l.type_) fun x2=>bnd (QhB x2 x1.skills) fun r=>br r (br v.drop (bnd (QbN l.open_ v.order) fun r1=>br r1 (bnd (loopF (fun s=>Qdr x0 l v x1 s) 0) (fun e=>sel e (fun (_:Unit)=>bnd (QbN l.done v.order) fun r5=>br r5 (some true) (bnd (loopF (fun s=>QcY x0 l v x1 s) 0) (fun e=>sel e (fun (_:Unit)=>some true) (fun r8=>some r8)))) (fun r9=>some r9))) (some false)) (bnd (QbN l.done v.order) fun r10=>br r10 (some false) (bnd (loopF (fun s=>Qds x0 l v x1 s) 0) (fun e=>sel e (fun (_:Unit)=>bnd (QbN l.done v.order) fun r14=>br r14 (some true) (bnd (loopF (fun s=>QcZ x0 l v x1 s) 0) (fun e=>sel e (fun (_:Unit)=>some true) (fun r17=>some r17)))) (fun r18=>some r18))))) (some false))
noncomputable def Qnk (s0:Qas) (arrive:Int):Option (Int×Int):=br (gtI (maxI arrive s0.open_) s0.close) (some (0,14)) (some ((maxI arrive s0.open_),0))
noncomputable def QjB (s0:Qas) (arrive:Int):Option (Int×Int):=bnd (Qnk s0 arrive) fun r=>br (neI r.2 0) (some (0,r.2)) (some ((addK .i64 r.1 s0.service),0))
noncomputable def QoX (a:Int) (b:Int):Option Int:=some (subK .i64 a b)
noncomputable def Qbm (a:List Int) (b:List Int) (l:List Int) (l1:List Int) (v:Int):Option ((List Int×Int)⊕(List Int)):=br (ltI v (lenI a)) (bnd (getI a v) fun x0=>bnd (getI b v) fun x1=>bnd (QoX x0 x1) fun r=>bnd (getI l1 v) fun x2=>some (.inl ((setI l1 v r),(addK .i64 v 1)))) (some (.inr l1))
noncomputable def QfZ (a:List Int) (b:List Int):Option (List Int×Int):=br (neI (lenI a) (lenI b)) (some ([],2)) (bnd (mkI (lenI a) (lenI a) 8 0) fun l=>bnd (loopF (fun s=>Qbm a b l s.1 s.2) (l,0)) (fun l2=>some (l2,0)))
noncomputable def Qqf (a:List Int) (b:List Int):Option (List Int×Int):=bnd (QfZ a b) fun r=>some (r.1,r.2)
noncomputable def QkI (x0:Qac) (l:Qae) (v:Qaa):Option (List Int):=br v.drop (bnd (getI x0.orders v.order) fun x1=>bnd (Qqf l.load x1.load) fun r=>some r.1) (bnd (getI x0.orders v.order) fun x2=>bnd (QoW l.load x2.load) fun r1=>some r1.1)
noncomputable def QeO (l:Qae) (v:Qaa) (r:Qas×Int) (x1:Qai) (r2:Int×Int×Int) (r3:Int×Int) (r4:List Int) (l1:List Qaa) (open_:Int):Option (List Qae):=bnd (QkK x1 (Qae.mk l.type_ ((cpyL l1 l.visits)++[v]) r.1.place r3.1 (subK .i64 (addK .i64 l.driven r2.1) l.time) (addK .i64 l.miles r2.2.1) r4 (orK .i64 l.done (shlK .i64 1 (cvK .u64 v.order))) open_)) fun r6=>some r6
noncomputable def Qiw (x0:Qac) (l:Qae) (v:Qaa):Option (List Qae):=br ((ltI l.type_ 0)||(geI l.type_ (lenI x0.types))) (some []) (bnd (QoC x0.orders v) fun r=>br (neI r.2 0) (some []) (bnd (Qmp x0 l v) fun r1=>br r1 (bnd (getI x0.types l.type_) fun x1=>bnd (QmK x0.net x1.profile l.place r.1.place l.time) fun r2=>br (((neI r2.2.2 0)||(gtI (subK .i64 (addK .i64 l.driven r2.1) l.time) x1.drive))||(gtI r2.1 r.1.close)) (some []) (bnd (QjB r.1 r2.1) fun r3=>bnd (QkI x0 l v) fun r4=>br (neI r3.2 0) (some []) (bnd (QhE r4 x1.cap) fun r5=>br r5 (bnd (mkI (lenI l.visits) (addK .i64 (lenI l.visits) 1) 16 (Qaa.mk 0 false)) fun l1=>chk (okN ((cpyL l1 l.visits)++[v]).length 16) (chk ((0:Int)≤(cvK .u64 v.order)) (br v.drop (QeO l v r x1 r2 r3 r4 l1 (Qpr .i64 l.open_ (shlK .i64 1 (cvK .u64 v.order)))) (bnd (getI x0.orders v.order) fun x2=>br (geI x2.drop.place 0) (QeO l v r x1 r2 r3 r4 l1 (orK .i64 l.open_ (shlK .i64 1 (cvK .u64 v.order)))) (QeO l v r x1 r2 r3 r4 l1 l.open_))))) (some [])))) (some [])))
noncomputable def QcW (before:List Qap) (l:List Int) (l2:List Int) (more1:Bool) (v:Int):Option ((List Int×Bool×Int)⊕(List Int×Bool)):=br (ltI v (lenI before)) (bnd (getI before v) fun x0=>br ((((ltI x0.x0 0)||(ltI x0.x1 0))||(geI x0.x0 (lenI l2)))||(geI x0.x1 (lenI l2))) (some (.inl (l2,more1,(addK .i64 v 1)))) (bnd (getI l2 x0.x1) fun x1=>bnd (getI l2 x0.x0) fun x2=>chk ((0:Int)≤x0.x0) (br (neI (orK .i64 (orK .i64 x1 x2) (shlK .i64 1 x0.x0)) x1) (some (.inl ((setI l2 x0.x1 (orK .i64 (orK .i64 x1 x2) (shlK .i64 1 x0.x0))),true,(addK .i64 v 1)))) (some (.inl (l2,more1,(addK .i64 v 1))))))) (some (.inr (l2,more1)))
noncomputable def QcV (before:List Qap) (l:List Int) (l1:List Int) (more:Bool):Option ((List Int×Bool)⊕(List Int)):=br more (bnd (loopF (fun s=>QcW before l s.1 s.2.1 s.2.2) (l1,false,0)) (fun e0=>(fun l3 more2=>some (.inl (l3,more2))) e0.1 e0.2)) (some (.inr l1))
noncomputable def Qep (orders:Int) (before:List Qap):Option (List Int):=bnd (mkI (maxI orders 0) (maxI orders 0) 8 0) fun l=>bnd (loopF (fun s=>QcV before l s.1 s.2) (l,true)) (fun l4=>some l4)
noncomputable def QaS (x0:Qac) (set_:Int) (r:List Int) (v:Int):Option ((Int)⊕((Unit)⊕(Int))):=br (ltI v (lenI r)) (bnd (getI r v) fun x1=>br (geI x1 (lenI x0.orders)) (some (.inr (.inr 2))) (some (.inl (addK .i64 v 1)))) (some (.inr (.inl ())))
noncomputable def QaQ (x0:Qac) (set_:Int) (r:List Int) (v1:Int):Option ((Int)⊕((Unit)⊕(Int))):=br (ltI v1 (lenI r)) (bnd (getI r v1) fun x2=>bnd (getI x0.orders x2) fun x3=>br x3.off (some (.inr (.inr 9))) (some (.inl (addK .i64 v1 1)))) (some (.inr (.inl ())))
noncomputable def QaI (x0:Qac) (set_:Int) (r:List Int) (v2:Int):Option ((Int)⊕((Unit)⊕(Int))):=br (ltI v2 (lenI x0.apart)) (bnd (getI x0.apart v2) fun x4=>bnd (QbN set_ x4.x0) fun r1=>br r1 (bnd (QbN set_ x4.x1) fun r2=>br r2 (some (.inr (.inr 20))) (some (.inl (addK .i64 v2 1)))) (some (.inl (addK .i64 v2 1)))) (some (.inr (.inl ())))
noncomputable def QaH (x0:Qac) (set_:Int) (r:List Int) (v3:Int):Option ((Int)⊕((Unit)⊕(Int))):=br (ltI v3 (lenI x0.before)) (bnd (getI x0.before v3) fun x5=>bnd (QbN set_ x5.x1) fun r3=>br r3 (bnd (QbN set_ x5.x0) fun r4=>br r4 (some (.inl (addK .i64 v3 1))) (some (.inr (.inr 21)))) (some (.inl (addK .i64 v3 1)))) (some (.inr (.inl ())))
noncomputable def QaE (r:List Int) (r5:List Int) (v4:Int):Option ((Int)⊕((Unit)⊕(Int))):=br (ltI v4 (lenI r)) (bnd (getI r v4) fun x6=>bnd (getI r5 x6) fun x7=>bnd (QbN x7 x6) fun r6=>br r6 (some (.inr (.inr 21))) (some (.inl (addK .i64 v4 1)))) (some (.inr (.inl ())))
noncomputable def Qdz (x0:Qac) (set_:Int):Option Int:=br (ltI set_ 0) (some 2) (bnd (QfC set_) fun r=>bnd (loopF (fun s=>QaS x0 set_ r s) 0) (fun e=>sel e (fun (_:Unit)=>bnd (loopF (fun s=>QaQ x0 set_ r s) 0) (fun e=>sel e (fun (_:Unit)=>bnd (loopF (fun s=>QaI x0 set_ r s) 0) (fun e=>sel e (fun (_:Unit)=>bnd (loopF (fun s=>QaH x0 set_ r s) 0) (fun e=>sel e (fun (_:Unit)=>bnd (Qep (lenI x0.orders) x0.before) fun r5=>bnd (loopF (fun s=>QaE r r5 s) 0) (fun e=>sel e (fun (_:Unit)=>some 0) (fun r7=>some r7))) (fun r8=>some r8))) (fun r9=>some r9))) (fun r10=>some r10))) (fun r11=>some r11)))
noncomputable def Qbw (x0:Qac) (set_:Int) (v:Int):Option ((Int)⊕((Unit)⊕(Bool))):=br (ltI v (lenI x0.orders)) (bnd (getI x0.orders v) fun x1=>chk ((0:Int)≤v) (br ((eqI (andK .i64 (shrK .i64 set_ v) 1) 1)&&x1.off) (some (.inr (.inr true))) (some (.inl (addK .i64 v 1))))) (some (.inr (.inl ())))
noncomputable def Qfe (x0:Qac) (set_:Int):Option Bool:=bnd (loopF (fun s=>Qbw x0 set_ s) 0) (fun e=>sel e (fun (_:Unit)=>bnd (Qdz x0 set_) fun r=>some (neI r 0)) (fun r1=>some r1))
noncomputable def QfV (l:List Qag) (at_:Int) (l1:List Qaa):Option (List Qaa):=bnd (getI l at_) fun x1=>br (geI x1.drop.place 0) (chk (okN (l1++[(Qaa.mk at_ true)]).length 16) (some (l1++[(Qaa.mk at_ true)]))) (some l1)
noncomputable def Qgu (l:List Qag) (at_:Int):Option (List Qaa):=bnd (QkC l at_) fun r=>br r (bnd (getI l at_) fun x0=>br (geI x0.pick.place 0) (chk (okN [(Qaa.mk at_ false)].length 16) (QfV l at_ [(Qaa.mk at_ false)])) (QfV l at_ [])) (some [])
noncomputable def Qaz (s0:List Qaa) (v:Qaa) (v1:Int):Option ((Int)⊕((Unit)⊕(Int))):=br (ltI v1 (lenI s0)) (bnd (getI s0 v1) fun x0=>br (eqI v.order x0.order&&(eqB v.drop x0.drop&&true)) (some (.inr (.inr v1))) (some (.inl (addK .i64 v1 1)))) (some (.inr (.inl ())))
noncomputable def QbQ (s0:List Qaa) (v:Qaa):Option Int:=bnd (loopF (fun s=>Qaz s0 v s) 0) (fun e=>sel e (fun (_:Unit)=>some (-1)) (fun r=>some r))
noncomputable def QfB (l:List Qaa) (v:Qaa):Option Int:=bnd (QbQ l v) fun r=>some r
noncomputable def Qcl (x0:Qac) (l:List Qaa) (v:Qaa) (r1:List Qaa) (v1:Int):Option ((Int)⊕((Unit)⊕(Bool))):=br (ltI v1 (lenI r1)) (bnd (getI r1 v1) fun x1=>br (eqI x1.order v.order&&(eqB x1.drop v.drop&&true)) (some (.inr (.inl ()))) (bnd (QfB l x1) fun r2=>br (ltI r2 0) (some (.inr (.inr false))) (some (.inl (addK .i64 v1 1))))) (some (.inr (.inl ())))
noncomputable def QcH (x0:Qac) (l:List Qaa) (v:Qaa) (v2:Int) (r3:List Qaa) (v3:Int):Option ((Int)⊕((Unit)⊕(Bool))):=br (ltI v3 (lenI r3)) (bnd (getI r3 v3) fun x3=>bnd (QfB l x3) fun r4=>br (ltI r4 0) (some (.inr (.inr false))) (some (.inl (addK .i64 v3 1)))) (some (.inr (.inl ())))
noncomputable def Qcm (x0:Qac) (l:List Qaa) (v:Qaa) (v2:Int):Option ((Int)⊕((Unit)⊕(Bool))):=br (ltI v2 (lenI x0.before)) (bnd (getI x0.before v2) fun x2=>br (neI x2.x1 v.order) (some (.inl (addK .i64 v2 1))) (bnd (Qgu x0.orders x2.x0) fun r3=>bnd (loopF (fun s=>QcH x0 l v v2 r3 s) 0) (fun e=>sel e (fun (_:Unit)=>some (.inl (addK .i64 v2 1))) (fun r5=>some (.inr (.inr r5)))))) (some (.inr (.inl ())))
noncomputable def Qh5 (x0:Qac) (l:List Qaa) (v:Qaa):Option Bool:=bnd (QfB l v) fun r=>br (geI r 0) (some false) (bnd (Qgu x0.orders v.order) fun r1=>bnd (loopF (fun s=>Qcl x0 l v r1 s) 0) (fun e=>sel e (fun (_:Unit)=>bnd (loopF (fun s=>Qcm x0 l v s) 0) (fun e=>sel e (fun (_:Unit)=>some true) (fun r6=>some r6))) (fun r7=>some r7)))
noncomputable def Qc4 (x0:Qac) (set_:Int) (l:List Qaa) (v:Int) (r:List Qaa) (l2:List Qaa) (v1:Int):Option ((List Qaa×Int)⊕(List Qaa)):=br (ltI v1 (lenI r)) (bnd (getI r v1) fun x2=>bnd (Qh5 x0 l x2) fun r1=>br r1 (chk (okN (l2++[x2]).length 16) (some (.inl ((l2++[x2]),(addK .i64 v1 1))))) (some (.inl (l2,(addK .i64 v1 1))))) (some (.inr l2))
noncomputable def QcF (x0:Qac) (set_:Int) (l:List Qaa) (l1:List Qaa) (v:Int):Option ((List Qaa×Int)⊕(List Qaa)):=br (ltI v (lenI x0.orders)) (bnd (getI x0.orders v) fun x1=>br (gtI v 62) (some (.inl (l1,(addK .i64 v 1)))) (chk ((0:Int)≤v) (br ((eqI (andK .i64 (shrK .i64 set_ v) 1) 0)||x1.off) (some (.inl (l1,(addK .i64 v 1)))) (bnd (Qgu x0.orders v) fun r=>bnd (loopF (fun s=>Qc4 x0 set_ l v r s.1 s.2) (l1,0)) (fun l3=>some (.inl (l3,(addK .i64 v 1)))))))) (some (.inr l1))
noncomputable def Qjy (x0:Qac) (set_:Int) (l:List Qaa):Option (List Qaa):=bnd (loopF (fun s=>QcF x0 set_ l s.1 s.2) ([],0)) (fun l4=>some l4)
noncomputable def Qbr (s0:List Qaa):Option (List Qaa):=bnd (slcI s0 0 (lenI s0)) fun l=>some l
noncomputable def Qck (self:(List Qaa)→Int→(List (List Qaa))→Qac→Int→Option (Bool×Int×List (List Qaa)×Qac×Int)) (l:List Qaa) (c:Int) (r:List Qaa) (l1:List (List Qaa)) (x0:Int) (x1:Qac) (x2:Int) (v:Int):Option ((List (List Qaa)×Int×Qac×Int×Int)⊕((List (List Qaa)×Int×Qac×Int)⊕(Bool×Int×List (List Qaa)×Qac×Int))):=br (ltI v (lenI r)) (bnd (getI r v) fun x3=>bnd (Qbr l) fun r1=>chk (okN (r1++[x3]).length 16) (bnd (self (r1++[x3]) x0 l1 x1 x2) fun r2=>br r2.1 (some (.inl (r2.2.2.1,r2.2.1,r2.2.2.2.1,r2.2.2.2.2,(addK .i64 v 1)))) (some (.inr (.inr (false,r2.2.1,r2.2.2.1,r2.2.2.2.1,r2.2.2.2.2)))))) (some (.inr (.inl (l1,x0,x1,x2))))
noncomputable def Qeq (self:(List Qaa)→Int→(List (List Qaa))→Qac→Int→Option (Bool×Int×List (List Qaa)×Qac×Int)) (l:List Qaa) (c:Int) (c1:List (List Qaa)) (c2:Qac) (c3:Int):Option (Bool×Int×List (List Qaa)×Qac×Int):=br (eqI (lenI l) c) (chk (okN (c1++[l]).length 24) (some ((leI (lenI (c1++[l])) 8192),c,(c1++[l]),c2,c3))) (bnd (Qjy c2 c3 l) fun r=>bnd (loopF (fun s=>Qck self l c r s.1 s.2.1 s.2.2.1 s.2.2.2.1 s.2.2.2.2) (c1,c,c2,c3,0)) (fun e=>sel e (fun e0=>(fun l2 x4 x5 x6=>some (true,x4,l2,x5,x6)) e0.1 e0.2.1 e0.2.2.1 e0.2.2.2) (fun r3=>some r3)))
noncomputable def QcE:Nat→(List Qaa)→Int→(List (List Qaa))→Qac→Int→Option (Bool×Int×List (List Qaa)×Qac×Int)|0=>fun _ _ _ _ _=>none|fuel_+1=>fun l c c1 c2 c3=>Qeq (QcE fuel_) l c c1 c2 c3
noncomputable def Qku (l:List Qaa) (c:Int) (c1:List (List Qaa)) (c2:Qac) (c3:Int):Option (Bool×Int×List (List Qaa)×Qac×Int):=QcE Qpz l c c1 c2 c3
noncomputable def QcX (x0:Qac) (set_:Int) (x1:Int) (v:Int):Option ((Int×Int)⊕(Int)):=br (ltI v (lenI x0.orders)) (chk ((0:Int)≤v) (br (eqI (andK .i64 (shrK .i64 set_ v) 1) 1) (bnd (Qgu x0.orders v) fun r1=>some (.inl ((addK .i64 x1 (lenI r1)),(addK .i64 v 1)))) (some (.inl (x1,(addK .i64 v 1)))))) (some (.inr x1))
noncomputable def Qgv (x0:Qac) (set_:Int):Option (List (List Qaa)×Int):=br (ltI set_ 0) (some ([],2)) (chk ((0:Int)≤(lenI x0.orders)) (br (neI (shrK .i64 set_ (lenI x0.orders)) 0) (some ([],2)) (br (eqI set_ 0) (some ([],0)) (bnd (Qfe x0 set_) fun r=>br r (some ([],0)) (bnd (loopF (fun s=>QcX x0 set_ s.1 s.2) (0,0)) (fun x2=>bnd (Qku [] x2 [] x0 set_) fun r2=>br r2.1 (some (r2.2.2.1,0)) (some ([],4))))))))
noncomputable def QaP (q:Qan):Option (Int×Qan):=some ((subK .i64 (lenI q.items) q.first_),q)
noncomputable def Qa2 (q:Qan):Option (Qae×Qan):=bnd (getI q.items q.first_) fun x0=>some (x0,(Qan.mk q.items (addK .i64 q.first_ 1)))
noncomputable def QaW (q:Qan) (l:List Qae):Option Qan:=chk (okN (q.items++l).length 104) (some (Qan.mk (q.items++l) q.first_))
noncomputable def Qbc (l:Qbs) (v:Qaa) (r:Int×Qan) (l1:List Qae) (first_:Int) (v1:Int):Option ((List Qae×Int×Int)⊕(List Qae×Int)):=br (ltI v1 r.1) (bnd (Qa2 (Qan.mk l1 first_)) fun r1=>bnd (Qiw l.x r1.1 v) fun r2=>bnd (QaW r1.2 r2) fun r3=>some (.inl (r3.items,r3.first_,(addK .i64 v1 1)))) (some (.inr (l1,first_)))
noncomputable def QeX (l:Qbs) (v:Qaa):Option Qbs:=bnd (QaP l.queue) fun r=>bnd (loopF (fun s=>Qbc l v r s.1 s.2.1 s.2.2) (r.2.items,r.2.first_,0)) (fun e0=>(fun l2 first_1=>some (Qbs.mk (Qan.mk l2 first_1) l.x)) e0.1 e0.2)
noncomputable def Qd1 (a:Qae) (b:Qae):Option Bool:=br ((((neI a.type_ b.type_)||(neI a.place b.place))||(neI a.done b.done))||(neI a.open_ b.open_)) (some false) (br (((leI a.time b.time)&&(leI a.driven b.driven))&&(leI a.miles b.miles)) (bnd (QhE a.load b.load) fun r=>some r) (some false))
noncomputable def Qey (l:List Qae) (next_:Qae) (v:Int):Option ((Int)⊕((Unit)⊕(List Qae))):=br (ltI v (lenI l)) (bnd (getI l v) fun x0=>bnd (Qd1 x0 next_) fun r=>br r (some (.inr (.inr l))) (some (.inl (addK .i64 v 1)))) (some (.inr (.inl ())))
noncomputable def Qd3 (l:List Qae) (next_:Qae) (l1:List Qae) (v1:Int):Option ((List Qae×Int)⊕(List Qae)):=br (ltI v1 (lenI l)) (bnd (getI l v1) fun x1=>bnd (Qd1 next_ x1) fun r1=>br r1 (some (.inl (l1,(addK .i64 v1 1)))) (chk (okN (l1++[x1]).length 104) (some (.inl ((l1++[x1]),(addK .i64 v1 1)))))) (some (.inr l1))
noncomputable def Qn4 (l:List Qae) (next_:Qae):Option (List Qae):=bnd (loopF (fun s=>Qey l next_ s) 0) (fun e=>sel e (fun (_:Unit)=>bnd (loopF (fun s=>Qd3 l next_ s.1 s.2) ([],0)) (fun l2=>chk (okN (l2++[next_]).length 104) (some (l2++[next_])))) (fun r2=>some r2))
noncomputable def Qfh (r:List (List Qaa)×Int) (r1:List Qae) (out:List Qae) (v:Int) (x2:List Qaa) (l:List Qae) (x3:Qac) (first_:Int) (x4:Qac) (v1:Int):Option ((List Qae×Qac×Int×Qac×Int)⊕(List Qae×Qac×Int×Qac)):=br (ltI v1 (lenI x2)) (bnd (getI x2 v1) fun x5=>bnd (QeX (Qbs.mk (Qan.mk l first_) x4) x5) fun r3=>some (.inl (r3.queue.items,x3,r3.queue.first_,r3.x,(addK .i64 v1 1)))) (some (.inr (l,x3,first_,x4)))
noncomputable def Qdv (r:List (List Qaa)×Int) (r1:List Qae) (v:Int) (l2:List Qae) (x8:Qac) (first_2:Int) (x9:Qac) (out1:List Qae):Option ((List Qae×Qac×Int×Qac×List Qae)⊕(Qac×List Qae)):=bnd (QaP (Qan.mk l2 first_2)) fun r4=>br (gtI r4.1 0) (bnd (Qa2 r4.2) fun r5=>bnd (QkA x8 r5.1) fun r6=>br r6.2.2 (bnd (Qn4 out1 r5.1) fun r7=>some (.inl (r5.2.items,x8,r5.2.first_,x9,r7))) (some (.inl (r5.2.items,x8,r5.2.first_,x9,out1)))) (some (.inr (x8,out1)))
noncomputable def Qd2 (r:List (List Qaa)×Int) (r1:List Qae) (x1:Qac) (out:List Qae) (v:Int):Option ((Qac×List Qae×Int)⊕(List Qae)):=br (ltI v (lenI r.1)) (bnd (getI r.1 v) fun x2=>bnd (QaW (Qan.mk [] 0) r1) fun r2=>bnd (loopF (fun s=>Qfh r r1 out v x2 s.1 s.2.1 s.2.2.1 s.2.2.2.1 s.2.2.2.2) (r2.items,x1,r2.first_,x1,0)) (fun e0=>(fun l1 x6 first_1 x7=>bnd (loopF (fun s=>Qdv r r1 v s.1 s.2.1 s.2.2.1 s.2.2.2.1 s.2.2.2.2) (l1,x6,first_1,x7,out)) (fun e0=>(fun x10 out2=>some (.inl (x10,out2,(addK .i64 v 1)))) e0.1 e0.2)) e0.1 e0.2.1 e0.2.2.1 e0.2.2.2)) (some (.inr out))
noncomputable def QhC (x0:Qac) (kind:Int) (set_:Int):Option (List Qae×Int):=br ((ltI kind 0)||(geI kind (lenI x0.types))) (some ([],2)) (bnd (Qgv x0 set_) fun r=>br (neI r.2 0) (some ([],r.2)) (bnd (QkB x0 kind set_) fun r1=>bnd (loopF (fun s=>Qd2 r r1 s.1 s.2.1 s.2.2) (x0,[],0)) (fun out3=>some (out3,0))))
noncomputable def Qel:Option Bool:=bnd (QkB (Qac.mk (Qal.mk [QjG,QjH] [(Qao.mk 0 1 0 4 [(Qak.mk 0 10)] []),(Qao.mk 1 0 0 4 [(Qak.mk 0 10)] [])]) [(Qai.mk QjJ 1 0 0 [5] 0 0 0 90 50 5 0 0 0)] [(Qag.mk QjI [3] (Qas.mk (-1) 0 0 0) (Qas.mk 1 0 80 0) 0 0 1 (-1) (-1) false)] [] []) 0 1) fun r=>br (neI (lenI r) 2) (some false) (bnd (getI r 1) fun x0=>br (neI x0.time 5) (some false) (bnd (getI r 0) fun x1=>bnd (Qiw (Qac.mk (Qal.mk [QjG,QjH] [(Qao.mk 0 1 0 4 [(Qak.mk 0 10)] []),(Qao.mk 1 0 0 4 [(Qak.mk 0 10)] [])]) [(Qai.mk QjJ 1 0 0 [5] 0 0 0 90 50 5 0 0 0)] [(Qag.mk QjI [3] (Qas.mk (-1) 0 0 0) (Qas.mk 1 0 80 0) 0 0 1 (-1) (-1) false)] [] []) x1 (Qaa.mk 0 true)) fun r1=>br (neI (lenI r1) 2) (some false) (bnd (getI r1 0) fun x2=>br (neI x2.time 10) (some false) (br (neI x2.driven 10) (some false) (br (neI x2.miles 4) (some false) (bnd (getI r1 1) fun x3=>br (neI x3.time 15) (some false) (bnd (QkA (Qac.mk (Qal.mk [QjG,QjH] [(Qao.mk 0 1 0 4 [(Qak.mk 0 10)] []),(Qao.mk 1 0 0 4 [(Qak.mk 0 10)] [])]) [(Qai.mk QjJ 1 0 0 [5] 0 0 0 90 50 5 0 0 0)] [(Qag.mk QjI [3] (Qas.mk (-1) 0 0 0) (Qas.mk 1 0 80 0) 0 0 1 (-1) (-1) false)] [] []) x2) fun r2=>bnd (QhC (Qac.mk (Qal.mk [QjG,QjH] [(Qao.mk 0 1 0 4 [(Qak.mk 0 10)] []),(Qao.mk 1 0 0 4 [(Qak.mk 0 10)] [])]) [(Qai.mk QjJ 1 0 0 [5] 0 0 0 90 50 5 0 0 0)] [(Qag.mk QjI [3] (Qas.mk (-1) 0 0 0) (Qas.mk 1 0 80 0) 0 0 1 (-1) (-1) false)] [] []) 0 1) fun r3=>some (((r2.2.2&&(eqI r2.1 20))&&(eqI r3.2 0))&&(gtI (lenI r3.1) 0)))))))))
noncomputable def Qcc (i:Int) (n:Int) (k:Int):Option ((Int×Int)⊕(Int)):=br (ltI k i) (some (.inl ((mulK .i64 2 n),(addK .i64 k 1)))) (some (.inr n))
noncomputable def QdW (i:Int):Option Int:=bnd (loopF (fun s=>Qcc i s.1 s.2) (1,0)) (fun n1=>some n1)
noncomputable def QaN (set_:Int) (i:Int):Option Bool:=br ((geI i 0)&&(leI i 62)) (bnd (QdW i) fun r=>chk ((r:Int)≠0) (some (eqI (remK (quoK .i64 set_ r) 2) 1))) (some false)
noncomputable def Qbd (set_:Int) (l:List Int) (i:Int):Option ((List Int×Int)⊕(List Int)):=br (leI i 62) (bnd (QaN set_ i) fun r=>br r (chk (okN (l++[i]).length 8) (some (.inl ((l++[i]),(addK .i64 i 1))))) (some (.inl (l,(addK .i64 i 1))))) (some (.inr l))
noncomputable def Qdh (set_:Int):Option (List Int):=bnd (loopF (fun s=>Qbd set_ s.1 s.2) ([],0)) (fun l1=>some l1)
noncomputable def QcM (t:Qai) (skills:Int) (bit:Int):Option ((Int)⊕((Unit)⊕(Bool))):=br (gtI bit 0) (chk ((bit:Int)≠0) (br (eqI (remK (quoK .i64 skills bit) 2) 1) (chk ((bit:Int)≠0) (br (eqI (remK (quoK .i64 t.skills bit) 2) 0) (some (.inr (.inr false))) (some (.inl (mulK .i64 bit 2))))) (some (.inl (mulK .i64 bit 2))))) (some (.inr (.inl ())))
noncomputable def Qd6 (t:Qai) (skills:Int):Option Bool:=br ((ltI t.skills 0)||(ltI skills 0)) (some false) (bnd (loopF (fun s=>QcM t skills s) 1) (fun e=>sel e (fun (_:Unit)=>some true) (fun r=>some r)))
noncomputable def Qci (x0:Qac) (kind:Int) (set_:Int) (r:List Int) (i:Int):Option ((Int)⊕((Unit)⊕(Bool))):=br (ltI i (lenI r)) (bnd (getI r i) fun x1=>br (geI x1 (lenI x0.orders)) (some (.inr (.inr false))) (bnd (getI x0.orders x1) fun x2=>br x2.off (some (.inr (.inr false))) (bnd (getI x0.types kind) fun x3=>bnd (Qd6 x3 x2.skills) fun r1=>br r1 (some (.inl (addK .i64 i 1))) (some (.inr (.inr false)))))) (some (.inr (.inl ())))
noncomputable def Qcj (x0:Qac) (set_:Int) (i1:Int):Option ((Int)⊕((Unit)⊕(Bool))):=br (ltI i1 (lenI x0.apart)) (bnd (getI x0.apart i1) fun x4=>bnd (QaN set_ x4.x0) fun r2=>br r2 (bnd (QaN set_ x4.x1) fun r3=>br r3 (some (.inr (.inr false))) (some (.inl (addK .i64 i1 1)))) (some (.inl (addK .i64 i1 1)))) (some (.inr (.inl ())))
noncomputable def QbP (x0:Qac) (set_:Int) (i2:Int):Option ((Int)⊕((Unit)⊕(Bool))):=br (ltI i2 (lenI x0.before)) (bnd (getI x0.before i2) fun x5=>bnd (QaN set_ x5.x1) fun r4=>br r4 (bnd (QaN set_ x5.x0) fun r5=>br r5 (some (.inl (addK .i64 i2 1))) (some (.inr (.inr false)))) (some (.inl (addK .i64 i2 1)))) (some (.inr (.inl ())))
noncomputable def Qh1 (x0:Qac) (kind:Int) (set_:Int):Option Bool:=br (((ltI kind 0)||(geI kind (lenI x0.types)))||(leI set_ 0)) (some false) (bnd (Qdh set_) fun r=>bnd (loopF (fun s=>Qci x0 kind set_ r s) 0) (fun e=>sel e (fun (_:Unit)=>bnd (loopF (fun s=>Qcj x0 set_ s) 0) (fun e=>sel e (fun (_:Unit)=>bnd (loopF (fun s=>QbP x0 set_ s) 0) (fun e=>sel e (fun (_:Unit)=>some true) (fun r6=>some r6))) (fun r7=>some r7))) (fun r8=>some r8)))
noncomputable def Qcq (l:List (List Int)) (dims:Int) (i:Int):Option ((Int)⊕((Unit)⊕(Bool))):=br (ltI i (lenI l)) (bnd (getI l i) fun x0=>br (neI (lenI x0) dims) (some (.inr (.inr false))) (some (.inl (addK .i64 i 1)))) (some (.inr (.inl ())))
noncomputable def QgY (l:List (List Int)) (dims:Int):Option Bool:=br ((ltI dims 0)||(gtI dims 3)) (some false) (bnd (loopF (fun s=>Qcq l dims s) 0) (fun e=>sel e (fun (_:Unit)=>some true) (fun r=>some r)))
noncomputable def Qcg (l:List (List Int)) (dims:Int) (l1:List Int) (d:Int) (n:Int) (i:Int):Option ((Int×Int)⊕(Int)):=br (ltI i (lenI l)) (bnd (getI l i) fun x0=>bnd (getI x0 d) fun x1=>some (.inl ((addK .i64 n x1),(addK .i64 i 1)))) (some (.inr n))
noncomputable def Qcf (l:List (List Int)) (dims:Int) (l1:List Int) (d:Int):Option ((List Int×Int)⊕(List Int)):=br (ltI d dims) (bnd (loopF (fun s=>Qcg l dims l1 d s.1 s.2) (0,0)) (fun n1=>chk (okN (l1++[n1]).length 8) (some (.inl ((l1++[n1]),(addK .i64 d 1)))))) (some (.inr l1))
noncomputable def QgC (l:List (List Int)) (dims:Int):Option (List Int×Int):=bnd (QgY l dims) fun r=>br r (bnd (loopF (fun s=>Qcf l dims s.1 s.2) ([],0)) (fun l2=>some (l2,0))) (some ([],2))
noncomputable def QbR (l:List Qag) (dims:Int) (r1:List Int) (l1:List (List Int)) (i:Int):Option ((List (List Int)×Int)⊕((List (List Int))⊕(List Int×Int))):=br (ltI i (lenI r1)) (bnd (getI r1 i) fun x0=>br (geI x0 (lenI l)) (some (.inr (.inr ([],2)))) (bnd (getI l x0) fun x1=>chk (okN (l1++[x1.load]).length 24) (some (.inl ((l1++[x1.load]),(addK .i64 i 1)))))) (some (.inr (.inl l1)))
noncomputable def QfR (l:List Qag) (set_:Int) (dims:Int):Option (List Int×Int):=br (ltI set_ 0) (some ([],2)) (bnd (Qa6 dims 0 3) fun r=>br r (bnd (Qdh set_) fun r1=>bnd (loopF (fun s=>QbR l dims r1 s.1 s.2) ([],0)) (fun e=>sel e (fun l2=>bnd (QgC l2 dims) fun r2=>some (r2.1,r2.2)) (fun r3=>some r3))) (some ([],2)))
noncomputable def Qcp (a:List Int) (capacity:List Int) (i:Int):Option ((Int)⊕((Unit)⊕(Bool))):=br (ltI i (lenI a)) (bnd (getI a i) fun x0=>bnd (getI capacity i) fun x1=>br (gtI x0 x1) (some (.inr (.inr false))) (some (.inl (addK .i64 i 1)))) (some (.inr (.inl ())))
noncomputable def Qd5 (a:List Int) (capacity:List Int):Option Bool:=br (neI (lenI a) (lenI capacity)) (some false) (bnd (loopF (fun s=>Qcp a capacity s) 0) (fun e=>sel e (fun (_:Unit)=>some true) (fun r=>some r)))
noncomputable def Qdb (x0:Qac) (l:Qad):Option (List Qad):=bnd (getI x0.types l.type_) fun x1=>some [l,(Qad.mk l.type_ l.visits l.place (addK .i64 l.time x1.rest_) 0 l.miles l.load l.done l.open_)]
noncomputable def QbE (x0:Qac) (kind:Int) (x1:Qai) (r1:List Int) (open_:Int) (open_1:Int) (i:Int):Option ((Int×Int×Int)⊕(Int×Int)):=br (ltI i (lenI r1)) (bnd (getI r1 i) fun x2=>bnd (getI x0.orders x2) fun x3=>br (ltI x3.pick.place 0) (bnd (QdW x2) fun r2=>some (.inl (open_,(addK .i64 open_1 r2),(addK .i64 i 1)))) (some (.inl (open_,open_1,(addK .i64 i 1))))) (some (.inr (open_,open_1)))
noncomputable def Qgs (x0:Qac) (kind:Int) (set_:Int):Option (List Qad):=bnd (Qh1 x0 kind set_) fun r=>br r (bnd (getI x0.types kind) fun x1=>bnd (Qdh set_) fun r1=>bnd (loopF (fun s=>QbE x0 kind x1 r1 s.1 s.2.1 s.2.2) (x1.open_,0,0)) (fun e0=>(fun open_2 open_3=>bnd (QfR x0.orders open_3 (lenI x1.cap)) fun r3=>br (neI r3.2 0) (some []) (bnd (Qd5 r3.1 x1.cap) fun r4=>br r4 (bnd (Qdb x0 (Qad.mk kind [] x1.from_ open_2 0 0 r3.1 0 open_3)) fun r5=>some r5) (some []))) e0.1 e0.2)) (some [])
noncomputable def Qek (a:Qad) (b:Qad) (i:Int):Option ((Int)⊕((Unit)⊕(Bool))):=br (ltI i (lenI a.visits)) (bnd (getI a.visits i) fun x0=>bnd (getI b.visits i) fun x1=>br (eqI x0.order x1.order&&(eqB x0.drop x1.drop&&true)) (some (.inl (addK .i64 i 1))) (some (.inr (.inr false)))) (some (.inr (.inl ())))
noncomputable def Qdm (a:Qad) (b:Qad) (i1:Int):Option ((Int)⊕((Unit)⊕(Bool))):=br (ltI i1 (lenI a.load)) (bnd (getI a.load i1) fun x2=>bnd (getI b.load i1) fun x3=>br (neI x2 x3) (some (.inr (.inr false))) (some (.inl (addK .i64 i1 1)))) (some (.inr (.inl ())))
noncomputable def QfT (a:Qad) (b:Qad):Option Bool:=br ((neI (lenI a.visits) (lenI b.visits))||(neI (lenI a.load) (lenI b.load))) (some false) (bnd (loopF (fun s=>Qek a b s) 0) (fun e=>sel e (fun (_:Unit)=>bnd (loopF (fun s=>Qdm a b s) 0) (fun e=>sel e (fun (_:Unit)=>some (((((((eqI a.type_ b.type_)&&(eqI a.place b.place))&&(eqI a.time b.time))&&(eqI a.driven b.driven))&&(eqI a.miles b.miles))&&(eqI a.done b.done))&&(eqI a.open_ b.open_))) (fun r=>some r))) (fun r1=>some r1)))
noncomputable def QhJ (a:Qae):Option Qad:=some (Qad.mk a.type_ a.visits a.place a.time a.driven a.miles a.load a.done a.open_)
noncomputable def Qco (a:List Qae) (b:List Qad) (i:Int):Option ((Int)⊕((Unit)⊕(Bool))):=br (ltI i (lenI a)) (bnd (getI a i) fun x0=>bnd (QhJ x0) fun r=>bnd (getI b i) fun x1=>bnd (QfT r x1) fun r1=>br r1 (some (.inl (addK .i64 i 1))) (some (.inr (.inr false)))) (some (.inr (.inl ())))
noncomputable def Qd4 (a:List Qae) (b:List Qad):Option Bool:=br (neI (lenI a) (lenI b)) (some false) (bnd (loopF (fun s=>Qco a b s) 0) (fun e=>sel e (fun (_:Unit)=>some true) (fun r2=>some r2)))
noncomputable def QeZ (n:Qal) (p:Int):Option Bool:=some ((geI p 0)&&(ltI p (lenI n.places)))
noncomputable def Qeg (n:Qal) (profile:Int) (from_:Int) (to_:Int) (i:Int):Option ((Int)⊕((Unit)⊕(Qao×Bool))):=br (ltI i (lenI n.arcs)) (bnd (getI n.arcs i) fun x0=>br (((eqI x0.from_ from_)&&(eqI x0.to_ to_))&&(eqI x0.profile profile)) (some (.inr (.inr (x0,true)))) (some (.inl (addK .i64 i 1)))) (some (.inr (.inl ())))
noncomputable def QgZ (n:Qal) (profile:Int) (from_:Int) (to_:Int):Option (Qao×Bool):=bnd (loopF (fun s=>Qeg n profile from_ to_ s) 0) (fun e=>sel e (fun (_:Unit)=>some ((Qao.mk 0 0 0 0 [] []),false)) (fun r=>some r))
noncomputable def Qdi (l:List Qak) (t:Int) (i:Int):Option ((Int)⊕((Unit)⊕(Int))):=br (ltI (addK .i64 i 1) (lenI l)) (bnd (getI l i) fun x0=>bnd (getI l (addK .i64 i 1)) fun x1=>br ((leI x0.t t)&&(ltI t x1.t)) (chk (((subK .i64 x1.t x0.t):Int)≠0) (some (.inr (.inr (addK .i64 x0.a (quoK .i64 (subK .i64 (subK .i64 (addK .i64 (mulK .i64 (subK .i64 t x0.t) (subK .i64 x1.a x0.a)) x1.t) x0.t) 1) (subK .i64 x1.t x0.t))))))) (some (.inl (addK .i64 i 1)))) (some (.inr (.inl ())))
noncomputable def QfI (l:List Qak) (t:Int):Option Int:=bnd (Qen l) fun r=>br (((gtI (lenI r) 0)||(ltI t 0))||(gtI t 1073741824)) (some 0) (bnd (loopF (fun s=>Qdi l t s) 0) (fun e=>sel e (fun (_:Unit)=>bnd (getI l 0) fun x2=>br (gtI t x2.t) (bnd (getI l (subK .i64 (lenI l) 1)) fun x3=>some (subK .i64 (addK .i64 t x3.a) x3.t)) (some (subK .i64 (addK .i64 t x2.a) x2.t))) (fun r1=>some r1)))
noncomputable def Qft (a:Qao) (t:Int) (n:Int) (i:Int):Option ((Int×Int)⊕(Int)):=br (ltI i (lenI a.slow)) (bnd (getI a.slow i) fun x0=>br (leI x0.t t) (some (.inl ((addK .i64 n x0.a),(addK .i64 i 1)))) (some (.inl (n,(addK .i64 i 1))))) (some (.inr n))
noncomputable def QfK (a:Qao) (t:Int):Option Int:=bnd (QfI a.travel t) fun r=>bnd (loopF (fun s=>Qft a t s.1 s.2) (r,0)) (fun n1=>some n1)
noncomputable def Qfj (n:Qal) (profile:Int) (from_:Int) (to_:Int) (t:Int):Option (Int×Int×Int):=bnd (QeZ n from_) fun r=>br r (bnd (QeZ n to_) fun r1=>br r1 (br (eqI from_ to_) (some (t,0,0)) (bnd (QgZ n profile from_ to_) fun r2=>br r2.2 (bnd (QfK r2.1 t) fun r3=>some (r3,r2.1.miles,0)) (some (0,0,12)))) (some (0,0,11))) (some (0,0,11))
noncomputable def QbM (l:List Qaa) (at_:Int) (i:Int):Option ((Int)⊕((Unit)⊕(Bool))):=br (ltI i at_) (bnd (getI l i) fun x0=>bnd (getI l at_) fun x1=>br (eqI x0.order x1.order) (some (.inr (.inr false))) (some (.inl (addK .i64 i 1)))) (some (.inr (.inl ())))
noncomputable def QfN (l:List Qaa) (at_:Int):Option Bool:=bnd (loopF (fun s=>QbM l at_ s) 0) (fun e=>sel e (fun (_:Unit)=>some true) (fun r=>some r))
noncomputable def QeK (x0:Qac) (r:QaF) (s0:Qa0) (x1:Qai) (other:Int) (i:Int) (x2:Qaa) (moved1:Int):Option ((Int×Int×Int)⊕(Int×Int)):=bnd (getI x0.orders x2.order) fun x4=>br (neI x4.last_ (-1)) (br (neI x4.last_ r.type_) (some (.inl (moved1,(addK .i64 other 1),(addK .i64 i 1)))) (some (.inl (moved1,other,(addK .i64 i 1))))) (some (.inl (moved1,other,(addK .i64 i 1))))
noncomputable def QbD (x0:Qac) (r:QaF) (s0:Qa0) (x1:Qai) (moved:Int) (other:Int) (i:Int):Option ((Int×Int×Int)⊕(Int×Int)):=br (ltI i (lenI r.visits)) (bnd (getI r.visits i) fun x2=>br ((ltI x2.order 0)||(geI x2.order (lenI x0.orders))) (some (.inl (moved,other,(addK .i64 i 1)))) (bnd (QfN r.visits i) fun r1=>br r1 (bnd (getI x0.orders x2.order) fun x3=>br (neI x3.now (-1)) (br (neI x3.now r.type_) (QeK x0 r s0 x1 other i x2 (addK .i64 moved 1)) (QeK x0 r s0 x1 other i x2 moved)) (br (neI x3.last_ (-1)) (br (neI x3.last_ r.type_) (some (.inl (moved,(addK .i64 other 1),(addK .i64 i 1)))) (some (.inl (moved,other,(addK .i64 i 1))))) (some (.inl (moved,other,(addK .i64 i 1)))))) (some (.inl (moved,other,(addK .i64 i 1)))))) (some (.inr (moved,other)))
noncomputable def Qfa (x0:Qac) (r:QaF) (s0:Qa0):Option QaL:=br ((ltI r.type_ 0)||(geI r.type_ (lenI x0.types))) (some (QaL.mk 0 0 0 0)) (bnd (getI x0.types r.type_) fun x1=>bnd (loopF (fun s=>QbD x0 r s0 x1 s.1 s.2.1 s.2.2) (0,0,0)) (fun e0=>(fun moved2 other1=>some (QaL.mk (addK .i64 (addK .i64 x1.fixed (mulK .i64 x1.perMile s0.miles)) (mulK .i64 x1.perTick (subK .i64 s0.end_ x1.open_))) moved2 other1 (mulK .i64 (quoK .i64 (subK .i64 s0.end_ x1.open_) 64) (quoK .i64 (subK .i64 s0.end_ x1.open_) 64)))) e0.1 e0.2))
noncomputable def Qh0 (s0:QaL):Option Bool:=some ((((((((geI s0.cost 0)&&(leI s0.cost 1073741824))&&(geI s0.moved 0))&&(leI s0.moved 15))&&(geI s0.other 0))&&(leI s0.other 15))&&(geI s0.work 0))&&(leI s0.work 65535))
noncomputable def QdT (s0:QaL):Option (Int×Int):=br ((((ltI s0.cost 0)||(ltI s0.moved 0))||(ltI s0.other 0))||(ltI s0.work 0)) (some (0,2)) (bnd (Qh0 s0) fun r=>br r (some ((addK .i64 (mulK .i64 (addK .i64 (mulK .i64 (addK .i64 (mulK .i64 s0.cost 16) s0.moved) 16) s0.other) 65536) s0.work),0)) (some (0,4)))
noncomputable def Qgr (x0:Qac) (l:Qad):Option (Int×Int×Bool):=br ((eqI (lenI l.visits) 0)||(neI l.open_ 0)) (some (0,0,false)) (bnd (getI x0.types l.type_) fun x1=>bnd (Qfj x0.net x1.profile l.place x1.to_ l.time) fun r=>br (((neI r.2.2 0)||(gtI (subK .i64 (addK .i64 l.driven r.1) l.time) x1.drive))||(gtI r.1 x1.close)) (some (0,0,false)) (bnd (Qfa x0 (QaF.mk l.type_ 0 [] l.visits) (Qa0.mk false 0 [] r.1 (addK .i64 l.miles r.2.1))) fun r1=>bnd (QdT r1) fun r2=>some (r.1,r2.1,(eqI r2.2 0))))
noncomputable def Qdg (a:Qad) (b:Qad) (i:Int):Option ((Int)⊕((Unit)⊕(Bool))):=br (ltI i (lenI a.load)) (bnd (getI a.load i) fun x0=>bnd (getI b.load i) fun x1=>br (gtI x0 x1) (some (.inr (.inr false))) (some (.inl (addK .i64 i 1)))) (some (.inr (.inl ())))
noncomputable def QcI (a:Qad) (b:Qad):Option Bool:=br (((((neI a.type_ b.type_)||(neI a.place b.place))||(neI a.done b.done))||(neI a.open_ b.open_))||(neI (lenI a.load) (lenI b.load))) (some false) (bnd (loopF (fun s=>Qdg a b s) 0) (fun e=>sel e (fun (_:Unit)=>some (((leI a.time b.time)&&(leI a.driven b.driven))&&(leI a.miles b.miles))) (fun r=>some r)))
noncomputable def Qei (x1:Qas):Option (Qas×Int):=br (ltI x1.place 0) (some ((Qas.mk 0 0 0 0),19)) (some (x1,0))
noncomputable def Qd7 (l:List Qag) (v:Qaa):Option (Qas×Int):=bnd (Qa6 v.order 0 (subK .i64 (lenI l) 1)) fun r=>br r (bnd (getI l v.order) fun x0=>br v.drop (Qei x0.drop) (Qei x0.pick)) (some ((Qas.mk 0 0 0 0),2))
noncomputable def Qcu (x0:Qac) (l:Qad) (v:Qaa) (x1:Qag) (r1:Bool) (i:Int):Option ((Int)⊕((Unit)⊕(Bool))):=br (ltI i (lenI x0.apart)) (bnd (getI x0.apart i) fun x3=>br (eqI x3.x0 v.order) (bnd (QaN (orK .i64 l.done l.open_) x3.x1) fun r4=>br r4 (some (.inr (.inr false))) (br (eqI x3.x1 v.order) (bnd (QaN (orK .i64 l.done l.open_) x3.x0) fun r5=>br r5 (some (.inr (.inr false))) (some (.inl (addK .i64 i 1)))) (some (.inl (addK .i64 i 1))))) (br (eqI x3.x1 v.order) (bnd (QaN (orK .i64 l.done l.open_) x3.x0) fun r6=>br r6 (some (.inr (.inr false))) (some (.inl (addK .i64 i 1)))) (some (.inl (addK .i64 i 1))))) (some (.inr (.inl ())))
noncomputable def QbV (x0:Qac) (l:Qad) (v:Qaa) (x1:Qag) (r1:Bool) (i1:Int):Option ((Int)⊕((Unit)⊕(Bool))):=br ((ltI i1 (lenI x0.before))&&(!r1)) (bnd (getI x0.before i1) fun x4=>br (eqI x4.x1 v.order) (bnd (QaN l.done x4.x0) fun r7=>br r7 (bnd (QaN l.open_ x4.x0) fun r8=>br r8 (some (.inr (.inr false))) (some (.inl (addK .i64 i1 1)))) (some (.inr (.inr false)))) (some (.inl (addK .i64 i1 1)))) (some (.inr (.inl ())))
noncomputable def Qcv (x0:Qac) (l:Qad) (v:Qaa) (x1:Qag) (r1:Bool) (i2:Int):Option ((Int)⊕((Unit)⊕(Bool))):=br (ltI i2 (lenI x0.apart)) (bnd (getI x0.apart i2) fun x6=>br (eqI x6.x0 v.order) (bnd (QaN (orK .i64 l.done l.open_) x6.x1) fun r12=>br r12 (some (.inr (.inr false))) (br (eqI x6.x1 v.order) (bnd (QaN (orK .i64 l.done l.open_) x6.x0) fun r13=>br r13 (some (.inr (.inr false))) (some (.inl (addK .i64 i2 1)))) (some (.inl (addK .i64 i2 1))))) (br (eqI x6.x1 v.order) (bnd (QaN (orK .i64 l.done l.open_) x6.x0) fun r14=>br r14 (some (.inr (.inr false))) (some (.inl (addK .i64 i2 1)))) (some (.inl (addK .i64 i2 1))))) (some (.inr (.inl ())))
noncomputable def QbW (x0:Qac) (l:Qad) (v:Qaa) (x1:Qag) (r1:Bool) (i3:Int):Option ((Int)⊕((Unit)⊕(Bool))):=br ((ltI i3 (lenI x0.before))&&(!r1)) (bnd (getI x0.before i3) fun x7=>br (eqI x7.x1 v.order) (bnd (QaN l.done x7.x0) fun r15=>br r15 (bnd (QaN l.open_ x7.x0) fun r16=>br r16 (some (.inr (.inr false))) (some (.inl (addK .i64 i3 1)))) (some (.inr (.inr false)))) (some (.inl (addK .i64 i3 1)))) (some (.inr (.inl ())))
noncomputable def QeT (x0:Qac) (l:Qad) (v:Qaa):Option Bool:=bnd (Qd7 x0.orders v) fun r=>br (neI r.2 0) (some false) (bnd (getI x0.orders v.order) fun x1=>br x1.off (some false) (bnd (QaN l.done v.order) fun r1=>br ((!v.drop)&&r1) (some false) (br v.drop (bnd (QaN l.open_ v.order) fun r2=>br r2 (bnd (getI x0.types l.type_) fun x2=>bnd (Qd6 x2 x1.skills) fun r3=>br r3 (bnd (loopF (fun s=>Qcu x0 l v x1 r1 s) 0) (fun e=>sel e (fun (_:Unit)=>bnd (loopF (fun s=>QbV x0 l v x1 r1 s) 0) (fun e=>sel e (fun (_:Unit)=>some true) (fun r9=>some r9))) (fun r10=>some r10))) (some false)) (some false)) (bnd (getI x0.types l.type_) fun x5=>bnd (Qd6 x5 x1.skills) fun r11=>br r11 (bnd (loopF (fun s=>Qcv x0 l v x1 r1 s) 0) (fun e=>sel e (fun (_:Unit)=>bnd (loopF (fun s=>QbW x0 l v x1 r1 s) 0) (fun e=>sel e (fun (_:Unit)=>some true) (fun r17=>some r17))) (fun r18=>some r18))) (some false)))))
noncomputable def QhP (s0:Qas) (arrive:Int):Option (Int×Int):=br (gtI arrive s0.close) (some (0,14)) (br (ltI arrive s0.open_) (some (s0.open_,0)) (some (arrive,0)))
noncomputable def QfJ (s0:Qas) (arrive:Int):Option (Int×Int):=bnd (QhP s0 arrive) fun r=>br (neI r.2 0) (some (0,r.2)) (some ((addK .i64 r.1 s0.service),0))
noncomputable def Qcd (a:List Int) (b:List Int) (l:List Int) (i:Int):Option ((List Int×Int)⊕(List Int)):=br (ltI i (lenI a)) (bnd (getI a i) fun x0=>bnd (getI b i) fun x1=>chk (okN (l++[(addK .i64 x0 x1)]).length 8) (some (.inl ((l++[(addK .i64 x0 x1)]),(addK .i64 i 1))))) (some (.inr l))
noncomputable def QgB (a:List Int) (b:List Int):Option (List Int×Int):=br (neI (lenI a) (lenI b)) (some ([],2)) (bnd (loopF (fun s=>Qcd a b s.1 s.2) ([],0)) (fun l1=>some (l1,0)))
noncomputable def Qce (a:List Int) (b:List Int) (l:List Int) (i:Int):Option ((List Int×Int)⊕(List Int)):=br (ltI i (lenI a)) (bnd (getI a i) fun x0=>bnd (getI b i) fun x1=>chk (okN (l++[(subK .i64 x0 x1)]).length 8) (some (.inl ((l++[(subK .i64 x0 x1)]),(addK .i64 i 1))))) (some (.inr l))
noncomputable def Qfs (a:List Int) (b:List Int):Option (List Int×Int):=br (neI (lenI a) (lenI b)) (some ([],2)) (bnd (loopF (fun s=>Qce a b s.1 s.2) ([],0)) (fun l1=>some (l1,0)))
noncomputable def QcJ (x0:Qac) (l:Qad) (v:Qaa) (r1:Qas×Int) (r2:Int×Int×Int) (r3:Int×Int) (load:List Int) (r7:Int) (open_:Int):Option (List Qad):=bnd (Qdb x0 (Qad.mk l.type_ (l.visits++[v]) r1.1.place r3.1 (subK .i64 (addK .i64 l.driven r2.1) l.time) (addK .i64 l.miles r2.2.1) load (orK .i64 l.done r7) open_)) fun r10=>some r10
noncomputable def Qcb (x0:Qac) (l:Qad) (v:Qaa) (x1:Qai) (x2:Qag) (r1:Qas×Int) (r2:Int×Int×Int) (r3:Int×Int) (load:List Int) (g:Int):Option (List Qad):=br (neI g 0) (some []) (bnd (Qd5 load x1.cap) fun r6=>br r6 (bnd (QdW v.order) fun r7=>chk (okN l.visits.length 16) (chk (okN (l.visits++[v]).length 16) (br v.drop (bnd (QdW v.order) fun r8=>QcJ x0 l v r1 r2 r3 load r7 (subK .i64 l.open_ r8)) (br (geI x2.drop.place 0) (bnd (QdW v.order) fun r9=>QcJ x0 l v r1 r2 r3 load r7 (orK .i64 l.open_ r9)) (QcJ x0 l v r1 r2 r3 load r7 l.open_))))) (some []))
noncomputable def QfO (x0:Qac) (l:Qad) (v:Qaa):Option (List Qad):=bnd (QeT x0 l v) fun r=>br r (bnd (getI x0.types l.type_) fun x1=>bnd (getI x0.orders v.order) fun x2=>bnd (Qd7 x0.orders v) fun r1=>bnd (Qfj x0.net x1.profile l.place r1.1.place l.time) fun r2=>br ((neI r2.2.2 0)||(gtI (subK .i64 (addK .i64 l.driven r2.1) l.time) x1.drive)) (some []) (bnd (QfJ r1.1 r2.1) fun r3=>br (neI r3.2 0) (some []) (bnd (QgB l.load x2.load) fun r4=>br v.drop (bnd (Qfs l.load x2.load) fun r5=>Qcb x0 l v x1 x2 r1 r2 r3 r5.1 r5.2) (Qcb x0 l v x1 x2 r1 r2 r3 r4.1 r4.2)))) (some [])
noncomputable def Qee (set_1:Int) (n:Int):Option ((Int×Int)⊕(Int)):=br (gtI set_1 0) (some (.inl ((quoK .i64 set_1 2),(addK .i64 n (remK set_1 2))))) (some (.inr n))
noncomputable def QgX (set_:Int):Option Int:=bnd (loopF (fun s=>Qee s.1 s.2) (set_,0)) (fun n1=>some n1)
noncomputable def Qc2 (set_:Int) (i:Int):Option Bool:=br (((geI set_ 0)&&(geI i 0))&&(leI i 62)) (chk ((0:Int)≤(cvK .u64 i)) (some (eqI (remK (shrK .i64 set_ (cvK .u64 i)) 2) 1))) (some false)
noncomputable def Qb3 (x0:Qac) (set_:Int) (i:Int):Option ((Int)⊕((Unit)⊕(Bool))):=br (ltI i (lenI x0.apart)) (bnd (getI x0.apart i) fun x1=>bnd (Qc2 set_ x1.x0) fun r=>br r (bnd (Qc2 set_ x1.x1) fun r1=>br r1 (some (.inr (.inr false))) (some (.inl (addK .i64 i 1)))) (some (.inl (addK .i64 i 1)))) (some (.inr (.inl ())))
noncomputable def Qe8 (x0:Qac) (set_:Int):Option Bool:=bnd (loopF (fun s=>Qb3 x0 set_ s) 0) (fun e=>sel e (fun (_:Unit)=>some true) (fun r2=>some r2))
noncomputable def Qb2 (l:List Qaa) (v:Qaa) (i:Int):Option ((Int)⊕((Unit)⊕(Int))):=br (ltI i (lenI l)) (bnd (getI l i) fun x0=>br (eqI x0.order v.order&&(eqB x0.drop v.drop&&true)) (some (.inr (.inr i))) (some (.inl (addK .i64 i 1)))) (some (.inr (.inl ())))
noncomputable def Qdy (l:List Qaa) (v:Qaa):Option Int:=bnd (loopF (fun s=>Qb2 l v s) 0) (fun e=>sel e (fun (_:Unit)=>some (-1)) (fun r=>some r))
noncomputable def Qbp (l:List Qaa) (some_:List Qaa) (i:Int):Option ((Int)⊕((Unit)⊕(Bool))):=br (ltI i (lenI some_)) (bnd (getI some_ i) fun x0=>bnd (Qdy l x0) fun r=>br (ltI r 0) (some (.inr (.inr false))) (some (.inl (addK .i64 i 1)))) (some (.inr (.inl ())))
noncomputable def Qc1 (l:List Qaa) (some_:List Qaa):Option Bool:=bnd (loopF (fun s=>Qbp l some_ s) 0) (fun e=>sel e (fun (_:Unit)=>some true) (fun r1=>some r1))
noncomputable def Qdk (x0:Qac) (order:Int) (l:List Qaa):Option (List Qaa):=bnd (getI x0.orders order) fun x2=>br (neI x2.drop.place (-1)) (chk (okN (l++[(Qaa.mk order true)]).length 16) (some (l++[(Qaa.mk order true)]))) (some l)
noncomputable def QcG (x0:Qac) (order:Int):Option (List Qaa):=bnd (getI x0.orders order) fun x1=>br (neI x1.pick.place (-1)) (chk (okN [(Qaa.mk order false)].length 16) (Qdk x0 order [(Qaa.mk order false)])) (Qdk x0 order [])
noncomputable def Qb4 (x0:Qac) (order:Int) (l:List Qaa) (i:Int):Option ((Int)⊕((Unit)⊕(Bool))):=br (ltI i (lenI x0.before)) (bnd (getI x0.before i) fun x1=>br (eqI x1.x1 order) (br ((ltI x1.x0 0)||(geI x1.x0 (lenI x0.orders))) (some (.inr (.inr false))) (bnd (QcG x0 x1.x0) fun r=>bnd (Qc1 l r) fun r1=>br r1 (some (.inl (addK .i64 i 1))) (some (.inr (.inr false))))) (some (.inl (addK .i64 i 1)))) (some (.inr (.inl ())))
noncomputable def Qe9 (x0:Qac) (order:Int) (l:List Qaa):Option Bool:=bnd (loopF (fun s=>Qb4 x0 order l s) 0) (fun e=>sel e (fun (_:Unit)=>some true) (fun r2=>some r2))
noncomputable def QcN (x0:Qac) (set_:Int) (l:List Qaa) (l1:List Qaa) (again1:Bool) (i:Int):Option ((List Qaa×Bool×Int)⊕(List Qaa×Bool)):=br (ltI i (lenI x0.orders)) (bnd (Qc2 set_ i) fun r1=>br r1 (bnd (getI x0.orders i) fun x1=>br x1.off (some (.inl (l1,again1,(addK .i64 i 1)))) (bnd (QcG x0 i) fun r2=>bnd (Qc1 l1 r2) fun r3=>br r3 (some (.inl (l1,again1,(addK .i64 i 1)))) (bnd (Qe9 x0 i l1) fun r4=>br r4 (bnd (QcG x0 i) fun r5=>chk (okN (l1++r5).length 16) (some (.inl ((l1++r5),true,(addK .i64 i 1))))) (some (.inl (l1,again1,(addK .i64 i 1))))))) (some (.inl (l1,again1,(addK .i64 i 1))))) (some (.inr (l1,again1)))
noncomputable def Qca (x0:Qac) (set_:Int) (l:List Qaa) (again:Bool):Option ((List Qaa×Bool)⊕(List Qaa)):=br again (bnd (loopF (fun s=>QcN x0 set_ l s.1 s.2.1 s.2.2) (l,false,0)) (fun e0=>(fun l2 again2=>some (.inl (l2,again2))) e0.1 e0.2)) (some (.inr l))
noncomputable def Qa7 (x0:Qac) (set_:Int) (l3:List Qaa) (i1:Int):Option ((Int)⊕((Unit)⊕(Bool))):=br (ltI i1 (lenI x0.orders)) (bnd (Qc2 set_ i1) fun r6=>br r6 (bnd (getI x0.orders i1) fun x2=>br x2.off (some (.inr (.inr false))) (bnd (QcG x0 i1) fun r7=>bnd (Qc1 l3 r7) fun r8=>br r8 (some (.inl (addK .i64 i1 1))) (some (.inr (.inr false))))) (some (.inl (addK .i64 i1 1)))) (some (.inr (.inl ())))
noncomputable def QdR (x0:Qac) (set_:Int):Option Bool:=br (eqI set_ 0) (some false) (bnd (Qe8 x0 set_) fun r=>br r (bnd (loopF (fun s=>Qca x0 set_ s.1 s.2) ([],true)) (fun l3=>bnd (loopF (fun s=>Qa7 x0 set_ l3 s) 0) (fun e=>sel e (fun (_:Unit)=>some true) (fun r9=>some r9)))) (some false))
noncomputable def Qcs (x0:Qac) (set_:Int) (l:List Qaa) (i:Int) (r2:List Qaa) (l2:List Qaa) (k:Int):Option ((List Qaa×Int)⊕(List Qaa)):=br (ltI k (lenI r2)) (bnd (getI r2 k) fun x2=>bnd (Qdy l x2) fun r3=>br (ltI r3 0) (br (eqI k 0) (chk (okN (l2++[x2]).length 16) (some (.inl ((l2++[x2]),(addK .i64 k 1))))) (bnd (getI r2 0) fun x3=>bnd (Qdy l x3) fun r4=>br (geI r4 0) (chk (okN (l2++[x2]).length 16) (some (.inl ((l2++[x2]),(addK .i64 k 1))))) (some (.inl (l2,(addK .i64 k 1)))))) (some (.inl (l2,(addK .i64 k 1))))) (some (.inr l2))
noncomputable def QbS (x0:Qac) (set_:Int) (l:List Qaa) (l1:List Qaa) (i:Int):Option ((List Qaa×Int)⊕(List Qaa)):=br (ltI i (lenI x0.orders)) (bnd (Qc2 set_ i) fun r=>br r (bnd (getI x0.orders i) fun x1=>br x1.off (some (.inl (l1,(addK .i64 i 1)))) (bnd (Qe9 x0 i l) fun r1=>br r1 (bnd (QcG x0 i) fun r2=>bnd (loopF (fun s=>Qcs x0 set_ l i r2 s.1 s.2) (l1,0)) (fun l3=>some (.inl (l3,(addK .i64 i 1))))) (some (.inl (l1,(addK .i64 i 1)))))) (some (.inl (l1,(addK .i64 i 1))))) (some (.inr l1))
noncomputable def QfS (x0:Qac) (set_:Int) (l:List Qaa):Option (List Qaa):=bnd (loopF (fun s=>QbS x0 set_ l s.1 s.2) ([],0)) (fun l4=>some l4)
noncomputable def QaT (self:Qac→Int→(List Qaa)→(List (List Qaa))→Option (List (List Qaa))) (x0:Qac) (set_:Int) (l:List Qaa) (r:List Qaa) (l1:List (List Qaa)) (i:Int):Option ((List (List Qaa)×Int)⊕(List (List Qaa))):=br (ltI i (lenI r)) (chk (okN l.length 16) (bnd (getI r i) fun x1=>chk (okN (l++[x1]).length 16) (bnd (self x0 set_ (l++[x1]) l1) fun r1=>some (.inl (r1,(addK .i64 i 1)))))) (some (.inr l1))
noncomputable def Qbz (self:Qac→Int→(List Qaa)→(List (List Qaa))→Option (List (List Qaa))) (x0:Qac) (set_:Int) (l:List Qaa) (out:List (List Qaa)):Option (List (List Qaa)):=br (gtI (lenI out) 8192) (some out) (bnd (QfS x0 set_ l) fun r=>br (eqI (lenI r) 0) (chk (okN (out++[l]).length 24) (some (out++[l]))) (bnd (loopF (fun s=>QaT self x0 set_ l r s.1 s.2) (out,0)) (fun l2=>some l2)))
noncomputable def QaX:Nat→Qac→Int→(List Qaa)→(List (List Qaa))→Option (List (List Qaa))|0=>fun _ _ _ _=>none|fuel_+1=>fun x0 set_ l out=>Qbz (QaX fuel_) x0 set_ l out
noncomputable def QfX (x0:Qac) (set_:Int) (l:List Qaa) (out:List (List Qaa)):Option (List (List Qaa)):=QaX Qpz x0 set_ l out
noncomputable def QaR (x0:Qac) (set_:Int) (l:List Qaa) (r:List Qaa) (l1:List (List Qaa)) (i:Int):Option ((List (List Qaa)×Int)⊕(List (List Qaa))):=br (ltI i (lenI r)) (chk (okN l.length 16) (bnd (getI r i) fun x1=>chk (okN (l++[x1]).length 16) (bnd (QfX x0 set_ (l++[x1]) l1) fun r1=>some (.inl (r1,(addK .i64 i 1)))))) (some (.inr l1))
noncomputable def Qct (x0:Qac) (set_:Int) (l:List Qaa):Option (List (List Qaa)):=br (gtI 0 8192) (some []) (bnd (QfS x0 set_ l) fun r=>br (eqI (lenI r) 0) (chk (okN [l].length 24) (some [l])) (bnd (loopF (fun s=>QaR x0 set_ l r s.1 s.2) ([],0)) (fun l2=>some l2)))
noncomputable def Qch (x0:Qac) (set_:Int) (i:Int):Option ((Int)⊕((Unit)⊕(List (List Qaa)×Int))):=br (leI i 62) (bnd (Qc2 set_ i) fun r=>br (r&&(geI i (lenI x0.orders))) (some (.inr (.inr ([],2)))) (some (.inl (addK .i64 i 1)))) (some (.inr (.inl ())))
noncomputable def QeJ (x0:Qac) (set_:Int):Option (List (List Qaa)×Int):=br (ltI set_ 0) (some ([],2)) (bnd (loopF (fun s=>Qch x0 set_ s) 0) (fun e=>sel e (fun (_:Unit)=>bnd (QdR x0 set_) fun r1=>br r1 (bnd (Qct x0 set_ []) fun r2=>br (gtI (lenI r2) 8192) (some ([],4)) (some (r2,0))) (some ([],0))) (fun r3=>some r3)))
noncomputable def QbG (x0:Qac) (visits:List Qaa) (cur:List Qad) (i:Int) (l:List Qad) (k:Int):Option ((List Qad×Int)⊕(List Qad)):=br (ltI k (lenI cur)) (bnd (getI cur k) fun x1=>bnd (getI visits i) fun x2=>bnd (QfO x0 x1 x2) fun r1=>chk (okN (l++r1).length 104) (some (.inl ((l++r1),(addK .i64 k 1))))) (some (.inr l))
noncomputable def QbF (x0:Qac) (visits:List Qaa) (cur:List Qad) (i:Int):Option ((List Qad×Int)⊕(List Qad)):=br (ltI i (lenI visits)) (bnd (loopF (fun s=>QbG x0 visits cur i s.1 s.2) ([],0)) (fun l1=>some (.inl (l1,(addK .i64 i 1))))) (some (.inr cur))
noncomputable def Qgt (x0:Qac) (kind:Int) (set_:Int) (visits:List Qaa):Option (List Qad):=bnd (Qgs x0 kind set_) fun r=>bnd (loopF (fun s=>QbF x0 visits s.1 s.2) (r,0)) (fun cur1=>some cur1)
noncomputable def QbU (x0:Qac) (kind:Int) (set_:Int) (r:List (List Qaa)×Int) (l:List Qad) (i:Int) (r1:List Qad) (l1:List Qad) (k:Int):Option ((List Qad×Int)⊕(List Qad)):=br (ltI k (lenI r1)) (bnd (getI r1 k) fun x2=>bnd (Qgr x0 x2) fun r2=>br r2.2.2 (chk (okN (l1++[x2]).length 104) (some (.inl ((l1++[x2]),(addK .i64 k 1))))) (some (.inl (l1,(addK .i64 k 1))))) (some (.inr l1))
noncomputable def QbT (x0:Qac) (kind:Int) (set_:Int) (r:List (List Qaa)×Int) (l:List Qad) (i:Int):Option ((List Qad×Int)⊕(List Qad)):=br (ltI i (lenI r.1)) (bnd (getI r.1 i) fun x1=>bnd (Qgt x0 kind set_ x1) fun r1=>bnd (loopF (fun s=>QbU x0 kind set_ r l i r1 s.1 s.2) (l,0)) (fun l2=>some (.inl (l2,(addK .i64 i 1))))) (some (.inr l))
noncomputable def QcO (l3:List Qad) (l4:List Qad) (i1:Int) (good:Bool) (k1:Int):Option ((Bool×Int)⊕(Bool)):=br ((ltI k1 (lenI l3))&&good) (br (eqI k1 i1) (some (.inl (true,(addK .i64 k1 1)))) (bnd (getI l3 k1) fun x3=>bnd (getI l3 i1) fun x4=>bnd (QcI x3 x4) fun r3=>br r3 (br (gtI k1 i1) (bnd (QcI x4 x3) fun r4=>some (.inl (r4,(addK .i64 k1 1)))) (some (.inl (false,(addK .i64 k1 1))))) (some (.inl (true,(addK .i64 k1 1)))))) (some (.inr good))
noncomputable def QbA (l3:List Qad) (l4:List Qad) (i1:Int):Option ((List Qad×Int)⊕(List Qad)):=br (ltI i1 (lenI l3)) (bnd (loopF (fun s=>QcO l3 l4 i1 s.1 s.2) (true,0)) (fun good1=>br good1 (bnd (getI l3 i1) fun x5=>chk (okN (l4++[x5]).length 104) (some (.inl ((l4++[x5]),(addK .i64 i1 1))))) (some (.inl (l4,(addK .i64 i1 1)))))) (some (.inr l4))
noncomputable def Qd8 (x0:Qac) (kind:Int) (set_:Int):Option (List Qad×Int):=br ((ltI kind 0)||(geI kind (lenI x0.types))) (some ([],2)) (bnd (QeJ x0 set_) fun r=>br (neI r.2 0) (some ([],r.2)) (bnd (loopF (fun s=>QbT x0 kind set_ r s.1 s.2) ([],0)) (fun l3=>bnd (loopF (fun s=>QbA l3 s.1 s.2) ([],0)) (fun l5=>some (l5,0)))))
noncomputable def Qba (r4:List Qae×Int) (i:Int) (k:Int):Option ((Int)⊕((Unit)⊕(Bool))):=br (ltI k (lenI r4.1)) (br (neI i k) (bnd (getI r4.1 i) fun x1=>bnd (getI r4.1 k) fun x2=>bnd (Qd1 x1 x2) fun r7=>br r7 (some (.inr (.inr false))) (some (.inl (addK .i64 k 1)))) (some (.inl (addK .i64 k 1)))) (some (.inr (.inl ())))
noncomputable def Qa4 (r4:List Qae×Int) (i:Int):Option ((Int)⊕((Unit)⊕(Bool))):=br (ltI i (lenI r4.1)) (bnd (loopF (fun s=>Qba r4 i s) 0) (fun e=>sel e (fun (_:Unit)=>some (.inl (addK .i64 i 1))) (fun r8=>some (.inr (.inr r8))))) (some (.inr (.inl ())))
noncomputable def Qfq (x0:Qac) (kind:Int) (set_:Int):Option Bool:=bnd (QhI x0) fun r=>br ((!r)||(ltI set_ 0)) (bnd (Qel) fun r1=>some r1) (bnd (QgX set_) fun r2=>br (gtI r2 3) (bnd (Qel) fun r3=>some r3) (bnd (QhC x0 kind set_) fun r4=>bnd (Qd8 x0 kind set_) fun r5=>br (neI r4.2 r5.2) (some false) (bnd (Qd4 r4.1 r5.1) fun r6=>br r6 (bnd (loopF (fun s=>Qa4 r4 s) 0) (fun e=>sel e (fun (_:Unit)=>bnd (Qel) fun r9=>some r9) (fun r10=>some r10))) (some false))))
end Go.Proofs.YtfjiafgldchinaaGreatDoor
namespace Go.Proofs.YtfjiafgldchinaaGreatDoor
set_option linter.unusedVariables false
set_option linter.unusedSectionVars false
set_option linter.unusedSimpArgs false
open Go.RowKit
variable {N : Nat}
theorem oq_9:Opens Tryz.prog N 9 (rdE 1 e_str (fun s:ByteArray=>s.size≤N) (fun _=>rfl)):=QBP Tryz.underlying9 (by kernel_rfl)
theorem oq_22:Opens Tryz.prog N 22 (rdE 1 (fun l:List ByteArray=>[.sl false 1 (l.map e_str)]) (fun l:List (ByteArray)=>l.length≤N∧∀ x∈l,(fun s:ByteArray=>s.size≤N) x) (fun _=>rfl)):=QpZ Tryz.underlying22 (by kernel_rfl) oq_9 (by decide)
theorem oq_3:Opens Tryz.prog N 3 (rdE 1 e_i64 isI (fun _=>rfl)):=QBO Tryz.underlying3 (by kernel_rfl)
def Qak.ok (N:Nat) (x:Qak):Prop:=isI x.t∧isI x.a∧True
theorem oq_74:Opens Tryz.prog N 74 (rdE 2 Qak.enc (Qak.ok N) (fun _=>rfl)):=Qne Tryz.underlying74 (by kernel_rfl) (.cons rfl oq_3 (.cons rfl oq_3 .nil)) rfl (HE.pair HE.rd (HE.pair HE.rd HE.unit)) (fun a=>⟨a.1,a.2.1⟩) (fun _=>rfl) (fun _ h=>h)
theorem oq_75:Opens Tryz.prog N 75 (rdE 1 (fun l:List Qak=>[.sl false 2 (l.map Qak.enc)]) (fun l:List (Qak)=>l.length≤N∧∀ x∈l,(Qak.ok N) x) (fun _=>rfl)):=QpZ Tryz.underlying75 (by kernel_rfl) oq_74 (by decide)
def Qao.ok (N:Nat) (x:Qao):Prop:=isI x.from_∧isI x.to_∧isI x.profile∧isI x.miles∧(fun l:List (Qak)=>l.length≤N∧∀ x∈l,(Qak.ok N) x) x.travel∧(fun l:List (Qak)=>l.length≤N∧∀ x∈l,(Qak.ok N) x) x.slow∧True
theorem oq_77:Opens Tryz.prog N 77 (rdE 6 Qao.enc (Qao.ok N) (fun _=>rfl)):=Qne Tryz.underlying77 (by kernel_rfl) (.cons rfl oq_3 (.cons rfl oq_3 (.cons rfl oq_3 (.cons rfl oq_3 (.cons rfl oq_75 (.cons rfl oq_75 .nil)))))) rfl (HE.pair HE.rd (HE.pair HE.rd (HE.pair HE.rd (HE.pair HE.rd (HE.pair HE.rd (HE.pair HE.rd HE.unit)))))) (fun a=>⟨a.1,a.2.1,a.2.2.1,a.2.2.2.1,a.2.2.2.2.1,a.2.2.2.2.2.1⟩) (fun _=>rfl) (fun _ h=>h)
theorem oq_23:Opens Tryz.prog N 23 (rdE 1 (fun l:List Qao=>[.sl false 6 (l.map Qao.enc)]) (fun l:List (Qao)=>l.length≤N∧∀ x∈l,(Qao.ok N) x) (fun _=>rfl)):=QpZ Tryz.underlying23 (by kernel_rfl) oq_77 (by decide)
def Qal.ok (N:Nat) (x:Qal):Prop:=(fun l:List (ByteArray)=>l.length≤N∧∀ x∈l,(fun s:ByteArray=>s.size≤N) x) x.places∧(fun l:List (Qao)=>l.length≤N∧∀ x∈l,(Qao.ok N) x) x.arcs∧True
theorem oq_25:Opens Tryz.prog N 25 (rdE 2 Qal.enc (Qal.ok N) (fun _=>rfl)):=Qne Tryz.underlying25 (by kernel_rfl) (.cons rfl oq_22 (.cons rfl oq_23 .nil)) rfl (HE.pair HE.rd (HE.pair HE.rd HE.unit)) (fun a=>⟨a.1,a.2.1⟩) (fun _=>rfl) (fun _ h=>h)
theorem oq_45:Opens Tryz.prog N 45 (rdE 1 (fun l:List Int=>[.sl false 1 (l.map e_i64)]) (fun l:List (Int)=>l.length≤N∧∀ x∈l,isI x) (fun _=>rfl)):=QpZ Tryz.underlying45 (by kernel_rfl) oq_3 (by decide)
def Qai.ok (N:Nat) (x:Qai):Prop:=(fun s:ByteArray=>s.size≤N) x.name∧isI x.count∧isI x.from_∧isI x.to_∧(fun l:List (Int)=>l.length≤N∧∀ x∈l,isI x) x.cap∧isI x.skills∧isI x.profile∧isI x.open_∧isI x.close∧isI x.drive∧isI x.rest_∧isI x.fixed∧isI x.perMile∧isI x.perTick∧True
theorem oq_79:Opens Tryz.prog N 79 (rdE 14 Qai.enc (Qai.ok N) (fun _=>rfl)):=Qne Tryz.underlying79 (by kernel_rfl) (.cons rfl oq_9 (.cons rfl oq_3 (.cons rfl oq_3 (.cons rfl oq_3 (.cons rfl oq_45 (.cons rfl oq_3 (.cons rfl oq_3 (.cons rfl oq_3 (.cons rfl oq_3 (.cons rfl oq_3 (.cons rfl oq_3 (.cons rfl oq_3 (.cons rfl oq_3 (.cons rfl oq_3 .nil)))))))))))))) rfl (HE.pair HE.rd (HE.pair HE.rd (HE.pair HE.rd (HE.pair HE.rd (HE.pair HE.rd (HE.pair HE.rd (HE.pair HE.rd (HE.pair HE.rd (HE.pair HE.rd (HE.pair HE.rd (HE.pair HE.rd (HE.pair HE.rd (HE.pair HE.rd (HE.pair HE.rd HE.unit)))))))))))))) (fun a=>⟨a.1,a.2.1,a.2.2.1,a.2.2.2.1,a.2.2.2.2.1,a.2.2.2.2.2.1,a.2.2.2.2.2.2.1,a.2.2.2.2.2.2.2.1,a.2.2.2.2.2.2.2.2.1,a.2.2.2.2.2.2.2.2.2.1,a.2.2.2.2.2.2.2.2.2.2.1,a.2.2.2.2.2.2.2.2.2.2.2.1,a.2.2.2.2.2.2.2.2.2.2.2.2.1,a.2.2.2.2.2.2.2.2.2.2.2.2.2.1⟩) (fun _=>rfl) (fun _ h=>h)
theorem oq_26:Opens Tryz.prog N 26 (rdE 1 (fun l:List Qai=>[.sl false 14 (l.map Qai.enc)]) (fun l:List (Qai)=>l.length≤N∧∀ x∈l,(Qai.ok N) x) (fun _=>rfl)):=QpZ Tryz.underlying26 (by kernel_rfl) oq_79 (by decide)
def Qas.ok (N:Nat) (x:Qas):Prop:=isI x.place∧isI x.open_∧isI x.close∧isI x.service∧True
theorem oq_81:Opens Tryz.prog N 81 (rdE 4 Qas.enc (Qas.ok N) (fun _=>rfl)):=Qne Tryz.underlying81 (by kernel_rfl) (.cons rfl oq_3 (.cons rfl oq_3 (.cons rfl oq_3 (.cons rfl oq_3 .nil)))) rfl (HE.pair HE.rd (HE.pair HE.rd (HE.pair HE.rd (HE.pair HE.rd HE.unit)))) (fun a=>⟨a.1,a.2.1,a.2.2.1,a.2.2.2.1⟩) (fun _=>rfl) (fun _ h=>h)
theorem oq_4:Opens Tryz.prog N 4 (rdE 1 Qyw (fun _:Bool=>True) (fun _=>rfl)):=QBn Tryz.underlying4 (by kernel_rfl)
def Qag.ok (N:Nat) (x:Qag):Prop:=(fun s:ByteArray=>s.size≤N) x.name∧(fun l:List (Int)=>l.length≤N∧∀ x∈l,isI x) x.load∧(Qas.ok N) x.pick∧(Qas.ok N) x.drop∧isI x.skills∧isI x.penalty∧isI x.split∧isI x.last_∧isI x.now∧(fun _:Bool=>True) x.off∧True
theorem oq_83:Opens Tryz.prog N 83 (rdE 16 Qag.enc (Qag.ok N) (fun _=>rfl)):=Qne Tryz.underlying83 (by kernel_rfl) (.cons rfl oq_9 (.cons rfl oq_45 (.cons rfl oq_81 (.cons rfl oq_81 (.cons rfl oq_3 (.cons rfl oq_3 (.cons rfl oq_3 (.cons rfl oq_3 (.cons rfl oq_3 (.cons rfl oq_4 .nil)))))))))) rfl (HE.pair HE.rd (HE.pair HE.rd (HE.pair HE.rd (HE.pair HE.rd (HE.pair HE.rd (HE.pair HE.rd (HE.pair HE.rd (HE.pair HE.rd (HE.pair HE.rd (HE.pair HE.rd HE.unit)))))))))) (fun a=>⟨a.1,a.2.1,a.2.2.1,a.2.2.2.1,a.2.2.2.2.1,a.2.2.2.2.2.1,a.2.2.2.2.2.2.1,a.2.2.2.2.2.2.2.1,a.2.2.2.2.2.2.2.2.1,a.2.2.2.2.2.2.2.2.2.1⟩) (fun _=>rfl) (fun _ h=>h)
theorem oq_27:Opens Tryz.prog N 27 (rdE 1 (fun l:List Qag=>[.sl false 16 (l.map Qag.enc)]) (fun l:List (Qag)=>l.length≤N∧∀ x∈l,(Qag.ok N) x) (fun _=>rfl)):=QpZ Tryz.underlying27 (by kernel_rfl) oq_83 (by decide)
def Qap.ok (N:Nat) (x:Qap):Prop:=isI x.x0∧isI x.x1
theorem oq_31:Opens Tryz.prog N 31 (rdE 2 Qap.enc (Qap.ok N) (fun _=>rfl)):=QyX Tryz.underlying31 (by kernel_rfl) oq_3 rfl (fun a b=>⟨a,b⟩) (fun _ _=>rfl) (fun _ _ h h2=>⟨h,h2⟩)
theorem oq_28:Opens Tryz.prog N 28 (rdE 1 (fun l:List Qap=>[.sl false 2 (l.map Qap.enc)]) (fun l:List (Qap)=>l.length≤N∧∀ x∈l,(Qap.ok N) x) (fun _=>rfl)):=QpZ Tryz.underlying28 (by kernel_rfl) oq_31 (by decide)
def Qac.ok (N:Nat) (x:Qac):Prop:=(Qal.ok N) x.net∧(fun l:List (Qai)=>l.length≤N∧∀ x∈l,(Qai.ok N) x) x.types∧(fun l:List (Qag)=>l.length≤N∧∀ x∈l,(Qag.ok N) x) x.orders∧(fun l:List (Qap)=>l.length≤N∧∀ x∈l,(Qap.ok N) x) x.apart∧(fun l:List (Qap)=>l.length≤N∧∀ x∈l,(Qap.ok N) x) x.before∧True
theorem oq_30:Opens Tryz.prog N 30 (rdE 6 Qac.enc (Qac.ok N) (fun _=>rfl)):=Qne Tryz.underlying30 (by kernel_rfl) (.cons rfl oq_25 (.cons rfl oq_26 (.cons rfl oq_27 (.cons rfl oq_28 (.cons rfl oq_28 .nil))))) rfl (HE.pair HE.rd (HE.pair HE.rd (HE.pair HE.rd (HE.pair HE.rd (HE.pair HE.rd HE.unit))))) (fun a=>⟨a.1,a.2.1,a.2.2.1,a.2.2.2.1,a.2.2.2.2.1⟩) (fun _=>rfl) (fun _ h=>h)
def Qaa.ok (N:Nat) (x:Qaa):Prop:=isI x.order∧(fun _:Bool=>True) x.drop∧True
def QfF.ok (N:Nat) (x:QfF):Prop:=(fun l:List (Qaa)=>l.length≤N∧∀ x∈l,(Qaa.ok N) x) x.visits∧(fun l:List (Bool)=>l.length≤N∧∀ x∈l,(fun _:Bool=>True) x) x.rests∧True
end Go.Proofs.YtfjiafgldchinaaGreatDoor
