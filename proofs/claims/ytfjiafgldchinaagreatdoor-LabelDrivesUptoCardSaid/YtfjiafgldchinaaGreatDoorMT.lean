/- Part MT of the proof: texts Lt Ld Lo. -/
import Derived.Test.YtfjiafgldchinaaGreatDoorMA
import Derived.Test.YtfjiafgldchinaaGreatDoorMC
namespace Go.Proofs.YtfjiafgldchinaaGreatDoor
set_option linter.unusedVariables false
set_option linter.unusedSectionVars false
set_option linter.unusedSimpArgs false
def e_i64 (n:Int):List Lf:=[.int .i64 n]
def e_u8 (n:Int):List Lf:=[.int .u8 n]
def QgD (b:Bool):List Lf:=[.bool b]
def e_str (s:ByteArray):List Lf:=[.str s]
structure Qaa where
  err:Int
  at_:ByteArray
instance:DecidableEq Qaa:=fun a b=>decidable_of_iff (a.err=b.err∧a.at_=b.at_) (by cases a; cases b; simp)
structure Qaj where
  t:Int
  a:Int
instance:DecidableEq Qaj:=fun a b=>decidable_of_iff (a.t=b.t∧a.a=b.a) (by cases a; cases b; simp)
structure Qan where
  from_:Int
  to_:Int
  profile:Int
  miles:Int
  travel:List Qaj
  slow:List Qaj
instance:DecidableEq Qan:=fun a b=>decidable_of_iff (a.from_=b.from_∧a.to_=b.to_∧a.profile=b.profile∧a.miles=b.miles∧a.travel=b.travel∧a.slow=b.slow) (by cases a; cases b; simp)
structure Qak where
  places:List ByteArray
  arcs:List Qan
instance:DecidableEq Qak:=fun a b=>decidable_of_iff (a.places=b.places∧a.arcs=b.arcs) (by cases a; cases b; simp)
structure Qah where
  name:ByteArray
  count:Int
  from_:Int
  to_:Int
  cap:List Int
  skills:Int
  profile:Int
  open_:Int
  close:Int
  drive:Int
  rest_:Int
  fixed:Int
  perMile:Int
  perTick:Int
instance:DecidableEq Qah:=fun a b=>decidable_of_iff (a.name=b.name∧a.count=b.count∧a.from_=b.from_∧a.to_=b.to_∧a.cap=b.cap∧a.skills=b.skills∧a.profile=b.profile∧a.open_=b.open_∧a.close=b.close∧a.drive=b.drive∧a.rest_=b.rest_∧a.fixed=b.fixed∧a.perMile=b.perMile∧a.perTick=b.perTick) (by cases a; cases b; simp)
structure Qap where
  place:Int
  open_:Int
  close:Int
  service:Int
instance:DecidableEq Qap:=fun a b=>decidable_of_iff (a.place=b.place∧a.open_=b.open_∧a.close=b.close∧a.service=b.service) (by cases a; cases b; simp)
structure Qag where
  name:ByteArray
  load:List Int
  pick:Qap
  drop:Qap
  skills:Int
  penalty:Int
  split:Int
  last_:Int
  now:Int
  off:Bool
instance:DecidableEq Qag:=fun a b=>decidable_of_iff (a.name=b.name∧a.load=b.load∧a.pick=b.pick∧a.drop=b.drop∧a.skills=b.skills∧a.penalty=b.penalty∧a.split=b.split∧a.last_=b.last_∧a.now=b.now∧a.off=b.off) (by cases a; cases b; simp)
structure Qar where
  x0:Int
  x1:Int
instance:DecidableEq Qar:=fun a b=>decidable_of_iff (a.x0=b.x0∧a.x1=b.x1) (by cases a; cases b; simp)
structure Qac where
  net:Qak
  types:List Qah
  orders:List Qag
  apart:List Qar
  before:List Qar
instance:DecidableEq Qac:=fun a b=>decidable_of_iff (a.net=b.net∧a.types=b.types∧a.orders=b.orders∧a.apart=b.apart∧a.before=b.before) (by cases a; cases b; simp)
structure Qab where
  order:Int
  drop:Bool
instance:DecidableEq Qab:=fun a b=>decidable_of_iff (a.order=b.order∧a.drop=b.drop) (by cases a; cases b; simp)
structure Qad where
  type_:Int
  visits:List Qab
  place:Int
  time:Int
  driven:Int
  miles:Int
  load:List Int
  done:Int
  open_:Int
instance:DecidableEq Qad:=fun a b=>decidable_of_iff (a.type_=b.type_∧a.visits=b.visits∧a.place=b.place∧a.time=b.time∧a.driven=b.driven∧a.miles=b.miles∧a.load=b.load∧a.done=b.done∧a.open_=b.open_) (by cases a; cases b; simp)
structure Qgo where
  from_:Int
  to_:Int
  profile:Int
instance:DecidableEq Qgo:=fun a b=>decidable_of_iff (a.from_=b.from_∧a.to_=b.to_∧a.profile=b.profile) (by cases a; cases b; simp)
structure Quh where
  x0:Int
  x1:Int
  x2:Int
  x3:Int
  x4:Int
  x5:Int
  x6:Int
  x7:Int
  x8:Int
  x9:Int
  x10:Int
  x11:Int
  x12:Int
  x13:Int
  x14:Int
  x15:Int
  x16:Int
  x17:Int
  x18:Int
  x19:Int
  x20:Int
  x21:Int
  x22:Int
  x23:Int
instance:DecidableEq Quh:=fun a b=>decidable_of_iff (a.x0=b.x0∧a.x1=b.x1∧a.x2=b.x2∧a.x3=b.x3∧a.x4=b.x4∧a.x5=b.x5∧a.x6=b.x6∧a.x7=b.x7∧a.x8=b.x8∧a.x9=b.x9∧a.x10=b.x10∧a.x11=b.x11∧a.x12=b.x12∧a.x13=b.x13∧a.x14=b.x14∧a.x15=b.x15∧a.x16=b.x16∧a.x17=b.x17∧a.x18=b.x18∧a.x19=b.x19∧a.x20=b.x20∧a.x21=b.x21∧a.x22=b.x22∧a.x23=b.x23) (by cases a; cases b; simp)
structure Qaw where
  type_:Int
  start:Int
  rests:List Bool
  visits:List Qab
instance:DecidableEq Qaw:=fun a b=>decidable_of_iff (a.type_=b.type_∧a.start=b.start∧a.rests=b.rests∧a.visits=b.visits) (by cases a; cases b; simp)
structure QaN where
  arrive:Int
  begin:Int
  depart:Int
  rest_:Bool
instance:DecidableEq QaN:=fun a b=>decidable_of_iff (a.arrive=b.arrive∧a.begin=b.begin∧a.depart=b.depart∧a.rest_=b.rest_) (by cases a; cases b; simp)
structure QaB where
  rest_:Bool
  depart:Int
  times:List QaN
  end_:Int
  miles:Int
instance:DecidableEq QaB:=fun a b=>decidable_of_iff (a.rest_=b.rest_∧a.depart=b.depart∧a.times=b.times∧a.end_=b.end_∧a.miles=b.miles) (by cases a; cases b; simp)
structure QaK where
  cost:Int
  moved:Int
  other:Int
  work:Int
instance:DecidableEq QaK:=fun a b=>decidable_of_iff (a.cost=b.cost∧a.moved=b.moved∧a.other=b.other∧a.work=b.work) (by cases a; cases b; simp)
structure QtV where
  x0:Int
  x1:Int
  x2:Int
  x3:Int
instance:DecidableEq QtV:=fun a b=>decidable_of_iff (a.x0=b.x0∧a.x1=b.x1∧a.x2=b.x2∧a.x3=b.x3) (by cases a; cases b; simp)
structure Qao where
  items:List Qad
  first_:Int
instance:DecidableEq Qao:=fun a b=>decidable_of_iff (a.items=b.items∧a.first_=b.first_) (by cases a; cases b; simp)
structure QbD where
  queue:Qao
  x:Qac
instance:DecidableEq QbD:=fun a b=>decidable_of_iff (a.queue=b.queue∧a.x=b.x) (by cases a; cases b; simp)
structure Qaf where
  type_:Int
  visits:List Qab
  place:Int
  time:Int
  driven:Int
  miles:Int
  load:List Int
  done:Int
  open_:Int
instance:DecidableEq Qaf:=fun a b=>decidable_of_iff (a.type_=b.type_∧a.visits=b.visits∧a.place=b.place∧a.time=b.time∧a.driven=b.driven∧a.miles=b.miles∧a.load=b.load∧a.done=b.done∧a.open_=b.open_) (by cases a; cases b; simp)
structure QaC where
  visits:List Qab
  rests:List Bool
instance:DecidableEq QaC:=fun a b=>decidable_of_iff (a.visits=b.visits∧a.rests=b.rests) (by cases a; cases b; simp)
structure Qat where
  place:Int
  time:Int
  driven:Int
  miles:Int
instance:DecidableEq Qat:=fun a b=>decidable_of_iff (a.place=b.place∧a.time=b.time∧a.driven=b.driven∧a.miles=b.miles) (by cases a; cases b; simp)
structure QnY where
  type_:Int
  set_:Int
  price:Int
  route:Qaw
instance:DecidableEq QnY:=fun a b=>decidable_of_iff (a.type_=b.type_∧a.set_=b.set_∧a.price=b.price∧a.route=b.route) (by cases a; cases b; simp)
def Qaa.enc (x:Qaa):List Lf:=[lI x.err,.str x.at_]
def Qaj.enc (x:Qaj):List Lf:=[lI x.t,lI x.a]
def Qan.enc (x:Qan):List Lf:=[lI x.from_,lI x.to_,lI x.profile,lI x.miles,lL 2 x.travel Qaj.enc,lL 2 x.slow Qaj.enc]
def Qak.enc (x:Qak):List Lf:=[lL 1 x.places e_str,lL 6 x.arcs Qan.enc]
def Qah.enc (x:Qah):List Lf:=[.str x.name,lI x.count,lI x.from_,lI x.to_,lL 1 x.cap e_i64,lI x.skills,lI x.profile,lI x.open_,lI x.close,lI x.drive,lI x.rest_,lI x.fixed,lI x.perMile,lI x.perTick]
def Qap.enc (x:Qap):List Lf:=[lI x.place,lI x.open_,lI x.close,lI x.service]
def Qag.enc (x:Qag):List Lf:=[.str x.name,lL 1 x.load e_i64,lI x.pick.place,lI x.pick.open_,lI x.pick.close,lI x.pick.service,lI x.drop.place,lI x.drop.open_,lI x.drop.close,lI x.drop.service,lI x.skills,lI x.penalty,lI x.split,lI x.last_,lI x.now,.bool x.off]
def Qar.enc (x:Qar):List Lf:=[lI x.x0,lI x.x1]
def Qac.enc (x:Qac):List Lf:=[lL 1 x.net.places e_str,lL 6 x.net.arcs Qan.enc,lL 14 x.types Qah.enc,lL 16 x.orders Qag.enc,lL 2 x.apart Qar.enc,lL 2 x.before Qar.enc]
def Qab.enc (x:Qab):List Lf:=[lI x.order,.bool x.drop]
def Qad.enc (x:Qad):List Lf:=[lI x.type_,lL 2 x.visits Qab.enc,lI x.place,lI x.time,lI x.driven,lI x.miles,lL 1 x.load e_i64,lI x.done,lI x.open_]
def Qgo.enc (x:Qgo):List Lf:=[lI x.from_,lI x.to_,lI x.profile]
def Quh.enc (x:Quh):List Lf:=[.int .u8 x.x0,.int .u8 x.x1,.int .u8 x.x2,.int .u8 x.x3,.int .u8 x.x4,.int .u8 x.x5,.int .u8 x.x6,.int .u8 x.x7,.int .u8 x.x8,.int .u8 x.x9,.int .u8 x.x10,.int .u8 x.x11,.int .u8 x.x12,.int .u8 x.x13,.int .u8 x.x14,.int .u8 x.x15,.int .u8 x.x16,.int .u8 x.x17,.int .u8 x.x18,.int .u8 x.x19,.int .u8 x.x20,.int .u8 x.x21,.int .u8 x.x22,.int .u8 x.x23]
def Qaw.enc (x:Qaw):List Lf:=[lI x.type_,lI x.start,lL 1 x.rests QgD,lL 2 x.visits Qab.enc]
def QaN.enc (x:QaN):List Lf:=[lI x.arrive,lI x.begin,lI x.depart,.bool x.rest_]
def QaB.enc (x:QaB):List Lf:=[.bool x.rest_,lI x.depart,lL 4 x.times QaN.enc,lI x.end_,lI x.miles]
def QaK.enc (x:QaK):List Lf:=[lI x.cost,lI x.moved,lI x.other,lI x.work]
def QtV.enc (x:QtV):List Lf:=[lI x.x0,lI x.x1,lI x.x2,lI x.x3]
def Qao.enc (x:Qao):List Lf:=[lL 9 x.items Qad.enc,lI x.first_]
def QbD.enc (x:QbD):List Lf:=[lL 9 x.queue.items Qad.enc,lI x.queue.first_,lL 1 x.x.net.places e_str,lL 6 x.x.net.arcs Qan.enc,lL 14 x.x.types Qah.enc,lL 16 x.x.orders Qag.enc,lL 2 x.x.apart Qar.enc,lL 2 x.x.before Qar.enc]
def Qaf.enc (x:Qaf):List Lf:=[lI x.type_,lL 2 x.visits Qab.enc,lI x.place,lI x.time,lI x.driven,lI x.miles,lL 1 x.load e_i64,lI x.done,lI x.open_]
def QaC.enc (x:QaC):List Lf:=[lL 2 x.visits Qab.enc,lL 1 x.rests QgD]
def Qat.enc (x:Qat):List Lf:=[lI x.place,lI x.time,lI x.driven,lI x.miles]
def QnY.enc (x:QnY):List Lf:=[lI x.type_,lI x.set_,lI x.price,lI x.route.type_,lI x.route.start,lL 1 x.route.rests QgD,lL 2 x.route.visits Qab.enc]
def es_T_api_Visit.enc (l:List Qab):List Lf:=[.sl false 2 (l.map Qab.enc)]
def QdZ (l:List Int):List Lf:=[.sl false 1 (l.map e_i64)]
def QbY:ByteArray:=⟨#[32]⟩
def QrK:ByteArray:=⟨#[45]⟩
def QiC:ByteArray:=⟨#[112,108,97,99,101,115]⟩
def Qcv:ByteArray:=⟨#[112,108,97,99,101,32]⟩
def QaE:ByteArray:=⟨#[97,114,99,32]⟩
def Qnq:ByteArray:=⟨#[97,114,99,115]⟩
def QqE:ByteArray:=⟨#[97,112,97,114,116]⟩
def QpA:ByteArray:=⟨#[98,101,102,111,114,101]⟩
def Qsj:ByteArray:=⟨#[110,101,116]⟩
def QsU:ByteArray:=⟨#[116,121,112,101,115]⟩
def Qsk:ByteArray:=⟨#[111,114,100,101,114,115]⟩
def QsT:ByteArray:=⟨#[114,117,108,101,115]⟩
def QkO:ByteArray:=⟨#[48,49,50,51,52,53,54,55,56,57,97,98,99,100,101,102,103,104,105,106,107,108,109,110,111,112,113,114,115,116,117,118,119,120,121,122]⟩
def QkN:ByteArray:=⟨#[48,48,48,49,48,50,48,51,48,52,48,53,48,54,48,55,48,56,48,57,49,48,49,49,49,50,49,51,49,52,49,53,49,54,49,55,49,56,49,57,50,48,50,49,50,50,50,51,50,52,50,53,50,54,50,55,50,56,50,57,51,48,51,49,51,50,51,51,51,52,51,53,51,54,51,55,51,56,51,57,52,48,52,49,52,50,52,51,52,52,52,53,52,54,52,55,52,56,52,57,53,48,53,49,53,50,53,51,53,52,53,53,53,54,53,55,53,56,53,57,54,48,54,49,54,50,54,51,54,52,54,53,54,54,54,55,54,56,54,57,55,48,55,49,55,50,55,51,55,52,55,53,55,54,55,55,55,56,55,57,56,48,56,49,56,50,56,51,56,52,56,53,56,54,56,55,56,56,56,57,57,48,57,49,57,50,57,51,57,52,57,53,57,54,57,55,57,56,57,57]⟩
def QkP:ByteArray:=⟨#[0,1,2,2,3,3,3,3,4,4,4,4,4,4,4,4,5,5,5,5,5,5,5,5,5,5,5,5,5,5,5,5,6,6,6,6,6,6,6,6,6,6,6,6,6,6,6,6,6,6,6,6,6,6,6,6,6,6,6,6,6,6,6,6,7,7,7,7,7,7,7,7,7,7,7,7,7,7,7,7,7,7,7,7,7,7,7,7,7,7,7,7,7,7,7,7,7,7,7,7,7,7,7,7,7,7,7,7,7,7,7,7,7,7,7,7,7,7,7,7,7,7,7,7,7,7,7,7,8,8,8,8,8,8,8,8,8,8,8,8,8,8,8,8,8,8,8,8,8,8,8,8,8,8,8,8,8,8,8,8,8,8,8,8,8,8,8,8,8,8,8,8,8,8,8,8,8,8,8,8,8,8,8,8,8,8,8,8,8,8,8,8,8,8,8,8,8,8,8,8,8,8,8,8,8,8,8,8,8,8,8,8,8,8,8,8,8,8,8,8,8,8,8,8,8,8,8,8,8,8,8,8,8,8,8,8,8,8,8,8,8,8,8,8,8,8,8,8,8,8,8,8,8,8,8,8]⟩
def QiI:ByteArray:=⟨#[97]⟩
def QiJ:ByteArray:=⟨#[98]⟩
def QiL:ByteArray:=⟨#[118]⟩
def QiK:ByteArray:=⟨#[111]⟩
structure QaI where
  ready:Int
  since:Int
  sheet:QaB
end Go.Proofs.YtfjiafgldchinaaGreatDoor
namespace Go.Proofs.YtfjiafgldchinaaGreatDoor
set_option linter.unusedVariables false
set_option linter.unusedSectionVars false
set_option linter.unusedSimpArgs false
noncomputable def QdW (word:ByteArray) (l:List Qaa) (l1:List Qaa) (i:Int) (at_:ByteArray):Option ((List Qaa×Int)⊕(List Qaa)):=bnd (getI l i) fun x1=>chk (okN (l1++[(Qaa.mk x1.err at_)]).length 24) (some (.inl ((l1++[(Qaa.mk x1.err at_)]),(addK .i64 i 1))))
noncomputable def Qc7 (word:ByteArray) (l:List Qaa) (l1:List Qaa) (i:Int):Option ((List Qaa×Int)⊕(List Qaa)):=br (ltI i (lenI l)) (bnd (getI l i) fun x0=>br (eqS x0.at_ ByteArray.empty) (QdW word l l1 i word) (chk (word.size+QbY.size≤9223372036854775807) (chk ((catS word QbY).size+x0.at_.size≤9223372036854775807) (QdW word l l1 i (catS (catS word QbY) x0.at_))))) (some (.inr l1))
noncomputable def Qem (word:ByteArray) (l:List Qaa):Option (List Qaa):=bnd (loopF (fun s=>Qc7 word l s.1 s.2) ([],0)) (fun l2=>some l2)
noncomputable def Qco (n:Int) (s0:ByteArray) (left:Int) (d:Int):Option ((ByteArray×Int×Bool)⊕(ByteArray)):=chk ((QnZ [(cvK .u8 (addK .i64 48 d))]).size+s0.size≤9223372036854775807) (some (.inl ((catS (QnZ [(cvK .u8 (addK .i64 48 d))]) s0),(quoK .i64 left 10),(neI (quoK .i64 left 10) 0))))
noncomputable def Qeb (n:Int) (s0:ByteArray) (left:Int) (again:Bool):Option ((ByteArray×Int×Bool)⊕(ByteArray)):=br again (br (ltI (remK left 10) 0) (Qco n s0 left (subK .i64 0 (remK left 10))) (Qco n s0 left (remK left 10))) (some (.inr s0))
noncomputable def Qbf (n:Int):Option ByteArray:=bnd (loopF (fun s=>Qeb n s.1 s.2.1 s.2.2) (ByteArray.empty,n,true)) (fun s1=>br (ltI n 0) (chk (QrK.size+s1.size≤9223372036854775807) (some (catS QrK s1))) (some s1))
noncomputable def QgM (c:Int):Option Bool:=some ((geI c 48)&&(leI c 57))
noncomputable def QiG (c:Int):Option Bool:=some ((((geI c 97)&&(leI c 122))||((geI c 65)&&(leI c 90)))||(eqI c 95))
noncomputable def Qdo (s0:ByteArray) (b:UInt8) (i:Int):Option ((Int)⊕((Unit)⊕(Bool))):=br (ltI i (sizeS s0)) (bnd (getS s0 i) fun b1=>bnd (QiG (byteI b1)) fun r1=>br r1 (some (.inl (addK .i64 i 1))) (bnd (QgM (byteI b1)) fun r2=>br r2 (some (.inl (addK .i64 i 1))) (some (.inr (.inr false))))) (some (.inr (.inl ())))
noncomputable def Qd3 (s0:ByteArray):Option Bool:=br ((ltI (sizeS s0) 1)||(gtI (sizeS s0) 16)) (some false) (bnd (getS s0 0) fun b=>bnd (QgM (byteI b)) fun r=>br r (some false) (bnd (loopF (fun s=>Qdo s0 b s) 0) (fun e=>sel e (fun (_:Unit)=>some true) (fun r3=>some r3))))
noncomputable def QcS (l:List Qaj) (i:Int) (x0:Qaj) (l3:List Qaa):Option ((List Qaa×Int)⊕(List Qaa)):=br (gtI i 0) (bnd (getI l (subK .i64 i 1)) fun x1=>br (leI x0.t x1.t) (bnd (Qbf i) fun r1=>chk (okN (l3++[(Qaa.mk 13 r1)]).length 24) (some (.inl ((l3++[(Qaa.mk 13 r1)]),(addK .i64 i 1))))) (br (ltI x0.a x1.a) (bnd (Qbf i) fun r2=>chk (okN (l3++[(Qaa.mk 13 r2)]).length 24) (some (.inl ((l3++[(Qaa.mk 13 r2)]),(addK .i64 i 1))))) (some (.inl (l3,(addK .i64 i 1)))))) (some (.inl (l3,(addK .i64 i 1))))
noncomputable def Qcl (l:List Qaj) (l2:List Qaa) (i:Int):Option ((List Qaa×Int)⊕(List Qaa)):=br (ltI i (lenI l)) (bnd (getI l i) fun x0=>br ((((ltI x0.t 0)||(gtI x0.t 4096))||(ltI x0.a x0.t))||(gtI x0.a (addK .i64 x0.t 4096))) (bnd (Qbf i) fun r=>chk (okN (l2++[(Qaa.mk 2 r)]).length 24) (QcS l i x0 (l2++[(Qaa.mk 2 r)]))) (QcS l i x0 l2)) (some (.inr l2))
noncomputable def QdP (l:List Qaj) (l1:List Qaa):Option (List Qaa):=bnd (loopF (fun s=>Qcl l s.1 s.2) (l1,0)) (fun l4=>some l4)
noncomputable def Qdz (l:List Qaj):Option (List Qaa):=br ((ltI (lenI l) 1)||(gtI (lenI l) 16)) (chk (okN [(Qaa.mk 4 ByteArray.empty)].length 24) (QdP l [(Qaa.mk 4 ByteArray.empty)])) (QdP l [])
noncomputable def QeW (t:Int):Option Bool:=some ((geI t 0)&&(leI t 4096))
noncomputable def Qbm (n:Qak) (i:Int) (r:ByteArray) (x0:Qan) (l:List Qaa) (l1:List Qaa) (twice:Bool) (k:Int):Option ((Bool×Int)⊕(Bool)):=br (ltI k i) (bnd (getI n.arcs k) fun x1=>some (.inl ((twice||(((eqI x0.from_ x1.from_)&&(eqI x0.to_ x1.to_))&&(eqI x0.profile x1.profile))),(addK .i64 k 1)))) (some (.inr twice))
noncomputable def Qbn (r:ByteArray) (x0:Qan) (l:List Qaa) (r1:List Qaa) (l3:List Qaa) (k1:Int):Option ((List Qaa×Int)⊕(List Qaa)):=br (ltI k1 (lenI r1)) (bnd (getI r1 k1) fun x2=>chk (okN (l3++[(Qaa.mk x2.err (catS QaE r))]).length 24) (some (.inl ((l3++[(Qaa.mk x2.err (catS QaE r))]),(addK .i64 k1 1))))) (some (.inr l3))
noncomputable def Qbo (r:ByteArray) (x0:Qan) (l:List Qaa) (l6:List Qaa) (k2:Int):Option ((List Qaa×Int)⊕(List Qaa)):=br (ltI k2 (lenI x0.slow)) (bnd (getI x0.slow k2) fun x3=>bnd (QeW x3.t) fun r2=>br r2 (bnd (QeW x3.a) fun r3=>br r3 (br (gtI k2 0) (bnd (getI x0.slow (subK .i64 k2 1)) fun x4=>br (leI x3.t x4.t) (chk (okN (l6++[(Qaa.mk 2 (catS QaE r))]).length 24) (some (.inl ((l6++[(Qaa.mk 2 (catS QaE r))]),(addK .i64 k2 1))))) (some (.inl (l6,(addK .i64 k2 1))))) (some (.inl (l6,(addK .i64 k2 1))))) (chk (okN (l6++[(Qaa.mk 2 (catS QaE r))]).length 24) (some (.inl ((l6++[(Qaa.mk 2 (catS QaE r))]),(addK .i64 k2 1)))))) (chk (okN (l6++[(Qaa.mk 2 (catS QaE r))]).length 24) (some (.inl ((l6++[(Qaa.mk 2 (catS QaE r))]),(addK .i64 k2 1)))))) (some (.inr l6))
noncomputable def Qa6 (r:ByteArray) (x0:Qan) (l:List Qaa) (l5:List Qaa):Option (List Qaa):=bnd (loopF (fun s=>Qbo r x0 l s.1 s.2) (l5,0)) (fun l7=>some l7)
noncomputable def Qbl (r:ByteArray) (x0:Qan) (l:List Qaa) (l2:List Qaa):Option (List Qaa):=bnd (Qdz x0.travel) fun r1=>bnd (loopF (fun s=>Qbn r x0 l r1 s.1 s.2) (l2,0)) (fun l4=>br (gtI (lenI x0.slow) 16) (chk (okN (l4++[(Qaa.mk 4 (catS QaE r))]).length 24) (Qa6 r x0 l (l4++[(Qaa.mk 4 (catS QaE r))]))) (Qa6 r x0 l l4))
noncomputable def Qb9 (n:Qak) (i:Int) (r:ByteArray) (x0:Qan) (l:List Qaa) (l1:List Qaa):Option (List Qaa):=bnd (loopF (fun s=>Qbm n i r x0 l l1 s.1 s.2) (false,0)) (fun twice1=>br twice1 (chk (okN (l1++[(Qaa.mk 6 (catS QaE r))]).length 24) (Qbl r x0 l (l1++[(Qaa.mk 6 (catS QaE r))]))) (Qbl r x0 l l1))
noncomputable def Qb8 (n:Qak) (i:Int) (r:ByteArray) (x0:Qan) (l:List Qaa):Option (List Qaa):=br (((((ltI x0.profile 0)||(gtI x0.profile 7))||(ltI x0.miles 0))||(gtI x0.miles 10000))||(eqI x0.from_ x0.to_)) (chk (okN (l++[(Qaa.mk 2 (catS QaE r))]).length 24) (Qb9 n i r x0 l (l++[(Qaa.mk 2 (catS QaE r))]))) (Qb9 n i r x0 l l)
noncomputable def QdR (n:Qak) (i:Int):Option (List Qaa):=bnd (Qbf i) fun r=>chk (QaE.size+r.size≤9223372036854775807) (bnd (getI n.arcs i) fun x0=>br ((((ltI x0.from_ 0)||(geI x0.from_ (lenI n.places)))||(ltI x0.to_ 0))||(geI x0.to_ (lenI n.places))) (chk (okN [(Qaa.mk 11 (catS QaE r))].length 24) (Qb8 n i r x0 [(Qaa.mk 11 (catS QaE r))])) (Qb8 n i r x0 []))
noncomputable def QaQ (n:Qak) (l:List Qaa) (l1:List Qaa) (i:Int) (r:ByteArray) (twice:Bool) (k:Int):Option ((Bool×Int)⊕(Bool)):=br (ltI k i) (br twice (some (.inl (true,(addK .i64 k 1)))) (bnd (getI n.places k) fun x1=>bnd (getI n.places i) fun x2=>some (.inl ((eqS x1 x2),(addK .i64 k 1))))) (some (.inr twice))
noncomputable def QaP (n:Qak) (l:List Qaa) (l1:List Qaa) (i:Int):Option ((List Qaa×Int)⊕(List Qaa)):=br (ltI i (lenI n.places)) (bnd (Qbf i) fun r=>chk (Qcv.size+r.size≤9223372036854775807) (bnd (getI n.places i) fun x0=>bnd (Qd3 x0) fun r1=>br r1 (bnd (loopF (fun s=>QaQ n l l1 i r s.1 s.2) (false,0)) (fun twice1=>br twice1 (chk (okN (l1++[(Qaa.mk 6 (catS Qcv r))]).length 24) (some (.inl ((l1++[(Qaa.mk 6 (catS Qcv r))]),(addK .i64 i 1))))) (some (.inl (l1,(addK .i64 i 1)))))) (chk (okN (l1++[(Qaa.mk 5 (catS Qcv r))]).length 24) (some (.inl ((l1++[(Qaa.mk 5 (catS Qcv r))]),(addK .i64 i 1))))))) (some (.inr l1))
noncomputable def Qbx (n:Qak) (l:List Qaa):Option (List Qaa):=bnd (loopF (fun s=>QaP n l s.1 s.2) (l,0)) (fun l2=>some l2)
noncomputable def Qb5 (n:Qak):Option (List Qaa):=br (gtI (lenI n.places) 24) (chk (okN [(Qaa.mk 4 QiC)].length 24) (Qbx n [(Qaa.mk 4 QiC)])) (Qbx n [])
noncomputable def Qb1 (n:Qak) (l:List Qaa) (l1:List Qaa) (i:Int):Option ((List Qaa×Int)⊕(List Qaa)):=br (ltI i (lenI n.arcs)) (bnd (QdR n i) fun r1=>chk (okN (l1++r1).length 24) (some (.inl ((l1++r1),(addK .i64 i 1))))) (some (.inr l1))
noncomputable def QdQ (n:Qak) (l:List Qaa):Option (List Qaa):=bnd (loopF (fun s=>Qb1 n l s.1 s.2) (l,0)) (fun l2=>some l2)
noncomputable def Qfh (n:Qak):Option (List Qaa):=bnd (Qb5 n) fun r=>br (gtI (lenI n.arcs) 1024) (chk (okN (r++[(Qaa.mk 4 Qnq)]).length 24) (QdQ n (r++[(Qaa.mk 4 Qnq)]))) (QdQ n r)
noncomputable def QaD (n:Int) (lo:Int) (hi:Int):Option Bool:=some ((geI n lo)&&(leI n hi))
noncomputable def Qd4 (l:List Qah):Option Int:=br (eqI (lenI l) 0) (some 0) (bnd (getI l 0) fun x0=>some (lenI x0.cap))
noncomputable def Qby (l:List Qah) (at_:Int) (name:ByteArray) (i:Int):Option ((Int)⊕((Unit)⊕(Bool))):=br (ltI i at_) (bnd (getI l i) fun x0=>br (eqS x0.name name) (some (.inr (.inr true))) (some (.inl (addK .i64 i 1)))) (some (.inr (.inl ())))
noncomputable def Qfj (l:List Qah) (at_:Int) (name:ByteArray):Option Bool:=bnd (loopF (fun s=>Qby l at_ name s) 0) (fun e=>sel e (fun (_:Unit)=>some false) (fun r=>some r))
noncomputable def Qa7 (l:List Int) (i:Int):Option ((Int)⊕((Unit)⊕(Bool))):=br (ltI i (lenI l)) (bnd (getI l i) fun x0=>bnd (QaD x0 0 1000) fun r1=>br r1 (some (.inl (addK .i64 i 1))) (some (.inr (.inr false)))) (some (.inr (.inl ())))
noncomputable def QcT (l:List Int) (dims:Int):Option Bool:=bnd (QaD (lenI l) 1 3) fun r=>br ((!r)||(neI (lenI l) dims)) (some false) (bnd (loopF (fun s=>Qa7 l s) 0) (fun e=>sel e (fun (_:Unit)=>some true) (fun r2=>some r2)))
noncomputable def Qc1 (x0:Qah) (l8:List Int):Option (List Int):=bnd (QaD x0.profile 0 7) fun r11=>br r11 (bnd (QaD x0.fixed 0 100000) fun r12=>br r12 (bnd (QaD x0.perMile 0 100) fun r13=>br r13 (bnd (QaD x0.perTick 0 100) fun r14=>br r14 (some l8) (chk (okN (l8++[2]).length 8) (some (l8++[2])))) (chk (okN (l8++[2]).length 8) (some (l8++[2])))) (chk (okN (l8++[2]).length 8) (some (l8++[2])))) (chk (okN (l8++[2]).length 8) (some (l8++[2])))
noncomputable def Qc0 (x0:Qah) (l7:List Int):Option (List Int):=bnd (QaD x0.drive 1 4096) fun r9=>br r9 (bnd (QaD x0.rest_ 0 4096) fun r10=>br r10 (Qc1 x0 l7) (chk (okN (l7++[16]).length 8) (Qc1 x0 (l7++[16])))) (chk (okN (l7++[16]).length 8) (bnd (QaD x0.profile 0 7) fun r15=>br r15 (bnd (QaD x0.fixed 0 100000) fun r16=>br r16 (bnd (QaD x0.perMile 0 100) fun r17=>br r17 (bnd (QaD x0.perTick 0 100) fun r18=>br r18 (some (l7++[16])) (chk (okN ((l7++[16])++[2]).length 8) (some ((l7++[16])++[2])))) (chk (okN ((l7++[16])++[2]).length 8) (some ((l7++[16])++[2])))) (chk (okN ((l7++[16])++[2]).length 8) (some ((l7++[16])++[2])))) (chk (okN ((l7++[16])++[2]).length 8) (some ((l7++[16])++[2])))))
noncomputable def QcZ (x0:Qah) (l6:List Int):Option (List Int):=bnd (QaD x0.open_ 0 x0.close) fun r8=>br ((!r8)||(gtI x0.close 4096)) (chk (okN (l6++[15]).length 8) (Qc0 x0 (l6++[15]))) (Qc0 x0 l6)
noncomputable def QcY (x0:Qah) (l5:List Int):Option (List Int):=bnd (QaD x0.skills 0 1073741823) fun r7=>br r7 (QcZ x0 l5) (chk (okN (l5++[18]).length 8) (QcZ x0 (l5++[18])))
noncomputable def QcX (l:List Qah) (x0:Qah) (l4:List Int):Option (List Int):=bnd (Qd4 l) fun r5=>bnd (QcT x0.cap r5) fun r6=>br r6 (QcY x0 l4) (chk (okN (l4++[17]).length 8) (QcY x0 (l4++[17])))
noncomputable def QeI (x0:Qah) (l12:List Int):Option (List Int):=bnd (QaD x0.profile 0 7) fun r25=>br r25 (bnd (QaD x0.fixed 0 100000) fun r26=>br r26 (bnd (QaD x0.perMile 0 100) fun r27=>br r27 (bnd (QaD x0.perTick 0 100) fun r28=>br r28 (some l12) (chk (okN (l12++[2]).length 8) (some (l12++[2])))) (chk (okN (l12++[2]).length 8) (some (l12++[2])))) (chk (okN (l12++[2]).length 8) (some (l12++[2])))) (chk (okN (l12++[2]).length 8) (some (l12++[2])))
noncomputable def QeH (x0:Qah) (l11:List Int):Option (List Int):=bnd (QaD x0.drive 1 4096) fun r23=>br r23 (bnd (QaD x0.rest_ 0 4096) fun r24=>br r24 (QeI x0 l11) (chk (okN (l11++[16]).length 8) (QeI x0 (l11++[16])))) (chk (okN (l11++[16]).length 8) (bnd (QaD x0.profile 0 7) fun r29=>br r29 (bnd (QaD x0.fixed 0 100000) fun r30=>br r30 (bnd (QaD x0.perMile 0 100) fun r31=>br r31 (bnd (QaD x0.perTick 0 100) fun r32=>br r32 (some (l11++[16])) (chk (okN ((l11++[16])++[2]).length 8) (some ((l11++[16])++[2])))) (chk (okN ((l11++[16])++[2]).length 8) (some ((l11++[16])++[2])))) (chk (okN ((l11++[16])++[2]).length 8) (some ((l11++[16])++[2])))) (chk (okN ((l11++[16])++[2]).length 8) (some ((l11++[16])++[2])))))
noncomputable def QeG (x0:Qah) (l10:List Int):Option (List Int):=bnd (QaD x0.open_ 0 x0.close) fun r22=>br ((!r22)||(gtI x0.close 4096)) (chk (okN (l10++[15]).length 8) (QeH x0 (l10++[15]))) (QeH x0 l10)
noncomputable def Qe8 (x0:Qah) (l9:List Int):Option (List Int):=bnd (QaD x0.skills 0 1073741823) fun r21=>br r21 (QeG x0 l9) (chk (okN (l9++[18]).length 8) (QeG x0 (l9++[18])))
noncomputable def QcW (n:Qak) (l:List Qah) (x0:Qah) (l3:List Int):Option (List Int):=bnd (QaD x0.from_ 0 (subK .i64 (lenI n.places) 1)) fun r3=>br r3 (bnd (QaD x0.to_ 0 (subK .i64 (lenI n.places) 1)) fun r4=>br r4 (QcX l x0 l3) (chk (okN (l3++[11]).length 8) (QcX l x0 (l3++[11])))) (chk (okN (l3++[11]).length 8) (bnd (Qd4 l) fun r19=>bnd (QcT x0.cap r19) fun r20=>br r20 (Qe8 x0 (l3++[11])) (chk (okN ((l3++[11])++[17]).length 8) (Qe8 x0 ((l3++[11])++[17])))))
noncomputable def QcV (n:Qak) (l:List Qah) (x0:Qah) (l2:List Int):Option (List Int):=bnd (QaD x0.count 0 10) fun r2=>br r2 (QcW n l x0 l2) (chk (okN (l2++[22]).length 8) (QcW n l x0 (l2++[22])))
noncomputable def QcU (n:Qak) (l:List Qah) (at_:Int) (x0:Qah) (l1:List Int):Option (List Int):=bnd (Qfj l at_ x0.name) fun r1=>br r1 (chk (okN (l1++[6]).length 8) (QcV n l x0 (l1++[6]))) (QcV n l x0 l1)
noncomputable def Qfk (n:Qak) (l:List Qah) (at_:Int):Option (List Int):=bnd (getI l at_) fun x0=>bnd (Qd3 x0.name) fun r=>br r (QcU n l at_ x0 []) (chk (okN [5].length 8) (QcU n l at_ x0 [5]))
noncomputable def Qe7 (n:Qak) (l:List Qah) (i:Int) (r1:List Int) (l3:List Qaa) (k:Int):Option ((List Qaa×Int)⊕(List Qaa)):=br (ltI k (lenI r1)) (bnd (getI r1 k) fun x0=>bnd (Qbf i) fun r2=>chk (okN (l3++[(Qaa.mk x0 r2)]).length 24) (some (.inl ((l3++[(Qaa.mk x0 r2)]),(addK .i64 k 1))))) (some (.inr l3))
noncomputable def Qb2 (n:Qak) (l:List Qah) (l2:List Qaa) (i:Int):Option ((List Qaa×Int)⊕(List Qaa)):=br (ltI i (lenI l)) (bnd (Qfk n l i) fun r1=>bnd (loopF (fun s=>Qe7 n l i r1 s.1 s.2) (l2,0)) (fun l4=>some (.inl (l4,(addK .i64 i 1))))) (some (.inr l2))
noncomputable def QdS (n:Qak) (l:List Qah) (l1:List Qaa):Option (List Qaa):=bnd (loopF (fun s=>Qb2 n l s.1 s.2) (l1,0)) (fun l5=>some l5)
noncomputable def Qfi (n:Qak) (l:List Qah):Option (List Qaa):=bnd (QaD (lenI l) 1 6) fun r=>br r (QdS n l []) (chk (okN [(Qaa.mk 4 ByteArray.empty)].length 24) (QdS n l [(Qaa.mk 4 ByteArray.empty)]))
noncomputable def QaT (n:Int) (low:Int) (high:Int):Option Bool:=some ((geI n low)&&(leI n high))
noncomputable def Qbv (a:List Int) (i:Int):Option ((Int)⊕((Unit)⊕(Bool))):=br (ltI i (lenI a)) (bnd (getI a i) fun x0=>br (ltI x0 0) (some (.inr (.inr false))) (br (gtI x0 1000) (some (.inr (.inr false))) (some (.inl (addK .i64 i 1))))) (some (.inr (.inl ())))
noncomputable def Qdy (a:List Int) (dims:Int):Option Bool:=br (neI (lenI a) dims) (some false) (bnd (loopF (fun s=>Qbv a s) 0) (fun e=>sel e (fun (_:Unit)=>some true) (fun r=>some r)))
noncomputable def QcN (s0:Qap):Option Int:=br ((((eqI s0.place (-1))&&(eqI s0.open_ 0))&&(eqI s0.close 0))&&(eqI s0.service 0)) (some 0) (br ((((((ltI s0.place 0)||(ltI s0.open_ 0))||(gtI s0.open_ s0.close))||(gtI s0.close 4096))||(ltI s0.service 0))||(gtI s0.service 4096)) (some 2) (some 0))
noncomputable def Qbz (places:Int) (dims:Int) (types:Int) (l:List Qag) (at_:Int) (x0:Qag) (l1:List Int) (i:Int):Option ((Int)⊕(List Int)):=br (ltI i at_) (bnd (getI l i) fun x1=>br (eqS x1.name x0.name) (chk (okN (l1++[6]).length 8) (some (.inr (l1++[6])))) (some (.inl (addK .i64 i 1)))) (some (.inr l1))
noncomputable def Qc5 (types:Int) (x0:Qag) (l6:List Int):Option (List Int):=bnd (QaT x0.penalty (-1) 1000000) fun r6=>br r6 (bnd (QaT x0.split 1 4) fun r7=>br ((((((!r7)||((gtI x0.split 1)&&((neI x0.pick.place (-1))&&(neI x0.drop.place (-1)))))||(ltI x0.last_ (-1)))||(geI x0.last_ types))||(ltI x0.now (-1)))||(geI x0.now types)) (chk (okN (l6++[2]).length 8) (some (l6++[2]))) (some l6)) (chk (okN (l6++[2]).length 8) (some (l6++[2])))
noncomputable def Qfa (types:Int) (x0:Qag) (l8:List Int):Option (List Int):=bnd (QaT x0.penalty (-1) 1000000) fun r10=>br r10 (bnd (QaT x0.split 1 4) fun r11=>br ((((((!r11)||((gtI x0.split 1)&&((neI x0.pick.place (-1))&&(neI x0.drop.place (-1)))))||(ltI x0.last_ (-1)))||(geI x0.last_ types))||(ltI x0.now (-1)))||(geI x0.now types)) (chk (okN (l8++[2]).length 8) (some (l8++[2]))) (some l8)) (chk (okN (l8++[2]).length 8) (some (l8++[2])))
noncomputable def Qc6 (types:Int) (x0:Qag) (l7:List Int):Option (List Int):=bnd (QaT x0.skills 0 1073741823) fun r9=>br r9 (Qfa types x0 l7) (chk (okN (l7++[18]).length 8) (Qfa types x0 (l7++[18])))
noncomputable def Qc4 (types:Int) (x0:Qag) (l5:List Int):Option (List Int):=bnd (QcN x0.pick) fun r4=>br (neI r4 0) (chk (okN (l5++[14]).length 8) (bnd (QaT x0.skills 0 1073741823) fun r5=>br r5 (Qc5 types x0 (l5++[14])) (chk (okN ((l5++[14])++[18]).length 8) (Qc5 types x0 ((l5++[14])++[18]))))) (bnd (QcN x0.drop) fun r8=>br (neI r8 0) (chk (okN (l5++[14]).length 8) (Qc6 types x0 (l5++[14]))) (Qc6 types x0 l5))
noncomputable def Qc3 (types:Int) (x0:Qag) (l4:List Int):Option (List Int):=br ((eqI x0.pick.place (-1))&&(eqI x0.drop.place (-1))) (chk (okN (l4++[19]).length 8) (Qc4 types x0 (l4++[19]))) (Qc4 types x0 l4)
noncomputable def Qfc (types:Int) (x0:Qag) (l10:List Int):Option (List Int):=bnd (QaT x0.penalty (-1) 1000000) fun r14=>br r14 (bnd (QaT x0.split 1 4) fun r15=>br ((((((!r15)||((gtI x0.split 1)&&((neI x0.pick.place (-1))&&(neI x0.drop.place (-1)))))||(ltI x0.last_ (-1)))||(geI x0.last_ types))||(ltI x0.now (-1)))||(geI x0.now types)) (chk (okN (l10++[2]).length 8) (some (l10++[2]))) (some l10)) (chk (okN (l10++[2]).length 8) (some (l10++[2])))
noncomputable def QeK (types:Int) (x0:Qag) (l12:List Int):Option (List Int):=bnd (QaT x0.penalty (-1) 1000000) fun r18=>br r18 (bnd (QaT x0.split 1 4) fun r19=>br ((((((!r19)||((gtI x0.split 1)&&((neI x0.pick.place (-1))&&(neI x0.drop.place (-1)))))||(ltI x0.last_ (-1)))||(geI x0.last_ types))||(ltI x0.now (-1)))||(geI x0.now types)) (chk (okN (l12++[2]).length 8) (some (l12++[2]))) (some l12)) (chk (okN (l12++[2]).length 8) (some (l12++[2])))
noncomputable def QeJ (types:Int) (x0:Qag) (l11:List Int):Option (List Int):=bnd (QaT x0.skills 0 1073741823) fun r17=>br r17 (QeK types x0 l11) (chk (okN (l11++[18]).length 8) (QeK types x0 (l11++[18])))
noncomputable def Qfb (types:Int) (x0:Qag) (l9:List Int):Option (List Int):=bnd (QcN x0.pick) fun r12=>br (neI r12 0) (chk (okN (l9++[14]).length 8) (bnd (QaT x0.skills 0 1073741823) fun r13=>br r13 (Qfc types x0 (l9++[14])) (chk (okN ((l9++[14])++[18]).length 8) (Qfc types x0 ((l9++[14])++[18]))))) (bnd (QcN x0.drop) fun r16=>br (neI r16 0) (chk (okN (l9++[14]).length 8) (QeJ types x0 (l9++[14]))) (QeJ types x0 l9))
noncomputable def Qbi (places:Int) (types:Int) (x0:Qag) (l3:List Int):Option (List Int):=bnd (QaT x0.pick.place (-1) (subK .i64 places 1)) fun r2=>br r2 (bnd (QaT x0.drop.place (-1) (subK .i64 places 1)) fun r3=>br r3 (Qc3 types x0 l3) (chk (okN (l3++[11]).length 8) (Qc3 types x0 (l3++[11])))) (chk (okN (l3++[11]).length 8) (br ((eqI x0.pick.place (-1))&&(eqI x0.drop.place (-1))) (chk (okN ((l3++[11])++[19]).length 8) (Qfb types x0 ((l3++[11])++[19]))) (Qfb types x0 (l3++[11]))))
noncomputable def Qc2 (places:Int) (dims:Int) (types:Int) (l:List Qag) (at_:Int) (x0:Qag) (l1:List Int):Option (List Int):=bnd (loopF (fun s=>Qbz places dims types l at_ x0 l1 s) 0) (fun l2=>bnd (Qdy x0.load dims) fun r1=>br r1 (Qbi places types x0 l2) (chk (okN (l2++[17]).length 8) (Qbi places types x0 (l2++[17]))))
noncomputable def Qfm (places:Int) (dims:Int) (types:Int) (l:List Qag) (at_:Int):Option (List Int):=bnd (getI l at_) fun x0=>bnd (Qd3 x0.name) fun r=>br r (Qc2 places dims types l at_ x0 []) (chk (okN [5].length 8) (Qc2 places dims types l at_ x0 [5]))
noncomputable def Qe9 (n:Qak) (dims:Int) (types:Int) (l:List Qag) (i:Int) (r:List Int) (l3:List Qaa) (k:Int):Option ((List Qaa×Int)⊕(List Qaa)):=br (ltI k (lenI r)) (bnd (getI r k) fun x0=>bnd (Qbf i) fun r1=>chk (okN (l3++[(Qaa.mk x0 r1)]).length 24) (some (.inl ((l3++[(Qaa.mk x0 r1)]),(addK .i64 k 1))))) (some (.inr l3))
noncomputable def Qb3 (n:Qak) (dims:Int) (types:Int) (l:List Qag) (l2:List Qaa) (i:Int):Option ((List Qaa×Int)⊕(List Qaa)):=br (ltI i (lenI l)) (bnd (Qfm (lenI n.places) dims types l i) fun r=>bnd (loopF (fun s=>Qe9 n dims types l i r s.1 s.2) (l2,0)) (fun l4=>some (.inl (l4,(addK .i64 i 1))))) (some (.inr l2))
noncomputable def QdU (n:Qak) (dims:Int) (types:Int) (l:List Qag) (l1:List Qaa):Option (List Qaa):=bnd (loopF (fun s=>Qb3 n dims types l s.1 s.2) (l1,0)) (fun l5=>some l5)
noncomputable def Qfl (n:Qak) (dims:Int) (types:Int) (l:List Qag):Option (List Qaa):=br (gtI (lenI l) 10) (chk (okN [(Qaa.mk 4 ByteArray.empty)].length 24) (QdU n dims types l [(Qaa.mk 4 ByteArray.empty)])) (QdU n dims types l [])
noncomputable def Qcp (n1:Int) (s0:ByteArray):Option ((Int×ByteArray)⊕(Int×ByteArray)):=br (geI n1 10) (chk ((QnZ [(cvK .u8 (addK .i64 48 (remK n1 10)))]).size+s0.size≤9223372036854775807) (some (.inl ((quoK .i64 n1 10),(catS (QnZ [(cvK .u8 (addK .i64 48 (remK n1 10)))]) s0))))) (some (.inr (n1,s0)))
noncomputable def Qdu (n:Int):Option ByteArray:=bnd (loopF (fun s=>Qcp s.1 s.2) (n,ByteArray.empty)) (fun e0=>(fun n2 s1=>chk ((QnZ [(cvK .u8 (addK .i64 48 n2))]).size+s1.size≤9223372036854775807) (some (catS (QnZ [(cvK .u8 (addK .i64 48 n2))]) s1))) e0.1 e0.2)
noncomputable def QcB (orders:Int) (l:List Qar) (word:ByteArray) (turned:Bool) (l2:List Qaa) (i:Int) (x0:Qar) (r:ByteArray) (twice:Bool) (k:Int):Option ((Bool×Int)⊕(Bool)):=br (ltI k i) (br twice (some (.inl (true,(addK .i64 k 1)))) (bnd (getI l k) fun x1=>br (eqI x1.x0 x0.x0) (br (eqI x1.x1 x0.x1) (some (.inl (true,(addK .i64 k 1)))) (br turned (br (eqI x1.x0 x0.x1) (some (.inl ((eqI x1.x1 x0.x0),(addK .i64 k 1)))) (some (.inl (false,(addK .i64 k 1))))) (some (.inl (false,(addK .i64 k 1)))))) (br turned (br (eqI x1.x0 x0.x1) (some (.inl ((eqI x1.x1 x0.x0),(addK .i64 k 1)))) (some (.inl (false,(addK .i64 k 1))))) (some (.inl (false,(addK .i64 k 1))))))) (some (.inr twice))
noncomputable def QbG (orders:Int) (l:List Qar) (word:ByteArray) (turned:Bool) (l2:List Qaa) (i:Int):Option ((List Qaa×Int)⊕(List Qaa)):=br (ltI i (lenI l)) (bnd (getI l i) fun x0=>chk (word.size+QbY.size≤9223372036854775807) (bnd (Qdu i) fun r=>chk ((catS word QbY).size+r.size≤9223372036854775807) (br (((((ltI x0.x0 0)||(geI x0.x0 orders))||(ltI x0.x1 0))||(geI x0.x1 orders))||(eqI x0.x0 x0.x1)) (chk (okN (l2++[(Qaa.mk 2 (catS (catS word QbY) r))]).length 24) (some (.inl ((l2++[(Qaa.mk 2 (catS (catS word QbY) r))]),(addK .i64 i 1))))) (bnd (loopF (fun s=>QcB orders l word turned l2 i x0 r s.1 s.2) (false,0)) (fun twice1=>br twice1 (chk (okN (l2++[(Qaa.mk 6 (catS (catS word QbY) r))]).length 24) (some (.inl ((l2++[(Qaa.mk 6 (catS (catS word QbY) r))]),(addK .i64 i 1))))) (some (.inl (l2,(addK .i64 i 1))))))))) (some (.inr l2))
noncomputable def QdB (orders:Int) (l:List Qar) (word:ByteArray) (turned:Bool) (l1:List Qaa):Option (List Qaa):=bnd (loopF (fun s=>QbG orders l word turned s.1 s.2) (l1,0)) (fun l3=>some l3)
noncomputable def QeT (orders:Int) (l:List Qar) (word:ByteArray) (turned:Bool):Option (List Qaa):=br (gtI (lenI l) 16) (chk (okN [(Qaa.mk 4 word)].length 24) (QdB orders l word turned [(Qaa.mk 4 word)])) (QdB orders l word turned [])
noncomputable def Qdf (orders:Int) (l:List Qar) (word:ByteArray) (turned:Bool) (l2:List Qaa) (i:Int) (x0:Qar) (r:ByteArray) (twice:Bool) (k:Int):Option ((Bool×Int)⊕(Bool)):=br (ltI k i) (br twice (some (.inl (true,(addK .i64 k 1)))) (bnd (getI l k) fun x1=>br (eqI x1.x0 x0.x0) (br (eqI x1.x1 x0.x1) (some (.inl (true,(addK .i64 k 1)))) (br turned (br (eqI x1.x0 x0.x1) (some (.inl ((eqI x1.x1 x0.x0),(addK .i64 k 1)))) (some (.inl (false,(addK .i64 k 1))))) (some (.inl (false,(addK .i64 k 1)))))) (br turned (br (eqI x1.x0 x0.x1) (some (.inl ((eqI x1.x1 x0.x0),(addK .i64 k 1)))) (some (.inl (false,(addK .i64 k 1))))) (some (.inl (false,(addK .i64 k 1))))))) (some (.inr twice))
noncomputable def Qde (orders:Int) (l:List Qar) (word:ByteArray) (turned:Bool) (l2:List Qaa) (i:Int):Option ((List Qaa×Int)⊕(List Qaa)):=br (ltI i (lenI l)) (bnd (getI l i) fun x0=>chk (word.size+QbY.size≤9223372036854775807) (bnd (Qdu i) fun r=>chk ((catS word QbY).size+r.size≤9223372036854775807) (br (((((ltI x0.x0 0)||(geI x0.x0 orders))||(ltI x0.x1 0))||(geI x0.x1 orders))||(eqI x0.x0 x0.x1)) (chk (okN (l2++[(Qaa.mk 2 (catS (catS word QbY) r))]).length 24) (some (.inl ((l2++[(Qaa.mk 2 (catS (catS word QbY) r))]),(addK .i64 i 1))))) (bnd (loopF (fun s=>Qdf orders l word turned l2 i x0 r s.1 s.2) (false,0)) (fun twice1=>br twice1 (chk (okN (l2++[(Qaa.mk 6 (catS (catS word QbY) r))]).length 24) (some (.inl ((l2++[(Qaa.mk 6 (catS (catS word QbY) r))]),(addK .i64 i 1))))) (some (.inl (l2,(addK .i64 i 1))))))))) (some (.inr l2))
noncomputable def Qdd (orders:Int) (l:List Qar) (word:ByteArray) (turned:Bool) (l1:List Qaa):Option (List Qaa):=bnd (loopF (fun s=>Qde orders l word turned s.1 s.2) (l1,0)) (fun l3=>some l3)
noncomputable def QfS (orders:Int) (l:List Qar) (word:ByteArray) (turned:Bool):Option (List Qaa):=br (gtI (lenI l) 16) (chk (okN [(Qaa.mk 4 word)].length 24) (Qdd orders l word turned [(Qaa.mk 4 word)])) (Qdd orders l word turned [])
noncomputable def Qfn (orders:Int) (apart:List Qar) (before:List Qar):Option (List Qaa):=bnd (QfS orders apart QqE true) fun r=>bnd (QeT orders before QpA false) fun r1=>chk (okN (r++r1).length 24) (some (r++r1))
noncomputable def QdF (word:ByteArray) (l:List Qaa) (l1:List Qaa) (i:Int) (at_:ByteArray):Option ((List Qaa×Int)⊕(List Qaa)):=bnd (getI l i) fun x1=>chk (okN (l1++[(Qaa.mk x1.err at_)]).length 24) (some (.inl ((l1++[(Qaa.mk x1.err at_)]),(addK .i64 i 1))))
noncomputable def QdG (word:ByteArray) (l:List Qaa) (l1:List Qaa) (i:Int):Option ((List Qaa×Int)⊕(List Qaa)):=br (ltI i (lenI l)) (bnd (getI l i) fun x0=>br (eqS x0.at_ ByteArray.empty) (QdF word l l1 i word) (chk (word.size+QbY.size≤9223372036854775807) (chk ((catS word QbY).size+x0.at_.size≤9223372036854775807) (QdF word l l1 i (catS (catS word QbY) x0.at_))))) (some (.inr l1))
noncomputable def QeL (word:ByteArray) (l:List Qaa):Option (List Qaa):=bnd (loopF (fun s=>QdG word l s.1 s.2) ([],0)) (fun l2=>some l2)
noncomputable def Qfo (x0:Qac):Option (List Qaa):=bnd (Qfh x0.net) fun r=>bnd (QeL Qsj r) fun r1=>bnd (Qfi x0.net x0.types) fun r2=>bnd (Qem QsU r2) fun r3=>chk (okN (r1++r3).length 24) (bnd (Qd4 x0.types) fun r4=>bnd (Qfl x0.net r4 (lenI x0.types) x0.orders) fun r5=>bnd (Qem Qsk r5) fun r6=>chk (okN ((r1++r3)++r6).length 24) (bnd (Qfn (lenI x0.orders) x0.apart x0.before) fun r7=>bnd (Qem QsT r7) fun r8=>chk (okN (((r1++r3)++r6)++r8).length 24) (some (((r1++r3)++r6)++r8))))
noncomputable def QfA (x0:Qac):Option Bool:=br (leI (lenI x0.orders) 6) (bnd (Qfo x0) fun r=>some (eqI (lenI r) 0)) (some false)
noncomputable def QbZ (set_:Int) (i:Int):Option Bool:=br ((geI i 0)&&(leI i 62)) (chk ((0:Int)≤i) (some (eqI (andK .i64 (shrK .i64 set_ i) 1) 1))) (some false)
noncomputable def Qch (set_:Int) (l:List Int) (v:Int):Option ((List Int×Int)⊕(List Int)):=br (ltI v 63) (bnd (QbZ set_ v) fun r=>br r (chk (okN (l++[v]).length 8) (some (.inl ((l++[v]),(addK .i64 v 1))))) (some (.inl (l,(addK .i64 v 1))))) (some (.inr l))
noncomputable def Qgm (set_:Int):Option (List Int):=bnd (loopF (fun s=>Qch set_ s.1 s.2) ([],0)) (fun l1=>some l1)
noncomputable def Qdb (x0:Qac) (r:List Int) (v:Int):Option ((Int)⊕((Unit)⊕(Bool))):=br (ltI v (lenI r)) (bnd (getI r v) fun x1=>bnd (getI x0.orders x1) fun x2=>br x2.off (some (.inr (.inr false))) (some (.inl (addK .i64 v 1)))) (some (.inr (.inl ())))
noncomputable def Qk4 (x0:Qac) (set_:Int):Option Bool:=br (leI set_ 0) (some false) (chk ((0:Int)≤(cvK .u64 (lenI x0.orders))) (br (geI set_ (shlK .i64 1 (cvK .u64 (lenI x0.orders)))) (some false) (bnd (Qgm set_) fun r=>bnd (loopF (fun s=>Qdb x0 r s) 0) (fun e=>sel e (fun (_:Unit)=>some true) (fun r1=>some r1)))))
noncomputable def QcF (x0:Qac) (set_:Int) (v:Int):Option ((Int)⊕((Unit)⊕(Bool))):=br (ltI v (lenI x0.apart)) (bnd (getI x0.apart v) fun x1=>bnd (QbZ set_ x1.x0) fun r=>br r (bnd (QbZ set_ x1.x1) fun r1=>br r1 (some (.inr (.inr false))) (some (.inl (addK .i64 v 1)))) (some (.inl (addK .i64 v 1)))) (some (.inr (.inl ())))
noncomputable def Qce (x0:Qac) (set_:Int) (v1:Int):Option ((Int)⊕((Unit)⊕(Bool))):=br (ltI v1 (lenI x0.before)) (bnd (getI x0.before v1) fun x2=>bnd (QbZ set_ x2.x1) fun r2=>br r2 (bnd (QbZ set_ x2.x0) fun r3=>br r3 (some (.inl (addK .i64 v1 1))) (some (.inr (.inr false)))) (some (.inl (addK .i64 v1 1)))) (some (.inr (.inl ())))
noncomputable def Qjw (x0:Qac) (set_:Int):Option Bool:=bnd (loopF (fun s=>QcF x0 set_ s) 0) (fun e=>sel e (fun (_:Unit)=>bnd (loopF (fun s=>Qce x0 set_ s) 0) (fun e=>sel e (fun (_:Unit)=>some true) (fun r4=>some r4))) (fun r5=>some r5))
noncomputable def QgF (t:Qah) (skills:Int):Option Bool:=some (((geI t.skills 0)&&(geI skills 0))&&(eqI (QnK .i64 skills t.skills) 0))
noncomputable def Qot (a:Int) (b:Int):Option Int:=some (addK .i64 a b)
noncomputable def Qbc (a:List Int) (b:List Int) (l:List Int) (l1:List Int) (v:Int):Option ((List Int×Int)⊕(List Int)):=br (ltI v (lenI a)) (bnd (getI a v) fun x0=>bnd (getI b v) fun x1=>bnd (Qot x0 x1) fun r=>bnd (getI l1 v) fun x2=>some (.inl ((setI l1 v r),(addK .i64 v 1)))) (some (.inr l1))
noncomputable def Qfz (a:List Int) (b:List Int):Option (List Int×Int):=br (neI (lenI a) (lenI b)) (some ([],2)) (bnd (mkI (lenI a) (lenI a) 8 0) fun l=>bnd (loopF (fun s=>Qbc a b l s.1 s.2) (l,0)) (fun l2=>some (l2,0)))
noncomputable def Qnn (a:List Int) (b:List Int):Option (List Int×Int):=bnd (Qfz a b) fun r=>some (r.1,r.2)
noncomputable def QdN (a:List Int) (capacity:List Int) (v:Int):Option ((Int)⊕((Unit)⊕(Bool))):=br (ltI v (lenI a)) (bnd (getI a v) fun x0=>bnd (getI capacity v) fun x1=>br (gtI x0 x1) (some (.inr (.inr false))) (some (.inl (addK .i64 v 1)))) (some (.inr (.inl ())))
noncomputable def QgH (a:List Int) (capacity:List Int):Option Bool:=br (neI (lenI a) (lenI capacity)) (some false) (bnd (loopF (fun s=>QdN a capacity s) 0) (fun e=>sel e (fun (_:Unit)=>some true) (fun r=>some r)))
noncomputable def Qjx (t:Qah) (l:Qad):Option (List Qad):=some [l,(Qad.mk l.type_ l.visits l.place (addK .i64 l.time t.rest_) 0 l.miles l.load l.done l.open_)]
noncomputable def QeA (x0:Qac) (kind:Int) (x1:Qah) (l:List Int) (r2:List Int) (open_:Int) (time:Int) (load:List Int) (open_1:Int) (v:Int):Option ((Int×Int×List Int×Int×Int)⊕((Int×Int×List Int×Int)⊕(List Qad))):=br (ltI v (lenI r2)) (bnd (getI r2 v) fun x2=>bnd (getI x0.orders x2) fun x3=>bnd (QgF (Qah.mk x1.name x1.count x1.from_ x1.to_ x1.cap x1.skills x1.profile open_ x1.close x1.drive x1.rest_ x1.fixed x1.perMile x1.perTick) x3.skills) fun r3=>br r3 (br (ltI x3.pick.place 0) (bnd (Qnn load x3.load) fun r4=>chk ((0:Int)≤(cvK .u64 x2)) (some (.inl (open_,time,r4.1,(orK .i64 open_1 (shlK .i64 1 (cvK .u64 x2))),(addK .i64 v 1))))) (some (.inl (open_,time,load,open_1,(addK .i64 v 1))))) (some (.inr (.inr [])))) (some (.inr (.inl (open_,time,load,open_1))))
noncomputable def Qgq (x0:Qac) (kind:Int) (set_:Int):Option (List Qad):=br ((ltI kind 0)||(geI kind (lenI x0.types))) (some []) (bnd (Qk4 x0 set_) fun r=>br r (bnd (Qjw x0 set_) fun r1=>br r1 (bnd (getI x0.types kind) fun x1=>bnd (mkI (lenI x1.cap) (lenI x1.cap) 8 0) fun l=>bnd (Qgm set_) fun r2=>bnd (loopF (fun s=>QeA x0 kind x1 l r2 s.1 s.2.1 s.2.2.1 s.2.2.2.1 s.2.2.2.2) (x1.open_,x1.open_,l,0,0)) (fun e=>sel e (fun e0=>(fun open_2 time1 load1 open_3=>bnd (QgH load1 x1.cap) fun r5=>br r5 (bnd (Qjx (Qah.mk x1.name x1.count x1.from_ x1.to_ x1.cap x1.skills x1.profile open_2 x1.close x1.drive x1.rest_ x1.fixed x1.perMile x1.perTick) (Qad.mk kind [] x1.from_ time1 0 0 load1 0 open_3)) fun r6=>some r6) (some [])) e0.1 e0.2.1 e0.2.2.1 e0.2.2.2) (fun r7=>some r7))) (some [])) (some []))
noncomputable def QgC (n:Qak) (i:Int):Option Bool:=some ((geI i 0)&&(ltI i (lenI n.places)))
noncomputable def QkG (a:Qan):Option Qgo:=some (Qgo.mk a.from_ a.to_ a.profile)
noncomputable def Qe0 (n:Qak) (profile:Int) (from_:Int) (to_:Int) (v:Int):Option ((Int)⊕((Unit)⊕(Qan×Bool))):=br (ltI v (lenI n.arcs)) (bnd (getI n.arcs v) fun x0=>bnd (QkG x0) fun r=>br (eqI r.from_ from_&&(eqI r.to_ to_&&(eqI r.profile profile&&true))) (some (.inr (.inr (x0,true)))) (some (.inl (addK .i64 v 1)))) (some (.inr (.inl ())))
noncomputable def Qj1 (n:Qak) (profile:Int) (from_:Int) (to_:Int):Option (Qan×Bool):=bnd (loopF (fun s=>Qe0 n profile from_ to_ s) 0) (fun e=>sel e (fun (_:Unit)=>some ((Qan.mk 0 0 0 0 [] []),false)) (fun r1=>some r1))
noncomputable def Qez (n:Int) (least:Int) (most:Int):Option Bool:=some ((geI n least)&&(leI n most))
noncomputable def Qnd (i:Int):Option ByteArray:=br (ltI i 10) (bnd (slcS QkO i (addK .i64 i 1)) fun s0=>some (QkO.extract (i:Int).toNat ((addK .i64 i 1):Int).toNat)) (bnd (slcS QkN (mulK .i64 i 2) (addK .i64 (mulK .i64 i 2) 2)) fun s1=>some (QkN.extract ((mulK .i64 i 2):Int).toNat ((addK .i64 (mulK .i64 i 2) 2):Int).toNat))
noncomputable def QpT (x0:Int):Option Int:=some (shrK .i64 (mulK .i64 x0 78913) 18)
noncomputable def Qpu (x2:Int) (n1:Int):Option Int:=br (geI x2 256) (bnd (getS QkP (cvK .u8 (shrK .u64 x2 8))) fun b=>some (addK .i64 (addK .i64 n1 8) (cvK .i64 (byteI b)))) (bnd (getS QkP (cvK .u8 x2)) fun b1=>some (addK .i64 n1 (cvK .i64 (byteI b1))))
noncomputable def Qpt (x1:Int) (n:Int):Option Int:=br (geI x1 65536) (Qpu (shrK .u64 x1 16) (addK .i64 n 16)) (Qpu x1 n)
noncomputable def Qum (x0:Int):Option Int:=br (geI x0 4294967296) (Qpt (shrK .u64 x0 32) 32) (Qpt x0 0)
noncomputable def QpU (d:Int):Option Int:=bnd (Qum d) fun r=>bnd (QpT r) fun r1=>none
noncomputable def QeN (i:Int) (u:Int):Option ByteArray:=bnd (QpU u) fun r1=>none
noncomputable def QiM (i:Int) (base:Int):Option ByteArray:=br (eqI base 10) (br ((leI 0 i)&&(ltI i 100)) (bnd (Qnd i) fun r=>some r) (br (ltI i 0) (QeN i (subK .u64 0 (cvK .u64 i))) (QeN i (cvK .u64 i)))) (none)
noncomputable def Qon (i:Int):Option ByteArray:=bnd (QiM i 10) fun r=>some r
noncomputable def Qjk (i:Int):Option ByteArray:=bnd (Qon i) fun r=>some r
noncomputable def Qf9 (l:List Qaj) (v:Int) (x0:Qaj) (r:ByteArray) (l3:List Qaa):Option ((List Qaa×Int)⊕(List Qaa)):=br (gtI v 0) (bnd (getI l (subK .i64 v 1)) fun x1=>br (leI x0.t x1.t) (chk (okN (l3++[(Qaa.mk 13 r)]).length 24) (some (.inl ((l3++[(Qaa.mk 13 r)]),(addK .i64 v 1))))) (br (ltI x0.a x1.a) (chk (okN (l3++[(Qaa.mk 13 r)]).length 24) (some (.inl ((l3++[(Qaa.mk 13 r)]),(addK .i64 v 1))))) (some (.inl (l3,(addK .i64 v 1)))))) (some (.inl (l3,(addK .i64 v 1))))
noncomputable def QcK (l:List Qaj) (l2:List Qaa) (v:Int):Option ((List Qaa×Int)⊕(List Qaa)):=br (ltI v (lenI l)) (bnd (getI l v) fun x0=>bnd (Qjk v) fun r=>bnd (Qez x0.t 0 4096) fun r1=>br (((!r1)||(ltI x0.a x0.t))||(gtI x0.a (addK .i64 x0.t 4096))) (chk (okN (l2++[(Qaa.mk 2 r)]).length 24) (Qf9 l v x0 r (l2++[(Qaa.mk 2 r)]))) (Qf9 l v x0 r l2)) (some (.inr l2))
noncomputable def Qf8 (l:List Qaj) (l1:List Qaa):Option (List Qaa):=bnd (loopF (fun s=>QcK l s.1 s.2) (l1,0)) (fun l4=>some l4)
noncomputable def Qkd (l:List Qaj):Option (List Qaa):=br ((eqI (lenI l) 0)||(gtI (lenI l) 16)) (chk (okN [(Qaa.mk 4 ByteArray.empty)].length 24) (Qf8 l [(Qaa.mk 4 ByteArray.empty)])) (Qf8 l [])
noncomputable def Qke (l:List Qaj):Option Bool:=bnd (Qkd l) fun r=>some (eqI (lenI r) 0)
noncomputable def Qd7 (p:Qaj) (t:Int):Option Int:=some (subK .i64 p.t t)
noncomputable def Qay (x0:List Qaj) (target:Int) (i:Int) (j:Int):Option ((Int×Int)⊕(Int)):=br (ltI i j) (bnd (getI x0 (cvK .i64 (shrK .u64 (cvK .u64 (addK .i64 i j)) 1))) fun x1=>bnd (Qd7 x1 target) fun r=>br (ltI r 0) (some (.inl ((addK .i64 (cvK .i64 (shrK .u64 (cvK .u64 (addK .i64 i j)) 1)) 1),j))) (some (.inl (i,(cvK .i64 (shrK .u64 (cvK .u64 (addK .i64 i j)) 1)))))) (some (.inr i))
noncomputable def QaJ (x0:List Qaj) (target:Int):Option (Int×Bool):=bnd (loopF (fun s=>Qay x0 target s.1 s.2) (0,(lenI x0))) (fun i1=>br (ltI i1 (lenI x0)) (bnd (getI x0 i1) fun x2=>bnd (Qd7 x2 target) fun r1=>some (i1,(eqI r1 0))) (some (i1,false)))
noncomputable def QiE (l:List Qaj) (t:Int):Option Int:=bnd (QaJ l t) fun r=>br r.2 (bnd (getI l r.1) fun x0=>some x0.a) (br (eqI r.1 0) (bnd (getI l 0) fun x1=>some (subK .i64 (addK .i64 t x1.a) x1.t)) (br (eqI r.1 (lenI l)) (bnd (getI l (subK .i64 r.1 1)) fun x2=>some (subK .i64 (addK .i64 t x2.a) x2.t)) (bnd (getI l (subK .i64 r.1 1)) fun x3=>bnd (getI l r.1) fun x4=>chk (((subK .i64 x4.t x3.t):Int)≠0) (some (addK .i64 x3.a (quoK .i64 (subK .i64 (addK .i64 (mulK .i64 (subK .i64 t x3.t) (subK .i64 x4.a x3.a)) (subK .i64 x4.t x3.t)) 1) (subK .i64 x4.t x3.t)))))))
noncomputable def QiD (l:List Qaj) (t:Int):Option Int:=bnd (Qez t 0 1073741824) fun r=>br r (bnd (Qke l) fun r1=>br r1 (bnd (QiE l t) fun r2=>some r2) (some 0)) (some 0)
noncomputable def QfI (a:Qan) (t:Int) (out:Int) (v:Int):Option ((Int×Int)⊕(Int)):=br (ltI v (lenI a.slow)) (bnd (getI a.slow v) fun x0=>br (leI x0.t t) (some (.inl ((addK .i64 out x0.a),(addK .i64 v 1)))) (some (.inl (out,(addK .i64 v 1))))) (some (.inr out))
noncomputable def Qf6 (a:Qan) (t:Int):Option Int:=bnd (QiD a.travel t) fun r=>bnd (loopF (fun s=>QfI a t s.1 s.2) (r,0)) (fun out1=>some out1)
noncomputable def Qlo (n:Qak) (profile:Int) (from_:Int) (to_:Int) (t:Int):Option (Int×Int×Int):=bnd (QgC n from_) fun r=>br r (bnd (QgC n to_) fun r1=>br r1 (br (eqI from_ to_) (some (t,0,0)) (bnd (Qj1 n profile from_ to_) fun r2=>br r2.2 (bnd (Qf6 r2.1 t) fun r3=>some (r3,r2.1.miles,0)) (some (0,0,12)))) (some (0,0,11))) (some (0,0,11))
noncomputable def QiA (kind:Int) (own:Int):Option Bool:=some ((neI kind (-1))&&(neI kind own))
noncomputable def Qg1 (x0:Qac) (r:Qaw) (s0:QaB) (x1:Qah) (l:List (Int×Int)) (other:Int) (v:Int) (x2:Qab) (x3:Qag) (moved1:Int):Option ((List (Int×Int)×Int×Int×Int)⊕(Int×Int)):=bnd (QiA x3.last_ r.type_) fun r2=>br r2 (some (.inl ((mPut eqI l x2.order (addK .i64 (mGet eqI l x2.order 0) 1)),moved1,(addK .i64 other 1),(addK .i64 v 1)))) (some (.inl ((mPut eqI l x2.order (addK .i64 (mGet eqI l x2.order 0) 1)),moved1,other,(addK .i64 v 1))))
noncomputable def QcJ (x0:Qac) (r:Qaw) (s0:QaB) (x1:Qah) (l:List (Int×Int)) (moved:Int) (other:Int) (v:Int):Option ((List (Int×Int)×Int×Int×Int)⊕(Int×Int)):=br (ltI v (lenI r.visits)) (bnd (getI r.visits v) fun x2=>br ((ltI x2.order 0)||(geI x2.order (lenI x0.orders))) (some (.inl ((mPut eqI l x2.order (addK .i64 (mGet eqI l x2.order 0) 1)),moved,other,(addK .i64 v 1)))) (br (gtI (mGet eqI (mPut eqI l x2.order (addK .i64 (mGet eqI l x2.order 0) 1)) x2.order 0) 1) (some (.inl ((mPut eqI l x2.order (addK .i64 (mGet eqI l x2.order 0) 1)),moved,other,(addK .i64 v 1)))) (bnd (getI x0.orders x2.order) fun x3=>bnd (QiA x3.now r.type_) fun r1=>br r1 (Qg1 x0 r s0 x1 l other v x2 x3 (addK .i64 moved 1)) (Qg1 x0 r s0 x1 l other v x2 x3 moved)))) (some (.inr (moved,other)))
noncomputable def Qjp (x0:Qac) (r:Qaw) (s0:QaB):Option QaK:=br ((ltI r.type_ 0)||(geI r.type_ (lenI x0.types))) (some (QaK.mk 0 0 0 0)) (bnd (getI x0.types r.type_) fun x1=>bnd (loopF (fun s=>QcJ x0 r s0 x1 s.1 s.2.1 s.2.2.1 s.2.2.2) ([],0,0,0)) (fun e0=>(fun moved2 other1=>some (QaK.mk (addK .i64 (addK .i64 x1.fixed (mulK .i64 x1.perMile s0.miles)) (mulK .i64 x1.perTick (subK .i64 s0.end_ x1.open_))) moved2 other1 (mulK .i64 (quoK .i64 (subK .i64 s0.end_ x1.open_) 64) (quoK .i64 (subK .i64 s0.end_ x1.open_) 64)))) e0.1 e0.2))
noncomputable def Qlr (s0:QaK):Option QtV:=some (QtV.mk s0.cost s0.moved s0.other s0.work)
noncomputable def QeM (s0:QaK):Option (Int×Int):=bnd (Qlr s0) fun r=>br (ltI r.x0 0) (some (0,2)) (br (ltI r.x1 0) (some (0,2)) (br (ltI r.x2 0) (some (0,2)) (br (ltI r.x3 0) (some (0,2)) (br ((((gtI s0.cost 1073741824)||(geI s0.moved 16))||(geI s0.other 16))||(geI s0.work 65536)) (some (0,4)) (some ((addK .i64 (mulK .i64 (addK .i64 (mulK .i64 (addK .i64 (mulK .i64 s0.cost 16) s0.moved) 16) s0.other) 65536) s0.work),0))))))
noncomputable def Qgp (x0:Qac) (l:Qad):Option (Int×Int×Bool):=br ((((eqI (lenI l.visits) 0)||(neI l.open_ 0))||(ltI l.type_ 0))||(geI l.type_ (lenI x0.types))) (some (0,0,false)) (bnd (getI x0.types l.type_) fun x1=>bnd (Qlo x0.net x1.profile l.place x1.to_ l.time) fun r=>br (((neI r.2.2 0)||(gtI (subK .i64 (addK .i64 l.driven r.1) l.time) x1.drive))||(gtI r.1 x1.close)) (some (0,0,false)) (bnd (Qjp x0 (Qaw.mk l.type_ 0 [] l.visits) (QaB.mk false 0 [] r.1 (addK .i64 l.miles r.2.1))) fun r1=>bnd (QeM r1) fun r2=>br (neI r2.2 0) (some (0,0,false)) (some (r.1,r2.1,true))))
noncomputable def Qlq (l:List Qag) (at_:Int):Option Bool:=some ((geI at_ 0)&&(ltI at_ (lenI l)))
noncomputable def Qiy (x1:Qap):Option (Qap×Int):=br (ltI x1.place 0) (some ((Qap.mk 0 0 0 0),19)) (some (x1,0))
noncomputable def Qm4 (l:List Qag) (v:Qab):Option (Qap×Int):=bnd (Qlq l v.order) fun r=>br r (bnd (getI l v.order) fun x0=>br v.drop (Qiy x0.drop) (Qiy x0.pick)) (some ((Qap.mk 0 0 0 0),2))
noncomputable def QcG (x0:Qac) (l:Qad) (v:Qab) (x1:Qag) (v1:Int):Option ((Int)⊕((Unit)⊕(Bool))):=br (ltI v1 (lenI x0.apart)) (bnd (getI x0.apart v1) fun x3=>br (eqI x3.x0 v.order) (bnd (QbZ (orK .i64 l.done l.open_) x3.x1) fun r2=>br r2 (some (.inr (.inr false))) (br (eqI x3.x1 v.order) (bnd (QbZ (orK .i64 l.done l.open_) x3.x0) fun r3=>br r3 (some (.inr (.inr false))) (some (.inl (addK .i64 v1 1)))) (some (.inl (addK .i64 v1 1))))) (br (eqI x3.x1 v.order) (bnd (QbZ (orK .i64 l.done l.open_) x3.x0) fun r4=>br r4 (some (.inr (.inr false))) (some (.inl (addK .i64 v1 1)))) (some (.inl (addK .i64 v1 1))))) (some (.inr (.inl ())))
noncomputable def Qcj (x0:Qac) (l:Qad) (v:Qab) (x1:Qag) (v2:Int):Option ((Int)⊕((Unit)⊕(Bool))):=br (ltI v2 (lenI x0.before)) (bnd (getI x0.before v2) fun x4=>br (eqI x4.x1 v.order) (bnd (QbZ l.done x4.x0) fun r6=>br r6 (bnd (QbZ l.open_ x4.x0) fun r7=>br r7 (some (.inr (.inr false))) (some (.inl (addK .i64 v2 1)))) (some (.inr (.inr false)))) (some (.inl (addK .i64 v2 1)))) (some (.inr (.inl ())))
noncomputable def QcH (x0:Qac) (l:Qad) (v:Qab) (x1:Qag) (v3:Int):Option ((Int)⊕((Unit)⊕(Bool))):=br (ltI v3 (lenI x0.apart)) (bnd (getI x0.apart v3) fun x5=>br (eqI x5.x0 v.order) (bnd (QbZ (orK .i64 l.done l.open_) x5.x1) fun r11=>br r11 (some (.inr (.inr false))) (br (eqI x5.x1 v.order) (bnd (QbZ (orK .i64 l.done l.open_) x5.x0) fun r12=>br r12 (some (.inr (.inr false))) (some (.inl (addK .i64 v3 1)))) (some (.inl (addK .i64 v3 1))))) (br (eqI x5.x1 v.order) (bnd (QbZ (orK .i64 l.done l.open_) x5.x0) fun r13=>br r13 (some (.inr (.inr false))) (some (.inl (addK .i64 v3 1)))) (some (.inl (addK .i64 v3 1))))) (some (.inr (.inl ())))
noncomputable def Qck (x0:Qac) (l:Qad) (v:Qab) (x1:Qag) (v4:Int):Option ((Int)⊕((Unit)⊕(Bool))):=br (ltI v4 (lenI x0.before)) (bnd (getI x0.before v4) fun x6=>br (eqI x6.x1 v.order) (bnd (QbZ l.done x6.x0) fun r15=>br r15 (bnd (QbZ l.open_ x6.x0) fun r16=>br r16 (some (.inr (.inr false))) (some (.inl (addK .i64 v4 1)))) (some (.inr (.inr false)))) (some (.inl (addK .i64 v4 1)))) (some (.inr (.inl ())))
noncomputable def Qk7 (x0:Qac) (l:Qad) (v:Qab):Option Bool:=bnd (getI x0.orders v.order) fun x1=>br x1.off (some false) (bnd (getI x0.types l.type_) fun x2=>bnd (QgF x2 x1.skills) fun r=>br r (br v.drop (bnd (QbZ l.open_ v.order) fun r1=>br r1 (bnd (loopF (fun s=>QcG x0 l v x1 s) 0) (fun e=>sel e (fun (_:Unit)=>bnd (QbZ l.done v.order) fun r5=>br r5 (some true) (bnd (loopF (fun s=>Qcj x0 l v x1 s) 0) (fun e=>sel e (fun (_:Unit)=>some true) (fun r8=>some r8)))) (fun r9=>some r9))) (some false)) (bnd (QbZ l.done v.order) fun r10=>br r10 (some false) (bnd (loopF (fun s=>QcH x0 l v x1 s) 0) (fun e=>sel e (fun (_:Unit)=>bnd (QbZ l.done v.order) fun r14=>br r14 (some true) (bnd (loopF (fun s=>Qck x0 l v x1 s) 0) (fun e=>sel e (fun (_:Unit)=>some true) (fun r17=>some r17)))) (fun r18=>some r18))))) (some false))
noncomputable def QlY (s0:Qap) (arrive:Int):Option (Int×Int):=br (gtI (maxI arrive s0.open_) s0.close) (some (0,14)) (some ((maxI arrive s0.open_),0))
noncomputable def QiF (s0:Qap) (arrive:Int):Option (Int×Int):=bnd (QlY s0 arrive) fun r=>br (neI r.2 0) (some (0,r.2)) (some ((addK .i64 r.1 s0.service),0))
noncomputable def Qno (a:Int) (b:Int):Option Int:=some (subK .i64 a b)
noncomputable def Qa4 (a:List Int) (b:List Int) (l:List Int) (l1:List Int) (v:Int):Option ((List Int×Int)⊕(List Int)):=br (ltI v (lenI a)) (bnd (getI a v) fun x0=>bnd (getI b v) fun x1=>bnd (Qno x0 x1) fun r=>bnd (getI l1 v) fun x2=>some (.inl ((setI l1 v r),(addK .i64 v 1)))) (some (.inr l1))
noncomputable def Qe4 (a:List Int) (b:List Int):Option (List Int×Int):=br (neI (lenI a) (lenI b)) (some ([],2)) (bnd (mkI (lenI a) (lenI a) 8 0) fun l=>bnd (loopF (fun s=>Qa4 a b l s.1 s.2) (l,0)) (fun l2=>some (l2,0)))
noncomputable def Qos (a:List Int) (b:List Int):Option (List Int×Int):=bnd (Qe4 a b) fun r=>some (r.1,r.2)
noncomputable def Qjv (x0:Qac) (l:Qad) (v:Qab):Option (List Int):=br v.drop (bnd (getI x0.orders v.order) fun x1=>bnd (Qos l.load x1.load) fun r=>some r.1) (bnd (getI x0.orders v.order) fun x2=>bnd (Qnn l.load x2.load) fun r1=>some r1.1)
noncomputable def Qd1 (l:Qad) (v:Qab) (r:Qap×Int) (x1:Qah) (r2:Int×Int×Int) (r3:Int×Int) (r4:List Int) (l1:List Qab) (open_:Int):Option (List Qad):=bnd (Qjx x1 (Qad.mk l.type_ ((cpyL l1 l.visits)++[v]) r.1.place r3.1 (subK .i64 (addK .i64 l.driven r2.1) l.time) (addK .i64 l.miles r2.2.1) r4 (orK .i64 l.done (shlK .i64 1 (cvK .u64 v.order))) open_)) fun r6=>some r6
noncomputable def Qdw (x0:Qac) (l:Qad) (v:Qab):Option (List Qad):=br ((ltI l.type_ 0)||(geI l.type_ (lenI x0.types))) (some []) (bnd (Qm4 x0.orders v) fun r=>br (neI r.2 0) (some []) (bnd (Qk7 x0 l v) fun r1=>br r1 (bnd (getI x0.types l.type_) fun x1=>bnd (Qlo x0.net x1.profile l.place r.1.place l.time) fun r2=>br (((neI r2.2.2 0)||(gtI (subK .i64 (addK .i64 l.driven r2.1) l.time) x1.drive))||(gtI r2.1 r.1.close)) (some []) (bnd (QiF r.1 r2.1) fun r3=>bnd (Qjv x0 l v) fun r4=>br (neI r3.2 0) (some []) (bnd (QgH r4 x1.cap) fun r5=>br r5 (bnd (mkI (lenI l.visits) (addK .i64 (lenI l.visits) 1) 16 (Qab.mk 0 false)) fun l1=>chk (okN ((cpyL l1 l.visits)++[v]).length 16) (chk ((0:Int)≤(cvK .u64 v.order)) (br v.drop (Qd1 l v r x1 r2 r3 r4 l1 (QnK .i64 l.open_ (shlK .i64 1 (cvK .u64 v.order)))) (bnd (getI x0.orders v.order) fun x2=>br (geI x2.drop.place 0) (Qd1 l v r x1 r2 r3 r4 l1 (orK .i64 l.open_ (shlK .i64 1 (cvK .u64 v.order)))) (Qd1 l v r x1 r2 r3 r4 l1 l.open_))))) (some [])))) (some [])))
noncomputable def QhO (before:List Qar) (l:List Int) (l2:List Int) (more1:Bool) (v:Int):Option ((List Int×Bool×Int)⊕(List Int×Bool)):=br (ltI v (lenI before)) (bnd (getI before v) fun x0=>br ((((ltI x0.x0 0)||(ltI x0.x1 0))||(geI x0.x0 (lenI l2)))||(geI x0.x1 (lenI l2))) (some (.inl (l2,more1,(addK .i64 v 1)))) (bnd (getI l2 x0.x1) fun x1=>bnd (getI l2 x0.x0) fun x2=>chk ((0:Int)≤x0.x0) (br (neI (orK .i64 (orK .i64 x1 x2) (shlK .i64 1 x0.x0)) x1) (some (.inl ((setI l2 x0.x1 (orK .i64 (orK .i64 x1 x2) (shlK .i64 1 x0.x0))),true,(addK .i64 v 1)))) (some (.inl (l2,more1,(addK .i64 v 1))))))) (some (.inr (l2,more1)))
noncomputable def QhN (before:List Qar) (l:List Int) (l1:List Int) (more:Bool):Option ((List Int×Bool)⊕(List Int)):=br more (bnd (loopF (fun s=>QhO before l s.1 s.2.1 s.2.2) (l1,false,0)) (fun e0=>(fun l3 more2=>some (.inl (l3,more2))) e0.1 e0.2)) (some (.inr l1))
noncomputable def Qgl (orders:Int) (before:List Qar):Option (List Int):=bnd (mkI (maxI orders 0) (maxI orders 0) 8 0) fun l=>bnd (loopF (fun s=>QhN before l s.1 s.2) (l,true)) (fun l4=>some l4)
noncomputable def Qg3 (x0:Qac) (set_:Int) (r:List Int) (v:Int):Option ((Int)⊕((Unit)⊕(Int))):=br (ltI v (lenI r)) (bnd (getI r v) fun x1=>br (geI x1 (lenI x0.orders)) (some (.inr (.inr 2))) (some (.inl (addK .i64 v 1)))) (some (.inr (.inl ())))
noncomputable def Qfu (x0:Qac) (set_:Int) (r:List Int) (v1:Int):Option ((Int)⊕((Unit)⊕(Int))):=br (ltI v1 (lenI r)) (bnd (getI r v1) fun x2=>bnd (getI x0.orders x2) fun x3=>br x3.off (some (.inr (.inr 9))) (some (.inl (addK .i64 v1 1)))) (some (.inr (.inl ())))
noncomputable def Qer (x0:Qac) (set_:Int) (r:List Int) (v2:Int):Option ((Int)⊕((Unit)⊕(Int))):=br (ltI v2 (lenI x0.apart)) (bnd (getI x0.apart v2) fun x4=>bnd (QbZ set_ x4.x0) fun r1=>br r1 (bnd (QbZ set_ x4.x1) fun r2=>br r2 (some (.inr (.inr 20))) (some (.inl (addK .i64 v2 1)))) (some (.inl (addK .i64 v2 1)))) (some (.inr (.inl ())))
noncomputable def QdD (x0:Qac) (set_:Int) (r:List Int) (v3:Int):Option ((Int)⊕((Unit)⊕(Int))):=br (ltI v3 (lenI x0.before)) (bnd (getI x0.before v3) fun x5=>bnd (QbZ set_ x5.x1) fun r3=>br r3 (bnd (QbZ set_ x5.x0) fun r4=>br r4 (some (.inl (addK .i64 v3 1))) (some (.inr (.inr 21)))) (some (.inl (addK .i64 v3 1)))) (some (.inr (.inl ())))
noncomputable def QcP (r:List Int) (r5:List Int) (v4:Int):Option ((Int)⊕((Unit)⊕(Int))):=br (ltI v4 (lenI r)) (bnd (getI r v4) fun x6=>bnd (getI r5 x6) fun x7=>bnd (QbZ x7 x6) fun r6=>br r6 (some (.inr (.inr 21))) (some (.inl (addK .i64 v4 1)))) (some (.inr (.inl ())))
noncomputable def QkH (x0:Qac) (set_:Int):Option Int:=br (ltI set_ 0) (some 2) (bnd (Qgm set_) fun r=>bnd (loopF (fun s=>Qg3 x0 set_ r s) 0) (fun e=>sel e (fun (_:Unit)=>bnd (loopF (fun s=>Qfu x0 set_ r s) 0) (fun e=>sel e (fun (_:Unit)=>bnd (loopF (fun s=>Qer x0 set_ r s) 0) (fun e=>sel e (fun (_:Unit)=>bnd (loopF (fun s=>QdD x0 set_ r s) 0) (fun e=>sel e (fun (_:Unit)=>bnd (Qgl (lenI x0.orders) x0.before) fun r5=>bnd (loopF (fun s=>QcP r r5 s) 0) (fun e=>sel e (fun (_:Unit)=>some 0) (fun r7=>some r7))) (fun r8=>some r8))) (fun r9=>some r9))) (fun r10=>some r10))) (fun r11=>some r11)))
noncomputable def Qed (x0:Qac) (set_:Int) (v:Int):Option ((Int)⊕((Unit)⊕(Bool))):=br (ltI v (lenI x0.orders)) (bnd (getI x0.orders v) fun x1=>chk ((0:Int)≤v) (br ((eqI (andK .i64 (shrK .i64 set_ v) 1) 1)&&x1.off) (some (.inr (.inr true))) (some (.inl (addK .i64 v 1))))) (some (.inr (.inl ())))
noncomputable def QhI (x0:Qac) (set_:Int):Option Bool:=bnd (loopF (fun s=>Qed x0 set_ s) 0) (fun e=>sel e (fun (_:Unit)=>bnd (QkH x0 set_) fun r=>some (neI r 0)) (fun r1=>some r1))
noncomputable def QhL (l:List Qag) (at_:Int) (l1:List Qab):Option (List Qab):=bnd (getI l at_) fun x1=>br (geI x1.drop.place 0) (chk (okN (l1++[(Qab.mk at_ true)]).length 16) (some (l1++[(Qab.mk at_ true)]))) (some l1)
noncomputable def QhG (l:List Qag) (at_:Int):Option (List Qab):=bnd (Qlq l at_) fun r=>br r (bnd (getI l at_) fun x0=>br (geI x0.pick.place 0) (chk (okN [(Qab.mk at_ false)].length 16) (QhL l at_ [(Qab.mk at_ false)])) (QhL l at_ [])) (some [])
noncomputable def Qbe (s0:List Qab) (v:Qab) (v1:Int):Option ((Int)⊕((Unit)⊕(Int))):=br (ltI v1 (lenI s0)) (bnd (getI s0 v1) fun x0=>br (eqI v.order x0.order&&(eqB v.drop x0.drop&&true)) (some (.inr (.inr v1))) (some (.inl (addK .i64 v1 1)))) (some (.inr (.inl ())))
noncomputable def Qcb (s0:List Qab) (v:Qab):Option Int:=bnd (loopF (fun s=>Qbe s0 v s) 0) (fun e=>sel e (fun (_:Unit)=>some (-1)) (fun r=>some r))
noncomputable def Qg7 (l:List Qab) (v:Qab):Option Int:=bnd (Qcb l v) fun r=>some r
noncomputable def Qge (x0:Qac) (l:List Qab) (v:Qab) (r1:List Qab) (v1:Int):Option ((Int)⊕((Unit)⊕(Bool))):=br (ltI v1 (lenI r1)) (bnd (getI r1 v1) fun x1=>br (eqI x1.order v.order&&(eqB x1.drop v.drop&&true)) (some (.inr (.inl ()))) (bnd (Qg7 l x1) fun r2=>br (ltI r2 0) (some (.inr (.inr false))) (some (.inl (addK .i64 v1 1))))) (some (.inr (.inl ())))
noncomputable def Qgf (x0:Qac) (l:List Qab) (v:Qab) (v2:Int) (r3:List Qab) (v3:Int):Option ((Int)⊕((Unit)⊕(Bool))):=br (ltI v3 (lenI r3)) (bnd (getI r3 v3) fun x3=>bnd (Qg7 l x3) fun r4=>br (ltI r4 0) (some (.inr (.inr false))) (some (.inl (addK .i64 v3 1)))) (some (.inr (.inl ())))
noncomputable def QeV (x0:Qac) (l:List Qab) (v:Qab) (v2:Int):Option ((Int)⊕((Unit)⊕(Bool))):=br (ltI v2 (lenI x0.before)) (bnd (getI x0.before v2) fun x2=>br (neI x2.x1 v.order) (some (.inl (addK .i64 v2 1))) (bnd (QhG x0.orders x2.x0) fun r3=>bnd (loopF (fun s=>Qgf x0 l v v2 r3 s) 0) (fun e=>sel e (fun (_:Unit)=>some (.inl (addK .i64 v2 1))) (fun r5=>some (.inr (.inr r5)))))) (some (.inr (.inl ())))
noncomputable def QlW (x0:Qac) (l:List Qab) (v:Qab):Option Bool:=bnd (Qg7 l v) fun r=>br (geI r 0) (some false) (bnd (QhG x0.orders v.order) fun r1=>bnd (loopF (fun s=>Qge x0 l v r1 s) 0) (fun e=>sel e (fun (_:Unit)=>bnd (loopF (fun s=>QeV x0 l v s) 0) (fun e=>sel e (fun (_:Unit)=>some true) (fun r6=>some r6))) (fun r7=>some r7)))
noncomputable def Qg5 (x0:Qac) (set_:Int) (l:List Qab) (v:Int) (r:List Qab) (l2:List Qab) (v1:Int):Option ((List Qab×Int)⊕(List Qab)):=br (ltI v1 (lenI r)) (bnd (getI r v1) fun x2=>bnd (QlW x0 l x2) fun r1=>br r1 (chk (okN (l2++[x2]).length 16) (some (.inl ((l2++[x2]),(addK .i64 v1 1))))) (some (.inl (l2,(addK .i64 v1 1))))) (some (.inr l2))
noncomputable def Qg4 (x0:Qac) (set_:Int) (l:List Qab) (l1:List Qab) (v:Int):Option ((List Qab×Int)⊕(List Qab)):=br (ltI v (lenI x0.orders)) (bnd (getI x0.orders v) fun x1=>br (gtI v 62) (some (.inl (l1,(addK .i64 v 1)))) (chk ((0:Int)≤v) (br ((eqI (andK .i64 (shrK .i64 set_ v) 1) 0)||x1.off) (some (.inl (l1,(addK .i64 v 1)))) (bnd (QhG x0.orders v) fun r=>bnd (loopF (fun s=>Qg5 x0 set_ l v r s.1 s.2) (l1,0)) (fun l3=>some (.inl (l3,(addK .i64 v 1)))))))) (some (.inr l1))
noncomputable def Qna (x0:Qac) (set_:Int) (l:List Qab):Option (List Qab):=bnd (loopF (fun s=>Qg4 x0 set_ l s.1 s.2) ([],0)) (fun l4=>some l4)
noncomputable def Qcn (s0:List Qab):Option (List Qab):=bnd (slcI s0 0 (lenI s0)) fun l=>some l
noncomputable def Qgd (self:(List Qab)→Int→(List (List Qab))→Qac→Int→Option (Bool×Int×List (List Qab)×Qac×Int)) (l:List Qab) (c:Int) (r:List Qab) (l1:List (List Qab)) (x0:Int) (x1:Qac) (x2:Int) (v:Int):Option ((List (List Qab)×Int×Qac×Int×Int)⊕((List (List Qab)×Int×Qac×Int)⊕(Bool×Int×List (List Qab)×Qac×Int))):=br (ltI v (lenI r)) (bnd (getI r v) fun x3=>bnd (Qcn l) fun r1=>chk (okN (r1++[x3]).length 16) (bnd (self (r1++[x3]) x0 l1 x1 x2) fun r2=>br r2.1 (some (.inl (r2.2.2.1,r2.2.1,r2.2.2.2.1,r2.2.2.2.2,(addK .i64 v 1)))) (some (.inr (.inr (false,r2.2.1,r2.2.2.1,r2.2.2.2.1,r2.2.2.2.2)))))) (some (.inr (.inl (l1,x0,x1,x2))))
noncomputable def Qj5 (self:(List Qab)→Int→(List (List Qab))→Qac→Int→Option (Bool×Int×List (List Qab)×Qac×Int)) (l:List Qab) (c:Int) (c1:List (List Qab)) (c2:Qac) (c3:Int):Option (Bool×Int×List (List Qab)×Qac×Int):=br (eqI (lenI l) c) (chk (okN (c1++[l]).length 24) (some ((leI (lenI (c1++[l])) 8192),c,(c1++[l]),c2,c3))) (bnd (Qna c2 c3 l) fun r=>bnd (loopF (fun s=>Qgd self l c r s.1 s.2.1 s.2.2.1 s.2.2.2.1 s.2.2.2.2) (c1,c,c2,c3,0)) (fun e=>sel e (fun e0=>(fun l2 x4 x5 x6=>some (true,x4,l2,x5,x6)) e0.1 e0.2.1 e0.2.2.1 e0.2.2.2) (fun r3=>some r3)))
noncomputable def Qj7:Nat→(List Qab)→Int→(List (List Qab))→Qac→Int→Option (Bool×Int×List (List Qab)×Qac×Int)|0=>fun _ _ _ _ _=>none|fuel_+1=>fun l c c1 c2 c3=>Qj5 (Qj7 fuel_) l c c1 c2 c3
noncomputable def QlU (l:List Qab) (c:Int) (c1:List (List Qab)) (c2:Qac) (c3:Int):Option (Bool×Int×List (List Qab)×Qac×Int):=Qj7 Qtv l c c1 c2 c3
noncomputable def QhP (x0:Qac) (set_:Int) (x1:Int) (v:Int):Option ((Int×Int)⊕(Int)):=br (ltI v (lenI x0.orders)) (chk ((0:Int)≤v) (br (eqI (andK .i64 (shrK .i64 set_ v) 1) 1) (bnd (QhG x0.orders v) fun r1=>some (.inl ((addK .i64 x1 (lenI r1)),(addK .i64 v 1)))) (some (.inl (x1,(addK .i64 v 1)))))) (some (.inr x1))
noncomputable def Qog (x0:Qac) (set_:Int):Option (List (List Qab)×Int):=br (ltI set_ 0) (some ([],2)) (chk ((0:Int)≤(lenI x0.orders)) (br (neI (shrK .i64 set_ (lenI x0.orders)) 0) (some ([],2)) (br (eqI set_ 0) (some ([],0)) (bnd (QhI x0 set_) fun r=>br r (some ([],0)) (bnd (loopF (fun s=>QhP x0 set_ s.1 s.2) (0,0)) (fun x2=>bnd (QlU [] x2 [] x0 set_) fun r2=>br r2.1 (some (r2.2.2.1,0)) (some ([],4))))))))
noncomputable def Qbh (q:Qao):Option (Int×Qao):=some ((subK .i64 (lenI q.items) q.first_),q)
noncomputable def Qbp (q:Qao):Option (Qad×Qao):=bnd (getI q.items q.first_) fun x0=>some (x0,(Qao.mk q.items (addK .i64 q.first_ 1)))
noncomputable def Qbg (q:Qao) (l:List Qad):Option Qao:=chk (okN (q.items++l).length 104) (some (Qao.mk (q.items++l) q.first_))
noncomputable def Qd9 (l:QbD) (v:Qab) (r:Int×Qao) (l1:List Qad) (first_:Int) (v1:Int):Option ((List Qad×Int×Int)⊕(List Qad×Int)):=br (ltI v1 r.1) (bnd (Qbp (Qao.mk l1 first_)) fun r1=>bnd (Qdw l.x r1.1 v) fun r2=>bnd (Qbg r1.2 r2) fun r3=>some (.inl (r3.items,r3.first_,(addK .i64 v1 1)))) (some (.inr (l1,first_)))
noncomputable def Qhz (l:QbD) (v:Qab):Option QbD:=bnd (Qbh l.queue) fun r=>bnd (loopF (fun s=>Qd9 l v r s.1 s.2.1 s.2.2) (r.2.items,r.2.first_,0)) (fun e0=>(fun l2 first_1=>some (QbD.mk (Qao.mk l2 first_1) l.x)) e0.1 e0.2)
noncomputable def Qd0 (a:Qad) (b:Qad):Option Bool:=br ((((neI a.type_ b.type_)||(neI a.place b.place))||(neI a.done b.done))||(neI a.open_ b.open_)) (some false) (br (((leI a.time b.time)&&(leI a.driven b.driven))&&(leI a.miles b.miles)) (bnd (QgH a.load b.load) fun r=>some r) (some false))
noncomputable def Qkn (l:List Qad) (next_:Qad) (v:Int):Option ((Int)⊕((Unit)⊕(List Qad))):=br (ltI v (lenI l)) (bnd (getI l v) fun x0=>bnd (Qd0 x0 next_) fun r=>br r (some (.inr (.inr l))) (some (.inl (addK .i64 v 1)))) (some (.inr (.inl ())))
noncomputable def QhS (l:List Qad) (next_:Qad) (l1:List Qad) (v1:Int):Option ((List Qad×Int)⊕(List Qad)):=br (ltI v1 (lenI l)) (bnd (getI l v1) fun x1=>bnd (Qd0 next_ x1) fun r1=>br r1 (some (.inl (l1,(addK .i64 v1 1)))) (chk (okN (l1++[x1]).length 104) (some (.inl ((l1++[x1]),(addK .i64 v1 1)))))) (some (.inr l1))
noncomputable def Qqm (l:List Qad) (next_:Qad):Option (List Qad):=bnd (loopF (fun s=>Qkn l next_ s) 0) (fun e=>sel e (fun (_:Unit)=>bnd (loopF (fun s=>QhS l next_ s.1 s.2) ([],0)) (fun l2=>chk (okN (l2++[next_]).length 104) (some (l2++[next_])))) (fun r2=>some r2))
noncomputable def Qkm (r:List (List Qab)×Int) (r1:List Qad) (out:List Qad) (v:Int) (x2:List Qab) (l:List Qad) (x3:Qac) (first_:Int) (x4:Qac) (v1:Int):Option ((List Qad×Qac×Int×Qac×Int)⊕(List Qad×Qac×Int×Qac)):=br (ltI v1 (lenI x2)) (bnd (getI x2 v1) fun x5=>bnd (Qhz (QbD.mk (Qao.mk l first_) x4) x5) fun r3=>some (.inl (r3.queue.items,x3,r3.queue.first_,r3.x,(addK .i64 v1 1)))) (some (.inr (l,x3,first_,x4)))
noncomputable def QhR (r:List (List Qab)×Int) (r1:List Qad) (v:Int) (l2:List Qad) (x8:Qac) (first_2:Int) (x9:Qac) (out1:List Qad):Option ((List Qad×Qac×Int×Qac×List Qad)⊕(Qac×List Qad)):=bnd (Qbh (Qao.mk l2 first_2)) fun r4=>br (gtI r4.1 0) (bnd (Qbp r4.2) fun r5=>bnd (Qgp x8 r5.1) fun r6=>br r6.2.2 (bnd (Qqm out1 r5.1) fun r7=>some (.inl (r5.2.items,x8,r5.2.first_,x9,r7))) (some (.inl (r5.2.items,x8,r5.2.first_,x9,out1)))) (some (.inr (x8,out1)))
noncomputable def Qkl (r:List (List Qab)×Int) (r1:List Qad) (x1:Qac) (out:List Qad) (v:Int):Option ((Qac×List Qad×Int)⊕(List Qad)):=br (ltI v (lenI r.1)) (bnd (getI r.1 v) fun x2=>bnd (Qbg (Qao.mk [] 0) r1) fun r2=>bnd (loopF (fun s=>Qkm r r1 out v x2 s.1 s.2.1 s.2.2.1 s.2.2.2.1 s.2.2.2.2) (r2.items,x1,r2.first_,x1,0)) (fun e0=>(fun l1 x6 first_1 x7=>bnd (loopF (fun s=>QhR r r1 v s.1 s.2.1 s.2.2.1 s.2.2.2.1 s.2.2.2.2) (l1,x6,first_1,x7,out)) (fun e0=>(fun x10 out2=>some (.inl (x10,out2,(addK .i64 v 1)))) e0.1 e0.2)) e0.1 e0.2.1 e0.2.2.1 e0.2.2.2)) (some (.inr out))
noncomputable def Qqi (x0:Qac) (kind:Int) (set_:Int):Option (List Qad×Int):=br ((ltI kind 0)||(geI kind (lenI x0.types))) (some ([],2)) (bnd (Qog x0 set_) fun r=>br (neI r.2 0) (some ([],r.2)) (bnd (Qgq x0 kind set_) fun r1=>bnd (loopF (fun s=>Qkl r r1 s.1 s.2.1 s.2.2) (x0,[],0)) (fun out3=>some (out3,0))))
noncomputable def QbE:Option Bool:=bnd (Qgq (Qac.mk (Qak.mk [QiI,QiJ] [(Qan.mk 0 1 0 4 [(Qaj.mk 0 10)] []),(Qan.mk 1 0 0 4 [(Qaj.mk 0 10)] [])]) [(Qah.mk QiL 1 0 0 [5] 0 0 0 90 50 5 0 0 0)] [(Qag.mk QiK [3] (Qap.mk (-1) 0 0 0) (Qap.mk 1 0 80 0) 0 0 1 (-1) (-1) false)] [] []) 0 1) fun r=>br (neI (lenI r) 2) (some false) (bnd (getI r 1) fun x0=>br (neI x0.time 5) (some false) (bnd (getI r 0) fun x1=>bnd (Qdw (Qac.mk (Qak.mk [QiI,QiJ] [(Qan.mk 0 1 0 4 [(Qaj.mk 0 10)] []),(Qan.mk 1 0 0 4 [(Qaj.mk 0 10)] [])]) [(Qah.mk QiL 1 0 0 [5] 0 0 0 90 50 5 0 0 0)] [(Qag.mk QiK [3] (Qap.mk (-1) 0 0 0) (Qap.mk 1 0 80 0) 0 0 1 (-1) (-1) false)] [] []) x1 (Qab.mk 0 true)) fun r1=>br (neI (lenI r1) 2) (some false) (bnd (getI r1 0) fun x2=>br (neI x2.time 10) (some false) (br (neI x2.driven 10) (some false) (br (neI x2.miles 4) (some false) (bnd (getI r1 1) fun x3=>br (neI x3.time 15) (some false) (bnd (Qgp (Qac.mk (Qak.mk [QiI,QiJ] [(Qan.mk 0 1 0 4 [(Qaj.mk 0 10)] []),(Qan.mk 1 0 0 4 [(Qaj.mk 0 10)] [])]) [(Qah.mk QiL 1 0 0 [5] 0 0 0 90 50 5 0 0 0)] [(Qag.mk QiK [3] (Qap.mk (-1) 0 0 0) (Qap.mk 1 0 80 0) 0 0 1 (-1) (-1) false)] [] []) x2) fun r2=>bnd (Qqi (Qac.mk (Qak.mk [QiI,QiJ] [(Qan.mk 0 1 0 4 [(Qaj.mk 0 10)] []),(Qan.mk 1 0 0 4 [(Qaj.mk 0 10)] [])]) [(Qah.mk QiL 1 0 0 [5] 0 0 0 90 50 5 0 0 0)] [(Qag.mk QiK [3] (Qap.mk (-1) 0 0 0) (Qap.mk 1 0 80 0) 0 0 1 (-1) (-1) false)] [] []) 0 1) fun r3=>some (((r2.2.2&&(eqI r2.1 20))&&(eqI r3.2 0))&&(gtI (lenI r3.1) 0)))))))))
noncomputable def QbI (i:Int) (n:Int) (k:Int):Option ((Int×Int)⊕(Int)):=br (ltI k i) (some (.inl ((mulK .i64 2 n),(addK .i64 k 1)))) (some (.inr n))
noncomputable def Qdc (i:Int):Option Int:=bnd (loopF (fun s=>QbI i s.1 s.2) (1,0)) (fun n1=>some n1)
noncomputable def QaL (set_:Int) (i:Int):Option Bool:=br ((geI i 0)&&(leI i 62)) (bnd (Qdc i) fun r=>chk ((r:Int)≠0) (some (eqI (remK (quoK .i64 set_ r) 2) 1))) (some false)
noncomputable def QaW (set_:Int) (l:List Int) (i:Int):Option ((List Int×Int)⊕(List Int)):=br (leI i 62) (bnd (QaL set_ i) fun r=>br r (chk (okN (l++[i]).length 8) (some (.inl ((l++[i]),(addK .i64 i 1))))) (some (.inl (l,(addK .i64 i 1))))) (some (.inr l))
noncomputable def Qcz (set_:Int):Option (List Int):=bnd (loopF (fun s=>QaW set_ s.1 s.2) ([],0)) (fun l1=>some l1)
noncomputable def Qca (t:Qah) (skills:Int) (bit:Int):Option ((Int)⊕((Unit)⊕(Bool))):=br (gtI bit 0) (chk ((bit:Int)≠0) (br (eqI (remK (quoK .i64 skills bit) 2) 1) (chk ((bit:Int)≠0) (br (eqI (remK (quoK .i64 t.skills bit) 2) 0) (some (.inr (.inr false))) (some (.inl (mulK .i64 bit 2))))) (some (.inl (mulK .i64 bit 2))))) (some (.inr (.inl ())))
noncomputable def Qdj (t:Qah) (skills:Int):Option Bool:=br ((ltI t.skills 0)||(ltI skills 0)) (some false) (bnd (loopF (fun s=>Qca t skills s) 1) (fun e=>sel e (fun (_:Unit)=>some true) (fun r=>some r)))
noncomputable def QbN (x0:Qac) (kind:Int) (set_:Int) (r:List Int) (i:Int):Option ((Int)⊕((Unit)⊕(Bool))):=br (ltI i (lenI r)) (bnd (getI r i) fun x1=>br (geI x1 (lenI x0.orders)) (some (.inr (.inr false))) (bnd (getI x0.orders x1) fun x2=>br x2.off (some (.inr (.inr false))) (bnd (getI x0.types kind) fun x3=>bnd (Qdj x3 x2.skills) fun r1=>br r1 (some (.inl (addK .i64 i 1))) (some (.inr (.inr false)))))) (some (.inr (.inl ())))
noncomputable def QbO (x0:Qac) (set_:Int) (i1:Int):Option ((Int)⊕((Unit)⊕(Bool))):=br (ltI i1 (lenI x0.apart)) (bnd (getI x0.apart i1) fun x4=>bnd (QaL set_ x4.x0) fun r2=>br r2 (bnd (QaL set_ x4.x1) fun r3=>br r3 (some (.inr (.inr false))) (some (.inl (addK .i64 i1 1)))) (some (.inl (addK .i64 i1 1)))) (some (.inr (.inl ())))
noncomputable def Qbr (x0:Qac) (set_:Int) (i2:Int):Option ((Int)⊕((Unit)⊕(Bool))):=br (ltI i2 (lenI x0.before)) (bnd (getI x0.before i2) fun x5=>bnd (QaL set_ x5.x1) fun r4=>br r4 (bnd (QaL set_ x5.x0) fun r5=>br r5 (some (.inl (addK .i64 i2 1))) (some (.inr (.inr false)))) (some (.inl (addK .i64 i2 1)))) (some (.inr (.inl ())))
noncomputable def Qg0 (x0:Qac) (kind:Int) (set_:Int):Option Bool:=br (((ltI kind 0)||(geI kind (lenI x0.types)))||(leI set_ 0)) (some false) (bnd (Qcz set_) fun r=>bnd (loopF (fun s=>QbN x0 kind set_ r s) 0) (fun e=>sel e (fun (_:Unit)=>bnd (loopF (fun s=>QbO x0 set_ s) 0) (fun e=>sel e (fun (_:Unit)=>bnd (loopF (fun s=>Qbr x0 set_ s) 0) (fun e=>sel e (fun (_:Unit)=>some true) (fun r6=>some r6))) (fun r7=>some r7))) (fun r8=>some r8)))
noncomputable def QbU (l:List (List Int)) (dims:Int) (i:Int):Option ((Int)⊕((Unit)⊕(Bool))):=br (ltI i (lenI l)) (bnd (getI l i) fun x0=>br (neI (lenI x0) dims) (some (.inr (.inr false))) (some (.inl (addK .i64 i 1)))) (some (.inr (.inl ())))
noncomputable def Qf0 (l:List (List Int)) (dims:Int):Option Bool:=br ((ltI dims 0)||(gtI dims 3)) (some false) (bnd (loopF (fun s=>QbU l dims s) 0) (fun e=>sel e (fun (_:Unit)=>some true) (fun r=>some r)))
noncomputable def QbM (l:List (List Int)) (dims:Int) (l1:List Int) (d:Int) (n:Int) (i:Int):Option ((Int×Int)⊕(Int)):=br (ltI i (lenI l)) (bnd (getI l i) fun x0=>bnd (getI x0 d) fun x1=>some (.inl ((addK .i64 n x1),(addK .i64 i 1)))) (some (.inr n))
noncomputable def QbL (l:List (List Int)) (dims:Int) (l1:List Int) (d:Int):Option ((List Int×Int)⊕(List Int)):=br (ltI d dims) (bnd (loopF (fun s=>QbM l dims l1 d s.1 s.2) (0,0)) (fun n1=>chk (okN (l1++[n1]).length 8) (some (.inl ((l1++[n1]),(addK .i64 d 1)))))) (some (.inr l1))
noncomputable def QfC (l:List (List Int)) (dims:Int):Option (List Int×Int):=bnd (Qf0 l dims) fun r=>br r (bnd (loopF (fun s=>QbL l dims s.1 s.2) ([],0)) (fun l2=>some (l2,0))) (some ([],2))
noncomputable def Qbs (l:List Qag) (dims:Int) (r1:List Int) (l1:List (List Int)) (i:Int):Option ((List (List Int)×Int)⊕((List (List Int))⊕(List Int×Int))):=br (ltI i (lenI r1)) (bnd (getI r1 i) fun x0=>br (geI x0 (lenI l)) (some (.inr (.inr ([],2)))) (bnd (getI l x0) fun x1=>chk (okN (l1++[x1.load]).length 24) (some (.inl ((l1++[x1.load]),(addK .i64 i 1)))))) (some (.inr (.inl l1)))
noncomputable def QeX (l:List Qag) (set_:Int) (dims:Int):Option (List Int×Int):=br (ltI set_ 0) (some ([],2)) (bnd (QaT dims 0 3) fun r=>br r (bnd (Qcz set_) fun r1=>bnd (loopF (fun s=>Qbs l dims r1 s.1 s.2) ([],0)) (fun e=>sel e (fun l2=>bnd (QfC l2 dims) fun r2=>some (r2.1,r2.2)) (fun r3=>some r3))) (some ([],2)))
noncomputable def QbT (a:List Int) (capacity:List Int) (i:Int):Option ((Int)⊕((Unit)⊕(Bool))):=br (ltI i (lenI a)) (bnd (getI a i) fun x0=>bnd (getI capacity i) fun x1=>br (gtI x0 x1) (some (.inr (.inr false))) (some (.inl (addK .i64 i 1)))) (some (.inr (.inl ())))
noncomputable def Qdh (a:List Int) (capacity:List Int):Option Bool:=br (neI (lenI a) (lenI capacity)) (some false) (bnd (loopF (fun s=>QbT a capacity s) 0) (fun e=>sel e (fun (_:Unit)=>some true) (fun r=>some r)))
noncomputable def Qcu (x0:Qac) (l:Qaf):Option (List Qaf):=bnd (getI x0.types l.type_) fun x1=>some [l,(Qaf.mk l.type_ l.visits l.place (addK .i64 l.time x1.rest_) 0 l.miles l.load l.done l.open_)]
noncomputable def Qbk (x0:Qac) (kind:Int) (x1:Qah) (r1:List Int) (open_:Int) (open_1:Int) (i:Int):Option ((Int×Int×Int)⊕(Int×Int)):=br (ltI i (lenI r1)) (bnd (getI r1 i) fun x2=>bnd (getI x0.orders x2) fun x3=>br (ltI x3.pick.place 0) (bnd (Qdc x2) fun r2=>some (.inl (open_,(addK .i64 open_1 r2),(addK .i64 i 1)))) (some (.inl (open_,open_1,(addK .i64 i 1))))) (some (.inr (open_,open_1)))
noncomputable def Qft (x0:Qac) (kind:Int) (set_:Int):Option (List Qaf):=bnd (Qg0 x0 kind set_) fun r=>br r (bnd (getI x0.types kind) fun x1=>bnd (Qcz set_) fun r1=>bnd (loopF (fun s=>Qbk x0 kind x1 r1 s.1 s.2.1 s.2.2) (x1.open_,0,0)) (fun e0=>(fun open_2 open_3=>bnd (QeX x0.orders open_3 (lenI x1.cap)) fun r3=>br (neI r3.2 0) (some []) (bnd (Qdh r3.1 x1.cap) fun r4=>br r4 (bnd (Qcu x0 (Qaf.mk kind [] x1.from_ open_2 0 0 r3.1 0 open_3)) fun r5=>some r5) (some []))) e0.1 e0.2)) (some [])
noncomputable def Qdv (a:Qaf) (b:Qaf) (i:Int):Option ((Int)⊕((Unit)⊕(Bool))):=br (ltI i (lenI a.visits)) (bnd (getI a.visits i) fun x0=>bnd (getI b.visits i) fun x1=>br (eqI x0.order x1.order&&(eqB x0.drop x1.drop&&true)) (some (.inl (addK .i64 i 1))) (some (.inr (.inr false)))) (some (.inr (.inl ())))
noncomputable def QcD (a:Qaf) (b:Qaf) (i1:Int):Option ((Int)⊕((Unit)⊕(Bool))):=br (ltI i1 (lenI a.load)) (bnd (getI a.load i1) fun x2=>bnd (getI b.load i1) fun x3=>br (neI x2 x3) (some (.inr (.inr false))) (some (.inl (addK .i64 i1 1)))) (some (.inr (.inl ())))
noncomputable def QeZ (a:Qaf) (b:Qaf):Option Bool:=br ((neI (lenI a.visits) (lenI b.visits))||(neI (lenI a.load) (lenI b.load))) (some false) (bnd (loopF (fun s=>Qdv a b s) 0) (fun e=>sel e (fun (_:Unit)=>bnd (loopF (fun s=>QcD a b s) 0) (fun e=>sel e (fun (_:Unit)=>some (((((((eqI a.type_ b.type_)&&(eqI a.place b.place))&&(eqI a.time b.time))&&(eqI a.driven b.driven))&&(eqI a.miles b.miles))&&(eqI a.done b.done))&&(eqI a.open_ b.open_))) (fun r=>some r))) (fun r1=>some r1)))
noncomputable def QgK (a:Qad):Option Qaf:=some (Qaf.mk a.type_ a.visits a.place a.time a.driven a.miles a.load a.done a.open_)
noncomputable def QbS (a:List Qad) (b:List Qaf) (i:Int):Option ((Int)⊕((Unit)⊕(Bool))):=br (ltI i (lenI a)) (bnd (getI a i) fun x0=>bnd (QgK x0) fun r=>bnd (getI b i) fun x1=>bnd (QeZ r x1) fun r1=>br r1 (some (.inl (addK .i64 i 1))) (some (.inr (.inr false)))) (some (.inr (.inl ())))
noncomputable def QfZ (a:List Qad) (b:List Qaf):Option Bool:=br (neI (lenI a) (lenI b)) (some false) (bnd (loopF (fun s=>QbS a b s) 0) (fun e=>sel e (fun (_:Unit)=>some true) (fun r2=>some r2)))
noncomputable def Qef (n:Qak) (p:Int):Option Bool:=some ((geI p 0)&&(ltI p (lenI n.places)))
noncomputable def Qdr (n:Qak) (profile:Int) (from_:Int) (to_:Int) (i:Int):Option ((Int)⊕((Unit)⊕(Qan×Bool))):=br (ltI i (lenI n.arcs)) (bnd (getI n.arcs i) fun x0=>br (((eqI x0.from_ from_)&&(eqI x0.to_ to_))&&(eqI x0.profile profile)) (some (.inr (.inr (x0,true)))) (some (.inl (addK .i64 i 1)))) (some (.inr (.inl ())))
noncomputable def Qf1 (n:Qak) (profile:Int) (from_:Int) (to_:Int):Option (Qan×Bool):=bnd (loopF (fun s=>Qdr n profile from_ to_ s) 0) (fun e=>sel e (fun (_:Unit)=>some ((Qan.mk 0 0 0 0 [] []),false)) (fun r=>some r))
noncomputable def QcA (l:List Qaj) (t:Int) (i:Int):Option ((Int)⊕((Unit)⊕(Int))):=br (ltI (addK .i64 i 1) (lenI l)) (bnd (getI l i) fun x0=>bnd (getI l (addK .i64 i 1)) fun x1=>br ((leI x0.t t)&&(ltI t x1.t)) (chk (((subK .i64 x1.t x0.t):Int)≠0) (some (.inr (.inr (addK .i64 x0.a (quoK .i64 (subK .i64 (subK .i64 (addK .i64 (mulK .i64 (subK .i64 t x0.t) (subK .i64 x1.a x0.a)) x1.t) x0.t) 1) (subK .i64 x1.t x0.t))))))) (some (.inl (addK .i64 i 1)))) (some (.inr (.inl ())))
noncomputable def QeQ (l:List Qaj) (t:Int):Option Int:=bnd (Qdz l) fun r=>br (((gtI (lenI r) 0)||(ltI t 0))||(gtI t 1073741824)) (some 0) (bnd (loopF (fun s=>QcA l t s) 0) (fun e=>sel e (fun (_:Unit)=>bnd (getI l 0) fun x2=>br (gtI t x2.t) (bnd (getI l (subK .i64 (lenI l) 1)) fun x3=>some (subK .i64 (addK .i64 t x3.a) x3.t)) (some (subK .i64 (addK .i64 t x2.a) x2.t))) (fun r1=>some r1)))
noncomputable def QeF (a:Qan) (t:Int) (n:Int) (i:Int):Option ((Int×Int)⊕(Int)):=br (ltI i (lenI a.slow)) (bnd (getI a.slow i) fun x0=>br (leI x0.t t) (some (.inl ((addK .i64 n x0.a),(addK .i64 i 1)))) (some (.inl (n,(addK .i64 i 1))))) (some (.inr n))
noncomputable def QeS (a:Qan) (t:Int):Option Int:=bnd (QeQ a.travel t) fun r=>bnd (loopF (fun s=>QeF a t s.1 s.2) (r,0)) (fun n1=>some n1)
noncomputable def Qdi (n:Qak) (profile:Int) (from_:Int) (to_:Int) (t:Int):Option (Int×Int×Int):=bnd (Qef n from_) fun r=>br r (bnd (Qef n to_) fun r1=>br r1 (br (eqI from_ to_) (some (t,0,0)) (bnd (Qf1 n profile from_ to_) fun r2=>br r2.2 (bnd (QeS r2.1 t) fun r3=>some (r3,r2.1.miles,0)) (some (0,0,12)))) (some (0,0,11))) (some (0,0,11))
noncomputable def Qbq (l:List Qab) (at_:Int) (i:Int):Option ((Int)⊕((Unit)⊕(Bool))):=br (ltI i at_) (bnd (getI l i) fun x0=>bnd (getI l at_) fun x1=>br (eqI x0.order x1.order) (some (.inr (.inr false))) (some (.inl (addK .i64 i 1)))) (some (.inr (.inl ())))
noncomputable def QeU (l:List Qab) (at_:Int):Option Bool:=bnd (loopF (fun s=>Qbq l at_ s) 0) (fun e=>sel e (fun (_:Unit)=>some true) (fun r=>some r))
noncomputable def QdX (x0:Qac) (r:Qaw) (s0:QaB) (x1:Qah) (other:Int) (i:Int) (x2:Qab) (moved1:Int):Option ((Int×Int×Int)⊕(Int×Int)):=bnd (getI x0.orders x2.order) fun x4=>br (neI x4.last_ (-1)) (br (neI x4.last_ r.type_) (some (.inl (moved1,(addK .i64 other 1),(addK .i64 i 1)))) (some (.inl (moved1,other,(addK .i64 i 1))))) (some (.inl (moved1,other,(addK .i64 i 1))))
noncomputable def Qbj (x0:Qac) (r:Qaw) (s0:QaB) (x1:Qah) (moved:Int) (other:Int) (i:Int):Option ((Int×Int×Int)⊕(Int×Int)):=br (ltI i (lenI r.visits)) (bnd (getI r.visits i) fun x2=>br ((ltI x2.order 0)||(geI x2.order (lenI x0.orders))) (some (.inl (moved,other,(addK .i64 i 1)))) (bnd (QeU r.visits i) fun r1=>br r1 (bnd (getI x0.orders x2.order) fun x3=>br (neI x3.now (-1)) (br (neI x3.now r.type_) (QdX x0 r s0 x1 other i x2 (addK .i64 moved 1)) (QdX x0 r s0 x1 other i x2 moved)) (br (neI x3.last_ (-1)) (br (neI x3.last_ r.type_) (some (.inl (moved,(addK .i64 other 1),(addK .i64 i 1)))) (some (.inl (moved,other,(addK .i64 i 1))))) (some (.inl (moved,other,(addK .i64 i 1)))))) (some (.inl (moved,other,(addK .i64 i 1)))))) (some (.inr (moved,other)))
noncomputable def Qeo (x0:Qac) (r:Qaw) (s0:QaB):Option QaK:=br ((ltI r.type_ 0)||(geI r.type_ (lenI x0.types))) (some (QaK.mk 0 0 0 0)) (bnd (getI x0.types r.type_) fun x1=>bnd (loopF (fun s=>Qbj x0 r s0 x1 s.1 s.2.1 s.2.2) (0,0,0)) (fun e0=>(fun moved2 other1=>some (QaK.mk (addK .i64 (addK .i64 x1.fixed (mulK .i64 x1.perMile s0.miles)) (mulK .i64 x1.perTick (subK .i64 s0.end_ x1.open_))) moved2 other1 (mulK .i64 (quoK .i64 (subK .i64 s0.end_ x1.open_) 64) (quoK .i64 (subK .i64 s0.end_ x1.open_) 64)))) e0.1 e0.2))
noncomputable def QgY (s0:QaK):Option Bool:=some ((((((((geI s0.cost 0)&&(leI s0.cost 1073741824))&&(geI s0.moved 0))&&(leI s0.moved 15))&&(geI s0.other 0))&&(leI s0.other 15))&&(geI s0.work 0))&&(leI s0.work 65535))
noncomputable def Qda (s0:QaK):Option (Int×Int):=br ((((ltI s0.cost 0)||(ltI s0.moved 0))||(ltI s0.other 0))||(ltI s0.work 0)) (some (0,2)) (bnd (QgY s0) fun r=>br r (some ((addK .i64 (mulK .i64 (addK .i64 (mulK .i64 (addK .i64 (mulK .i64 s0.cost 16) s0.moved) 16) s0.other) 65536) s0.work),0)) (some (0,4)))
noncomputable def Qfs (x0:Qac) (l:Qaf):Option (Int×Int×Bool):=br ((eqI (lenI l.visits) 0)||(neI l.open_ 0)) (some (0,0,false)) (bnd (getI x0.types l.type_) fun x1=>bnd (Qdi x0.net x1.profile l.place x1.to_ l.time) fun r=>br (((neI r.2.2 0)||(gtI (subK .i64 (addK .i64 l.driven r.1) l.time) x1.drive))||(gtI r.1 x1.close)) (some (0,0,false)) (bnd (Qeo x0 (Qaw.mk l.type_ 0 [] l.visits) (QaB.mk false 0 [] r.1 (addK .i64 l.miles r.2.1))) fun r1=>bnd (Qda r1) fun r2=>some (r.1,r2.1,(eqI r2.2 0))))
noncomputable def Qcx (a:Qaf) (b:Qaf) (i:Int):Option ((Int)⊕((Unit)⊕(Bool))):=br (ltI i (lenI a.load)) (bnd (getI a.load i) fun x0=>bnd (getI b.load i) fun x1=>br (gtI x0 x1) (some (.inr (.inr false))) (some (.inl (addK .i64 i 1)))) (some (.inr (.inl ())))
noncomputable def QdC (a:Qaf) (b:Qaf):Option Bool:=br (((((neI a.type_ b.type_)||(neI a.place b.place))||(neI a.done b.done))||(neI a.open_ b.open_))||(neI (lenI a.load) (lenI b.load))) (some false) (bnd (loopF (fun s=>Qcx a b s) 0) (fun e=>sel e (fun (_:Unit)=>some (((leI a.time b.time)&&(leI a.driven b.driven))&&(leI a.miles b.miles))) (fun r=>some r)))
noncomputable def Qdt (x1:Qap):Option (Qap×Int):=br (ltI x1.place 0) (some ((Qap.mk 0 0 0 0),19)) (some (x1,0))
noncomputable def Qdk (l:List Qag) (v:Qab):Option (Qap×Int):=bnd (QaT v.order 0 (subK .i64 (lenI l) 1)) fun r=>br r (bnd (getI l v.order) fun x0=>br v.drop (Qdt x0.drop) (Qdt x0.pick)) (some ((Qap.mk 0 0 0 0),2))
noncomputable def QbW (x0:Qac) (l:Qaf) (v:Qab) (x1:Qag) (r1:Bool) (i:Int):Option ((Int)⊕((Unit)⊕(Bool))):=br (ltI i (lenI x0.apart)) (bnd (getI x0.apart i) fun x3=>br (eqI x3.x0 v.order) (bnd (QaL (orK .i64 l.done l.open_) x3.x1) fun r4=>br r4 (some (.inr (.inr false))) (br (eqI x3.x1 v.order) (bnd (QaL (orK .i64 l.done l.open_) x3.x0) fun r5=>br r5 (some (.inr (.inr false))) (some (.inl (addK .i64 i 1)))) (some (.inl (addK .i64 i 1))))) (br (eqI x3.x1 v.order) (bnd (QaL (orK .i64 l.done l.open_) x3.x0) fun r6=>br r6 (some (.inr (.inr false))) (some (.inl (addK .i64 i 1)))) (some (.inl (addK .i64 i 1))))) (some (.inr (.inl ())))
noncomputable def Qbt (x0:Qac) (l:Qaf) (v:Qab) (x1:Qag) (r1:Bool) (i1:Int):Option ((Int)⊕((Unit)⊕(Bool))):=br ((ltI i1 (lenI x0.before))&&(!r1)) (bnd (getI x0.before i1) fun x4=>br (eqI x4.x1 v.order) (bnd (QaL l.done x4.x0) fun r7=>br r7 (bnd (QaL l.open_ x4.x0) fun r8=>br r8 (some (.inr (.inr false))) (some (.inl (addK .i64 i1 1)))) (some (.inr (.inr false)))) (some (.inl (addK .i64 i1 1)))) (some (.inr (.inl ())))
noncomputable def QbX (x0:Qac) (l:Qaf) (v:Qab) (x1:Qag) (r1:Bool) (i2:Int):Option ((Int)⊕((Unit)⊕(Bool))):=br (ltI i2 (lenI x0.apart)) (bnd (getI x0.apart i2) fun x6=>br (eqI x6.x0 v.order) (bnd (QaL (orK .i64 l.done l.open_) x6.x1) fun r12=>br r12 (some (.inr (.inr false))) (br (eqI x6.x1 v.order) (bnd (QaL (orK .i64 l.done l.open_) x6.x0) fun r13=>br r13 (some (.inr (.inr false))) (some (.inl (addK .i64 i2 1)))) (some (.inl (addK .i64 i2 1))))) (br (eqI x6.x1 v.order) (bnd (QaL (orK .i64 l.done l.open_) x6.x0) fun r14=>br r14 (some (.inr (.inr false))) (some (.inl (addK .i64 i2 1)))) (some (.inl (addK .i64 i2 1))))) (some (.inr (.inl ())))
noncomputable def Qbu (x0:Qac) (l:Qaf) (v:Qab) (x1:Qag) (r1:Bool) (i3:Int):Option ((Int)⊕((Unit)⊕(Bool))):=br ((ltI i3 (lenI x0.before))&&(!r1)) (bnd (getI x0.before i3) fun x7=>br (eqI x7.x1 v.order) (bnd (QaL l.done x7.x0) fun r15=>br r15 (bnd (QaL l.open_ x7.x0) fun r16=>br r16 (some (.inr (.inr false))) (some (.inl (addK .i64 i3 1)))) (some (.inr (.inr false)))) (some (.inl (addK .i64 i3 1)))) (some (.inr (.inl ())))
noncomputable def Qd6 (x0:Qac) (l:Qaf) (v:Qab):Option Bool:=bnd (Qdk x0.orders v) fun r=>br (neI r.2 0) (some false) (bnd (getI x0.orders v.order) fun x1=>br x1.off (some false) (bnd (QaL l.done v.order) fun r1=>br ((!v.drop)&&r1) (some false) (br v.drop (bnd (QaL l.open_ v.order) fun r2=>br r2 (bnd (getI x0.types l.type_) fun x2=>bnd (Qdj x2 x1.skills) fun r3=>br r3 (bnd (loopF (fun s=>QbW x0 l v x1 r1 s) 0) (fun e=>sel e (fun (_:Unit)=>bnd (loopF (fun s=>Qbt x0 l v x1 r1 s) 0) (fun e=>sel e (fun (_:Unit)=>some true) (fun r9=>some r9))) (fun r10=>some r10))) (some false)) (some false)) (bnd (getI x0.types l.type_) fun x5=>bnd (Qdj x5 x1.skills) fun r11=>br r11 (bnd (loopF (fun s=>QbX x0 l v x1 r1 s) 0) (fun e=>sel e (fun (_:Unit)=>bnd (loopF (fun s=>Qbu x0 l v x1 r1 s) 0) (fun e=>sel e (fun (_:Unit)=>some true) (fun r17=>some r17))) (fun r18=>some r18))) (some false)))))
noncomputable def QgQ (s0:Qap) (arrive:Int):Option (Int×Int):=br (gtI arrive s0.close) (some (0,14)) (br (ltI arrive s0.open_) (some (s0.open_,0)) (some (arrive,0)))
noncomputable def QeR (s0:Qap) (arrive:Int):Option (Int×Int):=bnd (QgQ s0 arrive) fun r=>br (neI r.2 0) (some (0,r.2)) (some ((addK .i64 r.1 s0.service),0))
noncomputable def QbJ (a:List Int) (b:List Int) (l:List Int) (i:Int):Option ((List Int×Int)⊕(List Int)):=br (ltI i (lenI a)) (bnd (getI a i) fun x0=>bnd (getI b i) fun x1=>chk (okN (l++[(addK .i64 x0 x1)]).length 8) (some (.inl ((l++[(addK .i64 x0 x1)]),(addK .i64 i 1))))) (some (.inr l))
noncomputable def QfB (a:List Int) (b:List Int):Option (List Int×Int):=br (neI (lenI a) (lenI b)) (some ([],2)) (bnd (loopF (fun s=>QbJ a b s.1 s.2) ([],0)) (fun l1=>some (l1,0)))
noncomputable def QbK (a:List Int) (b:List Int) (l:List Int) (i:Int):Option ((List Int×Int)⊕(List Int)):=br (ltI i (lenI a)) (bnd (getI a i) fun x0=>bnd (getI b i) fun x1=>chk (okN (l++[(subK .i64 x0 x1)]).length 8) (some (.inl ((l++[(subK .i64 x0 x1)]),(addK .i64 i 1))))) (some (.inr l))
noncomputable def QeE (a:List Int) (b:List Int):Option (List Int×Int):=br (neI (lenI a) (lenI b)) (some ([],2)) (bnd (loopF (fun s=>QbK a b s.1 s.2) ([],0)) (fun l1=>some (l1,0)))
noncomputable def Qb7 (x0:Qac) (l:Qaf) (v:Qab) (r1:Qap×Int) (r2:Int×Int×Int) (r3:Int×Int) (load:List Int) (r7:Int) (open_:Int):Option (List Qaf):=bnd (Qcu x0 (Qaf.mk l.type_ (l.visits++[v]) r1.1.place r3.1 (subK .i64 (addK .i64 l.driven r2.1) l.time) (addK .i64 l.miles r2.2.1) load (orK .i64 l.done r7) open_)) fun r10=>some r10
noncomputable def QbH (x0:Qac) (l:Qaf) (v:Qab) (x1:Qah) (x2:Qag) (r1:Qap×Int) (r2:Int×Int×Int) (r3:Int×Int) (load:List Int) (g:Int):Option (List Qaf):=br (neI g 0) (some []) (bnd (Qdh load x1.cap) fun r6=>br r6 (bnd (Qdc v.order) fun r7=>chk (okN l.visits.length 16) (chk (okN (l.visits++[v]).length 16) (br v.drop (bnd (Qdc v.order) fun r8=>Qb7 x0 l v r1 r2 r3 load r7 (subK .i64 l.open_ r8)) (br (geI x2.drop.place 0) (bnd (Qdc v.order) fun r9=>Qb7 x0 l v r1 r2 r3 load r7 (orK .i64 l.open_ r9)) (Qb7 x0 l v r1 r2 r3 load r7 l.open_))))) (some []))
noncomputable def Qcs (x0:Qac) (l:Qaf) (v:Qab):Option (List Qaf):=bnd (Qd6 x0 l v) fun r=>br r (bnd (getI x0.types l.type_) fun x1=>bnd (getI x0.orders v.order) fun x2=>bnd (Qdk x0.orders v) fun r1=>bnd (Qdi x0.net x1.profile l.place r1.1.place l.time) fun r2=>br ((neI r2.2.2 0)||(gtI (subK .i64 (addK .i64 l.driven r2.1) l.time) x1.drive)) (some []) (bnd (QeR r1.1 r2.1) fun r3=>br (neI r3.2 0) (some []) (bnd (QfB l.load x2.load) fun r4=>br v.drop (bnd (QeE l.load x2.load) fun r5=>QbH x0 l v x1 x2 r1 r2 r3 r5.1 r5.2) (QbH x0 l v x1 x2 r1 r2 r3 r4.1 r4.2)))) (some [])
noncomputable def QaS (x0:Qac) (w:QaC) (a:List Qad) (b:List Qaf) (i:Int) (k:Int):Option ((Int)⊕((Unit)⊕(Bool))):=br (ltI k (lenI a)) (bnd (getI a k) fun x1=>bnd (Qgp x0 x1) fun r5=>bnd (getI b k) fun x2=>bnd (Qfs x0 x2) fun r6=>br (((neI r5.1 r6.1)||(neI r5.2.1 r6.2.1))||(!eqB r5.2.2 r6.2.2)) (some (.inr (.inr false))) (bnd (getI a 0) fun x3=>bnd (Qd0 x1 x3) fun r7=>bnd (getI b 0) fun x4=>bnd (QdC x2 x4) fun r8=>br (eqB r7 r8) (some (.inl (addK .i64 k 1))) (some (.inr (.inr false))))) (some (.inr (.inl ())))
noncomputable def Qa5 (x0:Qac) (w:QaC) (a:List Qad) (b:List Qaf) (i:Int) (k1:Int):Option ((List Qad×List Qaf×Int)⊕(Bool)):=bnd (getI a k1) fun x6=>bnd (getI w.visits i) fun x7=>bnd (Qdw x0 x6 x7) fun r10=>bnd (getI b k1) fun x8=>bnd (Qcs x0 x8 x7) fun r11=>some (.inl (r10,r11,(addK .i64 i 1)))
noncomputable def QbR (x0:Qac) (w:QaC) (a:List Qad) (b:List Qaf) (i:Int):Option ((List Qad×List Qaf×Int)⊕(Bool)):=bnd (QfZ a b) fun r4=>br r4 (bnd (loopF (fun s=>QaS x0 w a b i s) 0) (fun e=>sel e (fun (_:Unit)=>br ((geI i (lenI w.visits))||(neI (lenI b) 2)) (br ((eqI (lenI b) 0)||(eqI (lenI b) 2)) (bnd (QbE) fun r9=>some (.inr r9)) (some (.inr false))) (br (ltI i (lenI w.rests)) (bnd (getI w.rests i) fun x5=>br x5 (Qa5 x0 w a b i 1) (Qa5 x0 w a b i 0)) (bnd (getI a 0) fun x9=>bnd (getI w.visits i) fun x10=>bnd (Qdw x0 x9 x10) fun r12=>bnd (getI b 0) fun x11=>bnd (Qcs x0 x11 x10) fun r13=>some (.inl (r12,r13,(addK .i64 i 1)))))) (fun r14=>some (.inr r14)))) (some (.inr false))
noncomputable def Qea (x0:Qac) (at_:Qar) (w:QaC):Option Bool:=bnd (QfA x0) fun r=>br ((!r)||(gtI (lenI w.visits) 12)) (bnd (QbE) fun r1=>some r1) (bnd (Qgq x0 at_.x0 at_.x1) fun r2=>bnd (Qft x0 at_.x0 at_.x1) fun r3=>bnd (loopF (fun s=>QbR x0 w s.1 s.2.1 s.2.2) (r2,r3,0)) (fun r15=>some r15))
noncomputable def QcI (x0:Qac) (v:Qab):Option (Qap×Bool):=br ((ltI v.order 0)||(geI v.order (lenI x0.orders))) (some ((Qap.mk 0 0 0 0),false)) (bnd (getI x0.orders v.order) fun x1=>br v.drop (some (x1.drop,(geI x1.drop.place 0))) (some (x1.pick,(geI x1.pick.place 0))))
noncomputable def Qa8 (x0:Qac) (r:Qaw) (i:Int):Option ((Int)⊕((Unit)⊕(Bool))):=br (ltI i (lenI r.visits)) (bnd (getI r.visits i) fun x1=>bnd (QcI x0 x1) fun r1=>br r1.2 (some (.inl (addK .i64 i 1))) (some (.inr (.inr false)))) (some (.inr (.inl ())))
noncomputable def Qc8 (x0:Qac) (r:Qaw):Option Bool:=br (((((ltI r.type_ 0)||(geI r.type_ (lenI x0.types)))||(ltI r.start 0))||(gtI r.start 4096))||(gtI (lenI r.visits) 20)) (some false) (bnd (loopF (fun s=>Qa8 x0 r s) 0) (fun e=>sel e (fun (_:Unit)=>some true) (fun r2=>some r2)))
noncomputable def QeY (t:Qah) (s0:Qat) (yes:Bool):Option Qat:=br yes (some (Qat.mk s0.place (addK .i64 s0.time t.rest_) 0 s0.miles)) (some s0)
noncomputable def Qjh (x0:Qac) (profile:Int) (from_:Int) (to_:Int) (t:Int):Option (Int×Int×Bool):=bnd (Qdi x0.net profile from_ to_ t) fun r=>some (r.1,r.2.1,(eqI r.2.2 0))
noncomputable def Qcf (x0:Qac) (t:Qah) (s0:Qat) (to_:Int) (close:Int) (late:Int):Option (Qat×Int):=bnd (Qjh x0 t.profile s0.place to_ s0.time) fun r=>br r.2.2 (br (gtI r.1 close) (some (s0,late)) (br (gtI (subK .i64 (addK .i64 s0.driven r.1) s0.time) t.drive) (some (s0,16)) (some ((Qat.mk to_ r.1 (subK .i64 (addK .i64 s0.driven r.1) s0.time) (addK .i64 s0.miles r.2.1)),0)))) (some (s0,12))
noncomputable def QdK (x0:Qac) (r:Qaw) (rests:List Bool) (x1:Qah) (x2:Bool) (l:List Int) (l1:List QaN) (x3:Qat) (depart:Int) (i:Int):Option ((List Int×List QaN×Qat×Int×Int)⊕((List Int×List QaN×Qat×Int)⊕(QaB×List Int×Int))):=br (ltI i (lenI r.visits)) (bnd (getI r.visits i) fun x4=>bnd (QcI x0 x4) fun r3=>bnd (Qcf x0 x1 x3 r3.1.place r3.1.close 14) fun r4=>br (neI r4.2 0) (some (.inr (.inr ((QaB.mk false 0 [] 0 0),[],r4.2)))) (chk (okN (l++[r4.1.driven]).length 8) (bnd (getI rests (addK .i64 i 1)) fun x5=>bnd (QeY x1 (Qat.mk r4.1.place (addK .i64 (maxI r4.1.time r3.1.open_) r3.1.service) r4.1.driven r4.1.miles) x5) fun r5=>chk (okN (l1++[(QaN.mk r4.1.time (maxI r4.1.time r3.1.open_) r5.time x5)]).length 32) (some (.inl ((l++[r4.1.driven]),(l1++[(QaN.mk r4.1.time (maxI r4.1.time r3.1.open_) r5.time x5)]),r5,depart,(addK .i64 i 1))))))) (some (.inr (.inl (l,l1,x3,depart))))
noncomputable def QfF (x0:Qac) (r:Qaw) (rests:List Bool):Option (QaB×List Int×Int):=bnd (Qc8 x0 r) fun r1=>br ((!r1)||(neI (lenI rests) (addK .i64 (lenI r.visits) 1))) (some ((QaB.mk false 0 [] 0 0),[],2)) (bnd (getI x0.types r.type_) fun x1=>bnd (getI rests 0) fun x2=>bnd (QeY x1 (Qat.mk x1.from_ (maxI x1.open_ r.start) 0 0) x2) fun r2=>bnd (loopF (fun s=>QdK x0 r rests x1 x2 s.1 s.2.1 s.2.2.1 s.2.2.2.1 s.2.2.2.2) ([],[],r2,r2.time,0)) (fun e=>sel e (fun e0=>(fun l2 l3 x6 depart1=>bnd (Qcf x0 x1 x6 x1.to_ x1.close 15) fun r6=>br (neI r6.2 0) (some ((QaB.mk false 0 [] 0 0),[],r6.2)) (chk (okN (l2++[r6.1.driven]).length 8) (some ((QaB.mk x2 depart1 l3 r6.1.time r6.1.miles),(l2++[r6.1.driven]),0)))) e0.1 e0.2.1 e0.2.2.1 e0.2.2.2) (fun r7=>some r7)))
noncomputable def QfE (x0:Qac) (r:Qaw) (rests:List Bool):Option (QaB×Int):=bnd (QfF x0 r rests) fun r1=>some (r1.1,r1.2.2)
noncomputable def QeP (x0:Qac) (m:Qad) (l:List Qab) (rests:List Bool):Option Bool:=bnd (Qgp x0 m) fun r=>br r.2.2 (bnd (QfE x0 (Qaw.mk m.type_ 0 [] l) rests) fun r1=>some (((eqI r1.2 0)&&(eqI r1.1.end_ r.1))&&(geI r1.1.miles m.miles))) (some true)
noncomputable def QbB (x0:Qac) (w:QaC) (m:List Qad) (i:Int) (k:Int):Option ((List Qad×Int)⊕((Unit)⊕(Bool))):=br (eqI i (lenI w.visits)) (bnd (getI m k) fun x2=>bnd (QeP x0 x2 w.visits w.rests) fun r4=>br r4 (bnd (QbE) fun r5=>some (.inr (.inr r5))) (some (.inr (.inr false)))) (bnd (getI m k) fun x3=>bnd (getI w.visits i) fun x4=>bnd (Qdw x0 x3 x4) fun r6=>some (.inl (r6,(addK .i64 i 1))))
noncomputable def QbC (x0:Qac) (w:QaC) (m:List Qad) (i:Int):Option ((List Qad×Int)⊕((Unit)⊕(Bool))):=br (leI i (lenI w.visits)) (br (neI (lenI m) 2) (br (eqI (lenI m) 0) (bnd (QbE) fun r3=>some (.inr (.inr r3))) (some (.inr (.inr false)))) (bnd (getI w.rests i) fun x1=>br x1 (QbB x0 w m i 1) (QbB x0 w m i 0))) (some (.inr (.inl ())))
noncomputable def QdO (x0:Qac) (at_:Qar) (w:QaC):Option Bool:=bnd (QfA x0) fun r=>br (((!r)||(gtI (lenI w.visits) 12))||(neI (lenI w.rests) (addK .i64 (lenI w.visits) 1))) (bnd (QbE) fun r1=>some r1) (bnd (Qgq x0 at_.x0 at_.x1) fun r2=>bnd (loopF (fun s=>QbC x0 w s.1 s.2) (r2,0)) (fun e=>sel e (fun (_:Unit)=>bnd (QbE) fun r7=>some r7) (fun r8=>some r8)))
end Go.Proofs.YtfjiafgldchinaaGreatDoor
namespace Go.Proofs.YtfjiafgldchinaaGreatDoor
set_option linter.unusedVariables false
set_option linter.unusedSectionVars false
set_option linter.unusedSimpArgs false
open Go.RowKit
variable {N : Nat}
theorem oq_9:Opens Tryz.prog N 9 (rdE 1 e_str (fun s:ByteArray=>s.size≤N) (fun _=>rfl)):=QyO Tryz.underlying9 (by kernel_rfl)
theorem oq_22:Opens Tryz.prog N 22 (rdE 1 (fun l:List ByteArray=>[.sl false 1 (l.map e_str)]) (fun l:List (ByteArray)=>l.length≤N∧∀ x∈l,(fun s:ByteArray=>s.size≤N) x) (fun _=>rfl)):=QlS Tryz.underlying22 (by kernel_rfl) oq_9 (by decide)
theorem oq_3:Opens Tryz.prog N 3 (rdE 1 e_i64 isI (fun _=>rfl)):=QyN Tryz.underlying3 (by kernel_rfl)
def Qaj.ok (N:Nat) (x:Qaj):Prop:=isI x.t∧isI x.a∧True
theorem oq_74:Opens Tryz.prog N 74 (rdE 2 Qaj.enc (Qaj.ok N) (fun _=>rfl)):=Qji Tryz.underlying74 (by kernel_rfl) (.cons rfl oq_3 (.cons rfl oq_3 .nil)) rfl (HE.pair HE.rd (HE.pair HE.rd HE.unit)) (fun a=>⟨a.1,a.2.1⟩) (fun _=>rfl) (fun _ h=>h)
theorem oq_75:Opens Tryz.prog N 75 (rdE 1 (fun l:List Qaj=>[.sl false 2 (l.map Qaj.enc)]) (fun l:List (Qaj)=>l.length≤N∧∀ x∈l,(Qaj.ok N) x) (fun _=>rfl)):=QlS Tryz.underlying75 (by kernel_rfl) oq_74 (by decide)
def Qan.ok (N:Nat) (x:Qan):Prop:=isI x.from_∧isI x.to_∧isI x.profile∧isI x.miles∧(fun l:List (Qaj)=>l.length≤N∧∀ x∈l,(Qaj.ok N) x) x.travel∧(fun l:List (Qaj)=>l.length≤N∧∀ x∈l,(Qaj.ok N) x) x.slow∧True
theorem oq_77:Opens Tryz.prog N 77 (rdE 6 Qan.enc (Qan.ok N) (fun _=>rfl)):=Qji Tryz.underlying77 (by kernel_rfl) (.cons rfl oq_3 (.cons rfl oq_3 (.cons rfl oq_3 (.cons rfl oq_3 (.cons rfl oq_75 (.cons rfl oq_75 .nil)))))) rfl (HE.pair HE.rd (HE.pair HE.rd (HE.pair HE.rd (HE.pair HE.rd (HE.pair HE.rd (HE.pair HE.rd HE.unit)))))) (fun a=>⟨a.1,a.2.1,a.2.2.1,a.2.2.2.1,a.2.2.2.2.1,a.2.2.2.2.2.1⟩) (fun _=>rfl) (fun _ h=>h)
theorem oq_23:Opens Tryz.prog N 23 (rdE 1 (fun l:List Qan=>[.sl false 6 (l.map Qan.enc)]) (fun l:List (Qan)=>l.length≤N∧∀ x∈l,(Qan.ok N) x) (fun _=>rfl)):=QlS Tryz.underlying23 (by kernel_rfl) oq_77 (by decide)
def Qak.ok (N:Nat) (x:Qak):Prop:=(fun l:List (ByteArray)=>l.length≤N∧∀ x∈l,(fun s:ByteArray=>s.size≤N) x) x.places∧(fun l:List (Qan)=>l.length≤N∧∀ x∈l,(Qan.ok N) x) x.arcs∧True
theorem oq_25:Opens Tryz.prog N 25 (rdE 2 Qak.enc (Qak.ok N) (fun _=>rfl)):=Qji Tryz.underlying25 (by kernel_rfl) (.cons rfl oq_22 (.cons rfl oq_23 .nil)) rfl (HE.pair HE.rd (HE.pair HE.rd HE.unit)) (fun a=>⟨a.1,a.2.1⟩) (fun _=>rfl) (fun _ h=>h)
theorem oq_45:Opens Tryz.prog N 45 (rdE 1 (fun l:List Int=>[.sl false 1 (l.map e_i64)]) (fun l:List (Int)=>l.length≤N∧∀ x∈l,isI x) (fun _=>rfl)):=QlS Tryz.underlying45 (by kernel_rfl) oq_3 (by decide)
def Qah.ok (N:Nat) (x:Qah):Prop:=(fun s:ByteArray=>s.size≤N) x.name∧isI x.count∧isI x.from_∧isI x.to_∧(fun l:List (Int)=>l.length≤N∧∀ x∈l,isI x) x.cap∧isI x.skills∧isI x.profile∧isI x.open_∧isI x.close∧isI x.drive∧isI x.rest_∧isI x.fixed∧isI x.perMile∧isI x.perTick∧True
theorem oq_79:Opens Tryz.prog N 79 (rdE 14 Qah.enc (Qah.ok N) (fun _=>rfl)):=Qji Tryz.underlying79 (by kernel_rfl) (.cons rfl oq_9 (.cons rfl oq_3 (.cons rfl oq_3 (.cons rfl oq_3 (.cons rfl oq_45 (.cons rfl oq_3 (.cons rfl oq_3 (.cons rfl oq_3 (.cons rfl oq_3 (.cons rfl oq_3 (.cons rfl oq_3 (.cons rfl oq_3 (.cons rfl oq_3 (.cons rfl oq_3 .nil)))))))))))))) rfl (HE.pair HE.rd (HE.pair HE.rd (HE.pair HE.rd (HE.pair HE.rd (HE.pair HE.rd (HE.pair HE.rd (HE.pair HE.rd (HE.pair HE.rd (HE.pair HE.rd (HE.pair HE.rd (HE.pair HE.rd (HE.pair HE.rd (HE.pair HE.rd (HE.pair HE.rd HE.unit)))))))))))))) (fun a=>⟨a.1,a.2.1,a.2.2.1,a.2.2.2.1,a.2.2.2.2.1,a.2.2.2.2.2.1,a.2.2.2.2.2.2.1,a.2.2.2.2.2.2.2.1,a.2.2.2.2.2.2.2.2.1,a.2.2.2.2.2.2.2.2.2.1,a.2.2.2.2.2.2.2.2.2.2.1,a.2.2.2.2.2.2.2.2.2.2.2.1,a.2.2.2.2.2.2.2.2.2.2.2.2.1,a.2.2.2.2.2.2.2.2.2.2.2.2.2.1⟩) (fun _=>rfl) (fun _ h=>h)
theorem oq_26:Opens Tryz.prog N 26 (rdE 1 (fun l:List Qah=>[.sl false 14 (l.map Qah.enc)]) (fun l:List (Qah)=>l.length≤N∧∀ x∈l,(Qah.ok N) x) (fun _=>rfl)):=QlS Tryz.underlying26 (by kernel_rfl) oq_79 (by decide)
def Qap.ok (N:Nat) (x:Qap):Prop:=isI x.place∧isI x.open_∧isI x.close∧isI x.service∧True
theorem oq_81:Opens Tryz.prog N 81 (rdE 4 Qap.enc (Qap.ok N) (fun _=>rfl)):=Qji Tryz.underlying81 (by kernel_rfl) (.cons rfl oq_3 (.cons rfl oq_3 (.cons rfl oq_3 (.cons rfl oq_3 .nil)))) rfl (HE.pair HE.rd (HE.pair HE.rd (HE.pair HE.rd (HE.pair HE.rd HE.unit)))) (fun a=>⟨a.1,a.2.1,a.2.2.1,a.2.2.2.1⟩) (fun _=>rfl) (fun _ h=>h)
theorem oq_4:Opens Tryz.prog N 4 (rdE 1 QgD (fun _:Bool=>True) (fun _=>rfl)):=Qyk Tryz.underlying4 (by kernel_rfl)
def Qag.ok (N:Nat) (x:Qag):Prop:=(fun s:ByteArray=>s.size≤N) x.name∧(fun l:List (Int)=>l.length≤N∧∀ x∈l,isI x) x.load∧(Qap.ok N) x.pick∧(Qap.ok N) x.drop∧isI x.skills∧isI x.penalty∧isI x.split∧isI x.last_∧isI x.now∧(fun _:Bool=>True) x.off∧True
theorem oq_83:Opens Tryz.prog N 83 (rdE 16 Qag.enc (Qag.ok N) (fun _=>rfl)):=Qji Tryz.underlying83 (by kernel_rfl) (.cons rfl oq_9 (.cons rfl oq_45 (.cons rfl oq_81 (.cons rfl oq_81 (.cons rfl oq_3 (.cons rfl oq_3 (.cons rfl oq_3 (.cons rfl oq_3 (.cons rfl oq_3 (.cons rfl oq_4 .nil)))))))))) rfl (HE.pair HE.rd (HE.pair HE.rd (HE.pair HE.rd (HE.pair HE.rd (HE.pair HE.rd (HE.pair HE.rd (HE.pair HE.rd (HE.pair HE.rd (HE.pair HE.rd (HE.pair HE.rd HE.unit)))))))))) (fun a=>⟨a.1,a.2.1,a.2.2.1,a.2.2.2.1,a.2.2.2.2.1,a.2.2.2.2.2.1,a.2.2.2.2.2.2.1,a.2.2.2.2.2.2.2.1,a.2.2.2.2.2.2.2.2.1,a.2.2.2.2.2.2.2.2.2.1⟩) (fun _=>rfl) (fun _ h=>h)
theorem oq_27:Opens Tryz.prog N 27 (rdE 1 (fun l:List Qag=>[.sl false 16 (l.map Qag.enc)]) (fun l:List (Qag)=>l.length≤N∧∀ x∈l,(Qag.ok N) x) (fun _=>rfl)):=QlS Tryz.underlying27 (by kernel_rfl) oq_83 (by decide)
def Qar.ok (N:Nat) (x:Qar):Prop:=isI x.x0∧isI x.x1
theorem oq_31:Opens Tryz.prog N 31 (rdE 2 Qar.enc (Qar.ok N) (fun _=>rfl)):=Qwt Tryz.underlying31 (by kernel_rfl) oq_3 rfl (fun a b=>⟨a,b⟩) (fun _ _=>rfl) (fun _ _ h h2=>⟨h,h2⟩)
theorem oq_28:Opens Tryz.prog N 28 (rdE 1 (fun l:List Qar=>[.sl false 2 (l.map Qar.enc)]) (fun l:List (Qar)=>l.length≤N∧∀ x∈l,(Qar.ok N) x) (fun _=>rfl)):=QlS Tryz.underlying28 (by kernel_rfl) oq_31 (by decide)
def Qac.ok (N:Nat) (x:Qac):Prop:=(Qak.ok N) x.net∧(fun l:List (Qah)=>l.length≤N∧∀ x∈l,(Qah.ok N) x) x.types∧(fun l:List (Qag)=>l.length≤N∧∀ x∈l,(Qag.ok N) x) x.orders∧(fun l:List (Qar)=>l.length≤N∧∀ x∈l,(Qar.ok N) x) x.apart∧(fun l:List (Qar)=>l.length≤N∧∀ x∈l,(Qar.ok N) x) x.before∧True
theorem oq_30:Opens Tryz.prog N 30 (rdE 6 Qac.enc (Qac.ok N) (fun _=>rfl)):=Qji Tryz.underlying30 (by kernel_rfl) (.cons rfl oq_25 (.cons rfl oq_26 (.cons rfl oq_27 (.cons rfl oq_28 (.cons rfl oq_28 .nil))))) rfl (HE.pair HE.rd (HE.pair HE.rd (HE.pair HE.rd (HE.pair HE.rd (HE.pair HE.rd HE.unit))))) (fun a=>⟨a.1,a.2.1,a.2.2.1,a.2.2.2.1,a.2.2.2.2.1⟩) (fun _=>rfl) (fun _ h=>h)
def Qab.ok (N:Nat) (x:Qab):Prop:=isI x.order∧(fun _:Bool=>True) x.drop∧True
theorem oq_54:Opens Tryz.prog N 54 (rdE 2 Qab.enc (Qab.ok N) (fun _=>rfl)):=Qji Tryz.underlying54 (by kernel_rfl) (.cons rfl oq_3 (.cons rfl oq_4 .nil)) rfl (HE.pair HE.rd (HE.pair HE.rd HE.unit)) (fun a=>⟨a.1,a.2.1⟩) (fun _=>rfl) (fun _ h=>h)
theorem oq_32:Opens Tryz.prog N 32 (rdE 1 (fun l:List Qab=>[.sl false 2 (l.map Qab.enc)]) (fun l:List (Qab)=>l.length≤N∧∀ x∈l,(Qab.ok N) x) (fun _=>rfl)):=QlS Tryz.underlying32 (by kernel_rfl) oq_54 (by decide)
theorem oq_33:Opens Tryz.prog N 33 (rdE 1 (fun l:List Bool=>[.sl false 1 (l.map QgD)]) (fun l:List (Bool)=>l.length≤N∧∀ x∈l,(fun _:Bool=>True) x) (fun _=>rfl)):=QlS Tryz.underlying33 (by kernel_rfl) oq_4 (by decide)
def QaC.ok (N:Nat) (x:QaC):Prop:=(fun l:List (Qab)=>l.length≤N∧∀ x∈l,(Qab.ok N) x) x.visits∧(fun l:List (Bool)=>l.length≤N∧∀ x∈l,(fun _:Bool=>True) x) x.rests∧True
theorem oq_35:Opens Tryz.prog N 35 (rdE 2 QaC.enc (QaC.ok N) (fun _=>rfl)):=Qji Tryz.underlying35 (by kernel_rfl) (.cons rfl oq_32 (.cons rfl oq_33 .nil)) rfl (HE.pair HE.rd (HE.pair HE.rd HE.unit)) (fun a=>⟨a.1,a.2.1⟩) (fun _=>rfl) (fun _ h=>h)
end Go.Proofs.YtfjiafgldchinaaGreatDoor
