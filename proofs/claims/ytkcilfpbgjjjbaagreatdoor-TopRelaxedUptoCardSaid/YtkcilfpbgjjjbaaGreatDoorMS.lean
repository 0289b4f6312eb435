/- Part MS. -/
import Derived.Test.YtkcilfpbgjjjbaaGreatDoorMI
import Derived.Shelf.LaysM
import Derived.Shelf.Lays7
import Derived.Shelf.Strconv.Itoa3
import Derived.Shelf.Strings.Search2
import Derived.Shelf.Small.Strs
import Derived.Shelf.Strings.BuilderK
import Derived.Shelf.Spec.TrailingZeros
import Derived.Test.YtkcilfpbgjjjbaaGreatDoorProg
import Derived.Test.YtkcilfpbgjjjbaaGreatDoorMC
import Derived.Test.YtkcilfpbgjjjbaaGreatDoorMT
import Derived.LoopN
import Derived.StillTailTactics
import Derived.Lib.ItoaLen
import Derived.Shelf.Lays
import Derived.Shelf.Strings.Repeat
import Derived.Deep.LoopGhost
import Derived.Test.YtkcilfpbgjjjbaaGreatDoorRows
import Derived.Lib.LaidTab
import Derived.MakeChecks
import Derived.Stop.LaidErr
set_option linter.unusedSimpArgs false
set_option linter.unusedVariables false
set_option linter.unusedSectionVars false
namespace Go.Proofs.YtkcilfpbgjjjbaaGreatDoor
section
open Go.Shelf
set_option maxRecDepth 100000
def Xd:Go.Shelf.Ren:=⟨λ|171=>101|243=>173|246=>223|283=>261|284=>262|285=>263|286=>264|129=>241|317=>295|318=>296|319=>297|320=>192|337=>242|338=>243|n=>n,λ|3=>3|9=>9|2=>2|4=>4|171=>341|0=>0|53=>326|37=>229|5=>5|173=>343|212=>383|51=>324|20=>20|213=>384|46=>167|232=>356|233=>357|n=>n,λ|17=>3|18=>1|19=>2|n=>n⟩
theorem Zq:Go.Proofs.LaysM.n171 Tryz.prog Xd:={
 mixed:=by kernel_rfl,
 f129:=Tryz.func241.trans (QaB some (by kernel_rfl)),
 f171:=Tryz.func101.trans (QaB some (by kernel_rfl)),
 f243:=Tryz.func173.trans (QaB some (by kernel_rfl)),
 f246:=Tryz.func223.trans (QaB some (by kernel_rfl)),
 f283:=Tryz.func261.trans (QaB some (by kernel_rfl)),
 f284:=Tryz.func262.trans (QaB some (by kernel_rfl)),
 f285:=Tryz.func263.trans (QaB some (by kernel_rfl)),
 f286:=Tryz.func264.trans (QaB some (by kernel_rfl)),
 f317:=Tryz.func295.trans (QaB some (by kernel_rfl)),
 f318:=Tryz.func296.trans (QaB some (by kernel_rfl)),
 f319:=Tryz.func297.trans (QaB some (by kernel_rfl)),
 f320:=Tryz.func192.trans (QaB some (by kernel_rfl)),
 f337:=Tryz.func242.trans (QaB some (by kernel_rfl)),
 f338:=Tryz.func243.trans (QaB some (by kernel_rfl)),
 t0:=Tryz.underlying0,
 a0:=Tryz.isAgg0,
 z0:=Tryz.sizeOf0,
 v0:=Tryz.zeroValue0,
 t2:=Tryz.underlying2,
 a2:=Tryz.isAgg2,
 z2:=Tryz.sizeOf2,
 v2:=Tryz.zeroValue2,
 t3:=Tryz.underlying3,
 a3:=Tryz.isAgg3,
 z3:=Tryz.sizeOf3,
 v3:=Tryz.zeroValue3,
 t4:=Tryz.underlying4,
 a4:=Tryz.isAgg4,
 z4:=Tryz.sizeOf4,
 v4:=Tryz.zeroValue4,
 t5:=Tryz.underlying5,
 a5:=Tryz.isAgg5,
 z5:=Tryz.sizeOf5,
 v5:=Tryz.zeroValue5,
 t9:=Tryz.underlying9,
 a9:=Tryz.isAgg9,
 z9:=Tryz.sizeOf9,
 v9:=Tryz.zeroValue9,
 t20:=Tryz.underlying20,
 a20:=Tryz.isAgg20,
 z20:=Tryz.sizeOf20,
 v20:=Tryz.zeroValue20,
 t37:=Tryz.underlying229,
 a37:=Tryz.isAgg229,
 z37:=Tryz.sizeOf229,
 v37:=Tryz.zeroValue229,
 t46:=Tryz.underlying167,
 a46:=Tryz.isAgg167,
 z46:=Tryz.sizeOf167,
 v46:=Tryz.zeroValue167,
 t51:=Tryz.underlying324,
 a51:=Tryz.isAgg324,
 z51:=Tryz.sizeOf324,
 v51:=Tryz.zeroValue324,
 t53:=Tryz.underlying326,
 a53:=Tryz.isAgg326,
 z53:=Tryz.sizeOf326,
 v53:=Tryz.zeroValue326,
 t171:=Tryz.underlying341,
 a171:=Tryz.isAgg341,
 z171:=Tryz.sizeOf341,
 v171:=Tryz.zeroValue341,
 t173:=Tryz.underlying343,
 a173:=Tryz.isAgg343,
 z173:=Tryz.sizeOf343,
 v173:=Tryz.zeroValue343,
 t212:=Tryz.underlying383,
 a212:=Tryz.isAgg383,
 z212:=Tryz.sizeOf383,
 v212:=Tryz.zeroValue383,
 t213:=Tryz.underlying384,
 a213:=Tryz.isAgg384,
 z213:=Tryz.sizeOf384,
 t232:=Tryz.underlying356,
 a232:=Tryz.isAgg356,
 z232:=Tryz.sizeOf356,
 v232:=Tryz.zeroValue356,
 t233:=Tryz.underlying357,
 a233:=Tryz.isAgg357,
 z233:=Tryz.sizeOf357,
 v233:=Tryz.zeroValue357,
 g17:=by kernel_rfl,
 g18:=by kernel_rfl,
 g19:=by kernel_rfl,
 i0:=by kernel_rfl,
 i2:=by kernel_rfl,
 i3:=by kernel_rfl,
 i4:=by kernel_rfl,
 i5:=by kernel_rfl,
 i9:=by kernel_rfl,
 i20:=by kernel_rfl,
 i37:=by kernel_rfl,
 i46:=by kernel_rfl,
 i51:=by kernel_rfl,
 i53:=by kernel_rfl,
 i171:=by kernel_rfl,
 i173:=by kernel_rfl,
 i212:=by kernel_rfl,
 i232:=by kernel_rfl,
 i233:=by kernel_rfl,
 m17:=by kernel_rfl,
 m18:=by kernel_rfl,
 m19:=by kernel_rfl}
def Ug:Go.Shelf.Ren:=⟨λ|219=>208|217=>247|225=>248|224=>249|267=>250|266=>276|314=>277|n=>n,λ|9=>9|3=>3|4=>4|5=>5|46=>167|146=>358|51=>324|n=>n,λ|1=>0|n=>n⟩
theorem Qe_:Go.Proofs.Lays.n219 Tryz.prog Ug:={
 mixed:=by kernel_rfl,
 f217:=Tryz.func247.trans (QaB some (by kernel_rfl)),
 f219:=Tryz.func208.trans (QaB some (by kernel_rfl)),
 f224:=Tryz.func249.trans (QaB some (by kernel_rfl)),
 f225:=Tryz.func248.trans (QaB some (by kernel_rfl)),
 f266:=Tryz.func276.trans (QaB some (by kernel_rfl)),
 f267:=Tryz.func250.trans (QaB some (by kernel_rfl)),
 f314:=Tryz.func277.trans (QaB some (by kernel_rfl)),
 t3:=Tryz.underlying3,
 a3:=Tryz.isAgg3,
 z3:=Tryz.sizeOf3,
 v3:=Tryz.zeroValue3,
 t4:=Tryz.underlying4,
 a4:=Tryz.isAgg4,
 z4:=Tryz.sizeOf4,
 v4:=Tryz.zeroValue4,
 t5:=Tryz.underlying5,
 a5:=Tryz.isAgg5,
 z5:=Tryz.sizeOf5,
 v5:=Tryz.zeroValue5,
 t9:=Tryz.underlying9,
 a9:=Tryz.isAgg9,
 z9:=Tryz.sizeOf9,
 v9:=Tryz.zeroValue9,
 t46:=Tryz.underlying167,
 a46:=Tryz.isAgg167,
 z46:=Tryz.sizeOf167,
 v46:=Tryz.zeroValue167,
 t51:=Tryz.underlying324,
 a51:=Tryz.isAgg324,
 z51:=Tryz.sizeOf324,
 v51:=Tryz.zeroValue324,
 t146:=Tryz.underlying358,
 a146:=Tryz.isAgg358,
 z146:=Tryz.sizeOf358,
 v146:=Tryz.zeroValue358,
 g1:=by kernel_rfl}
def Zp:Go.Shelf.Ren:=⟨λ|106=>181|213=>229|265=>270|n=>n,λ|9=>9|3=>3|n=>n,λ|n=>n⟩
theorem Qkz:Go.Proofs.Lays.n106 Tryz.prog Zp:={
 mixed:=by kernel_rfl,
 f106:=Tryz.func181.trans (QaB some (by kernel_rfl)),
 f213:=Tryz.func229.trans (QaB some (by kernel_rfl)),
 f265:=Tryz.func270.trans (QaB some (by kernel_rfl)),
 t3:=Tryz.underlying3,
 a3:=Tryz.isAgg3,
 z3:=Tryz.sizeOf3,
 v3:=Tryz.zeroValue3,
 t9:=Tryz.underlying9,
 a9:=Tryz.isAgg9,
 z9:=Tryz.sizeOf9,
 v9:=Tryz.zeroValue9}
def Ln:Go.Shelf.Ren:=⟨λ|166=>225|240=>265|276=>298|n=>n,λ|70=>303|9=>9|3=>3|75=>307|0=>0|72=>305|37=>229|4=>4|164=>385|80=>189|5=>5|n=>n,λ|n=>n⟩
theorem Pb:Go.Proofs.Lays.n166 Tryz.prog Ln:={
 mixed:=by kernel_rfl,
 f166:=Tryz.func225.trans (QaB some (by kernel_rfl)),
 f240:=Tryz.func265.trans (QaB some (by kernel_rfl)),
 f276:=Tryz.func298.trans (QaB some (by kernel_rfl)),
 t0:=Tryz.underlying0,
 a0:=Tryz.isAgg0,
 z0:=Tryz.sizeOf0,
 v0:=Tryz.zeroValue0,
 t3:=Tryz.underlying3,
 a3:=Tryz.isAgg3,
 z3:=Tryz.sizeOf3,
 v3:=Tryz.zeroValue3,
 t4:=Tryz.underlying4,
 a4:=Tryz.isAgg4,
 z4:=Tryz.sizeOf4,
 v4:=Tryz.zeroValue4,
 t9:=Tryz.underlying9,
 a9:=Tryz.isAgg9,
 z9:=Tryz.sizeOf9,
 v9:=Tryz.zeroValue9,
 t20:=Tryz.underlying20,
 a20:=Tryz.isAgg20,
 z20:=Tryz.sizeOf20,
 v20:=Tryz.zeroValue20,
 t37:=Tryz.underlying229,
 a37:=Tryz.isAgg229,
 z37:=Tryz.sizeOf229,
 v37:=Tryz.zeroValue229,
 t70:=Tryz.underlying303,
 a70:=Tryz.isAgg303,
 z70:=Tryz.sizeOf303,
 v70:=Tryz.zeroValue303,
 t72:=Tryz.underlying305,
 a72:=Tryz.isAgg305,
 z72:=Tryz.sizeOf305,
 v72:=Tryz.zeroValue305,
 t75:=Tryz.underlying307,
 a75:=Tryz.isAgg307,
 z75:=Tryz.sizeOf307,
 v75:=Tryz.zeroValue307,
 t164:=Tryz.underlying385,
 a164:=Tryz.isAgg385,
 z164:=Tryz.sizeOf385,
 v164:=Tryz.zeroValue385}
def IN:Go.Shelf.Ren:=⟨λ|169=>227|n=>n,λ|70=>303|9=>9|0=>0|72=>305|37=>229|127=>349|3=>3|5=>5|n=>n,λ|n=>n⟩
theorem QbP:Go.Proofs.Lays.n169 Tryz.prog IN:={
 mixed:=by kernel_rfl,
 f169:=Tryz.func227.trans (QaB some (by kernel_rfl)),
 t0:=Tryz.underlying0,
 a0:=Tryz.isAgg0,
 z0:=Tryz.sizeOf0,
 v0:=Tryz.zeroValue0,
 t3:=Tryz.underlying3,
 a3:=Tryz.isAgg3,
 z3:=Tryz.sizeOf3,
 v3:=Tryz.zeroValue3,
 t9:=Tryz.underlying9,
 a9:=Tryz.isAgg9,
 z9:=Tryz.sizeOf9,
 v9:=Tryz.zeroValue9,
 t37:=Tryz.underlying229,
 a37:=Tryz.isAgg229,
 z37:=Tryz.sizeOf229,
 v37:=Tryz.zeroValue229,
 t70:=Tryz.underlying303,
 a70:=Tryz.isAgg303,
 z70:=Tryz.sizeOf303,
 v70:=Tryz.zeroValue303,
 t72:=Tryz.underlying305,
 a72:=Tryz.isAgg305,
 z72:=Tryz.sizeOf305,
 v72:=Tryz.zeroValue305,
 t127:=Tryz.underlying349,
 a127:=Tryz.isAgg349,
 z127:=Tryz.sizeOf349,
 v127:=Tryz.zeroValue349}
end
section
open Go.RowKit
theorem Qeb:(3,(Go.Lib.pow10Tab.map λz=>Value.int .u64 z).toArray)∈UB:=.head _
theorem BB{P:Program}{f:FuncId}{args:List Cm}{r:AV}(hk:Ij P f=true)
  (h:∀ (w:World) (M0:Nat->Prop) (U:Pl) (iM:List Value),(∀ b cs,(b,cs)∈UB->∃ t s,w.heap[b]?=some (.cells cs t s))->Rs (CR w M0 U) args iM ->
   Calls P f iM.toArray w λe w'=>∃v,e=.returned v/\AR w' M0 U r v/\Below w.heap.size w w'):dK P f args [] r []:=by
 refine⟨hk,λw U M0 iM hW hφ hA=>(h w M0 U iM (λb cs hb=>(hW.tab b cs hb).2.2) hA).mono ?_⟩
 rintro e w' ⟨v,rfl,hr,hb⟩;have hh:hl []=λid=>([]:List Ob)[id]?:=by funext id;simp [hl]
 exact⟨v,U,M0,rfl,hr,by rw[hh];exact hW.grow hb,hφ⟩
section
variable {w : World} {M : Nat -> Prop} {U : Pl}
theorem Wz{s:I}{v:Value}(h:CR w M U (.one (.str s)) v):v=.string s:=by
 have h':IR w M (.str s) v:=h;cases h';rfl
theorem Qmp{k:IntKind}{n:Int}{v:Value}(h:CR w M U (.one (.int k n)) v):v=.int k n:=by
 have h':IR w M (.int k n) v:=h;cases h';rfl
end
theorem Zo{w:World}(h:∃t s,w.heap[3]?=some (.cells (Go.Lib.pow10Tab.map λz=>Value.int .u64 z).toArray t s)):Go.Lib.TabIs Tryz.prog w "internal/strconv.uint64pow10" .u64 Go.Lib.pow10Tab:=by
 obtain⟨t,s,h⟩:=h;unfold Go.Lib.TabIs World.var?;rw[show Tryz.prog.globalNamed "internal/strconv.uint64pow10"=some 3 by kernel_rfl]
 simp only[Qjj,h]
theorem Xb{n:Int}{rv:I}(h:zk n=some rv):dK Tryz.prog 101 [.one (.int .i64 n)] [] (.cm (.one (.str rv))) []:=by
 by_cases hn:0<=n/\n<=9223372036854775807
 case neg=>unfold zk at h;rw[if_neg hn]at h;cases h
 rw[IJ hn]at h;obtain rfl:=QaL h;refine BB (by kernel_rfl) λw M0 U iM ht hA=>?_
 match iM,hA with
 | [v],⟨r0,_⟩ =>
  obtain rfl:=Qmp r0;refine Calls.mono (Any.strconv_Itoa Zq n (by omega) hn.2 w (Zo (ht _ _ Qeb))) ?_
  rintro e w' ⟨rfl,k,os,rfl⟩;exact⟨_,rfl,IR.lr (U:=U) (IR.str _),⟨rfl,rfl,rfl,by simp [Go.Sort.grow],λb hb=>Go.Sort.heap_grow_old _ _ hb⟩⟩
theorem W9{a b:I}{rv:Int}(h:Qh1 a b=some rv):dK Tryz.prog 208 [.one (.str a),.one (.str b)] [] (.cm (.one (.int .i64 rv))) []:=by
 unfold Qh1 at h;split at h
 ·rename_i c hc;obtain rfl:=QaL h;refine BB (by kernel_rfl) λw M0 U iM ht hA=>?_
  match iM,hA with
  | [v1,v2],⟨r1,r2,_⟩ =>
   obtain rfl:=Wz r1;obtain rfl:=Wz r2;have hb:b=⟨#[c]⟩:=by
    cases b with|mk d=>cases d with|mk l=>exact QaB (λl=>ByteArray.mk ⟨l⟩) hc
   subst hb;refine Calls.mono (Any.stringslite_Index_one Qe_ a c w) ?_
   rintro e w' ⟨rfl,rfl⟩;exact⟨_,rfl,IR.lr (U:=U) (IR.int _ _),Below.refl _ _⟩
 ·cases h
theorem QjX{a b:I}{rv:Int}(h:Qo2 a b=some rv):dK Tryz.prog 181 [.one (.str a),.one (.str b)] [] (.cm (.one (.int .i64 rv))) []:=by
 obtain rfl:=QaL h;refine BB (by kernel_rfl) λw M0 U iM ht hA=>?_
 match iM,hA with
 | [v1,v2],⟨r1,r2,_⟩ =>
  obtain rfl:=Wz r1;obtain rfl:=Wz r2;refine Calls.mono (Any.strings_Compare Qkz a b w) ?_
  rintro e w' ⟨rfl,rfl⟩;exact⟨_,rfl,IR.lr (U:=U) (IR.int _ _),Below.refl _ _⟩
section
open Go.Lib Go.Sort
theorem Qc4(x y:Int):gw x y=some (Lib.compareInt x y):=by
 unfold gw rz Lib.compareInt;have e1:cp x x=false:=by simp [cp]
 have e2:cp y y=false:=by simp [cp]
 rw[e1,e2];show br (bh x y) _ _=_;by_cases h1:x<y
 ·rw[bk (by simpa [bh]using h1),if_pos h1]
 ·rw[aR (by simpa [bh]using h1),if_neg h1]
  by_cases h2:x>y
  ·rw[bk (by simpa [dt]using h2),if_pos h2]
  ·rw[aR (by simpa [dt]using h2),if_neg h2]
end
end
section
open Go.RowKit
set_option maxHeartbeats 1000000 in
set_option maxRecDepth 100000 in
theorem Qnp(A:O Addr)(n cap:Nat)(f:Value)(w:World)(hn:n<=1):Calls Tryz.prog 147 #[.slice A n cap,.int .i64 0,.int .i64 n,f] w λe w'=>e=.returned (.tuple #[])/\w'=w:=by
 have h1:¬((1:Int)<(n:Int)):=by omega
 go_enter Tryz.func147,Tryz.ntmps147
 go_wp2
 refine wp_loop_rounds 1 ?_
 rw[rounds_succ]
 go_wp2
 go_end0
 exact⟨rfl,rfl⟩
set_option maxHeartbeats 1000000 in
set_option maxRecDepth 100000 in
theorem QqQ(A:O Addr)(n cap:Nat)(f:Value)(w:World)(hn:n<=1):Calls Tryz.prog 73 #[.slice A n cap,.int .i64 n,f] w λe w'=>e=.returned (.tuple #[])/\w'=w:=by
 have h1:¬((20:Int)<=(n:Int)):=by omega
 have h2:¬((20:Int)<(n:Int)):=by omega
 have hI:=Qnp A n cap f w hn
 go_enter Tryz.func73,Tryz.ntmps73
 go_wp2
 refine wp_loop_rounds 1 ?_
 rw[rounds_succ]
 go_wp2_with (go_at_call 147;refine hI.mono ?_;rintro e w' ⟨rfl,rfl⟩)
 refine wp_loop_rounds 1 ?_
 rw[rounds_succ]
 go_wp2
 go_end0
 exact⟨rfl,rfl⟩
set_option maxHeartbeats 1000000 in
set_option maxRecDepth 100000 in
theorem QqP(A:O Addr)(n cap:Nat)(f:Value)(w:World)(hn:n<=1):Calls Tryz.prog 27 #[.slice A n cap,f] w λe w'=>e=.returned (.tuple #[])/\w'=w:=by
 have hI:=QqQ A n cap f w hn
 go_enter Tryz.func27,Tryz.ntmps27
 go_wp2_with (go_at_call 73;refine hI.mono ?_;rintro e w' ⟨rfl,rfl⟩)
 go_end0
 exact⟨rfl,rfl⟩
theorem Qcx{α β γ:Type}{l:List α}{a:β}{b:γ}{rv:Unit}{enc:α->List Lf}{F:Fn}{gZ:List Lf}(h:R3 l a b=some rv):dK Tryz.prog 27 [.one (.sl false 1 (l.map enc)),.one (.fn F gZ)] [] (.j0 []) []:=by
 unfold R3 at h;split at h
 ·rename_i hl;refine BB (by kernel_rfl) λw M0 U iM ht hA=>?_
  match iM,hA with
  | [v,f],⟨r0,_,_⟩ =>
   have r0':IR w M0 (.sl false 1 (l.map enc)) v:=r0;obtain⟨A,cap,rfl⟩:∃A cap,v=.slice A l.length cap:=by
    generalize hq:l.map enc=q at r0';have hql:q.length=l.length:=by rw[<-hq,Qbn]
    cases r0' with
    |QF _ _ a cap _=>exact⟨a,cap,by rw[<-hql];rfl⟩
    |sl _ _ _ b o cap _ _ _ _ _ _ _=>exact⟨_,cap,by rw[<-hql]⟩
   refine(QqP A l.length cap f w hl).mono ?_
   rintro e w' ⟨rfl,rfl⟩;exact⟨_,rfl,⟨[],rfl,trivial⟩,Below.refl _ _⟩
 ·cases h
end
section
open Go.Shelf
set_option maxRecDepth 100000
def IM:Go.Shelf.Ren:=⟨λ|105=>226|212=>266|99=>267|165=>268|166=>225|170=>269|169=>227|263=>299|264=>300|206=>213|240=>265|241=>301|276=>298|277=>315|n=>n,λ|9=>9|3=>3|4=>4|20=>20|0=>0|46=>167|109=>345|5=>5|72=>305|76=>308|51=>324|146=>358|53=>326|148=>388|70=>303|37=>229|75=>307|127=>349|164=>385|80=>189|n=>n,λ|n=>n⟩
theorem QbO:Go.Proofs.Lays.n105 Tryz.prog IM:={
 mixed:=by kernel_rfl,
 f99:=Tryz.func267.trans (QaB some (by kernel_rfl)),
 f105:=Tryz.func226.trans (QaB some (by kernel_rfl)),
 f165:=Tryz.func268.trans (QaB some (by kernel_rfl)),
 f166:=Tryz.func225.trans (QaB some (by kernel_rfl)),
 f169:=Tryz.func227.trans (QaB some (by kernel_rfl)),
 f170:=Tryz.func269.trans (QaB some (by kernel_rfl)),
 f206:=Tryz.func213.trans (QaB some (by kernel_rfl)),
 f212:=Tryz.func266.trans (QaB some (by kernel_rfl)),
 f240:=Tryz.func265.trans (QaB some (by kernel_rfl)),
 f241:=Tryz.func301.trans (QaB some (by kernel_rfl)),
 f263:=Tryz.func299.trans (QaB some (by kernel_rfl)),
 f264:=Tryz.func300.trans (QaB some (by kernel_rfl)),
 f276:=Tryz.func298.trans (QaB some (by kernel_rfl)),
 f277:=Tryz.func315.trans (QaB some (by kernel_rfl)),
 t0:=Tryz.underlying0,
 a0:=Tryz.isAgg0,
 z0:=Tryz.sizeOf0,
 v0:=Tryz.zeroValue0,
 t3:=Tryz.underlying3,
 a3:=Tryz.isAgg3,
 z3:=Tryz.sizeOf3,
 v3:=Tryz.zeroValue3,
 t4:=Tryz.underlying4,
 a4:=Tryz.isAgg4,
 z4:=Tryz.sizeOf4,
 v4:=Tryz.zeroValue4,
 t5:=Tryz.underlying5,
 a5:=Tryz.isAgg5,
 z5:=Tryz.sizeOf5,
 v5:=Tryz.zeroValue5,
 t9:=Tryz.underlying9,
 a9:=Tryz.isAgg9,
 z9:=Tryz.sizeOf9,
 v9:=Tryz.zeroValue9,
 t20:=Tryz.underlying20,
 a20:=Tryz.isAgg20,
 z20:=Tryz.sizeOf20,
 v20:=Tryz.zeroValue20,
 t37:=Tryz.underlying229,
 a37:=Tryz.isAgg229,
 z37:=Tryz.sizeOf229,
 v37:=Tryz.zeroValue229,
 t46:=Tryz.underlying167,
 a46:=Tryz.isAgg167,
 z46:=Tryz.sizeOf167,
 v46:=Tryz.zeroValue167,
 t51:=Tryz.underlying324,
 a51:=Tryz.isAgg324,
 z51:=Tryz.sizeOf324,
 v51:=Tryz.zeroValue324,
 t53:=Tryz.underlying326,
 a53:=Tryz.isAgg326,
 z53:=Tryz.sizeOf326,
 v53:=Tryz.zeroValue326,
 t70:=Tryz.underlying303,
 a70:=Tryz.isAgg303,
 z70:=Tryz.sizeOf303,
 v70:=Tryz.zeroValue303,
 t72:=Tryz.underlying305,
 a72:=Tryz.isAgg305,
 z72:=Tryz.sizeOf305,
 v72:=Tryz.zeroValue305,
 t75:=Tryz.underlying307,
 a75:=Tryz.isAgg307,
 z75:=Tryz.sizeOf307,
 v75:=Tryz.zeroValue307,
 t76:=Tryz.underlying308,
 a76:=Tryz.isAgg308,
 z76:=Tryz.sizeOf308,
 v76:=Tryz.zeroValue308,
 t109:=Tryz.underlying345,
 a109:=Tryz.isAgg345,
 z109:=Tryz.sizeOf345,
 v109:=Tryz.zeroValue345,
 t127:=Tryz.underlying349,
 a127:=Tryz.isAgg349,
 z127:=Tryz.sizeOf349,
 v127:=Tryz.zeroValue349,
 t146:=Tryz.underlying358,
 a146:=Tryz.isAgg358,
 z146:=Tryz.sizeOf358,
 v146:=Tryz.zeroValue358,
 t148:=Tryz.underlying388,
 a148:=Tryz.isAgg388,
 z148:=Tryz.sizeOf388,
 v148:=Tryz.zeroValue388,
 t164:=Tryz.underlying385,
 a164:=Tryz.isAgg385,
 z164:=Tryz.sizeOf385,
 v164:=Tryz.zeroValue385}
end
section
open Go.RowKit
open Go.Lib Go.Sort Go.Shelf
theorem Qbc:Builder.Extra Tryz.prog Ln:={sizeBuilder:=by kernel_rfl,liesBuilder:=by kernel_rfl,t5:=Tryz.underlying5,a5:=Tryz.isAgg5,z5:=Tryz.sizeOf5,v5:=Tryz.zeroValue5,infoByte:=by kernel_rfl,cellsByte:=by kernel_rfl,sizeByte:=by kernel_rfl,neB5:=by decide}
theorem Qmx:Builder.Extra Tryz.prog IN:={sizeBuilder:=by kernel_rfl,liesBuilder:=by kernel_rfl,t5:=Tryz.underlying5,a5:=Tryz.isAgg5,z5:=Tryz.sizeOf5,v5:=Tryz.zeroValue5,infoByte:=by kernel_rfl,cellsByte:=by kernel_rfl,sizeByte:=by kernel_rfl,neB5:=by decide}
theorem Qmw:Builder.Extra Tryz.prog IM:={sizeBuilder:=by kernel_rfl,liesBuilder:=by kernel_rfl,t5:=Tryz.underlying5,a5:=Tryz.isAgg5,z5:=Tryz.sizeOf5,v5:=Tryz.zeroValue5,infoByte:=by kernel_rfl,cellsByte:=by kernel_rfl,sizeByte:=by kernel_rfl,neB5:=by decide}
theorem K9{T e:TypeId}{B b:Nat}{bs:List Value}{w w':World}(h:IsBuilderF T e B b bs w)(hb:Below w.heap.size w w'):IsBuilderF T e B b bs w':=by
 have key:∀p,BuilderAtF T e B b p bs w->BuilderAtF T e B b p bs w':=λp h=>by
  have iq:=h.lt;obtain⟨hB,v,hc,O9,lN⟩:=h;exact⟨hB,v,(hb.block b iq).trans hc,O9.kept (row:=none) ⟨hb.os,hb.tape,hb.output,hb.size,λk hk _=>hb.block k hk⟩ (by cases hv:v.ownBlock <;> simp),lN⟩
 exact h.elim (λx=>.inl (key _ x)) λx=>.inr (key _ x)
theorem Ya(k:Nat):(⟨(Lib.repeatL (⟨#[48]⟩:I).data.toList k).toArray⟩:I)=sk k:=by
 unfold sk;congr 2;induction k with
 |zero=>rfl
 |succ k ih =>
  rw[Qlz,<-ih];rfl
theorem Qfx(k:Nat)(hk:k<=9)(w:World):Calls Tryz.prog 226 #[.string ⟨#[48]⟩,.int .i64 k] w λe w'=>e=.returned (.string (sk k))/\Below w.heap.size w w':=by
 have h:=Any.strings_Repeat QbO Qmw ⟨#[48]⟩ k w (by omega) (by show 1*k<=_;omega)
 rw[Ya]at h;exact h
theorem QkT(s:I)(h:s.size<=9)(w:World):Calls Tryz.prog 226 #[.string ⟨#[48]⟩,.int .i64 (9-(s.size:Int))] w λe w'=>e=.returned (.string (sk (9-s.size)))/\Below w.heap.size w w':=by
 have:=Qfx (9-s.size) (by omega) w
 rw[show((9-s.size:Nat):Int)=9-(s.size:Int) by omega]at this
 exact this
theorem Xo{x:Int}{r:List Int}{t rv:I}(h:p5 t (x ::r)=some rv):∃s,zk x=some s/\s.size<=9/\p5 (t++(sk (9-s.size)++s)) r=some rv:=by
 unfold p5 at h;split at h
 ·rename_i s hs;split at h
  ·rename_i h9;exact⟨s,hs,h9,h⟩
  ·cases h
 ·cases h
theorem Qax(k:Nat):(sk k).size=k:=by unfold sk;simp [ByteArray.size]
def Qgx(W:World):Prop:=∃t s,W.heap[3]?=some (.cells (Go.Lib.pow10Tab.map λz=>Value.int .u64 z).toArray t s)
theorem QlL{x:Int}{s:I}(h:zk x=some s)(W:World)(hW:Qgx W):Calls Tryz.prog 101 #[.int .i64 x] W λe w'=>e=.returned (.string s)/\Below W.heap.size W w':=by
 by_cases hn:0<=x/\x<=9223372036854775807
 case neg=>unfold zk at h;rw[if_neg hn]at h;cases h
 rw[IJ hn]at h;obtain rfl:=QaL h;refine Calls.mono (Any.strconv_Itoa Zq x (by omega) hn.2 W (Zo hW)) ?_
 rintro e w' ⟨rfl,k,os,rfl⟩;exact⟨rfl,rfl,rfl,rfl,by simp [Go.Sort.grow],λb hb=>Go.Sort.heap_grow_old _ _ hb⟩
theorem V4{w W:World}(h3:3<w.heap.size)(h:Qgx w)(hb:Below w.heap.size w W):Qgx W:=by
 obtain⟨t,s,h⟩:=h;exact⟨t,s,(hb.block 3 h3).trans h⟩
set_option maxHeartbeats 4000000 in
set_option maxRecDepth 100000 in
theorem ZD(l:List Int)(t rv:I)(a:Int)(n:Nat)(hl:l.length=n+1)(ha:l[n]?=some a)(hI:zk a=some t)(mM:p5 t (l.take n).reverse=some rv)(hn:n<=1000000)(ht9:t.size<=100)(b o cap:Nat)(w:World)(hb:b<w.heap.size)
  (hc:∀(j:Nat) (x:Int),l[j]?=some x->w.cell? ⟨b,o+j,none⟩=some (.int .i64 x)) (ht:Qgx w) (h3:3<w.heap.size):
  Calls Tryz.prog 176 #[.slice (some ⟨b,o,none⟩) (n+1) cap] w λe w'=>e=.returned (.string rv)/\Below w.heap.size w w':=by
 have lN:¬(((n+1:Nat):Int)=0):=by omega
 have hca:=hc n a ha;have Za:=QlL hI (w.alloc (.cells #[.pointer none,.slice none 0 0] 305)) (V4 h3 ht (lj w _));have HC:Aside (∀(j:Nat) (x:Int),l[j]?=some x->w.cell? ⟨b,o+j,none⟩=some (.int .i64 x)):=hc;have HL:Aside (l.length=n+1):=hl;have HT:Aside (Qgx w):=ht;have HR:Aside (p5 t (l.take n).reverse=some rv):=mM;clear hc ha hl ht mM hI
 go_enter Tryz.func176,Tryz.ntmps176
 go_wp2_with (go_at_call 101;go_fit Za;rintro e W1 ⟨rfl,RL⟩)
 clear Za hca;have hB0:W1.heap[w.heap.size]?=some (.cells #[.pointer none,.slice none 0 0] 305 (0,0)):=(RL.block _ (by simp)).trans (heap_alloc_new w _)
 have AL:Below w.heap.size w W1:=(lj w _).trans (RL.mono (by simp))
 have hIs:Lib.IsBuilderF 305 5 w.heap.size w.heap.size [] W1:=.inl ⟨fa _,_,hB0,World.ownsRowF_nil _ _ _ _,by simp [Value.ownBlock]⟩
 have hWr:=Any.Builder_WriteString_k Pb Qbc w.heap.size w.heap.size [] t W1 hIs (by simp;omega) AL.size
 change Calls Tryz.prog 225 _ _ _ at hWr
 go_wp2_with (go_at_call 225;go_fit hWr;rintro e W2 ⟨rfl,hA2,Fz,-⟩)
 clear hWr hIs hB0 RL;replace hA2:Lib.BuilderAtF 305 5 w.heap.size w.heap.size (.pointer (some ⟨w.heap.size,0,none⟩)) ([]++Lib.strCells t) W2:=hA2;have Qr5:Lib.IsBuilderF 305 5 w.heap.size w.heap.size (Lib.byteCells t.data.toList) W2:=.inr (by simpa [Lib.strCells_eq]using hA2)
 have Qsg:Below w.heap.size w W2:=AL.trans Fz;clear hA2 Fz AL
 go_loopg [4,5] n (λg s4 _ wx=>∃(k:Nat) (T:I),s4=.int .i64 ((k:Int)-1)/\k<=g/\k<=n/\Aside (p5 T (l.take k).reverse=some rv)/\T.size<=100+9*(n-k)/\Aside (Lib.IsBuilderF 305 5 w.heap.size w.heap.size (Lib.byteCells T.data.toList) wx)/\Below w.heap.size w wx)
 case atStart=>exact⟨n,t,by go_num,fa _,fa _,HR,by omega,Qr5,Qsg⟩
 case round =>
  obtain⟨k,T,rfl,hkg,yw,HR2,hT,HB,p9⟩:=hrel;have jI:=p9.size;cases k with
  |zero =>
   have iq:¬((0:Int)<=((0:Nat):Int)-1):=by omega
   have AU:=Any.Builder_String_any_k QbP Qmx w.heap.size w.heap.size T.data.toList wr HB.out p9.size
   change Calls Tryz.prog 227 _ _ _ at AU
   go_wp2_with (go_at_call 227;go_fit AU;rintro e W3 ⟨rfl,-,Yi,-⟩)
   go_ret
   have mM:=HR2.out;rw[Qjp,List.reverse_nil]at mM;unfold p5 at mM;obtain rfl:=QaL mM;exact⟨rfl,p9.trans Yi⟩
  |succ k =>
   have WU:k<l.length:=by rw[HL.out];omega
   obtain⟨x,hx⟩:∃x,l[k]?=some x:=⟨_,dr WU⟩;have hR3:=HR2.out;rw[Qdp,hx]at hR3
   change p5 T ((l.take k++[x]).reverse)=some rv at hR3
   rw[List.reverse_append]at hR3;obtain⟨s,hs,hs9,hR4⟩:=Xo (r:=(l.take k).reverse) hR3;have HR4:Aside (p5 (T++(sk (9-s.size)++s)) (l.take k).reverse=some rv):=hR4;have hcx:wr.cell? ⟨b,o+k,none⟩=some (.int .i64 x):=(p9.cell (p:=⟨b,o+k,none⟩) hb).trans (HC.out k x hx);have Za:=QlL hs wr (V4 h3 HT.out p9);clear hR3 hR4 hx hs WU;have RO:(0:Int)<=((k+1:Nat):Int)-1:=by omega
   have hz:=Qax (9-s.size)
   go_wp2_with (go_at_call 101;go_fit Za;rintro e W3 ⟨rfl,hW3⟩)
   clear Za hcx;have hB3:=K9 HB.out hW3;have Yi:Below w.heap.size w W3:=p9.trans (hW3.mono jI);have hs3:=Yi.size;clear hW3
   go_wp2_with (go_at_call 226;refine(QkT s hs9 W3).mono ?_;rintro e W4 ⟨rfl,hW4⟩)
   have hB4:=K9 hB3 hW4;have hb4:Below w.heap.size w W4:=Yi.trans (hW4.mono hs3);clear hW4 hB3 Yi hs3;have hWr:=Any.Builder_WriteString_k Pb Qbc w.heap.size w.heap.size _ (sk (9-s.size)) W4 hB4 (by rw[Lib.byteCells_length];have:T.data.toList.length=T.size:=rfl;omega) hb4.size
   change Calls Tryz.prog 225 _ _ _ at hWr
   go_wp2_with (go_at_call 225;go_fit hWr;rintro e W5 ⟨rfl,hA5,hb5,-⟩)
   clear hWr;replace hA5:Lib.BuilderAtF 305 5 w.heap.size w.heap.size (.pointer (some ⟨w.heap.size,0,none⟩)) (Lib.byteCells T.data.toList++Lib.strCells (sk (9-s.size))) W5:=hA5;have Qpn:Below w.heap.size w W5:=hb4.trans hb5;have QmI:=Any.Builder_WriteString_k Pb Qbc w.heap.size w.heap.size _ s W5 (.inr hA5) (by rw[Qay,Lib.byteCells_length,Lib.strCells_eq,Lib.byteCells_length];have h1:T.data.toList.length=T.size:=rfl;have h2:(sk (9-s.size)).data.toList.length=(sk (9-s.size)).size:=rfl;omega) Qpn.size
   change Calls Tryz.prog 225 _ _ _ at QmI
   clear hA5 hb5 hB4 hb4
   go_wp2_with (go_at_call 225;go_fit QmI;rintro e W6 ⟨rfl,hA6,hb6,-⟩)
   clear QmI;replace hA6:Lib.BuilderAtF 305 5 w.heap.size w.heap.size (.pointer (some ⟨w.heap.size,0,none⟩)) ((Lib.byteCells T.data.toList++Lib.strCells (sk (9-s.size)))++Lib.strCells s) W6:=hA6
   go_roundg k
   case measure=>omega
   case rel =>
    refine⟨k,T++(sk (9-s.size)++s),by go_num,fa _,by omega,HR4,by rw[Qlx,Qlx];omega,(show Aside _ from .inr ?_),Qpn.trans hb6⟩
    rw[Lib.strCells_eq,Lib.strCells_eq,<-Lib.byteCells_append,<-Lib.byteCells_append]at hA6;have e:(T++(sk (9-s.size)++s)).data.toList=T.data.toList++(sk (9-s.size)).data.toList++s.data.toList:=by simp [ByteArray.data_append]
    rw[e];exact hA6
set_option maxHeartbeats 1000000 in
set_option maxRecDepth 100000 in
theorem Qb0(A:O Addr)(cap:Nat)(w:World):Calls Tryz.prog 176 #[.slice A 0 cap] w λe w'=>e=.returned (.string ⟨#[48]⟩)/\w'=w:=by
 go_enter Tryz.func176,Tryz.ntmps176
 go_wp2
 go_ret
 exact⟨rfl,rfl⟩
theorem Qe7(n:Int)(hn:0<=n/\n<=9223372036854775807):(⟨(Go.Lib.itoa n).toArray⟩:I).size<=100:=by
 have:=Go.Lib.itoa_length_le n (by omega) hn.2
 show(Go.Lib.itoa n).toArray.size<=100;simp;omega
theorem QbK{n:Int}{t:I}(h:zk n=some t):t.size<=100:=by
 by_cases hn:0<=n/\n<=9223372036854775807
 case neg=>unfold zk at h;rw[if_neg hn]at h;cases h
 rw[IJ hn]at h;obtain rfl:=QaL h;exact Qe7 n hn
theorem J7{l:List Int}{rv:I}(h:Gg l=some rv):dK Tryz.prog 176 [.one (.sl false 1 (l.map al))] [] (.cm (.one (.str rv))) []:=by
 unfold Gg at h;split at h
 case isFalse=>cases h
 rename_i Qsj;rcases Qkm l with rfl|⟨l0,a,hl⟩
 ·obtain rfl:=QaL h;refine BB (by kernel_rfl) λw M0 U iM ht hA=>?_
  match iM,hA with
  | [v],⟨r0,_⟩ =>
   have r0':IR w M0 (.sl false 1 []) v:=r0;obtain⟨A,cap,rfl⟩:∃A cap,v=.slice A 0 cap:=by
    cases r0' with
    |QF _ _ a cap _=>exact⟨a,cap,rfl⟩
    |sl _ _ _ b o cap _ _ _ _ _ _ _=>exact⟨_,cap,rfl⟩
   refine(Qb0 A cap w).mono ?_
   rintro e w' ⟨rfl,rfl⟩;exact⟨_,rfl,IR.lr (U:=U) (IR.str _),Below.refl _ _⟩
 ·rw[List.concat_eq_append]at hl;subst hl;rw[List.reverse_append]at h
  change(match zk a with
   |some t=>p5 t l0.reverse
   |none=>none)=some rv at h
  cases ht:zk a with
  |none=>rw[ht]at h;cases h
  |some t =>
   rw[ht]at h
   change p5 t l0.reverse=some rv at h
   refine BB (by kernel_rfl) λw M0 U iM Qku hA=>?_
   match iM,hA with
   | [v],⟨r0,_⟩ =>
    have r0':IR w M0 (.sl false 1 ((l0++[a]).map al)) v:=r0;generalize hq:(l0++[a]).map al=q at r0';have hql:q.length=l0.length+1:=by rw[<-hq];simp
    cases r0' with
    |QF _ _ a' cap _=>simp at hql
    |sl _ _ _ b o cap vs hm hl y4 MJ hc hr =>
     have px:∀(j:Nat) (x:Int),(l0++[a])[j]?=some x->w.cell? ⟨b,o+j,none⟩=some (.int .i64 x):=λj x hx=>by
      have hj:q[j]?=some [.int .i64 x]:=by rw[<-hq,Qc0,hx];rfl
      have kZ:=hc j [.int .i64 x] 0 (.int .i64 x) hj rfl;have zI:=hr j [.int .i64 x] 0 (.int .i64 x) hj rfl;generalize vs j 0=u at kZ zI;cases zI;simpa using kZ
     have h0:=px l0.length a (by simp)
     have hb:b<w.heap.size:=by
      rcases sh b w.heap.size with h|h
      ·exact h
      ·simp [World.cell?,QiQ h]at h0
     obtain⟨tt,ss,h3⟩:=Qku _ _ Qeb;have h3':3<w.heap.size:=(Qnn.1 h3).1;rw[hql];refine(ZD (l0++[a]) t rv a l0.length (by simp) (by simp) ht (by simpa using h) (by simp at Qsj;omega) (QbK ht) b o cap w hb px ⟨tt,ss,h3⟩ h3').mono ?_
     rintro e w' ⟨rfl,OE⟩;exact⟨_,rfl,IR.lr (U:=U) (IR.str _),OE⟩
end
section
open Go.RowKit
open Go.Lib Go.Sort Go.Shelf
def Yl(g:Nat)(cv:Value)(p:ag->Bool)(S:ag->Prop)(W:World):Prop:=
 ∀y,S y->Calls Tryz.prog g #[.agg #[.int .i64 y.ready,.int .i64 y.cz],cv] W λe w'=>e=.returned (.bool (p y))/\Below W.heap.size W w'
def Qgi(W:World)(b:Nat)(l:List ag):Prop:=∀(i:Nat) y,l[i]?=some y->W.cell? ⟨b,i*2,none⟩=some (.int .i64 y.ready)/\W.cell? ⟨b,i*2+1,none⟩=some (.int .i64 y.cz)
set_option maxHeartbeats 4000000 in
set_option maxRecDepth 100000 in
theorem Qno(p:ag->Bool)(g:Nat)(cv:Value)(l:List ag)(b C:Nat)(w:World)(eg:∀args w,(callFunc g args).run Tryz.prog w=.ok (.enter g args) w)
  (hp:∀W,Below w.heap.size w W->Yl g cv p (λy=>y∈l) W) (hc:Qgi w b l) (hb:b<w.heap.size) (hl:l.length<=9223372036854775807):
  Calls Tryz.prog 164 #[.slice (some ⟨b,0,none⟩) l.length C,.func (.func g) #[] #[cv]] w λe w'=>((e=.returned (.int .i64 (-1))/\∀y∈l,p y=false)\/∃(k:Nat) (y:ag),e=.returned (.int .i64 k)/\l[k]?=some y/\p y=true/\∀(i:Nat) z,i<k->l[i]?=some z->p z=false)/\Below w.heap.size w w':=by
 obtain⟨n,hn⟩:∃n,l.length=n:=⟨_,rfl⟩;rw[hn]at hl ⊢;have HN:Aside (l.length=n):=hn;have HC:Aside (Qgi w b l):=hc;have HP:Aside (∀W,Below w.heap.size w W->Yl g cv p (λy=>y∈l) W):=hp
 clear hn hc hp
 go_enter Tryz.func164,Tryz.ntmps164
 go_wp2
 go_loopg [5,8] n (λgg _ s8 wr=>∃kk:Nat,kk<=n/\n-kk<=gg/\s8=.int .i64 kk/\Aside (Below w.heap.size w wr)/\Aside (∀(i:Nat) z,i<kk->l[i]?=some z->p z=false))
 case atStart=>exact⟨0,QaD _,by omega,rfl,Below.refl _ w,λi z h=>absurd h (Ql1 _)⟩
 case round =>
  obtain⟨kk,hkk,hg,rfl,BW,A⟩:=hrel;by_cases iq:kk<n
  ·have Qm5:(kk:Int)<(n:Int):=by omega
   obtain⟨y,hy⟩:∃y,l[kk]?=some y:=⟨_,dr (by rw[HN.out];exact iq)⟩
   have HY:Aside (l[kk]?=some y):=hy;have l1:wr.cell? ⟨b,kk*2,none⟩=some (.int .i64 y.ready):=(BW.out.cell (p:=⟨b,kk*2,none⟩) hb).trans (HC.out kk y hy).1;have l2:wr.cell? ⟨b,kk*2+1,none⟩=some (.int .i64 y.cz):=(BW.out.cell (p:=⟨b,kk*2+1,none⟩) hb).trans (HC.out kk y hy).2;have Li:=HP.out wr BW.out y (QaG hy);clear hy;cases hq:p y with
   |true =>
    rw[hq]at Li
    go_wp2_with (go_at_fn g;refine Li.mono ?_;rintro e w' ⟨rfl,OE⟩)
    go_ret
    exact⟨.inr ⟨kk,y,rfl,HY.out,hq,A.out⟩,BW.out.trans (OE.mono BW.out.size)⟩
   |false =>
    rw[hq]at Li
    go_wp2_with (go_at_fn g;refine Li.mono ?_;rintro e w' ⟨rfl,OE⟩)
    go_roundg (n-(kk+1))
    case measure=>omega
    case rel =>
     refine⟨kk+1,by omega,by omega,by go_num,(show Aside _ from BW.out.trans (OE.mono BW.out.size)),(show Aside _ from λi z hi hz=>?_)⟩
     rcases sh i kk with h|h
     ·exact A.out i z h hz
     ·obtain rfl:i=kk:=by omega
      rw[HY.out]at hz;cases hz;exact hq
  ·have Qm5:¬(kk:Int)<(n:Int):=by omega
   obtain rfl:kk=n:=by omega
   go_wp2
   go_ret
   refine⟨.inl ⟨rfl,λy hy=>?_⟩,BW.out⟩
   obtain⟨i,hi⟩:=QeT.1 hy;exact A.out i y (by have:=(pB.1 hi).1;rw[HN.out]at this;exact this) hi
structure H7 (b:Nat) (w W:World):Prop where
 os:W.os=w.os
 tape:W.tape=w.tape
 output:W.output=w.output
 size:w.heap.size<=W.heap.size
 block:∀c,c<w.heap.size->c≠b->W.heap[c]?=w.heap[c]?
def Qc(cur:Array Value)(d:List ag):Prop:=∀(i:Nat) y,d[i]?=some y->cur[i*2]?=some (.int .i64 y.ready)/\cur[i*2+1]?=some (.int .i64 y.cz)
theorem H7.set{b:Nat}{w W:World}(h:H7 b w W)(o:Nat)(v:Value):H7 b w (W.setCell ⟨b,o,none⟩ v):=
 ⟨h.os,h.tape,h.output,by simpa [World.setCell]using h.size,λc hc hn=>(heap_setCell_other W ⟨b,o,none⟩ c v hn).trans (h.block c hc hn)⟩
theorem H7.row{b:Nat}{w W:World}(h:H7 b w W)(X:Array Value):H7 b w (W.setRow b X):=
 ⟨h.os,h.tape,h.output,by simpa [World.setRow]using h.size,λc hc hn=>(setRow_other W b c X hn).trans (h.block c hc hn)⟩
theorem Qcl{w:World}{b o n c:Nat}{cur:Array Value}(hn:0<n)(hg:w.heap[b]?=some (.cells cur 158 (0,0)))(Et:o+n*2<=cur.size):
  ∃X:Array Value,X.size=cur.size/\(∀k,k<o->X[k]?=cur[k]?)/\∀ty,(Builtin.clear_ #[97] ty #[.slice (some ⟨b,o,none⟩) n c]).run Tryz.prog w=.ok (.tuple #[]) (w.setRow b X):=by
 obtain⟨Z,hZ⟩:∃Z,Z=(Builtin.zeroCells #[Value.int .i64 0,Value.int .i64 0] n).toList:=⟨_,rfl⟩;have hZl:Z.length=n*2:=by rw[hZ,Ad];rfl
 have Qnb:∀v∈Z,v.oneCell'=true:=λv hv=>by
  rw[hZ]at hv;unfold Builtin.zeroCells at hv;simp only[Array.toList_map,QdX,Array.mem_toList_iff,Array.mem_range]at hv;obtain⟨i,_,rfl⟩:=hv;have:i % 2=0\/i % 2=1:=by omega
  rcases this with e|e
  ·show(#[Value.int .i64 0,Value.int .i64 0][i % 2]!).oneCell'=true;rw[e];rfl
  ·show(#[Value.int .i64 0,Value.int .i64 0][i % 2]!).oneCell'=true;rw[e];rfl
 have ir:=run_storeCells_at Tryz.prog b o 158 Z 0 cur w hg (by rw[hZl];omega) Qnb
 simp only[QhF]at ir;refine⟨(cur.toList.take o++Z++cur.toList.drop (o+Z.length)).toArray,?_,λk hk=>?_,λty=>?_⟩
 ·simp [hZl];omega
 ·simp only[Qju];rw[Qds,Qdz (by simp;omega),QdL,if_pos hk]
  simp
 ·obtain⟨m,rfl⟩:∃m,n=m+1:=⟨n-1,by omega⟩
  have hz:∀w,(zeroValue 158).run Tryz.prog w=.ok (.agg #[.int .i64 0,.int .i64 0]) w:=Tryz.zeroValue158;have hc:(Value.agg #[Value.int .i64 0,Value.int .i64 0]).cells=#[.int .i64 0,.int .i64 0]:=rfl;simp only[Builtin.clear_];simp [run_underlying Tryz.underlying97,hz,hc,<-hZ,ir]
theorem H7.grow{b:Nat}{w W W':World}(h:H7 b w W)(hb:Below W.heap.size W W'):H7 b w W':=
 ⟨hb.os.trans h.os,hb.tape.trans h.tape,hb.output.trans h.output,QaE h.size hb.size,λc hc hn=>(hb.block c (Qby hc h.size)).trans (h.block c hc hn)⟩
structure Sb (p:ag->Bool) (l d:List ag) (i j:Nat):Prop where
 len:d.length=l.length
 lt:i<j
 front:d.take i=(l.take j).filter λy=>!p y
 back:∀k,j<=k->d[k]?=l[k]?
theorem Sb.AO{p:ag->Bool}{l d:List ag}{i j:Nat}{y:ag}(h:Sb p l d i j)(hy:l[j]?=some y)(hp:p y=false):Sb p l (d.set i y) (i+1) (j+1):=by
 have hjl:=(pB.1 hy).1;have TU:i<d.length:=by rw[h.len];have:=h.lt;omega
 refine⟨by rw[Qjm,h.len],by have:=h.lt;omega,?_,λk hk=>?_⟩
 ·rw[Qdp,Qf8 TU,List.take_set_of_le (fa _),h.front,Qdp,hy,QmR];congr 1;show [y]=[y].filter _;rw[Qma (by rw[hp];rfl)];rfl
 ·rw[QgP (by have:=h.lt;omega)]
  exact h.back k (by omega)
theorem Sb.skip{p:ag->Bool}{l d:List ag}{i j:Nat}{y:ag}(h:Sb p l d i j)(hy:l[j]?=some y)(hp:p y=true):Sb p l d i (j+1):=by
 refine⟨h.len,by have:=h.lt;omega,?_,λk hk=>h.back k (by omega)⟩
 rw[h.front,Qdp,hy,QmR];show _=_++[y].filter _;rw[Qlv (by rw[hp];simp)];simp
theorem Sb.aE{p:ag->Bool}{l:List ag}{k:Nat}{y:ag}(hy:l[k]?=some y)(hp:p y=true)(h:∀(i:Nat) z,i<k->l[i]?=some z->p z=false):Sb p l l k (k+1):=by
 refine⟨rfl,by omega,?_,λ_ _=>rfl⟩
 rw[Qdp,hy,QmR];show _=_++[y].filter _;rw[Qlv (by rw[hp];simp),QlF.2 λz hz=>?_]
 ·simp
 ·obtain⟨i,hi⟩:=QeT.1 hz;rw[QdL]at hi;split at hi
  ·rename_i hik;rw[h i z hik hi];rfl
  ·cases hi
theorem Qc.set{cur:Array Value}{d:List ag}{i:Nat}{y:ag}{Km:Array Value}(h:Qc cur d)(hi:i<d.length)(h0:Km[i*2]?=some (.int .i64 y.ready))(h1:Km[i*2+1]?=some (.int .i64 y.cz))(ho:∀k,k≠i*2->k≠i*2+1->Km[k]?=cur[k]?):Qc Km (d.set i y):=by
 intro k z hk;by_cases e:k=i
 ·subst e;rw[Qf8 hi]at hk;cases hk;exact⟨h0,h1⟩
 ·rw[QgP (by omega)]at hk
  rw[ho _ (by omega) (by omega),ho _ (by omega) (by omega)]
  exact h k z hk
set_option maxHeartbeats 8000000 in
set_option maxRecDepth 100000 in
theorem Qmr(p:ag->Bool)(g:Nat)(cv:Value)(l:List ag)(b C:Nat)(WA:Array Value)(w:World)(eg:∀args w,(callFunc g args).run Tryz.prog w=.ok (.enter g args) w)
  (hp:∀W,H7 b w W->Yl g cv p (λy=>y∈l) W) (hg0:w.heap[b]?=some (.cells WA 158 (0,0))) (Vd:WA.size=C*2) (hH:Qc WA l) (hlC:l.length<=C) (hC:C<=9223372036854775807):
  Calls Tryz.prog 162 #[.slice (some ⟨b,0,none⟩) l.length C,.func (.func g) #[] #[cv]] w λe w'=>e=.returned (.slice (some ⟨b,0,none⟩) (l.filter λy=>!p y).length C)/\H7 b w w'/\∃Km,w'.heap[b]?=some (.cells Km 158 (0,0))/\Km.size=C*2/\Qc Km (l.filter λy=>!p y):=by
 have hb:b<w.heap.size:=by
  rcases sh b w.heap.size with h|h
  ·exact h
  ·rw[QiQ h]at hg0;cases hg0
 obtain⟨n,hn⟩:∃n,l.length=n:=⟨_,rfl⟩;have hIF:=Qno p g cv l b C w eg (λW hW=>hp W ⟨hW.os,hW.tape,hW.output,hW.size,λc hc _=>hW.block c hc⟩) (λi y hy=>by
  obtain⟨h0,h1⟩:=hH i y hy;simp only[World.cell?,hg0];exact⟨by simpa using h0,by simpa using h1⟩) hb (by omega)
 rw[hn]at hIF hlC ⊢;have HN:Aside (l.length=n):=hn;have HP:Aside (∀W,H7 b w W->Yl g cv p (λy=>y∈l) W):=hp
 have HG:Aside (w.heap[b]?=some (.cells WA 158 (0,0))):=hg0;have HS:Aside (WA.size=C*2):=Vd;have HH:Aside (Qc WA l):=hH;clear hn hp hg0 Vd hH;by_cases SW:∀y∈l,p y=false
 ·have Qkf:Calls Tryz.prog 164 #[.slice (some ⟨b,0,none⟩) n C,.func (.func g) #[] #[cv]] w λe w'=>e=.returned (.int .i64 (-1))/\Below w.heap.size w w':=hIF.mono λe w' ⟨h,OE⟩=>⟨(by
   rcases h with⟨he,_⟩|⟨k,y,_,hy,hpy,_⟩
   ·exact he
   ·rw[SW y (QaG hy)]at hpy;cases hpy),OE⟩
  have HF:Aside (l.filter (λy=>!p y)=l):=QlF.2 λz hz=>by rw[SW z hz];rfl
  clear hIF SW
  go_enter Tryz.func162,Tryz.ntmps162
  go_wp2_with (go_at_call 164;refine Qkf.mono ?_;rintro e W1 ⟨rfl,RL⟩)
  go_ret
  rw[HF.out,HN.out];exact⟨rfl,⟨RL.os,RL.tape,RL.output,RL.size,λc hc _=>RL.block c hc⟩,WA,(RL.block b hb).trans HG.out,HS.out,HH.out⟩
 ·obtain⟨k0,y0,hy0,EK,o6⟩:∃(k:Nat) (y:ag),l[k]?=some y/\p y=true/\∀(i:Nat) z,i<k->l[i]?=some z->p z=false:=by
   clear hIF HN HP HG HS HH hlC;induction l with
   |nil=>exact absurd (λy hy=>by cases hy) SW
   |cons a r ih =>
    by_cases ha:p a=true
    ·exact⟨0,a,rfl,ha,λi z hi=>absurd hi (Ql1 _)⟩
    ·obtain⟨k,y,h1,h2,h3⟩:=ih λh=>SW λy hy=>by
      rcases Qbt.1 hy with rfl|hy
      ·simpa using ha
      ·exact h y hy
     refine⟨k+1,y,h1,h2,λi z hi hz=>?_⟩
     cases i with
     |zero=>cases hz;simpa using ha
     |succ i=>exact h3 i z (by omega) hz
  have Qkf:Calls Tryz.prog 164 #[.slice (some ⟨b,0,none⟩) n C,.func (.func g) #[] #[cv]] w λe w'=>e=.returned (.int .i64 k0)/\Below w.heap.size w w':=hIF.mono λe w' ⟨h,OE⟩=>⟨(by
   rcases h with⟨_,h2⟩|⟨k,y,he,hy,hpy,hk⟩
   ·rw[h2 y0 (QaG hy0)]at EK;cases EK
   ·have:k=k0:=by
     rcases Qkq k k0 with h|h|h
     ·rw[o6 k y h hy]at hpy;cases hpy
     ·exact h
     ·rw[hk k0 y0 h hy0]at EK;cases EK
    rw[<-this];exact he),OE⟩
  have ur:k0<n:=by
   have:=(pB.1 hy0).1;rw[HN.out]at this;exact this
  have QwJ:((k0:Int) == -1)=false:=QhT.2 (by omega)
  have HD:Aside (Sb p l l k0 (k0+1)):=Sb.aE hy0 EK o6;clear hIF SW hy0 EK o6
  go_enter Tryz.func162,Tryz.ntmps162
  go_wp2_with (go_at_call 164;refine Qkf.mono ?_;rintro e W1 ⟨rfl,RL⟩)
  have hO1:H7 b w W1:=⟨RL.os,RL.tape,RL.output,RL.size,λc hc _=>RL.block c hc⟩
  have hG1:W1.heap[b]?=some (.cells WA 158 (0,0)):=(RL.block b hb).trans HG.out;clear Qkf RL
  go_loopg [5,6,7] n (λgg s5 s6 _ wr=>∃(i j:Nat) (d:List ag) (cur:Array Value),s5=.int .i64 i/\s6=.int .i64 j/\j<=n/\n-j<=gg/\Aside (Sb p l d i j)/\Aside (H7 b w wr)/\Aside (wr.heap[b]?=some (.cells cur 158 (0,0)))/\Aside (cur.size=C*2)/\Aside (Qc cur d))
  case atStart=>exact⟨k0,k0+1,l,WA,rfl,by go_num,by omega,by omega,HD,hO1,hG1,HS,HH⟩
  case round =>
   obtain⟨i,j,d,cur,rfl,rfl,hjn,hgg,ID,OF,GC,SC,HC⟩:=hrel;have Qm:=ID.out.lt;by_cases iq:j<n
   ·have Qm5:(j:Int)<(n:Int):=by omega
    obtain⟨y,hy⟩:∃y,l[j]?=some y:=⟨_,dr (by rw[HN.out];exact iq)⟩
    have HY:Aside (l[j]?=some y):=hy;obtain⟨g0,g1⟩:=HC.out j y ((ID.out.back j (fa _)).trans hy);have l1:wr.cell? ⟨b,j*2,none⟩=some (.int .i64 y.ready):=by simp only[World.cell?,GC.out];simpa using g0
    have l2:wr.cell? ⟨b,j*2+1,none⟩=some (.int .i64 y.cz):=by simp only[World.cell?,GC.out];simpa using g1
    have rF:=QaG hy;clear hy g0 g1;have Li:=HP.out (wr.alloc (.cells #[.int .i64 y.ready,.int .i64 y.cz] 158)) (OF.out.grow (lj wr _)) y rF;have jI:=OF.out.size;have hbr:b<wr.heap.size:=Qby hb jI;cases hq:p y with
    |true =>
     rw[hq]at Li
     go_wp2_with (go_at_fn g;refine Li.mono ?_;rintro e W2 ⟨rfl,Zb⟩)
     have AL:Below wr.heap.size wr W2:=(lj wr _).trans (Zb.mono (by simp))
     go_roundg (n-(j+1))
     case measure=>omega
     case rel=>exact⟨i,j+1,d,cur,rfl,by go_num,by omega,fa _,ID.out.skip HY.out hq,OF.out.grow AL,(AL.block b hbr).trans GC.out,SC,HC⟩
    |false =>
     rw[hq]at Li;have TU:i<d.length:=by rw[ID.out.len,HN.out];omega
     have Et:i*2+1<cur.size:=by rw[SC.out];rw[ID.out.len,HN.out]at TU;omega
     obtain⟨o0,ho0⟩:∃o0,cur[i*2]?=some o0:=⟨_,Qf7 (by omega)⟩
     obtain⟨o1,Qn⟩:∃o1,cur[i*2+1]?=some o1:=⟨_,Qf7 Et⟩
     go_wp2_with fail
     go_at_fn g
     refine Li.mono ?_
     rintro e W2 ⟨rfl,Zb⟩;have AL:Below wr.heap.size wr W2:=(lj wr _).trans (Zb.mono (by simp))
     have G6:W2.heap[wr.heap.size]?=some (.cells #[.int .i64 y.ready,.int .i64 y.cz] 158 (0,0)):=(Zb.block _ (by simp)).trans (heap_alloc_new wr _)
     have GC2:W2.heap[b]?=some (.cells cur 158 (0,0)):=(AL.block b hbr).trans GC.out;have b0:W2.cell? ⟨wr.heap.size,0,none⟩=some (.int .i64 y.ready):=by simp [World.cell?,G6]
     have b1:W2.cell? ⟨wr.heap.size,1,none⟩=some (.int .i64 y.cz):=by simp [World.cell?,G6]
     have c0:W2.cell? ⟨b,i*2,none⟩=some o0:=by simp [World.cell?,GC2,ho0]
     have c1:W2.cell? ⟨b,i*2+1,none⟩=some o1:=by simp [World.cell?,GC2,Qn]
     have f0:W2.frozen? ⟨b,i*2,none⟩=false:=by simp [World.frozen?,GC2]
     have f1:W2.frozen? ⟨b,i*2+1,none⟩=false:=by simp [World.frozen?,GC2]
     have HW:Aside (Below wr.heap.size wr W2):=AL;have HG2:Aside (W2.heap[b]?=some (.cells cur 158 (0,0))):=GC2;clear Li Zb AL G6 GC2 l1 l2 ho0 Qn
     go_wp2
     obtain⟨QeK,Ze⟩:∃QeK,QeK=(cur.setIfInBounds (i*2) (Value.int .i64 y.ready)).setIfInBounds (i*2+1) (Value.int .i64 y.cz):=⟨_,rfl⟩;have hG3:((W2.setCell ⟨b,i*2,none⟩ (.int .i64 y.ready)).setCell ⟨b,i*2+1,none⟩ (.int .i64 y.cz)).heap[b]?=some (.cells QeK 158 (0,0)):=by
      rw[Ze];exact heap_setCell_same _ b _ _ 158 _ (heap_setCell_same W2 b _ _ 158 _ HG2.out)
     have hO3:H7 b w ((W2.setCell ⟨b,i*2,none⟩ (.int .i64 y.ready)).setCell ⟨b,i*2+1,none⟩ (.int .i64 y.cz)):=((OF.out.grow HW.out).set _ _).set _ _;have hS3:Aside (QeK.size=C*2):=by
      show QeK.size=C*2;rw[Ze,Array.size_setIfInBounds,Array.size_setIfInBounds];exact SC.out
     go_roundg (n-(j+1))
     case measure=>omega
     case rel =>
      refine⟨i+1,j+1,d.set i y,QeK,by go_num,by go_num,by omega,fa _,(show Aside _ from ID.out.AO HY.out hq),hO3,hG3,hS3,(show Aside _ from HC.out.set TU ?_ ?_ λk h1 h2=>?_)⟩
      ·rw[Ze,Qnl (by omega),Qqg (by omega)]
      ·rw[Ze,Qqg (by simpa using Et)]
      ·rw[Ze,Qnl (by omega),Qnl (by omega)]
   ·obtain rfl:j=n:=by omega
    have Qm5:¬(j:Int)<(j:Int):=by omega
    have qc:i<j:=Qm;obtain⟨X,hX1,hX2,y4⟩:=Qcl (w:=wr) (b:=b) (o:=i*2) (n:=j-i) (c:=C-i) (cur:=cur) (by omega) GC.out (by rw[SC.out];omega)
    have HX1:Aside (X.size=cur.size):=hX1;have HX2:Aside (∀k,k<i*2->X[k]?=cur[k]?):=hX2;have hG3:Aside ((wr.setRow b X).heap[b]?=some (.cells X 158 (0,0))):=setRow_heap wr b cur X 158 (0,0) GC.out;have hO3:Aside (H7 b w (wr.setRow b X)):=OF.out.row _;have I0:i<=C:=by omega
    clear hX1 hX2
    go_wp2
    go_ret
    have td:=ID.out.front;rw[show l.take j=l from QeR (by rw[HN.out];exact fa _)]at td
    have hlen:(l.filter λy=>!p y).length=i:=by
     rw[<-td,Qdo,ID.out.len,HN.out];omega
    rw[hlen];refine⟨rfl,hO3.out,X,hG3.out,HX1.out.trans SC.out,λk z hk=>?_⟩
    rw[<-td,QdL]at hk;split at hk
    ·rename_i uw;obtain⟨q0,q1⟩:=HC.out k z hk;exact⟨(HX2.out _ (by omega)).trans q0,(HX2.out _ (by omega)).trans q1⟩
    ·cases hk
theorem Qew{P:Program}{f:FuncId}{args:List Cm}{r:AV}(h:dK P f args [] r []){w:World}{M:Nat->Prop}{iM:List Value}(hM:∀c,M c->c<w.heap.size)
  (ht:∀c cs,(c,cs)∈UB->M c/\c<w.heap.size/\∃t s,w.heap[c]?=some (.cells cs t s)) (hA:Rs (CR w M λ_=>none) args iM):
  Calls P f iM.toArray w λe w'=>∃v φ' M',e=.returned v/\AR w' M' φ' r v/\Below w.heap.size w w':=by
 have SW:∀c,¬(∃id C,id<([]:List Ob).length/\(λ_=>none:Pl) id=some (some (c,C))):=by
  rintro c ⟨_,_,h,_⟩;exact absurd h (Ql1 _)
 have hW:Wd ⟨w,λc=>∃id C,id<([]:List Ob).length/\(λ_=>none:Pl) id=some (some (c,C)),M,wT (λ_=>none) 0 []⟩ (λ_=>none) M (λid=>([]:List Ob)[id]?) w:=by
  refine⟨λid ob e=>(by cases e),λi j oi oj c Ci Cj e=>(by cases e),hM,λ_ h=>h,λ_ h=>.inl h,λid ob c C e=>(by cases e),λ_ _ _=>rfl,rfl,rfl,rfl,fa _,λp hp=>(by cases hp),λc cs hc=>?_⟩
  obtain⟨a,b,d⟩:=ht c cs hc;exact⟨a,SW c,b,d⟩
 refine(h.2 w _ M iM hW (λ_ _=>rfl) hA).mono ?_
 rintro e w' ⟨v,φ',M',rfl,h1,h2,_⟩;exact⟨v,φ',M',rfl,h1,h2.os,h2.tape,h2.output,h2.size,λc hc=>h2.AO c hc (SW c)⟩
theorem UY{f:ag->O Bool}:∀{l v:List ag},YH f l=some v->(∀y∈l,f y=some ((f y).getD false))/\v=l.filter λy=>!(f y).getD false
 | [],v,h=>by
  cases h;exact⟨λy hy=>(by cases hy),rfl⟩
 |a ::r,v,h=>by
  unfold YH at h;split at h
  ·rename_i b s hb hs;cases h;obtain⟨h1,h2⟩:=UY hs;refine⟨λy hy=>?_,?_⟩
   ·rcases Qbt.1 hy with rfl|hy
    ·rw[hb];rfl
    ·exact h1 y hy
   ·cases b with
    |true=>rw[Qlv (by rw[hb];simp),<-h2];rfl
    |false=>rw[Qma (by rw[hb];rfl),<-h2];rfl
  ·cases h
theorem vh.Qqm{w W:World}{M:Nat->Prop}(hb:∀c,M c->W.heap[c]?=w.heap[c]?){l:Lf}{v:Value}(h:vh w M (λ_=>none) l v):vh W M (λ_=>none) l v:=by
 cases l with
 |op id sz row off=>exact h
 |os id sz off len=>exact h
 |mp id=>exact h
 |bs id n s=>exact h
 |_=>exact IR.mono hb (λ_ h=>h) h
theorem vh.lr0{W:World}{M:Nat->Prop}{l:Lf}{v:Value}(h:vh W M (λ_=>none) l v):LR W M (λ_=>none) l v:=by
 cases l with
 |fn f gZ =>
  have h':IR W M (.fn f gZ) v:=h;exact IR.lr h'
 |_=>exact h
theorem Qo7{P:Program}{g:FuncId}(h:Ij P g=true):∀args w,(callFunc g args).run P w=.ok (.enter g args) w:=by
 unfold Ij at h;cases hf:P.funcs[g]? with
 |none=>rw[hf]at h;cases h
 |some fn =>
  rw[hf]at h;simp only[ma,QbD]at h;obtain⟨c,hc⟩:=Qls.1 h.2;exact enters_of hf h.1 hc
set_option maxRecDepth 100000 in
theorem QbI(A:O Addr)(C:Nat)(fv:Value)(w:World):Calls Tryz.prog 164 #[.slice A 0 C,fv] w λe w'=>e=.returned (.int .i64 (-1))/\w'=w:=by
 go_enter Tryz.func164,Tryz.ntmps164
 go_wp2
 refine wp_loop_rounds 1 ?_
 rw[rounds_succ]
 go_wp2
 go_ret
 exact⟨rfl,rfl⟩
set_option maxRecDepth 100000 in
theorem Sx(A:O Addr)(C:Nat)(fv:Value)(w:World):Calls Tryz.prog 162 #[.slice A 0 C,fv] w λe w'=>e=.returned (.slice A 0 C)/\w'=w:=by
 have hI:=QbI A C fv w
 go_enter Tryz.func162,Tryz.ntmps162
 go_wp2_with (go_at_call 164;refine hI.mono ?_;rintro e w' ⟨rfl,rfl⟩)
 go_ret
 exact⟨rfl,rfl⟩
theorem Qa9(A:O Addr)(fv:Value)(w:World):Calls Tryz.prog 162 #[.slice A 0 0,fv] w λe w'=>e=.returned (.slice A 0 0)/\w'=w:=Sx A 0 fv w
theorem YG(b C:Nat)(fv:Value)(w:World)(hb:b<w.heap.size):Calls Tryz.prog 162 #[.slice (some ⟨b,0,none⟩) 0 C,fv] w λe w'=>e=.returned (.slice (some ⟨b,0,none⟩) 0 C)/\Below w.heap.size w w':=
 (Sx _ C fv w).mono λ_ _ ⟨h1,h2⟩=>⟨h1,by rw[h2];exact Below.refl _ _⟩
theorem Qj4{f:ag->O Bool}{g:Nat}{cap:Lf}{l v:List ag}(y4:∀y b,f y=some b->dK Tryz.prog g [.agg (ag.enc y),.one cap] [] (one (.bool b)) [])(h:YH f l=some v):
  QoQ Tryz.prog 162 [.one (.fn (.func g) [cap])] 2 158 (l.map ag.enc) (v.map ag.enc):=by
 obtain⟨hf,hv⟩:=UY h;obtain⟨p,hpd⟩:∃p:ag->Bool,p=λy=>(f y).getD false:=⟨_,rfl⟩
 have hvp:v=l.filter λy=>!p y:=by rw[hv,hpd]
 have hfp:∀y∈l,f y=some (p y):=λy hy=>by rw[hpd];exact hf y hy
 refine⟨by kernel_rfl,by rw[hvp,Qbn,Qbn];exact QmD ..,λw M A iM hr hM Qku hA=>?_,λw M b C cur iM hM hMb hb Qku hg jI hlen hC jJ hA=>?_⟩
 ·match iM,hA with
  | [fv],_ =>
   refine(Qa9 A fv w).mono ?_
   rintro e w' ⟨rfl,rfl⟩;exact⟨⟨A,rfl⟩,Below.refl _ _⟩
 ·match iM,hA with
  | [fv],⟨yu,_⟩ =>
   obtain⟨qI,rfl,Qsw⟩:LR w M (λ_=>none) (.fn (.func g) [cap]) fv:=yu
   match qI,Qsw with
   | [cv],⟨hcv,_⟩ =>
    have hH:Qc cur l:=λi y hy=>by
     have sK:=jJ i (ag.enc y) (by rw[Qc0,hy];rfl)
     obtain⟨v0,e0,r0⟩:=sK.2 0 (lI y.ready) rfl;obtain⟨v1,e1,r1⟩:=sK.2 1 (lI y.cz) rfl;have g0:v0=.int .i64 y.ready:=by cases(r0:IR w M (.int .i64 y.ready) v0);rfl
     have g1:v1=.int .i64 y.cz:=by cases(r1:IR w M (.int .i64 y.cz) v1);rfl
     subst g0 g1;exact⟨by simpa using e0,e1⟩
    rw[Qbn]at hlen ⊢;by_cases O8:l=[]
    ·subst O8;have hv0:v=[]:=by rw[hvp];rfl
     subst hv0;refine(YG b C _ w hb).mono ?_
     rintro e w' ⟨rfl,hB⟩;exact⟨rfl,hB.os,hB.tape,hB.output,hB.size,λc hc _=>hB.block c hc,cur,(hB.block b hb).trans hg,jI,λi c hc=>by cases hc⟩
    ·obtain⟨y0,hy0⟩:=List.exists_mem_of_ne_nil l O8;have y5:=(y4 y0 (p y0) (hfp y0 hy0)).1;have QpW:∀W,H7 b w W->Yl g cv p (λy=>y∈l) W:=λW hW y hy=>by
      have Qbs:∀c,M c->W.heap[c]?=w.heap[c]?:=λc hc=>hW.block c (hM c hc) λe=>hMb (e▸hc)
      have SQ:vh W M (λ_=>none) cap cv:=vh.Qqm Qbs hcv
      refine(Qew (y4 y (p y) (hfp y hy)) (w:=W) (M:=M) (iM:=[.agg #[.int .i64 y.ready,.int .i64 y.cz],cv]) (λc hc=>Qby (hM c hc) hW.size) (λc cs hc=>?_) ⟨⟨[.int .i64 y.ready,.int .i64 y.cz],rfl,IR.lr (IR.int _ _),IR.lr (IR.int _ _),trivial⟩,?_,trivial⟩).mono ?_
      ·obtain⟨a,b',t,s,h⟩:=Qku c cs hc;exact⟨a,Qby b' hW.size,t,s,(Qbs c a).trans h⟩
      ·exact vh.lr0 SQ
      ·rintro e w' ⟨v,φ',M',rfl,hv,hB⟩;have J5:IR w' M' (.bool (p y)) v:=hv;cases J5;exact⟨rfl,hB⟩
     refine(Qmr p g cv l b C cur w (Qo7 y5) QpW hg jI hH hlen hC).mono ?_
     rintro e w' ⟨rfl,hO,Km,h1,h2,h3⟩;rw[<-hvp]at h3 ⊢;refine⟨by rw[Qbn],hO.os,hO.tape,hO.output,hO.size,hO.block,Km,h1,h2,λi c hc=>?_⟩
     rw[Qc0]at hc;cases hy:v[i]? with
     |none=>rw[hy]at hc;cases hc
     |some y =>
      rw[hy]at hc;cases hc;obtain⟨e0,e1⟩:=h3 i y hy;refine⟨rfl,λj lf hj=>?_⟩
      match j,hj with
      |0,hj=>cases hj;exact⟨_,by simpa using e0,IR.int _ _⟩
      |1,hj=>cases hj;exact⟨_,e1,IR.int _ _⟩
      |j+2,hj=>cases hj
end
def Qo4:List Int:=Go.Lib.deBruijn64tab.map Int.ofNat
theorem Qec{w:World}{name:String}{k:IntKind}{zs:List Int}{g:Nat}(hg:Tryz.prog.globalNamed name=some g)(h:Go.Lib.TabIs Tryz.prog w name k zs):g<w.heap.size/\∃t s,w.heap[g]?=some (.cells (zs.map λz=>Value.int k z).toArray t s):=by
 unfold Go.Lib.TabIs World.var? at h;rw[hg]at h;simp only[Qjj]at h;have iq:g<w.heap.size:=by
  rcases sh g w.heap.size with h'|h'
  ·exact h'
  ·rw[QiQ h']at h;cases h
 refine⟨iq,?_⟩;split at h
 ·rename_i c t s hc;cases h;exact⟨_,_,hc⟩
 ·cases h
theorem Qi5{w:World}(h:laidMetH Tryz.prog [("math/bits.deBruijn32tab",Rows.laid_math_bits_deBruijn32tab),("math/bits.deBruijn64tab",Rows.laid_math_bits_deBruijn64tab),("internal/strconv.uint64pow10",Rows.laid_internal_strconv_uint64pow10)] w):∀b cs,(b,cs)∈UB->b<w.heap.size/\∃t s,w.heap[b]?=some (.cells cs t s):=by
 rw[Go.MakeChecks.laidMetH_plain _ _ _ (by kernel_rfl)]at h
 have h1:=laidMet.tail h;have h2:=laidMet.tail h1;rw[show(Rows.laid_math_bits_deBruijn64tab:DataW Unit)=Go.Lib.tabData .u8 Qo4 by kernel_rfl]at h1
 rw[show(Rows.laid_internal_strconv_uint64pow10:DataW Unit)=Go.Lib.tabData .u64 Go.Lib.pow10Tab by kernel_rfl]at h2
 have t1:=Qec (g:=2) (by kernel_rfl) (Go.Lib.tabIs_of_head (g:=2) (t:=357) (e:=5) (n:=64) (by kernel_rfl) (by kernel_rfl) Tryz.underlying357 Tryz.underlying5 (by kernel_rfl) (by kernel_rfl) h1)
 have t2:=Qec (g:=3) (by kernel_rfl) (Go.Lib.tabIs_of_head (g:=3) (t:=383) (e:=326) (n:=20) (by kernel_rfl) (by kernel_rfl) Tryz.underlying383 Tryz.underlying326 (by kernel_rfl) (by kernel_rfl) h2)
 intro b cs hb;have hm:(b,cs)=(3,(Go.Lib.pow10Tab.map λz=>Value.int .u64 z).toArray)\/(b,cs)=(2,(Qo4.map λz=>Value.int .u8 z).toArray):=by
  rcases Qbt.1 hb with h|h
  ·exact .inl (h.trans rfl)
  ·exact .inr ((Qaz.1 h).trans rfl)
 rcases hm with h|h
 ·cases h;exact t2
 ·cases h;exact t1
end Go.Proofs.YtkcilfpbgjjjbaaGreatDoor
