/- Part MS. -/
import Derived.Shelf.LaysM
import Derived.Shelf.Lays7
import Derived.Shelf.Strconv.Itoa3
import Derived.Shelf.Strings.Search2
import Derived.Shelf.Small.Strs
import Derived.Shelf.Strings.BuilderK
import Derived.Shelf.Spec.TrailingZeros
import Derived.Shelf.SlicesG.Cmp
import Derived.Shelf.SlSortCmp.WholeK
import Derived.Test.YtkcilfpbgjjjbaaGreatDoorProg
import Derived.Test.YtkcilfpbgjjjbaaGreatDoorMC
import Derived.Test.YtkcilfpbgjjjbaaGreatDoorMT
import Derived.Shelf.SlSortCmp.NoneTotal
import Derived.LoopN
import Derived.StillTailTactics
import Derived.Lib.ItoaLen
import Derived.Test.YtkcilfpbgjjjbaaGreatDoorRows
import Derived.Lib.LaidTab
import Derived.MakeChecks
import Derived.Stop.LaidErr
set_option linter.unusedSimpArgs false
set_option linter.unusedVariables false
set_option linter.unusedSectionVars false
namespace Go.Proofs.YtkcilfpbgjjjbaaGreatDoor
section
open Go.Shelf
set_option maxRecDepth 100000
def TF:Go.Shelf.Ren:=⟨fun|171=>101|243=>173|246=>223|283=>261|284=>262|285=>263|286=>264|129=>241|317=>295|318=>296|319=>297|320=>192|337=>242|338=>243|n=>n,fun|3=>3|9=>9|2=>2|4=>4|171=>341|0=>0|53=>326|37=>229|5=>5|173=>343|212=>383|51=>324|20=>20|213=>384|46=>167|232=>356|233=>357|n=>n,fun|17=>3|18=>1|19=>2|n=>n⟩
theorem VF:Go.Proofs.LaysM.n171 Tryz.prog TF:={
 mixed:=by kernel_rfl,
 f129:=Tryz.func241.trans (congrArg some (by kernel_rfl)),
 f171:=Tryz.func101.trans (congrArg some (by kernel_rfl)),
 f243:=Tryz.func173.trans (congrArg some (by kernel_rfl)),
 f246:=Tryz.func223.trans (congrArg some (by kernel_rfl)),
 f283:=Tryz.func261.trans (congrArg some (by kernel_rfl)),
 f284:=Tryz.func262.trans (congrArg some (by kernel_rfl)),
 f285:=Tryz.func263.trans (congrArg some (by kernel_rfl)),
 f286:=Tryz.func264.trans (congrArg some (by kernel_rfl)),
 f317:=Tryz.func295.trans (congrArg some (by kernel_rfl)),
 f318:=Tryz.func296.trans (congrArg some (by kernel_rfl)),
 f319:=Tryz.func297.trans (congrArg some (by kernel_rfl)),
 f320:=Tryz.func192.trans (congrArg some (by kernel_rfl)),
 f337:=Tryz.func242.trans (congrArg some (by kernel_rfl)),
 f338:=Tryz.func243.trans (congrArg some (by kernel_rfl)),
 t0:=Tryz.underlying0,
 a0:=Tryz.isAgg0,
 z0:=Tryz.sizeOf0,
 v0:=Tryz.zeroValue0,
 t2:=Tryz.underlying2,
 a2:=Tryz.isAgg2,
 z2:=Tryz.sizeOf2,
 v2:=Tryz.zeroValue2,
 t3:=Tryz.underlying3,
 a3:=Tryz.isAgg3,
 z3:=Tryz.sizeOf3,
 v3:=Tryz.zeroValue3,
 t4:=Tryz.underlying4,
 a4:=Tryz.isAgg4,
 z4:=Tryz.sizeOf4,
 v4:=Tryz.zeroValue4,
 t5:=Tryz.underlying5,
 a5:=Tryz.isAgg5,
 z5:=Tryz.sizeOf5,
 v5:=Tryz.zeroValue5,
 t9:=Tryz.underlying9,
 a9:=Tryz.isAgg9,
 z9:=Tryz.sizeOf9,
 v9:=Tryz.zeroValue9,
 t20:=Tryz.underlying20,
 a20:=Tryz.isAgg20,
 z20:=Tryz.sizeOf20,
 v20:=Tryz.zeroValue20,
 t37:=Tryz.underlying229,
 a37:=Tryz.isAgg229,
 z37:=Tryz.sizeOf229,
 v37:=Tryz.zeroValue229,
 t46:=Tryz.underlying167,
 a46:=Tryz.isAgg167,
 z46:=Tryz.sizeOf167,
 v46:=Tryz.zeroValue167,
 t51:=Tryz.underlying324,
 a51:=Tryz.isAgg324,
 z51:=Tryz.sizeOf324,
 v51:=Tryz.zeroValue324,
 t53:=Tryz.underlying326,
 a53:=Tryz.isAgg326,
 z53:=Tryz.sizeOf326,
 v53:=Tryz.zeroValue326,
 t171:=Tryz.underlying341,
 a171:=Tryz.isAgg341,
 z171:=Tryz.sizeOf341,
 v171:=Tryz.zeroValue341,
 t173:=Tryz.underlying343,
 a173:=Tryz.isAgg343,
 z173:=Tryz.sizeOf343,
 v173:=Tryz.zeroValue343,
 t212:=Tryz.underlying383,
 a212:=Tryz.isAgg383,
 z212:=Tryz.sizeOf383,
 v212:=Tryz.zeroValue383,
 t213:=Tryz.underlying384,
 a213:=Tryz.isAgg384,
 z213:=Tryz.sizeOf384,
 t232:=Tryz.underlying356,
 a232:=Tryz.isAgg356,
 z232:=Tryz.sizeOf356,
 v232:=Tryz.zeroValue356,
 t233:=Tryz.underlying357,
 a233:=Tryz.isAgg357,
 z233:=Tryz.sizeOf357,
 v233:=Tryz.zeroValue357,
 g17:=by kernel_rfl,
 g18:=by kernel_rfl,
 g19:=by kernel_rfl,
 i0:=by kernel_rfl,
 i2:=by kernel_rfl,
 i3:=by kernel_rfl,
 i4:=by kernel_rfl,
 i5:=by kernel_rfl,
 i9:=by kernel_rfl,
 i20:=by kernel_rfl,
 i37:=by kernel_rfl,
 i46:=by kernel_rfl,
 i51:=by kernel_rfl,
 i53:=by kernel_rfl,
 i171:=by kernel_rfl,
 i173:=by kernel_rfl,
 i212:=by kernel_rfl,
 i232:=by kernel_rfl,
 i233:=by kernel_rfl,
 m17:=by kernel_rfl,
 m18:=by kernel_rfl,
 m19:=by kernel_rfl}
def Q1:Go.Shelf.Ren:=⟨fun|219=>208|217=>247|225=>248|224=>249|267=>250|266=>276|314=>277|n=>n,fun|9=>9|3=>3|4=>4|5=>5|46=>167|146=>358|51=>324|n=>n,fun|1=>0|n=>n⟩
theorem QaH:Go.Proofs.Lays.n219 Tryz.prog Q1:={
 mixed:=by kernel_rfl,
 f217:=Tryz.func247.trans (congrArg some (by kernel_rfl)),
 f219:=Tryz.func208.trans (congrArg some (by kernel_rfl)),
 f224:=Tryz.func249.trans (congrArg some (by kernel_rfl)),
 f225:=Tryz.func248.trans (congrArg some (by kernel_rfl)),
 f266:=Tryz.func276.trans (congrArg some (by kernel_rfl)),
 f267:=Tryz.func250.trans (congrArg some (by kernel_rfl)),
 f314:=Tryz.func277.trans (congrArg some (by kernel_rfl)),
 t3:=Tryz.underlying3,
 a3:=Tryz.isAgg3,
 z3:=Tryz.sizeOf3,
 v3:=Tryz.zeroValue3,
 t4:=Tryz.underlying4,
 a4:=Tryz.isAgg4,
 z4:=Tryz.sizeOf4,
 v4:=Tryz.zeroValue4,
 t5:=Tryz.underlying5,
 a5:=Tryz.isAgg5,
 z5:=Tryz.sizeOf5,
 v5:=Tryz.zeroValue5,
 t9:=Tryz.underlying9,
 a9:=Tryz.isAgg9,
 z9:=Tryz.sizeOf9,
 v9:=Tryz.zeroValue9,
 t46:=Tryz.underlying167,
 a46:=Tryz.isAgg167,
 z46:=Tryz.sizeOf167,
 v46:=Tryz.zeroValue167,
 t51:=Tryz.underlying324,
 a51:=Tryz.isAgg324,
 z51:=Tryz.sizeOf324,
 v51:=Tryz.zeroValue324,
 t146:=Tryz.underlying358,
 a146:=Tryz.isAgg358,
 z146:=Tryz.sizeOf358,
 v146:=Tryz.zeroValue358,
 g1:=by kernel_rfl}
def VE:Go.Shelf.Ren:=⟨fun|106=>181|213=>229|265=>270|n=>n,fun|9=>9|3=>3|n=>n,fun|n=>n⟩
theorem Qe4:Go.Proofs.Lays.n106 Tryz.prog VE:={
 mixed:=by kernel_rfl,
 f106:=Tryz.func181.trans (congrArg some (by kernel_rfl)),
 f213:=Tryz.func229.trans (congrArg some (by kernel_rfl)),
 f265:=Tryz.func270.trans (congrArg some (by kernel_rfl)),
 t3:=Tryz.underlying3,
 a3:=Tryz.isAgg3,
 z3:=Tryz.sizeOf3,
 v3:=Tryz.zeroValue3,
 t9:=Tryz.underlying9,
 a9:=Tryz.isAgg9,
 z9:=Tryz.sizeOf9,
 v9:=Tryz.zeroValue9}
def H4:Go.Shelf.Ren:=⟨fun|166=>225|240=>265|276=>298|n=>n,fun|70=>303|9=>9|3=>3|75=>307|0=>0|72=>305|37=>229|4=>4|164=>385|80=>189|5=>5|n=>n,fun|n=>n⟩
theorem QaI:Go.Proofs.Lays.n166 Tryz.prog H4:={
 mixed:=by kernel_rfl,
 f166:=Tryz.func225.trans (congrArg some (by kernel_rfl)),
 f240:=Tryz.func265.trans (congrArg some (by kernel_rfl)),
 f276:=Tryz.func298.trans (congrArg some (by kernel_rfl)),
 t0:=Tryz.underlying0,
 a0:=Tryz.isAgg0,
 z0:=Tryz.sizeOf0,
 v0:=Tryz.zeroValue0,
 t3:=Tryz.underlying3,
 a3:=Tryz.isAgg3,
 z3:=Tryz.sizeOf3,
 v3:=Tryz.zeroValue3,
 t4:=Tryz.underlying4,
 a4:=Tryz.isAgg4,
 z4:=Tryz.sizeOf4,
 v4:=Tryz.zeroValue4,
 t9:=Tryz.underlying9,
 a9:=Tryz.isAgg9,
 z9:=Tryz.sizeOf9,
 v9:=Tryz.zeroValue9,
 t20:=Tryz.underlying20,
 a20:=Tryz.isAgg20,
 z20:=Tryz.sizeOf20,
 v20:=Tryz.zeroValue20,
 t37:=Tryz.underlying229,
 a37:=Tryz.isAgg229,
 z37:=Tryz.sizeOf229,
 v37:=Tryz.zeroValue229,
 t70:=Tryz.underlying303,
 a70:=Tryz.isAgg303,
 z70:=Tryz.sizeOf303,
 v70:=Tryz.zeroValue303,
 t72:=Tryz.underlying305,
 a72:=Tryz.isAgg305,
 z72:=Tryz.sizeOf305,
 v72:=Tryz.zeroValue305,
 t75:=Tryz.underlying307,
 a75:=Tryz.isAgg307,
 z75:=Tryz.sizeOf307,
 v75:=Tryz.zeroValue307,
 t164:=Tryz.underlying385,
 a164:=Tryz.isAgg385,
 z164:=Tryz.sizeOf385,
 v164:=Tryz.zeroValue385}
def FL:Go.Shelf.Ren:=⟨fun|169=>227|n=>n,fun|70=>303|9=>9|0=>0|72=>305|37=>229|127=>349|3=>3|5=>5|n=>n,fun|n=>n⟩
theorem X1:Go.Proofs.Lays.n169 Tryz.prog FL:={
 mixed:=by kernel_rfl,
 f169:=Tryz.func227.trans (congrArg some (by kernel_rfl)),
 t0:=Tryz.underlying0,
 a0:=Tryz.isAgg0,
 z0:=Tryz.sizeOf0,
 v0:=Tryz.zeroValue0,
 t3:=Tryz.underlying3,
 a3:=Tryz.isAgg3,
 z3:=Tryz.sizeOf3,
 v3:=Tryz.zeroValue3,
 t9:=Tryz.underlying9,
 a9:=Tryz.isAgg9,
 z9:=Tryz.sizeOf9,
 v9:=Tryz.zeroValue9,
 t37:=Tryz.underlying229,
 a37:=Tryz.isAgg229,
 z37:=Tryz.sizeOf229,
 v37:=Tryz.zeroValue229,
 t70:=Tryz.underlying303,
 a70:=Tryz.isAgg303,
 z70:=Tryz.sizeOf303,
 v70:=Tryz.zeroValue303,
 t72:=Tryz.underlying305,
 a72:=Tryz.isAgg305,
 z72:=Tryz.sizeOf305,
 v72:=Tryz.zeroValue305,
 t127:=Tryz.underlying349,
 a127:=Tryz.isAgg349,
 z127:=Tryz.sizeOf349,
 v127:=Tryz.zeroValue349}
def X2:Go.Shelf.Ren:=⟨fun|29=>243|n=>n,fun|22=>326|3=>3|4=>4|25=>167|54=>357|0=>0|5=>5|n=>n,fun|1=>2|n=>n⟩
theorem QcP:Go.Proofs.Lays7.n29 Tryz.prog X2:={
 mixed:=by kernel_rfl,
 f29:=Tryz.func243.trans (congrArg some (by kernel_rfl)),
 t0:=Tryz.underlying0,
 a0:=Tryz.isAgg0,
 z0:=Tryz.sizeOf0,
 v0:=Tryz.zeroValue0,
 i0:=by kernel_rfl,
 t3:=Tryz.underlying3,
 a3:=Tryz.isAgg3,
 z3:=Tryz.sizeOf3,
 v3:=Tryz.zeroValue3,
 i3:=by kernel_rfl,
 t4:=Tryz.underlying4,
 a4:=Tryz.isAgg4,
 z4:=Tryz.sizeOf4,
 v4:=Tryz.zeroValue4,
 i4:=by kernel_rfl,
 t5:=Tryz.underlying5,
 a5:=Tryz.isAgg5,
 z5:=Tryz.sizeOf5,
 v5:=Tryz.zeroValue5,
 i5:=by kernel_rfl,
 t22:=Tryz.underlying326,
 a22:=Tryz.isAgg326,
 z22:=Tryz.sizeOf326,
 v22:=Tryz.zeroValue326,
 i22:=by kernel_rfl,
 t25:=Tryz.underlying167,
 a25:=Tryz.isAgg167,
 z25:=Tryz.sizeOf167,
 v25:=Tryz.zeroValue167,
 i25:=by kernel_rfl,
 t54:=Tryz.underlying357,
 a54:=Tryz.isAgg357,
 z54:=Tryz.sizeOf357,
 g1:=by kernel_rfl}
def TE:Go.Shelf.Ren:=⟨fun|5=>29|7=>74|n=>n,fun|22=>3|3=>3|4=>4|n=>n,fun|n=>n⟩
theorem Ko:Go.Proofs.SlLaysC2.n5 Tryz.prog TE:={
 mixed:=by kernel_rfl,
 f5:=⟨("cmp.Compare[int]"),by decide,Tryz.func29.trans (congrArg some (by kernel_rfl))⟩,
 f7:=⟨("cmp.isNaN[int]"),by decide,Tryz.func74.trans (congrArg some (by kernel_rfl))⟩,
 t3:=Tryz.underlying3,
 a3:=Tryz.isAgg3,
 z3:=Tryz.sizeOf3,
 v3:=Tryz.zeroValue3,
 t4:=Tryz.underlying4,
 a4:=Tryz.isAgg4,
 z4:=Tryz.sizeOf4,
 v4:=Tryz.zeroValue4,
 t22:=Tryz.underlying3,
 a22:=Tryz.isAgg3,
 z22:=Tryz.sizeOf3,
 v22:=Tryz.zeroValue3}
def TG:Go.Shelf.Ren:=⟨fun|6=>120|15=>191|14=>190|28=>240|29=>241|20=>232|21=>233|22=>234|23=>235|24=>236|25=>237|26=>238|27=>239|46=>271|47=>272|48=>273|49=>274|50=>275|57=>302|n=>n,fun|22=>42|24=>50|25=>210|3=>3|39=>167|0=>0|53=>324|55=>326|4=>4|46=>318|45=>317|50=>226|5=>5|9=>9|66=>350|70=>354|76=>390|77=>391|n=>n,fun|n=>n⟩
theorem VG:Go.Proofs.SlLaysF0.n6 Tryz.prog TG:={
 mixed:=by kernel_rfl,
 f6:=⟨("slices.SortFunc[[]lorry/api.Column,lorry/api.Column]"),by decide,Tryz.func120.trans (congrArg some (by kernel_rfl))⟩,
 f14:=⟨("slices.pdqsortCmpFunc[lorry/api.Column]"),by decide,Tryz.func190.trans (congrArg some (by kernel_rfl))⟩,
 f15:=Tryz.func191.trans (congrArg some (by kernel_rfl)),
 f20:=⟨("slices.insertionSortCmpFunc[lorry/api.Column]"),by decide,Tryz.func232.trans (congrArg some (by kernel_rfl))⟩,
 f21:=⟨("slices.heapSortCmpFunc[lorry/api.Column]"),by decide,Tryz.func233.trans (congrArg some (by kernel_rfl))⟩,
 f22:=⟨("slices.breakPatternsCmpFunc[lorry/api.Column]"),by decide,Tryz.func234.trans (congrArg some (by kernel_rfl))⟩,
 f23:=⟨("slices.choosePivotCmpFunc[lorry/api.Column]"),by decide,Tryz.func235.trans (congrArg some (by kernel_rfl))⟩,
 f24:=⟨("slices.reverseRangeCmpFunc[lorry/api.Column]"),by decide,Tryz.func236.trans (congrArg some (by kernel_rfl))⟩,
 f25:=⟨("slices.partialInsertionSortCmpFunc[lorry/api.Column]"),by decide,Tryz.func237.trans (congrArg some (by kernel_rfl))⟩,
 f26:=⟨("slices.partitionEqualCmpFunc[lorry/api.Column]"),by decide,Tryz.func238.trans (congrArg some (by kernel_rfl))⟩,
 f27:=⟨("slices.partitionCmpFunc[lorry/api.Column]"),by decide,Tryz.func239.trans (congrArg some (by kernel_rfl))⟩,
 f28:=Tryz.func240.trans (congrArg some (by kernel_rfl)),
 f29:=Tryz.func241.trans (congrArg some (by kernel_rfl)),
 f46:=⟨("slices.siftDownCmpFunc[lorry/api.Column]"),by decide,Tryz.func271.trans (congrArg some (by kernel_rfl))⟩,
 f47:=Tryz.func272.trans (congrArg some (by kernel_rfl)),
 f48:=Tryz.func273.trans (congrArg some (by kernel_rfl)),
 f49:=⟨("slices.medianAdjacentCmpFunc[lorry/api.Column]"),by decide,Tryz.func274.trans (congrArg some (by kernel_rfl))⟩,
 f50:=⟨("slices.medianCmpFunc[lorry/api.Column]"),by decide,Tryz.func275.trans (congrArg some (by kernel_rfl))⟩,
 f57:=⟨("slices.order2CmpFunc[lorry/api.Column]"),by decide,Tryz.func302.trans (congrArg some (by kernel_rfl))⟩,
 t0:=Tryz.underlying0,
 a0:=Tryz.isAgg0,
 z0:=Tryz.sizeOf0,
 v0:=Tryz.zeroValue0,
 t3:=Tryz.underlying3,
 a3:=Tryz.isAgg3,
 z3:=Tryz.sizeOf3,
 v3:=Tryz.zeroValue3,
 t4:=Tryz.underlying4,
 a4:=Tryz.isAgg4,
 z4:=Tryz.sizeOf4,
 v4:=Tryz.zeroValue4,
 t5:=Tryz.underlying5,
 a5:=Tryz.isAgg5,
 z5:=Tryz.sizeOf5,
 v5:=Tryz.zeroValue5,
 t9:=Tryz.underlying9,
 a9:=Tryz.isAgg9,
 z9:=Tryz.sizeOf9,
 v9:=Tryz.zeroValue9,
 t22:=Tryz.underlying42,
 a22:=Tryz.isAgg42,
 z22:=Tryz.sizeOf42,
 v22:=Tryz.zeroValue42,
 t25:=Tryz.underlying210,
 a25:=Tryz.isAgg210,
 z25:=Tryz.sizeOf210,
 v25:=Tryz.zeroValue210,
 t39:=Tryz.underlying167,
 a39:=Tryz.isAgg167,
 z39:=Tryz.sizeOf167,
 v39:=Tryz.zeroValue167,
 t45:=Tryz.underlying317,
 a45:=Tryz.isAgg317,
 z45:=Tryz.sizeOf317,
 v45:=Tryz.zeroValue317,
 t46:=Tryz.underlying318,
 a46:=Tryz.isAgg318,
 z46:=Tryz.sizeOf318,
 v46:=Tryz.zeroValue318,
 t50:=Tryz.underlying226,
 a50:=Tryz.isAgg226,
 z50:=Tryz.sizeOf226,
 v50:=Tryz.zeroValue226,
 t53:=Tryz.underlying324,
 a53:=Tryz.isAgg324,
 z53:=Tryz.sizeOf324,
 v53:=Tryz.zeroValue324,
 t55:=Tryz.underlying326,
 a55:=Tryz.isAgg326,
 z55:=Tryz.sizeOf326,
 v55:=Tryz.zeroValue326,
 t66:=Tryz.underlying350,
 a66:=Tryz.isAgg350,
 z66:=Tryz.sizeOf350,
 v66:=Tryz.zeroValue350,
 t70:=Tryz.underlying354,
 a70:=Tryz.isAgg354,
 z70:=Tryz.sizeOf354,
 v70:=Tryz.zeroValue354,
 t76:=Tryz.underlying390,
 a76:=Tryz.isAgg390,
 z76:=Tryz.sizeOf390,
 v76:=Tryz.zeroValue390,
 t77:=Tryz.underlying391,
 a77:=Tryz.isAgg391,
 z77:=Tryz.sizeOf391,
 v77:=Tryz.zeroValue391}
end
section
open Go.RowKit Go.Shelf Go.Sort Go.Lib
section
variable {α : Type}
theorem T5{enc:Value→Value}{d cur:Array Value}{j:Nat}(hj:j<d.size)(hc:j<cur.size):(putCells enc 0 d cur)[j]?=some (enc d[j]!):=by
 unfold putCells;rw[Array.getElem?_mapIdx,Array.getElem?_eq_getElem hc];simp [hj]
theorem Ri{enc:Value→Value}{d cur:Array Value}{off:Nat}:(putCells enc off d cur).size=cur.size:=by simp [putCells]
theorem VO{w:World}{b:Nat}{f:Array Value→Array Value}{cur:Array Value}{e:TypeId}{s:Nat×Nat}(h:w.heap[b]?=some (.cells cur e s)):(mapBlock w b f).heap[b]?=some (.cells (f cur) e s):=by
 unfold mapBlock;simp only[Array.getElem?_modify,if_true,h,Option.map_some];rfl
theorem FT{w:World}{b c:Nat}{f:Array Value→Array Value}(h:c≠b):(mapBlock w b f).heap[c]?=w.heap[c]?:=by
 unfold mapBlock;simp only[Array.getElem?_modify];rw[if_neg (Ne.symm h)]
theorem V1{n:Nat}{D:Array Nat}(h:PermIn 0 n (Array.range n) D):D.size=n∧D.toList.Perm (List.range n):=by
 obtain⟨h1,-,h3⟩:=h;rw[Array.size_range]at h1;have e1:D.extract 0 n=D:=by rw[←h1];simp
 have e2:(Array.range n).extract 0 n=Array.range n:=by
  have:=Array.extract_size (xs:=Array.range n);rwa [Array.size_range]at this
 rw[e1,e2]at h3;exact⟨h1,by simpa using h3⟩
theorem Tl{β γ:Type}{g:β→Option γ}{h:β→γ}(hg:∀x,g x=some (h x)):∀{l:List β},l.filterMap g=l.map h
 | []=>rfl
 |x ::l=>by rw[List.filterMap_cons,hg x,List.map_cons,Tl hg]
theorem Qds{f:α→α→Option Int}{cf:α→α→Int}(hf:∀a b,f a b=some (cf a b))(hO:SWO fun a b=>decide (cf a b<0))(l:List α)(h0:0<l.length):SWO (ltOf (cfI f l)):=by
 have key:∀i j,∃a b,l[i % l.length]?=some a∧l[j % l.length]?=some b∧ltOf (cfI f l) i j=decide (cf a b<0):=fun i j=>by
  have hi:=Nat.mod_lt i h0;have hj:=Nat.mod_lt j h0;refine⟨_,_,List.getElem?_eq_getElem hi,List.getElem?_eq_getElem hj,?_⟩;unfold ltOf cfI;simp only[List.getElem?_eq_getElem hi,List.getElem?_eq_getElem hj,hf,Option.getD_some]
 refine⟨fun i=>?_,fun i j k h1 h2=>?_,fun i j k h1 h2=>?_⟩
 ·obtain⟨a,b,g1,g2,g3⟩:=key i i;rw[g1]at g2;cases g2;rw[g3];exact hO.irrefl a
 ·obtain⟨a,b,g1,g2,g3⟩:=key i j;obtain⟨b',c,k1,k2,k3⟩:=key j k;rw[g2]at k1;cases k1;obtain⟨a',c',m1,m2,m3⟩:=key i k;rw[g1]at m1;cases m1;rw[k2]at m2;cases m2;rw[g3]at h1;rw[k3]at h2;rw[m3];exact hO.trans _ _ _ h1 h2
 ·obtain⟨a,b,g1,g2,g3⟩:=key i j;obtain⟨b',c,k1,k2,k3⟩:=key j k;rw[g2]at k1;cases k1;obtain⟨a',c',m1,m2,m3⟩:=key i k;rw[g1]at m1;cases m1;rw[k2]at m2;cases m2;rw[g3]at h1;rw[k3]at h2;rw[m3];exact hO.ntrans _ _ _ h1 h2
theorem Gv{f:α→α→Option Int}{cf:α→α→Int}(hf:∀a b,f a b=some (cf a b))(hO:SWO fun a b=>decide (cf a b<0))(l:List α)(h0:0<l.length):(D5 f l).size=l.length∧(D5 f l).toList.Perm (List.range l.length):=by
 have h:=pdq_sorts (ltOf (cfI f l)) (Qds hf hO l h0) (Array.range l.length) 0 l.length (Lib.bitLen l.length) true true (Nat.zero_le _) (by simp) (Or.inl rfl)
 exact V1 h.1
theorem SI{f:α→α→Option Int}{cf:α→α→Int}(hf:∀a b,f a b=some (cf a b))(hO:SWO fun a b=>decide (cf a b<0)){l v:List α}(h:y1 f l=some v):
  v.length=l.length∧(0<l.length→∀(i:Nat) (a:α),v[i]?=some a→∃d,(D5 f l)[i]?=some d∧l[d % l.length]?=some a):=by
 unfold y1 at h;split at h
 ·split at h
  ·rename_i h0;obtain rfl:=Option.some.inj h;exact⟨rfl,fun hp=>by omega⟩
  ·rename_i h0;obtain rfl:=Option.some.inj h;have hp:0<l.length:=by omega
   have hm:(D5 f l).toList.filterMap (fun i=>l[i % l.length]?)=(D5 f l).toList.map (fun i=>l[i % l.length]'(Nat.mod_lt i hp)):=by
    exact Tl fun i=>List.getElem?_eq_getElem (Nat.mod_lt i hp)
   rw[hm];refine⟨by simp [(Gv hf hO l hp).1],fun _ i a hi=>?_⟩
   rw[List.getElem?_map]at hi;cases hd:(D5 f l).toList[i]? with
   |none=>rw[hd]at hi;cases hi
   |some d =>
    rw[hd]at hi;exact⟨d,by simpa using hd,by rw[List.getElem?_eq_getElem (Nat.mod_lt d hp)];exact hi⟩
 ·cases h
theorem YD{f:α→α→Option Int}{cf:α→α→Int}(hf:∀a b,f a b=some (cf a b))(hO:SWO fun a b=>decide (cf a b<0)){l v:List α}(h:y1 f l=some v):v.Perm l:=by
 unfold y1 at h;split at h
 ·split at h
  ·obtain rfl:=Option.some.inj h;exact List.Perm.refl _
  ·rename_i h0;obtain rfl:=Option.some.inj h;have hp:0<l.length:=by omega
   refine((Gv hf hO l hp).2.filterMap _).trans (List.Perm.of_eq ?_);apply List.ext_getElem?;intro i;have hm:(List.range l.length).filterMap (fun i=>l[i % l.length]?)=(List.range l.length).map (fun i=>l[i % l.length]'(Nat.mod_lt i hp)):=by
    exact Tl fun i=>List.getElem?_eq_getElem (Nat.mod_lt i hp)
   rw[hm,List.getElem?_map];rcases Nat.lt_or_ge i l.length with hi|hi
   ·rw[List.getElem?_range hi,List.getElem?_eq_getElem hi];simp [Nat.mod_eq_of_lt hi]
   ·rw[List.getElem?_eq_none (by simpa using hi),List.getElem?_eq_none hi];rfl
 ·cases h
theorem R0{P:Program}{ρ:Ren}(L:SlLaysF0.n6 P ρ)(k:Nat)(Vw:0<k)(aE:∀w,(isAgg (ρ.t 24)).run P w=.ok true w)(zE:∀w,(Go.sizeOf (ρ.t 24)).run P w=.ok k w)(Ey:TypeId){enc:α→List Lf}(g:FuncId){f:α→α→Option Int}{cf:α→α→Int}
  (hf:∀a b,f a b=some (cf a b)) (hO:SWO fun a b=>decide (cf a b<0)) (Qjn:Ij P (ρ.f 6)=true) (eg:∀args w,(callFunc g args).run P w=.ok (.enter g args) w)
  (Qhm:∀ (a b:α) (va vb:List Value) (w W:World) (M:Nat→Prop),Rs (IR w M) (enc a) va→Rs (IR w M) (enc b) vb→(∀ c cs,(c,cs)∈Rv→c<W.heap.size∧∃ t s,W.heap[c]?=some (.cells cs t s)) →
   Calls P g #[.agg va.toArray,.agg vb.toArray] W fun e w'=>e=.returned (.int .i64 (cf a b))∧∃q os',w'=grow (W.drewN q) os')
  {l v:List α} (h:y1 f l=some v):Qd4 P (ρ.f 6) [.one (.fn (.func g) [])] k Ey (l.map enc) (v.map enc):=by
 obtain⟨hvl,hvg⟩:=SI hf hO h;have hfn:∀{w:World} {M:Nat→Prop} {gX:List Value},Rs (CR w M (fun _=>none)) [.one (.fn (.func g) [])] gX→gX=[.func (.func g) #[] #[]]:=fun{w M gX} hr=>by
  match gX,hr with
  | [v],⟨h1,_⟩ =>
   obtain⟨vs,rfl,h2⟩:=(h1:LR w M _ (.fn (.func g) []) v);cases vs with
   |nil=>rfl
   |cons _ _=>exact h2.elim
 refine⟨Qjn,by rw[List.length_map,List.length_map,hvl],fun w M A gX h0 hM hr=>?_,fun w M b C cur gX hM hMb hb ht Kh Vv hlC hCm iL hr=>?_⟩
 ·rw[hfn hr];refine(AnyF.slices_SortFunc_none L A 0 _ w).mono ?_
  rintro e w' ⟨rfl,rfl⟩;exact⟨rfl,Below.refl _ _⟩
 ·rw[hfn hr];rw[List.length_map]at hlC ⊢;have Qmh:l.length<4611686018427387904:=by
   unfold y1 at h;split at h
   ·assumption
   ·cases h
  by_cases h0:l.length=0
  ·have hl:l=[]:=List.eq_nil_of_length_eq_zero h0;subst hl;have hv:v=[]:=List.eq_nil_of_length_eq_zero (by rw[hvl];rfl)
   subst hv;refine(AnyF.slices_SortFunc_none L (some ⟨b,0,none⟩) C _ w).mono ?_
   rintro e w' ⟨rfl,rfl⟩;exact⟨rfl,rfl,rfl,rfl,Nat.le_refl _,fun _ _ _=>rfl,cur,Kh,Vv,fun i c hi=>by simp at hi⟩
  ·have hp:0<l.length:=by omega
   let Hg:Nat→List Value:=fun i=>(List.range k).map fun j=>cur[(i % l.length)*k+j]!
   have hel:∀i,(Hg i).length=k:=fun i=>by simp [Hg]
   have pM:∀(i:Nat) (a:α),l[i % l.length]?=some a→(enc a).length=k∧Rs (IR w M) (enc a) (Hg i):=fun i a ha=>by
    obtain⟨q1,q2⟩:=iL (i % l.length) (enc a) (by rw[List.getElem?_map,ha];rfl)
    refine⟨q1,Rs.Qc7 (by rw[hel,q1]) fun j x y hx hy=>?_⟩
    obtain⟨u,hu,hr⟩:=q2 j x hx;have hj:j<k:=by rw[←q1];exact(List.getElem?_eq_some_iff.1 hx).1
    have WV:y=cur[(i % l.length)*k+j]!:=by
     simp only[Hg,List.getElem?_map,List.getElem?_range hj,Option.map_some]at hy;exact(Option.some.inj hy).symm
    have hu':cur[(i % l.length)*k+j]! = u:=by
     rw[Array.getElem!_eq_getD,Array.getD_eq_getD_getElem?,hu];rfl
    rw[WV,hu'];exact hr
   have hat:∀i,∃a,l[i % l.length]?=some a:=fun i=>⟨_,List.getElem?_eq_getElem (Nat.mod_lt i hp)⟩
   have h1:∀i,∀u∈Hg i,u.oneCell'=true:=fun i u hu=>by
    obtain⟨a,ha⟩:=hat i;obtain⟨j,hj⟩:=List.mem_iff_getElem?.1 hu;have jU:=(List.getElem?_eq_some_iff.1 hj).1;obtain⟨q1,q2⟩:=pM i a ha;obtain⟨y,hy,hr⟩:=q2.get (i:=j) (List.getElem?_eq_getElem (by rw[q1,←hel i];exact jU))
    rw[hj]at hy;cases hy;exact hr.one
   have hnk:l.length*k≤cur.size:=by rw[Vv];exact Nat.mul_le_mul_right _ hlC
   have Ni:∀(D:Array Nat) (t:Nat),t<D.size*k→(flatK Hg k D)[t]! = cur[(D[t / k]! % l.length)*k+t % k]!:=fun D t ht=>by
    rw[get_flatK _ _ _ _ ht];have:=Nat.mod_lt t Vw;simp [Hg,this]
   have hH:HoldsK Hg k w b 0 (Array.range l.length):=fun j hj=>by
    rw[size_flatK,Array.size_range]at hj;have hdiv:j / k<l.length:=by rw[Nat.div_lt_iff_lt_mul Vw];exact hj
    have hjc:j<cur.size:=Nat.lt_of_lt_of_le hj hnk;refine⟨?_,by simp [World.frozen?,Kh]⟩
    have e1:((flatK Hg k (Array.range l.length))[j]!)=cur[j]!:=by
     rw[Ni _ _ (by rw[Array.size_range];exact hj)]
     congr 1;have:(Array.range l.length)[j / k]! = j / k:=by simp [hdiv]
     rw[this,Nat.mod_eq_of_lt hdiv,Nat.mul_comm];exact Nat.div_add_mod j k
    show w.cell? ⟨b,0+j,none⟩=some (id _);rw[e1];simp [World.cell?,Kh,hjc]
   have QlS:CmpLays P g #[] Hg k (cfI f l) b 0 (Array.range l.length).size w:=fun m os dk hs x y=>by
    obtain⟨a,ha⟩:=hat x;obtain⟨c,hc⟩:=hat y;have hcf:cfI f l x y=cf a c:=by unfold cfI;rw[ha,hc];simp only[hf,Option.getD_some]
    rw[hcf,Array.append_empty];refine Qhm a c _ _ w _ M (pM x a ha).2 (pM y c hc).2 fun z cs hz=>?_
    obtain⟨t1,t2,t,s,t3⟩:=ht z cs hz;refine⟨by simp [sortWorldK,putRowK,putRow,mapBlock,Sort.ahead,Sort.grow];omega,t,s,?_⟩
    have rR:z≠b:=fun e=>hMb (e▸t1)
    unfold sortWorldK putRowK putRow;rw[heap_grow_old _ _ (by simp [mapBlock,Sort.ahead];exact t2),FT rR]
    exact t3
   have hS:=AnyQ.slices_SortFunc_eq L k aE zE Hg hel h1 (cfI f l) (Qds hf hO l hp) g #[] b 0 C (Array.range l.length) w eg QlS hH hb (by rw[Array.size_range];exact Qmh)
   rw[Array.size_range]at hS;refine hS.mono ?_
   rintro e w' ⟨rfl,m,os,rfl⟩;obtain⟨hDs,hDp⟩:=Gv hf hO l hp;have hD:pdq (ltOf (cfI f l)) (Array.range l.length) 0 l.length (Lib.bitLen l.length) true true=D5 f l:=rfl;rw[hD];generalize D5 f l=D at *;have jU:b<(putRowK Hg k (Sort.ahead w m) b 0 D).heap.size:=by simp [putRowK,putRow,mapBlock,Sort.ahead];exact hb
   have hblk:(sortWorldK Hg k w b 0 m D os).heap[b]?=some (.cells (putCells id 0 (flatK Hg k D) cur) Ey (0,0)):=by
    unfold sortWorldK;rw[heap_grow_old _ _ jU];exact VO Kh
   refine⟨rfl,rfl,rfl,rfl,by simp [sortWorldK,putRowK,putRow,mapBlock,Sort.ahead,Sort.grow],fun c hc rR=>?_,_,hblk,by rw[Ri];exact Vv,fun i c hi=>?_⟩
   ·unfold sortWorldK putRowK putRow;rw[heap_grow_old _ _ (by simp [mapBlock,Sort.ahead];exact hc),FT rR]
    rfl
   ·rw[List.getElem?_map]at hi;cases hvi:v[i]? with
    |none=>rw[hvi]at hi;cases hi
    |some a =>
     rw[hvi]at hi;obtain rfl:=Option.some.inj hi;obtain⟨d,hd,hla⟩:=hvg hp i a hvi;obtain⟨q1,q2⟩:=pM d a hla;refine⟨q1,fun j x hx=>?_⟩
     obtain⟨u,hu,hr⟩:=q2.get hx;have hj:j<k:=by rw[←q1];exact(List.getElem?_eq_some_iff.1 hx).1
     have hiD:i<D.size:=(Array.getElem?_eq_some_iff.1 hd).1;have hle:(i+1)*k≤D.size*k:=Nat.mul_le_mul_right _ hiD;rw[Nat.add_mul,Nat.one_mul]at hle;have Ot:i*k+j<D.size*k:=by omega
     refine⟨u,?_,hr⟩;rw[T5 (by rw[size_flatK];exact Ot) (by rw[hDs]at Ot;omega)]
     have hdv:(i*k+j) / k=i:=by rw[Nat.mul_comm,Nat.mul_add_div Vw,Nat.div_eq_of_lt hj];omega
     have hmd:(i*k+j) % k=j:=by rw[Nat.mul_comm,Nat.mul_add_mod,Nat.mod_eq_of_lt hj]
     have hDi:D[i]! = d:=by rw[Array.getElem!_eq_getD,Array.getD_eq_getD_getElem?,hd];rfl
     show some ((flatK Hg k D)[i*k+j]!)=some u;rw[Ni _ _ Ot,hdv,hmd,hDi];simp only[Hg,List.getElem?_map,List.getElem?_range hj,Option.map_some]at hu;exact hu
theorem Zv{f:α→α→Option Int}{cf:α→α→Int}(hf:∀a b,f a b=some (cf a b))(hO:SWO fun a b=>decide (cf a b<0)){l v:List α}(e:α→List Lf)(h:y1 f l=some v):(l.map e).length=(v.map e).length:=by
 rw[List.length_map,List.length_map,(SI hf hO h).1]
end
end
section
open Go.RowKit
theorem ZT:(3,(Go.Lib.pow10Tab.map fun z=>Value.int .u64 z).toArray)∈Rv:=.head _
theorem ZU:(2,(Go.Lib.deBruijn64tab.map fun(z:Nat)=>Value.int .u8 z).toArray)∈Rv:=.tail _ (.head _)
theorem zi{P:Program}{f:FuncId}{args:List Cm}{r:AV}(hk:Ij P f=true)
  (h:∀ (w:World) (M0:Nat→Prop) (φ:Pl) (gX:List Value),(∀ b cs,(b,cs)∈Rv→∃ t s,w.heap[b]?=some (.cells cs t s))→Rs (CR w M0 φ) args gX →
   Calls P f gX.toArray w fun e w'=>∃v,e=.returned v∧AR w' M0 φ r v∧Below w.heap.size w w'):dv P f args [] r []:=by
 refine⟨hk,fun w φ M0 gX hW hφ hA=>(h w M0 φ gX (fun b cs hb=>(hW.tab b cs hb).2.2) hA).mono ?_⟩
 rintro e w' ⟨v,rfl,hr,hb⟩;have hh:hl []=fun id=>([]:List Ob)[id]?:=by funext id;simp [hl]
 exact⟨v,φ,M0,rfl,hr,by rw[hh];exact hW.grow hb,hφ⟩
section
variable {w : World} {M : Nat → Prop} {φ : Pl}
theorem Te{s:ByteArray}{v:Value}(h:CR w M φ (.one (.str s)) v):v=.string s:=by
 have h':IR w M (.str s) v:=h;cases h';rfl
theorem Qb3{k:IntKind}{n:Int}{v:Value}(h:CR w M φ (.one (.int k n)) v):v=.int k n:=by
 have h':IR w M (.int k n) v:=h;cases h';rfl
end
theorem VD{w:World}(h:∃t s,w.heap[3]?=some (.cells (Go.Lib.pow10Tab.map fun z=>Value.int .u64 z).toArray t s)):Go.Lib.TabIs Tryz.prog w "internal/strconv.uint64pow10" .u64 Go.Lib.pow10Tab:=by
 obtain⟨t,s,h⟩:=h;unfold Go.Lib.TabIs World.var?;rw[show Tryz.prog.globalNamed "internal/strconv.uint64pow10"=some 3 by kernel_rfl]
 simp only[Option.bind_some,h]
theorem Zr{n:Int}{rv:ByteArray}(h:PD n=some rv):dv Tryz.prog 101 [.one (.int .i64 n)] [] (.cm (.one (.str rv))) []:=by
 by_cases hn:0≤n∧n≤9223372036854775807
 case neg=>unfold PD at h;rw[if_neg hn]at h;cases h
 rw[VC hn]at h;obtain rfl:=Option.some.inj h;refine zi (by kernel_rfl) fun w M0 φ gX ht hA=>?_
 match gX,hA with
 | [v],⟨r0,_⟩ =>
  obtain rfl:=Qb3 r0;refine Calls.mono (Any.strconv_Itoa VF n (by omega) hn.2 w (VD (ht _ _ ZT))) ?_
  rintro e w' ⟨rfl,k,os,rfl⟩;exact⟨_,rfl,IR.lr (φ:=φ) (IR.str _),⟨rfl,rfl,rfl,by simp [Go.Sort.grow],fun b hb=>Go.Sort.heap_grow_old _ _ hb⟩⟩
theorem TB{a b:ByteArray}{rv:Int}(h:QeV a b=some rv):dv Tryz.prog 208 [.one (.str a),.one (.str b)] [] (.cm (.one (.int .i64 rv))) []:=by
 unfold QeV at h;split at h
 ·rename_i c hc;obtain rfl:=Option.some.inj h;refine zi (by kernel_rfl) fun w M0 φ gX ht hA=>?_
  match gX,hA with
  | [v1,v2],⟨r1,r2,_⟩ =>
   obtain rfl:=Te r1;obtain rfl:=Te r2;have hb:b=⟨#[c]⟩:=by
    cases b with|mk d=>cases d with|mk l=>exact congrArg (fun l=>ByteArray.mk ⟨l⟩) hc
   subst hb;refine Calls.mono (Any.stringslite_Index_one QaH a c w) ?_
   rintro e w' ⟨rfl,rfl⟩;exact⟨_,rfl,IR.lr (φ:=φ) (IR.int _ _),Below.refl _ _⟩
 ·cases h
theorem Qek{a b:ByteArray}{rv:Int}(h:Qi_ a b=some rv):dv Tryz.prog 181 [.one (.str a),.one (.str b)] [] (.cm (.one (.int .i64 rv))) []:=by
 obtain rfl:=Option.some.inj h;refine zi (by kernel_rfl) fun w M0 φ gX ht hA=>?_
 match gX,hA with
 | [v1,v2],⟨r1,r2,_⟩ =>
  obtain rfl:=Te r1;obtain rfl:=Te r2;refine Calls.mono (Any.strings_Compare Qe4 a b w) ?_
  rintro e w' ⟨rfl,rfl⟩;exact⟨_,rfl,IR.lr (φ:=φ) (IR.int _ _),Below.refl _ _⟩
theorem Qdx{w:World}(h:∃t s,w.heap[2]?=some (.cells (Go.Lib.deBruijn64tab.map fun(z:Nat)=>Value.int .u8 z).toArray t s)):TabAt 2 Go.Lib.deBruijn64tab w:=by
 obtain⟨t,s,h⟩:=h;intro j hj;simp [World.cell?,h,hj]
theorem Qit{n rv:Int}(h:tzM n=some rv):dv Tryz.prog 243 [.one (.int .u64 n)] [] (.cm (.one (.int .i64 rv))) []:=by
 unfold tzM at h;split at h
 ·rename_i hn;obtain rfl:=Option.some.inj h;refine zi (by kernel_rfl) fun w M0 φ gX ht hA=>?_
  match gX,hA with
  | [v],⟨r0,_⟩ =>
   obtain rfl:=Qb3 r0;obtain⟨k,rfl⟩:∃k:Nat,n=k:=⟨n.toNat,by omega⟩
   refine Calls.mono (Any7.bits_TrailingZeros64 QcP k (by omega) w fun _=>Qdx (ht _ _ ZU)) ?_
   rintro e w' ⟨rfl,rfl⟩;exact⟨_,rfl,IR.lr (φ:=φ) (IR.int _ _),Below.refl _ _⟩
 ·cases h
section
open Go.Lib Go.Sort Go.Shelf
set_option maxHeartbeats 1000000 in
theorem QgB(x y:Int)(W:World)(b:Nat)(h0:W.cell? ⟨b,0,none⟩=some (.int .i64 x))(h1:W.cell? ⟨b,1,none⟩=some (.int .i64 y)):Calls Tryz.prog 122 #[.slice (some ⟨b,0,none⟩) 2 2] W fun e w'=>e=.returned (.int .i64 (if x=0 then y else x))∧w'=W:=by
 by_cases hx:x=0
 ·rw[if_pos hx];subst hx;by_cases hy:y=0
  ·subst hy
   go_enter Tryz.func122,Tryz.ntmps122
   go_wp2
   refine wp_loop_rounds 3 ?_
   rw[rounds_succ]
   go_wp2
   rw[rounds_succ]
   go_wp2
   rw[rounds_succ]
   go_wp2
   go_ret
   exact⟨rfl,rfl⟩
  ·have hb:(y != 0)=true:=by simpa using hy
   go_enter Tryz.func122,Tryz.ntmps122
   go_wp2
   refine wp_loop_rounds 3 ?_
   rw[rounds_succ]
   go_wp2
   rw[rounds_succ]
   go_wp2
   go_ret
   exact⟨rfl,rfl⟩
 ·rw[if_neg hx];have hb:(x != 0)=true:=by simpa using hx
  go_enter Tryz.func122,Tryz.ntmps122
  go_wp2
  refine wp_loop_rounds 3 ?_
  rw[rounds_succ]
  go_wp2
  go_ret
  exact⟨rfl,rfl⟩
theorem Nz{P:Program}{id:Nat}{Q:Exit→Act→World→Prop}{a:Act}{w:World}{l:List Oper}(n:Nat)(hm:P.follows .mixedOrders=true)(hB:Region.lexTailB .any l.toArray n=true)
  (h:wpStill P l.toArray w.drew (fun a'=>wpList P l.toArray Q (l.drop n) a' w.drew) (l.take n) a):(Code.region id l.toArray true).wp P Q a w:=wp_region_still_tail n hm hB h
set_option maxRecDepth 100000 in
set_option maxHeartbeats 1000000 in
theorem QgX(t1 s1 t2 s2:Int)(p3 p4 p5 p6 p7 q3 q4 q5 q6 q7:Value)(W:World)(hp:p3.oneCell'=true∧p4.oneCell'=true∧p5.oneCell'=true∧p6.oneCell'=true∧p7.oneCell'=true)(hq:q3.oneCell'=true∧q4.oneCell'=true∧q5.oneCell'=true∧q6.oneCell'=true∧q7.oneCell'=true):
  Calls Tryz.prog 230 #[.agg #[.int .i64 t1,.int .i64 s1,p3,p4,p5,p6,p7],.agg #[.int .i64 t2,.int .i64 s2,q3,q4,q5,q6,q7]] W fun e w'=>e=.returned (.int .i64 (if Lib.compareInt t1 t2=0 then Lib.compareInt s1 s2 else Lib.compareInt t1 t2))∧∃q os',w'=grow (W.drewN q) os':=by
 have Uu:=fun W'=>AnyG.cmp_Compare_int Ko t1 t2 W'
 have Ay:=fun W'=>AnyG.cmp_Compare_int Ko s1 s2 W'
 change ∀W',Calls Tryz.prog 29 _ _ _ at Uu
 change ∀W',Calls Tryz.prog 29 _ _ _ at Ay
 generalize Lib.compareInt t1 t2=r1 at Uu ⊢;generalize Lib.compareInt s1 s2=r2 at Ay ⊢;have ho:=fun W b h0 h1=>QgB r1 r2 W b h0 h1
 generalize(if r1=0 then r2 else r1)=r at ho ⊢
 obtain⟨e3,e4,e5,e6,e7⟩:=hp;obtain⟨f3,f4,f5,f6,f7⟩:=hq
 go_enter Tryz.func230,Tryz.ntmps230
 go_wp2
 generalize Vr:(W.alloc (Obj.cells #[Value.int IntKind.i64 t1,Value.int IntKind.i64 s1,p3,p4,p5,p6,p7] 50)).alloc (Obj.cells #[Value.int IntKind.i64 t2,Value.int IntKind.i64 s2,q3,q4,q5,q6,q7] 50)=W2;have g:W2=grow W #[Obj.cells #[Value.int IntKind.i64 t1,Value.int IntKind.i64 s1,p3,p4,p5,p6,p7] 50,Obj.cells #[Value.int IntKind.i64 t2,Value.int IntKind.i64 s2,q3,q4,q5,q6,q7] 50]:=by rw[←Vr,alloc_eq_grow,alloc_eq_grow,grow_grow];rfl
 have c0:W2.cell? ⟨W.heap.size,0,none⟩=some (.int .i64 t1):=by rw[g];simp [World.cell?,grow,Array.getElem?_append]
 have c1:W2.cell? ⟨W.heap.size,1,none⟩=some (.int .i64 s1):=by rw[g];simp [World.cell?,grow,Array.getElem?_append]
 have c2:W2.cell? ⟨W.heap.size+1,0,none⟩=some (.int .i64 t2):=by rw[g];simp [World.cell?,grow,Array.getElem?_append]
 have c3:W2.cell? ⟨W.heap.size+1,1,none⟩=some (.int .i64 s2):=by rw[g];simp [World.cell?,grow,Array.getElem?_append]
 clear Vr;refine Nz 10 (by kernel_rfl) (by kernel_rfl) ?_
 simp only[List.take_succ_cons,List.take_zero,List.drop_succ_cons,List.drop_zero];have hg3:∃os,W2.drew=grow (W.drewN 1) os:=⟨_,by rw[g];rfl⟩
 replace c0:W2.drew.cell? ⟨W.heap.size,0,none⟩=some (.int .i64 t1):=c0;replace c1:W2.drew.cell? ⟨W.heap.size,1,none⟩=some (.int .i64 s1):=c1;replace c2:W2.drew.cell? ⟨W.heap.size+1,0,none⟩=some (.int .i64 t2):=c2;replace c3:W2.drew.cell? ⟨W.heap.size+1,1,none⟩=some (.int .i64 s2):=c3;generalize W2.drew=W3 at *;clear g
 still_step
 still_step
 still_step
 still_step
 still_call (Uu _)
 still_step
 still_step
 still_step
 still_step
 still_call (Ay _)
 refine wpStill_nil ?_
 go_wp2_with fail
 go_at_call 122
 refine(ho _ W3.heap.size ?_ ?_).mono ?_
 ·simp only[World.cell?,heap_alloc_new];rfl
 ·simp only[World.cell?,heap_alloc_new];rfl
 ·rintro e w' ⟨rfl,rfl⟩
  go_wp2_with fail
  go_ret
  obtain⟨os,hos⟩:=hg3;refine⟨rfl,1,os++#[.cells #[.int .i64 r1,.int .i64 r2] 3],?_⟩;rw[hos,alloc_eq_grow,grow_grow]
def u5(s:Int):Int:=if s≤0 then -1 else(Lib.ctz 64 (IntKind.u64.wrap s).toNat:Nat)
set_option maxHeartbeats 1000000 in
theorem VI(s:Int)(W:World)(hT:TabAt 2 Lib.deBruijn64tab W):Calls Tryz.prog 123 #[.int .i64 s] W fun e w'=>e=.returned (.int .i64 (u5 s))∧w'=W:=by
 unfold u5;by_cases h0:s≤0
 ·rw[if_pos h0]
  go_enter Tryz.func123,Tryz.ntmps123
  go_wp2
  go_ret
  exact⟨rfl,rfl⟩
 ·rw[if_neg h0];obtain⟨k,hk,hw⟩:∃k:Nat,k<18446744073709551616∧IntKind.u64.wrap s=(k:Int):=by
   refine⟨(s % 18446744073709551616).toNat,?_,?_⟩
   ·omega
   ·rw[IntKind.wrap_u64];omega
  rw[hw,Int.toNat_natCast];have QeG:=Any7.bits_TrailingZeros64 QcP k hk W fun _=>hT
  change Calls Tryz.prog 243 _ _ _ at QeG
  generalize Lib.ctz 64 k=r at QeG ⊢;have Qlp:Calls Tryz.prog 192 #[.int .u64 k] W fun e w'=>e=.returned (.int .i64 r)∧w'=W:=by
   clear h0 hw
   go_enter Tryz.func192,Tryz.ntmps192
   go_wp2_with (go_at_call 243;refine QeG.mono ?_;rintro e w' ⟨rfl,rfl⟩)
   go_ret
   exact⟨rfl,rfl⟩
  clear QeG
  go_enter Tryz.func123,Tryz.ntmps123
  go_wp2_with (go_at_call 192;refine Qlp.mono ?_;rintro e w' ⟨rfl,rfl⟩)
  go_ret
  exact⟨rfl,rfl⟩
set_option maxRecDepth 100000 in
set_option maxHeartbeats 1000000 in
theorem QgW(t1 s1 t2 s2:Int)(p3 p4 p5 p6 p7 q3 q4 q5 q6 q7:Value)(W:World)(Oq:2<W.heap.size)(hT:TabAt 2 Lib.deBruijn64tab W)(hp:p3.oneCell'=true∧p4.oneCell'=true∧p5.oneCell'=true∧p6.oneCell'=true∧p7.oneCell'=true)(hq:q3.oneCell'=true∧q4.oneCell'=true∧q5.oneCell'=true∧q6.oneCell'=true∧q7.oneCell'=true):
  Calls Tryz.prog 121 #[.agg #[.int .i64 t1,.int .i64 s1,p3,p4,p5,p6,p7],.agg #[.int .i64 t2,.int .i64 s2,q3,q4,q5,q6,q7]] W fun e w'=>e=.returned (.int .i64 (if Lib.compareInt t1 t2=0 then Lib.compareInt (u5 s1) (u5 s2)else Lib.compareInt t1 t2))∧∃q os',w'=grow (W.drewN q) os':=by
 have hl1:=fun W'=>VI s1 W'
 have Zf:=fun W'=>VI s2 W'
 have Uu:=fun W'=>AnyG.cmp_Compare_int Ko t1 t2 W'
 have Ay:=fun W'=>AnyG.cmp_Compare_int Ko (u5 s1) (u5 s2) W'
 change ∀W',Calls Tryz.prog 29 _ _ _ at Uu
 change ∀W',Calls Tryz.prog 29 _ _ _ at Ay
 generalize u5 s1=m1 at *;generalize u5 s2=m2 at *;generalize Lib.compareInt t1 t2=r1 at Uu ⊢;generalize Lib.compareInt m1 m2=r2 at Ay ⊢;have ho:=fun W b h0 h1=>QgB r1 r2 W b h0 h1
 generalize(if r1=0 then r2 else r1)=r at ho ⊢
 obtain⟨e3,e4,e5,e6,e7⟩:=hp;obtain⟨f3,f4,f5,f6,f7⟩:=hq
 go_enter Tryz.func121,Tryz.ntmps121
 go_wp2
 generalize Vr:(W.alloc (Obj.cells #[Value.int IntKind.i64 t1,Value.int IntKind.i64 s1,p3,p4,p5,p6,p7] 50)).alloc (Obj.cells #[Value.int IntKind.i64 t2,Value.int IntKind.i64 s2,q3,q4,q5,q6,q7] 50)=W2;have g:W2=grow W #[Obj.cells #[Value.int IntKind.i64 t1,Value.int IntKind.i64 s1,p3,p4,p5,p6,p7] 50,Obj.cells #[Value.int IntKind.i64 t2,Value.int IntKind.i64 s2,q3,q4,q5,q6,q7] 50]:=by rw[←Vr,alloc_eq_grow,alloc_eq_grow,grow_grow];rfl
 have c0:W2.cell? ⟨W.heap.size,0,none⟩=some (.int .i64 t1):=by rw[g];simp [World.cell?,grow,Array.getElem?_append]
 have c1:W2.cell? ⟨W.heap.size,1,none⟩=some (.int .i64 s1):=by rw[g];simp [World.cell?,grow,Array.getElem?_append]
 have c2:W2.cell? ⟨W.heap.size+1,0,none⟩=some (.int .i64 t2):=by rw[g];simp [World.cell?,grow,Array.getElem?_append]
 have c3:W2.cell? ⟨W.heap.size+1,1,none⟩=some (.int .i64 s2):=by rw[g];simp [World.cell?,grow,Array.getElem?_append]
 have hT2:TabAt 2 Lib.deBruijn64tab W2.drew:=fun j hj=>by
  have:=hT j hj;rw[g];simp only[World.cell?,World.drew,grow]at this ⊢;rw[Array.getElem?_append_left Oq];exact this
 clear Vr;refine Nz 12 (by kernel_rfl) (by kernel_rfl) ?_
 simp only[List.take_succ_cons,List.take_zero,List.drop_succ_cons,List.drop_zero];have hg3:∃os,W2.drew=grow (W.drewN 1) os:=⟨_,by rw[g];rfl⟩
 replace c0:W2.drew.cell? ⟨W.heap.size,0,none⟩=some (.int .i64 t1):=c0;replace c1:W2.drew.cell? ⟨W.heap.size,1,none⟩=some (.int .i64 s1):=c1;replace c2:W2.drew.cell? ⟨W.heap.size+1,0,none⟩=some (.int .i64 t2):=c2;replace c3:W2.drew.cell? ⟨W.heap.size+1,1,none⟩=some (.int .i64 s2):=c3;generalize W2.drew=W3 at *;clear g
 still_step
 still_step
 still_step
 still_step
 still_call (Uu _)
 still_step
 still_step
 still_call (hl1 _ hT2)
 still_step
 still_step
 still_call (Zf _ hT2)
 still_call (Ay _)
 refine wpStill_nil ?_
 go_wp2_with fail
 go_at_call 122
 refine(ho _ W3.heap.size ?_ ?_).mono ?_
 ·simp only[World.cell?,heap_alloc_new];rfl
 ·simp only[World.cell?,heap_alloc_new];rfl
 ·rintro e w' ⟨rfl,rfl⟩
  go_wp2_with fail
  go_ret
  obtain⟨os,hos⟩:=hg3;refine⟨rfl,1,os++#[.cells #[.int .i64 r1,.int .i64 r2] 3],?_⟩;rw[hos,alloc_eq_grow,grow_grow]
end
section
open Go.Lib Go.Sort
theorem Og(x y:Int):dR x y=some (Lib.compareInt x y):=by
 unfold dR pE Lib.compareInt;have e1:cr x x=false:=by simp [cr]
 have e2:cr y y=false:=by simp [cr]
 rw[e1,e2];show br (bh x y) _ _=_;by_cases h1:x<y
 ·rw[bD (by simpa [bh]using h1),if_pos h1]
 ·rw[bq (by simpa [bh]using h1),if_neg h1]
  by_cases h2:x>y
  ·rw[bD (by simpa [dp]using h2),if_pos h2]
  ·rw[bq (by simpa [dp]using h2),if_neg h2]
def orV(x y:Int):Int:=if x=0 then y else x
theorem Qc_(x y:Int):fh [x,y] 0=br (cr x 0) (some (.inr (.inr x))) (some (.inl 1)):=rfl
theorem Qh7(x y:Int):fh [x,y] 1=br (cr y 0) (some (.inr (.inr y))) (some (.inl 2)):=rfl
theorem RJ(x y:Int):ot [x,y]=some (orV x y):=by
 unfold ot orV;by_cases hx:x=0
 ·rw[if_pos hx];have h0:cr x 0=false:=by simpa [cr]using hx
  by_cases hy:y=0
  ·rw[hx,hy];rfl
  ·have hn:cr y 0=true:=by simpa [cr]using hy
   have h2:aL (fun s=>fh [x,y] s) 0=some (.inr y):=by
    refine ya 2 (by decide) ?_
    simp only[qs,Qc_,bq h0,Qh7,bD hn]
   rw[ct h2];rfl
 ·rw[if_neg hx];have hn:cr x 0=true:=by simpa [cr]using hx
  have h2:aL (fun s=>fh [x,y] s) 0=some (.inr x):=by
   refine ya 1 (by decide) ?_
   simp only[qs,Qc_,bD hn]
  rw[ct h2];rfl
theorem PG(s:Int):nA s=some (u5 s):=by
 unfold nA u5;by_cases h:s≤0
 ·rw[bD (by simpa [fT]using h),if_pos h]
 ·rw[bq (by simpa [fT]using h),if_neg h]
  have hw:0≤IntKind.u64.wrap s∧IntKind.u64.wrap s<18446744073709551616:=by rw[IntKind.wrap_u64];omega
  have h2:bits_TrailingZeros (Ax .u64 s)=some ((Lib.ctz 64 (IntKind.u64.wrap s).toNat:Nat):Int):=by
   unfold bits_TrailingZeros tzM Ax;rw[if_pos hw];rfl
  rw[ct h2]
def cf1(a b:af):Int:=orV (Lib.compareInt a.aY b.aY) (Lib.compareInt a.bz b.bz)
def cf2(a b:af):Int:=orV (Lib.compareInt a.aY b.aY) (Lib.compareInt (u5 a.bz) (u5 b.bz))
theorem Xq(a b:af):pK a b=some (cf1 a b):=by
 unfold pK cf1;rw[ct (Og _ _),ct (Og _ _),ct (RJ _ _)]
theorem Xr(a b:af):rX a b=some (cf2 a b):=by
 unfold rX cf2;rw[ct (Og _ _),ct (PG _),ct (PG _),ct (Og _ _),ct (RJ _ _)]
theorem lex_lt(x y z t:Int):(orV (Lib.compareInt x y) (Lib.compareInt z t)<0)↔(x<y∨(x=y∧z<t)):=by
 unfold orV Lib.compareInt
 repeat' split
 all_goals omega
theorem ZS{α:Type}(p q:α→Int):Go.Sort.SWO fun a b=>decide (orV (Lib.compareInt (p a) (p b)) (Lib.compareInt (q a) (q b))<0):=by
 refine⟨fun x=>?_,fun x y z h1 h2=>?_,fun x y z h1 h2=>?_⟩
 ·simp only[decide_eq_false_iff_not,lex_lt];omega
 ·simp only[decide_eq_true_eq,lex_lt]at *;omega
 ·simp only[decide_eq_false_iff_not,lex_lt]at *;omega
theorem Qip:Go.Sort.SWO fun a b=>decide (cf1 a b<0):=ZS (α:=af) (·.aY) (·.bz)
theorem Qiq:Go.Sort.SWO fun a b=>decide (cf2 a b<0):=ZS (α:=af) (·.aY) fun a=>u5 a.bz
theorem GU{w:World}{M:Nat→Prop}{a:af}{va:List Value}(h:Rs (IR w M) (af.enc a) va):
  ∃p3 p4 p5 p6 p7,va=[.int .i64 a.aY,.int .i64 a.bz,p3,p4,p5,p6,p7]∧(p3.oneCell'=true∧p4.oneCell'=true∧p5.oneCell'=true∧p6.oneCell'=true∧p7.oneCell'=true):=by
 match va,h with
 | [v1,v2,v3,v4,v5,v6,v7],⟨h1,h2,h3,h4,h5,h6,h7,_⟩ =>
  have e1:v1=.int .i64 a.aY:=by
   have h':IR w M (.int .i64 a.aY) v1:=h1;cases h';rfl
  have e2:v2=.int .i64 a.bz:=by
   have h':IR w M (.int .i64 a.bz) v2:=h2;cases h';rfl
  subst e1 e2;exact⟨v3,v4,v5,v6,v7,rfl,h3.one,h4.one,h5.one,h6.one,h7.one⟩
theorem BS{l v:List af}(h:y1 pK l=some v):Qd4 Tryz.prog 120 [.one (.fn (.func 230) [])] 7 50 (l.map af.enc) (v.map af.enc):=by
 refine R0 VG 7 (by decide) Tryz.isAgg50 Tryz.sizeOf50 50 230 Xq Qip (by kernel_rfl) (enters_of Tryz.func230 (by kernel_rfl) rfl) (fun a b va vb w W M ha hb ht=>?_) h
 obtain⟨p3,p4,p5,p6,p7,rfl,hp⟩:=GU ha;obtain⟨q3,q4,q5,q6,q7,rfl,hq⟩:=GU hb;exact QgX _ _ _ _ _ _ _ _ _ _ _ _ _ _ W hp hq
theorem D6{l v:List af}(h:y1 rX l=some v):Qd4 Tryz.prog 120 [.one (.fn (.func 121) [])] 7 50 (l.map af.enc) (v.map af.enc):=by
 refine R0 VG 7 (by decide) Tryz.isAgg50 Tryz.sizeOf50 50 121 Xr Qiq (by kernel_rfl) (enters_of Tryz.func121 (by kernel_rfl) rfl) (fun a b va vb w W M ha hb ht=>?_) h
 obtain⟨p3,p4,p5,p6,p7,rfl,hp⟩:=GU ha;obtain⟨q3,q4,q5,q6,q7,rfl,hq⟩:=GU hb;obtain⟨t1,t2⟩:=ht _ _ ZU;exact QgW _ _ _ _ _ _ _ _ _ _ _ _ _ _ W t1 (Qdx t2) hp hq
theorem Ct{l v:List af}(e:af→List Lf)(h:y1 pK l=some v):(l.map e).length=(v.map e).length:=Zv Xq Qip e h
theorem ED{l v:List af}(e:af→List Lf)(h:y1 rX l=some v):(l.map e).length=(v.map e).length:=Zv Xr Qiq e h
end
section
open Go.Lib Go.Sort Go.Shelf
theorem Qg3:Builder.Extra Tryz.prog H4:={sizeBuilder:=by kernel_rfl,liesBuilder:=by kernel_rfl,t5:=Tryz.underlying5,a5:=Tryz.isAgg5,z5:=Tryz.sizeOf5,v5:=Tryz.zeroValue5,infoByte:=by kernel_rfl,cellsByte:=by kernel_rfl,sizeByte:=by kernel_rfl,neB5:=by decide}
theorem Qg2:Builder.Extra Tryz.prog FL:={sizeBuilder:=by kernel_rfl,liesBuilder:=by kernel_rfl,t5:=Tryz.underlying5,a5:=Tryz.isAgg5,z5:=Tryz.sizeOf5,v5:=Tryz.zeroValue5,infoByte:=by kernel_rfl,cellsByte:=by kernel_rfl,sizeByte:=by kernel_rfl,neB5:=by decide}
set_option maxHeartbeats 1000000 in
set_option maxRecDepth 100000 in
theorem Ya(A:Option Addr)(cap:Nat)(w:World):Calls Tryz.prog 176 #[.slice A 0 cap] w fun e w'=>e=.returned (.string ⟨#[48]⟩)∧w'=w:=by
 go_enter Tryz.func176,Tryz.ntmps176
 go_wp2
 go_ret
 exact⟨rfl,rfl⟩
set_option maxHeartbeats 1000000 in
set_option maxRecDepth 100000 in
theorem Yb(n:Int)(s:ByteArray)(b o cap:Nat)(w:World)(hc:w.cell? ⟨b,o,none⟩=some (.int .i64 n))(hs:s.size≤100)(ht:∃t s,w.heap[3]?=some (.cells (Go.Lib.pow10Tab.map fun z=>Value.int .u64 z).toArray t s))
  (hI:∀W:World,(∃t s,W.heap[3]?=some (.cells (Go.Lib.pow10Tab.map fun z=>Value.int .u64 z).toArray t s))→Calls Tryz.prog 101 #[.int .i64 n] W fun e w'=>e=.returned (.string s)∧∃k os,w'=grow (W.drewN k) os):
  Calls Tryz.prog 176 #[.slice (some ⟨b,o,none⟩) 1 cap] w fun e w'=>e=.returned (.string s)∧Below w.heap.size w w':=by
 have hb:b<w.heap.size:=by
  rcases Nat.lt_or_ge b w.heap.size with h|h
  ·exact h
  ·simp [World.cell?,Array.getElem?_eq_none h]at hc
 have h3:3<w.heap.size:=by
  obtain⟨_,_,ht⟩:=ht;exact(Array.getElem?_eq_some_iff.1 ht).1
 go_enter Tryz.func176,Tryz.ntmps176
 go_wp2_with fail
 refine(hI _ ?_).mono ?_
 ·obtain⟨t,s,ht⟩:=ht;exact⟨t,s,by rw[Lib.alloc_old _ _ _ h3];exact ht⟩
 rintro e W1 ⟨rfl,k,os,hW1⟩;have hB0:W1.heap[w.heap.size]?=some (.cells #[.pointer none,.slice none 0 0] 305 (0,0)):=by
  rw[hW1,heap_grow_old _ _ (by simp)]
  exact heap_alloc_new w _
 have EA:Below w.heap.size w W1:=by
  rw[hW1];have h1:Below w.heap.size w (w.alloc (.cells #[.pointer none,.slice none 0 0] 305)):=qn w _;refine⟨h1.os,h1.tape,h1.output,by simp;omega,fun c hc=>?_⟩
  rw[heap_grow_old _ _ (by simp;omega)]
  exact h1.block c hc
 clear hW1 hI;have hIs:Lib.IsBuilderF 305 5 w.heap.size w.heap.size [] W1:=.inl ⟨Nat.le_refl _,_,hB0,World.ownsRowF_nil _ _ _ _,by simp [Value.ownBlock]⟩
 have hWr:=Any.Builder_WriteString_k QaI Qg3 w.heap.size w.heap.size [] s W1 hIs (by simp;omega) EA.size
 change Calls Tryz.prog 225 _ _ _ at hWr
 go_wp2_with fail
 refine hWr.mono ?_
 rintro e W2 ⟨rfl,hA2,Oq,-⟩;clear hWr hIs hB0;replace hA2:Lib.BuilderAtF 305 5 w.heap.size w.heap.size (.pointer (some ⟨w.heap.size,0,none⟩)) ([]++Lib.strCells s) W2:=hA2;have QlA:Lib.IsBuilderF 305 5 w.heap.size w.heap.size (Lib.byteCells s.data.toList) W2:=.inr (by simpa [Lib.strCells_eq]using hA2)
 have hSt:=Any.Builder_String_any_k X1 Qg2 w.heap.size w.heap.size s.data.toList W2 QlA (EA.trans Oq).size
 change Calls Tryz.prog 227 _ _ _ at hSt
 go_wp2_with fail
 refine wp_loop_rounds 1 ?_
 rw[rounds_succ]
 go_wp2_with fail
 refine hSt.mono ?_
 rintro e W3 ⟨rfl,-,hb3,-⟩
 go_wp2_with fail
 go_ret
 exact⟨rfl,(EA.trans Oq).trans hb3⟩
theorem QaE(n:Int)(hn:0≤n∧n≤9223372036854775807):(⟨(Go.Lib.itoa n).toArray⟩:ByteArray).size≤100:=by
 have:=Go.Lib.itoa_length_le n (by omega) hn.2
 show(Go.Lib.itoa n).toArray.size≤100;simp;omega
theorem G4{l:List Int}{rv:ByteArray}(h:PO l=some rv):dv Tryz.prog 176 [.one (.sl false 1 (l.map ai))] [] (.cm (.one (.str rv))) []:=by
 unfold PO at h;split at h
 ·obtain rfl:=Option.some.inj h;refine zi (by kernel_rfl) fun w M0 φ gX ht hA=>?_
  match gX,hA with
  | [v],⟨r0,_⟩ =>
   have r0':IR w M0 (.sl false 1 []) v:=r0;obtain⟨A,cap,rfl⟩:∃A cap,v=.slice A 0 cap:=by
    cases r0' with
    |OJ _ _ a cap _=>exact⟨a,cap,rfl⟩
    |sl _ _ _ b o cap _ _ _ _ _ _ _=>exact⟨_,cap,rfl⟩
   refine(Ya A cap w).mono ?_
   rintro e w' ⟨rfl,rfl⟩;exact⟨_,rfl,IR.lr (φ:=φ) (IR.str _),Below.refl _ _⟩
 ·rename_i n;by_cases hn:0≤n∧n≤9223372036854775807
  case neg=>unfold PD at h;rw[if_neg hn]at h;cases h
  rw[VC hn]at h;obtain rfl:=Option.some.inj h;refine zi (by kernel_rfl) fun w M0 φ gX ht hA=>?_
  match gX,hA with
  | [v],⟨r0,_⟩ =>
   have r0':IR w M0 (.sl false 1 [[.int .i64 n]]) v:=r0;cases r0' with
   |sl _ _ _ b o cap vs hm hl Ee Jy hc hr =>
    have hc0:=hc 0 [.int .i64 n] 0 (.int .i64 n) rfl rfl;have xo:=hr 0 [.int .i64 n] 0 (.int .i64 n) rfl rfl;generalize vs 0 0=u at hc0 xo;cases xo;have Uu:w.cell? ⟨b,o,none⟩=some (.int .i64 n):=by simpa using hc0
    refine(Yb n _ b o cap w Uu (QaE n hn) (ht _ _ ZT) fun W hW=>?_).mono ?_
    ·exact Any.strconv_Itoa VF n (by omega) hn.2 W (VD hW)
    ·rintro e w' ⟨rfl,hb⟩;exact⟨_,rfl,IR.lr (φ:=φ) (IR.str _),hb⟩
 ·cases h
end
end
def Qjb:List Int:=Go.Lib.deBruijn64tab.map Int.ofNat
theorem ZV{w:World}{name:String}{k:IntKind}{zs:List Int}{g:Nat}(hg:Tryz.prog.globalNamed name=some g)(h:Go.Lib.TabIs Tryz.prog w name k zs):g<w.heap.size∧∃t s,w.heap[g]?=some (.cells (zs.map fun z=>Value.int k z).toArray t s):=by
 unfold Go.Lib.TabIs World.var? at h;rw[hg]at h;simp only[Option.bind_some]at h;have jU:g<w.heap.size:=by
  rcases Nat.lt_or_ge g w.heap.size with h'|h'
  ·exact h'
  ·rw[Array.getElem?_eq_none h']at h;cases h
 refine⟨jU,?_⟩;split at h
 ·rename_i c t s hc;cases h;exact⟨_,_,hc⟩
 ·cases h
theorem Qdt{w:World}(h:laidMetH Tryz.prog [("math/bits.deBruijn32tab",Rows.laid_math_bits_deBruijn32tab),("math/bits.deBruijn64tab",Rows.laid_math_bits_deBruijn64tab),("internal/strconv.uint64pow10",Rows.laid_internal_strconv_uint64pow10)] w):∀b cs,(b,cs)∈Rv→b<w.heap.size∧∃t s,w.heap[b]?=some (.cells cs t s):=by
 rw[Go.MakeChecks.laidMetH_plain _ _ _ (by kernel_rfl)]at h
 have h1:=laidMet.tail h;have h2:=laidMet.tail h1;rw[show(Rows.laid_math_bits_deBruijn64tab:DataW Unit)=Go.Lib.tabData .u8 Qjb by kernel_rfl]at h1
 rw[show(Rows.laid_internal_strconv_uint64pow10:DataW Unit)=Go.Lib.tabData .u64 Go.Lib.pow10Tab by kernel_rfl]at h2
 have t1:=ZV (g:=2) (by kernel_rfl) (Go.Lib.tabIs_of_head (g:=2) (t:=357) (e:=5) (n:=64) (by kernel_rfl) (by kernel_rfl) Tryz.underlying357 Tryz.underlying5 (by kernel_rfl) (by kernel_rfl) h1)
 have t2:=ZV (g:=3) (by kernel_rfl) (Go.Lib.tabIs_of_head (g:=3) (t:=383) (e:=326) (n:=20) (by kernel_rfl) (by kernel_rfl) Tryz.underlying383 Tryz.underlying326 (by kernel_rfl) (by kernel_rfl) h2)
 intro b cs hb;have hm:(b,cs)=(3,(Go.Lib.pow10Tab.map fun z=>Value.int .u64 z).toArray)∨(b,cs)=(2,(Qjb.map fun z=>Value.int .u8 z).toArray):=by
  rcases List.mem_cons.1 hb with h|h
  ·exact .inl (h.trans rfl)
  ·exact .inr ((List.mem_singleton.1 h).trans rfl)
 rcases hm with h|h
 ·cases h;exact t2
 ·cases h;exact t1
end Go.Proofs.YtkcilfpbgjjjbaaGreatDoor
