/- Part MI of the proof: texts Lay Ito. -/
import Derived.Shelf.LaysM
import Derived.Shelf.Strconv.Itoa3
import Derived.Test.YtpkkaboonnedfaaDoorProg
import Derived.Test.YtpkkaboonnedfaaDoorMC
import Derived.Test.YtpkkaboonnedfaaDoorMT
namespace Go.Proofs.YtpkkaboonnedfaaDoor
open Go.Shelf
set_option maxRecDepth 100000
def Qhj:Go.Shelf.Ren:=⟨fun|171=>27|243=>37|246=>43|283=>46|284=>47|285=>48|286=>49|129=>51|317=>50|318=>52|319=>53|320=>54|337=>55|338=>56|n=>n,fun|3=>3|9=>9|2=>2|4=>4|171=>78|0=>0|53=>79|37=>72|5=>5|173=>82|212=>87|51=>88|20=>20|213=>89|46=>84|232=>92|233=>93|n=>n,fun|17=>0|18=>1|19=>2|n=>n⟩
theorem QkL:Go.Proofs.LaysM.n171 Tryd.prog Qhj:={
 mixed:=by kernel_rfl,
 f129:=Tryd.func51.trans (congrArg some (by kernel_rfl)),
 f171:=Tryd.func27.trans (congrArg some (by kernel_rfl)),
 f243:=Tryd.func37.trans (congrArg some (by kernel_rfl)),
 f246:=Tryd.func43.trans (congrArg some (by kernel_rfl)),
 f283:=Tryd.func46.trans (congrArg some (by kernel_rfl)),
 f284:=Tryd.func47.trans (congrArg some (by kernel_rfl)),
 f285:=Tryd.func48.trans (congrArg some (by kernel_rfl)),
 f286:=Tryd.func49.trans (congrArg some (by kernel_rfl)),
 f317:=Tryd.func50.trans (congrArg some (by kernel_rfl)),
 f318:=Tryd.func52.trans (congrArg some (by kernel_rfl)),
 f319:=Tryd.func53.trans (congrArg some (by kernel_rfl)),
 f320:=Tryd.func54.trans (congrArg some (by kernel_rfl)),
 f337:=Tryd.func55.trans (congrArg some (by kernel_rfl)),
 f338:=Tryd.func56.trans (congrArg some (by kernel_rfl)),
 t0:=Tryd.underlying0,
 a0:=Tryd.isAgg0,
 z0:=Tryd.sizeOf0,
 v0:=Tryd.zeroValue0,
 t2:=Tryd.underlying2,
 a2:=Tryd.isAgg2,
 z2:=Tryd.sizeOf2,
 v2:=Tryd.zeroValue2,
 t3:=Tryd.underlying3,
 a3:=Tryd.isAgg3,
 z3:=Tryd.sizeOf3,
 v3:=Tryd.zeroValue3,
 t4:=Tryd.underlying4,
 a4:=Tryd.isAgg4,
 z4:=Tryd.sizeOf4,
 v4:=Tryd.zeroValue4,
 t5:=Tryd.underlying5,
 a5:=Tryd.isAgg5,
 z5:=Tryd.sizeOf5,
 v5:=Tryd.zeroValue5,
 t9:=Tryd.underlying9,
 a9:=Tryd.isAgg9,
 z9:=Tryd.sizeOf9,
 v9:=Tryd.zeroValue9,
 t20:=Tryd.underlying20,
 a20:=Tryd.isAgg20,
 z20:=Tryd.sizeOf20,
 v20:=Tryd.zeroValue20,
 t37:=Tryd.underlying72,
 a37:=Tryd.isAgg72,
 z37:=Tryd.sizeOf72,
 v37:=Tryd.zeroValue72,
 t46:=Tryd.underlying84,
 a46:=Tryd.isAgg84,
 z46:=Tryd.sizeOf84,
 v46:=Tryd.zeroValue84,
 t51:=Tryd.underlying88,
 a51:=Tryd.isAgg88,
 z51:=Tryd.sizeOf88,
 v51:=Tryd.zeroValue88,
 t53:=Tryd.underlying79,
 a53:=Tryd.isAgg79,
 z53:=Tryd.sizeOf79,
 v53:=Tryd.zeroValue79,
 t171:=Tryd.underlying78,
 a171:=Tryd.isAgg78,
 z171:=Tryd.sizeOf78,
 v171:=Tryd.zeroValue78,
 t173:=Tryd.underlying82,
 a173:=Tryd.isAgg82,
 z173:=Tryd.sizeOf82,
 v173:=Tryd.zeroValue82,
 t212:=Tryd.underlying87,
 a212:=Tryd.isAgg87,
 z212:=Tryd.sizeOf87,
 v212:=Tryd.zeroValue87,
 t213:=Tryd.underlying89,
 a213:=Tryd.isAgg89,
 z213:=Tryd.sizeOf89,
 t232:=Tryd.underlying92,
 a232:=Tryd.isAgg92,
 z232:=Tryd.sizeOf92,
 v232:=Tryd.zeroValue92,
 t233:=Tryd.underlying93,
 a233:=Tryd.isAgg93,
 z233:=Tryd.sizeOf93,
 v233:=Tryd.zeroValue93,
 g17:=by kernel_rfl,
 g18:=by kernel_rfl,
 g19:=by kernel_rfl,
 i0:=by kernel_rfl,
 i2:=by kernel_rfl,
 i3:=by kernel_rfl,
 i4:=by kernel_rfl,
 i5:=by kernel_rfl,
 i9:=by kernel_rfl,
 i20:=by kernel_rfl,
 i37:=by kernel_rfl,
 i46:=by kernel_rfl,
 i51:=by kernel_rfl,
 i53:=by kernel_rfl,
 i171:=by kernel_rfl,
 i173:=by kernel_rfl,
 i212:=by kernel_rfl,
 i232:=by kernel_rfl,
 i233:=by kernel_rfl,
 m17:=by kernel_rfl,
 m18:=by kernel_rfl,
 m19:=by kernel_rfl }
end Go.Proofs.YtpkkaboonnedfaaDoor
namespace Go.Proofs.YtpkkaboonnedfaaDoor
set_option linter.unusedSimpArgs false
set_option linter.unusedVariables false
set_option linter.unusedSectionVars false
open Go.RowKit
theorem QkI {w:World} (h:∃ t s,w.heap[0]?=some (.cells (Go.Lib.pow10Tab.map fun z=>Value.int .u64 z).toArray t s)):Go.Lib.TabIs Tryd.prog w "internal/strconv.uint64pow10" .u64 Go.Lib.pow10Tab:=by
 obtain ⟨t,s,h⟩:=h
 unfold Go.Lib.TabIs World.var?
 rw [show Tryd.prog.globalNamed "internal/strconv.uint64pow10"=some 0 by kernel_rfl]
 simp only [Option.bind_some,h]
theorem Qko:tab0=some (0,(Go.Lib.pow10Tab.map fun z=>Value.int .u64 z).toArray):=rfl
theorem QiR {n:Int} {rv:ByteArray} (h:itoaM n=some rv):AFn Tryd.prog 27 [.one (.int .i64 n)] [] (.cm (.one (.str rv))) []:=by
 by_cases hn:0≤n∧n≤9223372036854775807
 case neg=>unfold itoaM at h; rw [if_neg hn] at h; cases h
 rw [QiQ hn] at h
 obtain rfl:=Option.some.inj h
 refine ⟨by kernel_rfl,fun w φ M0 vals hW hφ hA=>?_⟩
 match vals,hA with
 | [v],⟨r0,_⟩ =>
  have hv:v=.int .i64 n:=by
   have r0':IR w M0 (.int .i64 n) v:=r0
   cases r0'; rfl
  subst hv
  refine Calls.mono (Any.strconv_Itoa QkL n (by omega) hn.2 w (QkI (hW.tab _ _ Qko).2.2)) ?_
  rintro e w' ⟨rfl,k,os,rfl⟩
  have hb:Below w.heap.size w (Go.Sort.grow (w.drewN k) os):=⟨rfl,rfl,rfl,by simp [Go.Sort.grow],fun b hb=>Go.Sort.heap_grow_old _ _ hb⟩
  have hh:hl []=fun id=>([]:List Ob)[id]?:=by funext id; simp [hl]
  exact ⟨_,φ,M0,rfl,IR.lr (φ:=φ) (IR.str _),by rw [hh]; exact hW.grow hb,hφ⟩
end Go.Proofs.YtpkkaboonnedfaaDoor
