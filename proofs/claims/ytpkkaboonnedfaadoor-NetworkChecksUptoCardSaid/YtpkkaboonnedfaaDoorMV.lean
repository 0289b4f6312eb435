/- Part MV of the proof: texts Tab. -/
import Derived.Test.YtpkkaboonnedfaaDoorMI
import Derived.Test.YtpkkaboonnedfaaDoorMC
import Derived.Test.YtpkkaboonnedfaaDoorRows
import Derived.Lib.LaidTab
import Derived.MakeChecks
import Derived.Stop.LaidErr
namespace Go.Proofs.YtpkkaboonnedfaaDoor
set_option linter.unusedSimpArgs false
set_option linter.unusedVariables false
set_option linter.unusedSectionVars false
theorem QlE {w:World} (h:Go.Lib.TabIs Tryd.prog w "internal/strconv.uint64pow10" .u64 Go.Lib.pow10Tab):∀ b cs,tab0=some (b,cs)→b<w.heap.size∧∃ t s,w.heap[b]?=some (.cells cs t s):=by
 intro b cs hb
 obtain ⟨rfl,rfl⟩:0=b∧(Go.Lib.pow10Tab.map fun z=>Value.int .u64 z).toArray=cs:=Prod.mk.inj (Option.some.inj (Qko.symm.trans hb))
 unfold Go.Lib.TabIs World.var? at h
 rw [show Tryd.prog.globalNamed "internal/strconv.uint64pow10"=some 0 by kernel_rfl] at h
 simp only [Option.bind_some] at h
 have hlt:0<w.heap.size:=by
  rcases Nat.lt_or_ge 0 w.heap.size with h'|h'
  ·exact h'
  ·rw [Array.getElem?_eq_none h'] at h; cases h
 refine ⟨hlt,?_⟩
 split at h
 ·rename_i c t s hc
  cases h
  exact ⟨_,_,hc⟩
 ·cases h
theorem QkZ {w:World} (h:laidMetH Tryd.prog [("math/bits.deBruijn32tab",Rows.laid_math_bits_deBruijn32tab),("math/bits.deBruijn64tab",Rows.laid_math_bits_deBruijn64tab),("internal/strconv.uint64pow10",Rows.laid_internal_strconv_uint64pow10)] w):∀ b cs,tab0=some (b,cs)→b<w.heap.size∧∃ t s,w.heap[b]?=some (.cells cs t s):=by
 rw [Go.MakeChecks.laidMetH_plain _ _ _ (by kernel_rfl)] at h
 have h2:=laidMet.tail (laidMet.tail h)
 rw [show (Rows.laid_internal_strconv_uint64pow10:DataW Unit)=Go.Lib.tabData .u64 Go.Lib.pow10Tab by kernel_rfl] at h2
 exact QlE (Go.Lib.tabIs_of_head (g:=0) (t:=87) (e:=79) (n:=20) (by kernel_rfl) (by kernel_rfl) Tryd.underlying87 Tryd.underlying79 (by kernel_rfl) (by kernel_rfl) h2)
end Go.Proofs.YtpkkaboonnedfaaDoor
