/- The abstract machine is sound, part 3: more operations that write to nothing that was there. No program in sight. -/
import Derived.Test.YtjhhlmmmkgnhmaaDoorGF
namespace Go.Proofs.YtjhhlmmmkgnhmaaDoor
set_option linter.unusedSimpArgs false
set_option linter.unusedVariables false
set_option linter.unusedSectionVars false
open Go.RowKit
section
variable {P : Program} {Γ : Gam} {φ : Pl} {M : Nat → Prop} {hD h : Nat → Option Ob} {w : World} {base : Nat} {L : Nat → AV} {a : Act} {g : Prop} {hs : List Hint} {r : Res} {o : Oper}
variable (hob : allP r.obs) (hg : g) (hF : ∀ t, AR w M φ (L t) (a.tmps.getD t undef)) (hW : Wd Γ φ M hD w)
include hob hg hF hW

theorem sound_move {x : Operand} (ho : o.op = .move x ∨ o.op = .assign x) (hf : fop P h base g L (.move x) hs = some r) : Yd P Γ φ M hD w base r ((execOp a.eval o).run P w) := by
  have hrun : (execOp a.eval o).run P w = .ok (.value (a.eval x)) w := by rcases ho with ho | ho <;> simp [execOp, ho]
  have hx := aev_ok hF x
  simp only [fop] at hf
  split at hf
  · rename_i c h1; cases hf; rw [h1] at hx; exact Yd.val hrun rfl hx hW
  · rename_i c h1; cases hf; rw [h1] at hx; exact Yd.val hrun rfl hx hW
  · rename_i p c h1; cases hf; rw [h1] at hx; exact Yd.val hrun rfl (hx.1 (hob.1 hg)) hW
  · cases hf
  · rename_i h1; cases hf; rw [h1] at hx; exact Yd.val hrun rfl hx hW
theorem sound_pick {c x y : Operand} (ho : o.op = .pick c x y) (hf : fop P h base g L o.op hs = some r) : Yd P Γ φ M hD w base r ((execOp a.eval o).run P w) := by
  rw [ho] at hf
  simp only [fop] at hf
  have hrun : ∀ b, a.eval c = .bool b → (execOp a.eval o).run P w = .ok (.value (if b then a.eval x else a.eval y)) w := fun b hb => by
    simp [execOp, ho, hb, asBool]
  split at hf
  · rename_i bc o1 hs' h1
    split at hf
    · rename_i bx oa by_ ob_ h2 h3
      cases hf
      simp only [allP_append] at hob
      have hc : IR w M (.bool bc) (a.eval c) := getGx_ok hF h1 hob.1.1 hg
      generalize hv : a.eval c = cv at hc
      cases hc
      refine Yd.val (hrun _ hv) rfl ?_ hW
      cases bc with
      | true => exact (getGx_ok hF h2 hob.1.2 ⟨hg, rfl⟩ : CR w M φ (.one (.bool bx)) (a.eval x))
      | false => exact (getGx_ok hF h3 hob.2 ⟨hg, rfl⟩ : CR w M φ (.one (.bool by_)) (a.eval y))
    · cases hf
  · rename_i bc o1 t hs' h1
    cases h2 : getG g (aev L (cond t x y)) with
    | none => rw [h2] at hf; cases hf
    | some p =>
      obtain ⟨cx, o2⟩ := p
      rw [h2] at hf; cases hf
      simp only [allP_append, allP] at hob
      have hc : IR w M (.bool bc) (a.eval c) := getGx_ok hF h1 hob.1.1 hg
      generalize hv : a.eval c = cv at hc
      cases hc
      refine Yd.val (hrun _ hv) rfl ?_ hW
      have h3 : CR w M φ cx (a.eval (cond t x y)) := getGx_ok hF h2 hob.2 hg
      obtain rfl := hob.1.2.1
      cases bc <;> exact h3
  · cases hf
theorem OR_box {w' : World} {e : TypeId} {ls : List Lf} {vs : Array Value} {id b : Nat} {φ' : Pl} (hφ : φ' id = some (some (b, 1))) (hb : w'.heap[b]? = some (.cells vs e)) (hr : Rs (LR w' M φ') ls vs.toList) (h0 : 0 < ls.length) : OR w' M φ' id (boxOb e ls) := by
  refine ⟨h0, ?_⟩
  rw [hφ]
  refine ⟨vs, hb, by rw [← Array.length_toList, ← hr.len]; simp [boxOb], by simp [boxOb], by decide, fun _ => rfl, fun i c hc => ?_⟩
  cases i with
  | zero =>
    simp [boxOb] at hc; subst hc
    refine ⟨rfl, fun j l hl => ?_⟩
    obtain ⟨v, hv, hlr⟩ := hr.get hl
    exact ⟨v, by rw [Nat.zero_mul, Nat.zero_add]; simpa using hv, hlr⟩
  | succ i => simp [boxOb] at hc
theorem sound_box_core {e : TypeId} {ls : List Lf} {v : Value} (hn : r.news = [boxOb e ls]) (hv : r.v = one (.op base ls.length 0 0)) (h0 : 0 < ls.length) (hr : Rs (LR w M φ) ls v.cells.toList)
    (hrun : (execOp a.eval o).run P w = .ok (.value (.pointer (some ⟨w.heap.size, 0, none⟩))) (w.alloc (.cells v.cells e))) (hfr : ∀ id, base ≤ id → id < base + r.news.length → φ id = none ∧ hD id = none) :
    Yd P Γ φ M hD w base r ((execOp a.eval o).run P w) := by
  have hf := hfr base (Nat.le_refl _) (by rw [hn]; simp)
  have hb := below_alloc w (.cells v.cells e)
  have he : Ex w M φ (w.alloc (.cells v.cells e)) M (upP φ base (some (w.heap.size, 1))) := ⟨fun b hm => hb.block b (hW.mlt b hm), fun _ h => h, upP_pl _ hf.1⟩
  refine Yd.new (b := w.heap.size) (C := 1) hrun hn hW hfr hb (Nat.le_refl _) (by simp) ?_ ?_
  · exact OR_box hob hg hF hW (upP_self _ _ _) (heap_alloc_new w _) (hr.mono fun _ _ h => LR.mono he h) h0
  · rw [hv]; exact ⟨w.heap.size, 1, upP_self _ _ _, by simp⟩
theorem sound_alloc {e : TypeId} (ho : o.op = .alloc e) (hf : fop P h base g L o.op hs = some r) (hfr : ∀ id, base ≤ id → id < base + r.news.length → φ id = none ∧ hD id = none) : Yd P Γ φ M hD w base r ((execOp a.eval o).run P w) := by
  rw [ho] at hf
  simp only [fop] at hf
  cases hz : zeroL P e with
  | none => rw [hz] at hf; cases hf
  | some z =>
    rw [hz] at hf; cases hf
    obtain ⟨i, zv, hi, hzv, hzs, h0, hrs, hl⟩ := zeroL_some (w := w) (M := M) (φ := φ) hz
    refine sound_box_core hob hg hF hW (v := zv) rfl rfl (by omega) hrs ?_ hfr
    simp [execOp, ho, Instr.alloc, zeroValue, typeInfo, hi, hzv, newVar, newRow]
theorem sound_box {e : TypeId} {x : Operand} (ho : o.op = .box e x) (hf : fop P h base g L o.op hs = some r) (hfr : ∀ id, base ≤ id → id < base + r.news.length → φ id = none ∧ hD id = none) : Yd P Γ φ M hD w base r ((execOp a.eval o).run P w) := by
  rw [ho] at hf
  simp only [fop] at hf
  split at hf
  · rename_i c o1 h1
    cases hc : c.cells.isEmpty with
    | true => rw [hc] at hf; cases hf
    | false =>
      rw [hc] at hf; cases hf
      have hx := (getGx_ok hF h1 hob hg).cells
      refine sound_box_core hob hg hF hW (v := a.eval x) rfl rfl (by rw [List.length_pos_iff]; simpa using hc) hx ?_ hfr
      simp [execOp, ho, Instr.box, newVar, newRow]
  · cases hf
theorem sound_nilCheck {x : Operand} (ho : o.op = .nilCheck x) (hf : fop P h base g L o.op hs = some r) : Yd P Γ φ M hD w base r ((execOp a.eval o).run P w) := by
  rw [ho] at hf
  simp only [fop] at hf
  split at hf
  · rename_i c off o1 h1; cases hf
    have hx : IR w M (.ip c off) (a.eval x) := getGx_ok hF h1 hob hg
    generalize hv : a.eval x = xv at hx
    have hx' := hx
    cases hx with
    | ip _ _ b k vs hm hc hr => exact Yd.val (by simp [execOp, ho, hv]) rfl hx' hW
  · rename_i id sz row off o1 h1; cases hf
    have hx : LR0 w M φ (.op id sz row off) (a.eval x) := getGx_ok hF h1 hob hg
    obtain ⟨b, C, hφ, hv⟩ := hx
    exact Yd.val (by simp [execOp, ho, hv]) rfl ⟨b, C, hφ, rfl⟩ hW
  · cases hf
theorem sound_unOp {u : UnOp} {t : TypeId} {x : Operand} (ho : o.op = .unOp u t x) (hf : fop P h base g L o.op hs = some r) : Yd P Γ φ M hD w base r ((execOp a.eval o).run P w) := by
  rw [ho] at hf
  simp only [fop] at hf
  split at hf
  · rename_i k n o1 h1; cases hf
    have hx : IR w M (.int k n) (a.eval x) := getGx_ok hF h1 hob hg
    generalize hv : a.eval x = xv at hx
    cases hx
    exact Yd.val (v := .int k (subK k 0 n)) (by simp [execOp, ho, hv, Op.unary, Op.intArith, subK]) rfl (IR.int _ _) hW
  · rename_i b o1 h1; cases hf
    have hx : IR w M (.bool b) (a.eval x) := getGx_ok hF h1 hob hg
    generalize hv : a.eval x = xv at hx
    cases hx
    exact Yd.val (v := .bool (!b)) (by simp [execOp, ho, hv, Op.unary]) rfl (IR.bool _) hW
  · cases hf
theorem fieldOf_some {t : TypeId} {f fo n : Nat} {b : Bool} (h : fieldOf P t f = some (fo, n, b)) : ∃ fs fd, P.underlying t = some (.struct fs) ∧ fs[f]? = some fd ∧ fd.offset = fo ∧ tsz P fd.type = some n ∧ trow P fd.type = some b ∧ n ≠ 0 := by
  unfold fieldOf at h
  split at h
  · rename_i fs hu
    split at h
    · rename_i fd hfd
      split at h
      · rename_i n' b' h1 h2
        cases hn : (n' == 0) with
        | true => rw [hn] at h; cases h
        | false => rw [hn] at h; cases h; exact ⟨fs, fd, hu, hfd, rfl, h1, h2, by simpa using hn⟩
      · cases h
    · cases h
  · cases h
theorem sound_fieldAddr {t : TypeId} {x : Operand} {f : Nat} (ho : o.op = .fieldAddr t x f) (hf : fop P h base g L o.op hs = some r) : Yd P Γ φ M hD w base r ((execOp a.eval o).run P w) := by
  rw [ho] at hf
  simp only [fop] at hf
  split at hf
  · rename_i fo n rw_ cells off o1 h1 h2; cases hf
    obtain ⟨fs, fd, hu, hfd, rfl, hn, hr, hn0⟩ := fieldOf_some hob hg hF hW h1
    obtain ⟨i, hi, hsz⟩ := tsz_some hn
    have hx : IR w M (.ip cells off) (a.eval x) := getGx_ok hF h2 hob hg
    generalize hv : a.eval x = xv at hx
    cases hx with
    | ip _ _ b k vs hm hc hrr =>
      refine Yd.val (v := .pointer (some ⟨b, k + (off + fd.offset), none⟩)) ?_ rfl (IR.ip cells _ b k vs hm hc hrr) hW
      simp [execOp, ho, hv, Instr.fieldAt, run_underlying hu, hfd, Instr.sureAddr, fieldPlace, run_sizeOf hi, hsz, hn0, Addr.add_mid, Nat.add_assoc]
  · rename_i fo n rw_ id sz row off o1 h1 h2; cases hf
    obtain ⟨fs, fd, hu, hfd, rfl, hn, hr, hn0⟩ := fieldOf_some hob hg hF hW h1
    obtain ⟨i, hi, hsz⟩ := tsz_some hn
    have hx : LR0 w M φ (.op id sz row off) (a.eval x) := getGx_ok hF h2 hob hg
    obtain ⟨b, C, hφ, hv⟩ := hx
    refine Yd.val (v := .pointer (some ⟨b, row * sz + (off + fd.offset), none⟩)) ?_ rfl ⟨b, C, hφ, rfl⟩ hW
    simp [execOp, ho, hv, Instr.fieldAt, run_underlying hu, hfd, Instr.sureAddr, fieldPlace, run_sizeOf hi, hsz, hn0, Addr.add_mid, Nat.add_assoc]
  · cases hf
theorem part_ok {t : TypeId} {n off : Nat} {rw_ : Bool} {ls : List Lf} {vs : List Value} {c : Cm} (ht : tsz P t = some n) (hr : trow P t = some rw_) (hp : partL rw_ n off ls = some c) (hrs : Rs (LR w M φ) ls vs) :
    ∃ v, (part t vs.toArray off).run P w = .ok v w ∧ CR w M φ c v := by
  obtain ⟨i, hi, hsz⟩ := tsz_some ht
  obtain ⟨d, hu, hd⟩ := trow_some hr
  unfold partL at hp
  cases rw_ with
  | true =>
    simp only [cond_true] at hp
    cases hl : (((ls.drop off).take n).length == n) with
    | false => rw [hl] at hp; cases hp
    | true =>
      rw [hl] at hp; cases hp
      refine ⟨.agg (vs.toArray.extract off (off + n)), ?_, ((vs.drop off).take n), ?_, ((hrs.drop off).take n)⟩
      · unfold part
        rw [Sem.run_bind, run_isAgg hu w, hd]
        simp [run_sizeOf hi, hsz]
      · congr 1
        apply Array.ext'
        simp [List.extract_eq_take_drop]
  | false =>
    simp only [cond_false] at hp
    cases hl : ls[off]? with
    | none => rw [hl] at hp; cases hp
    | some l =>
      rw [hl] at hp; cases hp
      obtain ⟨v, hv, hlr⟩ := hrs.get hl
      refine ⟨v, ?_, hlr⟩
      unfold part
      rw [Sem.run_bind, run_isAgg hu w, hd]
      simp [hv]
theorem sound_field {t : TypeId} {x : Operand} {f : Nat} (ho : o.op = .field t x f) (hf : fop P h base g L o.op hs = some r) : Yd P Γ φ M hD w base r ((execOp a.eval o).run P w) := by
  rw [ho] at hf
  simp only [fop] at hf
  split at hf
  · rename_i fo n rw_ cells o1 h1 h2
    cases hp : partL rw_ n fo cells with
    | none => rw [hp] at hf; cases hf
    | some c =>
      rw [hp] at hf; cases hf
      obtain ⟨fs, fd, hu, hfd, rfl, hn, hr, hn0⟩ := fieldOf_some hob hg hF hW h1
      obtain ⟨vs, hv, hrs⟩ : CR w M φ (.agg cells) (a.eval x) := getGx_ok hF h2 hob hg
      obtain ⟨v, hrun, hc⟩ := part_ok hob hg hF hW hn hr hp hrs
      refine Yd.val (v := v) ?_ rfl hc hW
      simp [execOp, ho, hv, Instr.field, run_underlying hu, hfd, asAgg, hrun]
  · cases hf
theorem sound_extract {x : Operand} {i : Nat} (ho : o.op = .extract x i) (hf : fop P h base g L o.op hs = some r) : Yd P Γ φ M hD w base r ((execOp a.eval o).run P w) := by
  rw [ho] at hf
  simp only [fop] at hf
  have hx := aev_ok hF x
  split at hf
  · rename_i cs h1
    rw [h1] at hx
    obtain ⟨vs, hv, hrs⟩ := hx
    cases hc : cs[i]? with
    | none => rw [hc] at hf; cases hf
    | some c =>
      rw [hc] at hf; cases hf
      obtain ⟨v, hv2, hr⟩ := hrs.get hc
      refine Yd.val (v := v) ?_ rfl hr hW
      simp [execOp, ho, hv, Instr.extract, hv2]
  · cases hf
theorem getI_some {α : Type} {l : List α} {i : Int} {x : α} (h : getI l i = some x) : 0 ≤ i ∧ l[i.toNat]? = some x := by
  unfold getI at h
  split at h
  · exact ⟨‹_›, h⟩
  · cases h
theorem sound_indexAddr {t : TypeId} {x ix : Operand} (ho : o.op = .indexAddr t x ix) (hf : fop P h base g L o.op hs = some r) : Yd P Γ φ M hD w base r ((execOp a.eval o).run P w) := by
  rw [ho] at hf
  simp only [fop] at hf
  split at hf
  · rename_i e cl sz rows o1 k n o2 hu h1 h2
    split at hf
    · rename_i c hs'
      cases hsz : (tsz P e == some sz) with
      | false => rw [hsz] at hf; cases hf
      | true =>
        rw [hsz] at hf; cases hf
        simp only [allP_append, allP] at hob
        have hx : IR w M (.sl cl sz rows) (a.eval x) := getGx_ok hF h1 hob.1.1 hg
        have hi : IR w M (.int k n) (a.eval ix) := getGx_ok hF h2 hob.1.2 hg
        generalize hv : a.eval x = xv at hx
        generalize hv2 : a.eval ix = iv at hi
        cases hi
        obtain ⟨hn0, hrow⟩ := getI_some (r := ⟨.unk, [], [], []⟩) trivial hg hF hW hob.2.1
        obtain ⟨i, hii, hsi⟩ := tsz_some (by simpa using hsz : tsz P e = some sz)
        have hlt := (List.getElem?_eq_some_iff.1 hrow).1
        cases hx with
        | sl0 => simp at hrow
        | sl _ _ _ b k0 cap vs hm hl hcl hls hc hr =>
          refine Yd.val (v := .pointer (some ⟨b, k0 + n.toNat * sz + 0, none⟩)) ?_ rfl (IR.ip c 0 b (k0 + n.toNat * sz) (vs n.toNat) hm (fun j l hj => hc _ _ j l hrow hj) (fun j l hj => hr _ _ j l hrow hj)) hW
          have hn1 : n < rows.length := by omega
          simp [execOp, ho, hv, hv2, Instr.indexAt, asIntOf, run_underlying hu, hn0, hn1, run_sizeOf hii, hsi, Addr.add_mid]
    · cases hf
  · rename_i e id sz off len o1 k n o2 hu h1 h2
    cases hsz : (tsz P e == some sz) with
    | false => rw [hsz] at hf; cases hf
    | true =>
      rw [hsz] at hf; cases hf
      simp only [allP_append, allP] at hob
      have hx : LR0 w M φ (.os id sz off len) (a.eval x) := getGx_ok hF h1 hob.1.1 hg
      have hi : IR w M (.int k n) (a.eval ix) := getGx_ok hF h2 hob.1.2 hg
      generalize hv2 : a.eval ix = iv at hi
      cases hi
      obtain ⟨hn0, hn1, _⟩ := hob.2
      obtain ⟨i, hii, hsi⟩ := tsz_some (by simpa using hsz : tsz P e = some sz)
      rcases hx with ⟨b, C, hφ, hv, hle⟩ | ⟨_, _, h0, _⟩
      · refine Yd.val (v := .pointer (some ⟨b, (off + n.toNat) * sz + 0, none⟩)) ?_ rfl ⟨b, C, hφ, rfl⟩ hW
        simp [execOp, ho, hv, hv2, Instr.indexAt, asIntOf, run_underlying hu, hn0, hn1, run_sizeOf hii, hsi, Addr.add_mid, Nat.add_mul]
      · omega
  · rename_i len e cells off o1 k n o2 hu h1 h2
    split at hf
    · rename_i sz hsz
      cases hl0 : (!(len == 0)) with
      | false => rw [hl0] at hf; cases hf
      | true =>
        rw [hl0] at hf; cases hf
        simp only [allP_append, allP] at hob
        have hx : IR w M (.ip cells off) (a.eval x) := getGx_ok hF h1 hob.1.1 hg
        have hi : IR w M (.int k n) (a.eval ix) := getGx_ok hF h2 hob.1.2 hg
        generalize hv : a.eval x = xv at hx
        generalize hv2 : a.eval ix = iv at hi
        cases hi
        obtain ⟨hn0, hn1, _⟩ := hob.2
        obtain ⟨i, hii, hsi⟩ := tsz_some hsz
        cases hx with
        | ip _ _ b k0 vs hm hc hrr =>
          refine Yd.val (v := .pointer (some ⟨b, k0 + (off + n.toNat * sz), none⟩)) ?_ rfl (IR.ip cells _ b k0 vs hm hc hrr) hW
          simp [execOp, ho, hv, hv2, Instr.indexAt, asIntOf, run_underlying hu, hn0, hn1, run_sizeOf hii, hsi, Addr.add_mid, Instr.sureAddr, Nat.add_assoc]
    · cases hf
  · rename_i len e id sz row off o1 k n o2 hu h1 h2
    split at hf
    · rename_i esz hsz
      cases hl0 : (!(len == 0)) with
      | false => rw [hl0] at hf; cases hf
      | true =>
        rw [hl0] at hf; cases hf
        simp only [allP_append, allP] at hob
        have hx : LR0 w M φ (.op id sz row off) (a.eval x) := getGx_ok hF h1 hob.1.1 hg
        have hi : IR w M (.int k n) (a.eval ix) := getGx_ok hF h2 hob.1.2 hg
        generalize hv2 : a.eval ix = iv at hi
        cases hi
        obtain ⟨hn0, hn1, _⟩ := hob.2
        obtain ⟨i, hii, hsi⟩ := tsz_some hsz
        obtain ⟨b, C, hφ, hv⟩ := hx
        refine Yd.val (v := .pointer (some ⟨b, row * sz + (off + n.toNat * esz), none⟩)) ?_ rfl ⟨b, C, hφ, rfl⟩ hW
        simp [execOp, ho, hv, hv2, Instr.indexAt, asIntOf, run_underlying hu, hn0, hn1, run_sizeOf hii, hsi, Addr.add_mid, Instr.sureAddr, Nat.add_assoc]
    · cases hf
  · cases hf
theorem sound_index {t : TypeId} {x ix : Operand} (ho : o.op = .index t x ix) (hf : fop P h base g L o.op hs = some r) : Yd P Γ φ M hD w base r ((execOp a.eval o).run P w) := by
  rw [ho] at hf
  simp only [fop] at hf
  split at hf
  · rename_i s o1 k n o2 hu h1 h2
    split at hf
    · rename_i b hs'
      cases hf
      simp only [allP_append, allP] at hob
      have hx : IR w M (.str s) (a.eval x) := getGx_ok hF h1 hob.1.1 hg
      have hi : IR w M (.int k n) (a.eval ix) := getGx_ok hF h2 hob.1.2 hg
      generalize hv : a.eval x = xv at hx
      generalize hv2 : a.eval ix = iv at hi
      cases hi; cases hx
      have hb := hob.2.1
      unfold getS at hb
      split at hb
      · rename_i h0
        refine Yd.val (v := .int .u8 (byteI b)) ?_ rfl (IR.int _ _) hW
        simp [execOp, ho, hv, hv2, Instr.index, asIntOf, run_underlying hu, h0, hb, byteI]
      · cases hb
    · cases hf
  · rename_i len e cells o1 k n o2 hu h1 h2
    split at hf
    · rename_i sz rw_ hsz hrw
      cases hp : partL rw_ sz (n.toNat * sz) cells with
      | none => rw [hp] at hf; cases hf
      | some c =>
        rw [hp] at hf; cases hf
        simp only [allP_append, allP] at hob
        obtain ⟨vs, hv, hrs⟩ : CR w M φ (.agg cells) (a.eval x) := getGx_ok hF h1 hob.1.1 hg
        have hi : IR w M (.int k n) (a.eval ix) := getGx_ok hF h2 hob.1.2 hg
        generalize hv2 : a.eval ix = iv at hi
        cases hi
        obtain ⟨hn0, hn1, _⟩ := hob.2
        obtain ⟨i, hii, hsi⟩ := tsz_some hsz
        obtain ⟨v, hrun, hc⟩ := part_ok (r := ⟨.unk, [], [], []⟩) trivial hg hF hW hsz hrw hp hrs
        refine Yd.val (v := v) ?_ rfl hc hW
        simp [execOp, ho, hv, hv2, Instr.index, asIntOf, run_underlying hu, hn0, hn1, run_sizeOf hii, hsi, hrun]
    · cases hf
  · cases hf
omit hob hg hF hW in
theorem capsL_ok : ∀ {cs : List Cm} {ls : List Lf} {vs : List Value}, capsL cs = some ls → Rs (CR w M φ) cs vs → Rs (LR0 w M φ) ls vs
  | [], _, [], h, _ => by cases h; trivial
  | .one l :: cs, ls, v :: vs, h, hr => by
    simp only [capsL] at h
    split at h
    · rename_i ls' h1
      cases hf : isFn l with
      | true => rw [hf] at h; cases h
      | false =>
        rw [hf] at h; cases h
        exact ⟨by have := hr.1; rwa [CR, LR_eq hf] at this, capsL_ok h1 hr.2⟩
    · cases h
  | .agg _ :: _, _, _, h, _ => by cases h
  | [], _, _ :: _, _, h => h.elim
  | _ :: _, _, [], _, h => h.elim
theorem sound_makeFunc {f : Fn} {first caps : Array Operand} (ho : o.op = .makeFunc f first caps) (hf : fop P h base g L o.op hs = some r) : Yd P Γ φ M hD w base r ((execOp a.eval o).run P w) := by
  rw [ho] at hf
  simp only [fop] at hf
  split at hf
  · rename_i cs o1 h1
    cases hfi : first.toList.isEmpty with
    | false => rw [hfi] at hf; cases hf
    | true =>
      rw [hfi] at hf
      simp only [cond_true] at hf
      split at hf
      · rename_i ls h2
        cases hf
        have hrs := argsG_ok hF hg h1 hob
        have hc := capsL_ok h2 hrs
        have hfi' : first = #[] := by
          apply Array.ext'
          simpa using hfi
        subst hfi'
        refine Yd.val (v := .func f #[] (caps.toList.map a.eval).toArray) ?_ rfl ⟨_, rfl, hc⟩ hW
        have he : caps.map a.eval = (caps.toList.map a.eval).toArray := by apply Array.ext'; simp
        simp [execOp, ho, Instr.makeFunc, he]
      · cases hf
  · cases hf
end
end Go.Proofs.YtjhhlmmmkgnhmaaDoor
