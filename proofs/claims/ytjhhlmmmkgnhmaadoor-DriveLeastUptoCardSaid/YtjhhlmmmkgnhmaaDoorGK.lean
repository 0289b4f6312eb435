/- The abstract machine is sound, part 6: slices made, cut, measured and appended. No program in sight. -/
import Derived.Test.YtjhhlmmmkgnhmaaDoorGJ
namespace Go.Proofs.YtjhhlmmmkgnhmaaDoor
set_option linter.unusedSimpArgs false
set_option linter.unusedVariables false
set_option linter.unusedSectionVars false
open Go.RowKit
section
variable {P : Program} {Γ : Gam} {φ : Pl} {M : Nat → Prop} {hD h : Nat → Option Ob} {w : World} {base : Nat} {L : Nat → AV} {a : Act} {g : Prop} {hs : List Hint} {r : Res} {o : Oper}
theorem rows_gather {R : Lf → Value → Prop} {b sz : Nat} : ∀ (rows : List (List Lf)) (k : Nat), (∀ (i : Nat) (c : List Lf), rows[i]? = some c → c.length = sz) →
    (∀ (i : Nat) (c : List Lf) (j : Nat) (l : Lf), rows[i]? = some c → c[j]? = some l → ∃ v, w.cell? ⟨b, k + i * sz + j, none⟩ = some v ∧ R l v) → ∃ vs, Rs R rows.flatten vs ∧ w.rangeAt b k vs
  | [], k, _, _ => ⟨[], trivial, fun j v h => by simp at h⟩
  | r :: rows, k, hs, h => by
    obtain ⟨v1, h1, h2⟩ := gather (w := w) (R := R) (b := b) r k fun j l hj => by simpa using h 0 r j l rfl hj
    obtain ⟨v2, h3, h4⟩ := rows_gather rows (k + sz) (fun i c hc => hs (i + 1) c (by simpa using hc)) fun i c j l hc hj => by
      obtain ⟨v, hv, hr⟩ := h (i + 1) c j l (by simpa using hc) hj
      exact ⟨v, by rw [show k + sz + i * sz + j = k + (i + 1) * sz + j by rw [Nat.add_mul]; omega]; exact hv, hr⟩
    have hl : v1.length = sz := by rw [← h1.len]; exact hs 0 r rfl
    refine ⟨v1 ++ v2, h1.append h3, fun j u hj => ?_⟩
    rcases Nat.lt_or_ge j v1.length with hlt | hge
    · rw [List.getElem?_append_left hlt] at hj; exact h2 j u hj
    · rw [List.getElem?_append_right hge] at hj
      have := h4 _ _ hj
      rw [show k + j = k + sz + (j - v1.length) by omega]; exact this
theorem wkOk_ok : ∀ {z z' : List Lf} {vs : List Value}, wkOk z z' = true → Rs (LR w M φ) z vs → Rs (IR w M) z' vs
  | [], [], [], _, _ => trivial
  | x :: xs, y :: ys, v :: vs, h, hr => by
    simp only [wkOk, Bool.and_eq_true] at h
    refine ⟨?_, wkOk_ok h.2 hr.2⟩
    have h1 := h.1
    have hx := hr.1
    cases x <;> cases y <;> first
      | (cases h1; done)
      | skip
    · simp only [Bool.and_eq_true, decide_eq_true_eq, beq_iff_eq] at h1; obtain ⟨rfl, rfl⟩ := h1; exact hx
    · simp only [beq_iff_eq] at h1; subst h1; exact hx
    · simp only [Bool.and_eq_true, beq_iff_eq] at h1
      rename_i s1 s2
      have e1 : s1 = s2 := by
        obtain ⟨h1, h2⟩ := h1
        cases s1 with | mk d1 => cases s2 with | mk d2 =>
        have h3 : d1.size = 0 := h1
        have h4 : d2.size = 0 := h2
        rw [Array.eq_empty_of_size_eq_zero h3, Array.eq_empty_of_size_eq_zero h4]
      subst e1; exact hx
    · rename_i cl sz rows
      cases cl <;> cases rows <;> first
        | (cases h1; done)
        | (have hx' : IR w M .nils v := hx
           cases hx'
           exact IR.sl0 false sz none 0 fun h => by cases h)
  | [], _ :: _, _, h, _ => by cases h
  | _ :: _, [], _, h, _ => by cases h
  | [], [], _ :: _, _, h => h.elim
  | _ :: _, _, [], _, h => h.elim
theorem sound_makeSlice (hob : allP r.obs) (hg : g) (hF : ∀ t, AR w M φ (L t) (a.tmps.getD t undef)) (hW : Wd Γ φ M hD w) {t : TypeId} {x y : Operand} (ho : o.op = .makeSlice t x y) (hf : fop P h base g L o.op hs = some r)
    (hfr : ∀ id, base ≤ id → id < base + r.news.length → φ id = none ∧ hD id = none) : Yd P Γ φ M hD w base r ((execOp a.eval o).run P w) := by
  rw [ho] at hf
  simp only [fop] at hf
  split at hf
  · rename_i e k n o1 k' m o2 z' R hs' he h1 h2
    split at hf
    · rename_i ie z hie hz
      cases hwk : wkOk z z' with
      | false => rw [hwk] at hf; cases hf
      | true =>
        rw [hwk] at hf; cases hf
        simp only [allP_append, allP] at hob
        obtain ⟨i, zv, hi, hzv, hzs, h0, hrs, hl⟩ := zeroL_some (w := w) (M := M) (φ := φ) hz
        obtain rfl : ie = i := by rw [hie] at hi; exact Option.some.inj hi
        have hx : IR w M (.int k n) (a.eval x) := getGx_ok hF h1 hob.1.1 hg
        have hy : IR w M (.int k' m) (a.eval y) := getGx_ok hF h2 hob.1.2 hg
        generalize hvx : a.eval x = vx at hx
        generalize hvy : a.eval y = vy at hy
        cases hx; cases hy
        obtain ⟨hn0, hnm, hm63, hmb, hR, -⟩ := hob.2
        have hu := sliceElem_some he
        have hw1 : IntKind.i64.wrap n = n := IntWalk.i64_in n (by omega)
        have hw2 : IntKind.i64.wrap m = m := IntWalk.i64_in m (by omega)
        have hrz := wkOk_ok hwk hrs
        have hzl : z'.length = ie.size := by rw [hrz.len]; simpa using hzs
        let cur : Array Value := (Array.range (m.toNat * ie.size)).map fun i => zv.cells[i % zv.cells.size]!
        have hcur : cur.toList = (List.replicate m.toNat zv.cells.toList).flatten := by show ((Array.range (m.toNat * ie.size)).map _).toList = _; rw [← hzs]; exact range_flat _ _
        have hcs : cur.size = m.toNat * ie.size := by show ((Array.range (m.toNat * ie.size)).map _).size = _; simp
        have hrun : (execOp a.eval o).run P w = .ok (.value (.slice (some ⟨w.heap.size, 0, none⟩) n.toNat m.toNat)) (w.alloc (.cells cur e)) := by
          have hb1 : ¬ (281474976710656 < (ie.bytes : Int) * m) := by omega
          have c1 : ¬ (m < 0) := by omega
          have c2 : ¬ (n < 0) := by omega
          have c3 : ¬ (m < n) := by omega
          by_cases hz0 : m.toNat * ie.size = 0
          · have hem : ∀ f : Nat → Value, (Array.range (m.toNat * ie.size)).map f = #[] := fun f => Array.eq_empty_of_size_eq_zero (by simp [hz0])
            have hcur0 : cur = #[] := hem _
            have hem0 : ∀ f : Nat → Value, (Array.range 0).map f = #[] := fun f => Array.eq_empty_of_size_eq_zero (by simp)
            simp [execOp, ho, hvx, hvy, Instr.makeSlice, run_underlying hu, asInt, asIntOf, typeInfo, hie, hw1, hw2, hb1, c1, c2, c3, run_sizeOf hie, newRow, hcur0, hem0, hz0]
          · simp [execOp, ho, hvx, hvy, Instr.makeSlice, run_underlying hu, asInt, asIntOf, typeInfo, hie, hw1, hw2, hb1, c1, c2, c3, run_sizeOf hie, zeroValue, hzv, newRow, hz0]
            rfl
        have hf0 := hfr base (Nat.le_refl _) (by simp)
        have hb := below_alloc w (.cells cur e)
        have he2 : Ex w M φ (w.alloc (.cells cur e)) M (upP φ base (some (w.heap.size, m.toNat))) := ⟨fun b hm => hb.block b (hW.mlt b hm), fun _ h => h, upP_pl _ hf0.1⟩
        have hRl : R.length = n.toNat := by rw [← hR]; simp
        refine Yd.new (b := w.heap.size) (C := m.toNat) hrun rfl hW hfr hb (Nat.le_refl _) (by simp) ?_ ?_
        · refine OR_arr (upP_self _ _ _) (heap_alloc_new w _) h0 hcs (by omega) (by simp only [maxLen]; omega) fun i c hc => ?_
          rw [← hR] at hc
          have hlt := (List.getElem?_eq_some_iff.1 hc).1
          simp only [List.length_replicate] at hlt
          have hcz : c = z' := by
            rw [List.getElem?_replicate, if_pos hlt] at hc
            exact (Option.some.inj hc).symm
          subst hcz
          refine ⟨hzl, fun j l hj => ?_⟩
          obtain ⟨v, hv, hlr⟩ := hrz.get hj
          refine ⟨v, ?_, hlr.mono he2.blk he2.sub⟩
          rw [← Array.getElem?_toList, hcur]
          exact flatten_get (sz := ie.size) (rows := List.replicate m.toNat zv.cells.toList) (fun c hc => by rw [List.eq_of_mem_replicate hc]; simpa using hzs) (by rw [List.getElem?_replicate, if_pos (by omega)]) hv
        · exact .inl ⟨w.heap.size, m.toNat, upP_self _ _ _, by rw [hRl]; simp, by omega⟩
    · cases hf
  · cases hf
theorem bndC_ok {x : Option Operand} {c : Option Cm} {q : Option Int} (hc : OptR w M φ a x c) (hb : bndC c = some q) : (x = none ∧ q = none) ∨ ∃ y k n, x = some y ∧ q = some n ∧ a.eval y = .int k n := by
  cases x with
  | none =>
    cases c with
    | none => cases hb; exact .inl ⟨rfl, rfl⟩
    | some c => exact hc.elim
  | some x =>
    cases c with
    | none => exact hc.elim
    | some c =>
      unfold bndC at hb
      split at hb
      · rename_i h; cases h
      · rename_i k n h
        cases h; cases hb
        have hx : IR w M (.int k n) (a.eval x) := hc
        generalize hv : a.eval x = xv at hx
        cases hx
        exact .inr ⟨x, k, n, rfl, rfl, hv⟩
      · cases hb
/-- The bounds, as they are found. -/
theorem run_bounds {isS : Bool} {len cap : Nat} {lo hi mx : Option Value} {ql qh qm : Option Int} (hl : (lo = none ∧ ql = none) ∨ ∃ k n, lo = some (.int k n) ∧ ql = some n) (hh : (hi = none ∧ qh = none) ∨ ∃ k n, hi = some (.int k n) ∧ qh = some n)
    (hm : (mx = none ∧ qm = none) ∨ ∃ k n, mx = some (.int k n) ∧ qm = some n) (hmh : qm.isSome → qh.isSome) (h1 : 0 ≤ ql.getD 0) (h2 : ql.getD 0 ≤ qh.getD len) (h3 : qh.getD len ≤ qm.getD cap) (h4 : qm.getD cap ≤ cap) (h5 : (len : Int) ≤ cap) :
    (Instr.sliceBounds isS len cap lo hi mx).run P w = .ok ((ql.getD 0).toNat, (qh.getD len).toNat, (qm.getD cap).toNat) w := by
  have hb : ∀ (k : IntKind) (n : Int) (y : Nat) (code : BoundsCode), 0 ≤ n → n ≤ (y : Int) → (Instr.sliceBound (.int k n) y code).run P w = .ok n.toNat w := fun k n y code e1 e2 => by
    simp [Instr.sliceBound, asIntOf, e1, e2]
  unfold Instr.sliceBounds
  rcases hm with ⟨rfl, rfl⟩ | ⟨km, m, rfl, rfl⟩
  · rcases hh with ⟨rfl, rfl⟩ | ⟨kh, n, rfl, rfl⟩
    · rcases hl with ⟨rfl, rfl⟩ | ⟨kl, l, rfl, rfl⟩
      · simp
      · simp only [Option.getD_some, Option.getD_none] at h1 h2 h3 h4 ⊢
        simp [hb kl l len _ h1 h2]
    · rcases hl with ⟨rfl, rfl⟩ | ⟨kl, l, rfl, rfl⟩
      · simp only [Option.getD_some, Option.getD_none] at h1 h2 h3 h4 ⊢
        simp [hb kh n cap _ h2 h3]
      · simp only [Option.getD_some, Option.getD_none] at h1 h2 h3 h4 ⊢
        simp [hb kh n cap _ (by omega) h3, hb kl l n.toNat _ h1 (by omega)]
  · rcases hh with ⟨rfl, rfl⟩ | ⟨kh, n, rfl, rfl⟩
    · have := hmh rfl; cases this
    · rcases hl with ⟨rfl, rfl⟩ | ⟨kl, l, rfl, rfl⟩
      · simp only [Option.getD_some, Option.getD_none] at h1 h2 h3 h4 ⊢
        simp [hb km m cap _ (by omega) h4, hb kh n m.toNat _ h2 (by omega)]
      · simp only [Option.getD_some, Option.getD_none] at h1 h2 h3 h4 ⊢
        simp [hb km m cap _ (by omega) h4, hb kh n m.toNat _ (by omega) (by omega), hb kl l n.toNat _ h1 (by omega)]
theorem sliceAt_str {t : TypeId} {s : ByteArray} {lo hi : Option Value} {l hh m : Nat} (hu : P.underlying t = some .string) (hb : (Instr.sliceBounds false s.size s.size lo hi none).run P w = .ok (l, hh, m) w) : (Instr.sliceAt t (.string s) lo hi none).run P w = .ok (.string (s.extract l hh)) w := by
  simp [Instr.sliceAt, run_underlying hu, Instr.slice, hb]
theorem sliceAt_sl {t e : TypeId} {A : Option Addr} {len cap : Nat} {lo hi mx : Option Value} {l hh m : Nat} {i : TypeInfo} (hu : P.underlying t = some (.slice e)) (hi2 : P.info? e = some i) (hb : (Instr.sliceBounds true len cap lo hi mx).run P w = .ok (l, hh, m) w) :
    (Instr.sliceAt t (.slice A len cap) lo hi mx).run P w = .ok (.slice (if m = l then A else A.map (·.add (l * i.size))) (hh - l) (m - l)) w := by
  simp [Instr.sliceAt, run_underlying hu, Instr.slice, hb, run_sizeOf hi2]
theorem sound_slice (hob : allP r.obs) (hg : g) (hF : ∀ t, AR w M φ (L t) (a.tmps.getD t undef)) (hW : Wd Γ φ M hD w) {t : TypeId} {x : Operand} {lo hi mx : Option Operand} (ho : o.op = .slice t x lo hi mx) (hf : fop P h base g L o.op hs = some r) :
    Yd P Γ φ M hD w base r ((execOp a.eval o).run P w) := by
  rw [ho] at hf
  simp only [fop] at hf
  have hrun : ∀ v, (Instr.sliceAt t (a.eval x) (lo.map a.eval) (hi.map a.eval) (mx.map a.eval)).run P w = .ok v w → (execOp a.eval o).run P w = .ok (.value v) w := fun v hv => by simp [execOp, ho, hv]
  split at hf
  · rename_i c o0 lo' o1 hi' o2 mx' o3 h0 h1 h2 h3
    cases hfs : fopSlice P h t c lo' hi' mx' hs with
    | none => rw [hfs] at hf; cases hf
    | some r0 =>
      rw [hfs] at hf; cases hf
      simp only [allP_append] at hob
      obtain ⟨⟨⟨⟨p0, p1⟩, p2⟩, p3⟩, p4⟩ := hob
      have hx := getGx_ok hF h0 p0 hg
      have e1 := optG_ok hF hg h1 p1
      have e2 := optG_ok hF hg h2 p2
      have e3 := optG_ok hF hg h3 p3
      have conv : ∀ {x : Option Operand} {q : Option Int}, ((x = none ∧ q = none) ∨ ∃ y k n, x = some y ∧ q = some n ∧ a.eval y = .int k n) → ((x.map a.eval = none ∧ q = none) ∨ ∃ k n, x.map a.eval = some (.int k n) ∧ q = some n) := fun hh => by
        rcases hh with ⟨rfl, rfl⟩ | ⟨y, k, n, rfl, rfl, e⟩
        · exact .inl ⟨rfl, rfl⟩
        · exact .inr ⟨k, n, by simp [e], rfl⟩
      unfold fopSlice at hfs
      split at hfs
      · rename_i s ql qh hb1 hb2 hb3
        split at hfs
        · rename_i hu
          cases hfs
          obtain ⟨q1, q2, q3, -⟩ := p4
          have hx' : IR w M (.str s) (a.eval x) := hx
          generalize hv : a.eval x = xv at hx' hrun
          cases hx'
          have c1 := conv (bndC_ok e1 hb1)
          have c2 := conv (bndC_ok e2 hb2)
          have c3 := conv (bndC_ok e3 hb3)
          have hmx : mx.map a.eval = none := by rcases c3 with ⟨h, _⟩ | ⟨k, n, _, h⟩; exact h; cases h
          simp only [hmx] at hrun
          refine Yd.val (hrun _ (sliceAt_str hu (run_bounds (qm := none) c1 c2 (.inl ⟨rfl, rfl⟩) (fun h => by cases h) q1 q2 q3 (Int.le_refl _) (Int.le_refl _)))) rfl (IR.str _) hW
        · cases hfs
      · rename_i cl sz rows ql qh qm hb1 hb2 hb3
        split at hfs
        · rename_i e R hs' he
          cases hsz : (tsz P e == some sz || rows.isEmpty && (tsz P e).isSome) with
          | false => rw [hsz] at hfs; cases hfs
          | true =>
            rw [hsz] at hfs; cases hfs
            simp only [allP_append, allP] at p4
            obtain ⟨pm, q1, q2, q3, q4, q5, hR, -⟩ := p4
            have hu := sliceElem_some he
            have c1 := conv (bndC_ok e1 hb1)
            have c2 := conv (bndC_ok e2 hb2)
            have c3 := conv (bndC_ok e3 hb3)
            have hmh : qm.isSome → qh.isSome := fun hs => by
              cases qm with
              | none => cases hs
              | some m => cases qh with
                | none => exact pm.1.elim
                | some n => rfl
            have hmeq : ∀ m, qm = some m → qh = some m := fun m hm => by
              subst hm
              cases qh with
              | none => exact pm.1.elim
              | some n => have : m = n := pm.1; rw [this]
            -- the value and its cells
            have hinfo : ∃ i, P.info? e = some i ∧ (rows ≠ [] → i.size = sz) := by
              simp only [Bool.or_eq_true, beq_iff_eq] at hsz
              rcases hsz with hsz | hsz
              · obtain ⟨i, hi, hs⟩ := tsz_some hsz; exact ⟨i, hi, fun _ => hs⟩
              · simp only [Bool.and_eq_true, List.isEmpty_iff, Option.isSome_iff_exists] at hsz
                obtain ⟨he0, n, hn⟩ := hsz
                obtain ⟨i, hi, _⟩ := tsz_some hn
                exact ⟨i, hi, fun h => absurd he0 h⟩
            obtain ⟨i, hi, his⟩ := hinfo
            have hx' : IR w M (.sl cl sz rows) (a.eval x) := hx
            have hlen : R.length = (qh.getD rows.length).toNat - (ql.getD 0).toNat := by
              rw [← hR]; simp; omega
            generalize hv : a.eval x = xv at hx' hrun
            cases hx' with
            | sl0 _ _ A cap hcl0 =>
              simp only [List.length_nil, Int.natCast_zero] at q1 q2 q3 q4 q5 hlen hR
              have hR0 : R = [] := by rw [← hR]; simp
              subst hR0
              have hcap : ∀ m, qm = some m → m = 0 := fun m hm => by rw [hm] at q4 q5; simp only [Option.getD_some] at q4 q5; rw [hmeq m hm] at q2 q3; simp only [Option.getD_some] at q2 q3; omega
              have hh0 : qh.getD 0 = 0 := by omega
              refine Yd.val (hrun _ (sliceAt_sl hu hi (run_bounds c1 c2 c3 hmh q1 (by simpa using q2) (by
                cases qm with
                | none => simp only [Option.getD_none]; simp only [Int.natCast_zero]; omega
                | some m => have := hcap m rfl; subst this; simp only [Option.getD_some]; simp only [Int.natCast_zero]; omega) (by
                cases qm with
                | none => simp
                | some m => have := hcap m rfl; subst this; simp) (by simp)))) rfl ?_ hW
              have hlo : (ql.getD 0).toNat = 0 := by omega
              have hhi : (qh.getD ((0 : Nat) : Int)).toNat = 0 := by simp only [Int.natCast_zero]; omega
              rw [hlo, hhi]
              refine IR.sl0 _ sz _ _ fun hcl => ?_
              cases qm with
              | some m => have := hcap m rfl; subst this; rfl
              | none =>
                simp only [Option.isSome_none, Bool.false_or, Bool.and_eq_true] at hcl
                rw [hcl0 hcl.1]; rfl
            | sl _ _ _ b k cap vs hm hlc hcl hls hcc hrr =>
              have hhl : (qh.getD rows.length) ≤ rows.length := q3
              refine Yd.val (hrun _ (sliceAt_sl hu hi (run_bounds c1 c2 c3 hmh q1 q2 (by
                cases qm with
                | none => simp only [Option.getD_none]; omega
                | some m => rw [hmeq m rfl]; simp) (by
                cases qm with
                | none => simp
                | some m => simp only [Option.getD_some] at q5 ⊢; omega) (by omega)))) rfl ?_ hW
              by_cases hR0 : R = []
              · subst hR0
                simp only [List.length_nil] at hlen
                have : (qh.getD rows.length).toNat - (ql.getD 0).toNat = 0 := hlen.symm
                rw [this]
                refine IR.sl0 _ sz _ _ fun hclR => ?_
                cases qm with
                | some m => rw [hmeq m rfl] at this q2; simp only [Option.getD_some] at this q2 ⊢; omega
                | none =>
                  simp only [Option.isSome_none, Bool.false_or, Bool.and_eq_true, Option.isNone_iff_eq_none] at hclR
                  rw [hclR.2] at this
                  have h9 := hcl hclR.1
                  simp only [Option.getD_none] at this ⊢
                  omega
              · have hRpos : 0 < R.length := List.length_pos_iff.2 hR0
                have hne : ¬ ((qm.getD cap).toNat = (ql.getD 0).toNat) := by
                  cases qm with
                  | none => simp only [Option.getD_none]; omega
                  | some m => rw [hmeq m rfl] at hlen; simp only [Option.getD_some] at hlen ⊢; omega
                have hrne : rows ≠ [] := fun e => by subst e; rw [← hR] at hRpos; simp at hRpos
                rw [if_neg hne, his hrne, Option.map_some, Addr.add_mid, ← hlen]
                have hget : ∀ (i : Nat) (c : List Lf), R[i]? = some c → rows[(ql.getD 0).toNat + i]? = some c := fun i c hc => by
                  rw [← hR, List.getElem?_take] at hc
                  split at hc
                  · rw [List.getElem?_drop] at hc; exact hc
                  · cases hc
                refine IR.sl _ sz R b _ _ (fun i j => vs ((ql.getD 0).toNat + i) j) hm ?_ ?_ (fun i c hc => hls _ c (hget i c hc)) (fun i c j l hc hj => ?_) (fun i c j l hc hj => hrr _ c j l (hget i c hc) hj)
                · cases qm with
                  | none => simp only [Option.getD_none]; omega
                  | some m => rw [hmeq m rfl] at hlen; simp only [Option.getD_some] at hlen ⊢; omega
                · intro hclR
                  cases qm with
                  | some m => rw [hmeq m rfl] at hlen; simp only [Option.getD_some] at hlen ⊢; omega
                  | none =>
                    simp only [Option.isSome_none, Bool.false_or, Bool.and_eq_true, Option.isNone_iff_eq_none] at hclR
                    have h9 := hcl hclR.1
                    rw [hclR.2] at hlen
                    simp only [Option.getD_none] at hlen ⊢
                    omega
                · have := hcc _ c j l (hget i c hc) hj
                  rw [show k + (ql.getD 0).toNat * sz + i * sz + j = k + ((ql.getD 0).toNat + i) * sz + j by rw [Nat.add_mul]; omega]
                  exact this
        · cases hfs
      · cases hfs
  · cases hf
end
end Go.Proofs.YtjhhlmmmkgnhmaaDoor
