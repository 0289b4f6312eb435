/- The abstract machine is sound, part 5: literals, slices, lengths, appending to what is new. No program in sight. -/
import Derived.Test.YtjhhlmmmkgnhmaaDoorGI
import Derived.IntWalk
namespace Go.Proofs.YtjhhlmmmkgnhmaaDoor
set_option linter.unusedSimpArgs false
set_option linter.unusedVariables false
set_option linter.unusedSectionVars false
open Go.RowKit

/-! ### Rows laid out flat -/
section
variable {α β : Type} {R : α → β → Prop}
theorem flatten_get {sz : Nat} : ∀ {rows : List (List α)} {i j : Nat} {c : List α} {l : α}, (∀ c ∈ rows, c.length = sz) → rows[i]? = some c → c[j]? = some l → rows.flatten[i * sz + j]? = some l
  | [], _, _, _, _, _, h, _ => by simp at h
  | r :: rows, 0, j, c, l, hs, h, hj => by
    simp at h; subst h
    rw [Nat.zero_mul, Nat.zero_add, List.flatten_cons, List.getElem?_append_left (List.getElem?_eq_some_iff.1 hj).1]; exact hj
  | r :: rows, i + 1, j, c, l, hs, h, hj => by
    have hr := hs r (by simp)
    rw [List.flatten_cons, List.getElem?_append_right (by rw [hr, Nat.add_mul]; omega), hr, show (i + 1) * sz + j - sz = i * sz + j by rw [Nat.add_mul]; omega]
    exact flatten_get (fun c hc => hs c (by simp [hc])) (by simpa using h) hj
theorem flatten_len {sz : Nat} : ∀ {rows : List (List α)}, (∀ c ∈ rows, c.length = sz) → rows.flatten.length = rows.length * sz
  | [], _ => by simp
  | r :: rows, hs => by
    rw [List.flatten_cons, List.length_append, hs r (by simp), flatten_len fun c hc => hs c (by simp [hc]), List.length_cons, Nat.add_mul]; omega
theorem mem_row {rows : List (List α)} {sz : Nat} (h : ∀ (i : Nat) (c : List α), rows[i]? = some c → c.length = sz) : ∀ c ∈ rows, c.length = sz := fun c hc => by
  obtain ⟨i, hi⟩ := List.mem_iff_getElem?.1 hc; exact h i c hi
theorem chunk_get {sz : Nat} : ∀ {n : Nat} {l : List Lf} {i : Nat} {c : List Lf}, (chunk sz n l)[i]? = some c → i < n ∧ c = (l.drop (i * sz)).take sz
  | 0, _, _, _, h => by simp [chunk] at h
  | n + 1, l, 0, c, h => by simp [chunk] at h; exact ⟨by omega, by simp [h]⟩
  | n + 1, l, i + 1, c, h => by
    simp only [chunk, List.getElem?_cons_succ] at h
    obtain ⟨h1, h2⟩ := chunk_get h
    exact ⟨by omega, by rw [h2, List.drop_drop, Nat.add_mul, Nat.one_mul, Nat.add_comm]⟩
theorem chunk_len {sz : Nat} : ∀ {n : Nat} {l : List Lf}, (chunk sz n l).length = n
  | 0, _ => rfl
  | n + 1, l => by simp [chunk, chunk_len (n := n)]
end
section
variable {P : Program} {w : World} {M : Nat → Prop} {φ : Pl}
theorem fold_set (off : Nat) : ∀ (vs : List Value) (k : Nat) (cs : Array Value), off + k + vs.length ≤ cs.size →
    ((vs.zipIdx k).foldl (fun (cs : Array Value) (x : Value × Nat) => cs.setIfInBounds (off + x.2) x.1) cs).toList = cs.toList.take (off + k) ++ vs ++ cs.toList.drop (off + k + vs.length)
  | [], k, cs, _ => by simp
  | v :: vs, k, cs, h => by
    simp only [List.zipIdx_cons, List.foldl_cons, List.length_cons] at h ⊢
    rw [fold_set off vs (k + 1) _ (by simp; omega)]
    have hlt : off + k < cs.toList.length := by simpa using (by omega : off + k < cs.size)
    simp only [Array.toList_setIfInBounds]
    have e1 : (cs.toList.set (off + k) v).take (off + (k + 1)) = cs.toList.take (off + k) ++ [v] := by
      rw [show off + (k + 1) = (off + k) + 1 by omega, List.take_add_one, List.take_set_of_le (Nat.le_refl _), List.getElem?_set_self hlt]; rfl
    have e2 : (cs.toList.set (off + k) v).drop (off + (k + 1) + vs.length) = cs.toList.drop (off + k + (vs.length + 1)) := by
      rw [List.drop_set_of_lt (by omega)]; congr 1; omega
    rw [e1, e2]; simp
theorem fill_ok {pl : Nat → Option (Nat × Nat)} : ∀ {cs : List (Nat × List Lf)} {vp : List (Nat × Value)} {z out : List Lf} {zc : Array Value}, fillL pl z cs = some out → Rs (LR w M φ) z zc.toList →
    Rs (fun (p : Nat × List Lf) (q : Nat × Value) => p.1 = q.1 ∧ Rs (LR w M φ) p.2 q.2.cells.toList) cs vp → ∃ oc, Instr.fill pl zc vp = some oc ∧ Rs (LR w M φ) out oc.toList
  | [], [], z, out, zc, h, hz, _ => by cases h; exact ⟨zc, rfl, hz⟩
  | (i, ls) :: cs, (j, v) :: vp, z, out, zc, h, hz, hr => by
    obtain ⟨⟨rfl, hv⟩, hr'⟩ := hr
    simp only at hv
    simp only [fillL] at h
    split at h
    · cases h
    · rename_i off size hp
      cases hc : (ls.length == size && Nat.ble (off + size) z.length) with
      | false => rw [hc] at h; cases h
      | true =>
        rw [hc] at h
        simp only [cond_true] at h
        simp only [Bool.and_eq_true, beq_iff_eq, Nat.ble_eq] at hc
        have hvl : v.cells.size = size := by rw [← Array.length_toList, ← hv.len]; exact hc.1
        have hzl : z.length = zc.size := by rw [hz.len]; simp
        have hf := fold_set off v.cells.toList 0 zc (by rw [Nat.add_zero, Array.length_toList]; omega)
        have hnew : Rs (LR w M φ) (z.take off ++ ls ++ z.drop (off + size)) (zc.toList.take off ++ v.cells.toList ++ zc.toList.drop (off + size)) := ((hz.take off).append hv).append (hz.drop _)
        have hzip : v.cells.zipIdx.foldl (fun (cs : Array Value) (x : Value × Nat) => cs.setIfInBounds (off + x.2) x.1) zc = (zc.toList.take off ++ v.cells.toList ++ zc.toList.drop (off + size)).toArray := by
          apply Array.ext'
          rw [← Array.foldl_toList, Array.toList_zipIdx]
          rw [Nat.add_zero, Array.length_toList, hvl] at hf
          simpa using hf
        obtain ⟨oc, h1, h2⟩ := fill_ok (zc := (zc.toList.take off ++ v.cells.toList ++ zc.toList.drop (off + size)).toArray) h (by simpa using hnew) hr'
        refine ⟨oc, ?_, h2⟩
        simp only [Instr.fill, hp]
        rw [if_neg (by simp; omega)]
        rw [← h1, ← hzip]
  | [], _ :: _, _, _, _, _, _, h => h.elim
  | _ :: _, [], _, _, _, _, _, h => h.elim
theorem Rs.flat {ls : List Lf} {vs : List Value} (h : Rs (LR w M φ) ls vs) : ∀ n, Rs (LR w M φ) (List.replicate n ls).flatten (List.replicate n vs).flatten
  | 0 => by simp [Rs]
  | n + 1 => by simp only [List.replicate_succ, List.flatten_cons]; exact h.append (Rs.flat h n)
theorem range_flat (zc : Array Value) (n : Nat) : ((Array.range (n * zc.size)).map fun i => zc[i % zc.size]!).toList = (List.replicate n zc.toList).flatten := by
  rw [Array.toList_map, Array.toList_range]
  induction n with
  | zero => simp
  | succ n ih =>
    rw [List.replicate_succ', List.flatten_append, ← ih, Nat.add_mul, Nat.one_mul, List.range_add, List.map_append]
    congr 1
    simp only [List.map_map, List.flatten_cons, List.flatten_nil, List.append_nil]
    apply List.ext_getElem?
    intro k
    rw [List.getElem?_map]
    rcases Nat.lt_or_ge k zc.size with hk | hk
    · rw [List.getElem?_range hk]
      have : (n * zc.size + k) % zc.size = k := by rw [Nat.mul_comm, Nat.mul_add_mod, Nat.mod_eq_of_lt hk]
      simp [this, hk]
    · rw [List.getElem?_eq_none (by simpa using hk)]; simp [hk]
theorem OR_arr {w' : World} {id b C : Nat} {φ' : Pl} {e : TypeId} {sz : Nat} {rows : List (List Lf)} {vs : Array Value} (hφ : φ' id = some (some (b, C))) (hb : w'.heap[b]? = some (.cells vs e)) (h0 : 0 < sz) (hs : vs.size = C * sz) (hl : rows.length ≤ C) (hC : C ≤ maxLen)
    (hr : ∀ (i : Nat) (c : List Lf), rows[i]? = some c → c.length = sz ∧ ∀ (j : Nat) (l : Lf), c[j]? = some l → ∃ v, vs[i * sz + j]? = some v ∧ IR w' M l v) : OR w' M φ' id ⟨false, sz, e, rows⟩ := by
  refine ⟨h0, ?_⟩
  rw [hφ]
  exact ⟨vs, hb, hs, hl, hC, fun h => (by cases h), fun i c hc => ⟨(hr i c hc).1, fun j l hj => by simpa using (hr i c hc).2 j l hj⟩⟩
end
section
variable {P : Program} {Γ : Gam} {φ : Pl} {M : Nat → Prop} {hD h : Nat → Option Ob} {w : World} {base : Nat} {L : Nat → AV} {a : Act} {g : Prop} {hs : List Hint} {r : Res} {o : Oper}
theorem toList_parts (parts : Array (Nat × Operand)) : (parts.map fun (i, x) => (i, a.eval x)).toList = parts.toList.map fun (i, x) => (i, a.eval x) := by simp
theorem sound_build (hob : allP r.obs) (hg : g) (hF : ∀ t, AR w M φ (L t) (a.tmps.getD t undef)) (hW : Wd Γ φ M hD w) {t : TypeId} {parts : Array (Nat × Operand)} (ho : o.op = .build t parts) (hf : fop P h base g L o.op hs = some r) :
    Yd P Γ φ M hD w base r ((execOp a.eval o).run P w) := by
  rw [ho] at hf
  simp only [fop] at hf
  split at hf
  · rename_i z pl cs o1 hz hpl hcs
    cases hfl : fillL pl z cs with
    | none => rw [hfl] at hf; cases hf
    | some out =>
      rw [hfl] at hf; cases hf
      obtain ⟨i, zv, hi, hzv, hzs, h0, hrs, hl⟩ := zeroL_some (w := w) (M := M) (φ := φ) hz
      have hp := partsG_ok hF hg hcs hob
      obtain ⟨oc, h1, h2⟩ := fill_ok hfl hrs hp
      refine Yd.val (v := .agg oc) ?_ rfl ⟨oc.toList, by simp, h2⟩ hW
      have hb : P.built t (parts.toList.map fun (i, x) => (i, a.eval x)) = some oc := by
        unfold Program.built
        unfold placesOf at hpl
        split at hpl
        · rename_i n e hu
          cases hie : P.info? e with
          | none => rw [hie] at hpl; cases hpl
          | some ie => rw [hie] at hpl; cases hpl; simp only [hi, hu, hzv, hie]; exact h1
        · rename_i fs hu
          cases hps : fs.toList.mapM (fun f => (P.info? f.type).map fun i => (f.offset, i.size)) with
          | none => rw [hps] at hpl; cases hpl
          | some ps =>
            rw [hps] at hpl; cases hpl
            simp only [hi, hu, hzv, hps]
            have : (fun x : Nat => ps.toArray[x]?) = fun x : Nat => ps[x]? := by funext x; simp
            rw [this]; exact h1
        · cases hpl
      have hr := run_build (P := P) w t (parts.map fun (i, x) => (i, a.eval x)) oc (by rw [toList_parts]; exact hb)
      simp [execOp, ho, hr]
  · cases hf
theorem sound_buildSlice (hob : allP r.obs) (hg : g) (hF : ∀ t, AR w M φ (L t) (a.tmps.getD t undef)) (hW : Wd Γ φ M hD w) {t : TypeId} {n : Nat} {parts : Array (Nat × Operand)} (ho : o.op = .buildSlice t n parts) (hf : fop P h base g L o.op hs = some r)
    (hfr : ∀ id, base ≤ id → id < base + r.news.length → φ id = none ∧ hD id = none) : Yd P Γ φ M hD w base r ((execOp a.eval o).run P w) := by
  rw [ho] at hf
  simp only [fop] at hf
  split at hf
  · rename_i e he
    have hu := sliceElem_some he
    split at hf
    · rename_i ie z cs o1 hie hz hcs
      obtain ⟨i, zv, hi, hzv, hzs, h0, hrs, hl⟩ := zeroL_some (w := w) (M := M) (φ := φ) hz
      obtain rfl : ie = i := by rw [hie] at hi; exact Option.some.inj hi
      cases hn0 : (n == 0 && cs.isEmpty) with
      | true =>
        rw [hn0] at hf; cases hf
        simp only [Bool.and_eq_true, beq_iff_eq, List.isEmpty_iff] at hn0
        obtain ⟨rfl, rfl⟩ := hn0
        have hp := partsG_ok hF hg hcs hob
        have hpe : parts = #[] := by
          have := hp.len
          apply Array.eq_empty_of_size_eq_zero
          simpa using this.symm
        subst hpe
        refine Yd.grow (v := .slice (some ⟨w.heap.size, 0, none⟩) 0 0) (w' := w.alloc (.cells #[] e)) ?_ rfl (below_alloc w _) (IR.sl0 true ie.size _ 0 fun _ => rfl) hW
        have hem : ∀ f : Nat → Value, (Array.range 0).map f = #[] := fun f => Array.eq_empty_of_size_eq_zero (by simp)
        simp [execOp, ho, Instr.buildSlice, run_underlying hu, run_sizeOf hie, Instr.fill, newRow, hem]
      | false =>
        rw [hn0] at hf
        simp only [cond_false] at hf
        cases hc : (Nat.ble (n * ie.size) 4096 && !(n == 0)) with
        | false => rw [hc] at hf; cases hf
        | true =>
          rw [hc] at hf
          simp only [cond_true] at hf
          simp only [Bool.and_eq_true, Nat.ble_eq, Bool.not_eq_true', beq_eq_false_iff_ne] at hc
          split at hf
          · rename_i cells hfl
            cases himm : cells.all immL with
            | false => rw [himm] at hf; cases hf
            | true =>
              rw [himm] at hf; cases hf
              have hp := partsG_ok hF hg hcs hob
              have hz2 : Rs (LR w M φ) (List.replicate n z).flatten ((Array.range (n * zv.cells.size)).map fun i => zv.cells[i % zv.cells.size]!).toList := by rw [range_flat]; exact hrs.flat n
              obtain ⟨oc, h1, h2⟩ := fill_ok hfl hz2 hp
              have hol : oc.size = n * ie.size := by
                have := h2.len
                rw [← Array.length_toList, ← this]
                have hfl2 : ∀ {cs : List (Nat × List Lf)} {z out : List Lf}, fillL (fun i => some (i * ie.size, ie.size)) z cs = some out → out.length = z.length := by
                  intro cs
                  induction cs with
                  | nil => intro z out h; cases h; rfl
                  | cons c cs ih =>
                    obtain ⟨i, v⟩ := c
                    intro z out h
                    simp only [fillL] at h
                    cases hq : (v.length == ie.size && Nat.ble (i * ie.size + ie.size) z.length) with
                    | false => rw [hq] at h; cases h
                    | true =>
                      rw [hq] at h
                      simp only [Bool.and_eq_true, beq_iff_eq, Nat.ble_eq] at hq
                      have := ih h
                      rw [this]; simp; omega
                rw [hfl2 hfl, flatten_len (sz := ie.size) (fun c hc => by rw [List.eq_of_mem_replicate hc]; exact hl)]; simp
              have hrun : (Instr.buildSlice t n (parts.map fun (i, x) => (i, a.eval x))).run P w = .ok (.slice (some ⟨w.heap.size, 0, none⟩) n n) (w.alloc (.cells oc e)) := by
                refine run_buildSlice w t e n _ oc ie zv hu hie hzv (by omega) (by have : n * ie.size ≠ 0 := Nat.mul_ne_zero hc.2 (by omega); exact this) ?_
                rw [toList_parts, ← hzs]
                rw [← hzs] at h1
                exact h1
              have hb := below_alloc w (.cells oc e)
              have hf0 := hfr base (Nat.le_refl _) (by simp)
              have he2 : Ex w M φ (w.alloc (.cells oc e)) M (upP φ base (some (w.heap.size, n))) := ⟨fun b hm => hb.block b (hW.mlt b hm), fun _ h => h, upP_pl _ hf0.1⟩
              refine Yd.new (b := w.heap.size) (C := n) (v := .slice (some ⟨w.heap.size, 0, none⟩) n n) (by simp [execOp, ho, hrun]) rfl hW hfr hb (Nat.le_refl _) (by simp) ?_ ?_
              · refine OR_arr (upP_self _ _ _) (heap_alloc_new w _) h0 hol (by rw [chunk_len]; exact Nat.le_refl _) (by have : n ≤ n * ie.size := Nat.le_mul_of_pos_right _ h0; simp only [maxLen]; omega) fun i c hc2 => ?_
                obtain ⟨hin, rfl⟩ := chunk_get hc2
                have hcl : cells.length = n * ie.size := by rw [h2.len]; simpa using hol
                have hle : (i + 1) * ie.size ≤ n * ie.size := Nat.mul_le_mul_right _ hin
                rw [Nat.add_mul, Nat.one_mul] at hle
                refine ⟨by simp; omega, fun j l hj => ?_⟩
                have hj2 : cells[i * ie.size + j]? = some l := by
                  rw [List.getElem?_take] at hj
                  split at hj
                  · rw [List.getElem?_drop] at hj; exact hj
                  · cases hj
                obtain ⟨v, hv, hlr⟩ := h2.get hj2
                refine ⟨v, by simpa using hv, ?_⟩
                exact (LR.imm (List.all_eq_true.1 himm l (List.mem_of_getElem? hj2)) hlr).mono he2.blk he2.sub
              · exact .inl ⟨w.heap.size, n, upP_self _ _ _, by simp, by omega⟩
          · cases hf
    · cases hf
  · cases hf
end
end Go.Proofs.YtjhhlmmmkgnhmaaDoor
