/- The abstract machine is sound, part 10: operations that write to objects of the call's own. No program in sight. -/
import Derived.Test.YtjhhlmmmkgnhmaaDoorGN
namespace Go.Proofs.YtjhhlmmmkgnhmaaDoor
set_option linter.unusedSimpArgs false
set_option linter.unusedVariables false
set_option linter.unusedSectionVars false
open Go.RowKit
section
variable {P : Program} {Γ : Gam} {φ φ' : Pl} {M M' : Nat → Prop} {h : Nat → Option Ob} {w w' : World} {a : Act} {hs : List Hint} {o : Oper} {H : List (Option Ob)} {L : List (Nat × AV)}
/-- A list into which a piece is laid. -/
theorem splice_get {α : Type} {l vs : List α} {p : Nat} (hp : p + vs.length ≤ l.length) (k : Nat) : (l.take p ++ vs ++ l.drop (p + vs.length))[k]? = if k < p then l[k]? else if k < p + vs.length then vs[k - p]? else l[k]? := by
  by_cases h1 : k < p
  · rw [if_pos h1, List.append_assoc, List.getElem?_append_left (by simp; omega), List.getElem?_take, if_pos h1]
  · rw [if_neg h1]
    by_cases h2 : k < p + vs.length
    · rw [if_pos h2, List.getElem?_append_left (by simp; omega), List.getElem?_append_right (by simp; omega)]
      congr 1; simp; omega
    · rw [if_neg h2, List.getElem?_append_right (by simp; omega), List.getElem?_drop]
      congr 1; simp; omega
theorem hl_set_ne {id : Nat} {x : Option Ob} {i : Nat} (hne : i ≠ id) : hl (H.set id x) i = hl H i := by
  unfold hl; rw [List.getElem?_set_ne (Ne.symm hne)]
theorem hl_some_lt {id : Nat} {ob : Ob} (e : hl H id = some ob) : id < H.length := by
  unfold hl at e
  rcases Nat.lt_or_ge id H.length with h | h
  · exact h
  · rw [List.getElem?_eq_none h] at e; cases e
theorem hl_set_self {id : Nat} {x : Option Ob} (hlt : id < H.length) : hl (H.set id x) id = x := by
  unfold hl; rw [List.getElem?_set_self hlt]; rfl
theorem hl_set {id : Nat} {ob : Ob} (hlt : id < H.length) : hl (H.set id (some ob)) = fun i => if i = id then some ob else hl H i := by
  funext i
  by_cases hi : i = id
  · subst hi; rw [if_pos rfl, hl_set_self hlt]
  · rw [if_neg hi, hl_set_ne hi]
theorem hl_snoc {x : Option Ob} : hl (H ++ [x]) = fun i => if i = H.length then x else hl H i := by
  funext i
  unfold hl
  by_cases hi : i = H.length
  · subst hi; rw [if_pos rfl, List.getElem?_append_right (Nat.le_refl _)]; simp
  · rw [if_neg hi]
    rcases Nat.lt_or_ge i H.length with h | h
    · rw [List.getElem?_append_left h]
    · rw [List.getElem?_eq_none (by simp; omega), List.getElem?_eq_none h]
/-- A row of memory of the call's own is written to. -/
theorem Wd.write (hW : Wd Γ φ M h w) {id : Nat} {ob ob' : Ob} {b C : Nat} {cur : Array Value} {new : Array Value} (hh : h id = some ob) (hφ : φ id = some (some (b, C))) (hcur : w.heap[b]? = some (.cells cur ob.ety (0, 0))) (hO : OR (w.setRow b new) M φ id ob') :
    Wd Γ φ M (fun i => if i = id then some ob' else h i) (w.setRow b new) ∧ Ex w M φ (w.setRow b new) M φ := by
  obtain ⟨hm, hlt, hown⟩ := hW.own id ob b C hh hφ
  exact ⟨hW.turn hh hφ (fun k hk => setRow_other w b k new hk) (by simp) rfl rfl rfl hO, fun c hc => setRow_other w b c new fun e => hm (e ▸ hc), fun _ h => h, fun _ _ h => h⟩
/-- An object goes by another name. -/
theorem Wd.move (hW : Wd Γ φ M h w) {id id' : Nat} {ob : Ob} {p : Option (Nat × Nat)} (hh : h id = some ob) (hφ : φ id = some p) (hφ' : φ id' = none) (hh' : h id' = none) : Wd Γ (upP φ id' p) M (fun i => if i = id' then some ob else if i = id then none else h i) w := by
  have hne : id ≠ id' := fun e => by subst e; rw [hh] at hh'; cases hh'
  have he : Ex w M φ w M (upP φ id' p) := ⟨fun _ _ => rfl, fun _ h => h, upP_pl _ hφ'⟩
  have key : ∀ i o, (fun i => if i = id' then some ob else if i = id then none else h i) i = some o → (i = id' ∧ o = ob) ∨ (i ≠ id' ∧ i ≠ id ∧ h i = some o) := fun i o e => by
    by_cases h1 : i = id'
    · simp only [if_pos h1] at e; exact .inl ⟨h1, (Option.some.inj e).symm⟩
    · simp only [if_neg h1] at e
      by_cases h2 : i = id
      · rw [if_pos h2] at e; cases e
      · rw [if_neg h2] at e; exact .inr ⟨h1, h2, e⟩
  refine ⟨fun i o e => ?_, fun i j oi oj b Ci Cj hi hj pi pj => ?_, hW.mlt, hW.m0, hW.mold, fun i o b C e q => ?_, hW.keep, hW.os, hW.tape, hW.output, hW.size, fun q hq => he.pl _ _ (hW.pin q hq)⟩
  · rcases key i o e with ⟨rfl, rfl⟩ | ⟨h1, h2, h3⟩
    · obtain ⟨h0, hO⟩ := (hW.obs id o hh).mono he fun _ _ _ => rfl
      refine ⟨h0, ?_⟩
      rw [upP_self]
      rw [upP_ne _ hne, hφ] at hO
      exact hO
    · exact (hW.obs i o h3).mono he fun _ _ _ => rfl
  · rcases key i oi hi with ⟨rfl, rfl⟩ | ⟨h1, h2, h3⟩ <;> rcases key j oj hj with ⟨rfl, rfl⟩ | ⟨g1, g2, g3⟩
    · rfl
    · rw [upP_self] at pi; rw [upP_ne _ g1] at pj
      cases pi
      exact absurd (hW.inj id j _ oj b Ci Cj hh g3 hφ pj).symm g2
    · rw [upP_self] at pj; rw [upP_ne _ h1] at pi
      cases pj
      exact absurd (hW.inj i id oi _ b Ci Cj h3 hh pi hφ) h2
    · rw [upP_ne _ h1] at pi; rw [upP_ne _ g1] at pj; exact hW.inj i j oi oj b Ci Cj h3 g3 pi pj
  · rcases key i o e with ⟨rfl, rfl⟩ | ⟨h1, h2, h3⟩
    · rw [upP_self] at q; cases q; exact hW.own id o b C hh hφ
    · rw [upP_ne _ h1] at q; exact hW.own i o b C h3 q
/-- What a step that may write leaves. -/
def Md (Γ : Gam) (φ : Pl) (M : Nat → Prop) (w : World) (r : Mes) (v : Value) (w' : World) : Prop :=
  ∃ φ', AR w' M φ' r.v v ∧ Wd Γ φ' M (hl r.H) w' ∧ Ex w M φ w' M φ' ∧ (∀ id, r.H.length ≤ id → φ' id = none)
theorem run_storeVar_row2 {t : TypeId} {n b p : Nat} {e : TypeId} {v : Value} {cur : Array Value} (ht : tsz P t = some n) (hn : v.cells.size = n) (hg : w.heap[b]? = some (.cells cur e (0, 0))) (hfit : p + n ≤ cur.size) (h1 : ∀ u ∈ v.cells.toList, u.oneCell' = true) :
    (storeVar t ⟨b, p, none⟩ v).run P w = .ok () (w.setRow b (cur.toList.take p ++ v.cells.toList ++ cur.toList.drop (p + v.cells.toList.length)).toArray) := by
  obtain ⟨i, hi, hsz⟩ := tsz_some ht
  have hst := run_storeCells_at P b p e v.cells.toList 0 cur w hg (by rw [Array.length_toList, hn]; omega) h1
  simp only [Nat.add_zero] at hst
  simp only [storeVar, Sem.run_bind, run_sizeOf hi, Result.andThen_ok, hn, hsz]
  rw [if_neg (by simp)]
  exact hst
theorem sound_store {r : Mes} (hW : Wd Γ φ M (hl H) w) (hF : ∀ t, AR w M φ (look L t) (a.tmps.getD t undef)) (hφ : ∀ id, H.length ≤ id → φ id = none) {t : TypeId} {x y : Operand} (ho : o.op = .store t x y) (hf : mop P H (look L) o.op hs = some r) (hob : allP r.obs) :
    ∃ w', (execOp a.eval o).run P w = .ok .skip w' ∧ Md Γ φ M w r undef w' := by
  rw [ho] at hf
  simp only [mop] at hf
  split at hf
  · rename_i id sz row off o1 c o2 n h1 h2 ht
    split at hf
    · rename_i ob hid
      cases hc : (ob.sz == sz && n == c.cells.length) with
      | false => rw [hc] at hf; cases hf
      | true =>
        rw [hc] at hf
        simp only [cond_true] at hf
        simp only [Bool.and_eq_true, beq_iff_eq] at hc
        obtain ⟨hsz, hn⟩ := hc
        have hlt := hl_some_lt hid
        have hO := hW.obs id ob hid
        -- the cells' part, for whatever the new rows are
        have go : allP o1 → allP o2 → ∀ R : List (List Lf), (∀ {b C : Nat} {cur : Array Value} {w' : World}, φ id = some (some (b, C)) → w.heap[b]? = some (.cells cur ob.ety (0, 0)) → cur.size = C * ob.sz → ob.rows.length ≤ C →
              (∀ i c, ob.rows[i]? = some c → c.length = ob.sz ∧ ∀ j l, c[j]? = some l → ∃ v, cur[i * ob.sz + j]? = some v ∧ (if ob.box then LR w M φ l v else IR w M l v)) → Rs (LR w M φ) c.cells (a.eval y).cells.toList → Ex w M φ w' M φ →
              row * sz + off + n ≤ cur.size ∧ R.length ≤ C ∧ ∀ (i : Nat) (d : List Lf), R[i]? = some d → d.length = ob.sz ∧ ∀ (j : Nat) (l : Lf), d[j]? = some l → ∃ v, (cur.toList.take (row * sz + off) ++ (a.eval y).cells.toList ++ cur.toList.drop (row * sz + off + (a.eval y).cells.toList.length))[i * ob.sz + j]? = some v ∧ (if ob.box then LR w' M φ l v else IR w' M l v)) →
            ∃ w', (execOp a.eval o).run P w = .ok .skip w' ∧ ∃ φ', Wd Γ φ' M (hl (H.set id (some { ob with rows := R }))) w' ∧ Ex w M φ w' M φ' ∧ (∀ id, H.length ≤ id → φ' id = none) := by
          intro p1 p2 R key
          obtain ⟨b, C, hφi, hv⟩ : LR0 w M φ (.op id sz row off) (a.eval x) := getGx_ok hF h1 p1 trivial
          have hy := (getGx_ok hF h2 p2 trivial).cells
          obtain ⟨h0, hO'⟩ := hO
          rw [hφi] at hO'
          obtain ⟨cur, g1, g2, g3, g4, g5, g6⟩ := hO'
          obtain ⟨hm, hblt, hown⟩ := hW.own id ob b C hid hφi
          have hcl : (a.eval y).cells.size = n := by rw [← Array.length_toList, ← hy.len, hn]
          have hex : ∀ new, Ex w M φ (w.setRow b new) M φ := fun new => ⟨fun c hc => setRow_other w b c new fun e => hm (e ▸ hc), fun _ h => h, fun _ _ h => h⟩
          obtain ⟨hfit, hRC, hcells⟩ := key hφi g1 g2 g3 g6 hy (hex (cur.toList.take (row * sz + off) ++ (a.eval y).cells.toList ++ cur.toList.drop (row * sz + off + (a.eval y).cells.toList.length)).toArray)
          have hrun := run_storeVar_row2 (P := P) ht hcl g1 hfit (Rs.lr_one hy)
          refine ⟨w.setRow b (cur.toList.take (row * sz + off) ++ (a.eval y).cells.toList ++ cur.toList.drop (row * sz + off + (a.eval y).cells.toList.length)).toArray, by simp only [execOp, ho, hv, Instr.storeAt, Instr.sureAddr, Sem.run_bind, Sem.run_pure, Result.andThen_ok, hrun], φ, ?_⟩
          have hO2 : OR (w.setRow b (cur.toList.take (row * sz + off) ++ (a.eval y).cells.toList ++ cur.toList.drop (row * sz + off + (a.eval y).cells.toList.length)).toArray) M φ id { ob with rows := R } := by
            refine ⟨h0, ?_⟩
            rw [hφi]
            refine ⟨_, setRow_heap w b cur _ ob.ety (0, 0) g1, ?_, hRC, g4, g5, fun i c hc => ⟨(hcells i c hc).1, fun j l hj => ?_⟩⟩
            · rw [← g2]; simp; omega
            · obtain ⟨v, hv, hr⟩ := (hcells i c hc).2 j l hj
              exact ⟨v, by rw [List.getElem?_toArray]; exact hv, hr⟩
          obtain ⟨q1, q2⟩ := hW.write hid hφi g1 hO2
          rw [hl_set hlt]
          exact ⟨q1, q2, hφ⟩
        split at hf
        · rename_i hbx hrows
          rename_i cells
          cases hc2 : (row == 0 && Nat.ble (off + n) cells.length) with
          | false => rw [hc2] at hf; cases hf
          | true =>
            rw [hc2] at hf; cases hf
            simp only [Bool.and_eq_true, beq_iff_eq, Nat.ble_eq] at hc2
            obtain ⟨rfl, hfit⟩ := hc2
            simp only [allP_append] at hob
            obtain ⟨w', hrun, φ', q1, q2, q3⟩ := go hob.1 hob.2 [cells.take off ++ c.cells ++ cells.drop (off + n)] (fun {b C cur w'} hφi g1 g2 g3 g6 hy hex => by
              have hcl : cells.length = ob.sz := (g6 0 cells (by rw [hrows]; rfl)).1
              have hC : 1 ≤ C := by rw [hrows] at g3; simpa using g3
              have hle : ob.sz ≤ cur.size := by rw [g2]; exact Nat.le_mul_of_pos_left _ hC
              have hvl := hy.len
              have hcl0 : cur.toList.length = cur.size := Array.length_toList
              refine ⟨by rw [Nat.zero_mul]; omega, by simpa using hC, fun i d hd => ?_⟩
              cases i with
              | succ i => simp at hd
              | zero =>
                obtain rfl := Option.some.inj (show some _ = some d from hd)
                refine ⟨by simp; omega, fun j l hj => ?_⟩
                have h3 := splice_get (l := cells) (vs := c.cells) (p := off) (by omega) j
                rw [hn] at hj
                rw [h3] at hj
                rw [Nat.zero_mul, Nat.zero_add, Nat.zero_mul, Nat.zero_add, splice_get (by omega)]
                have old : ∀ l, cells[j]? = some l → ∃ v, cur.toList[j]? = some v ∧ (if ob.box = true then LR w' M φ l v else IR w' M l v) := fun l hl => by
                  obtain ⟨v, hv, hr⟩ := (g6 0 cells (by rw [hrows]; rfl)).2 j l hl
                  rw [Nat.zero_mul, Nat.zero_add] at hv
                  rw [if_pos hbx] at hr
                  exact ⟨v, by simpa using hv, by rw [if_pos hbx]; exact hr.mono hex⟩
                by_cases j1 : j < off
                · rw [if_pos j1] at hj ⊢; exact old l hj
                · rw [if_neg j1] at hj ⊢
                  by_cases j2 : j < off + c.cells.length
                  · rw [if_pos j2] at hj
                    rw [if_pos (by omega)]
                    obtain ⟨v, hv, hr⟩ := hy.get hj
                    exact ⟨v, hv, by rw [if_pos hbx]; exact hr.mono hex⟩
                  · rw [if_neg j2] at hj
                    rw [if_neg (by omega)]
                    exact old l hj)
            exact ⟨w', hrun, φ', trivial, q1, q2, fun id hid => q3 id (by simpa using hid)⟩
        · rename_i old R hs' hbx
          cases hc2 : (Nat.ble (off + n) old.length && c.cells.all immL) with
          | false => rw [hc2] at hf; cases hf
          | true =>
            rw [hc2] at hf; cases hf
            simp only [Bool.and_eq_true, Nat.ble_eq] at hc2
            obtain ⟨hfit, himm⟩ := hc2
            simp only [allP_append, allP] at hob
            obtain ⟨⟨p1, p2⟩, hrow, hR, -⟩ := hob
            obtain ⟨w', hrun, φ', q1, q2, q3⟩ := go p1 p2 R (fun {b C cur w'} hφi g1 g2 g3 g6 hy hex => by
              have hol : old.length = ob.sz := (g6 row old hrow).1
              have hrlt := (List.getElem?_eq_some_iff.1 hrow).1
              have hle : (row + 1) * ob.sz ≤ cur.size := by rw [g2]; exact Nat.mul_le_mul_right _ (by omega)
              rw [Nat.add_mul, Nat.one_mul] at hle
              have hvl := hy.len
              have hcl0 : cur.toList.length = cur.size := Array.length_toList
              subst hsz
              refine ⟨by omega, by rw [← hR]; simpa using g3, fun i d hd => ?_⟩
              have old' : ∀ i (d : List Lf) j l, ob.rows[i]? = some d → d[j]? = some l → ∃ v, cur.toList[i * ob.sz + j]? = some v ∧ (if ob.box = true then LR w' M φ l v else IR w' M l v) := fun i d j l hd hl => by
                obtain ⟨v, hv, hr⟩ := (g6 i d hd).2 j l hl
                rw [hbx] at hr
                exact ⟨v, by simpa using hv, by rw [hbx]; exact IR.mono hex.blk hex.sub (by simpa using hr)⟩
              by_cases hi : i = row
              · subst hi
                rw [← hR, List.getElem?_set_self hrlt] at hd
                obtain rfl := Option.some.inj hd
                refine ⟨by simp; omega, fun j l hj => ?_⟩
                rw [hn, splice_get (by omega)] at hj
                rw [splice_get (by omega)]
                by_cases j1 : j < off
                · rw [if_pos j1] at hj; rw [if_pos (by omega)]; exact old' i old j l hrow hj
                · rw [if_neg j1] at hj; rw [if_neg (by omega)]
                  by_cases j2 : j < off + c.cells.length
                  · rw [if_pos j2] at hj; rw [if_pos (by omega)]
                    obtain ⟨v, hv, hr⟩ := hy.get hj
                    refine ⟨v, by rw [show i * ob.sz + j - (i * ob.sz + off) = j - off by omega]; exact hv, ?_⟩
                    rw [hbx]
                    exact IR.mono hex.blk hex.sub (LR.imm (List.all_eq_true.1 himm l (List.mem_of_getElem? hj)) hr)
                  · rw [if_neg j2] at hj; rw [if_neg (by omega)]; exact old' i old j l hrow hj
              · rw [← hR, List.getElem?_set_ne (Ne.symm hi)] at hd
                have hdl := (g6 i d hd).1
                refine ⟨hdl, fun j l hj => ?_⟩
                have hjl := (List.getElem?_eq_some_iff.1 hj).1
                rw [splice_get (by omega)]
                rcases Nat.lt_or_ge i row with h5 | h5
                · have : (i + 1) * ob.sz ≤ row * ob.sz := Nat.mul_le_mul_right _ h5
                  rw [Nat.add_mul, Nat.one_mul] at this
                  rw [if_pos (by omega)]; exact old' i d j l hd hj
                · have : (row + 1) * ob.sz ≤ i * ob.sz := Nat.mul_le_mul_right _ (by omega)
                  rw [Nat.add_mul, Nat.one_mul] at this
                  rw [if_neg (by omega), if_neg (by omega)]; exact old' i d j l hd hj)
            exact ⟨w', hrun, φ', trivial, q1, q2, fun id hid => q3 id (by simpa using hid)⟩
        · cases hf
    · cases hf
  · cases hf
end
end Go.Proofs.YtjhhlmmmkgnhmaaDoor
