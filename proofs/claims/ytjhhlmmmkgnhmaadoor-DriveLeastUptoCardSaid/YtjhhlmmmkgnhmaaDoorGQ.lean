/- The abstract machine is sound, part 11: appending to a slice of the call's own, copying into it. No program in sight. -/
import Derived.Test.YtjhhlmmmkgnhmaaDoorGO
namespace Go.Proofs.YtjhhlmmmkgnhmaaDoor
set_option linter.unusedSimpArgs false
set_option linter.unusedVariables false
set_option linter.unusedSectionVars false
open Go.RowKit
section
variable {P : Program} {Γ : Gam} {φ φ' : Pl} {M M' : Nat → Prop} {h : Nat → Option Ob} {w w' : World} {a : Act} {hs : List Hint} {o : Oper} {H : List (Option Ob)} {L : List (Nat × AV)}
theorem run_append_room_row {t tx ty e : TypeId} {i : TypeInfo} {b n C k : Nat} {cur : Array Value} {x : Value} {news : List Value} (ht : P.underlying t = some (.slice e)) (hi : P.info? e = some i) (hs : Src P i.size tx x k news w) (hroom : n + k ≤ C)
    (hg : w.heap[b]? = some (.cells cur e (0, 0))) (hfit : n * i.size + news.length ≤ cur.size) :
    (Builtin.append_ #[t, tx] ty #[.slice (some ⟨b, 0, none⟩) n C, x]).run P w = .ok (.slice (some ⟨b, 0, none⟩) (n + k) C) (w.setRow b (cur.toList.take (n * i.size) ++ news ++ cur.toList.drop (n * i.size + news.length)).toArray) := by
  have hst := run_storeCells_at P b (n * i.size) e news 0 cur w hg (by simpa using hfit) hs.one
  simp only [Nat.add_zero] at hst
  rcases hs.kind with ⟨e', hk⟩ | hk <;> simp [Builtin.append_, run_underlying ht, run_underlying hk, sizeOf, typeInfo, hi, hs.len, hroom, hs.cells, Addr.add_lit, hst]
theorem hl_drop_new {id : Nat} {ob : Ob} (hlt : id < H.length) : hl ((H.set id none) ++ [some ob]) = fun i => if i = H.length then some ob else if i = id then none else hl H i := by
  have := hl_snoc (H := H.set id none) (x := some ob)
  rw [this]
  funext i
  rw [List.length_set]
  by_cases h1 : i = H.length
  · rw [if_pos h1, if_pos h1]
  · rw [if_neg h1, if_neg h1]
    by_cases h2 : i = id
    · subst h2; rw [if_pos rfl, hl_set_self hlt]
    · rw [if_neg h2, hl_set_ne h2]
/-- The rows of an own slice, as they lie. -/
theorem own_rows {id : Nat} {ob : Ob} {b C : Nat} {cur : Array Value} (hbx : ob.box = false) (hcur : w.heap[b]? = some (.cells cur ob.ety (0, 0)))
    (g6 : ∀ i c, ob.rows[i]? = some c → c.length = ob.sz ∧ ∀ j l, c[j]? = some l → ∃ v, cur[i * ob.sz + j]? = some v ∧ (if ob.box then LR w M φ l v else IR w M l v)) :
    ∃ olds, Rs (IR w M) ob.rows.flatten olds ∧ w.rangeAt b 0 olds ∧ olds.length = ob.rows.length * ob.sz := by
  obtain ⟨olds, h1, h2⟩ := rows_gather (w := w) (R := IR w M) (b := b) (sz := ob.sz) ob.rows 0 (fun i c hc => (g6 i c hc).1) fun i c j l hc hj => by
    obtain ⟨v, hv, hr⟩ := (g6 i c hc).2 j l hj
    rw [hbx] at hr
    exact ⟨v, by simp only [World.cell?, hcur, Nat.zero_add]; simpa using hv, by simpa using hr⟩
  exact ⟨olds, h1, h2, by rw [← h1.len, flatten_len (mem_row fun i c hc => (g6 i c hc).1)]⟩
theorem sound_append_own {r : Mes} (hW : Wd Γ φ M (hl H) w) (hF : ∀ t, AR w M φ (look L t) (a.tmps.getD t undef)) (hφ : ∀ id, H.length ≤ id → φ id = none) {c : Call} (ho : o.op = .call c) (hc : c.callee = .builtin .append) (hf : mop P H (look L) o.op hs = some r) (hob : allP r.obs) :
    ∃ v w', (execOp a.eval o).run P w = .ok (.value v) w' ∧ Md Γ φ M w r v w' := by
  rw [ho] at hf
  simp only [mop, hc] at hf
  split at hf
  · rename_i id sz off len x o1 t t' R hs' hargs htys
    split at hf
    · rename_i e ob sz' new o2 he hid hro
      split at hf
      · rename_i i z hi hz
        generalize hcc : (t == t' && off == 0 && sz == i.size && ob.sz == sz && !ob.box && ob.ety == e && (sz' == sz || new.isEmpty) && !sameOs id x) = cc at hf
        cases cc with
        | false => cases hf
        | true =>
          cases hf
          simp only [Bool.and_eq_true, beq_iff_eq, Bool.or_eq_true, Bool.not_eq_true', List.isEmpty_iff] at hcc
          obtain ⟨⟨⟨⟨⟨⟨⟨rfl, rfl⟩, rfl⟩, hsz⟩, hbx⟩, rfl⟩, hnew⟩, hxid⟩ := hcc
          simp only [allP_append, allP] at hob
          obtain ⟨⟨p1, p2⟩, hlen, hR, hby, h63, -⟩ := hob
          have ht := sliceElem_some he
          obtain ⟨i2, zv, hi2, hzv, hzs, h0, hrs, hzl⟩ := zeroL_some (w := w) (M := M) (φ := φ) hz
          obtain rfl : i = i2 := by rw [hi] at hi2; exact Option.some.inj hi2
          have hA := argsG_ok hF trivial hargs p1
          obtain ⟨vd, vx, hvs, hd, hx⟩ := hA.args2
          obtain ⟨cn, hrun⟩ := run_builtin (P := P) (w := w) (a := a) ho hc
          have hargs' : c.args.map a.eval = #[vd, vx] := by apply Array.ext'; simp [← hvs]
          have htys' : c.argTypes = #[t, t] := by apply Array.ext'; simp [htys]
          rw [hargs', htys'] at hrun
          have hrun' : ∀ v w', (Builtin.append_ #[t, t] o.type #[vd, vx]).run P w = .ok v w' → (execOp a.eval o).run P w = .ok (.value v) w' := fun v w' hh => by
            rw [hrun]; simp only [builtin, Sem.run_bind, hh]; rfl
          obtain ⟨news, hsrc, hnr, hnl⟩ := rowsOf_ok (size := i.size) hW (fun _ _ h => h) ht hro p2 hnew (hx : LR w M φ x vx) (fun _ _ _ _ _ _ _ _ _ _ _ _ _ h => h)
          have hlt := hl_some_lt hid
          have hO := hW.obs id ob hid
          have hRl : R.length = len + new.length := by rw [← hR, List.length_append, hlen]
          have hn' : φ H.length = none := hφ _ (Nat.le_refl _)
          have hh' : hl H H.length = none := by unfold hl; rw [List.getElem?_eq_none (Nat.le_refl _)]; rfl
          have hne : id ≠ H.length := by omega
          rcases (hd : LR0 w M φ (.os id i.size 0 len) vd) with ⟨b, C, hφi, rfl, hle⟩ | ⟨hφi, _, rfl, A, rfl⟩
          · obtain ⟨hs0, hO'⟩ := hO
            rw [hφi] at hO'
            obtain ⟨cur, g1, g2, g3, g4, g5, g6⟩ := hO'
            obtain ⟨olds, q1, q2, q3⟩ := own_rows (id := id) (C := C) hbx g1 g6
            have hrl : ∀ (i : Nat) (c : List Lf), ob.rows[i]? = some c → c.length = ob.sz := fun i c hc => (g6 i c hc).1
            rw [Nat.zero_mul, Nat.sub_zero] at hrun'
            have hRr : ∀ (j : Nat) (c : List Lf), R[j]? = some c → c.length = i.size := fun j c hj => by
              rw [← hR] at hj
              rcases Nat.lt_or_ge j ob.rows.length with h | h
              · rw [List.getElem?_append_left h] at hj; rw [← hsz]; exact hrl j c hj
              · rw [List.getElem?_append_right h] at hj; exact hnl _ c hj
            by_cases hroom : len + new.length ≤ C
            · have hfit : len * i.size + news.length ≤ cur.size := by rw [hsrc.newsLen, g2, hsz, ← Nat.add_mul]; exact Nat.mul_le_mul_right _ hroom
              have hap := run_append_room_row (P := P) (ty := o.type) ht hi hsrc hroom g1 hfit
              have hex : Ex w M φ (w.setRow b (cur.toList.take (len * i.size) ++ news ++ cur.toList.drop (len * i.size + news.length)).toArray) M φ := by
                obtain ⟨hm, _, _⟩ := hW.own id ob b C hid hφi
                exact ⟨fun c hc => setRow_other w b c _ fun e => hm (e ▸ hc), fun _ h => h, fun _ _ h => h⟩
              have htake : cur.toList.take (len * i.size) = olds := by
                apply List.ext_getElem?
                intro k
                rw [List.getElem?_take]
                have hol : olds.length = len * i.size := by rw [q3, hlen, hsz]
                by_cases hk : k < len * i.size
                · rw [if_pos hk]
                  have := q2 k _ (List.getElem?_eq_getElem (show k < olds.length by omega))
                  simp only [World.cell?, g1, Nat.zero_add] at this
                  rw [List.getElem?_eq_getElem (show k < olds.length by omega)]
                  simpa using this
                · rw [if_neg hk, List.getElem?_eq_none (by omega)]
              have hO2 : OR (w.setRow b (cur.toList.take (len * i.size) ++ news ++ cur.toList.drop (len * i.size + news.length)).toArray) M φ id ⟨false, i.size, ob.ety, R⟩ := by
                refine OR_row (vs := olds ++ news) (rest := cur.toList.drop (len * i.size + news.length)) hφi ?_ h0 ?_ (by omega) g4 hRr ?_
                · rw [htake] ; exact setRow_heap w b cur _ ob.ety (0, 0) g1
                · have h1 : olds.length = len * i.size := by rw [q3, hlen, hsz]
                  have h2 : cur.size = C * i.size := by rw [g2, hsz]
                  simp; omega
                · rw [← hR, List.flatten_append]; exact (q1.append hnr).mono fun _ _ h => h.mono hex.blk hex.sub
              obtain ⟨w1, w2⟩ := hW.write hid hφi g1 hO2
              have hmv := w1.move (id := id) (id' := H.length) (ob := ⟨false, i.size, ob.ety, R⟩) (p := some (b, C)) (if_pos rfl) hφi hn' (by rw [if_neg (Ne.symm hne)]; exact hh')
              refine ⟨_, _, hrun' _ _ hap, upP φ H.length (some (b, C)), ?_, ?_, ⟨w2.blk, w2.sub, upP_pl _ hn'⟩, fun k hk => ?_⟩
              · exact .inl ⟨b, C, upP_self _ _ _, by rw [hRl]; simp, by omega⟩
              · refine hmv.less fun k ob' hk => ?_
                rw [hl_drop_new hlt] at hk; dsimp only at hk ⊢
                by_cases h1 : k = H.length
                · rw [if_pos h1] at hk ⊢; exact hk
                · rw [if_neg h1] at hk ⊢
                  by_cases h2 : k = id
                  · rw [if_pos h2] at hk; cases hk
                  · rw [if_neg h2] at hk; rw [if_neg h2]; simpa only [if_neg h2] using hk
              · simp only [List.length_append, List.length_set, List.length_singleton] at hk
                rw [upP_ne _ (by omega)]; exact hφ k (by omega)
            · have hold : (Builtin.firstCells i.size len (.slice (some ⟨b, 0, none⟩) len C)).run P w.drew = .ok olds.toArray w.drew :=
                run_firstCells_some w.drew i.size len ⟨b, 0, none⟩ len C olds (by rw [q3, hlen, hsz]) (fun j v hj => by rw [Addr.add_mid]; exact q2 j v hj)
              obtain ⟨C', w', hap, hb, hlt', hle', hO2⟩ := grown_row (id := H.length) (rows := R) (ty := o.type) hW ht hi hzv hzs h0 hold hsrc (by omega) (by omega) (by rw [← hRl]; exact hby) (by rw [q3, hlen, hsz]) hRl hRr (by rw [← hR, List.flatten_append]; exact q1.append hnr) hn'
              have hN := hW.new (⟨false, i.size, ob.ety, R⟩ : Ob) hn' hh' hb (Nat.le_refl _) hlt' hO2
              refine ⟨_, _, hrun' _ _ hap, upP φ H.length (some (w.heap.size, C')), ?_, ?_, ⟨fun c hc => hb.block c (hW.mlt c hc), fun _ h => h, upP_pl _ hn'⟩, fun k hk => ?_⟩
              · exact .inl ⟨w.heap.size, C', upP_self _ _ _, by rw [hRl]; simp, by omega⟩
              · refine hN.less fun k ob' hk => ?_
                rw [hl_drop_new hlt] at hk; dsimp only at hk ⊢
                by_cases h1 : k = H.length
                · rw [if_pos h1] at hk ⊢; exact hk
                · rw [if_neg h1] at hk ⊢
                  by_cases h2 : k = id
                  · rw [if_pos h2] at hk; cases hk
                  · rw [if_neg h2] at hk; exact hk
              · simp only [List.length_append, List.length_set, List.length_singleton] at hk
                rw [upP_ne _ (by omega)]; exact hφ k (by omega)
          · have hr0 : ob.rows = [] := List.eq_nil_of_length_eq_zero hlen
            have hless : ∀ (p : Option (Nat × Nat)) (w' : World), Wd Γ (upP φ H.length p) M (fun k => if k = H.length then some ⟨false, i.size, ob.ety, R⟩ else hl H k) w' → Wd Γ (upP φ H.length p) M (hl (H.set id none ++ [some ⟨false, i.size, ob.ety, R⟩])) w' := fun p w' hN => by
              refine hN.less fun k ob' hk => ?_
              rw [hl_drop_new hlt] at hk; dsimp only at hk ⊢
              by_cases h1 : k = H.length
              · rw [if_pos h1] at hk ⊢; exact hk
              · rw [if_neg h1] at hk ⊢
                by_cases h2 : k = id
                · rw [if_pos h2] at hk; cases hk
                · rw [if_neg h2] at hk; exact hk
            have hlast : ∀ (p : Option (Nat × Nat)) (k : Nat), (H.set id none ++ [some (⟨false, i.size, ob.ety, R⟩ : Ob)]).length ≤ k → upP φ H.length p k = none := fun p k hk => by
              simp only [List.length_append, List.length_set, List.length_singleton] at hk
              rw [upP_ne _ (by omega)]; exact hφ k (by omega)
            by_cases hn0 : new.length = 0
            · have hnew0 : new = [] := List.eq_nil_of_length_eq_zero hn0
              have hR0 : R = [] := by rw [← hR, hr0, hnew0]; rfl
              rw [hn0] at hsrc
              have hap := run_append_zero (P := P) (ty := o.type) (A := A) (n := 0) (c := 0) ht hi hsrc (Nat.le_refl _)
              refine ⟨_, _, hrun' _ _ hap, upP φ H.length none, ?_, hless none w (hW.newNil (⟨false, i.size, ob.ety, R⟩ : Ob) hn' hh' hR0 rfl h0), ⟨fun _ _ => rfl, fun _ h => h, upP_pl _ hn'⟩, hlast none⟩
              exact .inr ⟨upP_self _ _ _, rfl, by rw [hR0]; rfl, A, rfl⟩
            · have hold : (Builtin.firstCells i.size 0 (.slice A 0 0)).run P w.drew = .ok ([] : List Value).toArray w.drew := by cases A <;> simp [Builtin.firstCells, loadCells, loadCellsFrom]
              obtain ⟨C', w', hap, hb, hlt', hle', hO2⟩ := grown_row (id := H.length) (rows := R) (ty := o.type) hW ht hi hzv hzs h0 hold hsrc (by omega) (by omega) (by rw [← hRl]; exact hby) (by simp) hRl (fun j c hj => by rw [← hR, hr0] at hj; exact hnl j c (by simpa using hj)) (by rw [← hR, hr0]; simpa using hnr) hn'
              refine ⟨_, _, hrun' _ _ hap, upP φ H.length (some (w.heap.size, C')), ?_, hless _ w' (hW.new (⟨false, i.size, ob.ety, R⟩ : Ob) hn' hh' hb (Nat.le_refl _) hlt' hO2), ⟨fun c hc => hb.block c (hW.mlt c hc), fun _ h => h, upP_pl _ hn'⟩, hlast _⟩
              exact .inl ⟨w.heap.size, C', upP_self _ _ _, by rw [hRl]; simp, by omega⟩
      · cases hf
    · cases hf
  · cases hf
theorem run_copy_gen {t ty e et : TypeId} {i : TypeInfo} {b len C k cap n : Nat} {A : Option Addr} {cur : Array Value} {cs : List Value} (ht : P.underlying t = some (.slice e)) (hi : P.info? e = some i) (hg : w.heap[b]? = some (.cells cur et (0, 0))) (hn : Nat.min k len = n)
    (hsrc : (Builtin.firstCells i.size n (.slice A k cap)).run P w = .ok cs.toArray w) (hfit : cs.length ≤ cur.size) (h1 : ∀ u ∈ cs, u.oneCell' = true) :
    (Builtin.copy_ #[t, t] ty #[.slice (some ⟨b, 0, none⟩) len C, .slice A k cap]).run P w = .ok (goInt n) (w.setRow b (cs ++ cur.toList.drop cs.length).toArray) := by
  have hst := run_storeCells_at P b 0 et cs 0 cur w hg (by simpa using hfit) h1
  simp only [Nat.add_zero, List.take_zero, List.nil_append, Nat.zero_add] at hst
  simp [Builtin.copy_, run_underlying ht, Builtin.lenOf, sizeOf, typeInfo, hi, hn, hsrc, hst]
theorem run_copy_into_nil {t ty e : TypeId} {i : TypeInfo} {k cap : Nat} {A B : Option Addr} (ht : P.underlying t = some (.slice e)) (hi : P.info? e = some i) :
    (Builtin.copy_ #[t, t] ty #[.slice B 0 0, .slice A k cap]).run P w = .ok (goInt 0) w := by
  have hm : Nat.min k 0 = 0 := Nat.min_zero k
  have hf : (Builtin.firstCells i.size 0 (.slice A k cap)).run P w = .ok #[] w := by cases A <;> simp [Builtin.firstCells, loadCells, loadCellsFrom]
  cases B <;> simp [Builtin.copy_, run_underlying ht, Builtin.lenOf, sizeOf, typeInfo, hi, hm, hf, storeCells]
theorem flatten_take {α : Type} {sz : Nat} : ∀ {rows : List (List α)} (n : Nat), (∀ c ∈ rows, c.length = sz) → (rows.take n).flatten = rows.flatten.take (n * sz)
  | [], n, _ => by simp
  | c :: r, 0, _ => by simp
  | c :: r, n + 1, h => by
    have hc := h c (by simp)
    rw [List.take_succ_cons, List.flatten_cons, List.flatten_cons, flatten_take n (fun d hd => h d (by simp [hd])), List.take_append, hc, Nat.add_mul, Nat.one_mul, Nat.add_sub_cancel, List.take_of_length_le (show c.length ≤ n * sz + sz by omega)]
theorem flatten_drop {α : Type} {sz : Nat} : ∀ {rows : List (List α)} (n : Nat), (∀ c ∈ rows, c.length = sz) → (rows.drop n).flatten = rows.flatten.drop (n * sz)
  | [], n, _ => by simp
  | c :: r, 0, _ => by simp
  | c :: r, n + 1, h => by
    have hc := h c (by simp)
    rw [List.drop_succ_cons, List.flatten_cons, flatten_drop n (fun d hd => h d (by simp [hd])), List.drop_append, hc, Nat.add_mul, Nat.one_mul, Nat.add_sub_cancel, List.drop_of_length_le (show c.length ≤ n * sz + sz by omega), List.nil_append]
theorem sound_copy_own {r : Mes} (hW : Wd Γ φ M (hl H) w) (hF : ∀ t, AR w M φ (look L t) (a.tmps.getD t undef)) (hφ : ∀ id, H.length ≤ id → φ id = none) {c : Call} (ho : o.op = .call c) (hc : c.callee = .builtin .copy) (hf : mop P H (look L) o.op hs = some r) (hob : allP r.obs) :
    ∃ v w', (execOp a.eval o).run P w = .ok (.value v) w' ∧ Md Γ φ M w r v w' := by
  rw [ho] at hf
  simp only [mop, hc] at hf
  split at hf
  · rename_i id sz off len x o1 t t' R n hs' hargs htys
    split at hf
    · rename_i e ob sz' new o2 he hid hro
      split at hf
      · rename_i i hi
        generalize hcc : (t == t' && off == 0 && sz == i.size && ob.sz == sz && !ob.box && (sz' == sz || new.isEmpty) && !sameOs id x) = cc at hf
        cases cc with
        | false => cases hf
        | true =>
          cases hf
          simp only [Bool.and_eq_true, beq_iff_eq, Bool.or_eq_true, Bool.not_eq_true', List.isEmpty_iff] at hcc
          obtain ⟨⟨⟨⟨⟨⟨rfl, rfl⟩, rfl⟩, hsz⟩, hbx⟩, hnew⟩, hxid⟩ := hcc
          simp only [allP_append, allP] at hob
          obtain ⟨⟨p1, p2⟩, hlen, hmin, hR, -⟩ := hob
          have ht := sliceElem_some he
          have hA := argsG_ok hF trivial hargs p1
          obtain ⟨vd, vx, hvs, hd, hx⟩ := hA.args2
          obtain ⟨cn, hrun⟩ := run_builtin (P := P) (w := w) (a := a) ho hc
          have hargs' : c.args.map a.eval = #[vd, vx] := by apply Array.ext'; simp [← hvs]
          have htys' : c.argTypes = #[t, t] := by apply Array.ext'; simp [htys]
          rw [hargs', htys'] at hrun
          have hrun' : ∀ v w', (Builtin.copy_ #[t, t] o.type #[vd, vx]).run P w = .ok v w' → (execOp a.eval o).run P w = .ok (.value v) w' := fun v w' hh => by
            rw [hrun]; simp only [builtin, Sem.run_bind, hh]; rfl
          obtain ⟨news, hnr, hnl, A, cap, rfl, had⟩ := rowsOf_ad (size := i.size) hW hro p2 hnew (hx : LR w M φ x vx)
          have hlt := hl_some_lt hid
          have hO := hW.obs id ob hid
          have hO0 := hO
          have hval : AR w M φ (one (.int .i64 n)) (goInt n) := IR.int _ _
          rcases (hd : LR0 w M φ (.os id i.size 0 len) vd) with ⟨b, C, hφi, rfl, hle⟩ | ⟨hφi, _, rfl, B, rfl⟩
          · obtain ⟨hs0, hO'⟩ := hO
            rw [hφi] at hO'
            obtain ⟨cur, g1, g2, g3, g4, g5, g6⟩ := hO'
            obtain ⟨olds, q1, q2, q3⟩ := own_rows (id := id) (C := C) hbx g1 g6
            have hrl : ∀ (i : Nat) (c : List Lf), ob.rows[i]? = some c → c.length = ob.sz := fun i c hc => (g6 i c hc).1
            rw [Nat.zero_mul, Nat.sub_zero] at hrun'
            have hnn : n ≤ new.length := by omega
            have hno : n ≤ ob.rows.length := by omega
            -- the cells that are copied
            have hnl2 := flatten_len (mem_row hnl)
            have hnlen : news.length = new.length * i.size := by rw [← hnr.len, hnl2]
            have hcl : (news.take (n * i.size)).length = n * i.size := by
              rw [List.length_take, hnlen]
              exact Nat.min_eq_left (Nat.mul_le_mul_right _ hnn)
            have hone : ∀ u ∈ news.take (n * i.size), u.oneCell' = true := fun u hu => Rs.lr_one (φ := φ) (hnr.mono fun _ _ h => IR.lr h) u (List.mem_of_mem_take hu)
            have hsrc : (Builtin.firstCells i.size n (.slice A new.length cap)).run P w = .ok (news.take (n * i.size)).toArray w := by
              by_cases hn0 : new = []
              · have hn1 : n = 0 := by rw [hn0] at hnn; simpa using hnn
                rw [hn1, Nat.zero_mul, List.take_zero]
                cases A <;> simp [Builtin.firstCells, loadCells, loadCellsFrom]
              · obtain ⟨ad, rfl, hcell⟩ := had hn0
                have := run_loadCells_list (P := P) (w := w) ad (news.take (n * i.size)) (fun j v hj => by
                  rw [List.getElem?_take] at hj
                  split at hj
                  · exact hcell j v hj
                  · cases hj)
                rw [hcl] at this
                simpa [Builtin.firstCells] using this
            have hcsz : n * i.size ≤ cur.size := by rw [g2, hsz]; exact Nat.mul_le_mul_right _ (by omega)
            have hap := run_copy_gen (P := P) (ty := o.type) (len := len) (C := C) ht hi g1 (show Nat.min new.length len = n by rw [← hlen]; exact hmin) hsrc (by rw [hcl]; exact hcsz) hone
            rw [hcl] at hap
            have hex : Ex w M φ (w.setRow b (news.take (n * i.size) ++ cur.toList.drop (n * i.size)).toArray) M φ := by
              obtain ⟨hm, _, _⟩ := hW.own id ob b C hid hφi
              exact ⟨fun c hc => setRow_other w b c _ fun e => hm (e ▸ hc), fun _ h => h, fun _ _ h => h⟩
            have htake : cur.toList.take (len * i.size) = olds := by
              apply List.ext_getElem?
              intro k
              rw [List.getElem?_take]
              have hol : olds.length = len * i.size := by rw [q3, hlen, hsz]
              by_cases hk : k < len * i.size
              · rw [if_pos hk]
                have := q2 k _ (List.getElem?_eq_getElem (show k < olds.length by omega))
                simp only [World.cell?, g1, Nat.zero_add] at this
                rw [List.getElem?_eq_getElem (show k < olds.length by omega)]
                simpa using this
              · rw [if_neg hk, List.getElem?_eq_none (by omega)]
            have hRl : R.length = len := by rw [← hR, List.length_append, List.length_take, List.length_drop]; omega
            have hRr : ∀ (j : Nat) (c : List Lf), R[j]? = some c → c.length = ob.sz := fun j c hj => by
              rw [← hR] at hj
              rcases Nat.lt_or_ge j (new.take n).length with h | h
              · rw [List.getElem?_append_left h, List.getElem?_take] at hj
                split at hj
                · rw [hsz]; exact hnl j c hj
                · cases hj
              · rw [List.getElem?_append_right h, List.getElem?_drop] at hj
                exact hrl _ c hj
            have hO2 : OR (w.setRow b (news.take (n * i.size) ++ cur.toList.drop (n * i.size)).toArray) M φ id { ob with rows := R } := by
              have key : ({ ob with rows := R } : Ob) = ⟨false, ob.sz, ob.ety, R⟩ := by rw [← hbx]
              have hdr : cur.toList.drop (n * i.size) = olds.drop (n * i.size) ++ cur.toList.drop (len * i.size) := by
                rw [← htake, ← List.drop_append_of_le_length (by rw [List.length_take]; have h1 : n * i.size ≤ len * i.size := Nat.mul_le_mul_right _ (by omega); have h2 : cur.toList.length = cur.size := Array.length_toList; omega), List.take_append_drop]
              rw [key]
              refine OR_row (vs := news.take (n * i.size) ++ olds.drop (n * i.size)) (rest := cur.toList.drop (len * i.size)) hφi ?_ hs0 ?_ (by omega) g4 hRr ?_
              · rw [List.append_assoc, ← hdr]; exact setRow_heap w b cur _ ob.ety (0, 0) g1
              · rw [List.append_assoc, ← hdr, List.length_append, hcl, List.length_drop, Array.length_toList, ← g2]; omega
              · rw [← hR, List.flatten_append, flatten_take n (mem_row hnl), flatten_drop n (mem_row hrl), hsz]
                exact ((hnr.take _).append (q1.drop _)).mono fun _ _ h => h.mono hex.blk hex.sub
            obtain ⟨w1, w2⟩ := hW.write hid hφi g1 hO2
            refine ⟨_, _, hrun' _ _ hap, φ, IR.int _ _, ?_, w2, fun k hk => hφ k (by simpa using hk)⟩
            rw [hl_set hlt]; exact w1
          · have hr0 : ob.rows = [] := List.eq_nil_of_length_eq_zero hlen
            have hn0 : n = 0 := by rw [hr0] at hmin; simpa using hmin.symm
            subst hn0
            have hR0 : R = [] := by rw [← hR, hr0]; simp
            have hap := run_copy_into_nil (P := P) (w := w) (ty := o.type) (k := new.length) (cap := cap) (A := A) (B := B) ht hi
            refine ⟨_, _, hrun' _ _ hap, φ, IR.int _ _, ?_, ⟨fun _ _ => rfl, fun _ h => h, fun _ _ h => h⟩, fun k hk => hφ k (by simpa using hk)⟩
            have hsame : hl (H.set id (some { ob with rows := R })) = hl H := by
              rw [hl_set hlt, hR0, ← hr0]
              funext k
              by_cases hk : k = id
              · rw [if_pos hk, hk, hid]
              · rw [if_neg hk]
            rw [hsame]; exact hW
      · cases hf
    · cases hf
  · cases hf
end
end Go.Proofs.YtjhhlmmmkgnhmaaDoor
