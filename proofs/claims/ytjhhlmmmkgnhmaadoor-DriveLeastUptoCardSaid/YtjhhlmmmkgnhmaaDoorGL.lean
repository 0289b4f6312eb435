/- The abstract machine is sound, part 7: what is appended; any operation that writes to nothing that was there; calls that only read. No program in sight. -/
import Derived.Test.YtjhhlmmmkgnhmaaDoorGK
namespace Go.Proofs.YtjhhlmmmkgnhmaaDoor
set_option linter.unusedSimpArgs false
set_option linter.unusedVariables false
set_option linter.unusedSectionVars false
open Go.RowKit
section
variable {P : Program} {Γ : Gam} {φ : Pl} {M : Nat → Prop} {hD h : Nat → Option Ob} {w : World} {base : Nat} {L : Nat → AV} {a : Act} {g : Prop} {hs : List Hint} {r : Res} {o : Oper}
/-- The rows behind a slice value: as the source of an append. -/
structure RowSrc (P : Program) (w : World) (M : Nat → Prop) (sz size : Nat) (tx : TypeId) (rows : List (List Lf)) (v : Value) : Prop where
  src : ∃ news, Src P size tx v rows.length news w ∧ Rs (IR w M) rows.flatten news
  row : ∀ (i : Nat) (c : List Lf), rows[i]? = some c → c.length = size
theorem rowsOf_ok {l : Lf} {v : Value} {sz size : Nat} {rows : List (List Lf)} {ob : List Prop} {tx e' : TypeId} (hW : Wd Γ φ M hD w) (hsub : ∀ id ob, h id = some ob → hD id = some ob) (hk : P.underlying tx = some (.slice e')) (hr : rowsOf h l = some (sz, rows, ob)) (ho : allP ob)
    (hs : sz = size ∨ rows = []) (hv : LR w M φ l v) (hIR : ∀ id sz' off len b C, l = .os id sz' off len → φ id = some (some (b, C)) → ∀ c ∈ rows, ∀ x ∈ c, ∀ u, IR w M x u → IR w M x u) :
    ∃ news, Src P size tx v rows.length news w ∧ Rs (IR w M) rows.flatten news ∧ (∀ (i : Nat) (c : List Lf), rows[i]? = some c → c.length = size) := by
  have hnil : ∀ {c : Nat} {A : Option Addr}, ∃ news, Src P size tx (.slice A 0 c) 0 news w ∧ Rs (IR w M) ([] : List Lf) news := fun {c A} => by
    cases A with
    | none => exact ⟨[], Src.ofNil w hk c, trivial⟩
    | some A => exact ⟨[], Src.ofSlice w hk A 0 c [] (by simp) (fun j u h => by simp at h) (fun u h => by simp at h), trivial⟩
  cases l with
  | nils =>
    simp only [rowsOf] at hr; cases hr
    have hv' : IR w M .nils v := hv
    cases hv'
    obtain ⟨news, h1, h2⟩ := hnil (c := 0) (A := none)
    exact ⟨news, h1, h2, fun i c h => by simp at h⟩
  | sl cl s rs =>
    simp only [rowsOf] at hr; cases hr
    have hv' : IR w M (.sl cl sz rows) v := hv
    cases hv' with
    | sl0 _ _ A cap _ => obtain ⟨news, h1, h2⟩ := hnil (c := cap) (A := A); exact ⟨news, h1, h2, fun i c h => by simp at h⟩
    | sl _ _ _ b k cap vs hm hlc hcl hls hcc hrr =>
      by_cases hne : rows = []
      · subst hne; obtain ⟨news, h1, h2⟩ := hnil (c := cap) (A := some ⟨b, k, none⟩); exact ⟨news, h1, h2, fun i c h => by simp at h⟩
      · obtain rfl : sz = size := hs.resolve_right hne
        obtain ⟨news, h1, h2⟩ := rows_gather (R := IR w M) (b := b) (sz := sz) rows k hls fun i c j l h1 h2 => ⟨_, hcc i c j l h1 h2, hrr i c j l h1 h2⟩
        refine ⟨news, Src.ofSlice w hk ⟨b, k, none⟩ rows.length cap news ?_ (fun j u hj => by rw [Addr.add_mid]; exact h2 j u hj) ?_, h1, hls⟩
        · rw [← h1.len, flatten_len (mem_row hls)]
        · exact Rs.lr_one (φ := φ) (h1.mono fun _ _ h => IR.lr h)
  | os id s off len =>
    simp only [rowsOf] at hr
    split at hr
    · rename_i o1 ho1
      cases hc : (off == 0 && !o1.box && o1.sz == s) with
      | false => rw [hc] at hr; cases hr
      | true =>
        rw [hc] at hr; cases hr
        simp only [Bool.and_eq_true, beq_iff_eq, Bool.not_eq_true'] at hc
        obtain ⟨⟨rfl, hbx⟩, hsz⟩ := hc
        have hO := hW.obs id o1 (hsub id o1 ho1)
        have hlen := ho.1
        have hv' : LR0 w M φ (.os id sz 0 len) v := hv
        rcases hv' with ⟨b, C, hφ, rfl, hle⟩ | ⟨hφ, _, rfl, A, rfl⟩
        · have hcells := fun i c (hc : o1.rows[i]? = some c) => hO.cell hφ hc
          have hrl : ∀ (i : Nat) (c : List Lf), o1.rows[i]? = some c → c.length = sz := fun i c hc => by
            obtain ⟨_, h1⟩ := hO
            rw [hφ] at h1
            obtain ⟨cur, _, _, _, _, _, g6⟩ := h1
            rw [(g6 i c hc).1, hsz]
          by_cases hne : o1.rows = []
          · have hl0 : len = 0 := by rw [← hlen, hne]; rfl
            rw [hne, hl0]
            obtain ⟨news, h1, h2⟩ := hnil (c := C - 0) (A := some ⟨b, 0 * sz, none⟩)
            exact ⟨news, h1, h2, fun i c h => by simp at h⟩
          · obtain rfl : sz = size := hs.resolve_right hne
            obtain ⟨news, h1, h2⟩ := rows_gather (R := IR w M) (b := b) (sz := sz) o1.rows 0 hrl fun i c j l hc hj => by
              obtain ⟨v, hv, hr⟩ := hcells i c hc j l hj
              rw [hbx] at hr
              exact ⟨v, by rw [Nat.zero_add, ← hsz]; exact hv, by simpa using hr⟩
            refine ⟨news, ?_, h1, hrl⟩
            rw [hlen, Nat.zero_mul]
            refine Src.ofSlice w hk ⟨b, 0, none⟩ len (C - 0) news ?_ (fun j u hj => by rw [Addr.add_mid]; exact h2 j u hj) ?_
            · rw [← h1.len, flatten_len (mem_row hrl), hlen]
            · exact Rs.lr_one (φ := φ) (h1.mono fun _ _ h => IR.lr h)
        · have hr0 : o1.rows = [] := List.eq_nil_of_length_eq_zero hlen
          rw [hr0]
          obtain ⟨news, h1, h2⟩ := hnil (c := 0) (A := A)
          exact ⟨news, h1, h2, fun i c h => by simp at h⟩
    · cases hr
  | _ => simp only [rowsOf] at hr; cases hr
/-- Where the rows lie behind a slice value. -/
theorem rowsOf_ad {l : Lf} {v : Value} {sz size : Nat} {rows : List (List Lf)} {ob : List Prop} (hW : Wd Γ φ M hD w) (hr : rowsOf hD l = some (sz, rows, ob)) (ho : allP ob) (hs : sz = size ∨ rows = []) (hv : LR w M φ l v) :
    ∃ news, Rs (IR w M) rows.flatten news ∧ (∀ (i : Nat) (c : List Lf), rows[i]? = some c → c.length = size) ∧ ∃ A cap, v = .slice A rows.length cap ∧ (rows ≠ [] → ∃ ad, A = some ad ∧ ∀ j u, news[j]? = some u → w.cell? (ad.add j) = some u) := by
  have hnil : ∀ {c : Nat} {A : Option Addr}, ∃ news, Rs (IR w M) ([] : List (List Lf)).flatten news ∧ (∀ (i : Nat) (c : List Lf), ([] : List (List Lf))[i]? = some c → c.length = size) ∧ ∃ A' cap, Value.slice A 0 c = .slice A' ([] : List (List Lf)).length cap ∧ (([] : List (List Lf)) ≠ [] → ∃ ad, A' = some ad ∧ ∀ j u, news[j]? = some u → w.cell? (ad.add j) = some u) := fun {c A} =>
    ⟨[], trivial, fun i c h => by simp at h, A, c, rfl, fun h => absurd rfl h⟩
  cases l with
  | nils =>
    simp only [rowsOf] at hr; cases hr
    have hv' : IR w M .nils v := hv
    cases hv'
    exact hnil
  | sl cl s rs =>
    simp only [rowsOf] at hr; cases hr
    have hv' : IR w M (.sl cl sz rows) v := hv
    cases hv' with
    | sl0 _ _ A cap _ => exact hnil
    | sl _ _ _ b k cap vs hm hlc hcl hls hcc hrr =>
      by_cases hne : rows = []
      · subst hne; exact hnil
      · obtain rfl : sz = size := hs.resolve_right hne
        obtain ⟨news, h1, h2⟩ := rows_gather (R := IR w M) (b := b) (sz := sz) rows k hls fun i c j l h1 h2 => ⟨_, hcc i c j l h1 h2, hrr i c j l h1 h2⟩
        exact ⟨news, h1, hls, _, cap, rfl, fun _ => ⟨⟨b, k, none⟩, rfl, fun j u hj => by rw [Addr.add_mid]; exact h2 j u hj⟩⟩
  | os id s off len =>
    simp only [rowsOf] at hr
    split at hr
    · rename_i o1 ho1
      cases hc : (off == 0 && !o1.box && o1.sz == s) with
      | false => rw [hc] at hr; cases hr
      | true =>
        rw [hc] at hr; cases hr
        simp only [Bool.and_eq_true, beq_iff_eq, Bool.not_eq_true'] at hc
        obtain ⟨⟨rfl, hbx⟩, hsz⟩ := hc
        have hO := hW.obs id o1 ho1
        have hlen := ho.1
        have hv' : LR0 w M φ (.os id sz 0 len) v := hv
        rcases hv' with ⟨b, C, hφ, rfl, hle⟩ | ⟨hφ, _, rfl, A, rfl⟩
        · have hcells := fun i c (hc : o1.rows[i]? = some c) => hO.cell hφ hc
          have hrl : ∀ (i : Nat) (c : List Lf), o1.rows[i]? = some c → c.length = sz := fun i c hc => by
            obtain ⟨_, h1⟩ := hO
            rw [hφ] at h1
            obtain ⟨cur, _, _, _, _, _, g6⟩ := h1
            rw [(g6 i c hc).1, hsz]
          by_cases hne : o1.rows = []
          · have hl0 : len = 0 := by rw [← hlen, hne]; rfl
            rw [hne, hl0]
            exact hnil
          · obtain rfl : sz = size := hs.resolve_right hne
            obtain ⟨news, h1, h2⟩ := rows_gather (R := IR w M) (b := b) (sz := sz) o1.rows 0 hrl fun i c j l hc hj => by
              obtain ⟨v, hv, hr⟩ := hcells i c hc j l hj
              rw [hbx] at hr
              exact ⟨v, by rw [Nat.zero_add, ← hsz]; exact hv, by simpa using hr⟩
            refine ⟨news, h1, hrl, _, C - 0, by rw [hlen], fun _ => ⟨⟨b, 0 * sz, none⟩, rfl, fun j u hj => ?_⟩⟩
            rw [Nat.zero_mul, Addr.add_mid]; exact h2 j u hj
        · have hr0 : o1.rows = [] := List.eq_nil_of_length_eq_zero hlen
          rw [hr0]
          exact hnil
    · cases hr
  | _ => simp only [rowsOf] at hr; cases hr
/-- Nothing is appended. -/
theorem slice_form {l : Lf} {v : Value} {sz : Nat} {rows : List (List Lf)} {ob : List Prop} (hr : rowsOf h l = some (sz, rows, ob)) (hv : LR w M φ l v) : ∃ A n c, v = .slice A n c := by
  cases l with
  | nils => cases (hv : IR w M .nils v); exact ⟨_, _, _, rfl⟩
  | sl cl s rs => cases (hv : IR w M (.sl cl s rs) v) <;> exact ⟨_, _, _, rfl⟩
  | os id s off len =>
    rcases (hv : LR0 w M φ (.os id s off len) v) with ⟨b, C, h1, h2, h3⟩ | ⟨h1, h2, h3, x, h4⟩
    · exact ⟨_, _, _, h2⟩
    · exact ⟨_, _, _, h4⟩
  | _ => simp only [rowsOf] at hr; cases hr
theorem slice_some {l : Lf} {v : Value} {sz : Nat} {rows : List (List Lf)} {ob : List Prop} (hr : rowsOf h l = some (sz, rows, ob)) (ho : allP ob) (hne : rows ≠ []) (hv : LR w M φ l v) : ∃ A n c, v = .slice (some A) n c := by
  cases l with
  | nils => simp only [rowsOf] at hr; cases hr; exact absurd rfl hne
  | sl cl s rs =>
    simp only [rowsOf] at hr; cases hr
    cases (hv : IR w M (.sl cl sz rows) v) with
    | sl0 => exact absurd rfl hne
    | sl => exact ⟨_, _, _, rfl⟩
  | os id s off len =>
    simp only [rowsOf] at hr
    split at hr
    · rename_i o1 ho1
      cases hc : (off == 0 && !o1.box && o1.sz == s) with
      | false => rw [hc] at hr; cases hr
      | true =>
        rw [hc] at hr; cases hr
        rcases (hv : LR0 w M φ (.os id sz off len) v) with ⟨b, C, h1, h2, h3⟩ | ⟨h1, h2, h3, x, h4⟩
        · exact ⟨_, _, _, h2⟩
        · have := ho.1
          rw [h3] at this
          exact absurd (List.eq_nil_of_length_eq_zero this) hne
    · cases hr
  | _ => simp only [rowsOf] at hr; cases hr
theorem sound_nil (hob : allP r.obs) (hg : g) (hF : ∀ t, AR w M φ (L t) (a.tmps.getD t undef)) (hW : Wd Γ φ M hD w) {op : BinOp} {t u : TypeId} {x y : Operand} (ho : o.op = .binOp op t x y u) (hf : fopNil P h L g op t x y hs = some r) :
    Yd P Γ φ M hD w base r ((execOp a.eval o).run P w) := by
  unfold fopNil at hf
  split at hf
  · rename_i l o1 o2 e h1 h2 ht
    have hrun : ∀ A n c, a.eval x = .slice A n c → a.eval y = .slice none 0 0 → (execOp a.eval o).run P w = .ok (.value (.bool A.isNone)) w := fun A n c hx hy => by
      have hq : (Op.equal t (.slice A n c) (.slice none 0 0)).run P w = .ok A.isNone w := by
        obtain ⟨d, hd⟩ : ∃ d, Op.maxDepth = d + 1 := ⟨Op.maxDepth - 1, rfl⟩
        unfold Op.equal
        rw [hd]
        cases A <;> simp [Op.equalIn, run_underlying ht]
      simp [execOp, ho, hx, hy, eqGuard, binOp, hq]
    split at hf
    · rename_i p hs' hr
      cases hf
      rw [allP_append] at hob
      have hx : LR w M φ l (a.eval x) := getGx_ok hF h1 hob.1 hg
      have hy : IR w M .nils (a.eval y) := getGx_ok hF h2 hob.2 hg
      obtain ⟨sz, rows, ob⟩ := p
      obtain ⟨A, n, c, hv⟩ := slice_form hr hx
      have hyv : a.eval y = .slice none 0 0 := by generalize a.eval y = q at hy; cases hy; rfl
      exact Yd.val (hrun A n c hv hyv) rfl ⟨_, rfl⟩ hW
    · rename_i sz rows o3 hs' hr
      cases hf
      simp only [allP_append] at hob
      obtain ⟨⟨⟨p1, p2⟩, p3⟩, hne, -⟩ := hob
      have hx : LR w M φ l (a.eval x) := getGx_ok hF h1 p1 hg
      have hy : IR w M .nils (a.eval y) := getGx_ok hF h2 p2 hg
      obtain ⟨A, n, c, hv⟩ := slice_some hr p3 hne hx
      have hyv : a.eval y = .slice none 0 0 := by generalize a.eval y = q at hy; cases hy; rfl
      exact Yd.val (hrun (some A) n c hv hyv) rfl (IR.bool _) hW
    · cases hf
  · cases hf
theorem foldl_bytesI : ∀ (ns : List Int) (s : ByteArray), ns.foldl (fun r n => r.push (UInt8.ofNat n.toNat)) s = ⟨s.data ++ (ns.map fun n => UInt8.ofNat n.toNat).toArray⟩
  | [], s => by simp
  | n :: ns, s => by
    rw [List.foldl_cons, foldl_bytesI ns]
    simp [ByteArray.push]
theorem ints_news : ∀ {J : List Int} {news : List Value}, Rs (IR w M) (J.map fun n => [Lf.int .u8 n]).flatten news → news = J.map (Value.int .u8)
  | [], [], _ => rfl
  | [], _ :: _, h => h.elim
  | n :: J, [], h => h.elim
  | n :: J, v :: vs, h => by
    cases h.1
    rw [ints_news h.2]; rfl
theorem sound_convert {s d : TypeId} {x : Operand} (hob : allP r.obs) (hg : g) (hF : ∀ t, AR w M φ (L t) (a.tmps.getD t undef)) (hW : Wd Γ φ M hD w) (hsub : ∀ id ob, h id = some ob → hD id = some ob) (ho : o.op = .convert s d x) (hf : fop P h base g L o.op hs = some r) : Yd P Γ φ M hD w base r ((execOp a.eval o).run P w) := by
  rw [ho] at hf
  simp only [fop] at hf
  split at hf
  · rename_i d1 k k' n o1 h1 h2 h3; cases hf
    have hx : IR w M (.int k' n) (a.eval x) := getGx_ok hF h3 hob hg
    generalize hv : a.eval x = xv at hx
    cases hx
    refine Yd.val (v := .int k (cvK k n)) ?_ rfl (IR.int _ _) hW
    simp [execOp, ho, hv, convert, run_underlying h1, run_underlying h2, Conv.intToInt, cvK]
  · rename_i e l o1 J hs' h1 h2 h3
    split at hf
    · rename_i sz rows o2 h4 h5
      cases hc : (sz == 1 || rows.isEmpty) with
      | false => rw [hc] at hf; cases hf
      | true =>
        rw [hc] at hf; cases hf
        simp only [allP_append] at hob
        obtain ⟨⟨ho1, ho2⟩, hrows, -⟩ := hob
        have hx : LR w M φ l (a.eval x) := getGx_ok hF h3 ho1 hg
        have hs1 : sz = 1 ∨ rows = [] := by
          rw [Bool.or_eq_true] at hc
          exact hc.imp (fun h => by simpa using h) (fun h => by simpa using h)
        obtain ⟨news, hsrc, hnr, -⟩ := rowsOf_ok (size := 1) hW hsub h1 h5 ho2 hs1 hx (fun _ _ _ _ _ _ _ _ _ _ _ _ _ h => h)
        obtain ⟨A, n, c, hv⟩ := slice_form h5 hx
        rw [hv] at hsrc
        rw [hrows] at hnr
        have hnews := ints_news hnr
        subst hnews
        refine Yd.val (v := .string (bytesI J)) ?_ rfl (IR.str _) hW
        have hfc := hsrc.cells
        have hlen : n = rows.length := by
          have := hsrc.len w
          simpa [Builtin.lenOf] using this
        have key : (Conv.bytesToString (.slice A n c)).run P w = .ok (.string (bytesI J)) w := by
          cases A with
          | none =>
            have : J = [] := by
              have h6 : (Builtin.firstCells 1 rows.length (.slice none n c)).run P w = .ok #[] w := rfl
              rw [h6] at hfc
              have h7 := (Result.ok.inj hfc).1
              cases J with
              | nil => rfl
              | cons a b => simp at h7
            subst this
            rfl
          | some A =>
            have h6 : (loadCells A n).run P w = .ok (J.map (Value.int .u8)).toArray w := by
              rw [hlen]
              have h7 : Builtin.firstCells 1 rows.length (.slice (some A) n c) = loadCells A (rows.length * 1) := rfl
              rw [h7, Nat.mul_one] at hfc
              exact hfc
            rw [run_bytesToString w A n c J h6, foldl_bytesI]
            simp [bytesI, ByteArray.empty, ByteArray.emptyWithCapacity]
            rfl
        simp only [execOp, ho, hv, Sem.run_bind, run_convert_bytes_string w s d e A n c h1 h4 h2, key]
        simp [Sem.run_pure]
    · cases hf
  · cases hf
theorem run_append_zero {t tx ty e : TypeId} {i : TypeInfo} {A : Option Addr} {n c : Nat} {x : Value} {news : List Value} (ht : P.underlying t = some (.slice e)) (hi : P.info? e = some i) (hs : Src P i.size tx x 0 news w) (hle : n ≤ c) :
    (Builtin.append_ #[t, tx] ty #[.slice A n c, x]).run P w = .ok (.slice A n c) w := by
  have hn : news = [] := List.eq_nil_of_length_eq_zero (by simpa using hs.newsLen)
  subst hn
  have h1 := hs.cells
  rcases hs.kind with ⟨e', hk⟩ | hk <;> cases A <;> simp [Builtin.append_, run_underlying ht, run_underlying hk, sizeOf, typeInfo, hi, hs.len, hle, h1, storeCells]
/-- A row of memory of the call's own, with what it reads as. -/
theorem OR_row {w' : World} {id b C : Nat} {φ' : Pl} {e : TypeId} {sz : Nat} {rows : List (List Lf)} {vs rest : List Value} (hφ : φ' id = some (some (b, C))) (hb : w'.heap[b]? = some (.cells (vs ++ rest).toArray e)) (h0 : 0 < sz) (hs : (vs ++ rest).length = C * sz) (hl : rows.length ≤ C) (hC : C ≤ maxLen)
    (hls : ∀ (i : Nat) (c : List Lf), rows[i]? = some c → c.length = sz) (hr : Rs (IR w' M) rows.flatten vs) : OR w' M φ' id ⟨false, sz, e, rows⟩ :=
  OR_arr hφ hb h0 (by simpa using hs) hl hC fun i c hc => ⟨hls i c hc, fun j l hj => by
    obtain ⟨v, hv, hlr⟩ := hr.get (flatten_get (mem_row hls) hc hj)
    refine ⟨v, ?_, hlr⟩
    rw [List.getElem?_toArray, List.getElem?_append_left (List.getElem?_eq_some_iff.1 hv).1]
    exact hv⟩
theorem zeroCells_len (z : Array Value) (n : Nat) : (Builtin.zeroCells z n).toList.length = n * z.size := by
  rw [Array.length_toList, size_zeroCells]
/-- An append that makes a new row. -/
theorem grown_row {t tx ty e : TypeId} {i : TypeInfo} {z x : Value} {A : Option Addr} {n c k : Nat} {olds news : List Value} {rows : List (List Lf)} {id : Nat} (hW : Wd Γ φ M hD w) (ht : P.underlying t = some (.slice e)) (hi : P.info? e = some i) (hz : i.zero = some z) (hzs : z.cells.size = i.size) (h0 : 0 < i.size)
    (hold : (Builtin.firstCells i.size n (.slice A n c)).run P w.drew = .ok olds.toArray w.drew) (hs : Src P i.size tx x k news w) (hlt : c < n + k) (h63 : n + k ≤ 9223372036854775807) (hby : (n + k) * i.bytes ≤ 140737488355328)
    (holen : olds.length = n * i.size) (hrl : rows.length = n + k) (hls : ∀ (j : Nat) (c : List Lf), rows[j]? = some c → c.length = i.size) (hR : Rs (IR w M) rows.flatten (olds ++ news)) (hφ : φ id = none) :
    ∃ C w', (Builtin.append_ #[t, tx] ty #[.slice A n c, x]).run P w = .ok (.slice (some ⟨w.heap.size, 0, none⟩) (n + k) C) w' ∧ Below w.heap.size w w' ∧ w.heap.size < w'.heap.size ∧ n + k ≤ C ∧ OR w' M (upP φ id (some (w.heap.size, C))) id ⟨false, i.size, e, rows⟩ := by
  have hrun := run_append_grow_src (P := P) w t tx ty e i z ht hi hz A n c olds hold x k news hs hlt (by omega) (growslice_fits hlt hby)
  have hge := grownCap_ge w (n + k) c e
  have hle := grownCap_le_maxLen w (n + k) c e (by simp only [maxLen]; omega)
  have hb : Below w.heap.size w (w.drew.alloc (.cells ((olds ++ news).toArray ++ Builtin.zeroCells z.cells (grownCap w (n + k) c e - (n + k))) e)) := ((Below.refl _ _).drew).alloc (Nat.le_refl _) _
  have he : Ex w M φ (w.drew.alloc (.cells ((olds ++ news).toArray ++ Builtin.zeroCells z.cells (grownCap w (n + k) c e - (n + k))) e)) M φ := hW.ex_grow hb
  refine ⟨grownCap w (n + k) c e, _, hrun, hb, by simp, hge, ?_⟩
  have heq : ((olds ++ news).toArray ++ Builtin.zeroCells z.cells (grownCap w (n + k) c e - (n + k))) = ((olds ++ news) ++ (Builtin.zeroCells z.cells (grownCap w (n + k) c e - (n + k))).toList).toArray := by apply Array.ext'; simp
  refine OR_row (vs := olds ++ news) (rest := (Builtin.zeroCells z.cells (grownCap w (n + k) c e - (n + k))).toList) (upP_self _ _ _) ?_ h0 ?_ (by omega) hle hls (hR.mono fun _ _ h => h.mono he.blk he.sub)
  · rw [← heq]; exact heap_alloc_new w.drew _
  · rw [List.length_append, List.length_append, holen, hs.newsLen, zeroCells_len, hzs, ← Nat.add_mul, ← Nat.add_mul]
    congr 1; omega
theorem sound_append_new (hg : g) (hW : Wd Γ φ M hD w) (hsub : ∀ id ob, h id = some ob → hD id = some ob) {d x : Lf} {vd vx : Value} {t ty : TypeId} {r : Res} {tys : List TypeId} {run : Result Next} (hf : fopBuiltin P h base .append [.one d, .one x] [t, tys.headD 0] hs = some r) (hob : allP r.obs)
    (hd : LR w M φ d vd) (hx : LR w M φ x vx) (hrun : ∀ v w', (Builtin.append_ #[t, tys.headD 0] ty #[vd, vx]).run P w = .ok v w' → run = .ok (.value v) w') (hfr : ∀ id, base ≤ id → id < base + r.news.length → φ id = none ∧ hD id = none) :
    Yd P Γ φ M hD w base r run := by
  simp only [fopBuiltin] at hf
  split at hf
  · rename_i e he
    have ht := sliceElem_some he
    split at hf
    · rename_i i sz new o1 z hi hro hz
      cases hc : (t == tys.headD 0 && (sz == i.size || new.isEmpty)) with
      | false => rw [hc] at hf; cases hf
      | true =>
        rw [hc] at hf
        simp only [cond_true] at hf
        simp only [Bool.and_eq_true, Bool.or_eq_true, beq_iff_eq, List.isEmpty_iff] at hc
        obtain ⟨htt, hsz⟩ := hc
        rw [← htt] at hrun
        obtain ⟨i2, zv, hi2, hzv, hzs, h0, hrs, hl⟩ := zeroL_some (w := w) (M := M) (φ := φ) hz
        obtain rfl : i = i2 := by rw [hi] at hi2; exact Option.some.inj hi2
        have core : ∀ {A : Option Addr} {n c : Nat} {olds : List Value} {rows R : List (List Lf)}, vd = .slice A n c → (c = n) → (rows = [] → n = 0) → allP o1 → rows ++ new = R → (new ≠ [] ∨ rows = []) → R.length * i.bytes ≤ 140737488355328 → R.length ≤ 9223372036854775807 →
            rows.length = n → (Builtin.firstCells i.size n (.slice A n c)).run P w.drew = .ok olds.toArray w.drew → olds.length = n * i.size → (∀ (j : Nat) (c : List Lf), rows[j]? = some c → c.length = i.size) → Rs (IR w M) rows.flatten olds →
            r.v = one (.os base i.size 0 R.length) → r.news = [⟨false, i.size, e, R⟩] → Yd P Γ φ M hD w base r run := by
          intro A n c olds rows R hvd hcn hrn hp1 hR hne hby h63 hrl hold holen hls hRs hrv hrn2
          subst hvd hcn
          obtain ⟨news, hsrc, hnr, hnl⟩ := rowsOf_ok (size := i.size) hW hsub ht hro hp1 hsz hx (fun _ _ _ _ _ _ _ _ _ _ _ _ _ h => h)
          have hRl : R.length = c + new.length := by rw [← hR, List.length_append, hrl]
          by_cases hn0 : new.length = 0
          · have hnew : new = [] := List.eq_nil_of_length_eq_zero hn0
            have hr0 : rows = [] := hne.resolve_left (fun h => h hnew)
            have hc0 := hrn hr0
            subst hc0
            rw [hn0] at hsrc
            have hR0 : R = [] := by rw [← hR, hr0, hnew]; rfl
            have hf0 := hfr base (Nat.le_refl _) (by rw [hrn2]; simp)
            refine Yd.newNil (hrun _ _ (run_append_zero ht hi hsrc (Nat.le_refl _))) hrn2 hW hfr (Below.refl _ _) hR0 rfl h0 ?_
            rw [hrv, hR0]
            exact .inr ⟨upP_self _ _ _, rfl, rfl, A, rfl⟩
          · have hf0 := hfr base (Nat.le_refl _) (by rw [hrn2]; simp)
            obtain ⟨C, w', hrun', hb, hlt, hle, hO⟩ := grown_row (id := base) (rows := R) (ty := ty) hW ht hi hzv hzs h0 hold hsrc (by omega) (by omega) (by rw [← hRl]; exact hby) holen hRl (fun j c hj => by
              rw [← hR] at hj
              rcases Nat.lt_or_ge j rows.length with h | h
              · rw [List.getElem?_append_left h] at hj; exact hls j c hj
              · rw [List.getElem?_append_right h] at hj; exact hnl _ c hj) (by rw [← hR, List.flatten_append]; exact hRs.append hnr) hf0.1
            refine Yd.new (hrun _ _ hrun') hrn2 hW hfr hb (Nat.le_refl _) hlt hO ?_
            rw [hrv]
            exact .inl ⟨w.heap.size, C, upP_self _ _ _, by rw [hRl]; simp, by omega⟩
        split at hf
        · rename_i R hs'
          cases hf
          simp only [allP_append, allP] at hob
          obtain ⟨p1, hR, hby, h63, -⟩ := hob
          have hd' : IR w M .nils vd := hd
          cases hd'
          exact core (rows := []) (olds := []) rfl rfl (fun _ => rfl) p1 hR (.inr rfl) hby h63 rfl (run_firstCells_none w.drew _ _ _ _) (by simp) (fun j c h => by simp at h) trivial rfl rfl
        · rename_i sz' rows R hs'
          cases hc2 : (sz' == i.size || rows.isEmpty) with
          | false => rw [hc2] at hf; cases hf
          | true =>
            rw [hc2] at hf; cases hf
            simp only [Bool.or_eq_true, beq_iff_eq, List.isEmpty_iff] at hc2
            simp only [allP_append, allP] at hob
            obtain ⟨⟨p1, pR⟩, hby, h63, -⟩ := hob
            have hd' : IR w M (.sl true sz' rows) vd := hd
            have hRR : rows ++ new = R ∧ (new ≠ [] ∨ rows = []) := by
              cases hre : rows.isEmpty with
              | true =>
                rw [hre] at pR
                have : rows = [] := by simpa using hre
                exact ⟨by rw [this]; exact pR.1, .inr this⟩
              | false => rw [hre] at pR; exact ⟨pR.1, .inl pR.2.1⟩
            cases hd' with
            | sl0 _ _ A cap hcl =>
              obtain rfl := hcl rfl
              refine core (rows := []) (olds := []) rfl rfl (fun _ => rfl) p1 hRR.1 (.inr rfl) hby h63 rfl ?_ (by simp) (fun j c h => by simp at h) trivial rfl rfl
              cases A <;> simp [Builtin.firstCells, loadCells, loadCellsFrom]
            | sl _ _ _ b k cap vs hm hlc hcl hls hcc hrr =>
              have hcap := hcl rfl
              obtain ⟨olds, g1, g2⟩ := rows_gather (R := IR w M) (b := b) (sz := sz') rows k hls fun i c j l h1 h2 => ⟨_, hcc i c j l h1 h2, hrr i c j l h1 h2⟩
              have hol : olds.length = rows.length * i.size := by
                rw [← g1.len, flatten_len (mem_row hls)]
                rcases hc2 with h | h
                · rw [h]
                · rw [h]; simp
              refine core (rows := rows) (olds := olds) rfl hcap (fun h => by rw [h]; rfl) p1 hRR.1 hRR.2 hby h63 rfl ?_ hol (fun j c hj => ?_) g1 rfl rfl
              · exact run_firstCells_some w.drew i.size rows.length ⟨b, k, none⟩ _ cap olds hol (fun j v hj => by rw [Addr.add_mid]; exact g2 j v hj)
              · rw [hls j c hj]
                rcases hc2 with h | h
                · exact h
                · rw [h] at hj; simp at hj
        · cases hf
    · cases hf
  · cases hf
end
end Go.Proofs.YtjhhlmmmkgnhmaaDoor
