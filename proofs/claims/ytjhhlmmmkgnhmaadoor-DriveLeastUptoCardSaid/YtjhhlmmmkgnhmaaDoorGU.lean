/- The abstract machine is sound, part 15: regions that draw their order, whole; runs. No program in sight. -/
import Derived.Test.YtjhhlmmmkgnhmaaDoorGT
namespace Go.Proofs.YtjhhlmmmkgnhmaaDoor
set_option linter.unusedSimpArgs false
set_option linter.unusedVariables false
set_option linter.unusedSectionVars false
open Go.RowKit
section
variable {P : Program} {Γ : Gam} {φ φ' : Pl} {M M' : Nat → Prop} {w w' : World} {a : Act} {hs : List Hint} {o : Oper} {ops : Array Oper} {Q : Exit → Act → World → Prop} {σ : SS} {cl : List (Nat × Nat)}
theorem noDup_spec : ∀ {l : List Nat}, noDup l = true → l.Nodup
  | [], _ => by simp
  | x :: l, h => by
    simp only [noDup, Bool.and_eq_true, Bool.not_eq_true'] at h
    rw [List.nodup_cons]
    exact ⟨by simpa using h.1, noDup_spec h.2⟩
theorem dsts_inj : ∀ {l : List Oper} {i j t : Nat} {x y : Oper}, (dstsOf l).Nodup → l[i]? = some x → l[j]? = some y → x.dst = some t → y.dst = some t → i = j
  | [], i, _, _, _, _, _, h, _, _, _ => by simp at h
  | o :: l, 0, 0, _, _, _, _, _, _, _, _ => rfl
  | o :: l, 0, j + 1, t, x, y, hn, hi, hj, hx, hy => by
    simp at hi hj; subst hi
    have : dstsOf (o :: l) = t :: dstsOf l := by simp [dstsOf, hx]
    rw [this, List.nodup_cons] at hn
    exact absurd (List.mem_filterMap.2 ⟨y, List.mem_of_getElem? hj, hy⟩) hn.1
  | o :: l, i + 1, 0, t, x, y, hn, hi, hj, hx, hy => by
    simp at hi hj; subst hj
    have : dstsOf (o :: l) = t :: dstsOf l := by simp [dstsOf, hy]
    rw [this, List.nodup_cons] at hn
    exact absurd (List.mem_filterMap.2 ⟨x, List.mem_of_getElem? hi, hx⟩) hn.1
  | o :: l, i + 1, j + 1, t, x, y, hn, hi, hj, hx, hy => by
    have hn' : (dstsOf l).Nodup := by
      unfold dstsOf at hn ⊢
      rw [List.filterMap_cons] at hn
      split at hn
      · exact hn
      · exact (List.nodup_cons.1 hn).2
    exact congrArg (· + 1) (dsts_inj (l := l) hn' (by simpa using hi) (by simpa using hj) hx hy)
theorem look_dL {L : List (Nat × AV)} {t : Nat} : ∀ (l : List Dn), look (dL L l) t = dlook L [] (fun _ => true) l t
  | [] => rfl
  | ⟨i, d, v, b, n, u⟩ :: r => by
    have ih := look_dL (L := L) (t := t) r
    simp only [dL, dlook, Bool.and_true]
    cases d with
    | none => exact ih
    | some u =>
      simp only [putD, look]
      have : (some u == some t) = (u == t) := rfl
      rw [this, ih]
theorem dstore_some {h : Nat → Option Ob} {L : Nat → AV} {ub : Nat × Ob} {obs : List Prop} (hf : dstore P h L o = some (ub, obs)) : ∃ ob, h ub.1 = some ob := by
  unfold dstore at hf
  split at hf
  · split at hf
    · split at hf
      · rename_i ob hid
        split at hf
        · have bif_some : ∀ {c : Bool} {x : Option ((Nat × Ob) × List Prop)}, (bif c then x else none) = some (ub, obs) → x = some (ub, obs) := by
            intro c x hc; cases c
            · cases hc
            · exact hc
          cases bif_some hf
          exact ⟨ob, hid⟩
        · cases hf
      · cases hf
    · cases hf
  · cases hf
theorem Done.below {n b : Nat} {full : List Dn} {dsts : List Nat} (hD : Done P ops σ dsts cl n full b) : ∀ x ∈ full, ∀ u ob, x.upd = some (u, ob) → u < x.base := fun x hx u ob hu => by
  obtain ⟨pre, post, d, o, e, hdi, -, -, -, hw, hst⟩ := hD.op x.i (hD.wf.lt.2 x hx).1
  have : d = x := hD.wf.inj d (by rw [e]; simp) x hx hdi
  subst this
  rcases hst with ⟨h, -⟩ | ⟨-, -, ub, obs, h1, h2, h3, -⟩
  · rw [h] at hu; cases hu
  · rw [h1] at hu; cases hu
    obtain ⟨ob0, h4⟩ := dstore_some h3
    have h5 := (view_some h4).1
    rcases dheap_cases (H := σ.H) (S := (predsOf o).contains) hw u with ⟨y, hy, k1, k2⟩ | ⟨k1, k2⟩
    · have := (hw.lt.2 y hy).2.2; omega
    · rw [k2] at h5
      have := hl_some_lt h5
      have := hw.lt.1
      omega
theorem hl_dH {lo i b : Nat} {H : List (Option Ob)} {l : List Dn} (h : WFd lo l i b) (hlo : lo = H.length) (hb : ∀ x ∈ l, ∀ u ob, x.upd = some (u, ob) → u < x.base) : (dH H l).length = b ∧ hl (dH H l) = dheapU H (fun _ => true) l := by
  induction h with
  | nil => exact ⟨hlo.symm, rfl⟩
  | cons dst v news upd h ih =>
    rename_i r i b
    obtain ⟨h1, h2⟩ := ih fun x hx => hb x (List.mem_cons_of_mem _ hx)
    have hlen : (setU (dH H r) upd).length = b := by cases upd <;> simp [setU, h1]
    have hup : ∀ id, b ≤ id → updOf (fun _ => true) r id = none := fun id hid => updOf_none fun x hx ob hu => by
      have := hb x (List.mem_cons_of_mem _ hx) id ob hu
      have := (h.lt.2 x hx).2.2
      omega
    refine ⟨by simp [dH, hlen], ?_⟩
    simp only [dH]
    rw [hl_news, hlen]
    funext id
    unfold plc
    by_cases hi : b ≤ id ∧ id < b + news.length
    · rw [if_pos hi]
      have e1 : (Nat.ble b id && Nat.blt id (b + news.length)) = true := by rw [Bool.and_eq_true]; exact ⟨Nat.ble_eq_true_of_le hi.1, Nat.ble_eq_true_of_le hi.2⟩
      have e2 : updOf (fun _ => true) (⟨i, dst, v, b, news, upd⟩ :: r) id = none := updOf_none fun x hx ob hu => by
        rcases List.mem_cons.1 hx with rfl | hx
        · have := hb _ List.mem_cons_self id ob hu
          simp only at this; omega
        · have := hb x (List.mem_cons_of_mem _ hx) id ob hu
          have := (h.lt.2 x hx).2.2
          omega
      unfold dheapU
      rw [e2]
      simp only [dheap, e1, cond_true]
    · rw [if_neg hi]
      have e1 : (Nat.ble b id && Nat.blt id (b + news.length)) = false := by
        rw [← Bool.not_eq_true, Bool.and_eq_true]
        intro ⟨h3, h4⟩
        exact hi ⟨Nat.le_of_ble_eq_true h3, Nat.le_of_ble_eq_true h4⟩
      have e3 : dheapU H (fun _ => true) r id = hl (dH H r) id := by rw [h2]
      cases upd with
      | none =>
        show hl (dH H r) id = _
        rw [← e3]
        unfold dheapU
        simp only [updOf, dheap, e1, cond_false]
      | some p =>
        obtain ⟨u, ob⟩ := p
        have hu : u < (dH H r).length := by rw [h1]; exact hb _ List.mem_cons_self u ob rfl
        show hl ((dH H r).set u (some ob)) id = _
        rw [hl_set hu]
        unfold dheapU
        simp only [updOf, Bool.and_true, dheap, e1, cond_false]
        by_cases hid : id = u
        · subst hid; simp
        · have : (u == id) = false := by simpa using fun e : u = id => hid e.symm
          rw [if_neg hid, this, ← e3]
          rfl
/-- How many of the first n have not come up. -/
def left (listed : Array Bool) (n : Nat) : Nat := ((List.range n).filter fun i => !listed.getD i false).length
theorem left_set {listed : Array Bool} {n j : Nat} (hj : j < n) (hl : listed.getD j true = false) : left listed n = left (listed.setIfInBounds j true) n + 1 := by
  have hin : j < listed.size := by
    rcases Nat.lt_or_ge j listed.size with h | h
    · exact h
    · simp [Array.getElem?_eq_none h] at hl
  have hself : (listed.setIfInBounds j true).getD j false = true := by simp [Array.getD_eq_getD_getElem?, hin]
  unfold left
  have key : ∀ l : List Nat, l.Nodup → (j ∈ l → (l.filter fun i => !listed.getD i false).length = (l.filter fun i => !(listed.setIfInBounds j true).getD i false).length + 1) ∧ (j ∉ l → (l.filter fun i => !listed.getD i false).length = (l.filter fun i => !(listed.setIfInBounds j true).getD i false).length) := by
    intro l
    induction l with
    | nil => intro _; exact ⟨fun h => (by cases h), fun _ => rfl⟩
    | cons x l ih =>
      intro hn
      rw [List.nodup_cons] at hn
      obtain ⟨ih1, ih2⟩ := ih hn.2
      by_cases hx : x = j
      · subst hx
        refine ⟨fun _ => ?_, fun h => absurd List.mem_cons_self h⟩
        rw [List.filter_cons, List.filter_cons, getD_both hl, hself]
        simp only [Bool.not_false, if_true, Bool.not_true, Bool.false_eq_true, if_false, List.length_cons]
        rw [ih2 hn.1]
      · have hs := getD_set_ne (listed := listed) (i := j) (j := x) false (fun e => hx e.symm)
        refine ⟨fun h => ?_, fun h => ?_⟩
        · rw [List.filter_cons, List.filter_cons, hs]
          have hm : j ∈ l := by rcases List.mem_cons.1 h with h | h; exact absurd h.symm hx; exact h
          have := ih1 hm
          split <;> (try simp only [List.length_cons]) <;> omega
        · rw [List.filter_cons, List.filter_cons, hs]
          have := ih2 fun hm => h (List.mem_cons_of_mem _ hm)
          split <;> (try simp only [List.length_cons]) <;> omega
  exact (key _ List.nodup_range).1 (List.mem_range.2 hj)
theorem left_zero {listed : Array Bool} {n : Nat} (h : left listed n = 0) : ∀ i, i < n → listed.getD i false = true := fun i hi => by
  unfold left at h
  have h1 := List.eq_nil_of_length_eq_zero h
  rw [List.filter_eq_nil_iff] at h1
  have := h1 i (List.mem_range.2 hi)
  simpa using this
theorem left_pos {listed : Array Bool} {n : Nat} (h : left listed n ≠ 0) : ∃ i, i < n ∧ listed.getD i false = false ∧ ∀ k, k < i → listed.getD k false = true := by
  unfold left at h
  have hex : ∃ i, i < n ∧ listed.getD i false = false := by
    cases h1 : (List.range n).filter (fun i => !listed.getD i false) with
    | nil => rw [h1] at h; exact absurd rfl h
    | cons x l =>
      have hx : x ∈ (List.range n).filter (fun i => !listed.getD i false) := by rw [h1]; exact List.mem_cons_self
      rw [List.mem_filter, List.mem_range] at hx
      exact ⟨x, hx.1, by simpa using hx.2⟩
  have key : ∀ m i, i ≤ m → i < n → listed.getD i false = false → ∃ i, i < n ∧ listed.getD i false = false ∧ ∀ k, k < i → listed.getD k false = true := by
    intro m
    induction m with
    | zero => intro i hi hn hf; exact ⟨i, hn, hf, fun k hk => by omega⟩
    | succ m ih =>
      intro i hi hn hf
      by_cases hall : ∀ k, k < i → listed.getD k false = true
      · exact ⟨i, hn, hf, hall⟩
      · simp only [Classical.not_forall] at hall
        obtain ⟨k, hk, hk2⟩ := hall
        exact ih k (by omega) (by omega) (by simpa using hk2)
  obtain ⟨i, hi, hf⟩ := hex
  exact key i i (Nat.le_refl _) hi hf
theorem draw_any {n b : Nat} {full : List Dn} {tail : List Oper} {s : St} {hs2 : List Hint} (hB : drawB ops n = true) (hD : Done P ops σ (dstsOf (ops.toList.take n)) cl n full b) (htail : stepOps P ops (ops.toList.drop n) ⟨σ.N, dL σ.L full, dH σ.H full⟩ hs2 = some s) (hob : allP s.obs)
    (hQ : ∀ a' w', Sim Γ s.σ a' w' → Q .normal a' w') : ∀ (f : Nat) (listed : Array Bool) (a : Act) (w : World), left listed n = f → HeadInv .any ops n listed → InvD Γ σ (dstsOf (ops.toList.take n)) full listed a w → wpAny P .any ops Q (f + (ops.size - n)) listed a w := by
  unfold drawB at hB
  simp only [Bool.and_eq_true, Bool.or_eq_true, beq_iff_eq, Nat.ble_eq] at hB
  obtain ⟨⟨⟨⟨hnd, hle⟩, hpr⟩, hsz⟩, hseq⟩ := hB
  have hnd' := noDup_spec hnd
  have hopn : ∀ j, j < n → (ops.toList.take n)[j]? = ops[j]? := fun j hj => by rw [List.getElem?_take, if_pos hj]; simp
  have hinfo : ∀ x ∈ full, ∃ o, x.i < n ∧ ops[x.i]? = some o ∧ x.dst = o.dst := fun x hx => by
    have hxi := (hD.wf.lt.2 x hx).1
    obtain ⟨pre, post, d, o, e, hdi, ho, hdd, -⟩ := hD.op x.i hxi
    have : d = x := hD.wf.inj d (by rw [e]; simp) x hx hdi
    subst this
    exact ⟨o, hxi, ho, hdd⟩
  have hdst : ∀ x ∈ full, ∀ y ∈ full, ∀ t, x.dst = some t → y.dst = some t → x = y := fun x hx y hy t ex ey => by
    obtain ⟨ox, hxn, hox, hdx⟩ := hinfo x hx
    obtain ⟨oy, hyn, hoy, hdy⟩ := hinfo y hy
    exact hD.wf.inj x hx y hy (dsts_inj hnd' (by rw [hopn _ hxn]; exact hox) (by rw [hopn _ hyn]; exact hoy) (hdx ▸ ex) (hdy ▸ ey))
  have hmem : ∀ x ∈ full, ∀ t, x.dst = some t → (dstsOf (ops.toList.take n)).contains t = true := fun x hx t ex => by
    obtain ⟨ox, hxn, hox, hdx⟩ := hinfo x hx
    rw [List.contains_iff_mem]
    exact List.mem_filterMap.2 ⟨ox, List.mem_of_getElem? (by rw [hopn _ hxn]; exact hox), hdx ▸ ex⟩
  intro f
  induction f with
  | zero =>
    intro listed a w hf inv hI
    rw [Nat.zero_add]
    have hall := left_zero hf
    have hlist : listed = headsB ops n := by
      apply Array.ext_getElem?
      intro k
      unfold headsB
      simp only [List.getElem?_toArray, List.getElem?_map]
      rcases Nat.lt_or_ge k ops.size with hk | hk
      · rw [List.getElem?_range hk]
        simp only [Option.map_some]
        by_cases hkn : k < n
        · have := hall k hkn
          have hks : k < listed.size := by rw [inv.size]; exact hk
          simp only [Array.getD_eq_getD_getElem?, Array.getElem?_eq_getElem hks, Option.getD_some] at this
          rw [Array.getElem?_eq_getElem hks, this]
          have : Nat.blt k n = true := Nat.ble_eq_true_of_le hkn
          rw [this]
        · have := inv.tail k (by omega) hk
          have hks : k < listed.size := by rw [inv.size]; exact hk
          simp only [Array.getD_eq_getD_getElem?, Array.getElem?_eq_getElem hks, Option.getD_some] at this
          rw [Array.getElem?_eq_getElem hks, this]
          have : Nat.blt k n = false := by rw [← Bool.not_eq_true]; intro h; exact hkn (Nat.le_of_ble_eq_true h)
          rw [this]
      · rw [List.getElem?_eq_none (by simpa using hk), Array.getElem?_eq_none (by rw [inv.size]; exact hk)]; rfl
    obtain ⟨hN, hdf, φ, M, hF, hW, hφ⟩ := hI
    obtain ⟨hbl, hbh⟩ := hl_dH hD.wf rfl hD.below
    have hSl : ∀ x ∈ full, listed.getD x.i false = true := fun x hx => hall x.i (hinfo x hx).choose_spec.1
    have hS : Sim Γ ⟨σ.N, dL σ.L full, dH σ.H full⟩ a w := by
      refine ⟨hN, hdf, φ, M, fun t => ?_, ?_, fun id hid => hφ id (by have := hD.wf.lt.1; rw [hbl] at hid; omega) fun x hx _ hxi => by
        have := (hD.wf.lt.2 x hx).2.2; rw [hbl] at hid; omega⟩
      · rw [look_dL]
        have h4 := hF t
        rcases dlook_cases (dsts := ([] : List Nat)) (L := σ.L) (S := fun _ => true) (t := t) (l := full) with ⟨x, hx, g1, g2, g3⟩ | ⟨g1, g2⟩
        · rw [g3]
          rcases dlook_cases (dsts := dstsOf (ops.toList.take n)) (L := σ.L) (S := fun i => listed.getD i false) (t := t) (l := full) with ⟨y, hy, k1, k2, k3⟩ | ⟨k1, k2⟩
          · rw [k3, hdst y hy x hx t k1 g1] at h4; exact h4
          · have := k1 x hx g1; rw [hSl x hx] at this; cases this
        · rw [g2]
          have hnone : ∀ x ∈ full, x.dst ≠ some t := fun x hx e => by have := g1 x hx e; cases this
          have hnd2 : (dstsOf (ops.toList.take n)).contains t = false := by
            rw [← Bool.not_eq_true, List.contains_iff_mem]
            intro hm
            obtain ⟨o, ho, hot⟩ := List.mem_filterMap.1 hm
            obtain ⟨j, hj⟩ := List.mem_iff_getElem?.1 ho
            have hjn : j < n := by
              have := (List.getElem?_eq_some_iff.1 hj).1
              simp at this; omega
            obtain ⟨pre, post, d, o2, e, hdi, ho2, hdd, -⟩ := hD.op j hjn
            rw [hopn j hjn, ho2] at hj
            cases hj
            exact hnone d (by rw [e]; simp) (hdd.trans hot)
          rcases dlook_cases (dsts := dstsOf (ops.toList.take n)) (L := σ.L) (S := fun i => listed.getD i false) (t := t) (l := full) with ⟨y, hy, k1, k2, k3⟩ | ⟨k1, k2⟩
          · exact absurd k1 (hnone y hy)
          · rw [k2, hnd2] at h4; exact h4
      · rw [hbh]
        refine hW.less fun id ob hid => ?_
        have e1 : updOf (fun i => listed.getD i false) full id = updOf (fun _ => true) full id := updOf_congr fun x hx _ _ => hSl x hx
        unfold dheapU at hid ⊢
        rw [e1]
        have e2 : dheap σ.H (fun i => listed.getD i false) full id = dheap σ.H (fun _ => true) full id := by
          rcases dheap_cases (H := σ.H) (S := fun _ => true) hD.wf id with ⟨x, hx, h1, h2⟩ | ⟨h1, h2⟩
          · rw [dheap_in hD.wf hx h1 h2, dheap_in hD.wf hx h1 h2, hSl x hx]
          · rw [h2, dheap_out hD.wf h1]
        rw [e2]; exact hid
    have hwl := stepOps_sound (Q := Q) (ops.toList.drop n) htail hob hS hQ
    have hdl : (ops.toList.drop n).length = ops.size - n := by simp
    have := wpAny_of_seq (md := .any) (ops := ops) (Q' := Q) (ops.toList.drop n) n listed a w (fun j => by rw [List.getElem?_drop]; simp) (by rw [hdl, hlist]; exact hseq) hwl
    rw [hdl] at this
    exact this
  | succ f ih =>
    intro listed a w hf inv hI
    rw [show f + 1 + (ops.size - n) = (f + (ops.size - n)) + 1 by omega]
    obtain ⟨i0, hi0, hu0, hlow⟩ := left_pos (listed := listed) (n := n) (by omega)
    have hi0s : i0 < ops.size := by omega
    have hu0' : listed.getD i0 true = false := getD_in (by rw [inv.size]; exact hi0s) hu0
    have hready0 : i0 ∈ Region.ready .any ops listed := by
      refine mem_ready.2 ⟨hu0', _, Array.getElem?_eq_getElem hi0s, fun e he hb => ?_⟩
      have h1 := List.all_eq_true.1 hpr (ops[i0], i0) (by
        rw [List.mem_iff_getElem?]
        refine ⟨i0, ?_⟩
        rw [List.getElem?_zipIdx, hopn i0 hi0, Array.getElem?_eq_getElem hi0s]; simp)
      have h2 := List.all_eq_true.1 h1 e.on (mem_preds.2 ⟨e, he, hb, rfl⟩)
      exact hlow e.on (Nat.le_of_ble_eq_true h2)
    refine ⟨fun h => (by rw [h] at hready0; cases hready0), fun j hj => ?_⟩
    have hjn : j < n := by
      rcases Nat.lt_or_ge j n with h | h
      · exact h
      · exfalso
        obtain ⟨_, oj, hoj, _⟩ := mem_ready.1 hj
        have hjs : j < ops.size := (Array.getElem?_eq_some_iff.1 hoj).1
        rcases hsz with h1 | ⟨⟨h1, h2⟩, h3⟩
        · omega
        · exact tail_waits h2 h3 (Nat.le_of_ble_eq_true h1) inv _ i0 rfl hi0 hu0' j h hj
    obtain ⟨hun, oj, hoj, hall⟩ := mem_ready.1 hj
    have hog : ops.getD j default = oj := by simp [Array.getD_eq_getD_getElem?, hoj]
    exact inv_step hD hdst hmem hI hjn hun (fun k hk => by
      rw [hog] at hk
      obtain ⟨e, he, hb, rfl⟩ := mem_preds.1 hk
      exact hall e he hb) fun a' w' hI' => ih _ a' w' (by have := left_set hjn hun; omega) (inv.set hj hjn) hI'
theorem drawRun_sound {s : St} {id : Nat} (hf : drawRun P ops σ hs = some s) (hob : allP s.obs) (hS : Sim Γ σ a w) (hQ : ∀ a' w', Sim Γ s.σ a' w' → Q .normal a' w') : (Code.region id ops true).wp P Q a w := by
  unfold drawRun at hf
  split at hf
  · rename_i n cl hs'
    cases hc : (P.follows .mixedOrders && drawB ops n) with
    | false => rw [hc] at hf; cases hf
    | true =>
      rw [hc] at hf
      simp only [cond_true] at hf
      simp only [Bool.and_eq_true] at hc
      split at hf
      · rename_i done b ob hs2 hd
        cases hst : stepOps P ops (ops.toList.drop n) ⟨σ.N, dL σ.L done, dH σ.H done⟩ hs2 with
        | none => rw [hst] at hf; cases hf
        | some s0 =>
          rw [hst] at hf; cases hf
          rw [allP_append] at hob
          have hB := hc.2
          have hle : n ≤ ops.size := by
            unfold drawB at hB
            simp only [Bool.and_eq_true, Nat.ble_eq] at hB
            exact hB.1.1.1.2
          have htl : (ops.toList.take n).length = n := by simp; omega
          obtain ⟨pre, e, hwf, hall⟩ := dgo_done hd hob.1 (fun k => by
            rcases Nat.lt_or_ge k n with h | h
            · left; rw [List.getElem?_take, if_pos h, Nat.zero_add]; simp
            · right; rw [htl]; exact h) WFd.nil
          rw [htl, Nat.zero_add] at hwf
          have hD : Done P ops σ (dstsOf (ops.toList.take n)) cl n done b := ⟨hwf, fun j hj => by
            have := hall j (by rw [htl]; exact hj)
            rw [Nat.zero_add] at this; exact this⟩
          refine wp_region_any hc.1 ?_
          have hsz : (left (Array.replicate ops.size false) n) + (ops.size - n) = ops.size := by
            have : left (Array.replicate ops.size false) n = n := by
              unfold left
              rw [List.filter_eq_self.2 (fun i _ => by rw [getD_replicate_false]; rfl)]
              simp
            omega
          obtain ⟨hN, hdf, φ, M, hF, hW, hφ⟩ := hS
          have hinv : InvD Γ σ (dstsOf (ops.toList.take n)) done (Array.replicate ops.size false) a { w with drawn := w.drawn + 1 } := by
            refine ⟨hN, hdf, φ, M, fun t => ?_, ?_, fun id hid _ => hφ id hid⟩
            · have hbel : Below w.heap.size w { w with drawn := w.drawn + 1 } := ⟨rfl, rfl, rfl, Nat.le_refl _, fun _ _ => rfl⟩
              have he := hW.ex_grow hbel
              rcases dlook_cases (dsts := dstsOf (ops.toList.take n)) (L := σ.L) (S := fun i => (Array.replicate ops.size false).getD i false) (t := t) (l := done) with ⟨y, hy, k1, k2, k3⟩ | ⟨k1, k2⟩
              · rw [getD_replicate_false] at k2; cases k2
              · rw [k2]
                cases (dstsOf (ops.toList.take n)).contains t with
                | true => trivial
                | false => exact AR.mono he (hF t)
            · have hbel : Below w.heap.size w { w with drawn := w.drawn + 1 } := ⟨rfl, rfl, rfl, Nat.le_refl _, fun _ _ => rfl⟩
              refine (hW.grow hbel).less fun id ob hid => ?_
              have e1 : updOf (fun i => (Array.replicate ops.size false).getD i false) done id = none := updOf_none fun x _ _ _ => getD_replicate_false _ _
              unfold dheapU at hid
              rw [e1] at hid
              simp only at hid
              rcases dheap_cases (H := σ.H) (S := fun i => (Array.replicate ops.size false).getD i false) hwf id with ⟨x, hx, h1, h2⟩ | ⟨h1, h2⟩
              · rw [dheap_in hwf hx h1 h2, getD_replicate_false] at hid; cases hid
              · rw [h2] at hid; exact hid
          have inv0 : HeadInv .any ops n (Array.replicate ops.size false) :=
            ⟨by simp, fun j oj _ hl => (by rw [getD_replicate_false] at hl; cases hl), fun t _ ht => getD_in (by simpa using ht) (getD_replicate_false _ _)⟩
          have := draw_any (tail := []) hB hD hst hob.2 hQ _ _ a _ rfl inv0 hinv
          rw [hsz] at this
          exact this
      · cases hf
  · cases hf
end
end Go.Proofs.YtjhhlmmmkgnhmaaDoor
