/- What the abstract machine's states say of a world; contracts of calls; regions and runs of the abstract machine. No program in sight. -/
import Derived.Test.YtjhhlmmmkgnhmaaDoorGB
namespace Go.Proofs.YtjhhlmmmkgnhmaaDoor
set_option linter.unusedSimpArgs false
set_option linter.unusedVariables false
set_option linter.unusedSectionVars false
open Go.RowKit

/-! ### Relations -/
/-- What is read of blocks (M) that never turn. -/
inductive IR (w : World) (M : Nat → Prop) : Lf → Value → Prop
  | any (v : Value) : v.oneCell' = true → IR w M .any v
  | int (k : IntKind) (n : Int) : IR w M (.int k n) (.int k n)
  | bool (b : Bool) : IR w M (.bool b) (.bool b)
  | str (s : ByteArray) : IR w M (.str s) (.string s)
  | nilp : IR w M .nilp (.pointer none)
  | nils : IR w M .nils (.slice none 0 0)
  | ip (cells : List Lf) (off b o : Nat) (vs : Nat → Value) : M b → (∀ (i : Nat) (l : Lf), cells[i]? = some l → w.cell? ⟨b, o + i, none⟩ = some (vs i)) →
      (∀ (i : Nat) (l : Lf), cells[i]? = some l → IR w M l (vs i)) → IR w M (.ip cells off) (.pointer (some ⟨b, o + off, none⟩))
  | sl0 (cl : Bool) (sz : Nat) (a : Option Addr) (cap : Nat) : (cl = true → cap = 0) → IR w M (.sl cl sz []) (.slice a 0 cap)
  | sl (cl : Bool) (sz : Nat) (rows : List (List Lf)) (b o cap : Nat) (vs : Nat → Nat → Value) : M b → rows.length ≤ cap → (cl = true → cap = rows.length) →
      (∀ (i : Nat) (c : List Lf), rows[i]? = some c → c.length = sz) →
      (∀ (i : Nat) (c : List Lf) (j : Nat) (l : Lf), rows[i]? = some c → c[j]? = some l → w.cell? ⟨b, o + i * sz + j, none⟩ = some (vs i j)) →
      (∀ (i : Nat) (c : List Lf) (j : Nat) (l : Lf), rows[i]? = some c → c[j]? = some l → IR w M l (vs i j)) → IR w M (.sl cl sz rows) (.slice (some ⟨b, o, none⟩) rows.length cap)

/-- Where the call's own objects lie: at a block, for so many rows; or nowhere yet. -/
abbrev Pl := Nat → Option (Option (Nat × Nat))

def LR0 (w : World) (M : Nat → Prop) (φ : Pl) : Lf → Value → Prop
  | .op id sz row off, v => ∃ b C, φ id = some (some (b, C)) ∧ v = .pointer (some ⟨b, row * sz + off, none⟩)
  | .os id sz off len, v => (∃ b C, φ id = some (some (b, C)) ∧ v = .slice (some ⟨b, off * sz, none⟩) len (C - off) ∧ off + len ≤ C) ∨
      (φ id = some none ∧ off = 0 ∧ len = 0 ∧ ∃ a, v = .slice a 0 0)
  | l, v => IR w M l v

/-- Two lists, element by element. -/
def Rs {α β : Type} (R : α → β → Prop) : List α → List β → Prop
  | [], [] => True
  | x :: xs, y :: ys => R x y ∧ Rs R xs ys
  | _, _ => False

def LR (w : World) (M : Nat → Prop) (φ : Pl) : Lf → Value → Prop
  | .fn f caps, v => ∃ vs : List Value, v = .func f #[] vs.toArray ∧ Rs (LR0 w M φ) caps vs
  | l, v => LR0 w M φ l v

def CR (w : World) (M : Nat → Prop) (φ : Pl) : Cm → Value → Prop
  | .one l, v => LR w M φ l v
  | .agg ls, v => ∃ vs : List Value, v = .agg vs.toArray ∧ Rs (LR w M φ) ls vs

def AR (w : World) (M : Nat → Prop) (φ : Pl) : AV → Value → Prop
  | .cm c, v => CR w M φ c v
  | .tup cs, v => ∃ vs : List Value, v = .tuple vs.toArray ∧ Rs (CR w M φ) cs vs
  | .gd p c, v => (p → CR w M φ c v) ∧ (¬ p → v = undef)
  | .unk, _ => True
  | .boo, v => ∃ b, v = .bool b

/-- One object of the call's own. -/
def OR (w : World) (M : Nat → Prop) (φ : Pl) (id : Nat) (ob : Ob) : Prop :=
  0 < ob.sz ∧
  match φ id with
  | none => False
  | some none => ob.rows = [] ∧ ob.box = false
  | some (some (b, C)) => ∃ cur : Array Value, w.heap[b]? = some (.cells cur ob.ety (0, 0)) ∧ cur.size = C * ob.sz ∧ ob.rows.length ≤ C ∧ C ≤ maxLen ∧
      (ob.box = true → C = 1) ∧
      ∀ i c, ob.rows[i]? = some c → c.length = ob.sz ∧ ∀ j l, c[j]? = some l → ∃ v, cur[i * ob.sz + j]? = some v ∧ (if ob.box then LR w M φ l v else IR w M l v)

/-- What a call was handed: the world it began in; the blocks it was handed as its own; which of its first objects stay where they are. -/
structure Gam where
  w0 : World
  own0 : Nat → Prop
  M0 : Nat → Prop
  pins : List (Nat × Nat)

structure Wd (Γ : Gam) (φ : Pl) (M : Nat → Prop) (h : Nat → Option Ob) (w : World) : Prop where
  obs : ∀ id ob, h id = some ob → OR w M φ id ob
  inj : ∀ i j oi oj b Ci Cj, h i = some oi → h j = some oj → φ i = some (some (b, Ci)) → φ j = some (some (b, Cj)) → i = j
  mlt : ∀ b, M b → b < w.heap.size
  m0 : ∀ b, Γ.M0 b → M b
  mold : ∀ b, M b → Γ.M0 b ∨ Γ.own0 b ∨ Γ.w0.heap.size ≤ b
  own : ∀ id ob b C, h id = some ob → φ id = some (some (b, C)) → ¬ M b ∧ b < w.heap.size ∧ (Γ.own0 b ∨ Γ.w0.heap.size ≤ b)
  keep : ∀ b, b < Γ.w0.heap.size → ¬ Γ.own0 b → w.heap[b]? = Γ.w0.heap[b]?
  os : w.os = Γ.w0.os
  tape : w.tape = Γ.w0.tape
  output : w.output = Γ.w0.output
  size : Γ.w0.heap.size ≤ w.heap.size
  pin : ∀ p ∈ Γ.pins, φ p.1 = some (some (p.2, 1))

def hl (H : List (Option Ob)) (id : Nat) : Option Ob := (H[id]?).join

/-- The pinned objects among those handed over: the boxes. -/
def pinsOf (φ : Pl) : Nat → List Ob → List (Nat × Nat)
  | _, [] => []
  | i, o :: r => (match o.box, φ i with
    | true, some (some (b, _)) => [(i, b)]
    | _, _ => []) ++ pinsOf φ (i + 1) r

/-- A function of the program's own text. -/
def callOk (P : Program) (f : FuncId) : Bool :=
  match P.funcs[f]? with
  | some fn => !(fn.name == "runtime.NumGoroutine") && fn.body.isSome
  | none => false
/-- The contract of a call: handed args and the objects H0, it returns r, and leaves the objects H1. -/
def AFn (P : Program) (f : FuncId) (args : List Cm) (H0 : List Ob) (r : AV) (H1 : List (Option Ob)) : Prop :=
  callOk P f = true ∧ ∀ (w : World) (φ : Pl) (M0 : Nat → Prop) (vals : List Value),
    Wd ⟨w, fun b => ∃ id C, id < H0.length ∧ φ id = some (some (b, C)), M0, pinsOf φ 0 H0⟩ φ M0 (fun id => H0[id]?) w → (∀ id, H0.length ≤ id → φ id = none) →
    Rs (CR w M0 φ) args vals →
    Calls P f vals.toArray w fun e w' => ∃ v φ' M', e = .returned v ∧ AR w' M' φ' r v ∧
      Wd ⟨w, fun b => ∃ id C, id < H0.length ∧ φ id = some (some (b, C)), M0, pinsOf φ 0 H0⟩ φ' M' (hl H1) w' ∧ (∀ id, H1.length ≤ id → φ' id = none)

/-! ### Renaming -/
def ren0 (m : Nat → Option Nat) : Lf → Lf
  | .op id sz row off => match m id with
    | some j => .op j sz row off
    | none => .any
  | .os id sz off len => match m id with
    | some j => .os j sz off len
    | none => .any
  | .fn f caps => .any
  | l => l
def renL (m : Nat → Option Nat) : Lf → Lf
  | .fn f caps => .fn f (caps.map (ren0 m))
  | l => ren0 m l
def renC (m : Nat → Option Nat) : Cm → Cm
  | .one l => .one (renL m l)
  | .agg ls => .agg (ls.map (renL m))
def renAV (m : Nat → Option Nat) : AV → AV
  | .cm c => .cm (renC m c)
  | .tup cs => .tup (cs.map (renC m))
  | .gd p c => .gd p (renC m c)
  | .unk => .unk
  | .boo => .boo
def renOb (m : Nat → Option Nat) (ob : Ob) : Ob := bif ob.box then { ob with rows := ob.rows.map fun c => c.map (renL m) } else ob
/-- The place of an id in a list of ids. -/
def posOf : List Nat → Nat → Nat → Option Nat
  | [], _, _ => none
  | x :: r, k, id => bif x == id then some k else posOf r (k + 1) id
def free0 : Lf → Bool
  | .op .. => false
  | .os .. => false
  | .fn .. => false
  | _ => true
def freeL : Lf → Bool
  | .fn _ caps => caps.all free0
  | l => free0 l
def freeC : Cm → Bool
  | .one l => freeL l
  | .agg ls => ls.all freeL
/-- All own references among those that m knows. -/
def known0 (m : Nat → Option Nat) : Lf → Bool
  | .op id .. => (m id).isSome
  | .os id .. => (m id).isSome
  | .fn .. => false
  | _ => true
def knownL (m : Nat → Option Nat) : Lf → Bool
  | .fn _ caps => caps.all (known0 m)
  | l => known0 m l
def knownC (m : Nat → Option Nat) : Cm → Bool
  | .one l => knownL m l
  | .agg ls => ls.all (knownL m)
def knownOb (m : Nat → Option Nat) (ob : Ob) : Bool := !ob.box || ob.rows.all fun c => c.all (knownL m)

/-! ### Operations that write; calls -/
structure Mes where
  v : AV
  H : List (Option Ob)
  obs : List Prop
  hs : List Hint

def noDup : List Nat → Bool
  | [] => true
  | x :: r => !r.contains x && noDup r
def putAll (H : List (Option Ob)) : List Nat → List (Option Ob) → List (Option Ob)
  | i :: is, o :: os => putAll (H.set i o) is os
  | _, rest => H ++ rest
/-- The objects by their ids. -/
def pickObs (H : List (Option Ob)) : List Nat → Option (List Ob)
  | [] => some []
  | i :: r => match hl H i, pickObs H r with
    | some o, some os => some (o :: os)
    | _, _ => none
def freeAV : AV → Bool
  | .cm c => freeC c
  | .tup cs => cs.all freeC
  | _ => false
/-- A call that is handed nothing of the caller's own, but to read, and leaves nothing but its result. -/
def callPure (P : Program) (h : Nat → Option Ob) (L : Nat → AV) (c : Call) (hs : List Hint) : Option Res :=
  match c.callee with
  | .value f =>
    match aev L f, argsG L True c.args.toList, hs with
    | .cm (.one (.fn (.func k) caps)), some (args0, o), .call [] r [] :: hs' =>
      bif (args0 ++ caps.map Cm.one).all freeC then
        bif freeAV r then some ⟨r, [], o ++ [AFn P k (args0 ++ caps.map Cm.one) [] r []], hs'⟩ else none
      else match loanCs h (args0 ++ caps.map Cm.one) with
        | some (args', o') => bif plainAV r then some ⟨r, [], o ++ o' ++ [AFn P k args' [] r []], hs'⟩ else none
        | none => none
    | _, _, _ => none
  | _ => none
def allOb : List (Option Ob) → Option (List Ob)
  | [] => some []
  | some o :: r => (allOb r).map (o :: ·)
  | none :: _ => none
/-- A call that is handed nothing of the caller's own, and whose result is the caller's own. -/
def callOwn (P : Program) (base : Nat) (L : Nat → AV) (c : Call) (hs : List Hint) : Option Res :=
  match c.callee with
  | .value f =>
    match aev L f, argsG L True c.args.toList, hs with
    | .cm (.one (.fn (.func k) caps)), some (args0, o), .call [] r out :: hs' =>
      match allOb out with
      | some obs => bif (args0 ++ caps.map Cm.one).all freeC && obs.all (fun o => !o.box) then some ⟨renAV (fun j => some (base + j)) r, obs, o ++ [AFn P k (args0 ++ caps.map Cm.one) [] r out], hs'⟩ else none
      | none => none
    | _, _, _ => none
  | _ => none
def mopCall (P : Program) (H : List (Option Ob)) (L : Nat → AV) (c : Call) (hs : List Hint) : Option Mes :=
  match c.callee with
  | .value f =>
    match aev L f, argsG L True c.args.toList, hs with
    | .cm (.one (.fn (.func k) caps)), some (args0, o), .call ids r out :: hs' =>
      let args := args0 ++ caps.map Cm.one
      let m := posOf ids 0
      match pickObs H ids with
      | some obs0 =>
        bif noDup ids && args.all (knownC m) && obs0.all (knownOb m) && Nat.ble ids.length out.length then
          let m' : Nat → Option Nat := fun j => match ids[j]? with
            | some i => some i
            | none => some (H.length + (j - ids.length))
          some ⟨renAV m' r, putAll H ids (out.map (·.map (renOb m'))), o ++ [AFn P k (args.map (renC m)) (obs0.map (renOb m)) r out], hs'⟩
        else none
      | none => none
    | _, _, _ => none
  | _ => none
def sameOs (id : Nat) : Lf → Bool
  | .os id' .. => id' == id
  | _ => false
def mop (P : Program) (H : List (Option Ob)) (L : Nat → AV) (op : Op) (hs : List Hint) : Option Mes :=
  match op with
  | .store t a x =>
    (match getG True (aev L a), getG True (aev L x), tsz P t with
    | some (.one (.op id sz row off), o), some (c, o'), some n =>
      (match hl H id with
      | some ob =>
        bif ob.sz == sz && n == c.cells.length then
          (match ob.box, ob.rows, hs with
          | true, [cells], _ => bif row == 0 && Nat.ble (off + n) cells.length then some ⟨.unk, H.set id (some { ob with rows := [cells.take off ++ c.cells ++ cells.drop (off + n)] }), o ++ o', hs⟩ else none
          | false, rows, .cells old :: .rows R :: hs' =>
            bif Nat.ble (off + n) old.length && c.cells.all immL then
              some ⟨.unk, H.set id (some { ob with rows := R }), o ++ o' ++ [rows[row]? = some old, rows.set row (old.take off ++ c.cells ++ old.drop (off + n)) = R], hs'⟩
            else none
          | _, _, _ => none) else none
      | none => none)
    | _, _, _ => none)
  | .call c =>
    (match c.callee with
    | .builtin .append =>
      (match argsG L True c.args.toList, c.argTypes.toList, hs with
      | some ([.one (.os id sz off len), .one x], o), [t, t'], .rows R :: hs' =>
        (match sliceElem P t, hl H id, rowsOf (hl H) x with
        | some e, some ob, some (sz', new, o') =>
          (match P.info? e, zeroL P e with
          | some i, some z =>
            bif t == t' && off == 0 && sz == i.size && ob.sz == sz && !ob.box && ob.ety == e && (sz' == sz || new.isEmpty) && !sameOs id x then
              some ⟨one (.os H.length sz 0 R.length), (H.set id none) ++ [some ⟨false, sz, e, R⟩],
                o ++ o' ++ [ob.rows.length = len, ob.rows ++ new = R, R.length * i.bytes ≤ 140737488355328, R.length ≤ 9223372036854775807], hs'⟩
            else none
          | _, _ => none)
        | _, _, _ => none)
      | _, _, _ => none)
    | .builtin .copy =>
      (match argsG L True c.args.toList, c.argTypes.toList, hs with
      | some ([.one (.os id sz off len), .one x], o), [t, t'], .rows R :: .num n :: hs' =>
        (match sliceElem P t, hl H id, rowsOf (hl H) x with
        | some e, some ob, some (sz', new, o') =>
          (match P.info? e with
          | some i =>
            bif t == t' && off == 0 && sz == i.size && ob.sz == sz && !ob.box && (sz' == sz || new.isEmpty) && !sameOs id x then
              some ⟨one (.int .i64 n), H.set id (some { ob with rows := R }), o ++ o' ++ [ob.rows.length = len, min new.length ob.rows.length = n, new.take n ++ ob.rows.drop n = R], hs'⟩
            else none
          | none => none)
        | _, _, _ => none)
      | _, _, _ => none)
    | _ => none)
  | _ => none

/-! ### Ghosts -/
/-- The own slice id is frozen: its leaves become what never turns. -/
def frzF (id : Nat) (sz : Nat) (rows : List (List Lf)) : Lf → Lf × List Prop
  | .os i s off len => bif i == id && s == sz && off == 0 then (.sl false sz rows, [rows.length = len]) else (.os i s off len, [])
  | l => (l, [])
/-- The lengths of an own slice are said anew. -/
def relF (id n : Nat) : Lf → Lf × List Prop
  | .os i s off len => bif i == id && off == 0 then (.os i s off n, [len = n]) else (.os i s off len, [])
  | l => (l, [])
section
variable (f : Lf → Lf × List Prop)
def gmLs : List Lf → List Lf × List Prop
  | [] => ([], [])
  | l :: r => ((f l).1 :: (gmLs r).1, (f l).2 ++ (gmLs r).2)
def gmC : Cm → Cm × List Prop
  | .one l => (.one (f l).1, (f l).2)
  | .agg ls => (.agg (gmLs f ls).1, (gmLs f ls).2)
def gmCs : List Cm → List Cm × List Prop
  | [] => ([], [])
  | c :: r => ((gmC f c).1 :: (gmCs r).1, (gmC f c).2 ++ (gmCs r).2)
def gmAV : AV → AV × List Prop
  | .cm c => (.cm (gmC f c).1, (gmC f c).2)
  | .tup cs => (.tup (gmCs f cs).1, (gmCs f cs).2)
  | v => (v, [])
def gmSlots : List (Nat × AV) → List (Nat × AV) × List Prop
  | [] => ([], [])
  | (t, v) :: r => ((t, (gmAV f v).1) :: (gmSlots r).1, (gmAV f v).2 ++ (gmSlots r).2)
def gmRows : List (List Lf) → List (List Lf) × List Prop
  | [] => ([], [])
  | c :: r => ((gmLs f c).1 :: (gmRows r).1, (gmLs f c).2 ++ (gmRows r).2)
def gmOb : Option Ob → Option Ob × List Prop
  | some ob => bif ob.box then (some { ob with rows := (gmRows f ob.rows).1 }, (gmRows f ob.rows).2) else (some ob, [])
  | none => (none, [])
def gmH : List (Option Ob) → List (Option Ob) × List Prop
  | [] => ([], [])
  | o :: r => ((gmOb f o).1 :: (gmH r).1, (gmOb f o).2 ++ (gmH r).2)
end
def wkL (sz : Nat) : Lf → Option Lf
  | .nils => some (.sl false sz [])
  | .sl _ s rows => some (.sl false s rows)
  | _ => none
def wkC (k sz : Nat) : Cm → Option Cm
  | .one l => bif k == 0 then (wkL sz l).map .one else none
  | .agg ls => match ls[k]? with
    | some l => (wkL sz l).map fun l' => .agg (ls.set k l')
    | none => none

structure SS where
  N : Nat
  L : List (Nat × AV)
  H : List (Option Ob)

/-- The ghosts at the head of the hints. -/
def ghost : List Hint → SS → Option (SS × List Prop × List Hint)
  | .wait 0 :: hs, σ => ghost hs σ
  | .wait (n + 1) :: hs, σ => some (σ, [], .wait n :: hs)
  | .frz id :: hs, σ =>
    (match hl σ.H id with
    | some ob => bif ob.box then none else
      match ghost hs ⟨σ.N, (gmSlots (frzF id ob.sz ob.rows) σ.L).1, (gmH (frzF id ob.sz ob.rows) (σ.H.set id none)).1⟩ with
      | some (σ', o, hs') => some (σ', (gmSlots (frzF id ob.sz ob.rows) σ.L).2 ++ (gmH (frzF id ob.sz ob.rows) (σ.H.set id none)).2 ++ o, hs')
      | none => none
    | none => none)
  | .relen id n :: hs, σ =>
    (match ghost hs ⟨σ.N, (gmSlots (relF id n) σ.L).1, (gmH (relF id n) σ.H).1⟩ with
      | some (σ', o, hs') => some (σ', (gmSlots (relF id n) σ.L).2 ++ (gmH (relF id n) σ.H).2 ++ o, hs')
      | none => none)
  | .nilS t k sz :: hs, σ =>
    (match look σ.L t with
    | .cm c => (match wkC k sz c with
      | some c' => ghost hs ⟨σ.N, (t, .cm c') :: σ.L, σ.H⟩
      | none => none)
    | _ => none)
  | .nilB id k sz :: hs, σ =>
    (match hl σ.H id with
    | some ob => (match ob.box, ob.rows with
      | true, [cells] => (match cells[k]? with
        | some l => (match wkL sz l with
          | some l' => ghost hs ⟨σ.N, σ.L, σ.H.set id (some { ob with rows := [cells.set k l'] })⟩
          | none => none)
        | none => none)
      | _, _ => none)
    | none => none)
  | .adopt t sz e :: hs, σ =>
    (match look σ.L t with
    | .cm (.one .nils) => bif sz == 0 then none else ghost hs ⟨σ.N, (t, one (.os σ.H.length sz 0 0)) :: σ.L, σ.H ++ [some ⟨false, sz, e, []⟩]⟩
    | _ => none)
  | .adoptB id k sz e :: hs, σ =>
    (match hl σ.H id with
    | some ob => (match ob.box, ob.rows with
      | true, [cells] => (match cells[k]? with
        | some .nils => bif sz == 0 then none else ghost hs ⟨σ.N, σ.L, (σ.H.set id (some { ob with rows := [cells.set k (.os σ.H.length sz 0 0)] })) ++ [some ⟨false, sz, e, []⟩]⟩
        | _ => none)
      | _, _ => none)
    | none => none)
  | hs, σ => some (σ, [], hs)

/-! ### Regions -/
structure St where
  σ : SS
  obs : List Prop
  hs : List Hint

def gdv (p : Prop) : AV → Option AV
  | .cm c => some (.gd p c)
  | _ => none
def putD (d : Option Nat) (v : AV) (L : List (Nat × AV)) : List (Nat × AV) :=
  match d with
  | some t => (t, v) :: L
  | none => L
/-- An operation that writes to nothing that was there, calls among them. -/
def dop (P : Program) (h : Nat → Option Ob) (base : Nat) (L : Nat → AV) (op : Op) (hs : List Hint) : Option Res :=
  match fop P h base True L op hs with
  | some r => some r
  | none => match op with
    | .call c => match callPure P h L c hs with
      | some r => some r
      | none => callOwn P base L c hs
    | _ => none
/-- What an operation leaves that is not carried out. -/
def und : AV := .gd False (.one (.bool false))
/-- The operation is carried out. -/
def stepDo (P : Program) (o : Oper) (σ : SS) (hs : List Hint) : Option St :=
  match dop P (hl σ.H) σ.H.length (look σ.L) o.op hs with
  | some r => some ⟨⟨σ.N, putD o.dst r.v σ.L, σ.H ++ r.news.map some⟩, r.obs, r.hs⟩
  | none => match mop P σ.H (look σ.L) o.op hs with
    | some r => some ⟨⟨σ.N, putD o.dst r.v σ.L, r.H⟩, r.obs, r.hs⟩
    | none => none
/-- One operation of a region whose operations are l. -/
def dstOk (N : Nat) : Option Nat → Bool
  | some d => Nat.blt d N
  | none => true
def stepOp (P : Program) (l : Array Oper) (o : Oper) (σ : SS) (hs : List Hint) : Option St :=
  bif !dstOk σ.N o.dst then none else
  match o.guard with
  | none => stepDo P o σ hs
  | some (j, want) =>
    match ((l[j]?).bind (·.dst)).map (look σ.L), hs with
    | some (.cm (.one (.bool b))), .bit t :: hs' =>
      bif t == want then (stepDo P o σ hs').map fun r => { r with obs := (b = t) :: r.obs }
      else some ⟨⟨σ.N, putD o.dst und σ.L, σ.H⟩, [b = t], hs'⟩
    | some (.gd p (.one (.bool b))), .bit t :: hs' =>
      bif t == want then (stepDo P o σ hs').map fun r => { r with obs := (p ∧ b = t) :: r.obs }
      else some ⟨⟨σ.N, putD o.dst und σ.L, σ.H⟩, [p ∧ b = t], hs'⟩
    | some (.gd p (.one (.bool b))), .skip :: hs' => some ⟨⟨σ.N, putD o.dst und σ.L, σ.H⟩, [¬ p], hs'⟩
    | some (.cm (.one (.bool b))), .spec :: hs' =>
      (match fop P (hl σ.H) σ.H.length (b = want) (look σ.L) o.op hs' with
      | some r => bif r.news.isEmpty then (gdv (b = want) r.v).map fun v => ⟨⟨σ.N, putD o.dst v σ.L, σ.H⟩, r.obs, r.hs⟩ else none
      | none => none)
    | some (.gd p (.one (.bool b))), .spec :: hs' =>
      (match fop P (hl σ.H) σ.H.length (p ∧ b = want) (look σ.L) o.op hs' with
      | some r => bif r.news.isEmpty then (gdv (p ∧ b = want) r.v).map fun v => ⟨⟨σ.N, putD o.dst v σ.L, σ.H⟩, r.obs, r.hs⟩ else none
      | none => none)
    | _, _ => none
def stepOps (P : Program) (l : Array Oper) : List Oper → SS → List Hint → Option St
  | [], σ, hs => some ⟨σ, [], hs⟩
  | o :: rest, σ, hs =>
    match ghost hs σ with
    | some (σ0, o0, hs0) =>
      match stepOp P l o σ0 hs0 with
      | some s => match stepOps P l rest s.σ s.hs with
        | some s' => some ⟨s'.σ, o0 ++ s.obs ++ s'.obs, s'.hs⟩
        | none => none
      | none => none
    | none => none

/-! ### Regions that draw their order -/
/-- One operation of the free head: what it yields, or nothing if its guard says no. -/
def dstep (P : Program) (l : Array Oper) (o : Oper) (h : Nat → Option Ob) (base : Nat) (L : Nat → AV) (hs : List Hint) : Option Res :=
  match o.guard with
  | none => dop P h base L o.op hs
  | some (j, want) =>
    match ((l[j]?).bind (·.dst)).map L, hs with
    | some (.cm (.one (.bool b))), .bit t :: hs' =>
      bif t == want then (dop P h base L o.op hs').map fun r => { r with obs := (b = t) :: r.obs }
      else some ⟨und, [], [b = t], hs'⟩
    | some (.gd p (.one (.bool b))), .skip :: hs' => some ⟨und, [], [¬ p], hs'⟩
    | some (.cm (.one (.bool b))), .spec :: hs' =>
      (match fop P h base (b = want) L o.op hs' with
      | some r => bif r.news.isEmpty then (gdv (b = want) r.v).map fun v => ⟨v, [], r.obs, r.hs⟩ else none
      | none => none)
    | _, _ => none
/-- What operations have come to: their number, their slot, their value, the ids of their objects (from, how many). -/
structure Dn where
  i : Nat
  dst : Option Nat
  v : AV
  base : Nat
  news : List Ob
  upd : Option (Nat × Ob)
def predsOf (o : Oper) : List Nat := (o.after.toList.filter fun e => Region.binds .any e).map (·.on)
/-- The slots as an operation with these before it sees them. -/
def dlook (L : List (Nat × AV)) (dsts : List Nat) (S : Nat → Bool) : List Dn → Nat → AV
  | [], t => bif dsts.contains t then .unk else look L t
  | d :: r, t => bif d.dst == some t && S d.i then d.v else dlook L dsts S r t
def dheap (H : List (Option Ob)) (S : Nat → Bool) : List Dn → Nat → Option Ob
  | [], id => hl H id
  | d :: r, id => bif Nat.ble d.base id && Nat.blt id (d.base + d.news.length) then (bif S d.i then d.news[id - d.base]? else none) else dheap H S r id
/-- What is stored into boxes by operations of the free head; a box that is stored to there is no one else's to see. -/
def updOf (S : Nat → Bool) : List Dn → Nat → Option Ob
  | [], _ => none
  | d :: r, id => match d.upd with
    | some (u, ob) => bif u == id && S d.i then some ob else updOf S r id
    | none => updOf S r id
def dheapU (H : List (Option Ob)) (S : Nat → Bool) (l : List Dn) (id : Nat) : Option Ob :=
  match updOf S l id with
  | some ob => some ob
  | none => dheap H S l id
def claim : List (Nat × Nat) → Nat → Option Nat
  | [], _ => none
  | (u, j) :: r, id => bif u == id then some j else claim r id
def view (cl : List (Nat × Nat)) (i : Nat) (h : Nat → Option Ob) (id : Nat) : Option Ob :=
  match claim cl id with
  | some j => bif j == i then h id else none
  | none => h id
def dstore (P : Program) (h : Nat → Option Ob) (L : Nat → AV) (o : Oper) : Option ((Nat × Ob) × List Prop) :=
  match o.guard, o.op with
  | none, .store t a x =>
    (match getG True (aev L a), getG True (aev L x), tsz P t with
    | some (.one (.op id sz row off), o1), some (c, o2), some n =>
      (match h id with
      | some ob => (match ob.box, ob.rows with
        | true, [cells] => bif ob.sz == sz && n == c.cells.length && (row == 0 && Nat.ble (off + n) cells.length) then some ((id, { ob with rows := [cells.take off ++ c.cells ++ cells.drop (off + n)] }), o1 ++ o2) else none
        | _, _ => none)
      | none => none)
    | _, _, _ => none)
  | _, _ => none
def dgo (P : Program) (l : Array Oper) (σ : SS) (dsts : List Nat) (cl : List (Nat × Nat)) : Nat → List Oper → List Dn → Nat → List Hint → Option (List Dn × Nat × List Prop × List Hint)
  | _, [], done, base, hs => some (done, base, [], hs)
  | i, o :: rest, done, base, hs =>
    bif !dstOk σ.N o.dst then none else
    match dstep P l o (view cl i (dheap σ.H (predsOf o).contains done)) base (dlook σ.L dsts (predsOf o).contains done) hs with
    | some r => match dgo P l σ dsts cl (i + 1) rest (⟨i, o.dst, r.v, base, r.news, none⟩ :: done) (base + r.news.length) r.hs with
      | some (d, b, ob, hs') => some (d, b, r.obs ++ ob, hs')
      | none => none
    | none => match dstore P (view cl i (dheap σ.H (predsOf o).contains done)) (dlook σ.L dsts (predsOf o).contains done) o with
      | some (ub, obs) => bif claim cl ub.1 == some i then
          (match dgo P l σ dsts cl (i + 1) rest (⟨i, o.dst, .unk, base, [], some ub⟩ :: done) base hs with
          | some (d, b, ob, hs') => some (d, b, obs ++ ob, hs')
          | none => none) else none
      | none => none
def dL (L : List (Nat × AV)) : List Dn → List (Nat × AV)
  | [] => L
  | d :: r => putD d.dst d.v (dL L r)
def setU (H : List (Option Ob)) : Option (Nat × Ob) → List (Option Ob)
  | some (u, ob) => H.set u (some ob)
  | none => H
def dH (H : List (Option Ob)) : List Dn → List (Option Ob)
  | [] => H
  | d :: r => setU (dH H r) d.upd ++ d.news.map some
def dstsOf (l : List Oper) : List Nat := l.filterMap (·.dst)
/-- The first n operations come in any order, the others behind them, one after the other. -/
def headsB (l : Array Oper) (n : Nat) : Array Bool := ((List.range l.size).map fun i => Nat.blt i n).toArray
def drawB (l : Array Oper) (n : Nat) : Bool :=
  noDup (dstsOf (l.toList.take n)) && Nat.ble n l.size &&
  ((l.toList.take n).zipIdx.all fun (o, i) => (predsOf o).all fun j => Nat.blt j i) &&
  (n == l.size || (Nat.blt n l.size && Region.sinkB .any l n && Region.chainB .any l n)) && Region.seqB .any l (l.size - n) n (headsB l n)
def drawRun (P : Program) (l : Array Oper) (σ : SS) (hs : List Hint) : Option St :=
  match hs with
  | .draw n cl :: hs' =>
    bif P.follows .mixedOrders && drawB l n then
      match dgo P l σ (dstsOf (l.toList.take n)) cl 0 (l.toList.take n) [] σ.H.length hs' with
      | some (done, _, ob, hs2) => (stepOps P l (l.toList.drop n) ⟨σ.N, dL σ.L done, dH σ.H done⟩ hs2).map fun s => { s with obs := ob ++ s.obs }
      | none => none
    else none
  | _ => none

/-! ### Runs -/
inductive It where
  | c (p : Nat)
  | b (id : Nat)
  | l (p : Nat)

def child (k : Bool) : Code → Code
  | .seq a b => cond k b a
  | .cond _ a b => cond k b a
  | .block _ b => b
  | .loop b => b
  | .scope b => b
  | _ => .skip
/-- The code at a place; places are numbers: 1 is the body, 2p and 2p+1 the parts of p. -/
def cdAt (body : Code) : Nat → Nat → Code
  | 0, _ => body
  | n + 1, p => bif Nat.ble p 1 then body else child (p % 2 == 1) (cdAt body n (p / 2))
def cd (body : Code) (p : Nat) : Code := cdAt body 300 p
def It.item (body : Code) : It → Item
  | .c p => .code (cd body p)
  | .b id => .inBlock id
  | .l p => .inLoop (cd body p)
def exitK (id : Nat) : List It → Option (List It)
  | [] => none
  | .b i :: k => bif i == id then some k else exitK id k
  | _ :: k => exitK id k

structure Cf where
  k : List It
  σ : SS
structure Rn where
  cf : Cf
  obs : List Prop
  hs : List Hint

def placeMax : Nat := 1809251394333065553493296640760748560207343510400633813116524750123642650624
/-- One step of the machine (never at a drawn region, a return or an end). -/
def run1 (P : Program) (body : Code) (cf : Cf) (hs : List Hint) : Option Rn :=
  match cf.k with
  | [] => none
  | .b _ :: k => some ⟨⟨k, cf.σ⟩, [], hs⟩
  | .l p :: k => some ⟨⟨.c p :: .l p :: k, cf.σ⟩, [], hs⟩
  | .c p :: k =>
    bif !(Nat.ble 1 p && Nat.blt p placeMax) then none else
    match cd body p with
    | .skip => some ⟨⟨k, cf.σ⟩, [], hs⟩
    | .seq _ _ => some ⟨⟨.c (2 * p) :: .c (2 * p + 1) :: k, cf.σ⟩, [], hs⟩
    | .block id _ => some ⟨⟨.c (2 * p) :: .b id :: k, cf.σ⟩, [], hs⟩
    | .loop _ => some ⟨⟨.c (2 * p) :: .l (2 * p) :: k, cf.σ⟩, [], hs⟩
    | .cond c _ _ =>
      (match aev (look cf.σ.L) c, hs with
      | .cm (.one (.bool b)), .bit t :: hs' => some ⟨⟨.c (2 * p + cond t 0 1) :: k, cf.σ⟩, [b = t], hs'⟩
      | _, _ => none)
    | .exit id => (exitK id k).map fun k' => ⟨⟨k', cf.σ⟩, [], hs⟩
    | .region _ ops draw =>
      (bif draw then drawRun P ops cf.σ hs else stepOps P ops ops.toList cf.σ hs).map fun s => ⟨⟨k, s.σ⟩, s.obs, s.hs⟩
    | _ => none
def runN' (P : Program) (body : Code) : Nat → Cf → List Hint → Option Rn
  | 0, cf, hs => some ⟨cf, [], hs⟩
  | n + 1, cf, hs =>
    match ghost hs cf.σ with
    | some (σ0, o0, hs0) =>
      match run1 P body ⟨cf.k, σ0⟩ hs0 with
      | some r => match runN' P body n r.cf r.hs with
        | some r' => some ⟨r'.cf, o0 ++ r.obs ++ r'.obs, r'.hs⟩
        | none => none
      | none => none
    | none => none
/-- What is kept of a state: these slots, these objects, in this order. -/
def cut (live ids : List Nat) (σ : SS) : SS :=
  ⟨σ.N, live.map fun t => (t, renAV (posOf ids 0) (look σ.L t)), ids.map fun i => (hl σ.H i).map (renOb (posOf ids 0))⟩
/-- A run of n steps, cut. -/
def runC (P : Program) (body : Code) (n : Nat) (live ids : List Nat) (cf : Cf) (hs : List Hint) : Option (Cf × Prop) :=
  match runN' P body n cf hs with
  | some r => match ghost r.hs r.cf.σ with
    | some (σ, o, []) => bif noDup ids then some (⟨r.cf.k, cut live ids σ⟩, allP (r.obs ++ o)) else none
    | _ => none
  | none => none
/-- The results of a function. -/
def resC (L : Nat → AV) (h : Nat → Option Ob) (P : Program) : ResultVar → Option Cm
  | .tmp t => match L t with
    | .cm c => some c
    | _ => none
  | .cell a t => match L a, tsz P t, trow P t with
    | .cm (.one (.op id sz row off)), some n, some r => (match h id with
      | some ob => (match ob.box, ob.rows with
        | true, [cells] => bif row == 0 && ob.sz == sz then partL r n off cells else none
        | _, _ => none)
      | none => none)
    | _, _, _ => none
def resCs (L : Nat → AV) (h : Nat → Option Ob) (P : Program) : List ResultVar → Option (List Cm)
  | [] => some []
  | x :: r => match resC L h P x, resCs L h P r with
    | some c, some cs => some (c :: cs)
    | _, _ => none
def resAV : List Cm → AV
  | [c] => .cm c
  | cs => .tup cs
end Go.Proofs.YtjhhlmmmkgnhmaaDoor
