/- The abstract machine: one operation, a region, a run. No program in sight. -/
import Derived.Test.YtjhhlmmmkgnhmaaDoorGA
namespace Go.Proofs.YtjhhlmmmkgnhmaaDoor
set_option linter.unusedSimpArgs false
set_option linter.unusedVariables false
set_option linter.unusedSectionVars false

def cmL (c : Cm) : AV := .cm c
def one (l : Lf) : AV := .cm (.one l)
/-- The rows that a slice reads as, and how many. -/
def rowsOf (h : Nat → Option Ob) : Lf → Option (Nat × List (List Lf) × List Prop)
  | .nils => some (0, [], [])
  | .sl _ sz rows => some (sz, rows, [])
  | .os id sz off len => match h id with
    | some ob => bif off == 0 && !ob.box && ob.sz == sz then some (sz, ob.rows, [ob.rows.length = len]) else none
    | none => none
  | _ => none
def fopBuiltin (P : Program) (h : Nat → Option Ob) (base : Nat) (b : Builtin) (args : List Cm) (tys : List TypeId) (hs : List Hint) : Option Res :=
  match b, args, tys with
  | .len, [.one l], [t] =>
    (match l, P.underlying t with
    | .str s, some .string => some ⟨one (.int .i64 (sizeS s)), [], [], hs⟩
    | .nils, some (.slice _) => some ⟨one (.int .i64 0), [], [], hs⟩
    | .os _ _ _ len, some (.slice _) =>
      (match hs with
      | .num n :: hs' => some ⟨one (.int .i64 n), [], [len = n], hs'⟩
      | _ => none)
    | .sl _ _ rows, some (.slice _) =>
      (match hs with
      | .num n :: hs' => some ⟨one (.int .i64 n), [], [rows.length = n], hs'⟩
      | _ => none)
    | _, _ => none)
  | .max, [.one (.int k a), .one (.int _ b)], _ => some ⟨one (.int k (maxI a b)), [], [], hs⟩
  | .min, [.one (.int k a), .one (.int _ b)], _ => some ⟨one (.int k (minI a b)), [], [], hs⟩
  | .append, [.one d, .one x], [t, t'] =>
    (match sliceElem P t with
    | some e => match P.info? e, rowsOf h x, zeroL P e with
      | some i, some (sz, new, o), some z =>
        bif t == t' && (sz == i.size || new.isEmpty) then
          (match d, hs with
          | .nils, .rows R :: hs' => some ⟨one (.os base i.size 0 R.length), [⟨false, i.size, e, R⟩], o ++ [new = R, R.length * i.bytes ≤ 140737488355328, R.length ≤ 9223372036854775807], hs'⟩
          | .sl true sz' rows, .rows R :: hs' =>
            bif sz' == i.size || rows.isEmpty then
              some ⟨one (.os base i.size 0 R.length), [⟨false, i.size, e, R⟩], o ++ (bif rows.isEmpty then [new = R] else [rows ++ new = R, new ≠ []]) ++ [R.length * i.bytes ≤ 140737488355328, R.length ≤ 9223372036854775807], hs'⟩
            else none
          | _, _ => none)
        else none
      | _, _, _ => none
    | none => none)
  | _, _, _ => none
def bndC (c : Option Cm) : Option (Option Int) := match c with
  | none => some none
  | some (.one (.int _ n)) => some (some n)
  | _ => none
def fopSlice (P : Program) (h : Nat → Option Ob) (t : TypeId) (x : Cm) (lo hi mx : Option Cm) (hs : List Hint) : Option Res :=
  match x, bndC lo, bndC hi, bndC mx with
  | .one (.str s), some lo, some hi, some none =>
    (match P.underlying t with
    | some .string =>
      some ⟨one (.str (s.extract (lo.getD 0).toNat (hi.getD s.size).toNat)), [], [0 ≤ lo.getD 0, lo.getD 0 ≤ hi.getD s.size, hi.getD s.size ≤ s.size], hs⟩
    | _ => none)
  | .one (.sl cl sz rows), some lo, some hi, some mx =>
    (match sliceElem P t, hs with
    | some e, .rows R :: hs' =>
      bif tsz P e == some sz || rows.isEmpty && (tsz P e).isSome then
        some ⟨one (.sl (mx.isSome || cl && hi.isNone) sz R), [],
          (match mx, hi with
          | some m, some n => [m = n]
          | some _, none => [False]
          | _, _ => []) ++ [0 ≤ lo.getD 0, lo.getD 0 ≤ hi.getD rows.length, hi.getD rows.length ≤ rows.length, hi.getD rows.length ≤ mx.getD (hi.getD rows.length), mx.getD (hi.getD rows.length) ≤ rows.length,
            (rows.drop (lo.getD 0).toNat).take ((hi.getD rows.length).toNat - (lo.getD 0).toNat) = R], hs'⟩
      else none
    | _, _ => none)
  | _, _, _, _ => none
def optG (L : Nat → AV) (g : Prop) : Option Operand → Option (Option Cm × List Prop)
  | none => some (none, [])
  | some x => (getG g (aev L x)).map fun (c, o) => (some c, o)

def fopBin (P : Program) (L : Nat → AV) (g : Prop) (op : BinOp) (t : TypeId) (x y : Operand) (hs : List Hint) : Option Res :=
  match getG g (aev L x), getG g (aev L y) with
  | some (a, o), some (b, o') => (abin P op t a b).map fun (l, o2) => ⟨one l, [], o ++ o' ++ o2, hs⟩
  | _, _ => none
/-- Is a slice nil? It is not if it has rows; else who knows. -/
def fopNil (P : Program) (h : Nat → Option Ob) (L : Nat → AV) (g : Prop) (op : BinOp) (t : TypeId) (x y : Operand) (hs : List Hint) : Option Res :=
  match op, getG g (aev L x), getG g (aev L y), P.underlying t with
  | .eql, some (.one l, o), some (.one .nils, o'), some (.slice _) =>
    (match rowsOf h l, hs with
    | some _, .skip :: hs' => some ⟨.boo, [], o ++ o', hs'⟩
    | some (_, rows, o2), .bit false :: hs' => some ⟨one (.bool false), [], o ++ o' ++ o2 ++ [rows ≠ []], hs'⟩
    | _, _ => none)
  | _, _, _, _ => none
def fop (P : Program) (h : Nat → Option Ob) (base : Nat) (g : Prop) (L : Nat → AV) (op : Op) (hs : List Hint) : Option Res :=
  match op with
  | .move x | .assign x =>
    (match aev L x with
    | .cm c => some ⟨.cm c, [], [], hs⟩
    | .tup cs => some ⟨.tup cs, [], [], hs⟩
    | .gd p c => some ⟨.cm c, [], [g → p], hs⟩
    | .unk => none
    | .boo => some ⟨.boo, [], [], hs⟩)
  | .pick c a b =>
    (match getG g (aev L c), hs with
    | some (.one (.bool bc), o), .spec :: hs' =>
      (match getG (g ∧ bc = true) (aev L a), getG (g ∧ bc = false) (aev L b) with
      | some (.one (.bool x), oa), some (.one (.bool y), ob) => some ⟨one (.bool (cond bc x y)), [], o ++ oa ++ ob, hs'⟩
      | _, _ => none)
    | some (.one (.bool bc), o), .bit t :: hs' =>
      (getG g (aev L (cond t a b))).map fun (x, o') => ⟨.cm x, [], o ++ [bc = t] ++ o', hs'⟩
    | _, _ => none)
  | .alloc e => (zeroL P e).map fun cells => ⟨one (.op base cells.length 0 0), [boxOb e cells], [], hs⟩
  | .box e x =>
    (match getG g (aev L x) with
    | some (c, o) => bif c.cells.isEmpty then none else some ⟨one (.op base c.cells.length 0 0), [boxOb e c.cells], o, hs⟩
    | none => none)
  | .build t parts =>
    (match zeroL P t, placesOf P t, partsG L g parts.toList with
    | some z, some pl, some (cs, o) => (fillL pl z cs).map fun cells => ⟨.cm (.agg cells), [], o, hs⟩
    | _, _, _ => none)
  | .buildSlice t n parts =>
    (match sliceElem P t with
    | some e => match P.info? e, zeroL P e, partsG L g parts.toList with
      | some ie, some z, some (cs, o) =>
        bif n == 0 && cs.isEmpty then some ⟨one (.sl true ie.size []), [], o, hs⟩ else
        bif Nat.ble (n * ie.size) 4096 && !(n == 0) then
          match fillL (fun i => some (i * ie.size, ie.size)) (List.replicate n z).flatten cs with
          | some cells => bif cells.all immL then some ⟨one (.os base ie.size 0 n), [⟨false, ie.size, e, chunk ie.size n cells⟩], o, hs⟩ else none
          | none => none
        else none
      | _, _, _ => none
    | none => none)
  | .load t a =>
    (match getG g (aev L a), tsz P t, trow P t with
    | some (.one (.ip cells off), o), some n, some r => (partL r n off cells).map fun c => ⟨.cm c, [], o, hs⟩
    | some (.one (.op id sz row off), o), some n, some r =>
      (match h id with
      | some ob => bif ob.sz == sz then
          (match ob.box, ob.rows, hs with
          | true, [cells], _ => bif row == 0 then (partL r n off cells).map fun c => ⟨.cm c, [], o, hs⟩ else none
          | false, rows, .cells c :: hs' => (partL r n off c).map fun v => ⟨.cm v, [], o ++ [rows[row]? = some c], hs'⟩
          | _, _, _ => none) else none
      | none => none)
    | _, _, _ => none)
  | .nilCheck x =>
    (match getG g (aev L x) with
    | some (.one (.ip c off), o) => some ⟨one (.ip c off), [], o, hs⟩
    | some (.one (.op id sz row off), o) => some ⟨one (.op id sz row off), [], o, hs⟩
    | _ => none)
  | .binOp op t x y _ =>
    (match fopBin P L g op t x y hs with
    | some r => some r
    | none => fopNil P h L g op t x y hs)
  | .unOp u _ x =>
    (match u, getG g (aev L x) with
    | .neg, some (.one (.int k n), o) => some ⟨one (.int k (subK k 0 n)), [], o, hs⟩
    | .not, some (.one (.bool b), o) => some ⟨one (.bool (!b)), [], o, hs⟩
    | _, _ => none)
  | .convert s d x =>
    (match P.underlying s, P.underlying d, getG g (aev L x), hs with
    | some _, some (.int k), some (.one (.int _ n), o), _ => some ⟨one (.int k (cvK k n)), [], o, hs⟩
    | some (.slice e), some .string, some (.one l, o), .ints J :: hs' =>
      (match P.underlying e, rowsOf h l with
      | some (.int .u8), some (sz, rows, o') => bif sz == 1 || rows.isEmpty then some ⟨one (.str (bytesI J)), [], o ++ o' ++ [rows = J.map fun n => [.int .u8 n]], hs'⟩ else none
      | _, _ => none)
    | _, _, _, _ => none)
  | .makeFunc f first caps =>
    (match argsG L g caps.toList with
    | some (cs, o) => bif first.toList.isEmpty then
        (match capsL cs with
        | some ls => some ⟨one (.fn f ls), [], o, hs⟩
        | none => none) else none
    | none => none)
  | .makeSlice t l c =>
    (match sliceElem P t, getG g (aev L l), getG g (aev L c), hs with
    | some e, some (.one (.int _ n), o), some (.one (.int _ m), o'), .cells z' :: .rows R :: hs' =>
      match P.info? e, zeroL P e with
      | some ie, some z => bif wkOk z z' then some ⟨one (.os base ie.size 0 R.length), [⟨false, ie.size, e, R⟩],
          o ++ o' ++ [0 ≤ n, n ≤ m, m ≤ 9223372036854775807, ie.bytes * m ≤ 140737488355328, List.replicate n.toNat z' = R], hs'⟩ else none
      | _, _ => none
    | _, _, _, _ => none)
  | .slice t x lo hi mx =>
    (match getG g (aev L x), optG L g lo, optG L g hi, optG L g mx with
    | some (c, o), some (lo, o1), some (hi, o2), some (mx, o3) => (fopSlice P h t c lo hi mx hs).map fun r => { r with obs := o ++ o1 ++ o2 ++ o3 ++ r.obs }
    | _, _, _, _ => none)
  | .fieldAddr s x f =>
    (match fieldOf P s f, getG g (aev L x) with
    | some (fo, _, _), some (.one (.ip cells off), o) => some ⟨one (.ip cells (off + fo)), [], o, hs⟩
    | some (fo, _, _), some (.one (.op id sz row off), o) => some ⟨one (.op id sz row (off + fo)), [], o, hs⟩
    | _, _ => none)
  | .field s x f =>
    (match fieldOf P s f, getG g (aev L x) with
    | some (fo, n, r), some (.agg cells, o) => (partL r n fo cells).map fun c => ⟨.cm c, [], o, hs⟩
    | _, _ => none)
  | .indexAddr t x i =>
    (match P.underlying t, getG g (aev L x), getG g (aev L i) with
    | some (.slice e), some (.one (.sl _ sz rows), o), some (.one (.int _ n), o') =>
      (match hs with
      | .cells c :: hs' => bif tsz P e == some sz then some ⟨one (.ip c 0), [], o ++ o' ++ [getI rows n = some c], hs'⟩ else none
      | _ => none)
    | some (.slice e), some (.one (.os id sz off len), o), some (.one (.int _ n), o') =>
      bif tsz P e == some sz then some ⟨one (.op id sz (off + n.toNat) 0), [], o ++ o' ++ [0 ≤ n, n < len], hs⟩ else none
    | some (.array len e), some (.one (.ip cells off), o), some (.one (.int _ n), o') =>
      (match tsz P e with
      | some sz => bif !(len == 0) then some ⟨one (.ip cells (off + n.toNat * sz)), [], o ++ o' ++ [0 ≤ n, n < len], hs⟩ else none
      | none => none)
    | some (.array len e), some (.one (.op id sz row off), o), some (.one (.int _ n), o') =>
      (match tsz P e with
      | some esz => bif !(len == 0) then some ⟨one (.op id sz row (off + n.toNat * esz)), [], o ++ o' ++ [0 ≤ n, n < len], hs⟩ else none
      | none => none)
    | _, _, _ => none)
  | .index t x i =>
    (match P.underlying t, getG g (aev L x), getG g (aev L i) with
    | some .string, some (.one (.str s), o), some (.one (.int _ n), o') =>
      (match hs with
      | .byte b :: hs' => some ⟨one (.int .u8 (byteI b)), [], o ++ o' ++ [getS s n = some b], hs'⟩
      | _ => none)
    | some (.array len e), some (.agg cells, o), some (.one (.int _ n), o') =>
      (match tsz P e, trow P e with
      | some sz, some r => (partL r sz (n.toNat * sz) cells).map fun c => ⟨.cm c, [], o ++ o' ++ [0 ≤ n, n < len], hs⟩
      | _, _ => none)
    | _, _, _ => none)
  | .extract x i =>
    (match aev L x with
    | .tup cs => (cs[i]?).map fun c => ⟨.cm c, [], [], hs⟩
    | _ => none)
  | .call c =>
    (match c.callee with
    | .builtin b =>
      (match argsG L g c.args.toList with
      | some (args, o) => (fopBuiltin P h base b args c.argTypes.toList hs).map fun r => { r with obs := o ++ r.obs }
      | none => none)
    | _ => none)
  | _ => none
end Go.Proofs.YtjhhlmmmkgnhmaaDoor
