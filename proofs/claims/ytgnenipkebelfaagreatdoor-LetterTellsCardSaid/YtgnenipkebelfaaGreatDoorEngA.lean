/- The engine, part A: an abstract machine for the translated code: values, a heap of rows of elements, operations, statements, calls. -/
import Derived.Orders
import Derived.LoopN
import Derived.WalkKit
set_option linter.unusedVariables false
set_option linter.unusedSimpArgs false
namespace Go.Eng

/-- Abstract values. 'slice b es i n c x': n elements (of es cells each) of block b from i on; c is a lower bound of the capacity, and it is the capacity if x. -/
inductive AV where
  | undef
  | bool (b : Bool)
  | int (k : IntKind) (n : Int)
  | str (s : List UInt8)
  | nilptr
  | ptr (b i j : Nat)
  | nilslice
  | slice (b es i n c : Nat) (x : Bool)
  | nilmap
  | map (b : Nat)
  | nilfunc
  | func (f : FuncId) (cs : List AV)
  | agg (l : List AV)
  | tuple (l : List AV)
  deriving Inhabited

/-- Blocks: a row of elements, each of 'es' cells; 'wr': may be written; 'ap': may be appended to. 'bld': a writer (strings.Builder) with its buffer. -/
inductive Blk where
  | dead
  | row (es : Nat) (els : List (List AV)) (wr ap : Bool)
  | map (es : List (AV × AV))
  | bld (v : AV)
  deriving Inhabited

abbrev H := List Blk
abbrev M (α : Type) := H → Option (α × H)

def AV.scalar : AV → Bool
  | .undef | .agg _ | .tuple _ => false
  | _ => true

/-- The cells of a value. -/
def AV.cells : AV → Option (List AV)
  | .agg l => some l
  | .undef | .tuple _ => none
  | v => some [v]

def rdEl (h : H) (b i : Nat) : Option (List AV) :=
  match h[b]? with
  | some (.row _ els _ _) => els[i]?
  | some (.bld v) => if i = 0 then some [.undef, v] else none
  | _ => none

def putCells : List AV → Nat → List AV → List AV
  | e, _, [] => e
  | e, j, c :: cs => putCells (e.set j c) (j + 1) cs

def fillA : List AV → List (Nat × Nat) → List AV → Option (List AV)
  | z, [], [] => some z
  | z, (off, size) :: ps, v :: vs =>
    match v.cells with
    | some cs => if cs.length = size ∧ off + cs.length ≤ z.length then fillA (putCells z off cs) ps vs else none
    | none => none
  | _, _, _ => none

/-- Equality of two values, as Go tells it. -/
inductive Leaf where
  | bool | int | str
  deriving DecidableEq, Repr, Inhabited

def eqLeaf : Leaf → AV → AV → Option Bool
  | .bool, .bool a, .bool b => some (a == b)
  | .int, .int k a, .int k' b => if k = k' then some (a == b) else none
  | .str, .str a, .str b => some (a == b)
  | _, _, _ => none

def eqCells : List Leaf → List AV → List AV → Option Bool
  | [], [], [] => some true
  | k :: ks, a :: l, b :: m =>
    match eqLeaf k a b with
    | some r => (eqCells ks l m).map fun q => r && q
    | none => none
  | _, _, _ => none

inductive EqShape where
  | bool | ptr | slice | map | func
  | agg (ks : List Leaf)
  deriving DecidableEq, Repr, Inhabited

def eqAV : EqShape → AV → AV → Option Bool
  | .bool, .bool a, .bool b => some (a == b)
  | .ptr, .nilptr, .nilptr => some true
  | .ptr, .nilptr, .ptr _ _ _ => some false
  | .ptr, .ptr _ _ _, .nilptr => some false
  | .slice, .nilslice, .nilslice => some true
  | .slice, .nilslice, .slice _ _ _ _ _ _ => some false
  | .slice, .slice _ _ _ _ _ _, .nilslice => some false
  | .map, .nilmap, .nilmap => some true
  | .map, .nilmap, .map _ => some false
  | .map, .map _, .nilmap => some false
  | .func, .nilfunc, .nilfunc => some true
  | .func, .nilfunc, .func _ _ => some false
  | .func, .func _ _, .nilfunc => some false
  | .agg ks, .agg l, .agg m => eqCells ks l m
  | _, _, _ => none

def bitsV (op : BinOp) (k : IntKind) (x y : Int) : Option Int :=
  let a := BitVec.ofInt k.bits x
  let b := BitVec.ofInt k.bits y
  match op with
  | .and => some (k.wrap (a &&& b).toNat)
  | .or => some (k.wrap (a ||| b).toNat)
  | .xor => some (k.wrap (a ^^^ b).toNat)
  | .andNot => some (k.wrap (a &&& ~~~b).toNat)
  | _ => none

def intBin (op : BinOp) (k : IntKind) (a b : Int) : Option AV :=
  match op with
  | .add => some (.int k (k.wrap (a + b)))
  | .sub => some (.int k (k.wrap (a - b)))
  | .mul => some (.int k (k.wrap (a * b)))
  | .quo => if b = 0 then none else some (.int k (k.wrap (a.tdiv b)))
  | .rem => if b = 0 then none else some (.int k (a.tmod b))
  | .and | .or | .xor | .andNot => (bitsV op k a b).map (.int k)
  | .eql => some (.bool (a == b))
  | .neq => some (.bool (a != b))
  | .lss => some (.bool (a < b))
  | .leq => some (.bool (a ≤ b))
  | .gtr => some (.bool (a > b))
  | .geq => some (.bool (a ≥ b))
  | _ => none

def strBin (op : BinOp) (a b : List UInt8) : Option AV :=
  match op with
  | .add => if ((a.length + b.length : Nat) : Int) > 9223372036854775807 then none else some (.str (a ++ b))
  | .eql => some (.bool (a == b))
  | .neq => some (.bool (!(a == b)))
  | .lss => some (.bool (Op.bytesLess a b))
  | .leq => some (.bool (Op.bytesLess a b || a == b))
  | .gtr => some (.bool (!(Op.bytesLess a b || a == b)))
  | .geq => some (.bool (!Op.bytesLess a b))
  | _ => none

def binV (op : BinOp) : AV → AV → Option AV
  | .int k a, .int k' b =>
    match op with
    | .shl => if b < 0 then none else some (.int k (k.wrap (a * 2 ^ min b.toNat k.bits)))
    | .shr => if b < 0 then none else some (.int k (a.fdiv (2 ^ min b.toNat k.bits)))
    | _ => if k = k' then intBin op k a b else none
  | .str a, .str b => strBin op a b
  | _, _ => none

/-- Operations that look at their operands alone. -/
inductive POp where
  | move
  | pick
  | build (z : List AV) (places : List (Nat × Nat))
  | nilCheck
  | bin (op : BinOp)
  | eq (neg : Bool) (s : EqShape)
  | neg | inv | not
  | convInt (k : IntKind)
  | convStr
  | fieldAddr (off : Nat)
  | field (off : Nat) (n : Option Nat)
  | indexAddr (es : Nat)
  | indexStr
  | sliceStr (lo hi : Bool)
  | sliceSl (es : Nat) (lo hi mx : Bool)
  | lenStr | lenSl
  | min | max
  | extract (i : Nat)
  | mkfn (f : FuncId)
  deriving Inhabited

def optNat : Bool → List AV → Option (Option Nat × List AV)
  | false, l => some (none, l)
  | true, .int _ n :: l => if 0 ≤ n then some (some n.toNat, l) else none
  | _, _ => none

def sliceStrV (lo hi : Bool) (s : List UInt8) (l : List AV) : Option AV :=
  match optNat lo l with
  | some (a, l) =>
    match optNat hi l with
    | some (b, []) =>
      let a := a.getD 0
      let b := b.getD s.length
      if a ≤ b ∧ b ≤ s.length then some (.str ((s.drop a).take (b - a))) else none
    | _ => none
  | none => none

def sliceSlV (es : Nat) (lo hi mx : Bool) (v : AV) (l : List AV) : Option AV :=
  match optNat lo l with
  | some (a, l) =>
    match optNat hi l with
    | some (b, l) =>
      match optNat mx l with
      | some (m, []) =>
        match v with
        | .slice bl es' i n c x =>
          let a := a.getD 0
          let b := b.getD n
          match m with
          | none => if es' = es ∧ a ≤ b ∧ b ≤ c then some (.slice bl es (i + a) (b - a) (c - a) x) else none
          | some m => if es' = es ∧ a ≤ b ∧ b ≤ m ∧ m ≤ c then some (.slice bl es (i + a) (b - a) (m - a) true) else none
        | .nilslice => if a.getD 0 = 0 ∧ b.getD 0 = 0 ∧ m.getD 0 = 0 then some .nilslice else none
        | _ => none
      | _ => none
    | none => none
  | none => none

def partV (l : List AV) (off : Nat) : Option Nat → Option AV
  | none => l[off]?
  | some n => if off + n ≤ l.length then some (.agg ((l.drop off).take n)) else none

def minV (mx : Bool) : AV → List AV → Option AV
  | .int k a, [] => some (.int k a)
  | .int k a, .int k' b :: r => if k = k' then minV mx (.int k (if mx then (if a < b then b else a) else (if b < a then b else a))) r else none
  | _, _ => none

def evalP : POp → List AV → Option AV
  | .move, [x] => some x
  | .pick, [.bool c, a, b] => some (if c then a else b)
  | .build z ps, vs => (fillA z ps vs).map .agg
  | .nilCheck, [.ptr b i j] => some (.ptr b i j)
  | .nilCheck, [.func f cs] => some (.func f cs)
  | .bin op, [x, y] => binV op x y
  | .eq n s, [x, y] => (eqAV s x y).map fun b => .bool (if n then !b else b)
  | .neg, [.int k n] => some (.int k (k.wrap (0 - n)))
  | .inv, [.int k n] => (bitsV .xor k (if k.signed then -1 else k.max) n).map (.int k)
  | .not, [.bool b] => some (.bool !b)
  | .convInt k, [.int _ n] => some (.int k (k.wrap n))
  | .convStr, [.str s] => some (.str s)
  | .fieldAddr off, [.ptr b i j] => some (.ptr b i (j + off))
  | .field off n, [.agg l] => partV l off n
  | .indexAddr es, [.slice b es' i n _ _, .int _ m] => if es' = es ∧ 0 ≤ m ∧ m < n then some (.ptr b (i + m.toNat) 0) else none
  | .indexStr, [.str s, .int _ m] => if 0 ≤ m then (s[m.toNat]?).map fun c => .int .u8 c.toNat else none
  | .sliceStr lo hi, .str s :: l => sliceStrV lo hi s l
  | .sliceSl es lo hi mx, v :: l => sliceSlV es lo hi mx v l
  | .lenStr, [.str s] => some (.int .i64 s.length)
  | .lenSl, [.nilslice] => some (.int .i64 0)
  | .lenSl, [.slice _ _ _ n _ _] => some (.int .i64 n)
  | .min, v :: l => minV false v l
  | .max, v :: l => minV true v l
  | .extract i, [.tuple l] => l[i]?
  | .mkfn f, cs => some (.func f cs)
  | _, _ => none

/-- Operations that read memory. -/
inductive ROp where
  | load (n : Option Nat)
  | lookup (kd : Leaf) (z : AV) (ok : Bool)
  | lenMap
  | toStr
  deriving Inhabited

def findA (kd : Leaf) (k : AV) : List (AV × AV) → Option (Option (Nat × AV))
  | [] => some none
  | (k', v) :: l =>
    match eqLeaf kd k k' with
    | some true => some (some (0, v))
    | some false => (findA kd k l).map fun r => r.map fun (i, v) => (i + 1, v)
    | none => none

def bytesA : List (List AV) → Option (List UInt8)
  | [] => some []
  | [.int .u8 n] :: l => (bytesA l).map fun r => UInt8.ofNat n.toNat :: r
  | _ => none

def evalR : ROp → List AV → H → Option AV
  | .load n, [.ptr b i j], h => (rdEl h b i).bind fun e => partV e j n
  | .lookup kd z ok, [.map b, k], h =>
    match h[b]? with
    | some (.map es) =>
      match findA kd k es with
      | some r =>
        let v := (r.map (·.2)).getD z
        some (if ok then .tuple [v, .bool r.isSome] else v)
      | none => none
    | _ => none
  | .lookup _ z ok, [.nilmap, _], _ => some (if ok then .tuple [z, .bool false] else z)
  | .lenMap, [.map b], h =>
    match h[b]? with
    | some (.map es) => some (.int .i64 es.length)
    | _ => none
  | .lenMap, [.nilmap], _ => some (.int .i64 0)
  | .toStr, [.nilslice], _ => some (.str [])
  | .toStr, [.slice b 1 i n _ _], h =>
    match h[b]? with
    | some (.row 1 els _ _) => if i + n ≤ els.length then (bytesA ((els.drop i).take n)).map .str else none
    | _ => none
  | _, _, _ => none

/-- Operations that make one new block of their operands. -/
inductive AOp where
  | alloc (z : List AV)
  | box
  | buildSlice (es len : Nat) (z : List AV) (at_ : List Nat)
  | makeSlice (z : List AV)
  | makeMap
  | toBytes
  | newBld
  deriving Inhabited

def fillEls (es : Nat) : List (List AV) → List Nat → List AV → Option (List (List AV))
  | els, [], [] => some els
  | els, i :: is, v :: vs =>
    match v.cells with
    | some cs => if cs.length = es ∧ i < els.length then fillEls es (els.set i cs) is vs else none
    | none => none
  | _, _, _ => none

def evalA : AOp → List AV → Option (Blk × (Nat → AV))
  | .alloc z, [] => some (.row z.length [z] true true, fun b => .ptr b 0 0)
  | .box, [v] => v.cells.map fun cs => (.row cs.length [cs] true true, fun b => .ptr b 0 0)
  | .buildSlice es len z is, vs => (fillEls es (List.replicate len z) is vs).map fun els => (.row es els true true, fun b => .slice b es 0 len len true)
  | .makeSlice z, [.int _ l, .int _ c] =>
    if 0 ≤ l ∧ l ≤ c ∧ c ≤ 4294967296 then some (.row z.length (List.replicate l.toNat z) true true, fun b => .slice b z.length 0 l.toNat c.toNat true) else none
  | .makeMap, [] => some (.map [], fun b => .map b)
  | .newBld, [] => some (.bld .nilslice, fun b => .ptr b 0 0)
  | .toBytes, [.str s] => some (.row 1 (s.map fun c => [.int .u8 c.toNat]) true true, fun b => .slice b 1 0 s.length s.length false)
  | _, _ => none

/-- Operations that write memory, or call. 'append es keep'. -/
inductive HOp where
  | store (n : Nat)
  | append (es : Nat) (keep : Bool)
  | appendStr (keep : Bool)
  | copy (es : Nat)
  | clear (z : List AV)
  | mapUpdate (kd : Leaf)
  | delete (kd : Leaf)
  | call (f : FuncId)
  | callV
  deriving Inhabited

def st (h : H) (p : AV) (cs : List AV) : Option H :=
  match p with
  | .ptr b i j =>
    match h[b]? with
    | some (.row es els true ap) =>
      match els[i]? with
      | some e => if j + cs.length ≤ e.length ∧ cs.all AV.scalar then some (h.set b (.row es (els.set i (putCells e j cs)) true ap)) else none
      | none => none
    | _ => none
  | _ => none

/-- The type of which a writer is, if there is one. -/
def bldTy : Option TypeId := (some 64)

/-- The elements that a slice shows. -/
def elsOf (h : H) (es : Nat) : AV → Option (List (List AV))
  | .nilslice => some []
  | .slice b es1 i n _ _ =>
    if n = 0 then (if es1 = es then some [] else none) else
    match h[b]? with
    | some (.row es' els _ _) => if es1 = es ∧ es' = es ∧ i + n ≤ els.length then some ((els.drop i).take n) else none
    | _ => none
  | _ => none

def appendEls (keep : Bool) (es : Nat) (s : AV) (xs : List (List AV)) : M AV := fun h =>
  if xs.length = 0 then
    match s with
    | .nilslice => some (.nilslice, h)
    | .slice b es' i n c x => some (.slice b es' i n c x, h)
    | _ => none
  else
  match s with
  | .nilslice => if xs.length ≤ 4294967296 ∨ xs.length * (24 * es) ≤ 281474976710656 then some (.slice h.length es 0 xs.length xs.length false, h ++ [.row es xs true true]) else none
  | .slice b es1 i n c x =>
    match h[b]? with
    | some (.row es' els wr ap) =>
      if es1 = es ∧ es' = es ∧ i + n ≤ els.length ∧ (n + xs.length ≤ 4294967296 ∨ (x = true ∧ c = 0 ∧ (n + xs.length) * (24 * es) ≤ 281474976710656)) then
        let old := (els.drop i).take n
        if x = true ∧ c < n + xs.length then
          some (.slice h.length es 0 (n + xs.length) (n + xs.length) false, h ++ [.row es (old ++ xs) true true])
        else if ap = true ∧ ((wr = true ∧ keep = false) ∨ i + n = els.length) then
          some (.slice h.length es 0 (n + xs.length) (n + xs.length) false,
            (h.set b (if keep then .row es els false false else .dead)) ++ [.row es (old ++ xs) (wr && !keep) true])
        else none
      else none
    | _ => none
  | _ => none

def putEls : List (List AV) → Nat → List (List AV) → List (List AV)
  | els, _, [] => els
  | els, i, x :: xs => putEls (els.set i x) (i + 1) xs

def evalHeap : HOp → List AV → M AV
  | .store n, [p, v], h =>
    match v.cells with
    | some cs => if cs.length = n then (st h p cs).map fun h' => (.tuple [], h') else none
    | none => none
  | .append es keep, [s, x], h =>
    match elsOf h es x with
    | some xs => if xs.all (fun e => e.all AV.scalar) then appendEls keep es s xs h else none
    | none => none
  | .appendStr keep, [s, .str x], h => appendEls keep 1 s (x.map fun c => [.int .u8 c.toNat]) h
  | .clear z, [s], h =>
    match s with
    | .nilslice => some (.tuple [], h)
    | .slice b es1 i n _ _ =>
      if n = 0 then some (.tuple [], h) else
      match h[b]? with
      | some (.row es els true ap) => if es1 = z.length ∧ es = z.length ∧ i + n ≤ els.length ∧ z.all AV.scalar then some (.tuple [], h.set b (.row es (putEls els i (List.replicate n z)) true ap)) else none
      | _ => none
    | _ => none
  | .mapUpdate kd, [.map b, k, v], h =>
    match h[b]? with
    | some (.map es) =>
      match findA kd k es with
      | some (some (i, _)) => some (.tuple [], h.set b (.map (es.set i (k, v))))
      | some none => some (.tuple [], h.set b (.map (es ++ [(k, v)])))
      | none => none
    | _ => none
  | .delete kd, [.map b, k], h =>
    match h[b]? with
    | some (.map es) =>
      match findA kd k es with
      | some (some (i, _)) => some (.tuple [], h.set b (.map (es.eraseIdx i)))
      | some none => some (.tuple [], h)
      | none => none
    | _ => none
  | _, _, _ => none

def evalH (cf : FuncId → List AV → M AV) : HOp → List AV → M AV
  | .call f, vs, h => cf f vs h
  | .callV, .func f cs :: vs, h => cf f (vs ++ cs) h
  | op, vs, h => evalHeap op vs h

inductive Opd where
  | tmp (t : Nat)
  | lit (v : AV)
  deriving Inhabited

inductive SOp where
  | p (o : POp)
  | r (o : ROp)
  | a (o : AOp)
  | h (o : HOp)
  deriving Inhabited

/-- An operation in its place: 'gd': the slot that guards it, and what it must hold. -/
structure SOper where
  dst : Option Nat
  op : SOp
  args : List Opd
  gd : Option (Nat × Bool)
  deriving Inhabited

abbrev Env := List AV

def ev (env : Env) : Opd → AV
  | .tmp t => env.getD t .undef
  | .lit v => v

def Env.put (env : Env) (d : Option Nat) (v : AV) : Env :=
  match d with
  | some d => env.set d v
  | none => env

def evalOp (cf : FuncId → List AV → M AV) (op : SOp) (vs : List AV) : M AV := fun h =>
  match op with
  | .p o => (evalP o vs).map fun v => (v, h)
  | .r o => (evalR o vs h).map fun v => (v, h)
  | .a o => (evalA o vs).map fun (blk, k) => (k h.length, h ++ [blk])
  | .h o => evalH cf o vs h

/-- Is the operation carried out? -/
def wantsOp (env : Env) : Option (Nat × Bool) → Option Bool
  | none => some true
  | some (g, want) =>
    match env.getD g .undef with
    | .bool b => some (b == want)
    | .tuple [] => some false
    | _ => none

def stepOp (cf : FuncId → List AV → M AV) (o : SOper) : Env → M Env := fun env h =>
  match wantsOp env o.gd with
  | some true => (evalOp cf o.op (o.args.map (ev env)) h).map fun (v, h') => (env.put o.dst v, h')
  | some false => some (env.put o.dst (.tuple []), h)
  | none => none

def stepOps (cf : FuncId → List AV → M AV) : List SOper → Env → M Env
  | [], env, h => some (env, h)
  | o :: os, env, h =>
    match stepOp cf o env h with
    | some (env', h') => stepOps cf os env' h'
    | none => none

end Go.Eng
