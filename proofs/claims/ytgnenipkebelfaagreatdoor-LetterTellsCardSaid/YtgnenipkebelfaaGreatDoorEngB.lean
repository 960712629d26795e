/- The engine, part B: statements and calls of the abstract machine, and the translation of the program's code into it. -/
import Derived.Test.YtgnenipkebelfaaGreatDoorEngA
set_option linter.unusedVariables false
set_option linter.unusedSimpArgs false
namespace Go.Eng

mutual
/-- Are two values surely the same? -/
def AV.same : AV → AV → Bool
  | .bool a, .bool b => a == b
  | .int k a, .int k' b => k == k' && a == b
  | .str a, .str b => a == b
  | .nilptr, .nilptr => true
  | .ptr b i j, .ptr b' i' j' => b == b' && i == i' && j == j'
  | .nilslice, .nilslice => true
  | .slice b e i n c x, .slice b' e' i' n' c' x' => b == b' && e == e' && i == i' && n == n' && c == c' && x == x'
  | .nilmap, .nilmap => true
  | .map b, .map b' => b == b'
  | .nilfunc, .nilfunc => true
  | .func f cs, .func f' cs' => f == f' && sames cs cs'
  | .agg l, .agg m => sames l m
  | .tuple l, .tuple m => sames l m
  | _, _ => false
def sames : List AV → List AV → Bool
  | [], [] => true
  | a :: l, b :: m => AV.same a b && sames l m
  | _, _ => false
end

/-- A stage of a region that draws its order: what is done, which reads are done anew, and the heavy operation that ends it. -/
structure Stage where
  pre : List SOper
  chk : List SOper
  heavy : Option SOper
  deriving Inhabited

inductive SCode where
  | skip
  | reg (ops : List SOper)
  | dreg (sts : List Stage)
  | seq (a b : SCode)
  | cond (c : Opd) (a b : SCode)
  | block (id : Nat) (a : SCode)
  | loop (live : List Nat) (a : SCode)
  | exit (id : Nat)
  | scope (a : SCode)
  | ret
  deriving Inhabited

inductive Ex where
  | normal
  | exit (id : Nat)
  | ret
  deriving DecidableEq, Repr, Inhabited

/-- A read that is done anew must tell the same. -/
def recheck (o : SOper) (env : Env) (h : H) : Bool :=
  match wantsOp env o.gd with
  | some true =>
    match o.op, o.dst with
    | .r op, some d =>
      match evalR op (o.args.map (ev env)) h with
      | some v => AV.same v (env.getD d .undef)
      | none => false
    | _, _ => false
  | some false => true
  | none => false

def stepStages (cf : FuncId → List AV → M AV) : List Stage → Env → M Env
  | [], env, h => some (env, h)
  | s :: ss, env, h =>
    match stepOps cf s.pre env h with
    | none => none
    | some (env, h) =>
      if s.chk.all (fun o => recheck o env h) then
        match s.heavy with
        | none => stepStages cf ss env h
        | some o =>
          match stepOp cf o env h with
          | none => none
          | some (env, h) => stepStages cf ss env h
      else none

/-- What is not named is forgotten. -/
def keepFrom (live : List Nat) : Nat → Env → Env
  | _, [] => []
  | i, v :: env =>
    match live with
    | [] => .undef :: keepFrom [] (i + 1) env
    | l :: ls => if l = i then v :: keepFrom ls (i + 1) env else .undef :: keepFrom (l :: ls) (i + 1) env

def iter (f : Env → M (Ex × Env)) : Nat → Env → M (Ex × Env)
  | 0, _, _ => none
  | n + 1, env, h =>
    match f env h with
    | some ((.normal, env'), h') => iter f n env' h'
    | r => r

/-- How loops are run. -/
abbrev Looper := (Env → M (Ex × Env)) → Env → M (Ex × Env)
def itn (n : Nat) : Looper := fun f env h => iter f n env h

/-- A statement behind another one. -/
def seqK (k : Env → M (Ex × Env)) : Option ((Ex × Env) × H) → Option ((Ex × Env) × H)
  | some ((.normal, env), h) => k env h
  | r => r
def blockK (id : Nat) : Option ((Ex × Env) × H) → Option ((Ex × Env) × H)
  | some ((.exit id', env), h) => if id' = id then some ((.normal, env), h) else some ((.exit id', env), h)
  | r => r

def exec (cf : FuncId → List AV → M AV) (lp : Looper) : SCode → Env → M (Ex × Env)
  | .skip, env, h => some ((.normal, env), h)
  | .reg ops, env, h => (stepOps cf ops env h).map fun p => ((.normal, p.1), p.2)
  | .dreg sts, env, h => (stepStages cf sts env h).map fun p => ((.normal, p.1), p.2)
  | .seq a b, env, h => seqK (exec cf lp b) (exec cf lp a env h)
  | .cond c a b, env, h =>
    match ev env c with
    | .bool true => exec cf lp a env h
    | .bool false => exec cf lp b env h
    | _ => none
  | .block id a, env, h => blockK id (exec cf lp a env h)
  | .loop live a, env, h => lp (fun env => exec cf lp a (keepFrom live 0 env)) env h
  | .exit id, env, h => some ((.exit id, env), h)
  | .scope a, env, h => exec cf lp a env h
  | .ret, env, h => some ((.ret, env), h)

inductive SRes where
  | tmp (t : Nat)
  | cell (a : Nat) (n : Option Nat)
  deriving Inhabited

structure SFunc where
  np : Nat
  nt : Nat
  body : SCode
  res : List SRes
  deriving Inhabited

def resVal (env : Env) (h : H) : SRes → Option AV
  | .tmp t => some (env.getD t .undef)
  | .cell a n => evalR (.load n) [env.getD a .undef] h

def resVals (env : Env) (h : H) : List SRes → Option (List AV)
  | [] => some []
  | r :: rs =>
    match resVal env h r with
    | some v => (resVals env h rs).map (v :: ·)
    | none => none

def resOf (l : List AV) : AV :=
  match l with
  | [v] => v
  | l => .tuple l

def endFn (res : List SRes) : Option ((Ex × Env) × H) → Option (AV × H)
  | some ((.exit _, _), _) => none
  | some ((_, env), h') => (resVals env h' res).map fun l => (resOf l, h')
  | none => none

def runFn (cf : FuncId → List AV → M AV) (lp : Looper) (f : SFunc) (vs : List AV) : M AV := fun h =>
  if vs.length = f.np then endFn f.res (exec cf lp f.body (vs ++ List.replicate (f.nt - f.np) (.tuple [])) h) else none

/-- Calls, n deep. 'ex': what is known of functions that are not run. -/
def callN (fs : FuncId → Option SFunc) (ex : FuncId → List AV → M AV) : Nat → FuncId → List AV → M AV
  | 0, f, vs, h =>
    match fs f with
    | some _ => none
    | none => ex f vs h
  | n + 1, f, vs, h =>
    match fs f with
    | some sf => runFn (callN fs ex n) (itn n) sf vs h
    | none => ex f vs h

def noEx : FuncId → List AV → M AV := fun _ _ _ => none

/-! ### The translation -/

mutual
def absV : Value → Option AV
  | .bool b => some (.bool b)
  | .int k n => some (.int k n)
  | .string s => some (.str s.data.toList)
  | .pointer none => some .nilptr
  | .slice none 0 0 => some .nilslice
  | .map none => some .nilmap
  | .nilFunc => some .nilfunc
  | .nilIface => some .undef
  | .agg ⟨cs⟩ => (absVs cs).map .agg
  | .tuple ⟨cs⟩ => (absVs cs).map .tuple
  | _ => none
def absVs : List Value → Option (List AV)
  | [] => some []
  | v :: vs =>
    match absV v with
    | some a => (absVs vs).map (a :: ·)
    | none => none
end

def cOpd : Operand → Option Opd
  | .tmp t => some (.tmp t)
  | .const v => (absV v).map .lit
  | .func f => some (.lit (.func f []))
  | .global _ => none

def cOpds : List Operand → Option (List Opd)
  | [] => some []
  | x :: xs =>
    match cOpd x with
    | some a => (cOpds xs).map (a :: ·)
    | none => none

/-- The cells of a type's zero. -/
def zeroOf (P : Program) (t : TypeId) : Option (List AV) :=
  match (P.info? t).map (·.zero) with
  | some (some v) => (absV v).bind AV.cells
  | _ => none

def isAggT (P : Program) (t : TypeId) : Option Bool :=
  match P.underlying t with
  | some (.struct _) | some (.array _ _) => some true
  | some _ => some false
  | none => none

/-- How a variable of a type is loaded: none: one cell. -/
def loadAs (P : Program) (t : TypeId) : Option (Option Nat) :=
  match isAggT P t with
  | some true => (P.info? t).map fun i => some i.size
  | some false => (P.info? t).map fun _ => none
  | none => none

def fieldLeaves (lv : TypeId → Option (List Leaf)) : List Field → Nat → Option (List Leaf)
  | [], _ => some []
  | f :: fs, off =>
    if f.name = "_" ∨ f.offset ≠ off then none else
    match lv f.type with
    | some ks => (fieldLeaves lv fs (off + ks.length)).map (ks ++ ·)
    | none => none

/-- The leaves of a type that is compared cell by cell. -/
def leavesOf (P : Program) : Nat → TypeId → Option (List Leaf)
  | 0, _ => none
  | d + 1, t =>
    match P.underlying t with
    | some .bool => if P.cellsOf t = 1 then some [.bool] else none
    | some (.int _) => if P.cellsOf t = 1 then some [.int] else none
    | some .string => if P.cellsOf t = 1 then some [.str] else none
    | some (.struct fs) =>
      if P.stoodInHeld t then none else
      match fieldLeaves (leavesOf P d) fs.toList 0 with
      | some ks => if ks.length = P.cellsOf t then some ks else none
      | none => none
    | _ => none

def eqShape (P : Program) (t : TypeId) : Option EqShape :=
  match P.underlying t with
  | some .bool => some .bool
  | some (.pointer _) => some .ptr
  | some (.slice _) => some .slice
  | some (.map _ _) => some .map
  | some (.func _ _ _) => some .func
  | some (.struct _) => if P.eqGuardType P.depth t then none else (leavesOf P 20 t).map .agg
  | _ => none

def keyLeaf (P : Program) (k : TypeId) : Option Leaf :=
  match P.underlying k with
  | some (.int _) => some .int
  | some .string => some .str
  | _ => none

/-- May the function be called: it has a body, and is none that the model has of its own. -/
def fnOk (P : Program) (f : FuncId) : Bool :=
  match P.funcs[f]? with
  | some fn => fn.name != "runtime.NumGoroutine" && fn.body.isSome
  | none => false

def fieldOf (P : Program) (s : TypeId) (i : Nat) : Option Field :=
  match P.underlying s with
  | some (.struct fs) => fs[i]?
  | _ => none

def cCall (P : Program) (keep : Bool) (c : Call) : Option (SOp × List Operand) :=
  match c.callee with
  | .value (.func f) => if fnOk P f then some (.h (.call f), c.args.toList) else none
  | .value (.tmp t) => some (.h .callV, .tmp t :: c.args.toList)
  | .builtin b =>
    let t0 := c.argTypes.getD 0 0
    let args := c.args.toList
    match b with
    | .len =>
      match P.underlying t0 with
      | some .string => if c.argTypes.size = 0 then none else some (.p .lenStr, args)
      | some (.slice _) => if c.argTypes.size = 0 then none else some (.p .lenSl, args)
      | some (.map _ _) => if c.argTypes.size = 0 then none else some (.r .lenMap, args)
      | _ => none
    | .append =>
      if c.argTypes.size < 2 then none else
      match P.underlying t0, (P.underlying (c.argTypes.getD 1 0)) with
      | some (.slice e), some (.slice _) =>
        if P.cellsOf e = 0 ∨ P.bytesOf e = 0 ∨ P.bytesOf e > 4096 ∨ P.bytesOf e > 24 * P.cellsOf e ∨ (zeroOf P e).map List.length ≠ some (P.cellsOf e) then none else some (.h (.append (P.cellsOf e) keep), args)
      | some (.slice e), some .string =>
        if P.cellsOf e = 1 ∧ P.bytesOf e = 1 ∧ (zeroOf P e).map List.length = some 1 then some (.h (.appendStr keep), args) else none
      | _, _ => none
    | .min => some (.p .min, args)
    | .max => some (.p .max, args)
    | .clear =>
      if c.argTypes.size = 0 then none else
      match P.underlying t0 with
      | some (.slice e) => (zeroOf P e).bind fun z => if z.length = P.cellsOf e ∧ z.length ≠ 0 then some (.h (.clear z), args) else none
      | _ => none
    | .delete =>
      if c.argTypes.size = 0 then none else
      match P.underlying t0 with
      | some (.map k _) => (keyLeaf P k).map fun kd => (.h (.delete kd), args)
      | _ => none
    | _ => none
  | _ => none

def isBld : List AV → Bool
  | [.nilptr, .nilslice] => true
  | _ => false
theorem isBld_eq {z : List AV} (h : isBld z = true) : z = [.nilptr, .nilslice] := by
  unfold isBld at h
  split at h
  · rfl
  · cases h
/-- How a new variable is made. -/
def cAlloc (t : TypeId) (z : List AV) : Option AOp :=
  if bldTy = some t then (if isBld z = true then some .newBld else none) else if z.length = 0 then none else some (.alloc z)

def cOp (P : Program) (keep : Bool) (o : Op) : Option (SOp × List Operand) :=
  let pass (x : SOp) : Option (SOp × List Operand) := some (x, o.operands.toList)
  match o with
  | .move _ | .assign _ => pass (.p .move)
  | .pick .. => pass (.p .pick)
  | .alloc t => (zeroOf P t).bind fun z => (cAlloc t z).bind fun a => pass (.a a)
  | .box t _ => if P.cellsOf t = 0 then none else pass (.a .box)
  | .build t ps =>
    match P.underlying t with
    | some (.struct fs) => if !(fs.toList.all fun f => (P.info? f.type).isSome) then none else (zeroOf P t).bind fun z => ((ps.toList.mapM fun p => (fs[p.1]?).map fun (f : Field) => (f.offset, P.cellsOf f.type))).bind fun l => pass (.p (.build z l))
    | _ => none
  | .buildSlice t len ps =>
    match P.underlying t with
    | some (.slice e) =>
      (zeroOf P e).bind fun z => if z.length = P.cellsOf e ∧ z.length ≠ 0 ∧ len * P.cellsOf e ≤ 16777216 then pass (.a (.buildSlice (P.cellsOf e) len z (ps.toList.map (·.1)))) else none
    | _ => none
  | .load t _ => (loadAs P t).bind fun n => pass (.r (.load n))
  | .store t _ _ => if P.cellsOf t = 0 then none else pass (.h (.store (P.cellsOf t)))
  | .nilCheck _ => pass (.p .nilCheck)
  | .binOp op xt _ _ _ =>
    match P.underlying xt with
    | some (.int _) | some .string => pass (.p (.bin op))
    | some _ =>
      match op with
      | .eql => (eqShape P xt).bind fun s => pass (.p (.eq false s))
      | .neq => (eqShape P xt).bind fun s => pass (.p (.eq true s))
      | _ => none
    | none => none
  | .unOp op _ _ => match op with | .neg => pass (.p .neg) | .xor => pass (.p .inv) | .not => pass (.p .not) | .plus => none
  | .convert src dst _ =>
    match P.underlying src, P.underlying dst with
    | some (.int _), some (.int k) => pass (.p (.convInt k))
    | some .string, some .string => pass (.p .convStr)
    | some .string, some (.slice e) => match P.underlying e with | some (.int .u8) => if P.cellsOf e = 1 then pass (.a .toBytes) else none | _ => none
    | some (.slice e), some .string => match P.underlying e with | some (.int .u8) => if P.cellsOf e = 1 then pass (.r .toStr) else none | _ => none
    | _, _ => none
  | .makeFunc fn first caps => match fn with | .func f => (if first.size = 0 then some (.p (.mkfn f), caps.toList) else none) | _ => none
  | .makeMap _ r => match r with | none => pass (.a .makeMap) | some _ => none
  | .makeSlice t _ _ =>
    match P.underlying t with
    | some (.slice e) => (zeroOf P e).bind fun z => if z.length = P.cellsOf e ∧ z.length ≠ 0 ∧ P.bytesOf e ≤ 4096 then pass (.a (.makeSlice z)) else none
    | _ => none
  | .slice t _ lo hi mx =>
    match P.underlying t with
    | some .string => if mx.isSome then none else pass (.p (.sliceStr lo.isSome hi.isSome))
    | some (.slice e) => if P.cellsOf e = 0 ∨ (mx.isSome && !hi.isSome) then none else pass (.p (.sliceSl (P.cellsOf e) lo.isSome hi.isSome mx.isSome))
    | _ => none
  | .fieldAddr s _ i => (fieldOf P s i).bind fun f => if P.cellsOf f.type = 0 then none else pass (.p (.fieldAddr f.offset))
  | .field s _ i => (fieldOf P s i).bind fun f => (loadAs P f.type).bind fun n => pass (.p (.field f.offset n))
  | .indexAddr t _ _ =>
    match P.underlying t with
    | some (.slice e) => if P.cellsOf e = 0 then none else pass (.p (.indexAddr (P.cellsOf e)))
    | _ => none
  | .index t _ _ => match P.underlying t with | some .string => pass (.p .indexStr) | _ => none
  | .lookup t _ _ ok =>
    match P.underlying t with
    | some (.map k e) =>
      match keyLeaf P k with
      | some kd => match (P.info? e).map (·.zero) with | some (some v) => (absV v).bind fun z => pass (.r (.lookup kd z ok)) | _ => none
      | none => none
    | _ => none
  | .mapUpdate t _ _ _ =>
    match P.underlying t with
    | some (.map k _) => (keyLeaf P k).bind fun kd => pass (.h (.mapUpdate kd))
    | _ => none
  | .extract _ i => pass (.p (.extract i))
  | .call c => cCall P keep c
  | _ => none

def cOper (P : Program) (keep : Bool) (ops : Array Oper) (o : Oper) : Option SOper :=
  match cOp P keep o.op with
  | none => none
  | some (s, xs) =>
    match cOpds xs with
    | none => none
    | some as =>
      match o.guard with
      | none => some ⟨o.dst, s, as, none⟩
      | some (g, w) =>
        match (ops[g]?).bind (·.dst) with
        | some d => some ⟨o.dst, s, as, some (d, w)⟩
        | none => none

def SOper.heavy (o : SOper) : Bool := match o.op with | .h _ => true | _ => false
def SOper.isRead (o : SOper) : Bool := match o.op with | .r _ => true | _ => false

def depsOf (o : Oper) : List Nat := (o.after.toList.filter (Region.binds .any)).map (fun (e : Edge) => e.on)

/-- For each operation all that must come before it (a guess that 'plOk' tries). -/
def predLists (ops : List Oper) : List (List Nat) :=
  ops.foldl (fun acc o => acc ++ [((depsOf o).foldl (fun s e => (e :: acc.getD e []).foldl (fun s i => if s.contains i then s else i :: s) s) [])]) []

def plAt (pl : List (List Nat)) (j : Nat) : List Nat := pl.getD j []

def readsSlots (o : SOper) : List Nat := (o.args.filterMap fun | .tmp t => some t | .lit _ => none) ++ (match o.gd with | some (d, _) => [d] | none => [])

/-- A stage, by numbers. -/
structure IStage where
  pre : List Nat
  chk : List Nat
  heavy : Option Nat
  deriving Inhabited

def heaviesOf (sops : List SOper) : List Nat := (sops.zipIdx.filter fun (o, _) => o.heavy).map (·.2)
def stageOf (pl : List (List Nat)) (hs : List Nat) (j : Nat) : Nat := (hs.filter fun i => (plAt pl j).contains i).length

def iStages (sops : List SOper) (pl : List (List Nat)) (hs : List Nat) : List IStage :=
  (List.range (hs.length + 1)).map fun k =>
    { pre := (sops.zipIdx.filter fun (o, j) => !o.heavy && stageOf pl hs j == k).map (·.2),
      chk := (sops.zipIdx.filter fun (o, j) => o.isRead && decide (stageOf pl hs j < k) && (hs.take k).all fun i => !(plAt pl i).contains j).map (·.2),
      heavy := hs[k]? }

def toStage (sops : List SOper) (s : IStage) : Stage :=
  { pre := s.pre.filterMap (sops[·]?), chk := s.chk.filterMap (sops[·]?), heavy := s.heavy.bind (sops[·]?) }

/-- What the lists of forerunners must be. -/
def plOk (ops : List Oper) (pl : List (List Nat)) : Bool :=
  ops.zipIdx.all fun (o, j) => (depsOf o).all (· < j) && (plAt pl j).all fun i => (depsOf o).contains i || (depsOf o).any fun e => (plAt pl e).contains i

def isHeavyAt (sops : List SOper) (i : Nat) : Bool := match sops[i]? with | some s => s.heavy | none => false
def isReadAt (sops : List SOper) (i : Nat) : Bool := match sops[i]? with | some s => s.isRead | none => false

/-- Each slot is written once, and what writes it stands in order to what looks at it. -/
def slotsOk (sops : List SOper) (pl : List (List Nat)) : Bool :=
  (sops.zipIdx.all fun (s, i) => sops.zipIdx.all fun (s', i') => i == i' || s.dst.isNone || s.dst != s'.dst) &&
  (sops.zipIdx.all fun (s, j) => sops.zipIdx.all fun (s', i) => match s'.dst with
    | some t => !(readsSlots s).contains t || (plAt pl j).contains i || (!s.isRead && (plAt pl i).contains j)
    | none => true)

/-- The operations of a stage, one behind another: each new, light, and behind its forerunners. -/
def preOk (sops : List SOper) (pl : List (List Nat)) : List Nat → List Nat → Option (List Nat)
  | X, [] => some X
  | X, j :: js => if !X.contains j && decide (j < sops.length) && !isHeavyAt sops j && (plAt pl j).all X.contains then preOk sops pl (j :: X) js else none

def stagesOk (sops : List SOper) (pl : List (List Nat)) : List Nat → List IStage → Bool
  | X, [] => (List.range sops.length).all X.contains
  | X, s :: ss =>
    match preOk sops pl X s.pre with
    | none => false
    | some Y =>
      -- all that may be done is done
      ((List.range sops.length).all fun j => isHeavyAt sops j || Y.contains j || (plAt pl j).any fun i => isHeavyAt sops i && !Y.contains i) &&
      -- the reads that may still come are done anew
      (X.all fun j => !isReadAt sops j || s.chk.contains j || (List.range sops.length).any fun i => isHeavyAt sops i && Y.contains i && (plAt pl i).contains j) &&
      (s.chk.all fun j => isReadAt sops j) &&
      match s.heavy with
      | none => ss.isEmpty && (List.range sops.length).all Y.contains
      | some i => isHeavyAt sops i && !Y.contains i && (plAt pl i).all Y.contains &&
          ((List.range sops.length).all fun k => !isHeavyAt sops k || Y.contains k || k == i || (plAt pl k).contains i) && !ss.isEmpty && stagesOk sops pl (i :: Y) ss

def cRegion (P : Program) (keep : Bool) (ops : Array Oper) (draw : Bool) : Option SCode :=
  match ops.toList.mapM (cOper P keep ops) with
  | none => none
  | some sops =>
    if draw then
      let pl := predLists ops.toList
      let hs := heaviesOf sops
      let is := iStages sops pl hs
      if P.follows .mixedOrders && plOk ops.toList pl && slotsOk sops pl && stagesOk sops pl [] is then some (.dreg (is.map (toStage sops))) else none
    else some (.reg sops)

/-! Which slots are looked at (a guess: nothing hangs on it but what is forgotten) -/
def slotsOf : SCode → List Nat
  | .reg ops => ops.flatMap readsSlots
  | .dreg sts => sts.flatMap fun s => (s.pre ++ s.chk ++ s.heavy.toList).flatMap readsSlots
  | .seq a b => slotsOf a ++ slotsOf b
  | .cond c a b => (match c with | .tmp t => [t] | .lit _ => []) ++ slotsOf a ++ slotsOf b
  | .block _ a | .scope a => slotsOf a
  | .loop l _ => l
  | _ => []

abbrev Bits := Nat
def bitsOf (l : List Nat) : Bits := l.foldl (fun s t => s ||| 2 ^ t) 0
def without (b : Bits) (l : List Nat) : Bits := l.foldl (fun s t => if s.testBit t then s - 2 ^ t else s) b

def liveOps (ops : List SOper) (out : Bits) : Bits :=
  ops.foldr (fun o b => without b o.dst.toList ||| bitsOf (readsSlots o)) out

def liveStages (sts : List Stage) (out : Bits) : Bits :=
  sts.foldr (fun s b => liveOps (s.pre ++ s.chk ++ s.heavy.toList) b) out

/-- The slots that are looked at from here on; 'out': behind it; 'ex': behind an exit; 'fin': behind a return. -/
def liveIn (fin : Bits) (ex : List (Nat × Bits)) : SCode → Bits → Bits
  | .skip, out => out
  | .reg ops, out => liveOps ops out
  | .dreg sts, out => liveStages sts out
  | .seq a b, out => liveIn fin ex a (liveIn fin ex b out)
  | .cond c a b, out => (match c with | .tmp t => 2 ^ t | .lit _ => 0) ||| liveIn fin ex a out ||| liveIn fin ex b out
  | .block id a, out => liveIn fin ((id, out) :: ex) a out
  | .loop _ a, out => let b := liveIn fin ex a 0; liveIn fin ex a b ||| (out &&& 0)
  | .exit id, _ => (ex.lookup id).getD 0
  | .scope a, out => liveIn fin ex a out
  | .ret, _ => fin

def slotList (n : Nat) (b : Bits) : List Nat := (List.range n).filter b.testBit

/-- Lays what each loop keeps. -/
def layLive (nt : Nat) (fin : Bits) (ex : List (Nat × Bits)) : SCode → Bits → SCode
  | .seq a b, out => .seq (layLive nt fin ex a (liveIn fin ex b out)) (layLive nt fin ex b out)
  | .cond c a b, out => .cond c (layLive nt fin ex a out) (layLive nt fin ex b out)
  | .block id a, out => .block id (layLive nt fin ((id, out) :: ex) a out)
  | .loop _ a, out =>
    let b := liveIn fin ex (.loop [] a) out
    .loop (slotList nt b) (layLive nt fin ex a b)
  | .scope a, out => .scope (layLive nt fin ex a out)
  | c, _ => c

def cCode (P : Program) (keep : Bool) : Code → Option SCode
  | .skip => some .skip
  | .label _ => some .skip
  | .region _ ops draw => cRegion P keep ops draw
  | .seq a b => match cCode P keep a, cCode P keep b with | some a, some b => some (.seq a b) | _, _ => none
  | .cond c a b => match cOpd c, cCode P keep a, cCode P keep b with | some c, some a, some b => some (.cond c a b) | _, _, _ => none
  | .block id a => (cCode P keep a).map (.block id)
  | .loop a => (cCode P keep a).map (.loop [])
  | .exit id => some (.exit id)
  | .scope a => (cCode P keep a).map .scope
  | .ret => some .ret
  | _ => none

def cRes (P : Program) : List ResultVar → Option (List SRes)
  | [] => some []
  | .tmp t :: r => (cRes P r).map (.tmp t :: ·)
  | .cell a t :: r =>
    match loadAs P t with
    | some n => (cRes P r).map (.cell a n :: ·)
    | none => none

def finBits (l : List SRes) : Bits := l.foldl (fun s r => s ||| 2 ^ (match r with | .tmp t => t | .cell a _ => a)) 0

def cFunc (P : Program) (keep : Bool) (np : Nat) (fn : Func) : Option SFunc :=
  match fn.body with
  | none => none
  | some c =>
    if fn.name = "runtime.NumGoroutine" then none else
    match cCode P keep c, cRes P fn.results.toList with
    | some sc, some rs => some ⟨np, fn.ntmps, layLive fn.ntmps (finBits rs) [] sc (finBits rs), rs⟩
    | _, _ => none

end Go.Eng
