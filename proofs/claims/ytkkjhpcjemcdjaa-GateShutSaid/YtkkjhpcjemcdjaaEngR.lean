/- The engine, part R: evaluation by rewriting. -/
import Derived.Test.YtkkjhpcjemcdjaaEngO
set_option linter.unusedVariables false
set_option linter.unusedSimpArgs false
namespace Go.Eng
open Go

section
variable {cf : FuncId → List AV → M AV} {lp : Looper}

def opsK (cf : FuncId → List AV → M AV) (os : List SOper) : Option (Env × H) → Option (Env × H)
  | some (e, h) => stepOps cf os e h
  | none => none
def putK (d : Option Nat) (env : Env) : Option (AV × H) → Option (Env × H)
  | some (v, h) => some (env.put d v, h)
  | none => none
def gdK (cf : FuncId → List AV → M AV) (d : Option Nat) (op : SOp) (args : List Opd) (env : Env) (h : H) (w : Bool) : AV → Option (Env × H)
  | .bool b => if b == w then putK d env (evalOp cf op (args.map (ev env)) h) else some (env.put d (.tuple []), h)
  | .tuple [] => some (env.put d (.tuple []), h)
  | _ => none
def liftP (h : H) : Option AV → Option (AV × H)
  | some v => some (v, h)
  | none => none
def liftA (h : H) : Option (Blk × (Nat → AV)) → Option (AV × H)
  | some (b, k) => some (k h.length, h ++ [b])
  | none => none
def condK (cf : FuncId → List AV → M AV) (lp : Looper) (a b : SCode) (env : Env) (h : H) : AV → Option ((Ex × Env) × H)
  | .bool true => exec cf lp a env h
  | .bool false => exec cf lp b env h
  | _ => none
def regK : Option (Env × H) → Option ((Ex × Env) × H)
  | some (e, h) => some ((.normal, e), h)
  | none => none

@[simp] theorem opsK_some {os : List SOper} {e : Env} {h : H} : opsK cf os (some (e, h)) = stepOps cf os e h := rfl
@[simp] theorem putK_some {d : Option Nat} {env : Env} {v : AV} {h : H} : putK d env (some (v, h)) = some (env.put d v, h) := rfl
@[simp] theorem liftP_some {h : H} {v : AV} : liftP h (some v) = some (v, h) := rfl
@[simp] theorem liftA_some {h : H} {b : Blk} {k : Nat → AV} : liftA h (some (b, k)) = some (k h.length, h ++ [b]) := rfl
@[simp] theorem regK_some {e : Env} {h : H} : regK (some (e, h)) = some ((.normal, e), h) := rfl
@[simp] theorem condK_true {a b : SCode} {env : Env} {h : H} : condK cf lp a b env h (.bool true) = exec cf lp a env h := rfl
@[simp] theorem condK_false {a b : SCode} {env : Env} {h : H} : condK cf lp a b env h (.bool false) = exec cf lp b env h := rfl
@[simp] theorem gdK_tt {d : Option Nat} {op : SOp} {args : List Opd} {env : Env} {h : H} : gdK cf d op args env h true (.bool true) = putK d env (evalOp cf op (args.map (ev env)) h) := rfl
@[simp] theorem gdK_ff {d : Option Nat} {op : SOp} {args : List Opd} {env : Env} {h : H} : gdK cf d op args env h false (.bool false) = putK d env (evalOp cf op (args.map (ev env)) h) := rfl
@[simp] theorem gdK_tf {d : Option Nat} {op : SOp} {args : List Opd} {env : Env} {h : H} : gdK cf d op args env h true (.bool false) = some (env.put d (.tuple []), h) := rfl
@[simp] theorem gdK_ft {d : Option Nat} {op : SOp} {args : List Opd} {env : Env} {h : H} : gdK cf d op args env h false (.bool true) = some (env.put d (.tuple []), h) := rfl
@[simp] theorem gdK_no {d : Option Nat} {op : SOp} {args : List Opd} {env : Env} {h : H} {w : Bool} : gdK cf d op args env h w (.tuple []) = some (env.put d (.tuple []), h) := rfl
@[simp] theorem seqK_normal {k : Env → M (Ex × Env)} {e : Env} {h : H} : seqK k (some ((.normal, e), h)) = k e h := rfl
@[simp] theorem seqK_exit {k : Env → M (Ex × Env)} {e : Env} {h : H} {i : Nat} : seqK k (some ((.exit i, e), h)) = some ((.exit i, e), h) := rfl
@[simp] theorem seqK_ret {k : Env → M (Ex × Env)} {e : Env} {h : H} : seqK k (some ((.ret, e), h)) = some ((.ret, e), h) := rfl
@[simp] theorem blockK_normal {i : Nat} {e : Env} {h : H} : blockK i (some ((.normal, e), h)) = some ((.normal, e), h) := rfl
@[simp] theorem blockK_ret {i : Nat} {e : Env} {h : H} : blockK i (some ((.ret, e), h)) = some ((.ret, e), h) := rfl
@[simp] theorem blockK_exit {i j : Nat} {e : Env} {h : H} : blockK i (some ((.exit j, e), h)) = if j = i then some ((.normal, e), h) else some ((.exit j, e), h) := rfl
@[simp] theorem endFn_ret {res : List SRes} {e : Env} {h : H} : endFn res (some ((.ret, e), h)) = (resVals e h res).map fun l => (resOf l, h) := rfl
@[simp] theorem endFn_normal {res : List SRes} {e : Env} {h : H} : endFn res (some ((.normal, e), h)) = (resVals e h res).map fun l => (resOf l, h) := rfl

theorem ops_nil {e : Env} {h : H} : stepOps cf [] e h = some (e, h) := rfl
theorem ops_cons {d : Option Nat} {op : SOp} {args : List Opd} {os : List SOper} {e : Env} {h : H} : stepOps cf (⟨d, op, args, none⟩ :: os) e h = opsK cf os (putK d e (evalOp cf op (args.map (ev e)) h)) := by
  simp only [stepOps, stepOp, wantsOp]
  cases evalOp cf op (args.map (ev e)) h with
  | none => rfl
  | some p => obtain ⟨v, h'⟩ := p; rfl
theorem ops_cons_gd {d : Option Nat} {op : SOp} {args : List Opd} {g : Nat} {w : Bool} {os : List SOper} {e : Env} {h : H} : stepOps cf (⟨d, op, args, some (g, w)⟩ :: os) e h = opsK cf os (gdK cf d op args e h w (e.getD g .undef)) := by
  simp only [stepOps, stepOp, wantsOp]
  generalize e.getD g .undef = x
  cases x with
  | bool b =>
    simp only [gdK]
    cases hb : b == w with
    | true =>
      cases evalOp cf op (args.map (ev e)) h with
      | none => simp [putK, opsK]
      | some p => obtain ⟨v, h'⟩ := p; simp [putK, opsK]
    | false => simp [opsK]
  | tuple l =>
    cases l with
    | nil => simp [gdK, opsK]
    | cons a l => simp [gdK, opsK]
  | _ => simp [gdK, opsK]
theorem evalOp_p {o : POp} {vs : List AV} {h : H} : evalOp cf (.p o) vs h = liftP h (evalP o vs) := by simp only [evalOp]; cases evalP o vs <;> rfl
theorem evalOp_r {o : ROp} {vs : List AV} {h : H} : evalOp cf (.r o) vs h = liftP h (evalR o vs h) := by simp only [evalOp]; cases evalR o vs h <;> rfl
theorem evalOp_a {o : AOp} {vs : List AV} {h : H} : evalOp cf (.a o) vs h = liftA h (evalA o vs) := by
  simp only [evalOp]
  cases evalA o vs with
  | none => rfl
  | some p => obtain ⟨b, k⟩ := p; rfl
theorem evalOp_call {f : FuncId} {vs : List AV} {h : H} : evalOp cf (.h (.call f)) vs h = cf f vs h := rfl
theorem evalOp_callV {f : FuncId} {cs vs : List AV} {h : H} : evalOp cf (.h .callV) (.func f cs :: vs) h = cf f (vs ++ cs) h := rfl
theorem evalOp_store {n : Nat} {vs : List AV} {h : H} : evalOp cf (.h (.store n)) vs h = evalHeap (.store n) vs h := rfl
theorem evalOp_append {n : Nat} {k : Bool} {vs : List AV} {h : H} : evalOp cf (.h (.append n k)) vs h = evalHeap (.append n k) vs h := rfl
theorem evalOp_clear {z : List AV} {vs : List AV} {h : H} : evalOp cf (.h (.clear z)) vs h = evalHeap (.clear z) vs h := rfl
theorem evalOp_mapUpdate {k : Leaf} {vs : List AV} {h : H} : evalOp cf (.h (.mapUpdate k)) vs h = evalHeap (.mapUpdate k) vs h := rfl
theorem evalOp_delete {k : Leaf} {vs : List AV} {h : H} : evalOp cf (.h (.delete k)) vs h = evalHeap (.delete k) vs h := rfl
theorem exec_reg {os : List SOper} {e : Env} {h : H} : exec cf lp (.reg os) e h = regK (stepOps cf os e h) := by
  simp only [exec]
  cases stepOps cf os e h with
  | none => rfl
  | some p => obtain ⟨e1, h1⟩ := p; rfl
theorem exec_dreg {ss : List Stage} {e : Env} {h : H} : exec cf lp (.dreg ss) e h = regK (stepStages cf ss e h) := by
  simp only [exec]
  cases stepStages cf ss e h with
  | none => rfl
  | some p => obtain ⟨e1, h1⟩ := p; rfl
theorem exec_seq {a b : SCode} {e : Env} {h : H} : exec cf lp (.seq a b) e h = seqK (exec cf lp b) (exec cf lp a e h) := rfl
theorem exec_cond {c : Opd} {a b : SCode} {e : Env} {h : H} : exec cf lp (.cond c a b) e h = condK cf lp a b e h (ev e c) := by
  simp only [exec]
  cases ev e c with
  | bool b => cases b <;> rfl
  | _ => rfl
theorem exec_block {i : Nat} {a : SCode} {e : Env} {h : H} : exec cf lp (.block i a) e h = blockK i (exec cf lp a e h) := rfl
theorem exec_scope {a : SCode} {e : Env} {h : H} : exec cf lp (.scope a) e h = exec cf lp a e h := rfl
theorem exec_exit {i : Nat} {e : Env} {h : H} : exec cf lp (.exit i) e h = some ((.exit i, e), h) := rfl
theorem exec_ret {e : Env} {h : H} : exec cf lp .ret e h = some ((.ret, e), h) := rfl
theorem exec_skip {e : Env} {h : H} : exec cf lp .skip e h = some ((.normal, e), h) := rfl
theorem exec_loop {l : List Nat} {a : SCode} {e : Env} {h : H} : exec cf lp (.loop l a) e h = lp (fun env => exec cf lp a (keepFrom l 0 env)) e h := rfl
theorem ev_tmp {e : Env} {t : Nat} : ev e (.tmp t) = e.getD t .undef := rfl
theorem ev_lit {e : Env} {v : AV} : ev e (.lit v) = v := rfl
theorem put_some {e : Env} {d : Nat} {v : AV} : Env.put e (some d) v = e.set d v := rfl
theorem put_none {e : Env} {v : AV} : Env.put e none v = e := rfl

/-! Regions that draw their order. -/
def stgK (cf : FuncId → List AV → M AV) (ss : List Stage) : Option (Env × H) → Option (Env × H)
  | some (e, h) => stepStages cf ss e h
  | none => none
def chkK (cf : FuncId → List AV → M AV) (chk : List SOper) (heavy : List SOper) (ss : List Stage) : Option (Env × H) → Option (Env × H)
  | some (e, h) => if chk.all (fun o => recheck o e h) = true then stgK cf ss (stepOps cf heavy e h) else none
  | none => none
@[simp] theorem stgK_some {ss : List Stage} {e : Env} {h : H} : stgK cf ss (some (e, h)) = stepStages cf ss e h := rfl
@[simp] theorem chkK_some {chk heavy : List SOper} {ss : List Stage} {e : Env} {h : H} : chkK cf chk heavy ss (some (e, h)) = if chk.all (fun o => recheck o e h) = true then stgK cf ss (stepOps cf heavy e h) else none := rfl
theorem stages_nil {e : Env} {h : H} : stepStages cf [] e h = some (e, h) := rfl
theorem stages_cons_n {pre chk : List SOper} {ss : List Stage} {e : Env} {h : H} : stepStages cf (⟨pre, chk, none⟩ :: ss) e h = chkK cf chk [] ss (stepOps cf pre e h) := by
  simp only [stepStages]
  cases stepOps cf pre e h with
  | none => rfl
  | some p => obtain ⟨e1, h1⟩ := p; rfl
theorem stages_cons_h {pre chk : List SOper} {o : SOper} {ss : List Stage} {e : Env} {h : H} : stepStages cf (⟨pre, chk, some o⟩ :: ss) e h = chkK cf chk [o] ss (stepOps cf pre e h) := by
  simp only [stepStages]
  cases stepOps cf pre e h with
  | none => rfl
  | some p =>
    obtain ⟨e1, h1⟩ := p
    simp only [chkK_some]
    split
    · simp only [stepOps]
      cases stepOp cf o e1 h1 with
      | none => rfl
      | some p => obtain ⟨e2, h2⟩ := p; rfl
    · rfl

/-! Blocks that stand. -/
theorem get_app {h k : H} {b : Nat} {x : Blk} (hx : h[b]? = some x) : (h ++ k)[b]? = some x := by rw [List.getElem?_append_left (List.getElem?_eq_some_iff.1 hx).1]; exact hx
theorem set_app {h k : H} {b : Nat} {x y : Blk} (hx : h[b]? = some x) : (h ++ k).set b y = h.set b y ++ k := List.set_append_left b y (List.getElem?_eq_some_iff.1 hx).1
theorem get_set_same {h : H} {b : Nat} {x y : Blk} (hx : h[b]? = some x) : (h.set b y)[b]? = some y := List.getElem?_set_self (List.getElem?_eq_some_iff.1 hx).1
theorem get_set_app {h k : H} {b : Nat} {x y : Blk} (hx : h[b]? = some x) : (h.set b y ++ k)[b]? = some y := get_app (get_set_same hx)
theorem set_set_app {h k : H} {b : Nat} {x y z : Blk} (hx : h[b]? = some x) : (h.set b y ++ k).set b z = h.set b z ++ k := by rw [set_app (get_set_same hx), List.set_set]
theorem len_beq {h : H} {b : Nat} {x : Blk} (hx : h[b]? = some x) : (h.length = b) = False := by
  have := (List.getElem?_eq_some_iff.1 hx).1
  simp; omega
theorem beq_len {h : H} {b : Nat} {x : Blk} (hx : h[b]? = some x) : (b = h.length) = False := by
  have := (List.getElem?_eq_some_iff.1 hx).1
  simp; omega
end
end Go.Eng
