/- The engine, part R: evaluation by rewriting. -/
import Derived.Test.YtgnenipkebelfaaGreatDoorEngO
set_option linter.unusedVariables false
set_option linter.unusedSimpArgs false
namespace Go.Eng
open Go

section
variable {cf : FuncId → List AV → M AV} {lp : Looper}

def opsK (cf : FuncId → List AV → M AV) (os : List SOper) : Option (Env × H) → Option (Env × H)
  | some (e, h) => stepOps cf os e h
  | none => none
def putK (d : Option Nat) (env : Env) : Option (AV × H) → Option (Env × H)
  | some (v, h) => some (env.put d v, h)
  | none => none
def gdK (cf : FuncId → List AV → M AV) (d : Option Nat) (op : SOp) (args : List Opd) (env : Env) (h : H) (w : Bool) : AV → Option (Env × H)
  | .bool b => if b == w then putK d env (evalOp cf op (args.map (ev env)) h) else some (env.put d (.tuple []), h)
  | .tuple [] => some (env.put d (.tuple []), h)
  | _ => none
def liftP (h : H) : Option AV → Option (AV × H)
  | some v => some (v, h)
  | none => none
def liftA (h : H) : Option (Blk × (Nat → AV)) → Option (AV × H)
  | some (b, k) => some (k h.length, h ++ [b])
  | none => none
def condK (cf : FuncId → List AV → M AV) (lp : Looper) (a b : SCode) (env : Env) (h : H) : AV → Option ((Ex × Env) × H)
  | .bool true => exec cf lp a env h
  | .bool false => exec cf lp b env h
  | _ => none
def regK : Option (Env × H) → Option ((Ex × Env) × H)
  | some (e, h) => some ((.normal, e), h)
  | none => none

@[simp] theorem opsK_some {os : List SOper} {e : Env} {h : H} : opsK cf os (some (e, h)) = stepOps cf os e h := rfl
@[simp] theorem putK_some {d : Option Nat} {env : Env} {v : AV} {h : H} : putK d env (some (v, h)) = some (env.put d v, h) := rfl
@[simp] theorem liftP_some {h : H} {v : AV} : liftP h (some v) = some (v, h) := rfl
@[simp] theorem liftA_some {h : H} {b : Blk} {k : Nat → AV} : liftA h (some (b, k)) = some (k h.length, h ++ [b]) := rfl
@[simp] theorem regK_some {e : Env} {h : H} : regK (some (e, h)) = some ((.normal, e), h) := rfl
@[simp] theorem condK_true {a b : SCode} {env : Env} {h : H} : condK cf lp a b env h (.bool true) = exec cf lp a env h := rfl
@[simp] theorem condK_false {a b : SCode} {env : Env} {h : H} : condK cf lp a b env h (.bool false) = exec cf lp b env h := rfl
@[simp] theorem gdK_tt {d : Option Nat} {op : SOp} {args : List Opd} {env : Env} {h : H} : gdK cf d op args env h true (.bool true) = putK d env (evalOp cf op (args.map (ev env)) h) := rfl
@[simp] theorem gdK_ff {d : Option Nat} {op : SOp} {args : List Opd} {env : Env} {h : H} : gdK cf d op args env h false (.bool false) = putK d env (evalOp cf op (args.map (ev env)) h) := rfl
@[simp] theorem gdK_tf {d : Option Nat} {op : SOp} {args : List Opd} {env : Env} {h : H} : gdK cf d op args env h true (.bool false) = some (env.put d (.tuple []), h) := rfl
@[simp] theorem gdK_ft {d : Option Nat} {op : SOp} {args : List Opd} {env : Env} {h : H} : gdK cf d op args env h false (.bool true) = some (env.put d (.tuple []), h) := rfl
@[simp] theorem gdK_no {d : Option Nat} {op : SOp} {args : List Opd} {env : Env} {h : H} {w : Bool} : gdK cf d op args env h w (.tuple []) = some (env.put d (.tuple []), h) := rfl
@[simp] theorem seqK_normal {k : Env → M (Ex × Env)} {e : Env} {h : H} : seqK k (some ((.normal, e), h)) = k e h := rfl
@[simp] theorem seqK_exit {k : Env → M (Ex × Env)} {e : Env} {h : H} {i : Nat} : seqK k (some ((.exit i, e), h)) = some ((.exit i, e), h) := rfl
@[simp] theorem seqK_ret {k : Env → M (Ex × Env)} {e : Env} {h : H} : seqK k (some ((.ret, e), h)) = some ((.ret, e), h) := rfl
@[simp] theorem blockK_normal {i : Nat} {e : Env} {h : H} : blockK i (some ((.normal, e), h)) = some ((.normal, e), h) := rfl
@[simp] theorem blockK_ret {i : Nat} {e : Env} {h : H} : blockK i (some ((.ret, e), h)) = some ((.ret, e), h) := rfl
@[simp] theorem blockK_exit {i j : Nat} {e : Env} {h : H} : blockK i (some ((.exit j, e), h)) = if j = i then some ((.normal, e), h) else some ((.exit j, e), h) := rfl
@[simp] theorem endFn_ret {res : List SRes} {e : Env} {h : H} : endFn res (some ((.ret, e), h)) = (resVals e h res).map fun l => (resOf l, h) := rfl
@[simp] theorem endFn_normal {res : List SRes} {e : Env} {h : H} : endFn res (some ((.normal, e), h)) = (resVals e h res).map fun l => (resOf l, h) := rfl

theorem ops_nil {e : Env} {h : H} : stepOps cf [] e h = some (e, h) := rfl
theorem ops_cons {d : Option Nat} {op : SOp} {args : List Opd} {os : List SOper} {e : Env} {h : H} : stepOps cf (⟨d, op, args, none⟩ :: os) e h = opsK cf os (putK d e (evalOp cf op (args.map (ev e)) h)) := by
  simp only [stepOps, stepOp, wantsOp]
  cases evalOp cf op (args.map (ev e)) h with
  | none => rfl
  | some p => obtain ⟨v, h'⟩ := p; rfl
theorem ops_cons_gd {d : Option Nat} {op : SOp} {args : List Opd} {g : Nat} {w : Bool} {os : List SOper} {e : Env} {h : H} : stepOps cf (⟨d, op, args, some (g, w)⟩ :: os) e h = opsK cf os (gdK cf d op args e h w (e.getD g .undef)) := by
  simp only [stepOps, stepOp, wantsOp]
  generalize e.getD g .undef = x
  cases x with
  | bool b =>
    simp only [gdK]
    cases hb : b == w with
    | true =>
      cases evalOp cf op (args.map (ev e)) h with
      | none => simp [putK, opsK]
      | some p => obtain ⟨v, h'⟩ := p; simp [putK, opsK]
    | false => simp [opsK]
  | tuple l =>
    cases l with
    | nil => simp [gdK, opsK]
    | cons a l => simp [gdK, opsK]
  | _ => simp [gdK, opsK]
theorem evalOp_p {o : POp} {vs : List AV} {h : H} : evalOp cf (.p o) vs h = liftP h (evalP o vs) := by simp only [evalOp]; cases evalP o vs <;> rfl
theorem evalOp_r {o : ROp} {vs : List AV} {h : H} : evalOp cf (.r o) vs h = liftP h (evalR o vs h) := by simp only [evalOp]; cases evalR o vs h <;> rfl
theorem evalOp_a {o : AOp} {vs : List AV} {h : H} : evalOp cf (.a o) vs h = liftA h (evalA o vs) := by
  simp only [evalOp]
  cases evalA o vs with
  | none => rfl
  | some p => obtain ⟨b, k⟩ := p; rfl
theorem evalOp_call {f : FuncId} {vs : List AV} {h : H} : evalOp cf (.h (.call f)) vs h = cf f vs h := rfl
theorem evalOp_callV {f : FuncId} {cs vs : List AV} {h : H} : evalOp cf (.h .callV) (.func f cs :: vs) h = cf f (vs ++ cs) h := rfl
theorem evalOp_store {n : Nat} {vs : List AV} {h : H} : evalOp cf (.h (.store n)) vs h = evalHeap (.store n) vs h := rfl
def appendV (n : Nat) (k : Bool) (s x : AV) (h : H) : Option (AV × H) := evalHeap (.append n k) [s, x] h
theorem evalOp_append {n : Nat} {k : Bool} {s x : AV} {h : H} : evalOp cf (.h (.append n k)) [s, x] h = appendV n k s x h := rfl
theorem evalOp_clear {z : List AV} {vs : List AV} {h : H} : evalOp cf (.h (.clear z)) vs h = evalHeap (.clear z) vs h := rfl
theorem evalOp_mapUpdate {k : Leaf} {vs : List AV} {h : H} : evalOp cf (.h (.mapUpdate k)) vs h = evalHeap (.mapUpdate k) vs h := rfl
theorem evalOp_delete {k : Leaf} {vs : List AV} {h : H} : evalOp cf (.h (.delete k)) vs h = evalHeap (.delete k) vs h := rfl
theorem exec_reg {os : List SOper} {e : Env} {h : H} : exec cf lp (.reg os) e h = regK (stepOps cf os e h) := by
  simp only [exec]
  cases stepOps cf os e h with
  | none => rfl
  | some p => obtain ⟨e1, h1⟩ := p; rfl
theorem exec_dreg {ss : List Stage} {e : Env} {h : H} : exec cf lp (.dreg ss) e h = regK (stepStages cf ss e h) := by
  simp only [exec]
  cases stepStages cf ss e h with
  | none => rfl
  | some p => obtain ⟨e1, h1⟩ := p; rfl
theorem exec_seq {a b : SCode} {e : Env} {h : H} : exec cf lp (.seq a b) e h = seqK (exec cf lp b) (exec cf lp a e h) := rfl
theorem exec_cond {c : Opd} {a b : SCode} {e : Env} {h : H} : exec cf lp (.cond c a b) e h = condK cf lp a b e h (ev e c) := by
  simp only [exec]
  cases ev e c with
  | bool b => cases b <;> rfl
  | _ => rfl
theorem exec_block {i : Nat} {a : SCode} {e : Env} {h : H} : exec cf lp (.block i a) e h = blockK i (exec cf lp a e h) := rfl
theorem exec_scope {a : SCode} {e : Env} {h : H} : exec cf lp (.scope a) e h = exec cf lp a e h := rfl
theorem exec_exit {i : Nat} {e : Env} {h : H} : exec cf lp (.exit i) e h = some ((.exit i, e), h) := rfl
theorem exec_ret {e : Env} {h : H} : exec cf lp .ret e h = some ((.ret, e), h) := rfl
theorem exec_skip {e : Env} {h : H} : exec cf lp .skip e h = some ((.normal, e), h) := rfl
theorem exec_loop {l : List Nat} {a : SCode} {e : Env} {h : H} : exec cf lp (.loop l a) e h = lp (fun env => exec cf lp a (keepFrom l 0 env)) e h := rfl
theorem ev_tmp {e : Env} {t : Nat} : ev e (.tmp t) = e.getD t .undef := rfl
theorem ev_lit {e : Env} {v : AV} : ev e (.lit v) = v := rfl
theorem put_some {e : Env} {d : Nat} {v : AV} : Env.put e (some d) v = e.set d v := rfl
theorem put_none {e : Env} {v : AV} : Env.put e none v = e := rfl

/-! Regions that draw their order. -/
def stgK (cf : FuncId → List AV → M AV) (ss : List Stage) : Option (Env × H) → Option (Env × H)
  | some (e, h) => stepStages cf ss e h
  | none => none
def chkK (cf : FuncId → List AV → M AV) (chk : List SOper) (heavy : List SOper) (ss : List Stage) : Option (Env × H) → Option (Env × H)
  | some (e, h) => if chk.all (fun o => recheck o e h) = true then stgK cf ss (stepOps cf heavy e h) else none
  | none => none
@[simp] theorem stgK_some {ss : List Stage} {e : Env} {h : H} : stgK cf ss (some (e, h)) = stepStages cf ss e h := rfl
@[simp] theorem chkK_some {chk heavy : List SOper} {ss : List Stage} {e : Env} {h : H} : chkK cf chk heavy ss (some (e, h)) = if chk.all (fun o => recheck o e h) = true then stgK cf ss (stepOps cf heavy e h) else none := rfl
theorem stages_nil {e : Env} {h : H} : stepStages cf [] e h = some (e, h) := rfl
theorem stages_cons_n {pre chk : List SOper} {ss : List Stage} {e : Env} {h : H} : stepStages cf (⟨pre, chk, none⟩ :: ss) e h = chkK cf chk [] ss (stepOps cf pre e h) := by
  simp only [stepStages]
  cases stepOps cf pre e h with
  | none => rfl
  | some p => obtain ⟨e1, h1⟩ := p; rfl
theorem stages_cons_h {pre chk : List SOper} {o : SOper} {ss : List Stage} {e : Env} {h : H} : stepStages cf (⟨pre, chk, some o⟩ :: ss) e h = chkK cf chk [o] ss (stepOps cf pre e h) := by
  simp only [stepStages]
  cases stepOps cf pre e h with
  | none => rfl
  | some p =>
    obtain ⟨e1, h1⟩ := p
    simp only [chkK_some]
    split
    · simp only [stepOps]
      cases stepOp cf o e1 h1 with
      | none => rfl
      | some p => obtain ⟨e2, h2⟩ := p; rfl
    · rfl

/-! Blocks that stand. -/
theorem get_app {h k : H} {b : Nat} {x : Blk} (hx : h[b]? = some x) : (h ++ k)[b]? = some x := by rw [List.getElem?_append_left (List.getElem?_eq_some_iff.1 hx).1]; exact hx
theorem set_app {h k : H} {b : Nat} {x y : Blk} (hx : h[b]? = some x) : (h ++ k).set b y = h.set b y ++ k := List.set_append_left b y (List.getElem?_eq_some_iff.1 hx).1
theorem get_set_same {h : H} {b : Nat} {x y : Blk} (hx : h[b]? = some x) : (h.set b y)[b]? = some y := List.getElem?_set_self (List.getElem?_eq_some_iff.1 hx).1
theorem get_set_app {h k : H} {b : Nat} {x y : Blk} (hx : h[b]? = some x) : (h.set b y ++ k)[b]? = some y := get_app (get_set_same hx)
theorem set_set_app {h k : H} {b : Nat} {x y z : Blk} (hx : h[b]? = some x) : (h.set b y ++ k).set b z = h.set b z ++ k := by rw [set_app (get_set_same hx), List.set_set]
theorem len_beq {h : H} {b : Nat} {x : Blk} (hx : h[b]? = some x) : (h.length = b) = False := by
  have := (List.getElem?_eq_some_iff.1 hx).1
  simp; omega
theorem beq_len {h : H} {b : Nat} {x : Blk} (hx : h[b]? = some x) : (b = h.length) = False := by
  have := (List.getElem?_eq_some_iff.1 hx).1
  simp; omega

/-! Slots, as a function. -/
def toL (n : Nat) (f : Nat → AV) : Env := (List.range n).map f
def fput (f : Nat → AV) (d : Nat) (v : AV) : Nat → AV := fun t => if t = d then v else f t
def fnone : Nat → AV := fun _ => .undef
def fzero : Nat → AV := fun _ => .tuple []
def fbase : List AV → Nat → Nat → AV
  | [], _ => fzero
  | v :: vs, i => fput (fbase vs (i + 1)) i v
def fkeep : List Nat → (Nat → AV) → Nat → AV
  | [], _ => fnone
  | t :: l, f => fput (fkeep l f) t (f t)
def asc : List Nat → Bool
  | [] => true
  | [_] => true
  | a :: b :: l => decide (a < b) && asc (b :: l)

theorem toL_length {n : Nat} {f : Nat → AV} : (toL n f).length = n := by simp [toL]
theorem toL_get {n t : Nat} {f : Nat → AV} : (toL n f)[t]? = if t < n then some (f t) else none := by
  unfold toL
  rw [List.getElem?_map]
  by_cases h : t < n
  · rw [List.getElem?_range h, if_pos h]; rfl
  · rw [List.getElem?_eq_none (by simp; omega), if_neg h]; rfl
theorem toL_some {n t : Nat} {f : Nat → AV} (ht : t < n) : (toL n f)[t]? = some (f t) := by rw [toL_get, if_pos ht]
theorem getD_toL {n t : Nat} {f : Nat → AV} (ht : t < n) : (toL n f).getD t .undef = f t := by
  rw [List.getD_eq_getElem?_getD, toL_get, if_pos ht]; rfl
theorem ev_toL {n t : Nat} {f : Nat → AV} (ht : t < n) : ev (toL n f) (.tmp t) = f t := getD_toL ht
theorem put_toL {n d : Nat} {f : Nat → AV} {v : AV} : Env.put (toL n f) (some d) v = toL n (fput f d v) := by
  apply List.ext_getElem?
  intro t
  simp only [Env.put, List.getElem?_set, toL_get, toL_length, fput]
  by_cases h : d = t
  · subst h; simp
  · simp only [h, if_false, Ne.symm h]
theorem fput_same {f : Nat → AV} {d : Nat} {v : AV} : fput f d v d = v := by simp [fput]
theorem fput_ne {f : Nat → AV} {d t : Nat} {v : AV} (h : t ≠ d) : fput f d v t = f t := by simp [fput, h]
theorem fbase_nil {i : Nat} : fbase [] i = fzero := rfl
theorem fbase_cons {v : AV} {vs : List AV} {i : Nat} : fbase (v :: vs) i = fput (fbase vs (i + 1)) i v := rfl
theorem fkeep_nil {f : Nat → AV} : fkeep [] f = fnone := rfl
theorem fkeep_cons {t : Nat} {l : List Nat} {f : Nat → AV} : fkeep (t :: l) f = fput (fkeep l f) t (f t) := rfl

theorem asc_tail {a : Nat} {l : List Nat} (h : asc (a :: l) = true) : asc l = true ∧ ∀ b ∈ l, a < b := by
  induction l generalizing a with
  | nil => exact ⟨rfl, by simp⟩
  | cons b l ih =>
    simp only [asc, Bool.and_eq_true, decide_eq_true_eq] at h
    refine ⟨h.2, fun c hc => ?_⟩
    rcases List.mem_cons.1 hc with rfl | hc
    · exact h.1
    · exact Nat.lt_trans h.1 ((ih h.2).2 c hc)
theorem fkeep_eq {f : Nat → AV} {t : Nat} : ∀ {l : List Nat}, asc l = true → fkeep l f t = if t ∈ l then f t else .undef
  | [], _ => by simp [fkeep, fnone]
  | a :: l, h => by
    obtain ⟨h1, h2⟩ := asc_tail h
    rw [fkeep_cons]
    by_cases e : t = a
    · subst e; simp [fput_same]
    · rw [fput_ne e, fkeep_eq h1]; simp [e]
theorem keepFrom_fget : ∀ {env : Env} {l : List Nat} {i : Nat} {t : Nat}, asc l = true → (∀ a ∈ l, i ≤ a) → (keepFrom l i env)[t]? = (env[t]?).map fun v => if i + t ∈ l then v else .undef
  | [], l, i, t, _, _ => by simp [keepFrom]
  | v :: env, [], i, t, h, hl => by
    simp only [keepFrom]
    cases t with
    | zero => simp
    | succ t => simp only [List.getElem?_cons_succ]; rw [keepFrom_fget rfl (by simp)]; simp
  | v :: env, a :: l, i, t, h, hl => by
    obtain ⟨h1, h2⟩ := asc_tail h
    simp only [keepFrom]
    by_cases e : a = i
    · subst e
      simp only [if_true]
      cases t with
      | zero => simp
      | succ t =>
        simp only [List.getElem?_cons_succ]
        rw [keepFrom_fget h1 (fun b hb => h2 b hb)]
        have : a + (t + 1) ≠ a := by omega
        simp [show a + 1 + t = a + (t + 1) by omega]
    · simp only [e, if_false]
      have hai : i < a := by have := hl a (by simp); omega
      cases t with
      | zero =>
        have hn : i ∉ a :: l := by
          intro hm
          rcases List.mem_cons.1 hm with hm | hm
          · omega
          · have := h2 i hm; omega
        simp [hn] at *
      | succ t =>
        simp only [List.getElem?_cons_succ]
        rw [keepFrom_fget h (fun b hb => by
          rcases List.mem_cons.1 hb with rfl | hb
          · omega
          · have := h2 b hb; omega)]
        simp [show i + 1 + t = i + (t + 1) by omega]
theorem keep_toL {l : List Nat} {n : Nat} {f : Nat → AV} (h : asc l = true) : keepFrom l 0 (toL n f) = toL n (fkeep l f) := by
  apply List.ext_getElem?
  intro t
  rw [keepFrom_fget h (by simp), toL_get, toL_get, fkeep_eq h, Nat.zero_add]
  split <;> simp

theorem fbase_get : ∀ {vs : List AV} {i t : Nat}, fbase vs i (i + t) = vs.getD t (.tuple [])
  | [], i, t => by simp [fbase, fzero]
  | v :: vs, i, 0 => by simp [fbase, fput]
  | v :: vs, i, t + 1 => by
    rw [fbase_cons, fput_ne (by omega), show i + (t + 1) = i + 1 + t by omega, fbase_get]
    simp
theorem run_toL {np nt : Nat} {body : SCode} {res : List SRes} {vs : List AV} {h : H} (h1 : vs.length = np) (h2 : np ≤ nt) : runFn cf lp ⟨np, nt, body, res⟩ vs h = endFn res (exec cf lp body (toL nt (fbase vs 0)) h) := by
  unfold runFn
  rw [if_pos h1]
  have : vs ++ List.replicate (nt - np) (.tuple []) = toL nt (fbase vs 0) := by
    apply List.ext_getElem?
    intro t
    rw [toL_get]
    have hb := fbase_get (vs := vs) (i := 0) (t := t)
    rw [Nat.zero_add] at hb
    rw [hb]
    rcases Nat.lt_or_ge t vs.length with h3 | h3
    · rw [List.getElem?_append_left h3, if_pos (by omega), List.getD_eq_getElem?_getD, List.getElem?_eq_getElem h3]; rfl
    · rw [List.getElem?_append_right h3, List.getElem?_replicate, List.getD_eq_getElem?_getD, List.getElem?_eq_none h3]
      by_cases h4 : t < nt
      · rw [if_pos (by omega), if_pos h4]; rfl
      · rw [if_neg (by omega), if_neg h4]
  simp only [this]

/-! Cells of values. -/
theorem cells_agg (l : List AV) : AV.cells (.agg l) = some l := rfl
theorem cells_bool (b : Bool) : AV.cells (.bool b) = some [.bool b] := rfl
theorem scalar_bool (b : Bool) : AV.scalar (.bool b) = true := rfl
theorem cells_int (k : IntKind) (n : Int) : AV.cells (.int k n) = some [.int k n] := rfl
theorem scalar_int (k : IntKind) (n : Int) : AV.scalar (.int k n) = true := rfl
theorem cells_str (s : List UInt8) : AV.cells (.str s) = some [.str s] := rfl
theorem scalar_str (s : List UInt8) : AV.scalar (.str s) = true := rfl
theorem cells_nilptr  : AV.cells .nilptr = some [.nilptr] := rfl
theorem scalar_nilptr  : AV.scalar .nilptr = true := rfl
theorem cells_ptr (b i j : Nat) : AV.cells (.ptr b i j) = some [.ptr b i j] := rfl
theorem scalar_ptr (b i j : Nat) : AV.scalar (.ptr b i j) = true := rfl
theorem cells_nilslice  : AV.cells .nilslice = some [.nilslice] := rfl
theorem scalar_nilslice  : AV.scalar .nilslice = true := rfl
theorem cells_slice (b es i n c : Nat) (x : Bool) : AV.cells (.slice b es i n c x) = some [.slice b es i n c x] := rfl
theorem scalar_slice (b es i n c : Nat) (x : Bool) : AV.scalar (.slice b es i n c x) = true := rfl
theorem cells_nilmap  : AV.cells .nilmap = some [.nilmap] := rfl
theorem scalar_nilmap  : AV.scalar .nilmap = true := rfl
theorem cells_map (b : Nat) : AV.cells (.map b) = some [.map b] := rfl
theorem scalar_map (b : Nat) : AV.scalar (.map b) = true := rfl
theorem cells_nilfunc  : AV.cells .nilfunc = some [.nilfunc] := rfl
theorem scalar_nilfunc  : AV.scalar .nilfunc = true := rfl
theorem cells_func (f : FuncId) (l : List AV) : AV.cells (.func f l) = some [.func f l] := rfl
theorem scalar_func (f : FuncId) (l : List AV) : AV.scalar (.func f l) = true := rfl
end

/-! Operations, one rule each: what is not known stays shut. -/
section
variable {vs : List AV} {h : H}
theorem pP_move {x : AV} : evalP .move [x] = some x := rfl
theorem pP_pick {c : Bool} {a b : AV} : evalP .pick [.bool c, a, b] = some (if c then a else b) := rfl
theorem pP_build {z : List AV} {ps : List (Nat × Nat)} : evalP (.build z ps) vs = (fillA z ps vs).map .agg := rfl
theorem pP_nil_ptr {b i j : Nat} : evalP .nilCheck [.ptr b i j] = some (.ptr b i j) := rfl
theorem pP_nil_func {f : FuncId} {cs : List AV} : evalP .nilCheck [.func f cs] = some (.func f cs) := rfl
theorem pP_bin {op : BinOp} {x y : AV} : evalP (.bin op) [x, y] = binV op x y := rfl
theorem pP_eq {n : Bool} {s : EqShape} {x y : AV} : evalP (.eq n s) [x, y] = (eqAV s x y).map fun b => .bool (if n then !b else b) := rfl
theorem pP_neg {k : IntKind} {n : Int} : evalP .neg [.int k n] = some (.int k (k.wrap (0 - n))) := rfl
theorem pP_inv {k : IntKind} {n : Int} : evalP .inv [.int k n] = (bitsV .xor k (if k.signed then -1 else k.max) n).map (.int k) := rfl
theorem pP_not {b : Bool} : evalP .not [.bool b] = some (.bool !b) := rfl
theorem pP_convInt {k k' : IntKind} {n : Int} : evalP (.convInt k) [.int k' n] = some (.int k (k.wrap n)) := rfl
theorem pP_convStr {s : List UInt8} : evalP .convStr [.str s] = some (.str s) := rfl
theorem pP_fieldAddr {off b i j : Nat} : evalP (.fieldAddr off) [.ptr b i j] = some (.ptr b i (j + off)) := rfl
theorem pP_field {off : Nat} {n : Option Nat} {l : List AV} : evalP (.field off n) [.agg l] = partV l off n := rfl
theorem pP_indexAddr {es b es' i n c : Nat} {x : Bool} {k : IntKind} {m : Int} : evalP (.indexAddr es) [.slice b es' i n c x, .int k m] = if es' = es ∧ 0 ≤ m ∧ m < n then some (.ptr b (i + m.toNat) 0) else none := rfl
theorem pP_indexStr {s : List UInt8} {k : IntKind} {m : Int} : evalP .indexStr [.str s, .int k m] = if 0 ≤ m then (s[m.toNat]?).map fun c => .int .u8 c.toNat else none := rfl
theorem pP_sliceStr {lo hi : Bool} {s : List UInt8} : evalP (.sliceStr lo hi) (.str s :: vs) = sliceStrV lo hi s vs := rfl
theorem pP_sliceSl {es : Nat} {lo hi mx : Bool} {v : AV} : evalP (.sliceSl es lo hi mx) (v :: vs) = sliceSlV es lo hi mx v vs := rfl
theorem pP_lenStr {s : List UInt8} : evalP .lenStr [.str s] = some (.int .i64 s.length) := rfl
theorem pP_lenNil : evalP .lenSl [.nilslice] = some (.int .i64 0) := rfl
theorem pP_lenSl {b es i n c : Nat} {x : Bool} : evalP .lenSl [.slice b es i n c x] = some (.int .i64 n) := rfl
theorem pP_min {v : AV} : evalP .min (v :: vs) = minV false v vs := rfl
theorem pP_max {v : AV} : evalP .max (v :: vs) = minV true v vs := rfl
theorem pP_extract {i : Nat} {l : List AV} : evalP (.extract i) [.tuple l] = l[i]? := rfl
theorem pP_mkfn {f : FuncId} : evalP (.mkfn f) vs = some (.func f vs) := rfl

section
variable {k k' : IntKind} {a b : Int} {s t : List UInt8}
theorem bV_add : binV .add (.int k a) (.int k b) = some (.int k (k.wrap (a + b))) := by simp [binV, intBin]
theorem bV_sub : binV .sub (.int k a) (.int k b) = some (.int k (k.wrap (a - b))) := by simp [binV, intBin]
theorem bV_mul : binV .mul (.int k a) (.int k b) = some (.int k (k.wrap (a * b))) := by simp [binV, intBin]
theorem bV_quo : binV .quo (.int k a) (.int k b) = if b = 0 then none else some (.int k (k.wrap (a.tdiv b))) := by simp [binV, intBin]
theorem bV_rem : binV .rem (.int k a) (.int k b) = if b = 0 then none else some (.int k (a.tmod b)) := by simp [binV, intBin]
theorem bV_and : binV .and (.int k a) (.int k b) = (bitsV .and k a b).map (.int k) := by simp [binV, intBin]
theorem bV_or : binV .or (.int k a) (.int k b) = (bitsV .or k a b).map (.int k) := by simp [binV, intBin]
theorem bV_xor : binV .xor (.int k a) (.int k b) = (bitsV .xor k a b).map (.int k) := by simp [binV, intBin]
theorem bV_andNot : binV .andNot (.int k a) (.int k b) = (bitsV .andNot k a b).map (.int k) := by simp [binV, intBin]
theorem bV_eql : binV .eql (.int k a) (.int k b) = some (.bool (a == b)) := by simp [binV, intBin]
theorem bV_neq : binV .neq (.int k a) (.int k b) = some (.bool (a != b)) := by simp [binV, intBin]
theorem bV_lss : binV .lss (.int k a) (.int k b) = some (.bool (decide (a < b))) := by simp [binV, intBin]
theorem bV_leq : binV .leq (.int k a) (.int k b) = some (.bool (decide (a ≤ b))) := by simp [binV, intBin]
theorem bV_gtr : binV .gtr (.int k a) (.int k b) = some (.bool (decide (b < a))) := by simp [binV, intBin]
theorem bV_geq : binV .geq (.int k a) (.int k b) = some (.bool (decide (b ≤ a))) := by simp [binV, intBin]
theorem bV_shl : binV .shl (.int k a) (.int k' b) = if b < 0 then none else some (.int k (k.wrap (a * 2 ^ min b.toNat k.bits))) := rfl
theorem bV_shr : binV .shr (.int k a) (.int k' b) = if b < 0 then none else some (.int k (a.fdiv (2 ^ min b.toNat k.bits))) := rfl
theorem bV_str {op : BinOp} : binV op (.str s) (.str t) = strBin op s t := rfl
end

theorem eV_bool {a b : Bool} : eqAV .bool (.bool a) (.bool b) = some (a == b) := rfl
theorem eV_nn : eqAV .ptr .nilptr .nilptr = some true := rfl
theorem eV_np {b i j : Nat} : eqAV .ptr .nilptr (.ptr b i j) = some false := rfl
theorem eV_pn {b i j : Nat} : eqAV .ptr (.ptr b i j) .nilptr = some false := rfl
theorem eV_snn : eqAV .slice .nilslice .nilslice = some true := rfl
theorem eV_sns {b es i n c : Nat} {x : Bool} : eqAV .slice .nilslice (.slice b es i n c x) = some false := rfl
theorem eV_ssn {b es i n c : Nat} {x : Bool} : eqAV .slice (.slice b es i n c x) .nilslice = some false := rfl
theorem eV_mnn : eqAV .map .nilmap .nilmap = some true := rfl
theorem eV_mnm {b : Nat} : eqAV .map .nilmap (.map b) = some false := rfl
theorem eV_mmn {b : Nat} : eqAV .map (.map b) .nilmap = some false := rfl
theorem eV_fnn : eqAV .func .nilfunc .nilfunc = some true := rfl
theorem eV_fnf {f : FuncId} {cs : List AV} : eqAV .func .nilfunc (.func f cs) = some false := rfl
theorem eV_ffn {f : FuncId} {cs : List AV} : eqAV .func (.func f cs) .nilfunc = some false := rfl
theorem eV_agg {ks : List Leaf} {l m : List AV} : eqAV (.agg ks) (.agg l) (.agg m) = eqCells ks l m := rfl

theorem rP_load {n : Option Nat} {b i j : Nat} : evalR (.load n) [.ptr b i j] h = (rdEl h b i).bind fun e => partV e j n := rfl
theorem rP_lenNil : evalR .lenMap [.nilmap] h = some (.int .i64 0) := rfl
theorem rP_str0 : evalR .toStr [.nilslice] h = some (.str []) := rfl
def rdK (i : Nat) : Option Blk → Option (List AV)
  | some (.row _ els _ _) => els[i]?
  | some (.bld v) => if i = 0 then some [.undef, v] else none
  | _ => none
theorem rdEl_K {b i : Nat} : rdEl h b i = rdK i h[b]? := by unfold rdEl rdK; cases h[b]? with
  | none => rfl
  | some x => cases x <;> rfl
theorem rdK_bld {v : AV} : rdK 0 (some (.bld v)) = some [.undef, v] := rfl
theorem aP_newBld : evalA .newBld [] = some (.bld .nilslice, fun b => .ptr b 0 0) := rfl
theorem rdK_row {i es : Nat} {els : List (List AV)} {wr ap : Bool} : rdK i (some (.row es els wr ap)) = els[i]? := rfl

theorem aP_alloc {z : List AV} : evalA (.alloc z) [] = some (.row z.length [z] true true, fun b => .ptr b 0 0) := rfl
theorem aP_box {v : AV} : evalA .box [v] = v.cells.map fun cs => (.row cs.length [cs] true true, fun b => .ptr b 0 0) := rfl
theorem aP_buildSlice {es len : Nat} {z : List AV} {is : List Nat} : evalA (.buildSlice es len z is) vs = (fillEls es (List.replicate len z) is vs).map fun els => (.row es els true true, fun b => .slice b es 0 len len true) := rfl
theorem aP_makeSlice {z : List AV} {k k' : IntKind} {l c : Int} : evalA (.makeSlice z) [.int k l, .int k' c] = if 0 ≤ l ∧ l ≤ c ∧ c ≤ 4294967296 then some (.row z.length (List.replicate l.toNat z) true true, fun b => .slice b z.length 0 l.toNat c.toNat true) else none := rfl
theorem aP_makeMap : evalA .makeMap [] = some (.map [], fun b => .map b) := rfl
theorem aP_toBytes {s : List UInt8} : evalA .toBytes [.str s] = some (.row 1 (s.map fun c => [.int .u8 c.toNat]) true true, fun b => .slice b 1 0 s.length s.length false) := rfl

def storeK (n : Nat) (p : AV) (h : H) : Option (List AV) → Option (AV × H)
  | some cs => if cs.length = n then (st h p cs).map fun h' => (.tuple [], h') else none
  | none => none
theorem hP_store {n : Nat} {p v : AV} : evalHeap (.store n) [p, v] h = storeK n p h v.cells := by
  simp only [evalHeap]
  cases v.cells <;> rfl
theorem storeK_some {n : Nat} {p : AV} {cs : List AV} : storeK n p h (some cs) = if cs.length = n then (st h p cs).map fun h' => (.tuple [], h') else none := rfl
def stE (h : H) (b i j es : Nat) (els : List (List AV)) (ap : Bool) (cs : List AV) : Option (List AV) → Option H
  | some e => if j + cs.length ≤ e.length ∧ cs.all AV.scalar then some (h.set b (.row es (els.set i (putCells e j cs)) true ap)) else none
  | none => none
def stK (h : H) (b i j : Nat) (cs : List AV) : Option Blk → Option H
  | some (.row es els true ap) => stE h b i j es els ap cs els[i]?
  | _ => none
theorem st_K {b i j : Nat} {cs : List AV} : st h (.ptr b i j) cs = stK h b i j cs h[b]? := by
  simp only [st]
  cases h[b]? with
  | none => rfl
  | some x => cases x with
    | row es els wr ap =>
      cases wr with
      | false => rfl
      | true =>
        simp only [stK]
        cases els[i]? <;> rfl
    | _ => rfl
theorem stK_row {b i j es : Nat} {els : List (List AV)} {ap : Bool} {cs : List AV} : stK h b i j cs (some (.row es els true ap)) = stE h b i j es els ap cs els[i]? := rfl
theorem stE_some {b i j es : Nat} {els : List (List AV)} {ap : Bool} {cs e : List AV} : stE h b i j es els ap cs (some e) = if j + cs.length ≤ e.length ∧ cs.all AV.scalar then some (h.set b (.row es (els.set i (putCells e j cs)) true ap)) else none := rfl
end
end Go.Eng
