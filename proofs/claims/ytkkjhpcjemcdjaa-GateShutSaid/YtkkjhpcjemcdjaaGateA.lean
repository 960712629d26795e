/- Gate: arcs and the small functions of the gate, as plain functions. -/
import Derived.Test.YtkkjhpcjemcdjaaF
set_option maxRecDepth 100000
set_option linter.unusedVariables false
set_option linter.unusedSimpArgs false
namespace Go.Proofs.Ytkkjhpcjemcdjaa.Gt
open Go Go.Eng F

def inA (a b x : Int) : Bool := a == b || decide (IntKind.u64.wrap (x - a) < IntKind.u64.wrap (b - a))

theorem whole_call (a b : Int) (h : H) : call fs noEx 23 [.agg [.int .u64 a, .int .u64 b]] h = some (.bool (a == b), h ++ [.row 2 [[.int .u64 a, .int .u64 b]] true true]) := by
  rw [call_eq fs noEx (f := 23) (sf := sf23) rfl]
  simp [runFn, sf23, exec_reg, exec_dreg, exec_seq, exec_cond, exec_block, exec_scope, exec_exit, exec_ret, exec_skip, exec_loop, ops_nil, ops_cons, ops_cons_gd, stages_nil, stages_cons_n, stages_cons_h, recheck, wantsOp, AV.same, sames, evalOp_p, evalOp_r, evalOp_a, evalOp_call, evalOp_callV, evalOp_store, evalOp_append, evalOp_clear, evalOp_mapUpdate, evalOp_delete, evalP, evalR, evalA, evalHeap, AV.cells, eqAV, eqCells, eqLeaf, ev_tmp, ev_lit, put_some, put_none, resVals, resVal, resOf, rdEl, partV, fillA, putCells, fillEls, st, AV.scalar, binV, intBin, bitsV, strBin, minV, optNat, List.replicate, List.getElem?_append_left, List.getElem?_append_right, List.set_append_left, List.set_append_right, List.getElem?_set_self, List.getElem?_set_ne]
theorem size_call (a b : Int) (h : H) : call fs noEx 24 [.agg [.int .u64 a, .int .u64 b]] h = some (.int .u64 (IntKind.u64.wrap (b - a)), h ++ [.row 2 [[.int .u64 a, .int .u64 b]] true true]) := by
  rw [call_eq fs noEx (f := 24) (sf := sf24) rfl]
  simp [runFn, sf24, exec_reg, exec_dreg, exec_seq, exec_cond, exec_block, exec_scope, exec_exit, exec_ret, exec_skip, exec_loop, ops_nil, ops_cons, ops_cons_gd, stages_nil, stages_cons_n, stages_cons_h, recheck, wantsOp, AV.same, sames, evalOp_p, evalOp_r, evalOp_a, evalOp_call, evalOp_callV, evalOp_store, evalOp_append, evalOp_clear, evalOp_mapUpdate, evalOp_delete, evalP, evalR, evalA, evalHeap, AV.cells, eqAV, eqCells, eqLeaf, ev_tmp, ev_lit, put_some, put_none, resVals, resVal, resOf, rdEl, partV, fillA, putCells, fillEls, st, AV.scalar, binV, intBin, bitsV, strBin, minV, optNat, List.replicate, List.getElem?_append_left, List.getElem?_append_right, List.set_append_left, List.set_append_right, List.getElem?_set_self, List.getElem?_set_ne]
def ex0 : FuncId → List AV → M AV
  | 23, [.agg [.int .u64 a, .int .u64 b]], h => some (.bool (a == b), h)
  | 24, [.agg [.int .u64 a, .int .u64 b]], h => some (.int .u64 (IntKind.u64.wrap (b - a)), h)
  | _, _, _ => none
theorem ex0_ok : CfSound Try.prog ex0 := by
  refine drop_sound (call_sound fs noEx fsOk noEx_sound) ?_
  intro f vs h v h' hr
  unfold ex0 at hr
  split at hr
  · cases hr; exact ⟨_, whole_call _ _ _, Nat.le_refl _, rfl, fun b x hx => .inl hx⟩
  · cases hr; exact ⟨_, size_call _ _ _, Nat.le_refl _, rfl, fun b x hx => .inl hx⟩
  · cases hr
def fs0 := fsBut fs [23, 24]
theorem fs0_ok : FsOk Try.prog fs0 := fsBut_ok fsOk _

theorem in_call (a b x : Int) (h : H) : call fs0 ex0 11 [.agg [.int .u64 a, .int .u64 b], .int .u64 x] h = some (.bool (inA a b x), h ++ [.row 2 [[.int .u64 a, .int .u64 b]] true true]) := by
  rw [call_eq fs0 ex0 (f := 11) (sf := sf11) rfl]
  have e23 : ∀ vs h, call fs0 ex0 23 vs h = ex0 23 vs h := call_ex fs0 ex0 rfl
  have e24 : ∀ vs h, call fs0 ex0 24 vs h = ex0 24 vs h := call_ex fs0 ex0 rfl
  cases hab : a == b <;> simp [runFn, sf11, exec_reg, exec_dreg, exec_seq, exec_cond, exec_block, exec_scope, exec_exit, exec_ret, exec_skip, exec_loop, ops_nil, ops_cons, ops_cons_gd, stages_nil, stages_cons_n, stages_cons_h, recheck, wantsOp, AV.same, sames, evalOp_p, evalOp_r, evalOp_a, evalOp_call, evalOp_callV, evalOp_store, evalOp_append, evalOp_clear, evalOp_mapUpdate, evalOp_delete, evalP, evalR, evalA, evalHeap, AV.cells, eqAV, eqCells, eqLeaf, ev_tmp, ev_lit, put_some, put_none, resVals, resVal, resOf, rdEl, partV, fillA, putCells, fillEls, st, AV.scalar, binV, intBin, bitsV, strBin, minV, optNat, List.replicate, List.getElem?_append_left, List.getElem?_append_right, List.set_append_left, List.set_append_right, List.getElem?_set_self, List.getElem?_set_ne, e23, e24, ex0, inA, hab]
def ex1 : FuncId → List AV → M AV
  | 11, [.agg [.int .u64 a, .int .u64 b], .int .u64 x], h => some (.bool (inA a b x), h)
  | _, _, _ => none
theorem ex1_ok : CfSound Try.prog ex1 := by
  refine drop_sound (call_sound fs0 ex0 fs0_ok ex0_ok) ?_
  intro f vs h v h' hr
  unfold ex1 at hr
  split at hr
  · cases hr; exact ⟨_, in_call _ _ _ _, Nat.le_refl _, rfl, fun b x hx => .inl hx⟩
  · cases hr
def fs1 := fsBut fs [11]
theorem fs1_ok : FsOk Try.prog fs1 := fsBut_ok fsOk _
end Go.Proofs.Ytkkjhpcjemcdjaa.Gt
