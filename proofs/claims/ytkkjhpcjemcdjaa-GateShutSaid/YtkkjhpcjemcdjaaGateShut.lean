/- Gate: GateShut over the engine. -/
import Derived.Test.YtkkjhpcjemcdjaaGateC
set_option maxRecDepth 100000
set_option linter.unusedVariables false
set_option linter.unusedSimpArgs false
namespace Go.Proofs.Ytkkjhpcjemcdjaa.Gt
open Go Go.Eng F

set_option maxHeartbeats 4000000 in
theorem shut_call (a b c d x : Int) (h : H) : ∃ k, call fs4 ex4 4 [.agg [.int .u64 a, .int .u64 b], .agg [.int .u64 c, .int .u64 d], .int .u64 x] h = some (.bool true, k) := by
  have e7 : ∀ vs h, call fs4 ex4 7 vs h = ex4 7 vs h := e4 rfl
  have e11 : ∀ vs h, call fs4 ex4 11 vs h = ex4 11 vs h := e4 rfl
  have e12 : ∀ vs h, call fs4 ex4 12 vs h = ex4 12 vs h := e4 rfl
  have e13 : ∀ vs h, call fs4 ex4 13 vs h = ex4 13 vs h := e4 rfl
  have e14 : ∀ vs h, call fs4 ex4 14 vs h = ex4 14 vs h := e4 rfl
  have e15 : ∀ vs h, call fs4 ex4 15 vs h = ex4 15 vs h := e4 rfl
  rw [call_eq fs4 ex4 (f := 4) (sf := sf4) rfl]
  cases h1 : inA a b x <;> cases h2 : inA c d x <;> simp [runFn, sf4, exec_reg, exec_dreg, exec_seq, exec_cond, exec_block, exec_scope, exec_exit, exec_ret, exec_skip, exec_loop, ops_nil, ops_cons, ops_cons_gd, stages_nil, stages_cons_n, stages_cons_h, recheck, wantsOp, AV.same, sames, evalOp_p, evalOp_r, evalOp_a, evalOp_call, evalOp_callV, evalOp_store, evalOp_append, evalOp_clear, evalOp_mapUpdate, evalOp_delete, evalP, evalR, evalA, evalHeap, AV.cells, eqAV, eqCells, eqLeaf, ev_tmp, ev_lit, put_some, put_none, resVals, resVal, resOf, rdEl, partV, fillA, putCells, fillEls, st, AV.scalar, binV, intBin, bitsV, strBin, minV, optNat, List.replicate, List.getElem?_append_left, List.getElem?_append_right, List.set_append_left, List.set_append_right, List.getElem?_set_self, List.getElem?_set_ne, e7, e11, e12, e13, e14, e15, ex4, ex3, ex2, h1, h2]
end Go.Proofs.Ytkkjhpcjemcdjaa.Gt
namespace Go.Proofs.Ytkkjhpcjemcdjaa.Pure
open Go Go.Eng
theorem GateShut : LawOk Try.prog 4 F.ss4 := by
  refine ⟨Gt.fs4, Gt.ex4, Gt.fs4_ok, Gt.ex4_ok, fun vs h _ hv => ?_⟩
  simp only [F.ss4, HasVs, HasV, HasF, Has] at hv
  obtain ⟨_, _, rfl, ⟨_, rfl, _, _, rfl, ⟨a, rfl, _⟩, _, _, rfl, ⟨b, rfl, _⟩, rfl⟩, _, _, rfl, ⟨_, rfl, _, _, rfl, ⟨c, rfl, _⟩, _, _, rfl, ⟨d, rfl, _⟩, rfl⟩, _, _, rfl, ⟨x, hx, _⟩, rfl⟩ := hv
  cases hx
  obtain ⟨k, hk⟩ := Gt.shut_call a b c d x h
  exact ⟨_, hk, rfl⟩
end Go.Proofs.Ytkkjhpcjemcdjaa.Pure
