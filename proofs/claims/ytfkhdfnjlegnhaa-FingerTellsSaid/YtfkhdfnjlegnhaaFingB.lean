/- Finger: calls that are known: Far. -/
import Derived.Test.YtfkhdfnjlegnhaaFingA
set_option maxRecDepth 100000
set_option linter.unusedVariables false
set_option linter.unusedSimpArgs false
namespace Go.Proofs.Ytfkhdfnjlegnhaa.Fg
open Go Go.Eng F

theorem far_call (a b : Int) : ∃ k, call fs noEx 24 [.int .u64 a, .int .u64 b] [] = some (.int .u64 (far a b), k) := by
  rw [call_eq fs noEx (f := 24) (sf := sf24) rfl, ← far_wrap]
  simp [sf24, yld_some, exec_reg, exec_dreg, exec_seq, exec_cond, exec_block, exec_scope, exec_exit, exec_ret, exec_skip, exec_loop, ops_nil, ops_cons, ops_cons_gd, stages_nil, stages_cons_n, stages_cons_h, recheck, wantsOp, AV.same, sames, evalOp_p, evalOp_r, evalOp_a, evalOp_call, evalOp_callV, evalOp_store, evalOp_append, evalOp_clear, evalOp_mapUpdate, evalOp_delete, pP_move, pP_pick, pP_build, pP_nil_ptr, pP_nil_func, pP_bin, pP_eq, pP_neg, pP_inv, pP_not, pP_convInt, pP_convStr, pP_fieldAddr, pP_field, pP_indexAddr, pP_indexStr, pP_sliceStr, pP_sliceSl, pP_lenStr, pP_lenNil, pP_lenSl, pP_min, pP_max, pP_extract, pP_mkfn, bV_add, bV_sub, bV_mul, bV_quo, bV_rem, bV_and, bV_or, bV_xor, bV_andNot, bV_eql, bV_neq, bV_lss, bV_leq, bV_gtr, bV_geq, bV_shl, bV_shr, bV_str, eV_bool, eV_nn, eV_np, eV_pn, eV_snn, eV_sns, eV_ssn, eV_mnn, eV_mnm, eV_mmn, eV_fnn, eV_fnf, eV_ffn, eV_agg, rP_load, rP_lenNil, rP_str0, rdEl_K, rdK_row, aP_alloc, aP_box, aP_buildSlice, aP_makeSlice, aP_makeMap, aP_toBytes, hP_store, storeK_some, st_K, stK_row, stE_some, cells_agg, cells_bool, scalar_bool, cells_int, scalar_int, cells_str, scalar_str, cells_nilptr, scalar_nilptr, cells_ptr, scalar_ptr, cells_nilslice, scalar_nilslice, cells_slice, scalar_slice, cells_nilmap, scalar_nilmap, cells_map, scalar_map, cells_nilfunc, scalar_nilfunc, cells_func, scalar_func, eqCells, eqLeaf, run_toL, toL_some, ev_toL, getD_toL, put_toL, keep_toL, asc, fput_same, fput_ne, fbase_nil, fbase_cons, fkeep_nil, fkeep_cons, fzero, fnone, List.map_cons, List.map_nil, ev_lit, put_none, resVals, resVal, resOf, partV, fillA, putCells, fillEls, strBin, minV, optNat, appendEls, elsOf, sliceSlV, sliceStrV, List.replicate, List.getElem?_append_left, List.getElem?_append_right, List.set_append_left, List.set_append_right, List.getElem?_set_self, List.getElem?_set_ne, hq_get0, hq_get, hq_get2, hq_get3, hp_get0, hp_get, hp_get2, hp_get3, hp_set0, hp_set, hp_set2, hp_set3, wr_0, wr_1, wr_2, wr_3, wr_4, wr_n1]
def ex0 : FuncId → List AV → M AV
  | 24, [.int .u64 a, .int .u64 b], h => some (.int .u64 (far a b), h)
  | _, _, _ => none
theorem ex0_ok : CfSound Try.prog ex0 := by
  refine flat_sound (call_sound fs noEx fsOk noEx_sound) ?_
  intro f vs h v h' hr
  unfold ex0 at hr
  split at hr
  · cases hr; exact ⟨rfl, rfl, rfl, far_call _ _⟩
  · cases hr
def fs0 := fsBut fs [24]
theorem fs0_ok : FsOk Try.prog fs0 := fsBut_ok fsOk _
theorem e0_24 (a b : Int) (h : H) : call fs0 ex0 24 [.int .u64 a, .int .u64 b] h = some (.int .u64 (far a b), h) := call_ex fs0 ex0 rfl _ _

/-- Points, in cells. -/
def pts (l : List Int) : List (List AV) := l.map fun x => [.int .u64 x]
theorem pts_get {L : List Int} {i : Nat} (h : i < L.length) : (pts L)[i]? = some [.int .u64 L[i]] := by simp [pts, h]
theorem pts_len (L : List Int) : (pts L).length = L.length := by simp [pts]
theorem pts_snoc (L : List Int) (x : Int) : pts (L ++ [x]) = pts L ++ [[.int .u64 x]] := by simp [pts]
end Go.Proofs.Ytfkhdfnjlegnhaa.Fg
