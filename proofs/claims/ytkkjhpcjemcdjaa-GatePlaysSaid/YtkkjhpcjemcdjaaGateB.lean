/- Gate: what is shut: the methods that look at or turn what is shut, and GateShut. -/
import Derived.Test.YtkkjhpcjemcdjaaGateA
set_option maxRecDepth 100000
set_option linter.unusedVariables false
set_option linter.unusedSimpArgs false
namespace Go.Proofs.Ytkkjhpcjemcdjaa.Gt
open Go Go.Eng F

theorem e1_7 (vs : List AV) (h : H) : call fs1 ex1 7 vs h = exA 7 vs h := call_ex fs1 ex1 rfl _ _
theorem e1_11 (vs : List AV) (h : H) : call fs1 ex1 11 vs h = exP 11 vs h := call_ex fs1 ex1 rfl _ _
theorem e1_22 (vs : List AV) (h : H) : call fs1 ex1 22 vs h = exP 22 vs h := call_ex fs1 ex1 rfl _ _
theorem e1_25 (vs : List AV) (h : H) : call fs1 ex1 25 vs h = exP 25 vs h := call_ex fs1 ex1 rfl _ _

section
variable {g : Nat} {s : Bool} {a b : Int} {l : AV} {h : H}
theorem frozen_call (hg : h[g]? = some (.row 4 [[.bool s, .int .u64 a, .int .u64 b, l]] true true)) (x : Int) : call fs1 ex1 12 [.ptr g 0 0, .int .u64 x] h = some (.bool (s && inA a b x), h) := by
  rw [call_eq fs1 ex1 (f := 12) (sf := sf12) rfl]
  cases s <;> simp [sf12, yld_some, exec_reg, exec_dreg, exec_seq, exec_cond, exec_block, exec_scope, exec_exit, exec_ret, exec_skip, exec_loop, ops_nil, ops_cons, ops_cons_gd, stages_nil, stages_cons_n, stages_cons_h, recheck, wantsOp, AV.same, sames, evalOp_p, evalOp_r, evalOp_a, evalOp_call, evalOp_callV, evalOp_store, evalOp_append, evalOp_clear, evalOp_mapUpdate, evalOp_delete, pP_move, pP_pick, pP_build, pP_nil_ptr, pP_nil_func, pP_bin, pP_eq, pP_neg, pP_inv, pP_not, pP_convInt, pP_convStr, pP_fieldAddr, pP_field, pP_indexAddr, pP_indexStr, pP_sliceStr, pP_sliceSl, pP_lenStr, pP_lenNil, pP_lenSl, pP_min, pP_max, pP_extract, pP_mkfn, bV_add, bV_sub, bV_mul, bV_quo, bV_rem, bV_and, bV_or, bV_xor, bV_andNot, bV_eql, bV_neq, bV_lss, bV_leq, bV_gtr, bV_geq, bV_shl, bV_shr, bV_str, eV_bool, eV_nn, eV_np, eV_pn, eV_snn, eV_sns, eV_ssn, eV_mnn, eV_mnm, eV_mmn, eV_fnn, eV_fnf, eV_ffn, eV_agg, rP_load, rP_lenNil, rP_str0, rdEl_K, rdK_row, aP_alloc, aP_box, aP_buildSlice, aP_makeSlice, aP_makeMap, aP_toBytes, hP_store, storeK_some, st_K, stK_row, stE_some, cells_agg, cells_bool, scalar_bool, cells_int, scalar_int, cells_str, scalar_str, cells_nilptr, scalar_nilptr, cells_ptr, scalar_ptr, cells_nilslice, scalar_nilslice, cells_slice, scalar_slice, cells_nilmap, scalar_nilmap, cells_map, scalar_map, cells_nilfunc, scalar_nilfunc, cells_func, scalar_func, eqCells, eqLeaf, run_toL, toL_some, ev_toL, getD_toL, put_toL, keep_toL, asc, fput_same, fput_ne, fbase_nil, fbase_cons, fkeep_nil, fkeep_cons, fzero, fnone, List.map_cons, List.map_nil, ev_lit, put_none, resVals, resVal, resOf, partV, fillA, putCells, fillEls, strBin, minV, optNat, appendEls, elsOf, sliceSlV, sliceStrV, List.replicate, List.getElem?_append_left, List.getElem?_append_right, List.set_append_left, List.set_append_right, List.getElem?_set_self, List.getElem?_set_ne, hg, e1_11, exP]
theorem freeze_call (hg : h[g]? = some (.row 4 [[.bool s, .int .u64 a, .int .u64 b, l]] true true)) (c d : Int) : call fs1 ex1 13 [.ptr g 0 0, .agg [.int .u64 c, .int .u64 d]] h =
    some (.bool !s, (if s then h else h.set g (.row 4 [[.bool true, .int .u64 c, .int .u64 d, l]] true true)) ++ [.row 2 [[.int .u64 c, .int .u64 d]] true true]) := by
  rw [call_eq fs1 ex1 (f := 13) (sf := sf13) rfl]
  cases s <;> simp [sf13, yld_some, exec_reg, exec_dreg, exec_seq, exec_cond, exec_block, exec_scope, exec_exit, exec_ret, exec_skip, exec_loop, ops_nil, ops_cons, ops_cons_gd, stages_nil, stages_cons_n, stages_cons_h, recheck, wantsOp, AV.same, sames, evalOp_p, evalOp_r, evalOp_a, evalOp_call, evalOp_callV, evalOp_store, evalOp_append, evalOp_clear, evalOp_mapUpdate, evalOp_delete, pP_move, pP_pick, pP_build, pP_nil_ptr, pP_nil_func, pP_bin, pP_eq, pP_neg, pP_inv, pP_not, pP_convInt, pP_convStr, pP_fieldAddr, pP_field, pP_indexAddr, pP_indexStr, pP_sliceStr, pP_sliceSl, pP_lenStr, pP_lenNil, pP_lenSl, pP_min, pP_max, pP_extract, pP_mkfn, bV_add, bV_sub, bV_mul, bV_quo, bV_rem, bV_and, bV_or, bV_xor, bV_andNot, bV_eql, bV_neq, bV_lss, bV_leq, bV_gtr, bV_geq, bV_shl, bV_shr, bV_str, eV_bool, eV_nn, eV_np, eV_pn, eV_snn, eV_sns, eV_ssn, eV_mnn, eV_mnm, eV_mmn, eV_fnn, eV_fnf, eV_ffn, eV_agg, rP_load, rP_lenNil, rP_str0, rdEl_K, rdK_row, aP_alloc, aP_box, aP_buildSlice, aP_makeSlice, aP_makeMap, aP_toBytes, hP_store, storeK_some, st_K, stK_row, stE_some, cells_agg, cells_bool, scalar_bool, cells_int, scalar_int, cells_str, scalar_str, cells_nilptr, scalar_nilptr, cells_ptr, scalar_ptr, cells_nilslice, scalar_nilslice, cells_slice, scalar_slice, cells_nilmap, scalar_nilmap, cells_map, scalar_map, cells_nilfunc, scalar_nilfunc, cells_func, scalar_func, eqCells, eqLeaf, run_toL, toL_some, ev_toL, getD_toL, put_toL, keep_toL, asc, fput_same, fput_ne, fbase_nil, fbase_cons, fkeep_nil, fkeep_cons, fzero, fnone, List.map_cons, List.map_nil, ev_lit, put_none, resVals, resVal, resOf, partV, fillA, putCells, fillEls, strBin, minV, optNat, appendEls, elsOf, sliceSlV, sliceStrV, List.replicate, List.getElem?_append_left, List.getElem?_append_right, List.set_append_left, List.set_append_right, List.getElem?_set_self, List.getElem?_set_ne, hg, get_app hg, set_app hg, get_set_same hg, get_set_app hg, set_set_app hg, len_beq hg, beq_len hg]
theorem thaw_call (hg : h[g]? = some (.row 4 [[.bool s, .int .u64 a, .int .u64 b, l]] true true)) : call fs1 ex1 15 [.ptr g 0 0] h =
    some (.bool s, if s then h.set g (.row 4 [[.bool false, .int .u64 0, .int .u64 0, l]] true true) else h) := by
  rw [call_eq fs1 ex1 (f := 15) (sf := sf15) rfl]
  cases s <;> simp [sf15, yld_some, exec_reg, exec_dreg, exec_seq, exec_cond, exec_block, exec_scope, exec_exit, exec_ret, exec_skip, exec_loop, ops_nil, ops_cons, ops_cons_gd, stages_nil, stages_cons_n, stages_cons_h, recheck, wantsOp, AV.same, sames, evalOp_p, evalOp_r, evalOp_a, evalOp_call, evalOp_callV, evalOp_store, evalOp_append, evalOp_clear, evalOp_mapUpdate, evalOp_delete, pP_move, pP_pick, pP_build, pP_nil_ptr, pP_nil_func, pP_bin, pP_eq, pP_neg, pP_inv, pP_not, pP_convInt, pP_convStr, pP_fieldAddr, pP_field, pP_indexAddr, pP_indexStr, pP_sliceStr, pP_sliceSl, pP_lenStr, pP_lenNil, pP_lenSl, pP_min, pP_max, pP_extract, pP_mkfn, bV_add, bV_sub, bV_mul, bV_quo, bV_rem, bV_and, bV_or, bV_xor, bV_andNot, bV_eql, bV_neq, bV_lss, bV_leq, bV_gtr, bV_geq, bV_shl, bV_shr, bV_str, eV_bool, eV_nn, eV_np, eV_pn, eV_snn, eV_sns, eV_ssn, eV_mnn, eV_mnm, eV_mmn, eV_fnn, eV_fnf, eV_ffn, eV_agg, rP_load, rP_lenNil, rP_str0, rdEl_K, rdK_row, aP_alloc, aP_box, aP_buildSlice, aP_makeSlice, aP_makeMap, aP_toBytes, hP_store, storeK_some, st_K, stK_row, stE_some, cells_agg, cells_bool, scalar_bool, cells_int, scalar_int, cells_str, scalar_str, cells_nilptr, scalar_nilptr, cells_ptr, scalar_ptr, cells_nilslice, scalar_nilslice, cells_slice, scalar_slice, cells_nilmap, scalar_nilmap, cells_map, scalar_map, cells_nilfunc, scalar_nilfunc, cells_func, scalar_func, eqCells, eqLeaf, run_toL, toL_some, ev_toL, getD_toL, put_toL, keep_toL, asc, fput_same, fput_ne, fbase_nil, fbase_cons, fkeep_nil, fkeep_cons, fzero, fnone, List.map_cons, List.map_nil, ev_lit, put_none, resVals, resVal, resOf, partV, fillA, putCells, fillEls, strBin, minV, optNat, appendEls, elsOf, sliceSlV, sliceStrV, List.replicate, List.getElem?_append_left, List.getElem?_append_right, List.set_append_left, List.set_append_right, List.getElem?_set_self, List.getElem?_set_ne, hg, get_app hg, set_app hg, get_set_same hg, get_set_app hg, set_set_app hg, len_beq hg, beq_len hg]
theorem arc_call (hg : h[g]? = some (.row 4 [[.bool s, .int .u64 a, .int .u64 b, l]] true true)) : call fs1 ex1 14 [.ptr g 0 0] h =
    some (.tuple [.agg [.int .u64 a, .int .u64 b], .bool s], h ++ [.row 2 [[.int .u64 a, .int .u64 b]] true true]) := by
  rw [call_eq fs1 ex1 (f := 14) (sf := sf14) rfl]
  simp [sf14, yld_some, exec_reg, exec_dreg, exec_seq, exec_cond, exec_block, exec_scope, exec_exit, exec_ret, exec_skip, exec_loop, ops_nil, ops_cons, ops_cons_gd, stages_nil, stages_cons_n, stages_cons_h, recheck, wantsOp, AV.same, sames, evalOp_p, evalOp_r, evalOp_a, evalOp_call, evalOp_callV, evalOp_store, evalOp_append, evalOp_clear, evalOp_mapUpdate, evalOp_delete, pP_move, pP_pick, pP_build, pP_nil_ptr, pP_nil_func, pP_bin, pP_eq, pP_neg, pP_inv, pP_not, pP_convInt, pP_convStr, pP_fieldAddr, pP_field, pP_indexAddr, pP_indexStr, pP_sliceStr, pP_sliceSl, pP_lenStr, pP_lenNil, pP_lenSl, pP_min, pP_max, pP_extract, pP_mkfn, bV_add, bV_sub, bV_mul, bV_quo, bV_rem, bV_and, bV_or, bV_xor, bV_andNot, bV_eql, bV_neq, bV_lss, bV_leq, bV_gtr, bV_geq, bV_shl, bV_shr, bV_str, eV_bool, eV_nn, eV_np, eV_pn, eV_snn, eV_sns, eV_ssn, eV_mnn, eV_mnm, eV_mmn, eV_fnn, eV_fnf, eV_ffn, eV_agg, rP_load, rP_lenNil, rP_str0, rdEl_K, rdK_row, aP_alloc, aP_box, aP_buildSlice, aP_makeSlice, aP_makeMap, aP_toBytes, hP_store, storeK_some, st_K, stK_row, stE_some, cells_agg, cells_bool, scalar_bool, cells_int, scalar_int, cells_str, scalar_str, cells_nilptr, scalar_nilptr, cells_ptr, scalar_ptr, cells_nilslice, scalar_nilslice, cells_slice, scalar_slice, cells_nilmap, scalar_nilmap, cells_map, scalar_map, cells_nilfunc, scalar_nilfunc, cells_func, scalar_func, eqCells, eqLeaf, run_toL, toL_some, ev_toL, getD_toL, put_toL, keep_toL, asc, fput_same, fput_ne, fbase_nil, fbase_cons, fkeep_nil, fkeep_cons, fzero, fnone, List.map_cons, List.map_nil, ev_lit, put_none, resVals, resVal, resOf, partV, fillA, putCells, fillEls, strBin, minV, optNat, appendEls, elsOf, sliceSlV, sliceStrV, List.replicate, List.getElem?_append_left, List.getElem?_append_right, List.set_append_left, List.set_append_right, List.getElem?_set_self, List.getElem?_set_ne, hg, get_app hg, set_app hg, get_set_same hg, get_set_app hg, set_set_app hg, len_beq hg, beq_len hg]
end
def ex2 : FuncId → List AV → M AV
  | 7, [], h => some (.bool true, h)
  | 11, [.agg [.int .u64 a, .int .u64 b], .int .u64 x], h => some (.bool (inA a b x), h)
  | 12, [.ptr g 0 0, .int .u64 x], h =>
    match h[g]? with
    | some (.row 4 [[.bool s, .int .u64 a, .int .u64 b, l]] true true) => some (.bool (s && inA a b x), h)
    | _ => none
  | 13, [.ptr g 0 0, .agg [.int .u64 c, .int .u64 d]], h =>
    match h[g]? with
    | some (.row 4 [[.bool s, .int .u64 a, .int .u64 b, .nilslice]] true true) => some (.bool !s, if s then h else h.set g (.row 4 [[.bool true, .int .u64 c, .int .u64 d, .nilslice]] true true))
    | _ => none
  | 14, [.ptr g 0 0], h =>
    match h[g]? with
    | some (.row 4 [[.bool s, .int .u64 a, .int .u64 b, l]] true true) => some (.tuple [.agg [.int .u64 a, .int .u64 b], .bool s], h)
    | _ => none
  | 15, [.ptr g 0 0], h =>
    match h[g]? with
    | some (.row 4 [[.bool s, .int .u64 a, .int .u64 b, .nilslice]] true true) => some (.bool s, if s then h.set g (.row 4 [[.bool false, .int .u64 0, .int .u64 0, .nilslice]] true true) else h)
    | _ => none
  | _, _, _ => none
theorem low_set {h : H} {g n : Nat} {x : Blk} (hx : x.low n = true) (b : Nat) (y : Blk) (hy : (h.set g x)[b]? = some y) : h[b]? = some y ∨ y.low n = true := by
  rcases Nat.lt_or_ge g h.length with hg | hg
  · by_cases e : g = b
    · subst e
      rw [List.getElem?_set_self hg] at hy
      cases hy
      exact .inr hx
    · rw [List.getElem?_set_ne e] at hy
      exact .inl hy
  · rw [List.set_eq_of_length_le hg] at hy
    exact .inl hy
theorem ex2_ok : CfSound Try.prog ex2 := by
  refine drop_sound (call_sound fs1 ex1 fs1_ok ex1_ok) ?_
  intro f vs h v h' hr
  unfold ex2 at hr
  split at hr
  · cases hr; exact ⟨[], by rw [e1_7]; simp [exA], Nat.le_refl _, rfl, fun b x hx => .inl hx⟩
  · cases hr; exact ⟨[], by rw [e1_11]; simp [exP], Nat.le_refl _, rfl, fun b x hx => .inl hx⟩
  · split at hr
    · rename_i hg
      cases hr; exact ⟨[], by rw [frozen_call hg]; simp, Nat.le_refl _, rfl, fun b x hx => .inl hx⟩
    · cases hr
  · split at hr
    · rename_i s a b hg
      cases hr
      refine ⟨_, freeze_call hg _ _, ?_, rfl, ?_⟩
      · cases s <;> simp
      · cases s
        · exact low_set rfl
        · exact fun b x hx => .inl hx
    · cases hr
  · split at hr
    · rename_i hg
      cases hr; exact ⟨_, arc_call hg, Nat.le_refl _, rfl, fun b x hx => .inl hx⟩
    · cases hr
  · split at hr
    · rename_i s a b hg
      cases hr
      refine ⟨[], by rw [thaw_call hg]; simp, ?_, rfl, ?_⟩
      · cases s <;> simp
      · cases s
        · exact fun b x hx => .inl hx
        · exact low_set rfl
    · cases hr
  · cases hr
def fs2 := fsBut fs [7, 11, 12, 13, 14, 15]
theorem fs2_ok : FsOk Try.prog fs2 := fsBut_ok fsOk _
end Go.Proofs.Ytkkjhpcjemcdjaa.Gt
