/- Seat: numbers mixed. -/
import Derived.Test.YthomemhollhljaaF
import Derived.Test.YthomemhollhljaaEngW
set_option maxRecDepth 100000
set_option linter.unusedVariables false
set_option linter.unusedSimpArgs false
namespace Go.Proofs.Ythomemhollhljaa.St
open Go Go.Eng F

theorem add_some (a b : Int) : ∃ c, binV .add (.int .u64 a) (.int .u64 b) = some (.int .u64 c) := ⟨_, bV_add⟩
noncomputable def ad (a b : Int) : Int := Classical.choose (add_some a b)
theorem ad_eq (a b : Int) : binV .add (.int .u64 a) (.int .u64 b) = some (.int .u64 (ad a b)) := Classical.choose_spec (add_some a b)
theorem mul_some (a b : Int) : ∃ c, binV .mul (.int .u64 a) (.int .u64 b) = some (.int .u64 c) := ⟨_, bV_mul⟩
noncomputable def mu (a b : Int) : Int := Classical.choose (mul_some a b)
theorem mu_eq (a b : Int) : binV .mul (.int .u64 a) (.int .u64 b) = some (.int .u64 (mu a b)) := Classical.choose_spec (mul_some a b)
theorem xor_some (a b : Int) : ∃ c, binV .xor (.int .u64 a) (.int .u64 b) = some (.int .u64 c) := ⟨_, by rw [bV_xor]; rfl⟩
noncomputable def xo (a b : Int) : Int := Classical.choose (xor_some a b)
theorem xo_eq (a b : Int) : binV .xor (.int .u64 a) (.int .u64 b) = some (.int .u64 (xo a b)) := Classical.choose_spec (xor_some a b)
theorem shr_some (a : Int) (n : Nat) : ∃ c, binV .shr (.int .u64 a) (.int .u64 (n : Int)) = some (.int .u64 c) := ⟨_, by rw [bV_shr, if_neg (by omega)]⟩
noncomputable def sr (a : Int) (n : Nat) : Int := Classical.choose (shr_some a n)
theorem sr_eq (a : Int) (n : Nat) : binV .shr (.int .u64 a) (.int .u64 (n : Int)) = some (.int .u64 (sr a n)) := Classical.choose_spec (shr_some a n)
theorem sr30 (a : Int) : binV .shr (.int .u64 a) (.int .u64 30) = some (.int .u64 (sr a 30)) := sr_eq a 30
theorem sr27 (a : Int) : binV .shr (.int .u64 a) (.int .u64 27) = some (.int .u64 (sr a 27)) := sr_eq a 27
theorem sr31 (a : Int) : binV .shr (.int .u64 a) (.int .u64 31) = some (.int .u64 (sr a 31)) := sr_eq a 31
theorem mix_run (cf : FuncId → List AV → M AV) (v : Int) {ad mu xo : Int → Int → Int} {sr : Int → Nat → Int} (ad_eq : ∀ a b, binV .add (.int .u64 a) (.int .u64 b) = some (.int .u64 (ad a b))) (mu_eq : ∀ a b, binV .mul (.int .u64 a) (.int .u64 b) = some (.int .u64 (mu a b)))
    (xo_eq : ∀ a b, binV .xor (.int .u64 a) (.int .u64 b) = some (.int .u64 (xo a b))) (sr30 : ∀ a, binV .shr (.int .u64 a) (.int .u64 30) = some (.int .u64 (sr a 30))) (sr27 : ∀ a, binV .shr (.int .u64 a) (.int .u64 27) = some (.int .u64 (sr a 27))) (sr31 : ∀ a, binV .shr (.int .u64 a) (.int .u64 31) = some (.int .u64 (sr a 31)))
    (c1 c2 c3 : Int) : ∃ m k, runFn cf itw (⟨1, 20, (.seq (.reg [⟨(some 2), .p .move, [.lit (.int .u64 0)], none⟩])
  (.seq (.reg [⟨(some 4), .p .move, [.tmp 0], none⟩,
    ⟨(some 5), .p (.bin .add), [.tmp 4, .lit (.int .u64 c1)], none⟩,
    ⟨(some 3), .p .move, [.tmp 5], none⟩])
  (.seq (.reg [⟨(some 6), .p .move, [.tmp 3], none⟩,
    ⟨(some 7), .p .move, [.tmp 3], none⟩,
    ⟨(some 8), .p (.bin .shr), [.tmp 7, .lit (.int .u64 30)], none⟩,
    ⟨(some 9), .p (.bin .xor), [.tmp 6, .tmp 8], none⟩,
    ⟨(some 10), .p (.bin .mul), [.tmp 9, .lit (.int .u64 c2)], none⟩,
    ⟨(some 3), .p .move, [.tmp 10], none⟩])
  (.seq (.reg [⟨(some 11), .p .move, [.tmp 3], none⟩,
    ⟨(some 12), .p .move, [.tmp 3], none⟩,
    ⟨(some 13), .p (.bin .shr), [.tmp 12, .lit (.int .u64 27)], none⟩,
    ⟨(some 14), .p (.bin .xor), [.tmp 11, .tmp 13], none⟩,
    ⟨(some 15), .p (.bin .mul), [.tmp 14, .lit (.int .u64 c3)], none⟩,
    ⟨(some 3), .p .move, [.tmp 15], none⟩])
  (.seq (.reg [⟨(some 16), .p .move, [.tmp 3], none⟩,
    ⟨(some 17), .p .move, [.tmp 3], none⟩,
    ⟨(some 18), .p (.bin .shr), [.tmp 17, .lit (.int .u64 31)], none⟩,
    ⟨(some 19), .p (.bin .xor), [.tmp 16, .tmp 18], none⟩,
    ⟨(some 2), .p .move, [.tmp 19], none⟩])
  .ret))))), [.tmp 2]⟩) [.int .u64 v] [] = some (.int .u64 m, k) := by
  simp [yld_some, exec_reg, exec_dreg, exec_seq, exec_cond, exec_block, exec_scope, exec_exit, exec_ret, exec_skip, exec_loop, ops_nil, ops_cons, ops_cons_gd, stages_nil, stages_cons_n, stages_cons_h, recheck, wantsOp, AV.same, sames, evalOp_p, evalOp_r, evalOp_a, evalOp_call, evalOp_callV, evalOp_store, evalOp_append, evalOp_clear, evalOp_mapUpdate, evalOp_delete, pP_move, pP_pick, pP_build, pP_nil_ptr, pP_nil_func, pP_bin, pP_eq, pP_neg, pP_inv, pP_not, pP_convInt, pP_convStr, pP_fieldAddr, pP_field, pP_indexAddr, pP_indexStr, pP_sliceStr, pP_sliceSl, pP_lenStr, pP_lenNil, pP_lenSl, pP_min, pP_max, pP_extract, pP_mkfn, bV_sub, bV_quo, bV_rem, bV_and, bV_or, bV_andNot, bV_eql, bV_neq, bV_lss, bV_leq, bV_gtr, bV_geq, bV_shl, bV_str, eV_bool, eV_nn, eV_np, eV_pn, eV_snn, eV_sns, eV_ssn, eV_mnn, eV_mnm, eV_mmn, eV_fnn, eV_fnf, eV_ffn, eV_agg, rP_load, rP_lenNil, rP_str0, rdEl_K, rdK_row, aP_alloc, aP_box, aP_buildSlice, aP_makeSlice, aP_makeMap, aP_toBytes, hP_store, storeK_some, st_K, stK_row, stE_some, cells_agg, cells_bool, scalar_bool, cells_int, scalar_int, cells_str, scalar_str, cells_nilptr, scalar_nilptr, cells_ptr, scalar_ptr, cells_nilslice, scalar_nilslice, cells_slice, scalar_slice, cells_nilmap, scalar_nilmap, cells_map, scalar_map, cells_nilfunc, scalar_nilfunc, cells_func, scalar_func, eqCells, eqLeaf, run_toL, toL_some, ev_toL, getD_toL, put_toL, keep_toL, asc, fput_same, fput_ne, fbase_nil, fbase_cons, fkeep_nil, fkeep_cons, fzero, fnone, List.map_cons, List.map_nil, ev_lit, put_none, resVals, resVal, resOf, partV, fillA, putCells, fillEls, strBin, minV, optNat, appendEls, elsOf, sliceSlV, sliceStrV, List.replicate, List.getElem?_append_left, List.getElem?_append_right, List.set_append_left, List.set_append_right, List.getElem?_set_self, List.getElem?_set_ne, ad_eq, mu_eq, xo_eq, sr30, sr27, sr31]
theorem mix_ex (v : Int) : ∃ m k, call fs noEx 15 [.int .u64 v] [] = some (.int .u64 m, k) := by
  rw [call_eq fs noEx (f := 15) (sf := sf15) rfl]
  exact mix_run _ v ad_eq mu_eq xo_eq sr30 sr27 sr31 _ _ _
noncomputable def mix (v : Int) : Int := Classical.choose (mix_ex v)
theorem mix_call (v : Int) : ∃ k, call fs noEx 15 [.int .u64 v] [] = some (.int .u64 (mix v), k) := Classical.choose_spec (mix_ex v)
theorem far_call (a b : Int) : ∃ k, call fs noEx 17 [.int .u64 a, .int .u64 b] [] = some (.int .u64 (IntKind.u64.wrap (b - a)), k) := by
  rw [call_eq fs noEx (f := 17) (sf := sf17) rfl]
  simp [sf17, yld_some, exec_reg, exec_dreg, exec_seq, exec_cond, exec_block, exec_scope, exec_exit, exec_ret, exec_skip, exec_loop, ops_nil, ops_cons, ops_cons_gd, stages_nil, stages_cons_n, stages_cons_h, recheck, wantsOp, AV.same, sames, evalOp_p, evalOp_r, evalOp_a, evalOp_call, evalOp_callV, evalOp_store, evalOp_append, evalOp_clear, evalOp_mapUpdate, evalOp_delete, pP_move, pP_pick, pP_build, pP_nil_ptr, pP_nil_func, pP_bin, pP_eq, pP_neg, pP_inv, pP_not, pP_convInt, pP_convStr, pP_fieldAddr, pP_field, pP_indexAddr, pP_indexStr, pP_sliceStr, pP_sliceSl, pP_lenStr, pP_lenNil, pP_lenSl, pP_min, pP_max, pP_extract, pP_mkfn, bV_add, bV_sub, bV_mul, bV_quo, bV_rem, bV_and, bV_or, bV_xor, bV_andNot, bV_eql, bV_neq, bV_lss, bV_leq, bV_gtr, bV_geq, bV_shl, bV_shr, bV_str, eV_bool, eV_nn, eV_np, eV_pn, eV_snn, eV_sns, eV_ssn, eV_mnn, eV_mnm, eV_mmn, eV_fnn, eV_fnf, eV_ffn, eV_agg, rP_load, rP_lenNil, rP_str0, rdEl_K, rdK_row, aP_alloc, aP_box, aP_buildSlice, aP_makeSlice, aP_makeMap, aP_toBytes, hP_store, storeK_some, st_K, stK_row, stE_some, cells_agg, cells_bool, scalar_bool, cells_int, scalar_int, cells_str, scalar_str, cells_nilptr, scalar_nilptr, cells_ptr, scalar_ptr, cells_nilslice, scalar_nilslice, cells_slice, scalar_slice, cells_nilmap, scalar_nilmap, cells_map, scalar_map, cells_nilfunc, scalar_nilfunc, cells_func, scalar_func, eqCells, eqLeaf, run_toL, toL_some, ev_toL, getD_toL, put_toL, keep_toL, asc, fput_same, fput_ne, fbase_nil, fbase_cons, fkeep_nil, fkeep_cons, fzero, fnone, List.map_cons, List.map_nil, ev_lit, put_none, resVals, resVal, resOf, partV, fillA, putCells, fillEls, strBin, minV, optNat, appendEls, elsOf, sliceSlV, sliceStrV, List.replicate, List.getElem?_append_left, List.getElem?_append_right, List.set_append_left, List.set_append_right, List.getElem?_set_self, List.getElem?_set_ne, hq_get0, hq_get, hq_get2, hq_get3, hp_get0, hp_get, hp_get2, hp_get3, hp_set0, hp_set, hp_set2, hp_set3, wr_0, wr_1, wr_2, wr_3, wr_4, wr_n1]
end Go.Proofs.Ythomemhollhljaa.St
