/- Seat: the document's mixing and seats; which is picked, of whatever list. -/
import Derived.Test.YthomemhollhljaaSeatC
import Derived.Test.YthomemhollhljaaBookH
set_option maxRecDepth 100000
set_option linter.unusedVariables false
set_option linter.unusedSimpArgs false
namespace Go.Proofs.Ythomemhollhljaa.St
open Go Go.Eng F Bk

theorem mix_all {ad mu xo : Int → Int → Int} {sr : Int → Nat → Int} (ad_eq : ∀ a b, binV .add (.int .u64 a) (.int .u64 b) = some (.int .u64 (ad a b))) (mu_eq : ∀ a b, binV .mul (.int .u64 a) (.int .u64 b) = some (.int .u64 (mu a b)))
    (xo_eq : ∀ a b, binV .xor (.int .u64 a) (.int .u64 b) = some (.int .u64 (xo a b))) (sr30 : ∀ a, binV .shr (.int .u64 a) (.int .u64 30) = some (.int .u64 (sr a 30))) (sr27 : ∀ a, binV .shr (.int .u64 a) (.int .u64 27) = some (.int .u64 (sr a 27))) (sr31 : ∀ a, binV .shr (.int .u64 a) (.int .u64 31) = some (.int .u64 (sr a 31)))
    (c1 c2 c3 v : Int) : ∃ m, ∀ (cf : FuncId → List AV → M AV) (h : H), runFn cf itw (⟨1, 20, (.seq (.reg [⟨(some 2), .p .move, [.lit (.int .u64 0)], none⟩])
  (.seq (.reg [⟨(some 4), .p .move, [.tmp 0], none⟩,
    ⟨(some 5), .p (.bin .add), [.tmp 4, .lit (.int .u64 c1)], none⟩,
    ⟨(some 3), .p .move, [.tmp 5], none⟩])
  (.seq (.reg [⟨(some 6), .p .move, [.tmp 3], none⟩,
    ⟨(some 7), .p .move, [.tmp 3], none⟩,
    ⟨(some 8), .p (.bin .shr), [.tmp 7, .lit (.int .u64 30)], none⟩,
    ⟨(some 9), .p (.bin .xor), [.tmp 6, .tmp 8], none⟩,
    ⟨(some 10), .p (.bin .mul), [.tmp 9, .lit (.int .u64 c2)], none⟩,
    ⟨(some 3), .p .move, [.tmp 10], none⟩])
  (.seq (.reg [⟨(some 11), .p .move, [.tmp 3], none⟩,
    ⟨(some 12), .p .move, [.tmp 3], none⟩,
    ⟨(some 13), .p (.bin .shr), [.tmp 12, .lit (.int .u64 27)], none⟩,
    ⟨(some 14), .p (.bin .xor), [.tmp 11, .tmp 13], none⟩,
    ⟨(some 15), .p (.bin .mul), [.tmp 14, .lit (.int .u64 c3)], none⟩,
    ⟨(some 3), .p .move, [.tmp 15], none⟩])
  (.seq (.reg [⟨(some 16), .p .move, [.tmp 3], none⟩,
    ⟨(some 17), .p .move, [.tmp 3], none⟩,
    ⟨(some 18), .p (.bin .shr), [.tmp 17, .lit (.int .u64 31)], none⟩,
    ⟨(some 19), .p (.bin .xor), [.tmp 16, .tmp 18], none⟩,
    ⟨(some 2), .p .move, [.tmp 19], none⟩])
  .ret))))), [.tmp 2]⟩) [.int .u64 v] h = some (.int .u64 m, h) := by
  refine ⟨xo (mu (xo (mu (xo (ad v c1) (sr (ad v c1) 30)) c2) (sr (mu (xo (ad v c1) (sr (ad v c1) 30)) c2) 27)) c3) (sr (mu (xo (mu (xo (ad v c1) (sr (ad v c1) 30)) c2) (sr (mu (xo (ad v c1) (sr (ad v c1) 30)) c2) 27)) c3) 31), fun cf h => ?_⟩
  simp [yld_some, exec_reg, exec_dreg, exec_seq, exec_cond, exec_block, exec_scope, exec_exit, exec_ret, exec_skip, exec_loop, ops_nil, ops_cons, ops_cons_gd, stages_nil, stages_cons_n, stages_cons_h, recheck, wantsOp, AV.same, sames, evalOp_p, evalOp_r, evalOp_a, evalOp_call, evalOp_callV, evalOp_store, evalOp_append, evalOp_clear, evalOp_mapUpdate, evalOp_delete, pP_move, pP_pick, pP_build, pP_nil_ptr, pP_nil_func, pP_bin, pP_eq, pP_neg, pP_inv, pP_not, pP_convInt, pP_convStr, pP_fieldAddr, pP_field, pP_indexAddr, pP_indexStr, pP_sliceStr, pP_sliceSl, pP_lenStr, pP_lenNil, pP_lenSl, pP_min, pP_max, pP_extract, pP_mkfn, bV_sub, bV_quo, bV_rem, bV_and, bV_or, bV_andNot, bV_eql, bV_neq, bV_lss, bV_leq, bV_gtr, bV_geq, bV_shl, bV_str, eV_bool, eV_nn, eV_np, eV_pn, eV_snn, eV_sns, eV_ssn, eV_mnn, eV_mnm, eV_mmn, eV_fnn, eV_fnf, eV_ffn, eV_agg, rP_load, rP_lenNil, rP_str0, rdEl_K, rdK_row, aP_alloc, aP_box, aP_buildSlice, aP_makeSlice, aP_makeMap, aP_toBytes, hP_store, storeK_some, st_K, stK_row, stE_some, cells_agg, cells_bool, scalar_bool, cells_int, scalar_int, cells_str, scalar_str, cells_nilptr, scalar_nilptr, cells_ptr, scalar_ptr, cells_nilslice, scalar_nilslice, cells_slice, scalar_slice, cells_nilmap, scalar_nilmap, cells_map, scalar_map, cells_nilfunc, scalar_nilfunc, cells_func, scalar_func, eqCells, eqLeaf, run_toL, toL_some, ev_toL, getD_toL, put_toL, keep_toL, asc, fput_same, fput_ne, fbase_nil, fbase_cons, fkeep_nil, fkeep_cons, fzero, fnone, List.map_cons, List.map_nil, ev_lit, put_none, resVals, resVal, resOf, partV, fillA, putCells, fillEls, strBin, minV, optNat, appendEls, elsOf, sliceSlV, sliceStrV, List.replicate, List.getElem?_append_left, List.getElem?_append_right, List.set_append_left, List.set_append_right, List.getElem?_set_self, List.getElem?_set_ne, ad_eq, mu_eq, xo_eq, sr30, sr27, sr31]
theorem mix_sf15 (v : Int) (cf : FuncId → List AV → M AV) (h : H) : runFn cf itw sf15 [.int .u64 v] h = some (.int .u64 (mix v), h) := by
  obtain ⟨m, hm⟩ := mix_all ad_eq mu_eq xo_eq sr30 sr27 sr31 11400714819323198485 13787848793156543929 10723151780598845931 v
  obtain ⟨k, hk⟩ := mix_call v
  rw [call_eq fs noEx (f := 15) (sf := sf15) rfl] at hk
  have h1 : runFn (call fs noEx) itw sf15 [.int .u64 v] [] = some (.int .u64 m, []) := hm _ _
  rw [h1] at hk
  have : m = mix v := by cases hk; rfl
  rw [← this]
  exact hm cf h
theorem same16 : sf16 = sf15 := rfl
theorem mix16 (v : Int) (h : H) : call fs0 ex0 16 [.int .u64 v] h = some (.int .u64 (mix v), h) := by
  rw [call_eq fs0 ex0 (f := 16) (sf := sf16) rfl, same16]
  exact mix_sf15 v _ h
theorem seats9_run {cf : FuncId → List AV → M AV} (e16 : ∀ v h, cf 16 [.int .u64 v] h = some (.int .u64 (mix v), h)) {mu ad : Int → Int → Int} (mu_eq : ∀ a b, binV .mul (.int .u64 a) (.int .u64 b) = some (.int .u64 (mu a b))) (ad_eq : ∀ a b, binV .add (.int .u64 a) (.int .u64 b) = some (.int .u64 (ad a b)))
    (id salt c1 c2 : Int) (h : H) :
    ∃ k, runFn cf itw (⟨2, 26, (.seq (.reg [⟨(some 4), .p .move, [.lit .nilslice], none⟩])
  (.seq (.reg [⟨(some 5), .p .move, [.lit .nilslice], none⟩])
  (.seq (.seq (.reg [⟨(some 6), .p .move, [.lit (.int .i64 0)], none⟩])
  (.block 0 (.loop [0, 1, 5, 6] (.seq (.seq (.reg [⟨(some 7), .p .move, [.tmp 6], none⟩,
    ⟨(some 8), .p (.bin .lss), [.tmp 7, .lit (.int .i64 4)], none⟩])
  (.cond (.tmp 8) .skip
  (.exit 0)))
  (.seq (.block 1 (.reg [⟨(some 11), .p .move, [.tmp 5], none⟩,
    ⟨(some 12), .p .move, [.tmp 0], none⟩,
    ⟨(some 13), .p (.convInt .u64), [.tmp 12], none⟩,
    ⟨(some 14), .p (.bin .mul), [.tmp 13, .lit (.int .u64 c1)], none⟩,
    ⟨(some 15), .p .move, [.tmp 1], none⟩,
    ⟨(some 16), .p (.convInt .u64), [.tmp 15], none⟩,
    ⟨(some 17), .p (.bin .mul), [.tmp 16, .lit (.int .u64 c2)], none⟩,
    ⟨(some 18), .p (.bin .add), [.tmp 14, .tmp 17], none⟩,
    ⟨(some 19), .p .move, [.tmp 6], none⟩,
    ⟨(some 20), .p (.convInt .u64), [.tmp 19], none⟩,
    ⟨(some 21), .p (.bin .add), [.tmp 18, .tmp 20], none⟩,
    ⟨(some 22), .h (.call 16), [.tmp 21], none⟩,
    ⟨(some 23), .a (.buildSlice 1 1 [(.int .u64 0)] [0]), [.tmp 22], none⟩,
    ⟨(some 24), .h (.append 1 false), [.tmp 11, .tmp 23], none⟩,
    ⟨(some 5), .p .move, [.tmp 24], none⟩]))
  (.reg [⟨(some 9), .p .move, [.tmp 6], none⟩,
    ⟨(some 10), .p (.bin .add), [.tmp 9, .lit (.int .i64 1)], none⟩,
    ⟨(some 6), .p .move, [.tmp 10], none⟩]))))))
  (.seq (.reg [⟨(some 25), .p .move, [.tmp 5], none⟩,
    ⟨(some 4), .p .move, [.tmp 25], none⟩])
  .ret)))), [.tmp 4]⟩) [.int .i64 id, .int .i64 salt] h = some (.slice (h.length + 7) 1 0 4 4 false, h ++ k) ∧
      (h ++ k)[h.length + 7]? = some (.row 1 (pts [sval c1 c2 mu ad id salt 0, sval c1 c2 mu ad id salt 1, sval c1 c2 mu ad id salt 2, sval c1 c2 mu ad id salt 3]) true true) := by
  have j0 : binV .add (.int .i64 0) (.int .i64 1) = some (.int .i64 1) := by rw [bV_add]; rfl
  have j1 : binV .add (.int .i64 1) (.int .i64 1) = some (.int .i64 2) := by rw [bV_add]; rfl
  have j2 : binV .add (.int .i64 2) (.int .i64 1) = some (.int .i64 3) := by rw [bV_add]; rfl
  have j3 : binV .add (.int .i64 3) (.int .i64 1) = some (.int .i64 4) := by rw [bV_add]; rfl
  have u0 : IntKind.u64.wrap 0 = 0 := rfl
  have u1 : IntKind.u64.wrap 1 = 1 := rfl
  have u2 : IntKind.u64.wrap 2 = 2 := rfl
  have u3 : IntKind.u64.wrap 3 = 3 := rfl
  simp [itw_eq, appendV, evalHeap, yld_some, exec_reg, exec_dreg, exec_seq, exec_cond, exec_block, exec_scope, exec_exit, exec_ret, exec_skip, exec_loop, ops_nil, ops_cons, ops_cons_gd, stages_nil, stages_cons_n, stages_cons_h, recheck, wantsOp, AV.same, sames, evalOp_p, evalOp_r, evalOp_a, evalOp_call, evalOp_callV, evalOp_store, evalOp_append, evalOp_clear, evalOp_mapUpdate, evalOp_delete, pP_move, pP_pick, pP_build, pP_nil_ptr, pP_nil_func, pP_bin, pP_eq, pP_neg, pP_inv, pP_not, pP_convInt, pP_convStr, pP_fieldAddr, pP_field, pP_indexAddr, pP_indexStr, pP_sliceStr, pP_sliceSl, pP_lenStr, pP_lenNil, pP_lenSl, pP_min, pP_max, pP_extract, pP_mkfn, bV_sub, bV_quo, bV_rem, bV_and, bV_or, bV_xor, bV_andNot, bV_eql, bV_neq, bV_lss, bV_leq, bV_gtr, bV_geq, bV_shl, bV_shr, bV_str, eV_bool, eV_nn, eV_np, eV_pn, eV_snn, eV_sns, eV_ssn, eV_mnn, eV_mnm, eV_mmn, eV_fnn, eV_fnf, eV_ffn, eV_agg, rP_load, rP_lenNil, rP_str0, rdEl_K, rdK_row, aP_alloc, aP_box, aP_buildSlice, aP_makeSlice, aP_makeMap, aP_toBytes, hP_store, storeK_some, st_K, stK_row, stE_some, cells_agg, cells_bool, scalar_bool, cells_int, scalar_int, cells_str, scalar_str, cells_nilptr, scalar_nilptr, cells_ptr, scalar_ptr, cells_nilslice, scalar_nilslice, cells_slice, scalar_slice, cells_nilmap, scalar_nilmap, cells_map, scalar_map, cells_nilfunc, scalar_nilfunc, cells_func, scalar_func, eqCells, eqLeaf, run_toL, toL_some, ev_toL, getD_toL, put_toL, keep_toL, asc, fput_same, fput_ne, fbase_nil, fbase_cons, fkeep_nil, fkeep_cons, fzero, fnone, List.map_cons, List.map_nil, ev_lit, put_none, resVals, resVal, resOf, partV, fillA, putCells, fillEls, strBin, minV, optNat, appendEls, elsOf, sliceSlV, sliceStrV, List.replicate, List.getElem?_append_left, List.getElem?_append_right, List.set_append_left, List.set_append_right, List.getElem?_set_self, List.getElem?_set_ne, hp_get0, hp_get, hp_get2, hp_set0, hp_set, hq_get0, hq_get, hq_get2, mu_eq, ad_eq, j0, j1, j2, j3, u0, u1, u2, u3, e16]
  rfl
theorem pts_inj : ∀ {a b : List Int}, pts a = pts b → a = b
  | [], [], _ => rfl
  | [], _ :: _, h => by simp [pts] at h
  | _ :: _, [], h => by simp [pts] at h
  | x :: a, y :: b, h => by
    simp only [pts, List.map_cons, List.cons.injEq] at h
    obtain ⟨h1, h2⟩ := h
    have := pts_inj (a := a) (b := b) h2
    simp at h1
    rw [h1, this]
theorem sts_eq (id salt : Int) : sts id salt = [sval 1000003 7919 mu ad id salt 0, sval 1000003 7919 mu ad id salt 1, sval 1000003 7919 mu ad id salt 2, sval 1000003 7919 mu ad id salt 3] := by
  obtain ⟨k, e, hb⟩ := seats_call id salt []
  have h2 := seats_run (cf := call fs0 ex0) (fun v h => (e0_15 _ _).trans rfl) mu_eq ad_eq (by rw [ad_val]; exact wrap_u64 (by omega) (by omega)) (by rw [ad_val]; exact wrap_u64 (by omega) (by omega)) (by rw [ad_val]; exact wrap_u64 (by omega) (by omega)) (by rw [ad_val]; exact wrap_u64 (by omega) (by omega)) id salt 1000003 7919 []
  obtain ⟨k', e', hb'⟩ := h2
  rw [call_eq fs0 ex0 (f := 11) (sf := sf11) rfl] at e
  have e2 := e.symm.trans e'
  simp only [Option.some.injEq, Prod.mk.injEq] at e2
  rw [e2.2, hb'] at hb
  simp only [Option.some.injEq, Blk.row.injEq] at hb
  exact (pts_inj hb.2.1).symm
theorem seats9_call (id salt : Int) (h : H) : ∃ k, call fs0 ex0 9 [.int .i64 id, .int .i64 salt] h = some (.slice (h.length + 7) 1 0 4 4 false, h ++ k) ∧ (h ++ k)[h.length + 7]? = some (.row 1 (pts (sts id salt)) true true) := by
  rw [call_eq fs0 ex0 (f := 9) (sf := sf9) rfl, sts_eq]
  exact seats9_run mix16 mu_eq ad_eq id salt _ _ h
end Go.Proofs.Ythomemhollhljaa.St
