/- Guest: GuestOnce over the engine. -/
import Derived.Test.YtolnmgekneoaaaaGuestD
import Derived.Test.YtolnmgekneoaaaaEngW
set_option maxRecDepth 100000
set_option linter.unusedVariables false
set_option linter.unusedSimpArgs false
namespace Go.Proofs.Ytolnmgekneoaaaa.Gu
open Go Go.Eng F

set_option maxHeartbeats 4000000 in
theorem once_call (e : Int) (v : List UInt8) (h : H) : ∃ k, call fs2 ex2 3 [.int .i64 e, .str v] h = some (.bool true, k) := by
  rw [call_eq fs2 ex2 (f := 3) (sf := sf3) rfl]
  have w1 : IntKind.i64.wrap 1 = 1 := wrap_i64 (by omega) (by omega)
  have w2 : IntKind.i64.wrap 2 = 2 := wrap_i64 (by omega) (by omega)
  cases h7 : (e == 7) <;> cases h8 : (e == 8) <;> have h7' : (e != 7) = !(e == 7) := rfl <;> have h8' : (e != 8) = !(e == 8) := rfl <;> rw [h7] at h7' <;> rw [h8] at h8' <;>
    simp [sf3, yld_some, exec_reg, exec_dreg, exec_seq, exec_cond, exec_block, exec_scope, exec_exit, exec_ret, exec_skip, exec_loop, ops_nil, ops_cons, ops_cons_gd, stages_nil, stages_cons_n, stages_cons_h, recheck, wantsOp, AV.same, sames, evalOp_p, evalOp_r, evalOp_a, evalOp_call, evalOp_callV, evalOp_store, evalOp_append, evalOp_clear, evalOp_mapUpdate, evalOp_delete, pP_move, pP_pick, pP_build, pP_nil_ptr, pP_nil_func, pP_bin, pP_eq, pP_neg, pP_inv, pP_not, pP_convInt, pP_convStr, pP_fieldAddr, pP_field, pP_indexAddr, pP_indexStr, pP_sliceStr, pP_sliceSl, pP_lenStr, pP_lenNil, pP_lenSl, pP_min, pP_max, pP_extract, pP_mkfn, bV_add, bV_sub, bV_mul, bV_quo, bV_rem, bV_and, bV_or, bV_xor, bV_andNot, bV_eql, bV_neq, bV_lss, bV_leq, bV_gtr, bV_geq, bV_shl, bV_shr, bV_str, eV_bool, eV_nn, eV_np, eV_pn, eV_snn, eV_sns, eV_ssn, eV_mnn, eV_mnm, eV_mmn, eV_fnn, eV_fnf, eV_ffn, eV_agg, rP_load, rP_lenNil, rP_str0, rdEl_K, rdK_row, aP_alloc, aP_box, aP_buildSlice, aP_makeSlice, aP_makeMap, aP_toBytes, hP_store, storeK_some, st_K, stK_row, stE_some, cells_agg, cells_bool, scalar_bool, cells_int, scalar_int, cells_str, scalar_str, cells_nilptr, scalar_nilptr, cells_ptr, scalar_ptr, cells_nilslice, scalar_nilslice, cells_slice, scalar_slice, cells_nilmap, scalar_nilmap, cells_map, scalar_map, cells_nilfunc, scalar_nilfunc, cells_func, scalar_func, eqCells, eqLeaf, run_toL, toL_some, ev_toL, getD_toL, put_toL, keep_toL, asc, fput_same, fput_ne, fbase_nil, fbase_cons, fkeep_nil, fkeep_cons, fzero, fnone, List.map_cons, List.map_nil, ev_lit, put_none, resVals, resVal, resOf, partV, fillA, putCells, fillEls, strBin, minV, optNat, appendEls, elsOf, sliceSlV, sliceStrV, List.replicate, List.getElem?_append_left, List.getElem?_append_right, List.set_append_left, List.set_append_right, List.getElem?_set_self, List.getElem?_set_ne, hq_get0, hq_get, hq_get2, hq_get3, hp_get0, hp_get, hp_get2, hp_get3, hp_set0, hp_set, hp_set2, hp_set3, ex2, gsOf, startR, newR, gotR, tickR, resR, Gs.av, Gs.start, Gs.fresh, Gs.ended, Gs.busy, Gs.moved, Gs.next, Gs.ltr, Te.av, Te.zero, tmo, As.av, Lt.av, e2_10, e2_11, e2_12, e2_13, e2_14, e2_15, e2_16, e2_24, h7, h8, h7', h8', w1, w2]
end Go.Proofs.Ytolnmgekneoaaaa.Gu
namespace Go.Proofs.Ytolnmgekneoaaaa.Pure
open Go Go.Eng
theorem GuestOnce : LawOk Try.prog 3 F.ss3 := by
  refine ⟨Gu.fs2, Gu.ex2, Gu.fs2_ok, Gu.ex2_ok, fun vs h _ hv => ?_⟩
  simp only [F.ss3, HasVs, HasV, HasF, Has] at hv
  obtain ⟨_, _, rfl, ⟨e, hx, _⟩, _, _, rfl, ⟨v, hy, _⟩, rfl⟩ := hv
  cases hx
  cases hy
  obtain ⟨k, hk⟩ := Gu.once_call e v h
  exact ⟨_, hk, rfl⟩
end Go.Proofs.Ytolnmgekneoaaaa.Pure
