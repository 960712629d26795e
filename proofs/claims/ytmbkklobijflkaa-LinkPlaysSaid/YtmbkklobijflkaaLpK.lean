/- Link: LinkPlays over the engine: what is looked at behind each thing; the packets of a tick. -/
import Derived.Test.YtmbkklobijflkaaLpJ
set_option maxRecDepth 100000
set_option linter.unusedVariables false
set_option linter.unusedSimpArgs false
namespace Go.Proofs.Ytmbkklobijflkaa.Lp
open Go Go.Eng F Lk Bk BkI

section
variable {k : H} {tg : Nat → Nat} {hK : Nat → Blk → Prop} {g m r bk n : Nat} {s : Ls} {q : Rs}
/-- What is looked at behind each thing that is done. -/
theorem St.tail (S : St k tg hK g m r bk n s q) (hn : n ≤ 1000) : ∃ (w c u z : Int) (b : Bool) (ov kv : AV), call Lp.fs3 Lp.ex3 16 [.ptr g 0 0] k = some (.int .i64 w, k) ∧ call Lp.fs3 Lp.ex3 13 [.ptr g 0 0] k = some (.int .i64 c, k) ∧ call Lp.fs3 Lp.ex3 14 [.ptr g 0 0] k = some (.bool b, k) ∧
    k[r]? = some (.row 7 [[.int .i64 q.me, .int .i64 q.peer, .int .i64 q.sent, ov, .int .i64 c, kv, .int .i64 q.now]] true true) ∧ evalP .lenSl [ov] = some (.int .i64 w) ∧ evalP .lenSl [kv] = some (.int .i64 u) ∧ IntKind.i64.wrap (w + u) = z ∧ (z == 0) = b ∧
    (ov.cells = some [ov] ∧ ov.scalar = true ∧ AV.same ov ov = true) ∧ (kv.cells = some [kv] ∧ kv.scalar = true ∧ AV.same kv kv = true) := by
  obtain ⟨v, l, hv⟩ := S.lh.at_
  obtain ⟨ov, kv, a, h1, h2⟩ := S.rh.at_
  have lo := a.oo.len
  have lk := a.kk.len
  rw [rns_len, S.sm.O] at lo
  rw [pvs_len, ← S.sm.kept.len] at lk
  have row := a.row
  unfold rrow at row
  rw [S.sm.came] at row
  have bw := S.bd.waits
  have bc := S.bd.came
  refine ⟨_, _, _, _, _, ov, kv, waits_call l, came_call l, rest_call l, row, lo, lk, wrap_i64 (by omega) (by omega), ?_, a.oo.cells, a.kk.cells⟩
  by_cases h1 : s.waits.length = 0
  · by_cases h2 : s.kept.length = 0
    · rw [h1, h2]; rfl
    · rw [dec_false h2, Bool.and_false]; exact beq_false (by omega)
  · rw [dec_false h1, Bool.false_and]; exact beq_false (by omega)
end
set_option maxHeartbeats 4000000 in
theorem pk_loop {lv : List Nat} {body : SCode} (hb : (loopsAll sf6.body)[1]? = some (lv, body)) {f : Nat → AV} {k : H} {x y : AV} {L : List Pk} (hx : RdS k 25 x (pks L)) (hy : RdS k 25 y (pks L)) (hl : L.length ≤ 1000) (f13 : f 13 = x) (f14 : f 14 = y) (f15 : f 15 = .int .i64 0) {R : (Ex × Env) × H → Prop}
    (hR : ∀ f' k', f' 0 = f 0 → f' 1 = f 1 → f' 2 = f 2 → f' 7 = f 7 → f' 8 = f 8 → f' 9 = f 9 → f' 10 = f 10 → Chg k k' [] → R ((.exit 3, toL 224 f'), k')) :
    Yld (itw (fun env => exec (call Lp.fs3 Lp.ex3) itw body (keepFrom lv 0 env)) (toL 224 f) k) R := by
  simp [sf6, loopsAll] at hb
  obtain ⟨rfl, rfl⟩ := hb
  have pl : (pks L).length = L.length := by simp [pks]
  refine yld_rounds (fun m e k' => ∃ f' j, e = toL 224 f' ∧ m = L.length - j ∧ j ≤ L.length ∧ f' 0 = f 0 ∧ f' 1 = f 1 ∧ f' 2 = f 2 ∧ f' 7 = f 7 ∧ f' 8 = f 8 ∧ f' 9 = f 9 ∧ f' 10 = f 10 ∧ f' 13 = x ∧ f' 14 = y ∧ f' 15 = .int .i64 (j : Nat) ∧ Chg k k' []) (L.length - 0) ?_ ?_
  · exact ⟨f, 0, rfl, rfl, by omega, rfl, rfl, rfl, rfl, rfl, rfl, rfl, f13, f14, f15, Chg.refl _ _⟩
  · generalize f 0 = w0 at hR ⊢
    generalize f 1 = w1 at hR ⊢
    generalize f 2 = w2 at hR ⊢
    generalize f 7 = w7 at hR ⊢
    generalize f 8 = w8 at hR ⊢
    generalize f 9 = w9 at hR ⊢
    generalize f 10 = w10 at hR ⊢
    clear f13 f14 f15
    rintro J R' hJ hR' z e k' ⟨f, j, rfl, rfl, hj, f0, f1, f2, f7, f8, f9, f10, f13, f14, f15, ch⟩
    have lx := hx.len
    have ly := hy.len
    rw [pl] at lx ly
    by_cases hjn : j < L.length
    · have hnd : decide ((j : Int) < (L.length : Nat)) = true := dec_true (by omega)
      have hw : IntKind.i64.wrap ((j : Int) + 1) = ((j + 1 : Nat) : Int) := wrap_i64 (by omega) (by omega)
      obtain ⟨ix, gx⟩ := (hx.keep ch (by simp)).idx (i := j) (by rw [pl]; exact hjn)
      obtain ⟨iy, gy⟩ := (hy.keep ch (by simp)).idx (i := j) (by rw [pl]; exact hjn)
      have hp : (pks L)[j]? = some (L[j]).av := by simp [pks, hjn]
      rw [hp] at gx gy
      obtain ⟨_, e17, k2, rfl, c2⟩ := same_pk k' L[j]
      unfold Pk.av at gx gy e17
      simp [yld_some, exec_reg, exec_dreg, exec_seq, exec_cond, exec_block, exec_scope, exec_exit, exec_ret, exec_skip, exec_loop, ops_nil, ops_cons, ops_cons_gd, stages_nil, stages_cons_n, stages_cons_h, recheck, wantsOp, AV.same, sames, evalOp_p, evalOp_r, evalOp_a, evalOp_call, evalOp_callV, evalOp_store, evalOp_append, evalOp_clear, evalOp_mapUpdate, evalOp_delete, pP_move, pP_pick, pP_build, pP_nil_ptr, pP_nil_func, pP_bin, pP_eq, pP_neg, pP_inv, pP_not, pP_convInt, pP_convStr, pP_fieldAddr, pP_field, pP_indexAddr, pP_indexStr, pP_sliceStr, pP_sliceSl, pP_lenStr, pP_lenNil, pP_lenSl, pP_min, pP_max, pP_extract, pP_mkfn, bV_add, bV_sub, bV_mul, bV_quo, bV_rem, bV_and, bV_or, bV_xor, bV_andNot, bV_eql, bV_neq, bV_lss, bV_leq, bV_gtr, bV_geq, bV_shl, bV_shr, bV_str, eV_bool, eV_nn, eV_np, eV_pn, eV_snn, eV_sns, eV_ssn, eV_mnn, eV_mnm, eV_mmn, eV_fnn, eV_fnf, eV_ffn, eV_agg, rP_load, rP_lenNil, rP_str0, rdEl_K, rdK_row, aP_alloc, aP_box, aP_buildSlice, aP_makeSlice, aP_makeMap, aP_toBytes, hP_store, storeK_some, st_K, stK_row, stE_some, cells_agg, cells_bool, scalar_bool, cells_int, scalar_int, cells_str, scalar_str, cells_nilptr, scalar_nilptr, cells_ptr, scalar_ptr, cells_nilslice, scalar_nilslice, cells_slice, scalar_slice, cells_nilmap, scalar_nilmap, cells_map, scalar_map, cells_nilfunc, scalar_nilfunc, cells_func, scalar_func, eqCells, eqLeaf, run_toL, toL_some, ev_toL, getD_toL, put_toL, keep_toL, asc, fput_same, fput_ne, fbase_nil, fbase_cons, fkeep_nil, fkeep_cons, fzero, fnone, List.map_cons, List.map_nil, ev_lit, put_none, resVals, resVal, resOf, partV, fillA, putCells, fillEls, strBin, minV, optNat, appendEls, elsOf, sliceSlV, sliceStrV, List.replicate, List.getElem?_append_left, List.getElem?_append_right, List.set_append_left, List.set_append_right, List.getElem?_set_self, List.getElem?_set_ne, hq_get0, hq_get, hq_get2, hq_get3, hp_get0, hp_get, hp_get2, hp_get3, hp_set0, hp_set, hp_set2, hp_set3, wr_0, wr_1, wr_2, wr_3, wr_4, wr_n1, f0, f1, f2, f7, f8, f9, f10, f13, f14, f15, lx, ly, hnd, hjn, ix, iy, gx, gy, e17, hw]
      exact ⟨L.length - (j + 1), by omega, hJ _ _ _ ⟨_, j + 1, rfl, rfl, by omega, rfl, rfl, rfl, rfl, rfl, rfl, rfl, rfl, rfl, rfl, ch.trans c2 (by simp)⟩⟩
    · have hnd : decide ((j : Int) < (L.length : Nat)) = false := dec_false (by omega)
      simp [yld_some, exec_reg, exec_dreg, exec_seq, exec_cond, exec_block, exec_scope, exec_exit, exec_ret, exec_skip, exec_loop, ops_nil, ops_cons, ops_cons_gd, stages_nil, stages_cons_n, stages_cons_h, recheck, wantsOp, AV.same, sames, evalOp_p, evalOp_r, evalOp_a, evalOp_call, evalOp_callV, evalOp_store, evalOp_append, evalOp_clear, evalOp_mapUpdate, evalOp_delete, pP_move, pP_pick, pP_build, pP_nil_ptr, pP_nil_func, pP_bin, pP_eq, pP_neg, pP_inv, pP_not, pP_convInt, pP_convStr, pP_fieldAddr, pP_field, pP_indexAddr, pP_indexStr, pP_sliceStr, pP_sliceSl, pP_lenStr, pP_lenNil, pP_lenSl, pP_min, pP_max, pP_extract, pP_mkfn, bV_add, bV_sub, bV_mul, bV_quo, bV_rem, bV_and, bV_or, bV_xor, bV_andNot, bV_eql, bV_neq, bV_lss, bV_leq, bV_gtr, bV_geq, bV_shl, bV_shr, bV_str, eV_bool, eV_nn, eV_np, eV_pn, eV_snn, eV_sns, eV_ssn, eV_mnn, eV_mnm, eV_mmn, eV_fnn, eV_fnf, eV_ffn, eV_agg, rP_load, rP_lenNil, rP_str0, rdEl_K, rdK_row, aP_alloc, aP_box, aP_buildSlice, aP_makeSlice, aP_makeMap, aP_toBytes, hP_store, storeK_some, st_K, stK_row, stE_some, cells_agg, cells_bool, scalar_bool, cells_int, scalar_int, cells_str, scalar_str, cells_nilptr, scalar_nilptr, cells_ptr, scalar_ptr, cells_nilslice, scalar_nilslice, cells_slice, scalar_slice, cells_nilmap, scalar_nilmap, cells_map, scalar_map, cells_nilfunc, scalar_nilfunc, cells_func, scalar_func, eqCells, eqLeaf, run_toL, toL_some, ev_toL, getD_toL, put_toL, keep_toL, asc, fput_same, fput_ne, fbase_nil, fbase_cons, fkeep_nil, fkeep_cons, fzero, fnone, List.map_cons, List.map_nil, ev_lit, put_none, resVals, resVal, resOf, partV, fillA, putCells, fillEls, strBin, minV, optNat, appendEls, elsOf, sliceSlV, sliceStrV, List.replicate, List.getElem?_append_left, List.getElem?_append_right, List.set_append_left, List.set_append_right, List.getElem?_set_self, List.getElem?_set_ne, hq_get0, hq_get, hq_get2, hq_get3, hp_get0, hp_get, hp_get2, hp_get3, hp_set0, hp_set, hp_set2, hp_set3, wr_0, wr_1, wr_2, wr_3, wr_4, wr_n1, f0, f1, f2, f7, f8, f9, f10, f13, f14, f15, lx, ly, hnd, hjn]
      exact hR' _ (hR _ _ rfl rfl rfl rfl rfl rfl rfl ch)
end Go.Proofs.Ytmbkklobijflkaa.Lp
