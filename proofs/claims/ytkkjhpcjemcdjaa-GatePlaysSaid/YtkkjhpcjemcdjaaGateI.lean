/- Gate: GatePlays over the engine. (written by genplays.py) -/
import Derived.Test.YtkkjhpcjemcdjaaGateH
set_option maxRecDepth 100000
set_option linter.unusedVariables false
set_option linter.unusedSimpArgs false
namespace Go.Proofs.Ytkkjhpcjemcdjaa.Gt
open Go Go.Eng F

def loopsAll : SCode → List (List Nat × SCode)
  | .loop l b => (l, b) :: loopsAll b
  | .seq a b => loopsAll a ++ loopsAll b
  | .cond _ a b => loopsAll a ++ loopsAll b
  | .block _ a => loopsAll a
  | .scope a => loopsAll a
  | _ => []
def opB (kd nd n oa ob : Int) : Blk := .row 5 [[.int .i64 kd, .int .i64 nd, .int .i64 n, .int .u64 oa, .int .u64 ob]] true true
set_option maxHeartbeats 8000000 in
theorem tick_loop {lv : List Nat} {body : SCode} (hb : (loopsAll sf6.body)[1]? = some (lv, body)) {f : Nat → AV} {k : H} {K : List (Nat × Blk)} {g r o : Nat} {s : Bool} {a b A B kd nd n oa ob : Int} {P : List Pt}
    (t : Tw k K g r s a b P s A B P) (hlen : P.length < 4294967296) (hold : ∀ p ∈ P, 0 ≤ p.old ∧ p.old < 40) (ho : (o, opB kd nd n oa ob) ∈ K)
    (f5 : f 5 = .ptr g 0 0) (f6 : f 6 = .ptr r 0 0) (f8 : f 8 = .ptr o 0 0) (f9 : f 9 = .int .i64 0) {R : (Ex × Env) × H → Prop}
    (hR : ∀ f' k' P', f' 0 = f 0 → f' 1 = f 1 → f' 5 = .ptr g 0 0 → f' 6 = .ptr r 0 0 → f' 7 = f 7 → f' 8 = .ptr o 0 0 → Tw k' K g r s a b P' s A B P' → P'.length ≤ P.length → (∀ p ∈ P', 0 ≤ p.old ∧ p.old < 40) → R ((.exit 3, toL 243 f'), k')) :
    Yld (itw (fun env => exec (call fs1 ex1) itw body (keepFrom lv 0 env)) (toL 243 f) k) R := by
  simp [sf6, loopsAll] at hb
  obtain ⟨rfl, rfl⟩ := hb
  refine yld_rounds (fun m e k' => ∃ f' j P', e = toL 243 f' ∧ m = 60 - j ∧ j ≤ 60 ∧ f' 0 = f 0 ∧ f' 1 = f 1 ∧ f' 5 = .ptr g 0 0 ∧ f' 6 = .ptr r 0 0 ∧ f' 7 = f 7 ∧ f' 8 = .ptr o 0 0 ∧ f' 9 = .int .i64 (j : Nat) ∧ Tw k' K g r s a b P' s A B P' ∧ P'.length ≤ P.length ∧ (∀ p ∈ P', 0 ≤ p.old ∧ p.old < 40)) (60 - 0) ?_ ?_
  · exact ⟨f, 0, P, rfl, rfl, by omega, rfl, rfl, f5, f6, rfl, f8, f9, t, Nat.le_refl _, hold⟩
  · generalize f 0 = w0 at hR ⊢
    generalize f 1 = w1 at hR ⊢
    generalize f 7 = w7 at hR ⊢
    clear f5 f6 f8 f9 t
    rintro J R' hJ hR' z e k' ⟨f, j, P', rfl, rfl, hj, f0, f1, f5, f6, f7, f8, f9, t, hl, hold⟩
    have hok := t.get ho
    simp only [opB] at hok
    by_cases hn : (j : Int) < n
    · have hnd : decide ((j : Int) < n) = true := dec_true hn
      by_cases hj60 : j < 60
      · have hj60i : decide ((j : Int) < 60) = true := dec_true (by omega)
        have hw : IntKind.i64.wrap ((j : Int) + 1) = ((j + 1 : Nat) : Int) := wrap_i64 (by omega) (by omega)
        obtain ⟨k2, e9, t2⟩ := tw_tick t (by omega) hold
        obtain ⟨k3, e18, t3⟩ := tw_rtick t2.symm (by omega) hold
        simp [yld_some, exec_reg, exec_dreg, exec_seq, exec_cond, exec_block, exec_scope, exec_exit, exec_ret, exec_skip, exec_loop, ops_nil, ops_cons, ops_cons_gd, stages_nil, stages_cons_n, stages_cons_h, recheck, wantsOp, AV.same, sames, evalOp_p, evalOp_r, evalOp_a, evalOp_call, evalOp_callV, evalOp_store, evalOp_append, evalOp_clear, evalOp_mapUpdate, evalOp_delete, pP_move, pP_pick, pP_build, pP_nil_ptr, pP_nil_func, pP_bin, pP_eq, pP_neg, pP_inv, pP_not, pP_convInt, pP_convStr, pP_fieldAddr, pP_field, pP_indexAddr, pP_indexStr, pP_sliceStr, pP_sliceSl, pP_lenStr, pP_lenNil, pP_lenSl, pP_min, pP_max, pP_extract, pP_mkfn, bV_add, bV_sub, bV_mul, bV_quo, bV_rem, bV_and, bV_or, bV_xor, bV_andNot, bV_eql, bV_neq, bV_lss, bV_leq, bV_gtr, bV_geq, bV_shl, bV_shr, bV_str, eV_bool, eV_nn, eV_np, eV_pn, eV_snn, eV_sns, eV_ssn, eV_mnn, eV_mnm, eV_mmn, eV_fnn, eV_fnf, eV_ffn, eV_agg, rP_load, rP_lenNil, rP_str0, rdEl_K, rdK_row, aP_alloc, aP_box, aP_buildSlice, aP_makeSlice, aP_makeMap, aP_toBytes, hP_store, storeK_some, st_K, stK_row, stE_some, cells_agg, cells_bool, scalar_bool, cells_int, scalar_int, cells_str, scalar_str, cells_nilptr, scalar_nilptr, cells_ptr, scalar_ptr, cells_nilslice, scalar_nilslice, cells_slice, scalar_slice, cells_nilmap, scalar_nilmap, cells_map, scalar_map, cells_nilfunc, scalar_nilfunc, cells_func, scalar_func, eqCells, eqLeaf, run_toL, toL_some, ev_toL, getD_toL, put_toL, keep_toL, asc, fput_same, fput_ne, fbase_nil, fbase_cons, fkeep_nil, fkeep_cons, fzero, fnone, List.map_cons, List.map_nil, ev_lit, put_none, resVals, resVal, resOf, partV, fillA, putCells, fillEls, strBin, minV, optNat, appendEls, elsOf, sliceSlV, sliceStrV, List.replicate, List.getElem?_append_left, List.getElem?_append_right, List.set_append_left, List.set_append_right, List.getElem?_set_self, List.getElem?_set_ne, hq_get0, hq_get, hq_get2, hq_get3, hp_get0, hp_get, hp_get2, hp_get3, hp_set0, hp_set, hp_set2, hp_set3, wr_0, wr_1, wr_2, wr_3, wr_4, wr_n1, f0, f1, f5, f6, f7, f8, f9, hok, get_app hok, set_app hok, get_set_same hok, get_set_app hok, set_set_app hok, len_beq hok, beq_len hok, hn, hnd, hj60, hj60i, e9, e18, hw]
        exact ⟨60 - (j + 1), by omega, hJ _ _ _ ⟨_, j + 1, tick P', rfl, rfl, by omega, rfl, rfl, rfl, rfl, rfl, rfl, rfl, t3.symm, Nat.le_trans (tick_len _) hl, tick_old hold⟩⟩
      · have hj60i : decide ((j : Int) < 60) = false := dec_false (by omega)
        simp [yld_some, exec_reg, exec_dreg, exec_seq, exec_cond, exec_block, exec_scope, exec_exit, exec_ret, exec_skip, exec_loop, ops_nil, ops_cons, ops_cons_gd, stages_nil, stages_cons_n, stages_cons_h, recheck, wantsOp, AV.same, sames, evalOp_p, evalOp_r, evalOp_a, evalOp_call, evalOp_callV, evalOp_store, evalOp_append, evalOp_clear, evalOp_mapUpdate, evalOp_delete, pP_move, pP_pick, pP_build, pP_nil_ptr, pP_nil_func, pP_bin, pP_eq, pP_neg, pP_inv, pP_not, pP_convInt, pP_convStr, pP_fieldAddr, pP_field, pP_indexAddr, pP_indexStr, pP_sliceStr, pP_sliceSl, pP_lenStr, pP_lenNil, pP_lenSl, pP_min, pP_max, pP_extract, pP_mkfn, bV_add, bV_sub, bV_mul, bV_quo, bV_rem, bV_and, bV_or, bV_xor, bV_andNot, bV_eql, bV_neq, bV_lss, bV_leq, bV_gtr, bV_geq, bV_shl, bV_shr, bV_str, eV_bool, eV_nn, eV_np, eV_pn, eV_snn, eV_sns, eV_ssn, eV_mnn, eV_mnm, eV_mmn, eV_fnn, eV_fnf, eV_ffn, eV_agg, rP_load, rP_lenNil, rP_str0, rdEl_K, rdK_row, aP_alloc, aP_box, aP_buildSlice, aP_makeSlice, aP_makeMap, aP_toBytes, hP_store, storeK_some, st_K, stK_row, stE_some, cells_agg, cells_bool, scalar_bool, cells_int, scalar_int, cells_str, scalar_str, cells_nilptr, scalar_nilptr, cells_ptr, scalar_ptr, cells_nilslice, scalar_nilslice, cells_slice, scalar_slice, cells_nilmap, scalar_nilmap, cells_map, scalar_map, cells_nilfunc, scalar_nilfunc, cells_func, scalar_func, eqCells, eqLeaf, run_toL, toL_some, ev_toL, getD_toL, put_toL, keep_toL, asc, fput_same, fput_ne, fbase_nil, fbase_cons, fkeep_nil, fkeep_cons, fzero, fnone, List.map_cons, List.map_nil, ev_lit, put_none, resVals, resVal, resOf, partV, fillA, putCells, fillEls, strBin, minV, optNat, appendEls, elsOf, sliceSlV, sliceStrV, List.replicate, List.getElem?_append_left, List.getElem?_append_right, List.set_append_left, List.set_append_right, List.getElem?_set_self, List.getElem?_set_ne, hq_get0, hq_get, hq_get2, hq_get3, hp_get0, hp_get, hp_get2, hp_get3, hp_set0, hp_set, hp_set2, hp_set3, wr_0, wr_1, wr_2, wr_3, wr_4, wr_n1, f0, f1, f5, f6, f7, f8, f9, hok, get_app hok, set_app hok, get_set_same hok, get_set_app hok, set_set_app hok, len_beq hok, beq_len hok, hn, hnd, hj60, hj60i]
        exact hR' _ (hR _ _ P' rfl rfl rfl rfl rfl rfl t hl hold)
    · have hnd : decide ((j : Int) < n) = false := dec_false hn
      simp [yld_some, exec_reg, exec_dreg, exec_seq, exec_cond, exec_block, exec_scope, exec_exit, exec_ret, exec_skip, exec_loop, ops_nil, ops_cons, ops_cons_gd, stages_nil, stages_cons_n, stages_cons_h, recheck, wantsOp, AV.same, sames, evalOp_p, evalOp_r, evalOp_a, evalOp_call, evalOp_callV, evalOp_store, evalOp_append, evalOp_clear, evalOp_mapUpdate, evalOp_delete, pP_move, pP_pick, pP_build, pP_nil_ptr, pP_nil_func, pP_bin, pP_eq, pP_neg, pP_inv, pP_not, pP_convInt, pP_convStr, pP_fieldAddr, pP_field, pP_indexAddr, pP_indexStr, pP_sliceStr, pP_sliceSl, pP_lenStr, pP_lenNil, pP_lenSl, pP_min, pP_max, pP_extract, pP_mkfn, bV_add, bV_sub, bV_mul, bV_quo, bV_rem, bV_and, bV_or, bV_xor, bV_andNot, bV_eql, bV_neq, bV_lss, bV_leq, bV_gtr, bV_geq, bV_shl, bV_shr, bV_str, eV_bool, eV_nn, eV_np, eV_pn, eV_snn, eV_sns, eV_ssn, eV_mnn, eV_mnm, eV_mmn, eV_fnn, eV_fnf, eV_ffn, eV_agg, rP_load, rP_lenNil, rP_str0, rdEl_K, rdK_row, aP_alloc, aP_box, aP_buildSlice, aP_makeSlice, aP_makeMap, aP_toBytes, hP_store, storeK_some, st_K, stK_row, stE_some, cells_agg, cells_bool, scalar_bool, cells_int, scalar_int, cells_str, scalar_str, cells_nilptr, scalar_nilptr, cells_ptr, scalar_ptr, cells_nilslice, scalar_nilslice, cells_slice, scalar_slice, cells_nilmap, scalar_nilmap, cells_map, scalar_map, cells_nilfunc, scalar_nilfunc, cells_func, scalar_func, eqCells, eqLeaf, run_toL, toL_some, ev_toL, getD_toL, put_toL, keep_toL, asc, fput_same, fput_ne, fbase_nil, fbase_cons, fkeep_nil, fkeep_cons, fzero, fnone, List.map_cons, List.map_nil, ev_lit, put_none, resVals, resVal, resOf, partV, fillA, putCells, fillEls, strBin, minV, optNat, appendEls, elsOf, sliceSlV, sliceStrV, List.replicate, List.getElem?_append_left, List.getElem?_append_right, List.set_append_left, List.set_append_right, List.getElem?_set_self, List.getElem?_set_ne, hq_get0, hq_get, hq_get2, hq_get3, hp_get0, hp_get, hp_get2, hp_get3, hp_set0, hp_set, hp_set2, hp_set3, wr_0, wr_1, wr_2, wr_3, wr_4, wr_n1, f0, f1, f5, f6, f7, f8, f9, hok, get_app hok, set_app hok, get_set_same hok, get_set_app hok, set_set_app hok, len_beq hok, beq_len hok, hn, hnd]
      exact hR' _ (hR _ _ P' rfl rfl rfl rfl rfl rfl t hl hold)
set_option maxHeartbeats 8000000 in
theorem where_loop {lv : List Nat} {body : SCode} (hb : (loopsAll sf6.body)[2]? = some (lv, body)) {f : Nat → AV} {k : H} {K : List (Nat × Blk)} {g r o : Nat} {s : Bool} {a b A B : Int} {P : List Pt} (ws : List Int) (hws : ws.length = 4)
    (t : Tw k K g r s a b P s A B P) (hlen : P.length < 4294967296) (hsh : s = true → A = a ∧ B = b) (ho : (o, .row 1 (ws.map fun w => [.int .u64 w]) true true) ∈ K)
    (f5 : f 5 = .ptr g 0 0) (f6 : f 6 = .ptr r 0 0) (f165 : f 165 = .slice o 1 0 4 4 true) (f166 : f 166 = .int .i64 4) (f167 : f 167 = .int .i64 0) {R : (Ex × Env) × H → Prop}
    (hR : ∀ f' k', f' 0 = f 0 → f' 1 = f 1 → f' 5 = .ptr g 0 0 → f' 6 = .ptr r 0 0 → f' 7 = f 7 → Tw k' K g r s a b P s A B P → R ((.exit 5, toL 243 f'), k')) :
    Yld (itw (fun env => exec (call fs1 ex1) itw body (keepFrom lv 0 env)) (toL 243 f) k) R := by
  simp [sf6, loopsAll] at hb
  obtain ⟨rfl, rfl⟩ := hb
  refine yld_rounds (fun m e k' => ∃ f' j, e = toL 243 f' ∧ m = 4 - j ∧ j ≤ 4 ∧ f' 0 = f 0 ∧ f' 1 = f 1 ∧ f' 5 = .ptr g 0 0 ∧ f' 6 = .ptr r 0 0 ∧ f' 7 = f 7 ∧ f' 165 = .slice o 1 0 4 4 true ∧ f' 166 = .int .i64 4 ∧ f' 167 = .int .i64 (j : Nat) ∧ Tw k' K g r s a b P s A B P) (4 - 0) ?_ ?_
  · exact ⟨f, 0, rfl, rfl, by omega, rfl, rfl, f5, f6, rfl, f165, f166, f167, t⟩
  · generalize f 0 = w0 at hR ⊢
    generalize f 1 = w1 at hR ⊢
    generalize f 7 = w7 at hR ⊢
    clear f5 f6 f165 f166 f167 t
    rintro J R' hJ hR' z e k' ⟨f, j, rfl, rfl, hj, f0, f1, f5, f6, f7, f165, f166, f167, t⟩
    have hok := t.get ho
    by_cases hj4 : j < 4
    · have hw : IntKind.i64.wrap ((j : Int) + 1) = ((j + 1 : Nat) : Int) := wrap_i64 (by omega) (by omega)
      have hj4i : decide ((j : Int) < 4) = true := dec_true (by omega)
      have hj4p : (j : Int) < 4 := by omega
      have hjw : j < ws.length := by omega
      have hel : (ws.map fun w => [AV.int .u64 w])[j]? = some [AV.int .u64 ws[j]] := by simp [hjw]
      generalize hE : (ws.map fun w => [AV.int .u64 w]) = els at hok hel ho
      have hj5 : j < els.length := by rw [← hE]; simpa using hjw
      have hex : els[j] = [AV.int .u64 ws[j]] := by
        have h0 := List.getElem?_eq_getElem hj5
        rw [hel] at h0; exact (Option.some.inj h0).symm
      generalize ws[j] = x at hel hex
      obtain ⟨k2, e10, t2⟩ := tw_where t hlen x
      obtain ⟨k3, e19, t3⟩ := tw_rwhere t2.symm hlen x
      have e12 := tw_frozen t3.symm x
      have e20 := tw_rfrozen t3 x
      have hfz : (s && inA a b x) = (s && inA A B x) := by
        cases s
        · rfl
        · obtain ⟨rfl, rfl⟩ := hsh rfl; rfl
      rw [← hfz] at e20
      generalize (s && inA a b x) = fz at e12 e20
      have fin : ∀ f', f' 0 = w0 → f' 1 = w1 → f' 5 = .ptr g 0 0 → f' 6 = .ptr r 0 0 → f' 7 = w7 → f' 165 = .slice o 1 0 4 4 true → f' 166 = .int .i64 4 → f' 167 = .int .i64 ((j + 1 : Nat) : Int) → ∃ m, m < 4 - j ∧ J m (toL 243 f') k3 := fun f' q0 q1 q2 q3 q4 q5 q6 q7 => ⟨4 - (j + 1), by omega, hJ _ _ _ ⟨f', j + 1, rfl, rfl, by omega, q0, q1, q2, q3, q4, q5, q6, q7, t3.symm⟩⟩
      cases hlast : lastIn x P with
      | none =>
        rw [hlast] at e10 e19
        simp only [ansOf] at e10 e19
        cases fz <;> simp [yld_some, exec_reg, exec_dreg, exec_seq, exec_cond, exec_block, exec_scope, exec_exit, exec_ret, exec_skip, exec_loop, ops_nil, ops_cons, ops_cons_gd, stages_nil, stages_cons_n, stages_cons_h, recheck, wantsOp, AV.same, sames, evalOp_p, evalOp_r, evalOp_a, evalOp_call, evalOp_callV, evalOp_store, evalOp_append, evalOp_clear, evalOp_mapUpdate, evalOp_delete, pP_move, pP_pick, pP_build, pP_nil_ptr, pP_nil_func, pP_bin, pP_eq, pP_neg, pP_inv, pP_not, pP_convInt, pP_convStr, pP_fieldAddr, pP_field, pP_indexAddr, pP_indexStr, pP_sliceStr, pP_sliceSl, pP_lenStr, pP_lenNil, pP_lenSl, pP_min, pP_max, pP_extract, pP_mkfn, bV_add, bV_sub, bV_mul, bV_quo, bV_rem, bV_and, bV_or, bV_xor, bV_andNot, bV_eql, bV_neq, bV_lss, bV_leq, bV_gtr, bV_geq, bV_shl, bV_shr, bV_str, eV_bool, eV_nn, eV_np, eV_pn, eV_snn, eV_sns, eV_ssn, eV_mnn, eV_mnm, eV_mmn, eV_fnn, eV_fnf, eV_ffn, eV_agg, rP_load, rP_lenNil, rP_str0, rdEl_K, rdK_row, aP_alloc, aP_box, aP_buildSlice, aP_makeSlice, aP_makeMap, aP_toBytes, hP_store, storeK_some, st_K, stK_row, stE_some, cells_agg, cells_bool, scalar_bool, cells_int, scalar_int, cells_str, scalar_str, cells_nilptr, scalar_nilptr, cells_ptr, scalar_ptr, cells_nilslice, scalar_nilslice, cells_slice, scalar_slice, cells_nilmap, scalar_nilmap, cells_map, scalar_map, cells_nilfunc, scalar_nilfunc, cells_func, scalar_func, eqCells, eqLeaf, run_toL, toL_some, ev_toL, getD_toL, put_toL, keep_toL, asc, fput_same, fput_ne, fbase_nil, fbase_cons, fkeep_nil, fkeep_cons, fzero, fnone, List.map_cons, List.map_nil, ev_lit, put_none, resVals, resVal, resOf, partV, fillA, putCells, fillEls, strBin, minV, optNat, appendEls, elsOf, sliceSlV, sliceStrV, List.replicate, List.getElem?_append_left, List.getElem?_append_right, List.set_append_left, List.set_append_right, List.getElem?_set_self, List.getElem?_set_ne, hq_get0, hq_get, hq_get2, hq_get3, hp_get0, hp_get, hp_get2, hp_get3, hp_set0, hp_set, hp_set2, hp_set3, wr_0, wr_1, wr_2, wr_3, wr_4, wr_n1, f0, f1, f5, f6, f7, f165, f166, f167, hok, get_app hok, set_app hok, get_set_same hok, get_set_app hok, set_set_app hok, len_beq hok, beq_len hok, hel, hex, hj4, hj4i, hj4p, hj5, e10, e19, e12, e20, hw] <;> exact fin _ rfl rfl rfl rfl rfl rfl rfl rfl
      | some nn =>
        rw [hlast] at e10 e19
        simp only [ansOf] at e10 e19
        cases fz <;> simp [yld_some, exec_reg, exec_dreg, exec_seq, exec_cond, exec_block, exec_scope, exec_exit, exec_ret, exec_skip, exec_loop, ops_nil, ops_cons, ops_cons_gd, stages_nil, stages_cons_n, stages_cons_h, recheck, wantsOp, AV.same, sames, evalOp_p, evalOp_r, evalOp_a, evalOp_call, evalOp_callV, evalOp_store, evalOp_append, evalOp_clear, evalOp_mapUpdate, evalOp_delete, pP_move, pP_pick, pP_build, pP_nil_ptr, pP_nil_func, pP_bin, pP_eq, pP_neg, pP_inv, pP_not, pP_convInt, pP_convStr, pP_fieldAddr, pP_field, pP_indexAddr, pP_indexStr, pP_sliceStr, pP_sliceSl, pP_lenStr, pP_lenNil, pP_lenSl, pP_min, pP_max, pP_extract, pP_mkfn, bV_add, bV_sub, bV_mul, bV_quo, bV_rem, bV_and, bV_or, bV_xor, bV_andNot, bV_eql, bV_neq, bV_lss, bV_leq, bV_gtr, bV_geq, bV_shl, bV_shr, bV_str, eV_bool, eV_nn, eV_np, eV_pn, eV_snn, eV_sns, eV_ssn, eV_mnn, eV_mnm, eV_mmn, eV_fnn, eV_fnf, eV_ffn, eV_agg, rP_load, rP_lenNil, rP_str0, rdEl_K, rdK_row, aP_alloc, aP_box, aP_buildSlice, aP_makeSlice, aP_makeMap, aP_toBytes, hP_store, storeK_some, st_K, stK_row, stE_some, cells_agg, cells_bool, scalar_bool, cells_int, scalar_int, cells_str, scalar_str, cells_nilptr, scalar_nilptr, cells_ptr, scalar_ptr, cells_nilslice, scalar_nilslice, cells_slice, scalar_slice, cells_nilmap, scalar_nilmap, cells_map, scalar_map, cells_nilfunc, scalar_nilfunc, cells_func, scalar_func, eqCells, eqLeaf, run_toL, toL_some, ev_toL, getD_toL, put_toL, keep_toL, asc, fput_same, fput_ne, fbase_nil, fbase_cons, fkeep_nil, fkeep_cons, fzero, fnone, List.map_cons, List.map_nil, ev_lit, put_none, resVals, resVal, resOf, partV, fillA, putCells, fillEls, strBin, minV, optNat, appendEls, elsOf, sliceSlV, sliceStrV, List.replicate, List.getElem?_append_left, List.getElem?_append_right, List.set_append_left, List.set_append_right, List.getElem?_set_self, List.getElem?_set_ne, hq_get0, hq_get, hq_get2, hq_get3, hp_get0, hp_get, hp_get2, hp_get3, hp_set0, hp_set, hp_set2, hp_set3, wr_0, wr_1, wr_2, wr_3, wr_4, wr_n1, f0, f1, f5, f6, f7, f165, f166, f167, hok, get_app hok, set_app hok, get_set_same hok, get_set_app hok, set_set_app hok, len_beq hok, beq_len hok, hel, hex, hj4, hj4i, hj4p, hj5, e10, e19, e12, e20, hw] <;> exact fin _ rfl rfl rfl rfl rfl rfl rfl rfl
    · have : j = 4 := by omega
      subst this
      simp [yld_some, exec_reg, exec_dreg, exec_seq, exec_cond, exec_block, exec_scope, exec_exit, exec_ret, exec_skip, exec_loop, ops_nil, ops_cons, ops_cons_gd, stages_nil, stages_cons_n, stages_cons_h, recheck, wantsOp, AV.same, sames, evalOp_p, evalOp_r, evalOp_a, evalOp_call, evalOp_callV, evalOp_store, evalOp_append, evalOp_clear, evalOp_mapUpdate, evalOp_delete, pP_move, pP_pick, pP_build, pP_nil_ptr, pP_nil_func, pP_bin, pP_eq, pP_neg, pP_inv, pP_not, pP_convInt, pP_convStr, pP_fieldAddr, pP_field, pP_indexAddr, pP_indexStr, pP_sliceStr, pP_sliceSl, pP_lenStr, pP_lenNil, pP_lenSl, pP_min, pP_max, pP_extract, pP_mkfn, bV_add, bV_sub, bV_mul, bV_quo, bV_rem, bV_and, bV_or, bV_xor, bV_andNot, bV_eql, bV_neq, bV_lss, bV_leq, bV_gtr, bV_geq, bV_shl, bV_shr, bV_str, eV_bool, eV_nn, eV_np, eV_pn, eV_snn, eV_sns, eV_ssn, eV_mnn, eV_mnm, eV_mmn, eV_fnn, eV_fnf, eV_ffn, eV_agg, rP_load, rP_lenNil, rP_str0, rdEl_K, rdK_row, aP_alloc, aP_box, aP_buildSlice, aP_makeSlice, aP_makeMap, aP_toBytes, hP_store, storeK_some, st_K, stK_row, stE_some, cells_agg, cells_bool, scalar_bool, cells_int, scalar_int, cells_str, scalar_str, cells_nilptr, scalar_nilptr, cells_ptr, scalar_ptr, cells_nilslice, scalar_nilslice, cells_slice, scalar_slice, cells_nilmap, scalar_nilmap, cells_map, scalar_map, cells_nilfunc, scalar_nilfunc, cells_func, scalar_func, eqCells, eqLeaf, run_toL, toL_some, ev_toL, getD_toL, put_toL, keep_toL, asc, fput_same, fput_ne, fbase_nil, fbase_cons, fkeep_nil, fkeep_cons, fzero, fnone, List.map_cons, List.map_nil, ev_lit, put_none, resVals, resVal, resOf, partV, fillA, putCells, fillEls, strBin, minV, optNat, appendEls, elsOf, sliceSlV, sliceStrV, List.replicate, List.getElem?_append_left, List.getElem?_append_right, List.set_append_left, List.set_append_right, List.getElem?_set_self, List.getElem?_set_ne, hq_get0, hq_get, hq_get2, hq_get3, hp_get0, hp_get, hp_get2, hp_get3, hp_set0, hp_set, hp_set2, hp_set3, wr_0, wr_1, wr_2, wr_3, wr_4, wr_n1, f0, f1, f5, f6, f7, f165, f166, f167, hok, get_app hok, set_app hok, get_set_same hok, get_set_app hok, set_set_app hok, len_beq hok, beq_len hok]
      exact hR' _ (hR _ _ rfl rfl rfl rfl rfl t)
end Go.Proofs.Ytkkjhpcjemcdjaa.Gt
