/- Seat: which is picked. -/
import Derived.Test.YthomemhollhljaaSeatB
set_option maxRecDepth 100000
set_option linter.unusedVariables false
set_option linter.unusedSimpArgs false
namespace Go.Proofs.Ythomemhollhljaa.St
open Go Go.Eng F

def pstep (L : List Int) (b : Int × Int) (s : Int) : Int × Int := if rm s L ≤ b.2 then b else (s, rm s L)
def pickF (ss L : List Int) : Int × Int := ss.foldl (pstep L) (0, 0)
theorem pickF_snoc (ss L : List Int) (s : Int) : pickF (ss ++ [s]) L = pstep L (pickF ss L) s := by unfold pickF; rw [List.foldl_append]; rfl
structure Picked (ss L : List Int) (b : Int × Int) : Prop where
  none : b.2 = 0 → b.1 = 0
  nn : 0 ≤ b.2
  some : 0 < b.2 → b.1 ∈ ss ∧ rm b.1 L = b.2
  best : ∀ p ∈ ss, rm p L ≤ b.2
theorem picked_aux (L : List Int) : ∀ (n : Nat) (ss : List Int), ss.length = n → Picked ss L (pickF ss L)
  | 0, ss, h => by
    have : ss = [] := List.length_eq_zero_iff.1 h
    subst this
    exact ⟨fun _ => rfl, Int.le_refl _, fun h => by simp [pickF] at h, by simp⟩
  | n + 1, ss, h => by
    obtain ⟨pre, s, rfl⟩ : ∃ pre s, ss = pre ++ [s] := ⟨ss.dropLast, ss.getLast (by rintro rfl; simp at h), (List.dropLast_concat_getLast _).symm⟩
    have ih := picked_aux L n pre (by simp at h; omega)
    rw [pickF_snoc]
    generalize pickF pre L = b at ih
    unfold pstep
    by_cases hle : rm s L ≤ b.2
    · rw [if_pos hle]
      refine ⟨ih.none, ih.nn, fun h => ⟨List.mem_append_left _ (ih.some h).1, (ih.some h).2⟩, fun p hp => ?_⟩
      rcases List.mem_append.1 hp with hp | hp
      · exact ih.best p hp
      · simp at hp; subst hp; exact hle
    · rw [if_neg hle]
      have := ih.nn
      refine ⟨fun h => ?_, rm_nn _ _, fun _ => ⟨by simp, rfl⟩, fun p hp => ?_⟩
      · simp only at h; omega
      · rcases List.mem_append.1 hp with hp | hp
        · have := ih.best p hp; simp only; omega
        · simp at hp; subst hp; exact Int.le_refl _
theorem picked (ss L : List Int) : Picked ss L (pickF ss L) := picked_aux L _ ss rfl

set_option maxHeartbeats 4000000 in
theorem pick_call {h : H} {b c : Nat} {L : List Int} (hb : h[b]? = some (.row 1 (pts L) false false)) (hL : 0 < L.length) (hlen : L.length < 4294967296) (id salt : Int) :
    ∃ k, call fs0 ex0 13 [.int .i64 id, .int .i64 salt, .slice b 1 0 L.length c true] h = some (.tuple [.int .u64 (pickF (sts id salt) L).1, .bool (decide (0 < (pickF (sts id salt) L).2))], h ++ k) := by
  obtain ⟨k, e11, hs⟩ := seats_call id salt h
  refine ⟨k, ?_⟩
  suffices hy : Yld (call fs0 ex0 13 [.int .i64 id, .int .i64 salt, .slice b 1 0 L.length c true] h) fun r => r = (.tuple [.int .u64 (pickF (sts id salt) L).1, .bool (decide (0 < (pickF (sts id salt) L).2))], h ++ k) by
    obtain ⟨r, e, rfl⟩ := hy
    exact e
  refine yld_shut fun Q hQ => ?_
  have hsl := sts_len id salt
  generalize sts id salt = ss at *
  rw [call_eq fs0 ex0 (f := 13) (sf := sf13) rfl]
  have hz : ((L.length : Int) == 0) = false := Eng.beq_false (by omega)
  have e23 : ∀ a, call fs0 ex0 23 [.int .u64 a, .slice b 1 0 L.length c true] (h ++ k) = some (.int .u64 (rm a L), h ++ k) := fun a => room_call (get_app hb) hL hlen a
  generalize hk : h ++ k = hk1 at *
  simp [sf13, yld_some, exec_reg, exec_dreg, exec_seq, exec_cond, exec_block, exec_scope, exec_exit, exec_ret, exec_skip, exec_loop, ops_nil, ops_cons, ops_cons_gd, stages_nil, stages_cons_n, stages_cons_h, recheck, wantsOp, AV.same, sames, evalOp_p, evalOp_r, evalOp_a, evalOp_call, evalOp_callV, evalOp_store, evalOp_append, evalOp_clear, evalOp_mapUpdate, evalOp_delete, pP_move, pP_pick, pP_build, pP_nil_ptr, pP_nil_func, pP_bin, pP_eq, pP_neg, pP_inv, pP_not, pP_convInt, pP_convStr, pP_fieldAddr, pP_field, pP_indexAddr, pP_indexStr, pP_sliceStr, pP_sliceSl, pP_lenStr, pP_lenNil, pP_lenSl, pP_min, pP_max, pP_extract, pP_mkfn, bV_add, bV_sub, bV_mul, bV_quo, bV_rem, bV_and, bV_or, bV_xor, bV_andNot, bV_eql, bV_neq, bV_lss, bV_leq, bV_gtr, bV_geq, bV_shl, bV_shr, bV_str, eV_bool, eV_nn, eV_np, eV_pn, eV_snn, eV_sns, eV_ssn, eV_mnn, eV_mnm, eV_mmn, eV_fnn, eV_fnf, eV_ffn, eV_agg, rP_load, rP_lenNil, rP_str0, rdEl_K, rdK_row, aP_alloc, aP_box, aP_buildSlice, aP_makeSlice, aP_makeMap, aP_toBytes, hP_store, storeK_some, st_K, stK_row, stE_some, cells_agg, cells_bool, scalar_bool, cells_int, scalar_int, cells_str, scalar_str, cells_nilptr, scalar_nilptr, cells_ptr, scalar_ptr, cells_nilslice, scalar_nilslice, cells_slice, scalar_slice, cells_nilmap, scalar_nilmap, cells_map, scalar_map, cells_nilfunc, scalar_nilfunc, cells_func, scalar_func, eqCells, eqLeaf, run_toL, toL_some, ev_toL, getD_toL, put_toL, keep_toL, asc, fput_same, fput_ne, fbase_nil, fbase_cons, fkeep_nil, fkeep_cons, fzero, fnone, List.map_cons, List.map_nil, ev_lit, put_none, resVals, resVal, resOf, partV, fillA, putCells, fillEls, strBin, minV, optNat, appendEls, elsOf, sliceSlV, sliceStrV, List.replicate, List.getElem?_append_left, List.getElem?_append_right, List.set_append_left, List.set_append_right, List.getElem?_set_self, List.getElem?_set_ne, hq_get0, hq_get, hq_get2, hq_get3, hp_get0, hp_get, hp_get2, hp_get3, hp_set0, hp_set, hp_set2, hp_set3, wr_0, wr_1, wr_2, wr_3, wr_4, wr_n1, e11, hz]
  repeat (first | apply yld_endFn | apply yld_seqK | apply yld_blockK | apply yld_regK | apply yld_opsK | apply yld_putK | apply yld_stgK | apply yld_chkK)
  refine yld_rounds (fun z e kk => ∃ f i, e = toL 41 f ∧ z = 4 - i ∧ i ≤ 4 ∧ f 2 = .slice b 1 0 L.length c true ∧ f 9 = .int .u64 (pickF (ss.take i) L).1 ∧ f 10 = .int .u64 (pickF (ss.take i) L).2 ∧ f 23 = .slice (h.length + 7) 1 0 4 4 false ∧ f 24 = .int .i64 4 ∧ f 25 = .int .i64 (i : Nat) ∧ kk = hk1) (4 - 0) ?_ ?_
  · exact ⟨_, 0, rfl, rfl, Nat.zero_le _, rfl, rfl, rfl, rfl, rfl, rfl, rfl⟩
  · rintro J R hJ hR z e kk ⟨f, i, rfl, rfl, hi, f2, f9, f10, f23, f24, f25, rfl⟩
    by_cases hil : i < 4
    · have hil2 : i < ss.length := by omega
      have hp : (pts ss)[i]? = some [.int .u64 ss[i]] := by simp [pts, hil2]
      have hx : (pts ss)[i]'(by simpa [pts] using hil2) = [.int .u64 ss[i]] := by simp [pts]
      have hla : (pts ss).length = ss.length := by simp [pts]
      have hw : IntKind.i64.wrap ((i : Int) + 1) = ((i + 1 : Nat) : Int) := wrap_i64 (by omega) (by omega)
      have hi4 : decide ((i : Int) < 4) = true := dec_true (by omega)
      have hi4' : (i : Int) < 4 := by omega
      have htk : pickF (ss.take (i + 1)) L = pstep L (pickF (ss.take i) L) ss[i] := by rw [take_succ_get hil2, pickF_snoc]
      by_cases hle : rm ss[i] L ≤ (pickF (ss.take i) L).2
      · have h1 : pickF (ss.take (i + 1)) L = pickF (ss.take i) L := by rw [htk]; unfold pstep; rw [if_pos hle]
        simp [yld_some, exec_reg, exec_dreg, exec_seq, exec_cond, exec_block, exec_scope, exec_exit, exec_ret, exec_skip, exec_loop, ops_nil, ops_cons, ops_cons_gd, stages_nil, stages_cons_n, stages_cons_h, recheck, wantsOp, AV.same, sames, evalOp_p, evalOp_r, evalOp_a, evalOp_call, evalOp_callV, evalOp_store, evalOp_append, evalOp_clear, evalOp_mapUpdate, evalOp_delete, pP_move, pP_pick, pP_build, pP_nil_ptr, pP_nil_func, pP_bin, pP_eq, pP_neg, pP_inv, pP_not, pP_convInt, pP_convStr, pP_fieldAddr, pP_field, pP_indexAddr, pP_indexStr, pP_sliceStr, pP_sliceSl, pP_lenStr, pP_lenNil, pP_lenSl, pP_min, pP_max, pP_extract, pP_mkfn, bV_add, bV_sub, bV_mul, bV_quo, bV_rem, bV_and, bV_or, bV_xor, bV_andNot, bV_eql, bV_neq, bV_lss, bV_leq, bV_gtr, bV_geq, bV_shl, bV_shr, bV_str, eV_bool, eV_nn, eV_np, eV_pn, eV_snn, eV_sns, eV_ssn, eV_mnn, eV_mnm, eV_mmn, eV_fnn, eV_fnf, eV_ffn, eV_agg, rP_load, rP_lenNil, rP_str0, rdEl_K, rdK_row, aP_alloc, aP_box, aP_buildSlice, aP_makeSlice, aP_makeMap, aP_toBytes, hP_store, storeK_some, st_K, stK_row, stE_some, cells_agg, cells_bool, scalar_bool, cells_int, scalar_int, cells_str, scalar_str, cells_nilptr, scalar_nilptr, cells_ptr, scalar_ptr, cells_nilslice, scalar_nilslice, cells_slice, scalar_slice, cells_nilmap, scalar_nilmap, cells_map, scalar_map, cells_nilfunc, scalar_nilfunc, cells_func, scalar_func, eqCells, eqLeaf, run_toL, toL_some, ev_toL, getD_toL, put_toL, keep_toL, asc, fput_same, fput_ne, fbase_nil, fbase_cons, fkeep_nil, fkeep_cons, fzero, fnone, List.map_cons, List.map_nil, ev_lit, put_none, resVals, resVal, resOf, partV, fillA, putCells, fillEls, strBin, minV, optNat, appendEls, elsOf, sliceSlV, sliceStrV, List.replicate, List.getElem?_append_left, List.getElem?_append_right, List.set_append_left, List.set_append_right, List.getElem?_set_self, List.getElem?_set_ne, hq_get0, hq_get, hq_get2, hq_get3, hp_get0, hp_get, hp_get2, hp_get3, hp_set0, hp_set, hp_set2, hp_set3, wr_0, wr_1, wr_2, wr_3, wr_4, wr_n1, f2, f9, f10, f23, f24, f25, hil, hil2, hi4, hi4', hs, get_app hs, set_app hs, get_set_same hs, get_set_app hs, set_set_app hs, len_beq hs, beq_len hs, hp, hx, hla, e23, hw, hle]
        exact ⟨4 - (i + 1), by omega, hJ _ _ _ ⟨_, i + 1, rfl, rfl, hil, rfl, by rw [h1]; rfl, by rw [h1]; rfl, rfl, rfl, rfl, rfl⟩⟩
      · have h1 : pickF (ss.take (i + 1)) L = (ss[i], rm ss[i] L) := by rw [htk]; unfold pstep; rw [if_neg hle]
        simp [yld_some, exec_reg, exec_dreg, exec_seq, exec_cond, exec_block, exec_scope, exec_exit, exec_ret, exec_skip, exec_loop, ops_nil, ops_cons, ops_cons_gd, stages_nil, stages_cons_n, stages_cons_h, recheck, wantsOp, AV.same, sames, evalOp_p, evalOp_r, evalOp_a, evalOp_call, evalOp_callV, evalOp_store, evalOp_append, evalOp_clear, evalOp_mapUpdate, evalOp_delete, pP_move, pP_pick, pP_build, pP_nil_ptr, pP_nil_func, pP_bin, pP_eq, pP_neg, pP_inv, pP_not, pP_convInt, pP_convStr, pP_fieldAddr, pP_field, pP_indexAddr, pP_indexStr, pP_sliceStr, pP_sliceSl, pP_lenStr, pP_lenNil, pP_lenSl, pP_min, pP_max, pP_extract, pP_mkfn, bV_add, bV_sub, bV_mul, bV_quo, bV_rem, bV_and, bV_or, bV_xor, bV_andNot, bV_eql, bV_neq, bV_lss, bV_leq, bV_gtr, bV_geq, bV_shl, bV_shr, bV_str, eV_bool, eV_nn, eV_np, eV_pn, eV_snn, eV_sns, eV_ssn, eV_mnn, eV_mnm, eV_mmn, eV_fnn, eV_fnf, eV_ffn, eV_agg, rP_load, rP_lenNil, rP_str0, rdEl_K, rdK_row, aP_alloc, aP_box, aP_buildSlice, aP_makeSlice, aP_makeMap, aP_toBytes, hP_store, storeK_some, st_K, stK_row, stE_some, cells_agg, cells_bool, scalar_bool, cells_int, scalar_int, cells_str, scalar_str, cells_nilptr, scalar_nilptr, cells_ptr, scalar_ptr, cells_nilslice, scalar_nilslice, cells_slice, scalar_slice, cells_nilmap, scalar_nilmap, cells_map, scalar_map, cells_nilfunc, scalar_nilfunc, cells_func, scalar_func, eqCells, eqLeaf, run_toL, toL_some, ev_toL, getD_toL, put_toL, keep_toL, asc, fput_same, fput_ne, fbase_nil, fbase_cons, fkeep_nil, fkeep_cons, fzero, fnone, List.map_cons, List.map_nil, ev_lit, put_none, resVals, resVal, resOf, partV, fillA, putCells, fillEls, strBin, minV, optNat, appendEls, elsOf, sliceSlV, sliceStrV, List.replicate, List.getElem?_append_left, List.getElem?_append_right, List.set_append_left, List.set_append_right, List.getElem?_set_self, List.getElem?_set_ne, hq_get0, hq_get, hq_get2, hq_get3, hp_get0, hp_get, hp_get2, hp_get3, hp_set0, hp_set, hp_set2, hp_set3, wr_0, wr_1, wr_2, wr_3, wr_4, wr_n1, f2, f9, f10, f23, f24, f25, hil, hil2, hi4, hi4', hs, get_app hs, set_app hs, get_set_same hs, get_set_app hs, set_set_app hs, len_beq hs, beq_len hs, hp, hx, hla, e23, hw, hle]
        exact ⟨4 - (i + 1), by omega, hJ _ _ _ ⟨_, i + 1, rfl, rfl, hil, rfl, by rw [h1]; rfl, by rw [h1]; rfl, rfl, rfl, rfl, rfl⟩⟩
    · have hin : i = 4 := by omega
      subst hin
      have htk : ss.take 4 = ss := List.take_of_length_le (by omega)
      rw [htk] at f9 f10
      simp [yld_some, exec_reg, exec_dreg, exec_seq, exec_cond, exec_block, exec_scope, exec_exit, exec_ret, exec_skip, exec_loop, ops_nil, ops_cons, ops_cons_gd, stages_nil, stages_cons_n, stages_cons_h, recheck, wantsOp, AV.same, sames, evalOp_p, evalOp_r, evalOp_a, evalOp_call, evalOp_callV, evalOp_store, evalOp_append, evalOp_clear, evalOp_mapUpdate, evalOp_delete, pP_move, pP_pick, pP_build, pP_nil_ptr, pP_nil_func, pP_bin, pP_eq, pP_neg, pP_inv, pP_not, pP_convInt, pP_convStr, pP_fieldAddr, pP_field, pP_indexAddr, pP_indexStr, pP_sliceStr, pP_sliceSl, pP_lenStr, pP_lenNil, pP_lenSl, pP_min, pP_max, pP_extract, pP_mkfn, bV_add, bV_sub, bV_mul, bV_quo, bV_rem, bV_and, bV_or, bV_xor, bV_andNot, bV_eql, bV_neq, bV_lss, bV_leq, bV_gtr, bV_geq, bV_shl, bV_shr, bV_str, eV_bool, eV_nn, eV_np, eV_pn, eV_snn, eV_sns, eV_ssn, eV_mnn, eV_mnm, eV_mmn, eV_fnn, eV_fnf, eV_ffn, eV_agg, rP_load, rP_lenNil, rP_str0, rdEl_K, rdK_row, aP_alloc, aP_box, aP_buildSlice, aP_makeSlice, aP_makeMap, aP_toBytes, hP_store, storeK_some, st_K, stK_row, stE_some, cells_agg, cells_bool, scalar_bool, cells_int, scalar_int, cells_str, scalar_str, cells_nilptr, scalar_nilptr, cells_ptr, scalar_ptr, cells_nilslice, scalar_nilslice, cells_slice, scalar_slice, cells_nilmap, scalar_nilmap, cells_map, scalar_map, cells_nilfunc, scalar_nilfunc, cells_func, scalar_func, eqCells, eqLeaf, run_toL, toL_some, ev_toL, getD_toL, put_toL, keep_toL, asc, fput_same, fput_ne, fbase_nil, fbase_cons, fkeep_nil, fkeep_cons, fzero, fnone, List.map_cons, List.map_nil, ev_lit, put_none, resVals, resVal, resOf, partV, fillA, putCells, fillEls, strBin, minV, optNat, appendEls, elsOf, sliceSlV, sliceStrV, List.replicate, List.getElem?_append_left, List.getElem?_append_right, List.set_append_left, List.set_append_right, List.getElem?_set_self, List.getElem?_set_ne, hq_get0, hq_get, hq_get2, hq_get3, hp_get0, hp_get, hp_get2, hp_get3, hp_set0, hp_set, hp_set2, hp_set3, wr_0, wr_1, wr_2, wr_3, wr_4, wr_n1, f2, f9, f10, f23, f24, f25]
      refine hR _ ?_
      simp [yld_some, exec_reg, exec_dreg, exec_seq, exec_cond, exec_block, exec_scope, exec_exit, exec_ret, exec_skip, exec_loop, ops_nil, ops_cons, ops_cons_gd, stages_nil, stages_cons_n, stages_cons_h, recheck, wantsOp, AV.same, sames, evalOp_p, evalOp_r, evalOp_a, evalOp_call, evalOp_callV, evalOp_store, evalOp_append, evalOp_clear, evalOp_mapUpdate, evalOp_delete, pP_move, pP_pick, pP_build, pP_nil_ptr, pP_nil_func, pP_bin, pP_eq, pP_neg, pP_inv, pP_not, pP_convInt, pP_convStr, pP_fieldAddr, pP_field, pP_indexAddr, pP_indexStr, pP_sliceStr, pP_sliceSl, pP_lenStr, pP_lenNil, pP_lenSl, pP_min, pP_max, pP_extract, pP_mkfn, bV_add, bV_sub, bV_mul, bV_quo, bV_rem, bV_and, bV_or, bV_xor, bV_andNot, bV_eql, bV_neq, bV_lss, bV_leq, bV_gtr, bV_geq, bV_shl, bV_shr, bV_str, eV_bool, eV_nn, eV_np, eV_pn, eV_snn, eV_sns, eV_ssn, eV_mnn, eV_mnm, eV_mmn, eV_fnn, eV_fnf, eV_ffn, eV_agg, rP_load, rP_lenNil, rP_str0, rdEl_K, rdK_row, aP_alloc, aP_box, aP_buildSlice, aP_makeSlice, aP_makeMap, aP_toBytes, hP_store, storeK_some, st_K, stK_row, stE_some, cells_agg, cells_bool, scalar_bool, cells_int, scalar_int, cells_str, scalar_str, cells_nilptr, scalar_nilptr, cells_ptr, scalar_ptr, cells_nilslice, scalar_nilslice, cells_slice, scalar_slice, cells_nilmap, scalar_nilmap, cells_map, scalar_map, cells_nilfunc, scalar_nilfunc, cells_func, scalar_func, eqCells, eqLeaf, run_toL, toL_some, ev_toL, getD_toL, put_toL, keep_toL, asc, fput_same, fput_ne, fbase_nil, fbase_cons, fkeep_nil, fkeep_cons, fzero, fnone, List.map_cons, List.map_nil, ev_lit, put_none, resVals, resVal, resOf, partV, fillA, putCells, fillEls, strBin, minV, optNat, appendEls, elsOf, sliceSlV, sliceStrV, List.replicate, List.getElem?_append_left, List.getElem?_append_right, List.set_append_left, List.set_append_right, List.getElem?_set_self, List.getElem?_set_ne, hq_get0, hq_get, hq_get2, hq_get3, hp_get0, hp_get, hp_get2, hp_get3, hp_set0, hp_set, hp_set2, hp_set3, wr_0, wr_1, wr_2, wr_3, wr_4, wr_n1]
      exact hQ _ rfl
end Go.Proofs.Ythomemhollhljaa.St
