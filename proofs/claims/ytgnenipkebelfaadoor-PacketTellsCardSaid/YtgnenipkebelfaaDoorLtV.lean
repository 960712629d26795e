/- Letters: the document's packets as bytes (written by genlt9.py) -/
import Derived.Test.YtgnenipkebelfaaDoorLtU
set_option maxRecDepth 100000
set_option linter.unusedVariables false
set_option linter.unusedSimpArgs false
namespace Go.Proofs.YtgnenipkebelfaaDoor.Lt
open Go Go.Eng F Pk Bk

theorem k_byteful (x : Int) (k : H) : call fsK exK 42 [.int .i64 x] k = some (.bool (byteful x), k) := ((eK_byteful _ _).trans ((eJ_byteful _ _).trans ((eQ_byteful _ _).trans ((eI_byteful _ _).trans ((eH_byteful _ _).trans ((eD_byteful _ _).trans ((eC_byteful _ _).trans (b_byteful x k))))))))
theorem k_numeral (x : Int) (k : H) : call fsK exK 43 [.int .i64 x] k = some (.bool (numeral x), k) := ((eK_numeral _ _).trans ((eJ_numeral _ _).trans ((eQ_numeral _ _).trans ((eI_numeral _ _).trans ((eH_numeral _ _).trans ((eD_numeral _ _).trans ((eC_numeral _ _).trans (b_numeral x k))))))))
theorem k_rNum {v : Int} (h : 0 ≤ v ∧ v ≤ 65535) (k : H) : call fsK exK 46 [.int .i64 v] k = some (.str (numS v), k) := ((eK_rNum _ _).trans ((eJ_rNum _ _).trans ((eQ_rNum _ _).trans ((eI_rNum _ _).trans ((eH_rNum _ _).trans ((eD_rNum _ _).trans (cN h k)))))))
theorem k_Letter {k : H} {c : List AV} {l : Ltr} (hc : IsL k c l) : call fsK exK 44 [.agg c] k = some (.bool (right l), k) := ((eK_rLetter _ _).trans ((eJ_rLetter _ _).trans ((eQ_rLetter _ _).trans (i_Letter hc))))
theorem k_Zero {k : H} {c : List AV} {l : Ltr} (hc : IsL k c l) : call fsK exK 45 [.agg c] k = some (.bool (zeroL l), k) := ((eK_rZero _ _).trans ((eJ_rZero _ _).trans ((eQ_rZero _ _).trans (i_Zero hc))))
theorem k_rPut {k : H} {c : List AV} {l : Ltr} (hc : IsL k c l) (g : Good l) (hw : Wf l) : call fsK exK 47 [.agg c] k = some (.str (putS l), k) := ((eK_rPut _ _).trans ((eJ_rPut _ _).trans ((eQ_rPut _ _).trans (i_rPut hc g hw))))
set_option maxHeartbeats 16000000 in
theorem rPutPacket_call {k : H} {c : List AV} {p : Pkt} (hc : IsP k c p) (hw : Wf p.y) : ∃ z, call fsK exK 21 [.agg c] k = some (.tuple [.str (if rightP p = true then putPS p else []), .bool (rightP p)], k ++ z) := by
  obtain ⟨v1, v2, rfl, h1, h2, b1, b2⟩ := hc
  have s1 := h1.cells
  have s2 := h2.cells
  have hy : IsL (k ++ [Blk.row 25 [pktc p v1 v2] true true]) (ltc p.y v1 v2) p.y := IsL.app ⟨v1, v2, rfl, h1, h2, b1, b2⟩ _
  have eA := k_byteful p.frm (k ++ [Blk.row 25 [pktc p v1 v2] true true])
  have eB := k_byteful p.dst (k ++ [Blk.row 25 [pktc p v1 v2] true true])
  have eC := k_numeral p.seq (k ++ [Blk.row 25 [pktc p v1 v2] true true])
  have eD := k_numeral p.ack (k ++ [Blk.row 25 [pktc p v1 v2] true true])
  have eL := k_Letter hy
  have eZ := k_Zero hy
  rw [call_eq fsK exK (f := 21) (sf := sf21) rfl]
  unfold rightP
  cases hA : byteful p.frm
  · rw [hA] at eA
    unfold pktc ltc at *
    simp [sf21, yld_some, exec_reg, exec_dreg, exec_seq, exec_cond, exec_block, exec_scope, exec_exit, exec_ret, exec_skip, exec_loop, ops_nil, ops_cons, ops_cons_gd, stages_nil, stages_cons_n, stages_cons_h, recheck, wantsOp, AV.same, sames, evalOp_p, evalOp_r, evalOp_a, evalOp_call, evalOp_callV, evalOp_store, evalOp_append, evalOp_clear, evalOp_mapUpdate, evalOp_delete, pP_move, pP_pick, pP_build, pP_nil_ptr, pP_nil_func, pP_bin, pP_eq, pP_neg, pP_inv, pP_not, pP_convInt, pP_convStr, pP_fieldAddr, pP_field, pP_indexAddr, pP_indexStr, pP_sliceStr, pP_sliceSl, pP_lenStr, pP_lenNil, pP_lenSl, pP_min, pP_max, pP_extract, pP_mkfn, bV_add, bV_sub, bV_mul, bV_quo, bV_rem, bV_and, bV_or, bV_xor, bV_andNot, bV_eql, bV_neq, bV_lss, bV_leq, bV_gtr, bV_geq, bV_shl, bV_shr, eV_bool, eV_nn, eV_np, eV_pn, eV_snn, eV_sns, eV_ssn, eV_mnn, eV_mnm, eV_mmn, eV_fnn, eV_fnf, eV_ffn, eV_agg, rP_load, rP_lenNil, rP_str0, rdEl_K, rdK_row, rdK_bld, aP_newBld, aP_alloc, aP_box, aP_buildSlice, aP_makeSlice, aP_makeMap, aP_toBytes, hP_store, storeK_some, st_K, stK_row, stE_some, cells_agg, cells_bool, scalar_bool, cells_int, scalar_int, cells_str, scalar_str, cells_nilptr, scalar_nilptr, cells_ptr, scalar_ptr, cells_nilslice, scalar_nilslice, cells_slice, scalar_slice, cells_nilmap, scalar_nilmap, cells_map, scalar_map, cells_nilfunc, scalar_nilfunc, cells_func, scalar_func, eqCells, eqLeaf, run_toL, toL_some, ev_toL, getD_toL, put_toL, keep_toL, asc, fput_same, fput_ne, fbase_nil, fbase_cons, fkeep_nil, fkeep_cons, fzero, fnone, List.map_cons, List.map_nil, ev_lit, put_none, resVals, resVal, resOf, partV, fillA, putCells, fillEls, strBin, minV, optNat, appendEls, elsOf, sliceSlV, sliceStrV, List.replicate, List.getElem?_append_left, List.getElem?_append_right, List.set_append_left, List.set_append_right, List.getElem?_set_self, List.getElem?_set_ne, hq_get0, hq_get, hq_get2, hq_get3, hp_get0, hp_get, hp_get2, hp_get3, hp_set0, hp_set, hp_set2, hp_set3, wr_0, wr_1, wr_2, wr_3, wr_4, wr_n1, s1.1, s1.2.1, s1.2.2, s2.1, s2.2.1, s2.2.2, eA]
  rw [hA] at eA
  cases hB : byteful p.dst
  · rw [hB] at eB
    unfold pktc ltc at *
    simp [sf21, yld_some, exec_reg, exec_dreg, exec_seq, exec_cond, exec_block, exec_scope, exec_exit, exec_ret, exec_skip, exec_loop, ops_nil, ops_cons, ops_cons_gd, stages_nil, stages_cons_n, stages_cons_h, recheck, wantsOp, AV.same, sames, evalOp_p, evalOp_r, evalOp_a, evalOp_call, evalOp_callV, evalOp_store, evalOp_append, evalOp_clear, evalOp_mapUpdate, evalOp_delete, pP_move, pP_pick, pP_build, pP_nil_ptr, pP_nil_func, pP_bin, pP_eq, pP_neg, pP_inv, pP_not, pP_convInt, pP_convStr, pP_fieldAddr, pP_field, pP_indexAddr, pP_indexStr, pP_sliceStr, pP_sliceSl, pP_lenStr, pP_lenNil, pP_lenSl, pP_min, pP_max, pP_extract, pP_mkfn, bV_add, bV_sub, bV_mul, bV_quo, bV_rem, bV_and, bV_or, bV_xor, bV_andNot, bV_eql, bV_neq, bV_lss, bV_leq, bV_gtr, bV_geq, bV_shl, bV_shr, eV_bool, eV_nn, eV_np, eV_pn, eV_snn, eV_sns, eV_ssn, eV_mnn, eV_mnm, eV_mmn, eV_fnn, eV_fnf, eV_ffn, eV_agg, rP_load, rP_lenNil, rP_str0, rdEl_K, rdK_row, rdK_bld, aP_newBld, aP_alloc, aP_box, aP_buildSlice, aP_makeSlice, aP_makeMap, aP_toBytes, hP_store, storeK_some, st_K, stK_row, stE_some, cells_agg, cells_bool, scalar_bool, cells_int, scalar_int, cells_str, scalar_str, cells_nilptr, scalar_nilptr, cells_ptr, scalar_ptr, cells_nilslice, scalar_nilslice, cells_slice, scalar_slice, cells_nilmap, scalar_nilmap, cells_map, scalar_map, cells_nilfunc, scalar_nilfunc, cells_func, scalar_func, eqCells, eqLeaf, run_toL, toL_some, ev_toL, getD_toL, put_toL, keep_toL, asc, fput_same, fput_ne, fbase_nil, fbase_cons, fkeep_nil, fkeep_cons, fzero, fnone, List.map_cons, List.map_nil, ev_lit, put_none, resVals, resVal, resOf, partV, fillA, putCells, fillEls, strBin, minV, optNat, appendEls, elsOf, sliceSlV, sliceStrV, List.replicate, List.getElem?_append_left, List.getElem?_append_right, List.set_append_left, List.set_append_right, List.getElem?_set_self, List.getElem?_set_ne, hq_get0, hq_get, hq_get2, hq_get3, hp_get0, hp_get, hp_get2, hp_get3, hp_set0, hp_set, hp_set2, hp_set3, wr_0, wr_1, wr_2, wr_3, wr_4, wr_n1, s1.1, s1.2.1, s1.2.2, s2.1, s2.2.1, s2.2.2, eA, eB]
  rw [hB] at eB
  cases hC : numeral p.seq
  · rw [hC] at eC
    unfold pktc ltc at *
    simp [sf21, yld_some, exec_reg, exec_dreg, exec_seq, exec_cond, exec_block, exec_scope, exec_exit, exec_ret, exec_skip, exec_loop, ops_nil, ops_cons, ops_cons_gd, stages_nil, stages_cons_n, stages_cons_h, recheck, wantsOp, AV.same, sames, evalOp_p, evalOp_r, evalOp_a, evalOp_call, evalOp_callV, evalOp_store, evalOp_append, evalOp_clear, evalOp_mapUpdate, evalOp_delete, pP_move, pP_pick, pP_build, pP_nil_ptr, pP_nil_func, pP_bin, pP_eq, pP_neg, pP_inv, pP_not, pP_convInt, pP_convStr, pP_fieldAddr, pP_field, pP_indexAddr, pP_indexStr, pP_sliceStr, pP_sliceSl, pP_lenStr, pP_lenNil, pP_lenSl, pP_min, pP_max, pP_extract, pP_mkfn, bV_add, bV_sub, bV_mul, bV_quo, bV_rem, bV_and, bV_or, bV_xor, bV_andNot, bV_eql, bV_neq, bV_lss, bV_leq, bV_gtr, bV_geq, bV_shl, bV_shr, eV_bool, eV_nn, eV_np, eV_pn, eV_snn, eV_sns, eV_ssn, eV_mnn, eV_mnm, eV_mmn, eV_fnn, eV_fnf, eV_ffn, eV_agg, rP_load, rP_lenNil, rP_str0, rdEl_K, rdK_row, rdK_bld, aP_newBld, aP_alloc, aP_box, aP_buildSlice, aP_makeSlice, aP_makeMap, aP_toBytes, hP_store, storeK_some, st_K, stK_row, stE_some, cells_agg, cells_bool, scalar_bool, cells_int, scalar_int, cells_str, scalar_str, cells_nilptr, scalar_nilptr, cells_ptr, scalar_ptr, cells_nilslice, scalar_nilslice, cells_slice, scalar_slice, cells_nilmap, scalar_nilmap, cells_map, scalar_map, cells_nilfunc, scalar_nilfunc, cells_func, scalar_func, eqCells, eqLeaf, run_toL, toL_some, ev_toL, getD_toL, put_toL, keep_toL, asc, fput_same, fput_ne, fbase_nil, fbase_cons, fkeep_nil, fkeep_cons, fzero, fnone, List.map_cons, List.map_nil, ev_lit, put_none, resVals, resVal, resOf, partV, fillA, putCells, fillEls, strBin, minV, optNat, appendEls, elsOf, sliceSlV, sliceStrV, List.replicate, List.getElem?_append_left, List.getElem?_append_right, List.set_append_left, List.set_append_right, List.getElem?_set_self, List.getElem?_set_ne, hq_get0, hq_get, hq_get2, hq_get3, hp_get0, hp_get, hp_get2, hp_get3, hp_set0, hp_set, hp_set2, hp_set3, wr_0, wr_1, wr_2, wr_3, wr_4, wr_n1, s1.1, s1.2.1, s1.2.2, s2.1, s2.2.1, s2.2.2, eA, eB, eC]
  rw [hC] at eC
  cases hD : numeral p.ack
  · rw [hD] at eD
    unfold pktc ltc at *
    simp [sf21, yld_some, exec_reg, exec_dreg, exec_seq, exec_cond, exec_block, exec_scope, exec_exit, exec_ret, exec_skip, exec_loop, ops_nil, ops_cons, ops_cons_gd, stages_nil, stages_cons_n, stages_cons_h, recheck, wantsOp, AV.same, sames, evalOp_p, evalOp_r, evalOp_a, evalOp_call, evalOp_callV, evalOp_store, evalOp_append, evalOp_clear, evalOp_mapUpdate, evalOp_delete, pP_move, pP_pick, pP_build, pP_nil_ptr, pP_nil_func, pP_bin, pP_eq, pP_neg, pP_inv, pP_not, pP_convInt, pP_convStr, pP_fieldAddr, pP_field, pP_indexAddr, pP_indexStr, pP_sliceStr, pP_sliceSl, pP_lenStr, pP_lenNil, pP_lenSl, pP_min, pP_max, pP_extract, pP_mkfn, bV_add, bV_sub, bV_mul, bV_quo, bV_rem, bV_and, bV_or, bV_xor, bV_andNot, bV_eql, bV_neq, bV_lss, bV_leq, bV_gtr, bV_geq, bV_shl, bV_shr, eV_bool, eV_nn, eV_np, eV_pn, eV_snn, eV_sns, eV_ssn, eV_mnn, eV_mnm, eV_mmn, eV_fnn, eV_fnf, eV_ffn, eV_agg, rP_load, rP_lenNil, rP_str0, rdEl_K, rdK_row, rdK_bld, aP_newBld, aP_alloc, aP_box, aP_buildSlice, aP_makeSlice, aP_makeMap, aP_toBytes, hP_store, storeK_some, st_K, stK_row, stE_some, cells_agg, cells_bool, scalar_bool, cells_int, scalar_int, cells_str, scalar_str, cells_nilptr, scalar_nilptr, cells_ptr, scalar_ptr, cells_nilslice, scalar_nilslice, cells_slice, scalar_slice, cells_nilmap, scalar_nilmap, cells_map, scalar_map, cells_nilfunc, scalar_nilfunc, cells_func, scalar_func, eqCells, eqLeaf, run_toL, toL_some, ev_toL, getD_toL, put_toL, keep_toL, asc, fput_same, fput_ne, fbase_nil, fbase_cons, fkeep_nil, fkeep_cons, fzero, fnone, List.map_cons, List.map_nil, ev_lit, put_none, resVals, resVal, resOf, partV, fillA, putCells, fillEls, strBin, minV, optNat, appendEls, elsOf, sliceSlV, sliceStrV, List.replicate, List.getElem?_append_left, List.getElem?_append_right, List.set_append_left, List.set_append_right, List.getElem?_set_self, List.getElem?_set_ne, hq_get0, hq_get, hq_get2, hq_get3, hp_get0, hp_get, hp_get2, hp_get3, hp_set0, hp_set, hp_set2, hp_set3, wr_0, wr_1, wr_2, wr_3, wr_4, wr_n1, s1.1, s1.2.1, s1.2.2, s2.1, s2.2.1, s2.2.2, eA, eB, eC, eD]
  rw [hD] at eD
  simp only [byteful_iff, numeral_iff] at hA hB hC hD
  have n1 := k_rNum (v := p.frm) ⟨hA.1, by omega⟩ (k ++ [Blk.row 25 [pktc p v1 v2] true true])
  have n2 := k_rNum (v := p.dst) ⟨hB.1, by omega⟩ (k ++ [Blk.row 25 [pktc p v1 v2] true true])
  have n3 := k_rNum hC (k ++ [Blk.row 25 [pktc p v1 v2] true true])
  have n4 := k_rNum hD (k ++ [Blk.row 25 [pktc p v1 v2] true true])
  obtain ⟨q1, hq1⟩ : ∃ q, q = numS p.frm ++ numS p.dst := ⟨_, rfl⟩
  obtain ⟨q2, hq2⟩ : ∃ q, q = q1 ++ numS p.seq := ⟨_, rfl⟩
  obtain ⟨q3, hq3⟩ : ∃ q, q = q2 ++ numS p.ack := ⟨_, rfl⟩
  have l3 : q3.length = 8 := by rw [hq3, hq2, hq1]; rfl
  have f1 : binV .add (.str (numS p.frm)) (.str (numS p.dst)) = some (.str q1) := by rw [add_str (by simp [numS_len]), hq1]
  have f2 : binV .add (.str q1) (.str (numS p.seq)) = some (.str q2) := by rw [add_str (by simp [hq1, numS_len]), hq2]
  have f3 : binV .add (.str q2) (.str (numS p.ack)) = some (.str q3) := by rw [add_str (by simp [hq2, hq1, numS_len]), hq3]
  have hput : putPS p = q3 ++ (if 0 < p.seq then putS p.y else []) := by
    rw [hq3, hq2, hq1]
    unfold putPS
    simp only [List.append_assoc]
  rw [hput]
  clear hput hq1 hq2 hq3
  by_cases hs : p.seq = 0
  · have hs' : (p.seq == 0) = true := by simpa using hs
    have hs2 : ¬ (0 : Int) < p.seq := by omega
    have hs3 : decide ((0 : Int) < p.seq) = false := by simpa using hs2
    rw [if_pos hs]
    cases hz : zeroL p.y
    · rw [hz] at eZ
      unfold pktc ltc at *
      simp [sf21, yld_some, exec_reg, exec_dreg, exec_seq, exec_cond, exec_block, exec_scope, exec_exit, exec_ret, exec_skip, exec_loop, ops_nil, ops_cons, ops_cons_gd, stages_nil, stages_cons_n, stages_cons_h, recheck, wantsOp, AV.same, sames, evalOp_p, evalOp_r, evalOp_a, evalOp_call, evalOp_callV, evalOp_store, evalOp_append, evalOp_clear, evalOp_mapUpdate, evalOp_delete, pP_move, pP_pick, pP_build, pP_nil_ptr, pP_nil_func, pP_bin, pP_eq, pP_neg, pP_inv, pP_not, pP_convInt, pP_convStr, pP_fieldAddr, pP_field, pP_indexAddr, pP_indexStr, pP_sliceStr, pP_sliceSl, pP_lenStr, pP_lenNil, pP_lenSl, pP_min, pP_max, pP_extract, pP_mkfn, bV_add, bV_sub, bV_mul, bV_quo, bV_rem, bV_and, bV_or, bV_xor, bV_andNot, bV_eql, bV_neq, bV_lss, bV_leq, bV_gtr, bV_geq, bV_shl, bV_shr, eV_bool, eV_nn, eV_np, eV_pn, eV_snn, eV_sns, eV_ssn, eV_mnn, eV_mnm, eV_mmn, eV_fnn, eV_fnf, eV_ffn, eV_agg, rP_load, rP_lenNil, rP_str0, rdEl_K, rdK_row, rdK_bld, aP_newBld, aP_alloc, aP_box, aP_buildSlice, aP_makeSlice, aP_makeMap, aP_toBytes, hP_store, storeK_some, st_K, stK_row, stE_some, cells_agg, cells_bool, scalar_bool, cells_int, scalar_int, cells_str, scalar_str, cells_nilptr, scalar_nilptr, cells_ptr, scalar_ptr, cells_nilslice, scalar_nilslice, cells_slice, scalar_slice, cells_nilmap, scalar_nilmap, cells_map, scalar_map, cells_nilfunc, scalar_nilfunc, cells_func, scalar_func, eqCells, eqLeaf, run_toL, toL_some, ev_toL, getD_toL, put_toL, keep_toL, asc, fput_same, fput_ne, fbase_nil, fbase_cons, fkeep_nil, fkeep_cons, fzero, fnone, List.map_cons, List.map_nil, ev_lit, put_none, resVals, resVal, resOf, partV, fillA, putCells, fillEls, strBin, minV, optNat, appendEls, elsOf, sliceSlV, sliceStrV, List.replicate, List.getElem?_append_left, List.getElem?_append_right, List.set_append_left, List.set_append_right, List.getElem?_set_self, List.getElem?_set_ne, hq_get0, hq_get, hq_get2, hq_get3, hp_get0, hp_get, hp_get2, hp_get3, hp_set0, hp_set, hp_set2, hp_set3, wr_0, wr_1, wr_2, wr_3, wr_4, wr_n1, s1.1, s1.2.1, s1.2.2, s2.1, s2.2.1, s2.2.2, eA, eB, eC, eD, eZ, hs', hs2, hs3]
    · rw [hz] at eZ
      unfold pktc ltc at *
      simp [sf21, yld_some, exec_reg, exec_dreg, exec_seq, exec_cond, exec_block, exec_scope, exec_exit, exec_ret, exec_skip, exec_loop, ops_nil, ops_cons, ops_cons_gd, stages_nil, stages_cons_n, stages_cons_h, recheck, wantsOp, AV.same, sames, evalOp_p, evalOp_r, evalOp_a, evalOp_call, evalOp_callV, evalOp_store, evalOp_append, evalOp_clear, evalOp_mapUpdate, evalOp_delete, pP_move, pP_pick, pP_build, pP_nil_ptr, pP_nil_func, pP_bin, pP_eq, pP_neg, pP_inv, pP_not, pP_convInt, pP_convStr, pP_fieldAddr, pP_field, pP_indexAddr, pP_indexStr, pP_sliceStr, pP_sliceSl, pP_lenStr, pP_lenNil, pP_lenSl, pP_min, pP_max, pP_extract, pP_mkfn, bV_add, bV_sub, bV_mul, bV_quo, bV_rem, bV_and, bV_or, bV_xor, bV_andNot, bV_eql, bV_neq, bV_lss, bV_leq, bV_gtr, bV_geq, bV_shl, bV_shr, eV_bool, eV_nn, eV_np, eV_pn, eV_snn, eV_sns, eV_ssn, eV_mnn, eV_mnm, eV_mmn, eV_fnn, eV_fnf, eV_ffn, eV_agg, rP_load, rP_lenNil, rP_str0, rdEl_K, rdK_row, rdK_bld, aP_newBld, aP_alloc, aP_box, aP_buildSlice, aP_makeSlice, aP_makeMap, aP_toBytes, hP_store, storeK_some, st_K, stK_row, stE_some, cells_agg, cells_bool, scalar_bool, cells_int, scalar_int, cells_str, scalar_str, cells_nilptr, scalar_nilptr, cells_ptr, scalar_ptr, cells_nilslice, scalar_nilslice, cells_slice, scalar_slice, cells_nilmap, scalar_nilmap, cells_map, scalar_map, cells_nilfunc, scalar_nilfunc, cells_func, scalar_func, eqCells, eqLeaf, run_toL, toL_some, ev_toL, getD_toL, put_toL, keep_toL, asc, fput_same, fput_ne, fbase_nil, fbase_cons, fkeep_nil, fkeep_cons, fzero, fnone, List.map_cons, List.map_nil, ev_lit, put_none, resVals, resVal, resOf, partV, fillA, putCells, fillEls, strBin, minV, optNat, appendEls, elsOf, sliceSlV, sliceStrV, List.replicate, List.getElem?_append_left, List.getElem?_append_right, List.set_append_left, List.set_append_right, List.getElem?_set_self, List.getElem?_set_ne, hq_get0, hq_get, hq_get2, hq_get3, hp_get0, hp_get, hp_get2, hp_get3, hp_set0, hp_set, hp_set2, hp_set3, wr_0, wr_1, wr_2, wr_3, wr_4, wr_n1, s1.1, s1.2.1, s1.2.2, s2.1, s2.2.1, s2.2.2, eA, eB, eC, eD, eZ, hs', hs2, hs3, n1, n2, n3, n4, f1, f2, f3]
  · have hs' : (p.seq == 0) = false := by simpa using hs
    have hs2 : (0 : Int) < p.seq := by omega
    have hs3 : decide ((0 : Int) < p.seq) = true := by simpa using hs2
    rw [if_neg hs]
    cases hr : right p.y
    · rw [hr] at eL
      unfold pktc ltc at *
      simp [sf21, yld_some, exec_reg, exec_dreg, exec_seq, exec_cond, exec_block, exec_scope, exec_exit, exec_ret, exec_skip, exec_loop, ops_nil, ops_cons, ops_cons_gd, stages_nil, stages_cons_n, stages_cons_h, recheck, wantsOp, AV.same, sames, evalOp_p, evalOp_r, evalOp_a, evalOp_call, evalOp_callV, evalOp_store, evalOp_append, evalOp_clear, evalOp_mapUpdate, evalOp_delete, pP_move, pP_pick, pP_build, pP_nil_ptr, pP_nil_func, pP_bin, pP_eq, pP_neg, pP_inv, pP_not, pP_convInt, pP_convStr, pP_fieldAddr, pP_field, pP_indexAddr, pP_indexStr, pP_sliceStr, pP_sliceSl, pP_lenStr, pP_lenNil, pP_lenSl, pP_min, pP_max, pP_extract, pP_mkfn, bV_add, bV_sub, bV_mul, bV_quo, bV_rem, bV_and, bV_or, bV_xor, bV_andNot, bV_eql, bV_neq, bV_lss, bV_leq, bV_gtr, bV_geq, bV_shl, bV_shr, eV_bool, eV_nn, eV_np, eV_pn, eV_snn, eV_sns, eV_ssn, eV_mnn, eV_mnm, eV_mmn, eV_fnn, eV_fnf, eV_ffn, eV_agg, rP_load, rP_lenNil, rP_str0, rdEl_K, rdK_row, rdK_bld, aP_newBld, aP_alloc, aP_box, aP_buildSlice, aP_makeSlice, aP_makeMap, aP_toBytes, hP_store, storeK_some, st_K, stK_row, stE_some, cells_agg, cells_bool, scalar_bool, cells_int, scalar_int, cells_str, scalar_str, cells_nilptr, scalar_nilptr, cells_ptr, scalar_ptr, cells_nilslice, scalar_nilslice, cells_slice, scalar_slice, cells_nilmap, scalar_nilmap, cells_map, scalar_map, cells_nilfunc, scalar_nilfunc, cells_func, scalar_func, eqCells, eqLeaf, run_toL, toL_some, ev_toL, getD_toL, put_toL, keep_toL, asc, fput_same, fput_ne, fbase_nil, fbase_cons, fkeep_nil, fkeep_cons, fzero, fnone, List.map_cons, List.map_nil, ev_lit, put_none, resVals, resVal, resOf, partV, fillA, putCells, fillEls, strBin, minV, optNat, appendEls, elsOf, sliceSlV, sliceStrV, List.replicate, List.getElem?_append_left, List.getElem?_append_right, List.set_append_left, List.set_append_right, List.getElem?_set_self, List.getElem?_set_ne, hq_get0, hq_get, hq_get2, hq_get3, hp_get0, hp_get, hp_get2, hp_get3, hp_set0, hp_set, hp_set2, hp_set3, wr_0, wr_1, wr_2, wr_3, wr_4, wr_n1, s1.1, s1.2.1, s1.2.2, s2.1, s2.2.1, s2.2.2, eA, eB, eC, eD, eL, hs', hs2, hs3]
    · rw [hr] at eL
      have eP := k_rPut hy (right_iff.1 hr) hw
      have hl := putS_len (right_iff.1 hr)
      have f4 : binV .add (.str q3) (.str (putS p.y)) = some (.str (q3 ++ putS p.y)) := add_str (by omega)
      unfold pktc ltc at *
      simp [sf21, yld_some, exec_reg, exec_dreg, exec_seq, exec_cond, exec_block, exec_scope, exec_exit, exec_ret, exec_skip, exec_loop, ops_nil, ops_cons, ops_cons_gd, stages_nil, stages_cons_n, stages_cons_h, recheck, wantsOp, AV.same, sames, evalOp_p, evalOp_r, evalOp_a, evalOp_call, evalOp_callV, evalOp_store, evalOp_append, evalOp_clear, evalOp_mapUpdate, evalOp_delete, pP_move, pP_pick, pP_build, pP_nil_ptr, pP_nil_func, pP_bin, pP_eq, pP_neg, pP_inv, pP_not, pP_convInt, pP_convStr, pP_fieldAddr, pP_field, pP_indexAddr, pP_indexStr, pP_sliceStr, pP_sliceSl, pP_lenStr, pP_lenNil, pP_lenSl, pP_min, pP_max, pP_extract, pP_mkfn, bV_add, bV_sub, bV_mul, bV_quo, bV_rem, bV_and, bV_or, bV_xor, bV_andNot, bV_eql, bV_neq, bV_lss, bV_leq, bV_gtr, bV_geq, bV_shl, bV_shr, eV_bool, eV_nn, eV_np, eV_pn, eV_snn, eV_sns, eV_ssn, eV_mnn, eV_mnm, eV_mmn, eV_fnn, eV_fnf, eV_ffn, eV_agg, rP_load, rP_lenNil, rP_str0, rdEl_K, rdK_row, rdK_bld, aP_newBld, aP_alloc, aP_box, aP_buildSlice, aP_makeSlice, aP_makeMap, aP_toBytes, hP_store, storeK_some, st_K, stK_row, stE_some, cells_agg, cells_bool, scalar_bool, cells_int, scalar_int, cells_str, scalar_str, cells_nilptr, scalar_nilptr, cells_ptr, scalar_ptr, cells_nilslice, scalar_nilslice, cells_slice, scalar_slice, cells_nilmap, scalar_nilmap, cells_map, scalar_map, cells_nilfunc, scalar_nilfunc, cells_func, scalar_func, eqCells, eqLeaf, run_toL, toL_some, ev_toL, getD_toL, put_toL, keep_toL, asc, fput_same, fput_ne, fbase_nil, fbase_cons, fkeep_nil, fkeep_cons, fzero, fnone, List.map_cons, List.map_nil, ev_lit, put_none, resVals, resVal, resOf, partV, fillA, putCells, fillEls, strBin, minV, optNat, appendEls, elsOf, sliceSlV, sliceStrV, List.replicate, List.getElem?_append_left, List.getElem?_append_right, List.set_append_left, List.set_append_right, List.getElem?_set_self, List.getElem?_set_ne, hq_get0, hq_get, hq_get2, hq_get3, hp_get0, hp_get, hp_get2, hp_get3, hp_set0, hp_set, hp_set2, hp_set3, wr_0, wr_1, wr_2, wr_3, wr_4, wr_n1, s1.1, s1.2.1, s1.2.2, s2.1, s2.2.1, s2.2.2, eA, eB, eC, eD, eL, eP, hs', hs2, hs3, n1, n2, n3, n4, f1, f2, f3, f4]
def lP : List Nat := [20, 21]
def fsP := fsBut fsK lP
theorem fsP_ok : FsOk Tryd.prog fsP := fsBut_ok fsK_ok _
noncomputable def exP : FuncId → List AV → M AV := exDrop lP (call fsK exK) exK
theorem exP_ok : CfSound Tryd.prog exP := exDrop_ok _ (call_sound fsK exK fsK_ok exK_ok) exK_ok
theorem eP {f : FuncId} (hf : fsP f = none) (vs : List AV) (h : H) : call fsP exP f vs h = exP f vs h := call_ex fsP exP hf _ _
theorem dP {f : FuncId} {vs : List AV} {h z : H} {v : AV} (hf : lP.contains f = true) (hn : fsP f = none) (hc : call fsK exK f vs h = some (v, h ++ z)) (hv : flatA v = true) : call fsP exP f vs h = some (v, h) := (eP hn _ _).trans (drop_eq hf hc hv)
theorem oP {f : FuncId} (hX : fsP f = none) (hl : lP.contains f = false) (hP : fsK f = none) (vs : List AV) (h : H) : call fsP exP f vs h = call fsK exK f vs h := by
  rw [call_ex fsP exP hX, call_ex fsK exK hP]
  unfold exP exDrop
  rw [if_neg (by rw [hl]; decide)]
theorem eP_WriteString (vs : List AV) (h : H) : call fsP exP 26 vs h = call fsK exK 26 vs h := oP rfl rfl rfl _ _
theorem eP_String (vs : List AV) (h : H) : call fsP exP 30 vs h = call fsK exK 30 vs h := oP rfl rfl rfl _ _
theorem eP_Fields (vs : List AV) (h : H) : call fsP exP 36 vs h = call fsK exK 36 vs h := oP rfl rfl rfl _ _
theorem eP_Num (vs : List AV) (h : H) : call fsP exP 52 vs h = call fsK exK 52 vs h := oP rfl rfl rfl _ _
theorem eP_Text (vs : List AV) (h : H) : call fsP exP 55 vs h = call fsK exK 55 vs h := oP rfl rfl rfl _ _
theorem eP_rNum (vs : List AV) (h : H) : call fsP exP 46 vs h = call fsK exK 46 vs h := oP rfl rfl rfl _ _
theorem eP_rText (vs : List AV) (h : H) : call fsP exP 72 vs h = call fsK exK 72 vs h := oP rfl rfl rfl _ _
theorem eP_Wide (vs : List AV) (h : H) : call fsP exP 27 vs h = call fsK exK 27 vs h := oP rfl rfl rfl _ _
theorem eP_rWide (vs : List AV) (h : H) : call fsP exP 70 vs h = call fsK exK 70 vs h := oP rfl rfl rfl _ _
theorem eP_From (vs : List AV) (h : H) : call fsP exP 31 vs h = call fsK exK 31 vs h := oP rfl rfl rfl _ _
theorem eP_pNum (vs : List AV) (h : H) : call fsP exP 59 vs h = call fsK exK 59 vs h := oP rfl rfl rfl _ _
theorem eP_rrNum (vs : List AV) (h : H) : call fsP exP 50 vs h = call fsK exK 50 vs h := oP rfl rfl rfl _ _
theorem eP_pText (vs : List AV) (h : H) : call fsP exP 58 vs h = call fsK exK 58 vs h := oP rfl rfl rfl _ _
theorem eP_rrText (vs : List AV) (h : H) : call fsP exP 85 vs h = call fsK exK 85 vs h := oP rfl rfl rfl _ _
theorem eP_pWide (vs : List AV) (h : H) : call fsP exP 56 vs h = call fsK exK 56 vs h := oP rfl rfl rfl _ _
theorem eP_rrWide (vs : List AV) (h : H) : call fsP exP 83 vs h = call fsK exK 83 vs h := oP rfl rfl rfl _ _
theorem eP_Bad (vs : List AV) (h : H) : call fsP exP 49 vs h = call fsK exK 49 vs h := oP rfl rfl rfl _ _
theorem eP_End (vs : List AV) (h : H) : call fsP exP 33 vs h = call fsK exK 33 vs h := oP rfl rfl rfl _ _
theorem eP_small (vs : List AV) (h : H) : call fsP exP 37 vs h = call fsK exK 37 vs h := oP rfl rfl rfl _ _
theorem eP_wide (vs : List AV) (h : H) : call fsP exP 38 vs h = call fsK exK 38 vs h := oP rfl rfl rfl _ _
theorem eP_texts (vs : List AV) (h : H) : call fsP exP 39 vs h = call fsK exK 39 vs h := oP rfl rfl rfl _ _
theorem eP_items (vs : List AV) (h : H) : call fsP exP 40 vs h = call fsK exK 40 vs h := oP rfl rfl rfl _ _
theorem eP_rlines (vs : List AV) (h : H) : call fsP exP 69 vs h = call fsK exK 69 vs h := oP rfl rfl rfl _ _
theorem eP_SameItems (vs : List AV) (h : H) : call fsP exP 35 vs h = call fsK exK 35 vs h := oP rfl rfl rfl _ _
theorem eP_byteful (vs : List AV) (h : H) : call fsP exP 42 vs h = call fsK exK 42 vs h := oP rfl rfl rfl _ _
theorem eP_numeral (vs : List AV) (h : H) : call fsP exP 43 vs h = call fsK exK 43 vs h := oP rfl rfl rfl _ _
theorem eP_rflag (vs : List AV) (h : H) : call fsP exP 73 vs h = call fsK exK 73 vs h := oP rfl rfl rfl _ _
theorem eP_Right (vs : List AV) (h : H) : call fsP exP 16 vs h = call fsK exK 16 vs h := oP rfl rfl rfl _ _
theorem eP_rLetter (vs : List AV) (h : H) : call fsP exP 44 vs h = call fsK exK 44 vs h := oP rfl rfl rfl _ _
theorem eP_none (vs : List AV) (h : H) : call fsP exP 41 vs h = call fsK exK 41 vs h := oP rfl rfl rfl _ _
theorem eP_rZero (vs : List AV) (h : H) : call fsP exP 45 vs h = call fsK exK 45 vs h := oP rfl rfl rfl _ _
theorem eP_SameTold (vs : List AV) (h : H) : call fsP exP 34 vs h = call fsK exK 34 vs h := oP rfl rfl rfl _ _
theorem eP_SameLetter (vs : List AV) (h : H) : call fsP exP 14 vs h = call fsK exK 14 vs h := oP rfl rfl rfl _ _
theorem eP_Put (vs : List AV) (h : H) : call fsP exP 12 vs h = call fsK exK 12 vs h := oP rfl rfl rfl _ _
theorem eP_rPut (vs : List AV) (h : H) : call fsP exP 47 vs h = call fsK exK 47 vs h := oP rfl rfl rfl _ _
theorem eP_SamePacket (vs : List AV) (h : H) : call fsP exP 24 vs h = call fsK exK 24 vs h := oP rfl rfl rfl _ _
theorem eP_Get (vs : List AV) (h : H) : call fsP exP 13 vs h = call fsK exK 13 vs h := oP rfl rfl rfl _ _
theorem eP_rGet (vs : List AV) (h : H) : call fsP exP 51 vs h = call fsK exK 51 vs h := oP rfl rfl rfl _ _
theorem eP_Name (vs : List AV) (h : H) : call fsP exP 15 vs h = call fsK exK 15 vs h := oP rfl rfl rfl _ _
theorem eP_Light (vs : List AV) (h : H) : call fsP exP 10 vs h = call fsK exK 10 vs h := oP rfl rfl rfl _ _
theorem eP_alive (vs : List AV) (h : H) : call fsP exP 11 vs h = call fsK exK 11 vs h := oP rfl rfl rfl _ _
theorem tblRP : TblR fsP exP := ⟨rfl, rfl, rfl, rfl, rfl, fun vs h => ((eP_From _ _).trans ((eK_From _ _).trans ((eJ_From _ _).trans ((eQ_From _ _).trans (tblRI.F vs h))))), fun vs h => ((eP_Bad _ _).trans ((eK_Bad _ _).trans ((eJ_Bad _ _).trans ((eQ_Bad _ _).trans (tblRI.B vs h))))), fun vs h => ((eP_End _ _).trans ((eK_End _ _).trans ((eJ_End _ _).trans ((eQ_End _ _).trans (tblRI.E vs h))))), fun vs h => ((eP_pNum _ _).trans ((eK_pNum _ _).trans ((eJ_pNum _ _).trans ((eQ_pNum _ _).trans (tblRI.N vs h))))), fun vs h => ((eP_pText _ _).trans ((eK_pText _ _).trans ((eJ_pText _ _).trans ((eQ_pText _ _).trans (tblRI.T vs h))))), fun vs h => ((eP_pWide _ _).trans ((eK_pWide _ _).trans ((eJ_pWide _ _).trans ((eQ_pWide _ _).trans (tblRI.W vs h))))), fun vs h => ((eP_rrNum _ _).trans ((eK_rrNum _ _).trans ((eJ_rrNum _ _).trans ((eQ_rrNum _ _).trans (tblRI.rN vs h))))), fun vs h => ((eP_rrText _ _).trans ((eK_rrText _ _).trans ((eJ_rrText _ _).trans ((eQ_rrText _ _).trans (tblRI.rT vs h))))), fun vs h => ((eP_rrWide _ _).trans ((eK_rrWide _ _).trans ((eJ_rrWide _ _).trans ((eQ_rrWide _ _).trans (tblRI.rW vs h)))))⟩
section
variable {k : H} {c d : List AV} {p q : Pkt}
theorem p_Put (hc : IsP k c p) : call fsP exP 20 [.agg c] k = some (.tuple [.str (if rightP p = true then putPS p else []), .bool (rightP p)], k) := by
  obtain ⟨z, e⟩ := PutPacket_call hc
  exact dP rfl rfl e rfl
theorem p_rPut (hc : IsP k c p) (hw : Wf p.y) : call fsP exP 21 [.agg c] k = some (.tuple [.str (if rightP p = true then putPS p else []), .bool (rightP p)], k) := by
  obtain ⟨z, e⟩ := rPutPacket_call hc hw
  exact dP rfl rfl e rfl
theorem p_alive (k : H) : call fsP exP 11 [] k = some (.bool true, k) := (eP_alive _ _).trans (k_alive k)
theorem p_Light {l : Ltr} (hc : IsL k c l) : ∃ b, call fsP exP 10 [.agg c] k = some (.bool b, k) := by
  obtain ⟨b, e⟩ := k_Light hc
  exact ⟨b, (eP_Light _ _).trans e⟩
theorem p_letter {l : Ltr} (hc : IsL k c l) : call fsP exP 12 [.agg c] k = some (.tuple [.str (if right l = true then putS l else []), .bool (right l)], k) := (eP_Put _ _).trans (k_Put hc)
theorem p_same (hc : IsP k c p) (hd : IsP k d q) : call fsP exP 24 [.agg c, .agg d] k = some (.bool (sameP p q), k) := ((eP_SamePacket _ _).trans ((eK_SamePacket _ _).trans ((eJ_SamePacket _ _).trans ((eQ_SamePacket _ _).trans (i_samep hc hd)))))
theorem p_rGet (b : List UInt8) (hb : b.length ≤ 281474976710656) (k : H) : ∃ c z, call fsP exP 51 [.str b] k = some (.tuple [.agg c, .bool (getR b).2], k ++ z) ∧ IsLO k.length (k ++ z) c (getR b).1 := by
  obtain ⟨c, z, e, h⟩ := rGet_call b hb k
  exact ⟨c, z, ((eP_rGet _ _).trans ((eK_rGet _ _).trans ((eJ_rGet _ _).trans ((eQ_rGet _ _).trans e)))), h⟩
end
end Go.Proofs.YtgnenipkebelfaaDoor.Lt
