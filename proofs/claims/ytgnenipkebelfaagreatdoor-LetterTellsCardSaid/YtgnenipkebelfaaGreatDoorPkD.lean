/- Pack: the document's own reader. -/
import Derived.Test.YtgnenipkebelfaaGreatDoorPkN
set_option maxRecDepth 100000
set_option linter.unusedVariables false
set_option linter.unusedSimpArgs false
namespace Go.Proofs.YtgnenipkebelfaaGreatDoor.Pk
open Go Go.Eng F

theorem u8_nat (m : Nat) (hm : m < 256) : IntKind.u8.wrap (m : Int) = m := by
  simp only [IntKind.wrap, IntKind.bits, IntKind.signed, IntKind.min, IntKind.max]
  simp
  omega
theorem u8_mod (m : Nat) : IntKind.u8.wrap (m : Int) = ((m % 256 : Nat) : Int) := by
  simp only [IntKind.wrap, IntKind.bits, IntKind.signed, IntKind.min, IntKind.max]
  simp
theorem dg_eq (n i m : Nat) (h : m % 256 = n / 2 ^ (8 * i) % 256) : UInt8.ofNat m = dg (n : Int) i := by
  apply UInt8.toNat_inj.1
  rw [dg_nat]
  simp
  omega
theorem rnum12 (n : Nat) (hn : n ≤ 65535) : ∃ k, call fs0 ex0 32 [.int .i64 n] [] = some (.str (numS (n : Int)), k) := by
  rw [call_eq fs0 ex0 (f := 32) (sf := sf32) rfl]
  have hw : IntKind.u64.wrap (n : Int) = n := wrap_u64 (by omega) (by omega)
  have ht : (n : Int).tdiv 256 = ((n / 256 : Nat) : Int) := by
    rw [Int.tdiv_eq_ediv_of_nonneg (by omega)]; omega
  have hw2 : IntKind.i64.wrap ((n / 256 : Nat) : Int) = ((n / 256 : Nat) : Int) := wrap_i64 (by omega) (by omega)
  have hc1 := u8_nat (n / 256) (by omega)
  have hc0 := u8_mod n
  have e1 : UInt8.ofNat (n / 256) = dg (n : Int) 1 := dg_eq _ _ _ rfl
  have e0 : UInt8.ofNat (n % 256) = dg (n : Int) 0 := dg_eq _ _ _ (by simp)
  generalize n / 256 = q at *
  generalize hm : n % 256 = m at *
  simp [sf32, yld_some, exec_reg, exec_dreg, exec_seq, exec_cond, exec_block, exec_scope, exec_exit, exec_ret, exec_skip, exec_loop, ops_nil, ops_cons, ops_cons_gd, stages_nil, stages_cons_n, stages_cons_h, recheck, wantsOp, AV.same, sames, evalOp_p, evalOp_r, evalOp_a, evalOp_call, evalOp_callV, evalOp_store, evalOp_append, evalOp_clear, evalOp_mapUpdate, evalOp_delete, pP_move, pP_pick, pP_build, pP_nil_ptr, pP_nil_func, pP_bin, pP_eq, pP_neg, pP_inv, pP_not, pP_convInt, pP_convStr, pP_fieldAddr, pP_field, pP_indexAddr, pP_indexStr, pP_sliceStr, pP_sliceSl, pP_lenStr, pP_lenNil, pP_lenSl, pP_min, pP_max, pP_extract, pP_mkfn, bV_add, bV_sub, bV_mul, bV_quo, bV_rem, bV_and, bV_or, bV_xor, bV_andNot, bV_eql, bV_neq, bV_lss, bV_leq, bV_gtr, bV_geq, bV_shl, bV_shr, bV_str, eV_bool, eV_nn, eV_np, eV_pn, eV_snn, eV_sns, eV_ssn, eV_mnn, eV_mnm, eV_mmn, eV_fnn, eV_fnf, eV_ffn, eV_agg, rP_load, rP_lenNil, rP_str0, rdEl_K, rdK_row, rdK_bld, aP_newBld, aP_alloc, aP_box, aP_buildSlice, aP_makeSlice, aP_makeMap, aP_toBytes, hP_store, storeK_some, st_K, stK_row, stE_some, cells_agg, cells_bool, scalar_bool, cells_int, scalar_int, cells_str, scalar_str, cells_nilptr, scalar_nilptr, cells_ptr, scalar_ptr, cells_nilslice, scalar_nilslice, cells_slice, scalar_slice, cells_nilmap, scalar_nilmap, cells_map, scalar_map, cells_nilfunc, scalar_nilfunc, cells_func, scalar_func, eqCells, eqLeaf, run_toL, toL_some, ev_toL, getD_toL, put_toL, keep_toL, asc, fput_same, fput_ne, fbase_nil, fbase_cons, fkeep_nil, fkeep_cons, fzero, fnone, List.map_cons, List.map_nil, ev_lit, put_none, resVals, resVal, resOf, partV, fillA, putCells, fillEls, strBin, minV, optNat, appendEls, elsOf, sliceSlV, sliceStrV, List.replicate, List.getElem?_append_left, List.getElem?_append_right, List.set_append_left, List.set_append_right, List.getElem?_set_self, List.getElem?_set_ne, hq_get0, hq_get, hq_get2, hq_get3, hp_get0, hp_get, hp_get2, hp_get3, hp_set0, hp_set, hp_set2, hp_set3, wr_0, wr_1, wr_2, wr_3, wr_4, wr_n1, evalR, bytesA, numS, hw, ht, hw2, hc1, hc0]
  exact ⟨e1, e0⟩
theorem rtext13 (s : List UInt8) (hs : s.length ≤ 255) : ∃ k, call fs0 ex0 35 [.str s] [] = some (.str (textS s), k) := by
  rw [call_eq fs0 ex0 (f := 35) (sf := sf35) rfl]
  have hc := u8_nat s.length (by omega)
  have e0 : UInt8.ofNat s.length = dg (s.length : Int) 0 := dg_eq _ _ _ (by simp)
  have hl : ¬ (9223372036854775807 : Int) < 1 + (s.length : Int) := by omega
  have hl2 : ¬ (9223372036854775807 : Int) < (s.length : Int) + 1 := by omega
  simp [sf35, yld_some, exec_reg, exec_dreg, exec_seq, exec_cond, exec_block, exec_scope, exec_exit, exec_ret, exec_skip, exec_loop, ops_nil, ops_cons, ops_cons_gd, stages_nil, stages_cons_n, stages_cons_h, recheck, wantsOp, AV.same, sames, evalOp_p, evalOp_r, evalOp_a, evalOp_call, evalOp_callV, evalOp_store, evalOp_append, evalOp_clear, evalOp_mapUpdate, evalOp_delete, pP_move, pP_pick, pP_build, pP_nil_ptr, pP_nil_func, pP_bin, pP_eq, pP_neg, pP_inv, pP_not, pP_convInt, pP_convStr, pP_fieldAddr, pP_field, pP_indexAddr, pP_indexStr, pP_sliceStr, pP_sliceSl, pP_lenStr, pP_lenNil, pP_lenSl, pP_min, pP_max, pP_extract, pP_mkfn, bV_add, bV_sub, bV_mul, bV_quo, bV_rem, bV_and, bV_or, bV_xor, bV_andNot, bV_eql, bV_neq, bV_lss, bV_leq, bV_gtr, bV_geq, bV_shl, bV_shr, bV_str, eV_bool, eV_nn, eV_np, eV_pn, eV_snn, eV_sns, eV_ssn, eV_mnn, eV_mnm, eV_mmn, eV_fnn, eV_fnf, eV_ffn, eV_agg, rP_load, rP_lenNil, rP_str0, rdEl_K, rdK_row, rdK_bld, aP_newBld, aP_alloc, aP_box, aP_buildSlice, aP_makeSlice, aP_makeMap, aP_toBytes, hP_store, storeK_some, st_K, stK_row, stE_some, cells_agg, cells_bool, scalar_bool, cells_int, scalar_int, cells_str, scalar_str, cells_nilptr, scalar_nilptr, cells_ptr, scalar_ptr, cells_nilslice, scalar_nilslice, cells_slice, scalar_slice, cells_nilmap, scalar_nilmap, cells_map, scalar_map, cells_nilfunc, scalar_nilfunc, cells_func, scalar_func, eqCells, eqLeaf, run_toL, toL_some, ev_toL, getD_toL, put_toL, keep_toL, asc, fput_same, fput_ne, fbase_nil, fbase_cons, fkeep_nil, fkeep_cons, fzero, fnone, List.map_cons, List.map_nil, ev_lit, put_none, resVals, resVal, resOf, partV, fillA, putCells, fillEls, strBin, minV, optNat, appendEls, elsOf, sliceSlV, sliceStrV, List.replicate, List.getElem?_append_left, List.getElem?_append_right, List.set_append_left, List.set_append_right, List.getElem?_set_self, List.getElem?_set_ne, hq_get0, hq_get, hq_get2, hq_get3, hp_get0, hp_get, hp_get2, hp_get3, hp_set0, hp_set, hp_set2, hp_set3, wr_0, wr_1, wr_2, wr_3, wr_4, wr_n1, evalR, bytesA, textS, hc, hl, hl2]
  exact e0
theorem and255 (m : Nat) (hm : m < 18446744073709551616) : bitsV .and .u64 (m : Int) 255 = some ((m % 256 : Nat) : Int) := by
  have h1 : (BitVec.ofInt IntKind.u64.bits (m : Int) &&& BitVec.ofInt IntKind.u64.bits (255 : Int)).toNat = m % 256 := by
    rw [BitVec.toNat_and]
    have e1 : (BitVec.ofInt IntKind.u64.bits (m : Int)).toNat = m := by
      rw [BitVec.ofInt_natCast, BitVec.toNat_ofNat]; exact Nat.mod_eq_of_lt (by simp only [IntKind.bits]; omega)
    have e2 : (BitVec.ofInt IntKind.u64.bits (255 : Int)).toNat = 255 := rfl
    rw [e1, e2]
    exact Nat.and_two_pow_sub_one_eq_mod m 8
  simp only [bitsV]
  rw [h1, wrap_u64 (by omega) (by omega)]
set_option maxHeartbeats 8000000 in
theorem rwide15 (n : Nat) (hn : n < 18446744073709551616) : ∃ k, call fs0 ex0 33 [.int .u64 n] [] = some (.str (wideS (n : Int)), k) := by
  rw [call_eq fs0 ex0 (f := 33) (sf := sf33) rfl]
  have w7 : IntKind.i64.wrap 7 = 7 := wr 7 (by omega)
  have w6 : IntKind.i64.wrap 6 = 6 := wr 6 (by omega)
  have w5 : IntKind.i64.wrap 5 = 5 := wr 5 (by omega)
  have td : ∀ q : Nat, (q : Int).tdiv 256 = ((q / 256 : Nat) : Int) := fun q => by rw [Int.tdiv_eq_ediv_of_nonneg (by omega)]; omega
  have st : ∀ q : Nat, q < 18446744073709551616 → ∃ r d : Nat, r = q / 256 ∧ d = q % 256 ∧ r < 18446744073709551616 ∧ (q : Int).tdiv 256 = (r : Int) ∧ IntKind.u64.wrap (r : Int) = r ∧ bitsV .and .u64 (q : Int) 255 = some (d : Int) ∧ IntKind.u8.wrap (d : Int) = d := by
    intro q hq
    exact ⟨_, _, rfl, rfl, by omega, td q, wrap_u64 (by omega) (by omega), and255 q hq, u8_nat _ (by omega)⟩
  obtain ⟨q1, d0, r0, s0, l1, t0, u0, a0, c0⟩ := st n hn
  obtain ⟨q2, d1, r1, s1, l2, t1, u1, a1, c1⟩ := st q1 l1
  obtain ⟨q3, d2, r2, s2, l3, t2, u2, a2, c2⟩ := st q2 l2
  obtain ⟨q4, d3, r3, s3, l4, t3, u3, a3, c3⟩ := st q3 l3
  obtain ⟨q5, d4, r4, s4, l5, t4, u4, a4, c4⟩ := st q4 l4
  obtain ⟨q6, d5, r5, s5, l6, t5, u5, a5, c5⟩ := st q5 l5
  obtain ⟨q7, d6, r6, s6, l7, t6, u6, a6, c6⟩ := st q6 l6
  obtain ⟨q8, d7, r7, s7, l8, t7, u7, a7, c7⟩ := st q7 l7
  have z0 : UInt8.ofNat d0 = dg (n : Int) 0 := dg_eq _ _ _ (by simp only [Nat.mul_zero, Nat.pow_zero, Nat.div_one]; omega)
  have z1 : UInt8.ofNat d1 = dg (n : Int) 1 := dg_eq _ _ _ (by simp only [Nat.reducePow, Nat.reduceMul]; omega)
  have z2 : UInt8.ofNat d2 = dg (n : Int) 2 := dg_eq _ _ _ (by simp only [Nat.reducePow, Nat.reduceMul]; omega)
  have z3 : UInt8.ofNat d3 = dg (n : Int) 3 := dg_eq _ _ _ (by simp only [Nat.reducePow, Nat.reduceMul]; omega)
  have z4 : UInt8.ofNat d4 = dg (n : Int) 4 := dg_eq _ _ _ (by simp only [Nat.reducePow, Nat.reduceMul]; omega)
  have z5 : UInt8.ofNat d5 = dg (n : Int) 5 := dg_eq _ _ _ (by simp only [Nat.reducePow, Nat.reduceMul]; omega)
  have z6 : UInt8.ofNat d6 = dg (n : Int) 6 := dg_eq _ _ _ (by simp only [Nat.reducePow, Nat.reduceMul]; omega)
  have z7 : UInt8.ofNat d7 = dg (n : Int) 7 := dg_eq _ _ _ (by simp only [Nat.reducePow, Nat.reduceMul]; omega)
  clear r0 r1 r2 r3 r4 r5 r6 r7 s0 s1 s2 s3 s4 s5 s6 s7
  simp [sf33, itw_eq, yld_some, exec_reg, exec_dreg, exec_seq, exec_cond, exec_block, exec_scope, exec_exit, exec_ret, exec_skip, exec_loop, ops_nil, ops_cons, ops_cons_gd, stages_nil, stages_cons_n, stages_cons_h, recheck, wantsOp, AV.same, sames, evalOp_p, evalOp_r, evalOp_a, evalOp_call, evalOp_callV, evalOp_store, evalOp_append, evalOp_clear, evalOp_mapUpdate, evalOp_delete, pP_move, pP_pick, pP_build, pP_nil_ptr, pP_nil_func, pP_bin, pP_eq, pP_neg, pP_inv, pP_not, pP_convInt, pP_convStr, pP_fieldAddr, pP_field, pP_indexAddr, pP_indexStr, pP_sliceStr, pP_sliceSl, pP_lenStr, pP_lenNil, pP_lenSl, pP_min, pP_max, pP_extract, pP_mkfn, bV_add, bV_sub, bV_mul, bV_quo, bV_rem, bV_and, bV_or, bV_xor, bV_andNot, bV_eql, bV_neq, bV_lss, bV_leq, bV_gtr, bV_geq, bV_shl, bV_shr, bV_str, eV_bool, eV_nn, eV_np, eV_pn, eV_snn, eV_sns, eV_ssn, eV_mnn, eV_mnm, eV_mmn, eV_fnn, eV_fnf, eV_ffn, eV_agg, rP_load, rP_lenNil, rP_str0, rdEl_K, rdK_row, rdK_bld, aP_newBld, aP_alloc, aP_box, aP_buildSlice, aP_makeSlice, aP_makeMap, aP_toBytes, hP_store, storeK_some, st_K, stK_row, stE_some, cells_agg, cells_bool, scalar_bool, cells_int, scalar_int, cells_str, scalar_str, cells_nilptr, scalar_nilptr, cells_ptr, scalar_ptr, cells_nilslice, scalar_nilslice, cells_slice, scalar_slice, cells_nilmap, scalar_nilmap, cells_map, scalar_map, cells_nilfunc, scalar_nilfunc, cells_func, scalar_func, eqCells, eqLeaf, run_toL, toL_some, ev_toL, getD_toL, put_toL, keep_toL, asc, fput_same, fput_ne, fbase_nil, fbase_cons, fkeep_nil, fkeep_cons, fzero, fnone, List.map_cons, List.map_nil, ev_lit, put_none, resVals, resVal, resOf, partV, fillA, putCells, fillEls, strBin, minV, optNat, appendEls, elsOf, sliceSlV, sliceStrV, List.replicate, List.getElem?_append_left, List.getElem?_append_right, List.set_append_left, List.set_append_right, List.getElem?_set_self, List.getElem?_set_ne, hq_get0, hq_get, hq_get2, hq_get3, hp_get0, hp_get, hp_get2, hp_get3, hp_set0, hp_set, hp_set2, hp_set3, wr_0, wr_1, wr_2, wr_3, wr_4, wr_n1, evalR, bytesA, w5, w6, w7, wideS, t0, t1, t2, t3, t4, t5, t6, t7, u0, u1, u2, u3, u4, u5, u6, u7, a0, a1, a2, a3, a4, a5, a6, a7, c0, c1, c2, c3, c4, c5, c6, c7, z0, z1, z2, z3, z4, z5, z6, z7]
set_option maxHeartbeats 8000000 in
theorem addr29 (b0 b1 b2 b3 b4 b5 b6 b7 : UInt8) : ∃ k, call fs0 ex0 115 [.str [b0, b1, b2, b3, b4, b5, b6, b7]] [] = some (.int .u64 (val [b0, b1, b2, b3, b4, b5, b6, b7] : Nat), k) := by
  rw [call_eq fs0 ex0 (f := 115) (sf := sf115) rfl]
  have w8 : IntKind.i64.wrap 8 = 8 := wr 8 (by omega)
  have w7 : IntKind.i64.wrap 7 = 7 := wr 7 (by omega)
  have w6 : IntKind.i64.wrap 6 = 6 := wr 6 (by omega)
  have w5 : IntKind.i64.wrap 5 = 5 := wr 5 (by omega)
  have cu : ∀ b : UInt8, IntKind.u64.wrap (b.toNat : Int) = b.toNat := fun b => wrap_u64 (by omega) (by have := b.toNat_lt; omega)
  have st : ∀ (v : Nat) (b : UInt8), v * 256 + 255 < 18446744073709551616 → ∃ x y : Nat, x = v * 256 ∧ y = v * 256 + b.toNat ∧ y < v * 256 + 256 ∧ (v : Int) * 256 = (x : Int) ∧ IntKind.u64.wrap (x : Int) = x ∧ (x : Int) + b.toNat = (y : Int) ∧ IntKind.u64.wrap (y : Int) = y := by
    intro v b hv
    have := b.toNat_lt
    exact ⟨_, _, rfl, rfl, by omega, by omega, wrap_u64 (by omega) (by omega), by omega, wrap_u64 (by omega) (by omega)⟩
  obtain ⟨x0, y0, p0, q0, l0, m0, u0, a0, c0⟩ := st 0 b0 (by omega)
  obtain ⟨x1, y1, p1, q1, l1, m1, u1, a1, c1⟩ := st y0 b1 (by omega)
  obtain ⟨x2, y2, p2, q2, l2, m2, u2, a2, c2⟩ := st y1 b2 (by omega)
  obtain ⟨x3, y3, p3, q3, l3, m3, u3, a3, c3⟩ := st y2 b3 (by omega)
  obtain ⟨x4, y4, p4, q4, l4, m4, u4, a4, c4⟩ := st y3 b4 (by omega)
  obtain ⟨x5, y5, p5, q5, l5, m5, u5, a5, c5⟩ := st y4 b5 (by omega)
  obtain ⟨x6, y6, p6, q6, l6, m6, u6, a6, c6⟩ := st y5 b6 (by omega)
  obtain ⟨x7, y7, p7, q7, l7, m7, u7, a7, c7⟩ := st y6 b7 (by omega)
  have hv : val [b0, b1, b2, b3, b4, b5, b6, b7] = y7 := by
    simp only [val, List.foldl]; rw [q7, q6, q5, q4, q3, q2, q1, q0]
  rw [hv]
  have m0' : (0 : Int) * 256 = x0 := m0
  have hx0 : x0 = 0 := by omega
  subst hx0
  have a0' : (b0.toNat : Int) = y0 := by omega
  clear p0 p1 p2 p3 p4 p5 p6 p7 q0 q1 q2 q3 q4 q5 q6 q7 l0 l1 l2 l3 l4 l5 l6 l7 hv
  have cb0 := cu b0
  rw [a0'] at cb0
  have w0 : IntKind.u64.wrap 0 = 0 := wrap_u64 (by omega) (by omega)
  simp [sf115, itw_eq, yld_some, exec_reg, exec_dreg, exec_seq, exec_cond, exec_block, exec_scope, exec_exit, exec_ret, exec_skip, exec_loop, ops_nil, ops_cons, ops_cons_gd, stages_nil, stages_cons_n, stages_cons_h, recheck, wantsOp, AV.same, sames, evalOp_p, evalOp_r, evalOp_a, evalOp_call, evalOp_callV, evalOp_store, evalOp_append, evalOp_clear, evalOp_mapUpdate, evalOp_delete, pP_move, pP_pick, pP_build, pP_nil_ptr, pP_nil_func, pP_bin, pP_eq, pP_neg, pP_inv, pP_not, pP_convInt, pP_convStr, pP_fieldAddr, pP_field, pP_indexAddr, pP_indexStr, pP_sliceStr, pP_sliceSl, pP_lenStr, pP_lenNil, pP_lenSl, pP_min, pP_max, pP_extract, pP_mkfn, bV_add, bV_sub, bV_mul, bV_quo, bV_rem, bV_and, bV_or, bV_xor, bV_andNot, bV_eql, bV_neq, bV_lss, bV_leq, bV_gtr, bV_geq, bV_shl, bV_shr, bV_str, eV_bool, eV_nn, eV_np, eV_pn, eV_snn, eV_sns, eV_ssn, eV_mnn, eV_mnm, eV_mmn, eV_fnn, eV_fnf, eV_ffn, eV_agg, rP_load, rP_lenNil, rP_str0, rdEl_K, rdK_row, rdK_bld, aP_newBld, aP_alloc, aP_box, aP_buildSlice, aP_makeSlice, aP_makeMap, aP_toBytes, hP_store, storeK_some, st_K, stK_row, stE_some, cells_agg, cells_bool, scalar_bool, cells_int, scalar_int, cells_str, scalar_str, cells_nilptr, scalar_nilptr, cells_ptr, scalar_ptr, cells_nilslice, scalar_nilslice, cells_slice, scalar_slice, cells_nilmap, scalar_nilmap, cells_map, scalar_map, cells_nilfunc, scalar_nilfunc, cells_func, scalar_func, eqCells, eqLeaf, run_toL, toL_some, ev_toL, getD_toL, put_toL, keep_toL, asc, fput_same, fput_ne, fbase_nil, fbase_cons, fkeep_nil, fkeep_cons, fzero, fnone, List.map_cons, List.map_nil, ev_lit, put_none, resVals, resVal, resOf, partV, fillA, putCells, fillEls, strBin, minV, optNat, appendEls, elsOf, sliceSlV, sliceStrV, List.replicate, List.getElem?_append_left, List.getElem?_append_right, List.set_append_left, List.set_append_right, List.getElem?_set_self, List.getElem?_set_ne, hq_get0, hq_get, hq_get2, hq_get3, hp_get0, hp_get, hp_get2, hp_get3, hp_set0, hp_set, hp_set2, hp_set3, wr_0, wr_1, wr_2, wr_3, wr_4, wr_n1, w5, w6, w7, w8, w0, cu, cb0, a0', m1, m2, m3, m4, m5, m6, m7, u1, u2, u3, u4, u5, u6, u7, a1, a2, a3, a4, a5, a6, a7, c0, c1, c2, c3, c4, c5, c6, c7]

def Rd.rtake (x : Rd) (n : Nat) : List UInt8 := if x.bad = true ∨ x.b.length < n then List.replicate n 0 else x.b.take n
theorem rtake_call {h : H} {r : Nat} {x : Rd} (hr : h[r]? = some x.blk) (hx : x.b.length ≤ 281474976710656) (n : Nat) (hn255 : n ≤ 255) : ∃ k, call fs0 ex0 114 [.ptr r 0 0, .int .i64 n] h = some (.str (x.rtake n), h.set r (x.take n).2.blk ++ k) := by
  rw [call_eq fs0 ex0 (f := 114) (sf := sf114) rfl]
  have hby : bytesA (List.replicate n [AV.int .u8 0]) = some (List.replicate n 0) := bytesA_rep 0 n
  have g1 : n ≤ 4294967296 := by omega
  have g2 : (n : Int) ≤ 4294967296 := by omega
  unfold Rd.blk at hr ⊢
  unfold Rd.take Rd.rtake
  cases hb : x.bad
  · rw [hb] at hr
    by_cases hn : x.b.length < n
    · have hn' : (x.b.length : Int) < n := by omega
      simp [sf114, yld_some, exec_reg, exec_dreg, exec_seq, exec_cond, exec_block, exec_scope, exec_exit, exec_ret, exec_skip, exec_loop, ops_nil, ops_cons, ops_cons_gd, stages_nil, stages_cons_n, stages_cons_h, recheck, wantsOp, AV.same, sames, evalOp_p, evalOp_r, evalOp_a, evalOp_call, evalOp_callV, evalOp_store, evalOp_append, evalOp_clear, evalOp_mapUpdate, evalOp_delete, pP_move, pP_pick, pP_build, pP_nil_ptr, pP_nil_func, pP_bin, pP_eq, pP_neg, pP_inv, pP_not, pP_convInt, pP_convStr, pP_fieldAddr, pP_field, pP_indexAddr, pP_indexStr, pP_sliceStr, pP_sliceSl, pP_lenStr, pP_lenNil, pP_lenSl, pP_min, pP_max, pP_extract, pP_mkfn, bV_add, bV_sub, bV_mul, bV_quo, bV_rem, bV_and, bV_or, bV_xor, bV_andNot, bV_eql, bV_neq, bV_lss, bV_leq, bV_gtr, bV_geq, bV_shl, bV_shr, bV_str, eV_bool, eV_nn, eV_np, eV_pn, eV_snn, eV_sns, eV_ssn, eV_mnn, eV_mnm, eV_mmn, eV_fnn, eV_fnf, eV_ffn, eV_agg, rP_load, rP_lenNil, rP_str0, rdEl_K, rdK_row, rdK_bld, aP_newBld, aP_alloc, aP_box, aP_buildSlice, aP_makeSlice, aP_makeMap, aP_toBytes, hP_store, storeK_some, st_K, stK_row, stE_some, cells_agg, cells_bool, scalar_bool, cells_int, scalar_int, cells_str, scalar_str, cells_nilptr, scalar_nilptr, cells_ptr, scalar_ptr, cells_nilslice, scalar_nilslice, cells_slice, scalar_slice, cells_nilmap, scalar_nilmap, cells_map, scalar_map, cells_nilfunc, scalar_nilfunc, cells_func, scalar_func, eqCells, eqLeaf, run_toL, toL_some, ev_toL, getD_toL, put_toL, keep_toL, asc, fput_same, fput_ne, fbase_nil, fbase_cons, fkeep_nil, fkeep_cons, fzero, fnone, List.map_cons, List.map_nil, ev_lit, put_none, resVals, resVal, resOf, partV, fillA, putCells, fillEls, strBin, minV, optNat, appendEls, elsOf, sliceSlV, sliceStrV, List.replicate, List.getElem?_append_left, List.getElem?_append_right, List.set_append_left, List.set_append_right, List.getElem?_set_self, List.getElem?_set_ne, hq_get0, hq_get, hq_get2, hq_get3, hp_get0, hp_get, hp_get2, hp_get3, hp_set0, hp_set, hp_set2, hp_set3, wr_0, wr_1, wr_2, wr_3, wr_4, wr_n1, evalR, hby, g1, g2, hr, get_app hr, set_app hr, get_set_same hr, get_set_app hr, set_set_app hr, len_beq hr, beq_len hr, hn, hn']
    · have hn' : ¬ (x.b.length : Int) < n := by omega
      have hn2 : n ≤ x.b.length := by omega
      have hl : (x.b.take n).length ≤ 281474976710656 := by simp; omega
      have hd : (x.b.drop n).take (x.b.length - n) = x.b.drop n := List.take_of_length_le (by simp)
      have hn3 : n ≤ 281474976710656 := by omega
      simp [sf114, yld_some, exec_reg, exec_dreg, exec_seq, exec_cond, exec_block, exec_scope, exec_exit, exec_ret, exec_skip, exec_loop, ops_nil, ops_cons, ops_cons_gd, stages_nil, stages_cons_n, stages_cons_h, recheck, wantsOp, AV.same, sames, evalOp_p, evalOp_r, evalOp_a, evalOp_call, evalOp_callV, evalOp_store, evalOp_append, evalOp_clear, evalOp_mapUpdate, evalOp_delete, pP_move, pP_pick, pP_build, pP_nil_ptr, pP_nil_func, pP_bin, pP_eq, pP_neg, pP_inv, pP_not, pP_convInt, pP_convStr, pP_fieldAddr, pP_field, pP_indexAddr, pP_indexStr, pP_sliceStr, pP_sliceSl, pP_lenStr, pP_lenNil, pP_lenSl, pP_min, pP_max, pP_extract, pP_mkfn, bV_add, bV_sub, bV_mul, bV_quo, bV_rem, bV_and, bV_or, bV_xor, bV_andNot, bV_eql, bV_neq, bV_lss, bV_leq, bV_gtr, bV_geq, bV_shl, bV_shr, bV_str, eV_bool, eV_nn, eV_np, eV_pn, eV_snn, eV_sns, eV_ssn, eV_mnn, eV_mnm, eV_mmn, eV_fnn, eV_fnf, eV_ffn, eV_agg, rP_load, rP_lenNil, rP_str0, rdEl_K, rdK_row, rdK_bld, aP_newBld, aP_alloc, aP_box, aP_buildSlice, aP_makeSlice, aP_makeMap, aP_toBytes, hP_store, storeK_some, st_K, stK_row, stE_some, cells_agg, cells_bool, scalar_bool, cells_int, scalar_int, cells_str, scalar_str, cells_nilptr, scalar_nilptr, cells_ptr, scalar_ptr, cells_nilslice, scalar_nilslice, cells_slice, scalar_slice, cells_nilmap, scalar_nilmap, cells_map, scalar_map, cells_nilfunc, scalar_nilfunc, cells_func, scalar_func, eqCells, eqLeaf, run_toL, toL_some, ev_toL, getD_toL, put_toL, keep_toL, asc, fput_same, fput_ne, fbase_nil, fbase_cons, fkeep_nil, fkeep_cons, fzero, fnone, List.map_cons, List.map_nil, ev_lit, put_none, resVals, resVal, resOf, partV, fillA, putCells, fillEls, strBin, minV, optNat, appendEls, elsOf, sliceSlV, sliceStrV, List.replicate, List.getElem?_append_left, List.getElem?_append_right, List.set_append_left, List.set_append_right, List.getElem?_set_self, List.getElem?_set_ne, hq_get0, hq_get, hq_get2, hq_get3, hp_get0, hp_get, hp_get2, hp_get3, hp_set0, hp_set, hp_set2, hp_set3, wr_0, wr_1, wr_2, wr_3, wr_4, wr_n1, hr, get_app hr, set_app hr, get_set_same hr, get_set_app hr, set_set_app hr, len_beq hr, beq_len hr, hn, hn', hn2, hn3, hd, hl]
  · rw [hb] at hr
    have hself : h.set r (.row 2 [[.str x.b, .bool true]] true true) = h := by
      apply List.ext_getElem?
      intro i
      by_cases hi : r = i
      · subst hi; rw [List.getElem?_set_self (List.getElem?_eq_some_iff.1 hr).1, hr]
      · rw [List.getElem?_set_ne hi]
    simp [sf114, yld_some, exec_reg, exec_dreg, exec_seq, exec_cond, exec_block, exec_scope, exec_exit, exec_ret, exec_skip, exec_loop, ops_nil, ops_cons, ops_cons_gd, stages_nil, stages_cons_n, stages_cons_h, recheck, wantsOp, AV.same, sames, evalOp_p, evalOp_r, evalOp_a, evalOp_call, evalOp_callV, evalOp_store, evalOp_append, evalOp_clear, evalOp_mapUpdate, evalOp_delete, pP_move, pP_pick, pP_build, pP_nil_ptr, pP_nil_func, pP_bin, pP_eq, pP_neg, pP_inv, pP_not, pP_convInt, pP_convStr, pP_fieldAddr, pP_field, pP_indexAddr, pP_indexStr, pP_sliceStr, pP_sliceSl, pP_lenStr, pP_lenNil, pP_lenSl, pP_min, pP_max, pP_extract, pP_mkfn, bV_add, bV_sub, bV_mul, bV_quo, bV_rem, bV_and, bV_or, bV_xor, bV_andNot, bV_eql, bV_neq, bV_lss, bV_leq, bV_gtr, bV_geq, bV_shl, bV_shr, bV_str, eV_bool, eV_nn, eV_np, eV_pn, eV_snn, eV_sns, eV_ssn, eV_mnn, eV_mnm, eV_mmn, eV_fnn, eV_fnf, eV_ffn, eV_agg, rP_load, rP_lenNil, rP_str0, rdEl_K, rdK_row, rdK_bld, aP_newBld, aP_alloc, aP_box, aP_buildSlice, aP_makeSlice, aP_makeMap, aP_toBytes, hP_store, storeK_some, st_K, stK_row, stE_some, cells_agg, cells_bool, scalar_bool, cells_int, scalar_int, cells_str, scalar_str, cells_nilptr, scalar_nilptr, cells_ptr, scalar_ptr, cells_nilslice, scalar_nilslice, cells_slice, scalar_slice, cells_nilmap, scalar_nilmap, cells_map, scalar_map, cells_nilfunc, scalar_nilfunc, cells_func, scalar_func, eqCells, eqLeaf, run_toL, toL_some, ev_toL, getD_toL, put_toL, keep_toL, asc, fput_same, fput_ne, fbase_nil, fbase_cons, fkeep_nil, fkeep_cons, fzero, fnone, List.map_cons, List.map_nil, ev_lit, put_none, resVals, resVal, resOf, partV, fillA, putCells, fillEls, strBin, minV, optNat, appendEls, elsOf, sliceSlV, sliceStrV, List.replicate, List.getElem?_append_left, List.getElem?_append_right, List.set_append_left, List.set_append_right, List.getElem?_set_self, List.getElem?_set_ne, hq_get0, hq_get, hq_get2, hq_get3, hp_get0, hp_get, hp_get2, hp_get3, hp_set0, hp_set, hp_set2, hp_set3, wr_0, wr_1, wr_2, wr_3, wr_4, wr_n1, evalR, hby, g1, g2, hr, get_app hr, set_app hr, get_set_same hr, get_set_app hr, set_set_app hr, len_beq hr, beq_len hr, hself, hb]
def exF : FuncId → List AV → M AV
  | 32, [.int .i64 n], h => if 0 ≤ n ∧ n ≤ 65535 then some (.str (numS n), h) else none
  | 35, [.str s], h => if s.length ≤ 255 then some (.str (textS s), h) else none
  | 33, [.int .u64 n], h => if 0 ≤ n ∧ n < 18446744073709551616 then some (.str (wideS n), h) else none
  | 115, [.str s], h => if s.length = 8 then some (.int .u64 (val s : Nat), h) else none
  | _, _, _ => none
theorem exF_ok : CfSound Tryz.prog exF := by
  refine flat_sound (call_sound fs0 ex0 fs0_ok ex0_ok) ?_
  intro f vs h v h' hr
  unfold exF at hr
  split at hr
  · split at hr
    · rename_i n hn
      cases hr
      obtain ⟨m, rfl⟩ : ∃ m : Nat, n = m := ⟨n.toNat, by omega⟩
      exact ⟨rfl, rfl, rfl, rnum12 m (by omega)⟩
    · cases hr
  · split at hr
    · rename_i hn
      cases hr
      exact ⟨rfl, rfl, rfl, rtext13 _ hn⟩
    · cases hr
  · split at hr
    · rename_i n hn
      cases hr
      obtain ⟨m, rfl⟩ : ∃ m : Nat, n = m := ⟨n.toNat, by omega⟩
      exact ⟨rfl, rfl, rfl, rwide15 m (by omega)⟩
    · cases hr
  · split at hr
    · rename_i s hn
      cases hr
      refine ⟨rfl, rfl, rfl, ?_⟩
      match s, hn with
      | [b0, b1, b2, b3, b4, b5, b6, b7], _ => exact addr29 b0 b1 b2 b3 b4 b5 b6 b7
    · cases hr
  · cases hr
def exT : FuncId → List AV → M AV
  | 114, [.ptr r 0 0, .int .i64 n], h => match rdOf h r with
    | some x => if x.b.length ≤ 281474976710656 ∧ 0 ≤ n ∧ n ≤ 255 then some (.str (x.rtake n.toNat), h.set r (x.take n.toNat).2.blk) else none
    | none => none
  | _, _, _ => none
theorem exT_ok : CfSound Tryz.prog exT := by
  refine drop_sound (call_sound fs0 ex0 fs0_ok ex0_ok) ?_
  intro f vs h v h' hr
  unfold exT at hr
  split at hr
  · split at hr
    · rename_i r n h x hx
      split at hr
      · rename_i hn
        cases hr
        obtain ⟨m, rfl⟩ : ∃ m : Nat, n = m := ⟨n.toNat, by omega⟩
        obtain ⟨k, hk⟩ := rtake_call (rdOf_some hx) hn.1 m (by omega)
        refine ⟨k, by simpa using hk, by simp, rfl, fun b y hy => ?_⟩
        by_cases hb : r = b
        · subst hb
          have hlt := (List.getElem?_eq_some_iff.1 (rdOf_some hx)).1
          rw [List.getElem?_set_self hlt] at hy
          cases hy
          exact .inr rfl
        · rw [List.getElem?_set_ne hb] at hy
          exact .inl hy
      · cases hr
    · cases hr
  · cases hr
def exU : FuncId → List AV → M AV := fun f vs h => if f = 114 then exT f vs h else exF f vs h
theorem exU_ok : CfSound Tryz.prog exU := by
  intro f vs h v h' hr
  unfold exU at hr
  split at hr
  · exact exT_ok f vs h v h' hr
  · exact exF_ok f vs h v h' hr
def fsU := fsBut fs [32, 35, 33, 114, 115]
theorem fsU_ok : FsOk Tryz.prog fsU := fsBut_ok fsOk _
theorem eU_27 (vs : List AV) (h : H) : call fsU exU 114 vs h = exT 114 vs h := (call_ex fsU exU rfl _ _).trans rfl
theorem eU_29 (vs : List AV) (h : H) : call fsU exU 115 vs h = exF 115 vs h := (call_ex fsU exU rfl _ _).trans rfl
theorem val0 : ∀ n, val (List.replicate n 0) = 0
  | 0 => rfl
  | n + 1 => by rw [List.replicate_succ', val_snoc, val0 n]; rfl
theorem rtake_val (x : Rd) (n : Nat) : val (x.rtake n) = (x.number n).1 := by
  unfold Rd.rtake Rd.number Rd.take
  by_cases hb : x.bad = true
  · simp [hb, val0]; rfl
  · by_cases hn : x.b.length < n
    · simp [hb, hn, val0]; rfl
    · simp [hb, hn]
theorem rtake_len (x : Rd) (n : Nat) : (x.rtake n).length = n := by
  unfold Rd.rtake
  split
  · simp
  · rename_i h; simp at h ⊢; omega
section
variable {h : H} {r : Nat} {x : Rd}
theorem rnum18 (hr : h[r]? = some x.blk) (hx : x.b.length ≤ 281474976710656) : call fsU exU 89 [.ptr r 0 0] h = some (.int .i64 x.num.1, h.set r x.num.2.blk) := by
  rw [call_eq fsU exU (f := 89) (sf := sf89) rfl]
  have hs := rdOf_eq hr
  have hl := rtake_len x 2
  have hv := rtake_val x 2
  have e2 : x.num = (val (x.rtake 2), (x.take 2).2) := by rw [hv]; rfl
  obtain ⟨b0, b1, hb⟩ : ∃ b0 b1, x.rtake 2 = [b0, b1] := by
    match hm : x.rtake 2, hl with
    | [b0, b1], _ => exact ⟨_, _, rfl⟩
  have c0 : ∀ b : UInt8, IntKind.i64.wrap (b.toNat : Int) = b.toNat := fun b => wrap_i64 (by omega) (by have := b.toNat_lt; omega)
  have c1 : IntKind.i64.wrap ((b0.toNat : Int) * 256) = ((b0.toNat * 256 : Nat) : Int) := by rw [wrap_i64 (by omega) (by have := b0.toNat_lt; omega)]; omega
  have c2 : IntKind.i64.wrap (((b0.toNat * 256 : Nat) : Int) + b1.toNat) = (val [b0, b1] : Nat) := by
    rw [wrap_i64 (by omega) (by have := b0.toNat_lt; have := b1.toNat_lt; omega)]
    simp [val]
  rw [e2, hb]
  generalize b0.toNat * 256 = m at c1 c2
  generalize val [b0, b1] = w at c2
  simp [sf89, yld_some, exec_reg, exec_dreg, exec_seq, exec_cond, exec_block, exec_scope, exec_exit, exec_ret, exec_skip, exec_loop, ops_nil, ops_cons, ops_cons_gd, stages_nil, stages_cons_n, stages_cons_h, recheck, wantsOp, AV.same, sames, evalOp_p, evalOp_r, evalOp_a, evalOp_call, evalOp_callV, evalOp_store, evalOp_append, evalOp_clear, evalOp_mapUpdate, evalOp_delete, pP_move, pP_pick, pP_build, pP_nil_ptr, pP_nil_func, pP_bin, pP_eq, pP_neg, pP_inv, pP_not, pP_convInt, pP_convStr, pP_fieldAddr, pP_field, pP_indexAddr, pP_indexStr, pP_sliceStr, pP_sliceSl, pP_lenStr, pP_lenNil, pP_lenSl, pP_min, pP_max, pP_extract, pP_mkfn, bV_add, bV_sub, bV_mul, bV_quo, bV_rem, bV_and, bV_or, bV_xor, bV_andNot, bV_eql, bV_neq, bV_lss, bV_leq, bV_gtr, bV_geq, bV_shl, bV_shr, bV_str, eV_bool, eV_nn, eV_np, eV_pn, eV_snn, eV_sns, eV_ssn, eV_mnn, eV_mnm, eV_mmn, eV_fnn, eV_fnf, eV_ffn, eV_agg, rP_load, rP_lenNil, rP_str0, rdEl_K, rdK_row, rdK_bld, aP_newBld, aP_alloc, aP_box, aP_buildSlice, aP_makeSlice, aP_makeMap, aP_toBytes, hP_store, storeK_some, st_K, stK_row, stE_some, cells_agg, cells_bool, scalar_bool, cells_int, scalar_int, cells_str, scalar_str, cells_nilptr, scalar_nilptr, cells_ptr, scalar_ptr, cells_nilslice, scalar_nilslice, cells_slice, scalar_slice, cells_nilmap, scalar_nilmap, cells_map, scalar_map, cells_nilfunc, scalar_nilfunc, cells_func, scalar_func, eqCells, eqLeaf, run_toL, toL_some, ev_toL, getD_toL, put_toL, keep_toL, asc, fput_same, fput_ne, fbase_nil, fbase_cons, fkeep_nil, fkeep_cons, fzero, fnone, List.map_cons, List.map_nil, ev_lit, put_none, resVals, resVal, resOf, partV, fillA, putCells, fillEls, strBin, minV, optNat, appendEls, elsOf, sliceSlV, sliceStrV, List.replicate, List.getElem?_append_left, List.getElem?_append_right, List.set_append_left, List.set_append_right, List.getElem?_set_self, List.getElem?_set_ne, hq_get0, hq_get, hq_get2, hq_get3, hp_get0, hp_get, hp_get2, hp_get3, hp_set0, hp_set, hp_set2, hp_set3, wr_0, wr_1, wr_2, wr_3, wr_4, wr_n1, eU_27, exT, hs, hx, hb, c0, c1, c2]
theorem rwide22 (hr : h[r]? = some x.blk) (hx : x.b.length ≤ 281474976710656) : call fsU exU 90 [.ptr r 0 0] h = some (.int .u64 x.wide.1, h.set r x.wide.2.blk) := by
  rw [call_eq fsU exU (f := 90) (sf := sf90) rfl]
  have hs := rdOf_eq hr
  have hl := rtake_len x 8
  have hv := rtake_val x 8
  have hg : (h.set r (x.take 8).2.blk)[r]? = some (x.take 8).2.blk := get_set_same hr
  have e2 : x.wide = ((x.number 8).1, (x.take 8).2) := rfl
  cases hb : (x.take 8).2.bad
  · unfold Rd.blk at hg ⊢
    rw [hb] at hg
    rw [e2]
    simp [sf90, yld_some, exec_reg, exec_dreg, exec_seq, exec_cond, exec_block, exec_scope, exec_exit, exec_ret, exec_skip, exec_loop, ops_nil, ops_cons, ops_cons_gd, stages_nil, stages_cons_n, stages_cons_h, recheck, wantsOp, AV.same, sames, evalOp_p, evalOp_r, evalOp_a, evalOp_call, evalOp_callV, evalOp_store, evalOp_append, evalOp_clear, evalOp_mapUpdate, evalOp_delete, pP_move, pP_pick, pP_build, pP_nil_ptr, pP_nil_func, pP_bin, pP_eq, pP_neg, pP_inv, pP_not, pP_convInt, pP_convStr, pP_fieldAddr, pP_field, pP_indexAddr, pP_indexStr, pP_sliceStr, pP_sliceSl, pP_lenStr, pP_lenNil, pP_lenSl, pP_min, pP_max, pP_extract, pP_mkfn, bV_add, bV_sub, bV_mul, bV_quo, bV_rem, bV_and, bV_or, bV_xor, bV_andNot, bV_eql, bV_neq, bV_lss, bV_leq, bV_gtr, bV_geq, bV_shl, bV_shr, bV_str, eV_bool, eV_nn, eV_np, eV_pn, eV_snn, eV_sns, eV_ssn, eV_mnn, eV_mnm, eV_mmn, eV_fnn, eV_fnf, eV_ffn, eV_agg, rP_load, rP_lenNil, rP_str0, rdEl_K, rdK_row, rdK_bld, aP_newBld, aP_alloc, aP_box, aP_buildSlice, aP_makeSlice, aP_makeMap, aP_toBytes, hP_store, storeK_some, st_K, stK_row, stE_some, cells_agg, cells_bool, scalar_bool, cells_int, scalar_int, cells_str, scalar_str, cells_nilptr, scalar_nilptr, cells_ptr, scalar_ptr, cells_nilslice, scalar_nilslice, cells_slice, scalar_slice, cells_nilmap, scalar_nilmap, cells_map, scalar_map, cells_nilfunc, scalar_nilfunc, cells_func, scalar_func, eqCells, eqLeaf, run_toL, toL_some, ev_toL, getD_toL, put_toL, keep_toL, asc, fput_same, fput_ne, fbase_nil, fbase_cons, fkeep_nil, fkeep_cons, fzero, fnone, List.map_cons, List.map_nil, ev_lit, put_none, resVals, resVal, resOf, partV, fillA, putCells, fillEls, strBin, minV, optNat, appendEls, elsOf, sliceSlV, sliceStrV, List.replicate, List.getElem?_append_left, List.getElem?_append_right, List.set_append_left, List.set_append_right, List.getElem?_set_self, List.getElem?_set_ne, hq_get0, hq_get, hq_get2, hq_get3, hp_get0, hp_get, hp_get2, hp_get3, hp_set0, hp_set, hp_set2, hp_set3, wr_0, wr_1, wr_2, wr_3, wr_4, wr_n1, eU_27, eU_29, exT, exF, hs, hx, hl, hv, Rd.blk, hg, get_app hg, set_app hg, get_set_same hg, get_set_app hg, set_set_app hg, len_beq hg, beq_len hg, hb]
  · have h0 : (x.number 8).1 = 0 := by
      unfold Rd.number Rd.take at *
      split at hb
      · rename_i h1; simp [h1]; rfl
      · split at hb
        · rename_i h1 h2; simp [h1, h2]; rfl
        · cases hb
    unfold Rd.blk at hg ⊢
    rw [hb] at hg
    rw [e2]
    simp [sf90, yld_some, exec_reg, exec_dreg, exec_seq, exec_cond, exec_block, exec_scope, exec_exit, exec_ret, exec_skip, exec_loop, ops_nil, ops_cons, ops_cons_gd, stages_nil, stages_cons_n, stages_cons_h, recheck, wantsOp, AV.same, sames, evalOp_p, evalOp_r, evalOp_a, evalOp_call, evalOp_callV, evalOp_store, evalOp_append, evalOp_clear, evalOp_mapUpdate, evalOp_delete, pP_move, pP_pick, pP_build, pP_nil_ptr, pP_nil_func, pP_bin, pP_eq, pP_neg, pP_inv, pP_not, pP_convInt, pP_convStr, pP_fieldAddr, pP_field, pP_indexAddr, pP_indexStr, pP_sliceStr, pP_sliceSl, pP_lenStr, pP_lenNil, pP_lenSl, pP_min, pP_max, pP_extract, pP_mkfn, bV_add, bV_sub, bV_mul, bV_quo, bV_rem, bV_and, bV_or, bV_xor, bV_andNot, bV_eql, bV_neq, bV_lss, bV_leq, bV_gtr, bV_geq, bV_shl, bV_shr, bV_str, eV_bool, eV_nn, eV_np, eV_pn, eV_snn, eV_sns, eV_ssn, eV_mnn, eV_mnm, eV_mmn, eV_fnn, eV_fnf, eV_ffn, eV_agg, rP_load, rP_lenNil, rP_str0, rdEl_K, rdK_row, rdK_bld, aP_newBld, aP_alloc, aP_box, aP_buildSlice, aP_makeSlice, aP_makeMap, aP_toBytes, hP_store, storeK_some, st_K, stK_row, stE_some, cells_agg, cells_bool, scalar_bool, cells_int, scalar_int, cells_str, scalar_str, cells_nilptr, scalar_nilptr, cells_ptr, scalar_ptr, cells_nilslice, scalar_nilslice, cells_slice, scalar_slice, cells_nilmap, scalar_nilmap, cells_map, scalar_map, cells_nilfunc, scalar_nilfunc, cells_func, scalar_func, eqCells, eqLeaf, run_toL, toL_some, ev_toL, getD_toL, put_toL, keep_toL, asc, fput_same, fput_ne, fbase_nil, fbase_cons, fkeep_nil, fkeep_cons, fzero, fnone, List.map_cons, List.map_nil, ev_lit, put_none, resVals, resVal, resOf, partV, fillA, putCells, fillEls, strBin, minV, optNat, appendEls, elsOf, sliceSlV, sliceStrV, List.replicate, List.getElem?_append_left, List.getElem?_append_right, List.set_append_left, List.set_append_right, List.getElem?_set_self, List.getElem?_set_ne, hq_get0, hq_get, hq_get2, hq_get3, hp_get0, hp_get, hp_get2, hp_get3, hp_set0, hp_set, hp_set2, hp_set3, wr_0, wr_1, wr_2, wr_3, wr_4, wr_n1, eU_27, eU_29, exT, exF, hs, hx, hl, hv, Rd.blk, hg, get_app hg, set_app hg, get_set_same hg, get_set_app hg, set_set_app hg, len_beq hg, beq_len hg, hb, h0]
theorem take_bad (x : Rd) (n : Nat) (hb : x.bad = true) : x.take n = ([], x) := by unfold Rd.take; rw [if_pos hb]
theorem text20 (hr : h[r]? = some x.blk) (hx : x.b.length ≤ 281474976710656) : call fsU exU 92 [.ptr r 0 0] h = some (.str x.text.1, h.set r x.text.2.blk) := by
  rw [call_eq fsU exU (f := 92) (sf := sf92) rfl]
  have hs := rdOf_eq hr
  have hl := rtake_len x 1
  have hv := rtake_val x 1
  obtain ⟨b0, hb⟩ : ∃ b0, x.rtake 1 = [b0] := by
    match hm : x.rtake 1, hl with
    | [b0], _ => exact ⟨_, rfl⟩
  have hn : (x.number 1).1 = b0.toNat := by rw [← hv, hb]; simp [val]
  have hb8 := b0.toNat_lt
  have c0 : IntKind.i64.wrap (b0.toNat : Int) = b0.toNat := wrap_i64 (by omega) (by omega)
  have e2 : x.text = (x.take 1).2.take b0.toNat := by unfold Rd.text; rw [hn]; rfl
  rw [e2]
  generalize hy : (x.take 1).2 = y
  have hyl : y.b.length ≤ 281474976710656 := by rw [← hy]; exact Nat.le_trans (take_left x 1) hx
  have hs2 : rdOf (h.set r y.blk) r = some y := rdOf_eq (get_set_same hr)
  have hg : ((h.set r y.blk).set r (y.take b0.toNat).2.blk)[r]? = some (y.take b0.toNat).2.blk := get_set_same (get_set_same hr)
  have hss : (h.set r y.blk).set r (y.take b0.toNat).2.blk = h.set r (y.take b0.toNat).2.blk := List.set_set ..
  rw [hss] at hg
  have hb0 : ((b0.toNat : Nat) : Int) ≤ 255 := by omega
  have hb1 : b0.toNat ≤ 255 := by omega
  generalize hm : b0.toNat = m at *
  cases hbad : (y.take m).2.bad
  · have hrt : y.rtake m = (y.take m).1 := by
      unfold Rd.take at hbad
      unfold Rd.rtake Rd.take
      split at hbad
      · rename_i h1; simp [h1] at hbad
      · split at hbad
        · cases hbad
        · rename_i h1 h2; simp [h1, h2]
    unfold Rd.blk at hg hs2 hss
    rw [hbad] at hg
    simp [sf92, yld_some, exec_reg, exec_dreg, exec_seq, exec_cond, exec_block, exec_scope, exec_exit, exec_ret, exec_skip, exec_loop, ops_nil, ops_cons, ops_cons_gd, stages_nil, stages_cons_n, stages_cons_h, recheck, wantsOp, AV.same, sames, evalOp_p, evalOp_r, evalOp_a, evalOp_call, evalOp_callV, evalOp_store, evalOp_append, evalOp_clear, evalOp_mapUpdate, evalOp_delete, pP_move, pP_pick, pP_build, pP_nil_ptr, pP_nil_func, pP_bin, pP_eq, pP_neg, pP_inv, pP_not, pP_convInt, pP_convStr, pP_fieldAddr, pP_field, pP_indexAddr, pP_indexStr, pP_sliceStr, pP_sliceSl, pP_lenStr, pP_lenNil, pP_lenSl, pP_min, pP_max, pP_extract, pP_mkfn, bV_add, bV_sub, bV_mul, bV_quo, bV_rem, bV_and, bV_or, bV_xor, bV_andNot, bV_eql, bV_neq, bV_lss, bV_leq, bV_gtr, bV_geq, bV_shl, bV_shr, bV_str, eV_bool, eV_nn, eV_np, eV_pn, eV_snn, eV_sns, eV_ssn, eV_mnn, eV_mnm, eV_mmn, eV_fnn, eV_fnf, eV_ffn, eV_agg, rP_load, rP_lenNil, rP_str0, rdEl_K, rdK_row, rdK_bld, aP_newBld, aP_alloc, aP_box, aP_buildSlice, aP_makeSlice, aP_makeMap, aP_toBytes, hP_store, storeK_some, st_K, stK_row, stE_some, cells_agg, cells_bool, scalar_bool, cells_int, scalar_int, cells_str, scalar_str, cells_nilptr, scalar_nilptr, cells_ptr, scalar_ptr, cells_nilslice, scalar_nilslice, cells_slice, scalar_slice, cells_nilmap, scalar_nilmap, cells_map, scalar_map, cells_nilfunc, scalar_nilfunc, cells_func, scalar_func, eqCells, eqLeaf, run_toL, toL_some, ev_toL, getD_toL, put_toL, keep_toL, asc, fput_same, fput_ne, fbase_nil, fbase_cons, fkeep_nil, fkeep_cons, fzero, fnone, List.map_cons, List.map_nil, ev_lit, put_none, resVals, resVal, resOf, partV, fillA, putCells, fillEls, strBin, minV, optNat, appendEls, elsOf, sliceSlV, sliceStrV, List.replicate, List.getElem?_append_left, List.getElem?_append_right, List.set_append_left, List.set_append_right, List.getElem?_set_self, List.getElem?_set_ne, hq_get0, hq_get, hq_get2, hq_get3, hp_get0, hp_get, hp_get2, hp_get3, hp_set0, hp_set, hp_set2, hp_set3, wr_0, wr_1, wr_2, wr_3, wr_4, wr_n1, eU_27, exT, hs, hx, hb, hy, hm, c0, hs2, hyl, hb0, hb1, hss, hrt, Rd.blk, hg, hbad]
  · have h0 : (y.take m).1 = [] := by
      unfold Rd.take at *
      split at hbad
      · rename_i h1; simp [h1]
      · split at hbad
        · rename_i h1 h2; simp [h1, h2]
        · cases hbad
    unfold Rd.blk at hg hs2 hss
    rw [hbad] at hg
    simp [sf92, yld_some, exec_reg, exec_dreg, exec_seq, exec_cond, exec_block, exec_scope, exec_exit, exec_ret, exec_skip, exec_loop, ops_nil, ops_cons, ops_cons_gd, stages_nil, stages_cons_n, stages_cons_h, recheck, wantsOp, AV.same, sames, evalOp_p, evalOp_r, evalOp_a, evalOp_call, evalOp_callV, evalOp_store, evalOp_append, evalOp_clear, evalOp_mapUpdate, evalOp_delete, pP_move, pP_pick, pP_build, pP_nil_ptr, pP_nil_func, pP_bin, pP_eq, pP_neg, pP_inv, pP_not, pP_convInt, pP_convStr, pP_fieldAddr, pP_field, pP_indexAddr, pP_indexStr, pP_sliceStr, pP_sliceSl, pP_lenStr, pP_lenNil, pP_lenSl, pP_min, pP_max, pP_extract, pP_mkfn, bV_add, bV_sub, bV_mul, bV_quo, bV_rem, bV_and, bV_or, bV_xor, bV_andNot, bV_eql, bV_neq, bV_lss, bV_leq, bV_gtr, bV_geq, bV_shl, bV_shr, bV_str, eV_bool, eV_nn, eV_np, eV_pn, eV_snn, eV_sns, eV_ssn, eV_mnn, eV_mnm, eV_mmn, eV_fnn, eV_fnf, eV_ffn, eV_agg, rP_load, rP_lenNil, rP_str0, rdEl_K, rdK_row, rdK_bld, aP_newBld, aP_alloc, aP_box, aP_buildSlice, aP_makeSlice, aP_makeMap, aP_toBytes, hP_store, storeK_some, st_K, stK_row, stE_some, cells_agg, cells_bool, scalar_bool, cells_int, scalar_int, cells_str, scalar_str, cells_nilptr, scalar_nilptr, cells_ptr, scalar_ptr, cells_nilslice, scalar_nilslice, cells_slice, scalar_slice, cells_nilmap, scalar_nilmap, cells_map, scalar_map, cells_nilfunc, scalar_nilfunc, cells_func, scalar_func, eqCells, eqLeaf, run_toL, toL_some, ev_toL, getD_toL, put_toL, keep_toL, asc, fput_same, fput_ne, fbase_nil, fbase_cons, fkeep_nil, fkeep_cons, fzero, fnone, List.map_cons, List.map_nil, ev_lit, put_none, resVals, resVal, resOf, partV, fillA, putCells, fillEls, strBin, minV, optNat, appendEls, elsOf, sliceSlV, sliceStrV, List.replicate, List.getElem?_append_left, List.getElem?_append_right, List.set_append_left, List.set_append_right, List.getElem?_set_self, List.getElem?_set_ne, hq_get0, hq_get, hq_get2, hq_get3, hp_get0, hp_get, hp_get2, hp_get3, hp_set0, hp_set, hp_set2, hp_set3, wr_0, wr_1, wr_2, wr_3, wr_4, wr_n1, eU_27, exT, hs, hx, hb, hy, hm, c0, hs2, hyl, hb0, hb1, hss, h0, Rd.blk, hg, hbad]
end
def exV : FuncId → List AV → M AV
  | 89, [.ptr r 0 0], h => match rdOf h r with
    | some x => if x.b.length ≤ 281474976710656 then some (.int .i64 x.num.1, h.set r x.num.2.blk) else none
    | none => none
  | 92, [.ptr r 0 0], h => match rdOf h r with
    | some x => if x.b.length ≤ 281474976710656 then some (.str x.text.1, h.set r x.text.2.blk) else none
    | none => none
  | 90, [.ptr r 0 0], h => match rdOf h r with
    | some x => if x.b.length ≤ 281474976710656 then some (.int .u64 x.wide.1, h.set r x.wide.2.blk) else none
    | none => none
  | _, _, _ => none
theorem exV_ok : CfSound Tryz.prog exV := by
  refine sub_sound (call_sound fsU exU fsU_ok exU_ok) ?_
  intro f vs h q hr
  unfold exV at hr
  split at hr
  all_goals first | cases hr; done | skip
  all_goals
    split at hr
    · rename_i hx
      split at hr
      · rename_i hl
        first
        | exact (rnum18 (rdOf_some hx) hl).trans hr
        | exact (text20 (rdOf_some hx) hl).trans hr
        | exact (rwide22 (rdOf_some hx) hl).trans hr
      · cases hr
    · cases hr
def ex2 : FuncId → List AV → M AV := fun f vs h => if f = 89 ∨ f = 92 ∨ f = 90 then exV f vs h else if f = 32 ∨ f = 35 ∨ f = 33 then exF f vs h else ex1 f vs h
theorem ex2_ok : CfSound Tryz.prog ex2 := by
  intro f vs h v h' hr
  unfold ex2 at hr
  split at hr
  · exact exV_ok f vs h v h' hr
  · split at hr
    · exact exF_ok f vs h v h' hr
    · exact ex1_ok f vs h v h' hr
def fs2 := fsBut fs [72, 75, 32, 35, 21, 33, 38, 87, 89, 86, 92, 84, 90, 88, 40]
theorem fs2_ok : FsOk Tryz.prog fs2 := fsBut_ok fsOk _
theorem e2_10 (vs : List AV) (h : H) : call fs2 ex2 72 vs h = exG 72 vs h := (call_ex fs2 ex2 rfl _ _).trans rfl
theorem e2_11 (vs : List AV) (h : H) : call fs2 ex2 75 vs h = exG 75 vs h := (call_ex fs2 ex2 rfl _ _).trans rfl
theorem e2_12 (vs : List AV) (h : H) : call fs2 ex2 32 vs h = exF 32 vs h := (call_ex fs2 ex2 rfl _ _).trans rfl
theorem e2_13 (vs : List AV) (h : H) : call fs2 ex2 35 vs h = exF 35 vs h := (call_ex fs2 ex2 rfl _ _).trans rfl
theorem e2_14 (vs : List AV) (h : H) : call fs2 ex2 21 vs h = exG 21 vs h := (call_ex fs2 ex2 rfl _ _).trans rfl
theorem e2_15 (vs : List AV) (h : H) : call fs2 ex2 33 vs h = exF 33 vs h := (call_ex fs2 ex2 rfl _ _).trans rfl
theorem e2_16 (vs : List AV) (h : H) : call fs2 ex2 38 vs h = exR 38 vs h := (call_ex fs2 ex2 rfl _ _).trans rfl
theorem e2_17 (vs : List AV) (h : H) : call fs2 ex2 87 vs h = exR 87 vs h := (call_ex fs2 ex2 rfl _ _).trans rfl
theorem e2_18 (vs : List AV) (h : H) : call fs2 ex2 89 vs h = exV 89 vs h := (call_ex fs2 ex2 rfl _ _).trans rfl
theorem e2_19 (vs : List AV) (h : H) : call fs2 ex2 86 vs h = exR 86 vs h := (call_ex fs2 ex2 rfl _ _).trans rfl
theorem e2_20 (vs : List AV) (h : H) : call fs2 ex2 92 vs h = exV 92 vs h := (call_ex fs2 ex2 rfl _ _).trans rfl
theorem e2_21 (vs : List AV) (h : H) : call fs2 ex2 84 vs h = exR 84 vs h := (call_ex fs2 ex2 rfl _ _).trans rfl
theorem e2_22 (vs : List AV) (h : H) : call fs2 ex2 90 vs h = exV 90 vs h := (call_ex fs2 ex2 rfl _ _).trans rfl
theorem e2_23 (vs : List AV) (h : H) : call fs2 ex2 88 vs h = exR 88 vs h := (call_ex fs2 ex2 rfl _ _).trans rfl
theorem e2_24 (vs : List AV) (h : H) : call fs2 ex2 40 vs h = exR 40 vs h := (call_ex fs2 ex2 rfl _ _).trans rfl
end Go.Proofs.YtgnenipkebelfaaGreatDoor.Pk
