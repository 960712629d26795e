/- Pack: all functions known. -/
import Derived.Test.YtgnenipkebelfaaGreatDoorPkB
set_option maxRecDepth 100000
set_option linter.unusedVariables false
set_option linter.unusedSimpArgs false
namespace Go.Proofs.YtgnenipkebelfaaGreatDoor.Pk
open Go Go.Eng F

def numS (v : Int) : List UInt8 := [dg (IntKind.u64.wrap v) 1, dg (IntKind.u64.wrap v) 0]
def wideS (v : Int) : List UInt8 := [dg v 7, dg v 6, dg v 5, dg v 4, dg v 3, dg v 2, dg v 1, dg v 0]
def textS (s : List UInt8) : List UInt8 := dg (s.length : Int) 0 :: s
theorem big_flat : CfSound Tryz.prog (fun f vs h => match f, vs with
    | 74, [.int .u64 v, .int .i64 n] => if n = 1 then some (.str [dg v 0], h) else if n = 2 then some (.str [dg v 1, dg v 0], h) else if n = 8 then some (.str (wideS v), h) else none
    | _, _ => none) := by
  refine flat_sound (call_sound fs0 ex0 fs0_ok ex0_ok) ?_
  intro f vs h v h' hr
  split at hr
  · split at hr
    · rename_i hn; subst hn; cases hr; exact ⟨rfl, rfl, rfl, big1_call _ _⟩
    · split at hr
      · rename_i hn; subst hn; cases hr; exact ⟨rfl, rfl, rfl, big2_call _ _⟩
      · split at hr
        · rename_i hn; subst hn; cases hr; exact ⟨rfl, rfl, rfl, big8_call _ _⟩
        · cases hr
  · cases hr
def exB : FuncId → List AV → M AV := fun f vs h => match f, vs with
    | 74, [.int .u64 v, .int .i64 n] => if n = 1 then some (.str [dg v 0], h) else if n = 2 then some (.str [dg v 1, dg v 0], h) else if n = 8 then some (.str (wideS v), h) else none
    | _, _ => none
theorem exB_ok : CfSound Tryz.prog exB := big_flat
def fsB := fsBut fs [74]
theorem fsB_ok : FsOk Tryz.prog fsB := fsBut_ok fsOk _
theorem eB_25 (vs : List AV) (h : H) : call fsB exB 74 vs h = exB 74 vs h := call_ex fsB exB rfl _ _
theorem num_call (v : Int) : ∃ k, call fsB exB 72 [.int .i64 v] [] = some ((if (decide (v < 0) || decide (65535 < v)) = true then .tuple [.str [], .bool false] else .tuple [.str (numS v), .bool true]), k) := by
  rw [call_eq fsB exB (f := 72) (sf := sf72) rfl]
  cases h1 : decide (v < 0) <;> cases h2 : decide (65535 < v) <;> simp [sf72, yld_some, exec_reg, exec_dreg, exec_seq, exec_cond, exec_block, exec_scope, exec_exit, exec_ret, exec_skip, exec_loop, ops_nil, ops_cons, ops_cons_gd, stages_nil, stages_cons_n, stages_cons_h, recheck, wantsOp, AV.same, sames, evalOp_p, evalOp_r, evalOp_a, evalOp_call, evalOp_callV, evalOp_store, evalOp_append, evalOp_clear, evalOp_mapUpdate, evalOp_delete, pP_move, pP_pick, pP_build, pP_nil_ptr, pP_nil_func, pP_bin, pP_eq, pP_neg, pP_inv, pP_not, pP_convInt, pP_convStr, pP_fieldAddr, pP_field, pP_indexAddr, pP_indexStr, pP_sliceStr, pP_sliceSl, pP_lenStr, pP_lenNil, pP_lenSl, pP_min, pP_max, pP_extract, pP_mkfn, bV_add, bV_sub, bV_mul, bV_quo, bV_rem, bV_and, bV_or, bV_xor, bV_andNot, bV_eql, bV_neq, bV_lss, bV_leq, bV_gtr, bV_geq, bV_shl, bV_shr, bV_str, eV_bool, eV_nn, eV_np, eV_pn, eV_snn, eV_sns, eV_ssn, eV_mnn, eV_mnm, eV_mmn, eV_fnn, eV_fnf, eV_ffn, eV_agg, rP_load, rP_lenNil, rP_str0, rdEl_K, rdK_row, rdK_bld, aP_newBld, aP_alloc, aP_box, aP_buildSlice, aP_makeSlice, aP_makeMap, aP_toBytes, hP_store, storeK_some, st_K, stK_row, stE_some, cells_agg, cells_bool, scalar_bool, cells_int, scalar_int, cells_str, scalar_str, cells_nilptr, scalar_nilptr, cells_ptr, scalar_ptr, cells_nilslice, scalar_nilslice, cells_slice, scalar_slice, cells_nilmap, scalar_nilmap, cells_map, scalar_map, cells_nilfunc, scalar_nilfunc, cells_func, scalar_func, eqCells, eqLeaf, run_toL, toL_some, ev_toL, getD_toL, put_toL, keep_toL, asc, fput_same, fput_ne, fbase_nil, fbase_cons, fkeep_nil, fkeep_cons, fzero, fnone, List.map_cons, List.map_nil, ev_lit, put_none, resVals, resVal, resOf, partV, fillA, putCells, fillEls, strBin, minV, optNat, appendEls, elsOf, sliceSlV, sliceStrV, List.replicate, List.getElem?_append_left, List.getElem?_append_right, List.set_append_left, List.set_append_right, List.getElem?_set_self, List.getElem?_set_ne, hq_get0, hq_get, hq_get2, hq_get3, hp_get0, hp_get, hp_get2, hp_get3, hp_set0, hp_set, hp_set2, hp_set3, wr_0, wr_1, wr_2, wr_3, wr_4, wr_n1, eB_25, exB, h1, h2, numS]
theorem text_call (s : List UInt8) : ∃ k, call fsB exB 75 [.str s] [] = some ((if 255 < s.length then .tuple [.str [], .bool false] else .tuple [.str (textS s), .bool true]), k) := by
  rw [call_eq fsB exB (f := 75) (sf := sf75) rfl]
  by_cases h1 : 255 < s.length
  · have h2 : (255 : Int) < s.length := by omega
    simp [sf75, yld_some, exec_reg, exec_dreg, exec_seq, exec_cond, exec_block, exec_scope, exec_exit, exec_ret, exec_skip, exec_loop, ops_nil, ops_cons, ops_cons_gd, stages_nil, stages_cons_n, stages_cons_h, recheck, wantsOp, AV.same, sames, evalOp_p, evalOp_r, evalOp_a, evalOp_call, evalOp_callV, evalOp_store, evalOp_append, evalOp_clear, evalOp_mapUpdate, evalOp_delete, pP_move, pP_pick, pP_build, pP_nil_ptr, pP_nil_func, pP_bin, pP_eq, pP_neg, pP_inv, pP_not, pP_convInt, pP_convStr, pP_fieldAddr, pP_field, pP_indexAddr, pP_indexStr, pP_sliceStr, pP_sliceSl, pP_lenStr, pP_lenNil, pP_lenSl, pP_min, pP_max, pP_extract, pP_mkfn, bV_add, bV_sub, bV_mul, bV_quo, bV_rem, bV_and, bV_or, bV_xor, bV_andNot, bV_eql, bV_neq, bV_lss, bV_leq, bV_gtr, bV_geq, bV_shl, bV_shr, bV_str, eV_bool, eV_nn, eV_np, eV_pn, eV_snn, eV_sns, eV_ssn, eV_mnn, eV_mnm, eV_mmn, eV_fnn, eV_fnf, eV_ffn, eV_agg, rP_load, rP_lenNil, rP_str0, rdEl_K, rdK_row, rdK_bld, aP_newBld, aP_alloc, aP_box, aP_buildSlice, aP_makeSlice, aP_makeMap, aP_toBytes, hP_store, storeK_some, st_K, stK_row, stE_some, cells_agg, cells_bool, scalar_bool, cells_int, scalar_int, cells_str, scalar_str, cells_nilptr, scalar_nilptr, cells_ptr, scalar_ptr, cells_nilslice, scalar_nilslice, cells_slice, scalar_slice, cells_nilmap, scalar_nilmap, cells_map, scalar_map, cells_nilfunc, scalar_nilfunc, cells_func, scalar_func, eqCells, eqLeaf, run_toL, toL_some, ev_toL, getD_toL, put_toL, keep_toL, asc, fput_same, fput_ne, fbase_nil, fbase_cons, fkeep_nil, fkeep_cons, fzero, fnone, List.map_cons, List.map_nil, ev_lit, put_none, resVals, resVal, resOf, partV, fillA, putCells, fillEls, strBin, minV, optNat, appendEls, elsOf, sliceSlV, sliceStrV, List.replicate, List.getElem?_append_left, List.getElem?_append_right, List.set_append_left, List.set_append_right, List.getElem?_set_self, List.getElem?_set_ne, hq_get0, hq_get, hq_get2, hq_get3, hp_get0, hp_get, hp_get2, hp_get3, hp_set0, hp_set, hp_set2, hp_set3, wr_0, wr_1, wr_2, wr_3, wr_4, wr_n1, eB_25, exB, h1, h2]
  · have h2 : ¬ (255 : Int) < s.length := by omega
    have hw : IntKind.u64.wrap (s.length : Int) = s.length := wrap_u64 (by omega) (by omega)
    have hle : ¬ (9223372036854775807 : Int) < s.length + 1 := by omega
    have hle2 : ¬ (9223372036854775807 : Int) < 1 + s.length := by omega
    simp [sf75, yld_some, exec_reg, exec_dreg, exec_seq, exec_cond, exec_block, exec_scope, exec_exit, exec_ret, exec_skip, exec_loop, ops_nil, ops_cons, ops_cons_gd, stages_nil, stages_cons_n, stages_cons_h, recheck, wantsOp, AV.same, sames, evalOp_p, evalOp_r, evalOp_a, evalOp_call, evalOp_callV, evalOp_store, evalOp_append, evalOp_clear, evalOp_mapUpdate, evalOp_delete, pP_move, pP_pick, pP_build, pP_nil_ptr, pP_nil_func, pP_bin, pP_eq, pP_neg, pP_inv, pP_not, pP_convInt, pP_convStr, pP_fieldAddr, pP_field, pP_indexAddr, pP_indexStr, pP_sliceStr, pP_sliceSl, pP_lenStr, pP_lenNil, pP_lenSl, pP_min, pP_max, pP_extract, pP_mkfn, bV_add, bV_sub, bV_mul, bV_quo, bV_rem, bV_and, bV_or, bV_xor, bV_andNot, bV_eql, bV_neq, bV_lss, bV_leq, bV_gtr, bV_geq, bV_shl, bV_shr, bV_str, eV_bool, eV_nn, eV_np, eV_pn, eV_snn, eV_sns, eV_ssn, eV_mnn, eV_mnm, eV_mmn, eV_fnn, eV_fnf, eV_ffn, eV_agg, rP_load, rP_lenNil, rP_str0, rdEl_K, rdK_row, rdK_bld, aP_newBld, aP_alloc, aP_box, aP_buildSlice, aP_makeSlice, aP_makeMap, aP_toBytes, hP_store, storeK_some, st_K, stK_row, stE_some, cells_agg, cells_bool, scalar_bool, cells_int, scalar_int, cells_str, scalar_str, cells_nilptr, scalar_nilptr, cells_ptr, scalar_ptr, cells_nilslice, scalar_nilslice, cells_slice, scalar_slice, cells_nilmap, scalar_nilmap, cells_map, scalar_map, cells_nilfunc, scalar_nilfunc, cells_func, scalar_func, eqCells, eqLeaf, run_toL, toL_some, ev_toL, getD_toL, put_toL, keep_toL, asc, fput_same, fput_ne, fbase_nil, fbase_cons, fkeep_nil, fkeep_cons, fzero, fnone, List.map_cons, List.map_nil, ev_lit, put_none, resVals, resVal, resOf, partV, fillA, putCells, fillEls, strBin, minV, optNat, appendEls, elsOf, sliceSlV, sliceStrV, List.replicate, List.getElem?_append_left, List.getElem?_append_right, List.set_append_left, List.set_append_right, List.getElem?_set_self, List.getElem?_set_ne, hq_get0, hq_get, hq_get2, hq_get3, hp_get0, hp_get, hp_get2, hp_get3, hp_set0, hp_set, hp_set2, hp_set3, wr_0, wr_1, wr_2, wr_3, wr_4, wr_n1, eB_25, exB, h1, h2, hw, textS, hle, hle2]
theorem wide_call (v : Int) : ∃ k, call fsB exB 21 [.int .u64 v] [] = some (.str (wideS v), k) := by
  rw [call_eq fsB exB (f := 21) (sf := sf21) rfl]
  simp [sf21, yld_some, exec_reg, exec_dreg, exec_seq, exec_cond, exec_block, exec_scope, exec_exit, exec_ret, exec_skip, exec_loop, ops_nil, ops_cons, ops_cons_gd, stages_nil, stages_cons_n, stages_cons_h, recheck, wantsOp, AV.same, sames, evalOp_p, evalOp_r, evalOp_a, evalOp_call, evalOp_callV, evalOp_store, evalOp_append, evalOp_clear, evalOp_mapUpdate, evalOp_delete, pP_move, pP_pick, pP_build, pP_nil_ptr, pP_nil_func, pP_bin, pP_eq, pP_neg, pP_inv, pP_not, pP_convInt, pP_convStr, pP_fieldAddr, pP_field, pP_indexAddr, pP_indexStr, pP_sliceStr, pP_sliceSl, pP_lenStr, pP_lenNil, pP_lenSl, pP_min, pP_max, pP_extract, pP_mkfn, bV_add, bV_sub, bV_mul, bV_quo, bV_rem, bV_and, bV_or, bV_xor, bV_andNot, bV_eql, bV_neq, bV_lss, bV_leq, bV_gtr, bV_geq, bV_shl, bV_shr, bV_str, eV_bool, eV_nn, eV_np, eV_pn, eV_snn, eV_sns, eV_ssn, eV_mnn, eV_mnm, eV_mmn, eV_fnn, eV_fnf, eV_ffn, eV_agg, rP_load, rP_lenNil, rP_str0, rdEl_K, rdK_row, rdK_bld, aP_newBld, aP_alloc, aP_box, aP_buildSlice, aP_makeSlice, aP_makeMap, aP_toBytes, hP_store, storeK_some, st_K, stK_row, stE_some, cells_agg, cells_bool, scalar_bool, cells_int, scalar_int, cells_str, scalar_str, cells_nilptr, scalar_nilptr, cells_ptr, scalar_ptr, cells_nilslice, scalar_nilslice, cells_slice, scalar_slice, cells_nilmap, scalar_nilmap, cells_map, scalar_map, cells_nilfunc, scalar_nilfunc, cells_func, scalar_func, eqCells, eqLeaf, run_toL, toL_some, ev_toL, getD_toL, put_toL, keep_toL, asc, fput_same, fput_ne, fbase_nil, fbase_cons, fkeep_nil, fkeep_cons, fzero, fnone, List.map_cons, List.map_nil, ev_lit, put_none, resVals, resVal, resOf, partV, fillA, putCells, fillEls, strBin, minV, optNat, appendEls, elsOf, sliceSlV, sliceStrV, List.replicate, List.getElem?_append_left, List.getElem?_append_right, List.set_append_left, List.set_append_right, List.getElem?_set_self, List.getElem?_set_ne, hq_get0, hq_get, hq_get2, hq_get3, hp_get0, hp_get, hp_get2, hp_get3, hp_set0, hp_set, hp_set2, hp_set3, wr_0, wr_1, wr_2, wr_3, wr_4, wr_n1, eB_25, exB, wideS]
def exG : FuncId → List AV → M AV
  | 72, [.int .i64 v], h => some ((if (decide (v < 0) || decide (65535 < v)) = true then .tuple [.str [], .bool false] else .tuple [.str (numS v), .bool true]), h)
  | 75, [.str s], h => some ((if 255 < s.length then .tuple [.str [], .bool false] else .tuple [.str (textS s), .bool true]), h)
  | 21, [.int .u64 v], h => some (.str (wideS v), h)
  | _, _, _ => none
theorem exG_ok : CfSound Tryz.prog exG := by
  refine flat_sound (call_sound fsB exB fsB_ok exB_ok) ?_
  intro f vs h v h' hr
  unfold exG at hr
  split at hr
  · cases hr; exact ⟨rfl, rfl, by split <;> rfl, num_call _⟩
  · cases hr; exact ⟨rfl, rfl, by split <;> rfl, text_call _⟩
  · cases hr; exact ⟨rfl, rfl, rfl, wide_call _⟩
  · cases hr

/-! The reader's. -/
def Rd.num (x : Rd) : Nat × Rd := x.number 2
def Rd.text (x : Rd) : List UInt8 × Rd := (x.number 1).2.take (x.number 1).1
def Rd.wide (x : Rd) : Nat × Rd := x.number 8
def Rd.fin (x : Rd) : Bool := !x.bad && (x.b == [])
theorem take_left (x : Rd) (n : Nat) : (x.take n).2.b.length ≤ x.b.length := by
  unfold Rd.take
  split
  · simp
  · split
    · simp
    · simp
theorem number_lt (x : Rd) (n : Nat) : (x.number n).1 < 256 ^ n := Nat.lt_of_lt_of_le (val_lt _ _ rfl) (Nat.pow_le_pow_right (by omega) (take_len x n))
theorem number_callI {h : H} {r : Nat} {x : Rd} (hr : h[r]? = some x.blk) (hx : x.b.length ≤ 281474976710656) {n : Int} (h0 : 0 ≤ n) (hn : n ≤ 8) : call fs0 ex0 112 [.ptr r 0 0, .int .i64 n] h = some (.int .u64 (x.number n.toNat).1, h.set r (x.number n.toNat).2.blk) := by
  have := number_call hr hx n.toNat (by omega)
  rw [Int.toNat_of_nonneg h0] at this
  exact this
theorem take_callI {h : H} {r : Nat} {x : Rd} (hr : h[r]? = some x.blk) (hx : x.b.length ≤ 281474976710656) {n : Int} (h0 : 0 ≤ n) : call fs0 ex0 113 [.ptr r 0 0, .int .i64 n] h = some (.str (x.take n.toNat).1, h.set r (x.take n.toNat).2.blk) := by
  have := take_call hr hx n.toNat
  rw [Int.toNat_of_nonneg h0] at this
  exact this
def exR0 : FuncId → List AV → M AV
  | 112, [.ptr r 0 0, .int .i64 n], h => match rdOf h r with
    | some x => if x.b.length ≤ 281474976710656 ∧ 0 ≤ n ∧ n ≤ 8 then some (.int .u64 (x.number n.toNat).1, h.set r (x.number n.toNat).2.blk) else none
    | none => none
  | 113, [.ptr r 0 0, .int .i64 n], h => match rdOf h r with
    | some x => if x.b.length ≤ 281474976710656 ∧ 0 ≤ n then some (.str (x.take n.toNat).1, h.set r (x.take n.toNat).2.blk) else none
    | none => none
  | _, _, _ => none
theorem exR0_ok : CfSound Tryz.prog exR0 := by
  refine sub_sound (call_sound fs0 ex0 fs0_ok ex0_ok) ?_
  intro f vs h q hr
  unfold exR0 at hr
  split at hr
  · split at hr
    · rename_i hx
      split at hr
      · rename_i hn
        exact (number_callI (rdOf_some hx) hn.1 hn.2.1 hn.2.2).trans hr
      · cases hr
    · cases hr
  · split at hr
    · rename_i hx
      split at hr
      · rename_i hn
        exact (take_callI (rdOf_some hx) hn.1 hn.2).trans hr
      · cases hr
    · cases hr
  · cases hr
def fsR := fsBut fs [112, 113]
theorem fsR_ok : FsOk Tryz.prog fsR := fsBut_ok fsOk _
theorem eR_26 (vs : List AV) (h : H) : call fsR exR0 112 vs h = exR0 112 vs h := call_ex fsR exR0 rfl _ _
theorem eR_28 (vs : List AV) (h : H) : call fsR exR0 113 vs h = exR0 113 vs h := call_ex fsR exR0 rfl _ _
section
variable {h : H} {r : Nat} {x : Rd}
theorem rnum_call (hr : h[r]? = some x.blk) (hx : x.b.length ≤ 281474976710656) : call fsR exR0 87 [.ptr r 0 0] h = some (.int .i64 x.num.1, h.set r x.num.2.blk) := by
  rw [call_eq fsR exR0 (f := 87) (sf := sf87) rfl]
  have hw : IntKind.i64.wrap (x.num.1 : Int) = x.num.1 := by
    have h1 : x.num.1 < 65536 := number_lt x 2
    exact wrap_i64 (by omega) (by omega)
  have hs := rdOf_eq hr
  unfold Rd.num at *
  simp [sf87, yld_some, exec_reg, exec_dreg, exec_seq, exec_cond, exec_block, exec_scope, exec_exit, exec_ret, exec_skip, exec_loop, ops_nil, ops_cons, ops_cons_gd, stages_nil, stages_cons_n, stages_cons_h, recheck, wantsOp, AV.same, sames, evalOp_p, evalOp_r, evalOp_a, evalOp_call, evalOp_callV, evalOp_store, evalOp_append, evalOp_clear, evalOp_mapUpdate, evalOp_delete, pP_move, pP_pick, pP_build, pP_nil_ptr, pP_nil_func, pP_bin, pP_eq, pP_neg, pP_inv, pP_not, pP_convInt, pP_convStr, pP_fieldAddr, pP_field, pP_indexAddr, pP_indexStr, pP_sliceStr, pP_sliceSl, pP_lenStr, pP_lenNil, pP_lenSl, pP_min, pP_max, pP_extract, pP_mkfn, bV_add, bV_sub, bV_mul, bV_quo, bV_rem, bV_and, bV_or, bV_xor, bV_andNot, bV_eql, bV_neq, bV_lss, bV_leq, bV_gtr, bV_geq, bV_shl, bV_shr, bV_str, eV_bool, eV_nn, eV_np, eV_pn, eV_snn, eV_sns, eV_ssn, eV_mnn, eV_mnm, eV_mmn, eV_fnn, eV_fnf, eV_ffn, eV_agg, rP_load, rP_lenNil, rP_str0, rdEl_K, rdK_row, rdK_bld, aP_newBld, aP_alloc, aP_box, aP_buildSlice, aP_makeSlice, aP_makeMap, aP_toBytes, hP_store, storeK_some, st_K, stK_row, stE_some, cells_agg, cells_bool, scalar_bool, cells_int, scalar_int, cells_str, scalar_str, cells_nilptr, scalar_nilptr, cells_ptr, scalar_ptr, cells_nilslice, scalar_nilslice, cells_slice, scalar_slice, cells_nilmap, scalar_nilmap, cells_map, scalar_map, cells_nilfunc, scalar_nilfunc, cells_func, scalar_func, eqCells, eqLeaf, run_toL, toL_some, ev_toL, getD_toL, put_toL, keep_toL, asc, fput_same, fput_ne, fbase_nil, fbase_cons, fkeep_nil, fkeep_cons, fzero, fnone, List.map_cons, List.map_nil, ev_lit, put_none, resVals, resVal, resOf, partV, fillA, putCells, fillEls, strBin, minV, optNat, appendEls, elsOf, sliceSlV, sliceStrV, List.replicate, List.getElem?_append_left, List.getElem?_append_right, List.set_append_left, List.set_append_right, List.getElem?_set_self, List.getElem?_set_ne, hq_get0, hq_get, hq_get2, hq_get3, hp_get0, hp_get, hp_get2, hp_get3, hp_set0, hp_set, hp_set2, hp_set3, wr_0, wr_1, wr_2, wr_3, wr_4, wr_n1, eR_26, exR0, hs, hx, hw]
theorem rwide_call (hr : h[r]? = some x.blk) (hx : x.b.length ≤ 281474976710656) : call fsR exR0 84 [.ptr r 0 0] h = some (.int .u64 x.wide.1, h.set r x.wide.2.blk) := by
  rw [call_eq fsR exR0 (f := 84) (sf := sf84) rfl]
  have hs := rdOf_eq hr
  unfold Rd.wide at *
  simp [sf84, yld_some, exec_reg, exec_dreg, exec_seq, exec_cond, exec_block, exec_scope, exec_exit, exec_ret, exec_skip, exec_loop, ops_nil, ops_cons, ops_cons_gd, stages_nil, stages_cons_n, stages_cons_h, recheck, wantsOp, AV.same, sames, evalOp_p, evalOp_r, evalOp_a, evalOp_call, evalOp_callV, evalOp_store, evalOp_append, evalOp_clear, evalOp_mapUpdate, evalOp_delete, pP_move, pP_pick, pP_build, pP_nil_ptr, pP_nil_func, pP_bin, pP_eq, pP_neg, pP_inv, pP_not, pP_convInt, pP_convStr, pP_fieldAddr, pP_field, pP_indexAddr, pP_indexStr, pP_sliceStr, pP_sliceSl, pP_lenStr, pP_lenNil, pP_lenSl, pP_min, pP_max, pP_extract, pP_mkfn, bV_add, bV_sub, bV_mul, bV_quo, bV_rem, bV_and, bV_or, bV_xor, bV_andNot, bV_eql, bV_neq, bV_lss, bV_leq, bV_gtr, bV_geq, bV_shl, bV_shr, bV_str, eV_bool, eV_nn, eV_np, eV_pn, eV_snn, eV_sns, eV_ssn, eV_mnn, eV_mnm, eV_mmn, eV_fnn, eV_fnf, eV_ffn, eV_agg, rP_load, rP_lenNil, rP_str0, rdEl_K, rdK_row, rdK_bld, aP_newBld, aP_alloc, aP_box, aP_buildSlice, aP_makeSlice, aP_makeMap, aP_toBytes, hP_store, storeK_some, st_K, stK_row, stE_some, cells_agg, cells_bool, scalar_bool, cells_int, scalar_int, cells_str, scalar_str, cells_nilptr, scalar_nilptr, cells_ptr, scalar_ptr, cells_nilslice, scalar_nilslice, cells_slice, scalar_slice, cells_nilmap, scalar_nilmap, cells_map, scalar_map, cells_nilfunc, scalar_nilfunc, cells_func, scalar_func, eqCells, eqLeaf, run_toL, toL_some, ev_toL, getD_toL, put_toL, keep_toL, asc, fput_same, fput_ne, fbase_nil, fbase_cons, fkeep_nil, fkeep_cons, fzero, fnone, List.map_cons, List.map_nil, ev_lit, put_none, resVals, resVal, resOf, partV, fillA, putCells, fillEls, strBin, minV, optNat, appendEls, elsOf, sliceSlV, sliceStrV, List.replicate, List.getElem?_append_left, List.getElem?_append_right, List.set_append_left, List.set_append_right, List.getElem?_set_self, List.getElem?_set_ne, hq_get0, hq_get, hq_get2, hq_get3, hp_get0, hp_get, hp_get2, hp_get3, hp_set0, hp_set, hp_set2, hp_set3, wr_0, wr_1, wr_2, wr_3, wr_4, wr_n1, eR_26, exR0, hs, hx]
theorem rtext_call (hr : h[r]? = some x.blk) (hx : x.b.length ≤ 281474976710656) : call fsR exR0 86 [.ptr r 0 0] h = some (.str x.text.1, h.set r x.text.2.blk) := by
  rw [call_eq fsR exR0 (f := 86) (sf := sf86) rfl]
  have h1 : (x.number 1).1 < 256 := number_lt x 1
  have hw : IntKind.i64.wrap ((x.number 1).1 : Int) = (x.number 1).1 := wrap_i64 (by omega) (by omega)
  have hs := rdOf_eq hr
  have hl : (x.number 1).2.b.length ≤ 281474976710656 := Nat.le_trans (take_left x 1) hx
  have hs2 : rdOf (h.set r (x.number 1).2.blk) r = some (x.number 1).2 := rdOf_eq (get_set_same hr)
  unfold Rd.text at *
  simp [sf86, yld_some, exec_reg, exec_dreg, exec_seq, exec_cond, exec_block, exec_scope, exec_exit, exec_ret, exec_skip, exec_loop, ops_nil, ops_cons, ops_cons_gd, stages_nil, stages_cons_n, stages_cons_h, recheck, wantsOp, AV.same, sames, evalOp_p, evalOp_r, evalOp_a, evalOp_call, evalOp_callV, evalOp_store, evalOp_append, evalOp_clear, evalOp_mapUpdate, evalOp_delete, pP_move, pP_pick, pP_build, pP_nil_ptr, pP_nil_func, pP_bin, pP_eq, pP_neg, pP_inv, pP_not, pP_convInt, pP_convStr, pP_fieldAddr, pP_field, pP_indexAddr, pP_indexStr, pP_sliceStr, pP_sliceSl, pP_lenStr, pP_lenNil, pP_lenSl, pP_min, pP_max, pP_extract, pP_mkfn, bV_add, bV_sub, bV_mul, bV_quo, bV_rem, bV_and, bV_or, bV_xor, bV_andNot, bV_eql, bV_neq, bV_lss, bV_leq, bV_gtr, bV_geq, bV_shl, bV_shr, bV_str, eV_bool, eV_nn, eV_np, eV_pn, eV_snn, eV_sns, eV_ssn, eV_mnn, eV_mnm, eV_mmn, eV_fnn, eV_fnf, eV_ffn, eV_agg, rP_load, rP_lenNil, rP_str0, rdEl_K, rdK_row, rdK_bld, aP_newBld, aP_alloc, aP_box, aP_buildSlice, aP_makeSlice, aP_makeMap, aP_toBytes, hP_store, storeK_some, st_K, stK_row, stE_some, cells_agg, cells_bool, scalar_bool, cells_int, scalar_int, cells_str, scalar_str, cells_nilptr, scalar_nilptr, cells_ptr, scalar_ptr, cells_nilslice, scalar_nilslice, cells_slice, scalar_slice, cells_nilmap, scalar_nilmap, cells_map, scalar_map, cells_nilfunc, scalar_nilfunc, cells_func, scalar_func, eqCells, eqLeaf, run_toL, toL_some, ev_toL, getD_toL, put_toL, keep_toL, asc, fput_same, fput_ne, fbase_nil, fbase_cons, fkeep_nil, fkeep_cons, fzero, fnone, List.map_cons, List.map_nil, ev_lit, put_none, resVals, resVal, resOf, partV, fillA, putCells, fillEls, strBin, minV, optNat, appendEls, elsOf, sliceSlV, sliceStrV, List.replicate, List.getElem?_append_left, List.getElem?_append_right, List.set_append_left, List.set_append_right, List.getElem?_set_self, List.getElem?_set_ne, hq_get0, hq_get, hq_get2, hq_get3, hp_get0, hp_get, hp_get2, hp_get3, hp_set0, hp_set, hp_set2, hp_set3, wr_0, wr_1, wr_2, wr_3, wr_4, wr_n1, eR_26, eR_28, exR0, hs, hs2, hx, hl, hw, hr, get_app hr, set_app hr, get_set_same hr, get_set_app hr, set_set_app hr, len_beq hr, beq_len hr]
theorem rbad_call (hr : h[r]? = some x.blk) : call fsR exR0 88 [.ptr r 0 0] h = some (.bool x.bad, h) := by
  rw [call_eq fsR exR0 (f := 88) (sf := sf88) rfl]
  unfold Rd.blk at hr
  simp [sf88, yld_some, exec_reg, exec_dreg, exec_seq, exec_cond, exec_block, exec_scope, exec_exit, exec_ret, exec_skip, exec_loop, ops_nil, ops_cons, ops_cons_gd, stages_nil, stages_cons_n, stages_cons_h, recheck, wantsOp, AV.same, sames, evalOp_p, evalOp_r, evalOp_a, evalOp_call, evalOp_callV, evalOp_store, evalOp_append, evalOp_clear, evalOp_mapUpdate, evalOp_delete, pP_move, pP_pick, pP_build, pP_nil_ptr, pP_nil_func, pP_bin, pP_eq, pP_neg, pP_inv, pP_not, pP_convInt, pP_convStr, pP_fieldAddr, pP_field, pP_indexAddr, pP_indexStr, pP_sliceStr, pP_sliceSl, pP_lenStr, pP_lenNil, pP_lenSl, pP_min, pP_max, pP_extract, pP_mkfn, bV_add, bV_sub, bV_mul, bV_quo, bV_rem, bV_and, bV_or, bV_xor, bV_andNot, bV_eql, bV_neq, bV_lss, bV_leq, bV_gtr, bV_geq, bV_shl, bV_shr, bV_str, eV_bool, eV_nn, eV_np, eV_pn, eV_snn, eV_sns, eV_ssn, eV_mnn, eV_mnm, eV_mmn, eV_fnn, eV_fnf, eV_ffn, eV_agg, rP_load, rP_lenNil, rP_str0, rdEl_K, rdK_row, rdK_bld, aP_newBld, aP_alloc, aP_box, aP_buildSlice, aP_makeSlice, aP_makeMap, aP_toBytes, hP_store, storeK_some, st_K, stK_row, stE_some, cells_agg, cells_bool, scalar_bool, cells_int, scalar_int, cells_str, scalar_str, cells_nilptr, scalar_nilptr, cells_ptr, scalar_ptr, cells_nilslice, scalar_nilslice, cells_slice, scalar_slice, cells_nilmap, scalar_nilmap, cells_map, scalar_map, cells_nilfunc, scalar_nilfunc, cells_func, scalar_func, eqCells, eqLeaf, run_toL, toL_some, ev_toL, getD_toL, put_toL, keep_toL, asc, fput_same, fput_ne, fbase_nil, fbase_cons, fkeep_nil, fkeep_cons, fzero, fnone, List.map_cons, List.map_nil, ev_lit, put_none, resVals, resVal, resOf, partV, fillA, putCells, fillEls, strBin, minV, optNat, appendEls, elsOf, sliceSlV, sliceStrV, List.replicate, List.getElem?_append_left, List.getElem?_append_right, List.set_append_left, List.set_append_right, List.getElem?_set_self, List.getElem?_set_ne, hq_get0, hq_get, hq_get2, hq_get3, hp_get0, hp_get, hp_get2, hp_get3, hp_set0, hp_set, hp_set2, hp_set3, wr_0, wr_1, wr_2, wr_3, wr_4, wr_n1, hr, get_app hr, set_app hr, get_set_same hr, get_set_app hr, set_set_app hr, len_beq hr, beq_len hr]
theorem rend_call (hr : h[r]? = some x.blk) : call fsR exR0 40 [.ptr r 0 0] h = some (.bool x.fin, h) := by
  have e23 := rbad_call hr
  rw [call_eq fsR exR0 (f := 40) (sf := sf40) rfl]
  unfold Rd.blk at hr
  unfold Rd.fin
  cases hb : x.bad <;> rw [hb] at hr e23 <;> simp [sf40, yld_some, exec_reg, exec_dreg, exec_seq, exec_cond, exec_block, exec_scope, exec_exit, exec_ret, exec_skip, exec_loop, ops_nil, ops_cons, ops_cons_gd, stages_nil, stages_cons_n, stages_cons_h, recheck, wantsOp, AV.same, sames, evalOp_p, evalOp_r, evalOp_a, evalOp_call, evalOp_callV, evalOp_store, evalOp_append, evalOp_clear, evalOp_mapUpdate, evalOp_delete, pP_move, pP_pick, pP_build, pP_nil_ptr, pP_nil_func, pP_bin, pP_eq, pP_neg, pP_inv, pP_not, pP_convInt, pP_convStr, pP_fieldAddr, pP_field, pP_indexAddr, pP_indexStr, pP_sliceStr, pP_sliceSl, pP_lenStr, pP_lenNil, pP_lenSl, pP_min, pP_max, pP_extract, pP_mkfn, bV_add, bV_sub, bV_mul, bV_quo, bV_rem, bV_and, bV_or, bV_xor, bV_andNot, bV_eql, bV_neq, bV_lss, bV_leq, bV_gtr, bV_geq, bV_shl, bV_shr, bV_str, eV_bool, eV_nn, eV_np, eV_pn, eV_snn, eV_sns, eV_ssn, eV_mnn, eV_mnm, eV_mmn, eV_fnn, eV_fnf, eV_ffn, eV_agg, rP_load, rP_lenNil, rP_str0, rdEl_K, rdK_row, rdK_bld, aP_newBld, aP_alloc, aP_box, aP_buildSlice, aP_makeSlice, aP_makeMap, aP_toBytes, hP_store, storeK_some, st_K, stK_row, stE_some, cells_agg, cells_bool, scalar_bool, cells_int, scalar_int, cells_str, scalar_str, cells_nilptr, scalar_nilptr, cells_ptr, scalar_ptr, cells_nilslice, scalar_nilslice, cells_slice, scalar_slice, cells_nilmap, scalar_nilmap, cells_map, scalar_map, cells_nilfunc, scalar_nilfunc, cells_func, scalar_func, eqCells, eqLeaf, run_toL, toL_some, ev_toL, getD_toL, put_toL, keep_toL, asc, fput_same, fput_ne, fbase_nil, fbase_cons, fkeep_nil, fkeep_cons, fzero, fnone, List.map_cons, List.map_nil, ev_lit, put_none, resVals, resVal, resOf, partV, fillA, putCells, fillEls, strBin, minV, optNat, appendEls, elsOf, sliceSlV, sliceStrV, List.replicate, List.getElem?_append_left, List.getElem?_append_right, List.set_append_left, List.set_append_right, List.getElem?_set_self, List.getElem?_set_ne, hq_get0, hq_get, hq_get2, hq_get3, hp_get0, hp_get, hp_get2, hp_get3, hp_set0, hp_set, hp_set2, hp_set3, wr_0, wr_1, wr_2, wr_3, wr_4, wr_n1, hr, get_app hr, set_app hr, get_set_same hr, get_set_app hr, set_set_app hr, len_beq hr, beq_len hr, e23]
theorem from_call (b : List UInt8) (h : H) : call fsR exR0 38 [.str b] h = some (.ptr h.length 0 0, h ++ [Rd.blk ⟨b, false⟩]) := by
  rw [call_eq fsR exR0 (f := 38) (sf := sf38) rfl]
  simp [sf38, yld_some, exec_reg, exec_dreg, exec_seq, exec_cond, exec_block, exec_scope, exec_exit, exec_ret, exec_skip, exec_loop, ops_nil, ops_cons, ops_cons_gd, stages_nil, stages_cons_n, stages_cons_h, recheck, wantsOp, AV.same, sames, evalOp_p, evalOp_r, evalOp_a, evalOp_call, evalOp_callV, evalOp_store, evalOp_append, evalOp_clear, evalOp_mapUpdate, evalOp_delete, pP_move, pP_pick, pP_build, pP_nil_ptr, pP_nil_func, pP_bin, pP_eq, pP_neg, pP_inv, pP_not, pP_convInt, pP_convStr, pP_fieldAddr, pP_field, pP_indexAddr, pP_indexStr, pP_sliceStr, pP_sliceSl, pP_lenStr, pP_lenNil, pP_lenSl, pP_min, pP_max, pP_extract, pP_mkfn, bV_add, bV_sub, bV_mul, bV_quo, bV_rem, bV_and, bV_or, bV_xor, bV_andNot, bV_eql, bV_neq, bV_lss, bV_leq, bV_gtr, bV_geq, bV_shl, bV_shr, bV_str, eV_bool, eV_nn, eV_np, eV_pn, eV_snn, eV_sns, eV_ssn, eV_mnn, eV_mnm, eV_mmn, eV_fnn, eV_fnf, eV_ffn, eV_agg, rP_load, rP_lenNil, rP_str0, rdEl_K, rdK_row, rdK_bld, aP_newBld, aP_alloc, aP_box, aP_buildSlice, aP_makeSlice, aP_makeMap, aP_toBytes, hP_store, storeK_some, st_K, stK_row, stE_some, cells_agg, cells_bool, scalar_bool, cells_int, scalar_int, cells_str, scalar_str, cells_nilptr, scalar_nilptr, cells_ptr, scalar_ptr, cells_nilslice, scalar_nilslice, cells_slice, scalar_slice, cells_nilmap, scalar_nilmap, cells_map, scalar_map, cells_nilfunc, scalar_nilfunc, cells_func, scalar_func, eqCells, eqLeaf, run_toL, toL_some, ev_toL, getD_toL, put_toL, keep_toL, asc, fput_same, fput_ne, fbase_nil, fbase_cons, fkeep_nil, fkeep_cons, fzero, fnone, List.map_cons, List.map_nil, ev_lit, put_none, resVals, resVal, resOf, partV, fillA, putCells, fillEls, strBin, minV, optNat, appendEls, elsOf, sliceSlV, sliceStrV, List.replicate, List.getElem?_append_left, List.getElem?_append_right, List.set_append_left, List.set_append_right, List.getElem?_set_self, List.getElem?_set_ne, hq_get0, hq_get, hq_get2, hq_get3, hp_get0, hp_get, hp_get2, hp_get3, hp_set0, hp_set, hp_set2, hp_set3, wr_0, wr_1, wr_2, wr_3, wr_4, wr_n1, Rd.blk]
end
def exR : FuncId → List AV → M AV
  | 38, [.str b], h => some (.ptr h.length 0 0, h ++ [Rd.blk ⟨b, false⟩])
  | 87, [.ptr r 0 0], h => match rdOf h r with
    | some x => if x.b.length ≤ 281474976710656 then some (.int .i64 x.num.1, h.set r x.num.2.blk) else none
    | none => none
  | 86, [.ptr r 0 0], h => match rdOf h r with
    | some x => if x.b.length ≤ 281474976710656 then some (.str x.text.1, h.set r x.text.2.blk) else none
    | none => none
  | 84, [.ptr r 0 0], h => match rdOf h r with
    | some x => if x.b.length ≤ 281474976710656 then some (.int .u64 x.wide.1, h.set r x.wide.2.blk) else none
    | none => none
  | 88, [.ptr r 0 0], h => match rdOf h r with
    | some x => some (.bool x.bad, h)
    | none => none
  | 40, [.ptr r 0 0], h => match rdOf h r with
    | some x => some (.bool x.fin, h)
    | none => none
  | _, _, _ => none
theorem exR_ok : CfSound Tryz.prog exR := by
  refine sub_sound (call_sound fsR exR0 fsR_ok exR0_ok) ?_
  intro f vs h q hr
  unfold exR at hr
  split at hr
  · rw [from_call]; exact hr
  all_goals first | cases hr; done | skip
  all_goals
    split at hr
    · rename_i hx
      first
      | (split at hr
         · rename_i hl
           first
           | exact (rnum_call (rdOf_some hx) hl).trans hr
           | exact (rtext_call (rdOf_some hx) hl).trans hr
           | exact (rwide_call (rdOf_some hx) hl).trans hr
         · cases hr)
      | exact (rbad_call (rdOf_some hx)).trans hr
      | exact (rend_call (rdOf_some hx)).trans hr
    · cases hr
def ex1 : FuncId → List AV → M AV := fun f vs h => if f = 72 ∨ f = 75 ∨ f = 21 then exG f vs h else exR f vs h
theorem ex1_ok : CfSound Tryz.prog ex1 := by
  intro f vs h v h' hr
  unfold ex1 at hr
  split at hr
  · exact exG_ok f vs h v h' hr
  · exact exR_ok f vs h v h' hr
def fs1 := fsBut fs [72, 75, 21, 38, 87, 86, 84, 88, 40]
theorem fs1_ok : FsOk Tryz.prog fs1 := fsBut_ok fsOk _
theorem e1_10 (vs : List AV) (h : H) : call fs1 ex1 72 vs h = exG 72 vs h := (call_ex fs1 ex1 rfl _ _).trans rfl
theorem e1_11 (vs : List AV) (h : H) : call fs1 ex1 75 vs h = exG 75 vs h := (call_ex fs1 ex1 rfl _ _).trans rfl
theorem e1_14 (vs : List AV) (h : H) : call fs1 ex1 21 vs h = exG 21 vs h := (call_ex fs1 ex1 rfl _ _).trans rfl
theorem e1_16 (vs : List AV) (h : H) : call fs1 ex1 38 vs h = exR 38 vs h := (call_ex fs1 ex1 rfl _ _).trans rfl
theorem e1_17 (vs : List AV) (h : H) : call fs1 ex1 87 vs h = exR 87 vs h := (call_ex fs1 ex1 rfl _ _).trans rfl
theorem e1_19 (vs : List AV) (h : H) : call fs1 ex1 86 vs h = exR 86 vs h := (call_ex fs1 ex1 rfl _ _).trans rfl
theorem e1_21 (vs : List AV) (h : H) : call fs1 ex1 84 vs h = exR 84 vs h := (call_ex fs1 ex1 rfl _ _).trans rfl
theorem e1_23 (vs : List AV) (h : H) : call fs1 ex1 88 vs h = exR 88 vs h := (call_ex fs1 ex1 rfl _ _).trans rfl
theorem e1_24 (vs : List AV) (h : H) : call fs1 ex1 40 vs h = exR 40 vs h := (call_ex fs1 ex1 rfl _ _).trans rfl
end Go.Proofs.YtgnenipkebelfaaGreatDoor.Pk
