/- A book of lists: marks; are two alike; are all marked. -/
import Derived.Test.YtfkhdfnjlegnhaaBookA
set_option maxRecDepth 100000
set_option linter.unusedVariables false
set_option linter.unusedSimpArgs false
namespace Go.Proofs.Ytfkhdfnjlegnhaa.Bk
open Go Go.Eng F

def mk (i k : Nat) : List AV := [.int .u64 ((1000000 * i + k + 7 : Nat) : Int)]
def marks (i a : Nat) : Nat → List (List AV)
  | 0 => []
  | n + 1 => marks i a n ++ [mk i (a + n)]
theorem marks_len (i a : Nat) : ∀ n, (marks i a n).length = n
  | 0 => rfl
  | n + 1 => by simp [marks, marks_len i a n]
theorem marks_add (i a n : Nat) : ∀ m, marks i a (n + m) = marks i a n ++ marks i (a + n) m
  | 0 => by simp [marks]
  | m + 1 => by rw [← Nat.add_assoc, marks, marks_add i a n m, marks, List.append_assoc, Nat.add_assoc]
theorem marks_scalar (i a : Nat) : ∀ n, ∀ e ∈ marks i a n, ∀ x ∈ e, x.scalar = true
  | 0 => by simp [marks]
  | n + 1 => by
    intro e he x hx
    simp only [marks, List.mem_append, List.mem_singleton] at he
    rcases he with he | rfl
    · exact marks_scalar i a n e he x hx
    · simp [mk] at hx; subst hx; rfl
theorem marks_get (i a : Nat) : ∀ n j, j < n → (marks i a n)[j]? = some (mk i (a + j))
  | 0, j, h => by omega
  | n + 1, j, h => by
    simp only [marks]
    by_cases hj : j < n
    · rw [List.getElem?_append_left (by rw [marks_len]; exact hj)]; exact marks_get i a n j hj
    · have : j = n := by omega
      subst this
      rw [List.getElem?_append_right (by rw [marks_len]; exact Nat.le_refl _), marks_len]; simp
set_option maxHeartbeats 4000000 in
theorem mark_run {q : Int} {i a n : Nat} (hi : i ≤ 1000) (ha : a ≤ 100000) (hn : n ≤ 100000) (hq : IntKind.i64.wrap (q * (i : Int)) = ((1000000 * i : Nat) : Int)) (k : H) :
    Yld (runFn (call Fg.fs0 Fg.ex0) itw (⟨3, 27, (.seq (.reg [⟨(some 6), .p .move, [.lit .nilslice], none⟩])
  (.seq (.reg [⟨(some 7), .p .move, [.lit .nilslice], none⟩])
  (.seq (.seq (.reg [⟨(some 9), .p .move, [.tmp 1], none⟩,
    ⟨(some 8), .p .move, [.tmp 9], none⟩])
  (.block 0 (.loop [0, 1, 2, 7, 8] (.seq (.seq (.reg [⟨(some 10), .p .move, [.tmp 8], none⟩,
    ⟨(some 11), .p .move, [.tmp 1], none⟩,
    ⟨(some 12), .p .move, [.tmp 2], none⟩,
    ⟨(some 13), .p (.bin .add), [.tmp 11, .tmp 12], none⟩,
    ⟨(some 14), .p (.bin .lss), [.tmp 10, .tmp 13], none⟩])
  (.cond (.tmp 14) .skip
  (.exit 0)))
  (.seq (.block 1 (.reg [⟨(some 17), .p .move, [.tmp 7], none⟩,
    ⟨(some 18), .p .move, [.tmp 0], none⟩,
    ⟨(some 19), .p (.bin .mul), [.lit (.int .i64 q), .tmp 18], none⟩,
    ⟨(some 20), .p .move, [.tmp 8], none⟩,
    ⟨(some 21), .p (.bin .add), [.tmp 19, .tmp 20], none⟩,
    ⟨(some 22), .p (.bin .add), [.tmp 21, .lit (.int .i64 7)], none⟩,
    ⟨(some 23), .p (.convInt .u64), [.tmp 22], none⟩,
    ⟨(some 24), .a (.buildSlice 1 1 [(.int .u64 0)] [0]), [.tmp 23], none⟩,
    ⟨(some 25), .h (.append 1 false), [.tmp 17, .tmp 24], none⟩,
    ⟨(some 7), .p .move, [.tmp 25], none⟩]))
  (.reg [⟨(some 15), .p .move, [.tmp 8], none⟩,
    ⟨(some 16), .p (.bin .add), [.tmp 15, .lit (.int .i64 1)], none⟩,
    ⟨(some 8), .p .move, [.tmp 16], none⟩]))))))
  (.seq (.reg [⟨(some 26), .p .move, [.tmp 7], none⟩,
    ⟨(some 6), .p .move, [.tmp 26], none⟩])
  .ret)))), [.tmp 6]⟩) [.int .i64 (i : Nat), .int .i64 (a : Nat), .int .i64 (n : Nat)] k) fun r => ∃ v k', r = (v, k') ∧ OwnE k' 1 v (marks i a n) ∧ Chg k k' [] ∧ ∀ c ∈ foot v, k.length ≤ c := by
  refine yld_shut fun Q hQ => ?_
  have hw1 : IntKind.i64.wrap ((a : Int) + (n : Int)) = ((a + n : Nat) : Int) := by rw [wrap_i64 (by omega) (by omega)]; omega
  simp [yld_some, exec_reg, exec_dreg, exec_seq, exec_cond, exec_block, exec_scope, exec_exit, exec_ret, exec_skip, exec_loop, ops_nil, ops_cons, ops_cons_gd, stages_nil, stages_cons_n, stages_cons_h, recheck, wantsOp, AV.same, sames, evalOp_p, evalOp_r, evalOp_a, evalOp_call, evalOp_callV, evalOp_store, evalOp_append, evalOp_clear, evalOp_mapUpdate, evalOp_delete, pP_move, pP_pick, pP_build, pP_nil_ptr, pP_nil_func, pP_bin, pP_eq, pP_neg, pP_inv, pP_not, pP_convInt, pP_convStr, pP_fieldAddr, pP_field, pP_indexAddr, pP_indexStr, pP_sliceStr, pP_sliceSl, pP_lenStr, pP_lenNil, pP_lenSl, pP_min, pP_max, pP_extract, pP_mkfn, bV_add, bV_sub, bV_mul, bV_quo, bV_rem, bV_and, bV_or, bV_xor, bV_andNot, bV_eql, bV_neq, bV_lss, bV_leq, bV_gtr, bV_geq, bV_shl, bV_shr, bV_str, eV_bool, eV_nn, eV_np, eV_pn, eV_snn, eV_sns, eV_ssn, eV_mnn, eV_mnm, eV_mmn, eV_fnn, eV_fnf, eV_ffn, eV_agg, rP_load, rP_lenNil, rP_str0, rdEl_K, rdK_row, aP_alloc, aP_box, aP_buildSlice, aP_makeSlice, aP_makeMap, aP_toBytes, hP_store, storeK_some, st_K, stK_row, stE_some, cells_agg, cells_bool, scalar_bool, cells_int, scalar_int, cells_str, scalar_str, cells_nilptr, scalar_nilptr, cells_ptr, scalar_ptr, cells_nilslice, scalar_nilslice, cells_slice, scalar_slice, cells_nilmap, scalar_nilmap, cells_map, scalar_map, cells_nilfunc, scalar_nilfunc, cells_func, scalar_func, eqCells, eqLeaf, run_toL, toL_some, ev_toL, getD_toL, put_toL, keep_toL, asc, fput_same, fput_ne, fbase_nil, fbase_cons, fkeep_nil, fkeep_cons, fzero, fnone, List.map_cons, List.map_nil, ev_lit, put_none, resVals, resVal, resOf, partV, fillA, putCells, fillEls, strBin, minV, optNat, appendEls, elsOf, sliceSlV, sliceStrV, List.replicate, List.getElem?_append_left, List.getElem?_append_right, List.set_append_left, List.set_append_right, List.getElem?_set_self, List.getElem?_set_ne, hq_get0, hq_get, hq_get2, hq_get3, hp_get0, hp_get, hp_get2, hp_get3, hp_set0, hp_set, hp_set2, hp_set3, wr_0, wr_1, wr_2, wr_3, wr_4, wr_n1]
  repeat (first | apply yld_endFn | apply yld_seqK | apply yld_blockK | apply yld_regK | apply yld_opsK | apply yld_putK | apply yld_stgK | apply yld_chkK)
  refine yld_rounds (fun m e k' => ∃ f j vo, e = toL 27 f ∧ m = n - j ∧ j ≤ n ∧ f 0 = .int .i64 (i : Nat) ∧ f 1 = .int .i64 (a : Nat) ∧ f 2 = .int .i64 (n : Nat) ∧ f 7 = vo ∧ f 8 = .int .i64 ((a + j : Nat) : Int) ∧ OwnE k' 1 vo (marks i a j) ∧ Chg k k' [] ∧ (∀ c ∈ foot vo, k.length ≤ c)) (n - 0) ?_ ?_
  · exact ⟨_, 0, .nilslice, rfl, rfl, Nat.zero_le _, rfl, rfl, rfl, rfl, rfl, .inl ⟨rfl, rfl⟩, Chg.refl _ _, by simp [foot]⟩
  · rintro J R hJ hR m e k' ⟨f, j, vo, rfl, rfl, hj, f0, f1, f2, f7, f8, ho, hch, hft⟩
    by_cases hjn : j < n
    · have d0 : decide (((a + j : Nat) : Int) < ((a + n : Nat) : Int)) = true := dec_true (by omega)
      have d1 : decide (a + j < a + n) = true := dec_true (by omega)
      have w2 : IntKind.i64.wrap (((1000000 * i : Nat) : Int) + ((a + j : Nat) : Int)) = ((1000000 * i + (a + j) : Nat) : Int) := by rw [wrap_i64 (by omega) (by omega)]; omega
      have w3 : IntKind.i64.wrap (((1000000 * i + (a + j) : Nat) : Int) + 7) = ((1000000 * i + (a + j) + 7 : Nat) : Int) := by rw [wrap_i64 (by omega) (by omega)]; omega
      have w4 : IntKind.u64.wrap ((1000000 * i + (a + j) + 7 : Nat) : Int) = ((1000000 * i + (a + j) + 7 : Nat) : Int) := wrap_u64 (by omega) (by omega)
      have w5 : IntKind.i64.wrap (((a + j : Nat) : Int) + 1) = ((a + (j + 1) : Nat) : Int) := by rw [wrap_i64 (by omega) (by omega)]; omega
      generalize hx : (1000000 * i + (a + j) + 7 : Nat) = x at w3 w4
      generalize (1000000 * i + (a + j) : Nat) = y at w2 w3
      generalize (1000000 * i : Nat) = z at hq w2
      generalize haj : a + j = aj at d0 d1 w2 w5 f8
      generalize hajn : a + (j + 1) = aj1 at w5
      generalize han : a + n = an at d0 d1 hw1
      have ho1 := ho.keep (Chg.app k' [.row 1 [[.int .u64 (x : Nat)]] true true] []) (by simp)
      obtain ⟨v', k2, e9, ho2, hch2, hf2⟩ := ownE_append (es := 1) (X := [[.int .u64 (x : Nat)]]) ho1 (x := .slice k'.length 1 0 1 1 true) (.inr <| .inr ⟨k'.length, 1, true, [[.int .u64 (x : Nat)]], true, true, rfl, by simp, rfl, by simp⟩) (by simp) (by simp [AV.scalar]) (by rw [marks_len]; simp; omega)
      simp [yld_some, exec_reg, exec_dreg, exec_seq, exec_cond, exec_block, exec_scope, exec_exit, exec_ret, exec_skip, exec_loop, ops_nil, ops_cons, ops_cons_gd, stages_nil, stages_cons_n, stages_cons_h, recheck, wantsOp, AV.same, sames, evalOp_p, evalOp_r, evalOp_a, evalOp_call, evalOp_callV, evalOp_store, evalOp_append, evalOp_clear, evalOp_mapUpdate, evalOp_delete, pP_move, pP_pick, pP_build, pP_nil_ptr, pP_nil_func, pP_bin, pP_eq, pP_neg, pP_inv, pP_not, pP_convInt, pP_convStr, pP_fieldAddr, pP_field, pP_indexAddr, pP_indexStr, pP_sliceStr, pP_sliceSl, pP_lenStr, pP_lenNil, pP_lenSl, pP_min, pP_max, pP_extract, pP_mkfn, bV_add, bV_sub, bV_mul, bV_quo, bV_rem, bV_and, bV_or, bV_xor, bV_andNot, bV_eql, bV_neq, bV_lss, bV_leq, bV_gtr, bV_geq, bV_shl, bV_shr, bV_str, eV_bool, eV_nn, eV_np, eV_pn, eV_snn, eV_sns, eV_ssn, eV_mnn, eV_mnm, eV_mmn, eV_fnn, eV_fnf, eV_ffn, eV_agg, rP_load, rP_lenNil, rP_str0, rdEl_K, rdK_row, aP_alloc, aP_box, aP_buildSlice, aP_makeSlice, aP_makeMap, aP_toBytes, hP_store, storeK_some, st_K, stK_row, stE_some, cells_agg, cells_bool, scalar_bool, cells_int, scalar_int, cells_str, scalar_str, cells_nilptr, scalar_nilptr, cells_ptr, scalar_ptr, cells_nilslice, scalar_nilslice, cells_slice, scalar_slice, cells_nilmap, scalar_nilmap, cells_map, scalar_map, cells_nilfunc, scalar_nilfunc, cells_func, scalar_func, eqCells, eqLeaf, run_toL, toL_some, ev_toL, getD_toL, put_toL, keep_toL, asc, fput_same, fput_ne, fbase_nil, fbase_cons, fkeep_nil, fkeep_cons, fzero, fnone, List.map_cons, List.map_nil, ev_lit, put_none, resVals, resVal, resOf, partV, fillA, putCells, fillEls, strBin, minV, optNat, appendEls, elsOf, sliceSlV, sliceStrV, List.replicate, List.getElem?_append_left, List.getElem?_append_right, List.set_append_left, List.set_append_right, List.getElem?_set_self, List.getElem?_set_ne, hq_get0, hq_get, hq_get2, hq_get3, hp_get0, hp_get, hp_get2, hp_get3, hp_set0, hp_set, hp_set2, hp_set3, wr_0, wr_1, wr_2, wr_3, wr_4, wr_n1, f0, f1, f2, f7, f8, hw1, hq, d0, d1, w2, w3, w4, w5, e9]
      refine ⟨n - (j + 1), by omega, hJ _ _ _ ⟨_, j + 1, v', rfl, rfl, by omega, rfl, rfl, rfl, rfl, by rw [hajn]; rfl, ?_, ?_, ?_⟩⟩
      · rw [marks, mk, haj, ← haj, hx]; exact ho2
      · exact (hch.trans (Chg.app k' _ []) (by simp)).trans hch2 (fun c hc => .inr (hft c hc))
      · intro c hc
        have := hf2 c hc
        have := hch.1
        simp at *; omega
    · have : j = n := by omega
      subst this
      have d0 : decide (((a + j : Nat) : Int) < ((a + j : Nat) : Int)) = false := dec_false (by omega)
      have d1 : decide (a + j < a + j) = false := dec_false (by omega)
      generalize a + j = an at *
      simp [yld_some, exec_reg, exec_dreg, exec_seq, exec_cond, exec_block, exec_scope, exec_exit, exec_ret, exec_skip, exec_loop, ops_nil, ops_cons, ops_cons_gd, stages_nil, stages_cons_n, stages_cons_h, recheck, wantsOp, AV.same, sames, evalOp_p, evalOp_r, evalOp_a, evalOp_call, evalOp_callV, evalOp_store, evalOp_append, evalOp_clear, evalOp_mapUpdate, evalOp_delete, pP_move, pP_pick, pP_build, pP_nil_ptr, pP_nil_func, pP_bin, pP_eq, pP_neg, pP_inv, pP_not, pP_convInt, pP_convStr, pP_fieldAddr, pP_field, pP_indexAddr, pP_indexStr, pP_sliceStr, pP_sliceSl, pP_lenStr, pP_lenNil, pP_lenSl, pP_min, pP_max, pP_extract, pP_mkfn, bV_add, bV_sub, bV_mul, bV_quo, bV_rem, bV_and, bV_or, bV_xor, bV_andNot, bV_eql, bV_neq, bV_lss, bV_leq, bV_gtr, bV_geq, bV_shl, bV_shr, bV_str, eV_bool, eV_nn, eV_np, eV_pn, eV_snn, eV_sns, eV_ssn, eV_mnn, eV_mnm, eV_mmn, eV_fnn, eV_fnf, eV_ffn, eV_agg, rP_load, rP_lenNil, rP_str0, rdEl_K, rdK_row, aP_alloc, aP_box, aP_buildSlice, aP_makeSlice, aP_makeMap, aP_toBytes, hP_store, storeK_some, st_K, stK_row, stE_some, cells_agg, cells_bool, scalar_bool, cells_int, scalar_int, cells_str, scalar_str, cells_nilptr, scalar_nilptr, cells_ptr, scalar_ptr, cells_nilslice, scalar_nilslice, cells_slice, scalar_slice, cells_nilmap, scalar_nilmap, cells_map, scalar_map, cells_nilfunc, scalar_nilfunc, cells_func, scalar_func, eqCells, eqLeaf, run_toL, toL_some, ev_toL, getD_toL, put_toL, keep_toL, asc, fput_same, fput_ne, fbase_nil, fbase_cons, fkeep_nil, fkeep_cons, fzero, fnone, List.map_cons, List.map_nil, ev_lit, put_none, resVals, resVal, resOf, partV, fillA, putCells, fillEls, strBin, minV, optNat, appendEls, elsOf, sliceSlV, sliceStrV, List.replicate, List.getElem?_append_left, List.getElem?_append_right, List.set_append_left, List.set_append_right, List.getElem?_set_self, List.getElem?_set_ne, hq_get0, hq_get, hq_get2, hq_get3, hp_get0, hp_get, hp_get2, hp_get3, hp_set0, hp_set, hp_set2, hp_set3, wr_0, wr_1, wr_2, wr_3, wr_4, wr_n1, f0, f1, f2, f7, f8, hw1, d0, d1]
      refine hR _ ?_
      simp [yld_some, exec_reg, exec_dreg, exec_seq, exec_cond, exec_block, exec_scope, exec_exit, exec_ret, exec_skip, exec_loop, ops_nil, ops_cons, ops_cons_gd, stages_nil, stages_cons_n, stages_cons_h, recheck, wantsOp, AV.same, sames, evalOp_p, evalOp_r, evalOp_a, evalOp_call, evalOp_callV, evalOp_store, evalOp_append, evalOp_clear, evalOp_mapUpdate, evalOp_delete, pP_move, pP_pick, pP_build, pP_nil_ptr, pP_nil_func, pP_bin, pP_eq, pP_neg, pP_inv, pP_not, pP_convInt, pP_convStr, pP_fieldAddr, pP_field, pP_indexAddr, pP_indexStr, pP_sliceStr, pP_sliceSl, pP_lenStr, pP_lenNil, pP_lenSl, pP_min, pP_max, pP_extract, pP_mkfn, bV_add, bV_sub, bV_mul, bV_quo, bV_rem, bV_and, bV_or, bV_xor, bV_andNot, bV_eql, bV_neq, bV_lss, bV_leq, bV_gtr, bV_geq, bV_shl, bV_shr, bV_str, eV_bool, eV_nn, eV_np, eV_pn, eV_snn, eV_sns, eV_ssn, eV_mnn, eV_mnm, eV_mmn, eV_fnn, eV_fnf, eV_ffn, eV_agg, rP_load, rP_lenNil, rP_str0, rdEl_K, rdK_row, aP_alloc, aP_box, aP_buildSlice, aP_makeSlice, aP_makeMap, aP_toBytes, hP_store, storeK_some, st_K, stK_row, stE_some, cells_agg, cells_bool, scalar_bool, cells_int, scalar_int, cells_str, scalar_str, cells_nilptr, scalar_nilptr, cells_ptr, scalar_ptr, cells_nilslice, scalar_nilslice, cells_slice, scalar_slice, cells_nilmap, scalar_nilmap, cells_map, scalar_map, cells_nilfunc, scalar_nilfunc, cells_func, scalar_func, eqCells, eqLeaf, run_toL, toL_some, ev_toL, getD_toL, put_toL, keep_toL, asc, fput_same, fput_ne, fbase_nil, fbase_cons, fkeep_nil, fkeep_cons, fzero, fnone, List.map_cons, List.map_nil, ev_lit, put_none, resVals, resVal, resOf, partV, fillA, putCells, fillEls, strBin, minV, optNat, appendEls, elsOf, sliceSlV, sliceStrV, List.replicate, List.getElem?_append_left, List.getElem?_append_right, List.set_append_left, List.set_append_right, List.getElem?_set_self, List.getElem?_set_ne, hq_get0, hq_get, hq_get2, hq_get3, hp_get0, hp_get, hp_get2, hp_get3, hp_set0, hp_set, hp_set2, hp_set3, wr_0, wr_1, wr_2, wr_3, wr_4, wr_n1, f0, f1, f2, f7, f8]
      exact hQ _ ⟨_, _, rfl, ho, hch, hft⟩
theorem mark_call {i a n : Nat} (hi : i ≤ 1000) (ha : a ≤ 100000) (hn : n ≤ 100000) (k : H) :
    Yld (call Fg.fs0 Fg.ex0 64 [.int .i64 (i : Nat), .int .i64 (a : Nat), .int .i64 (n : Nat)] k) fun r => ∃ v k', r = (v, k') ∧ OwnE k' 1 v (marks i a n) ∧ Chg k k' [] ∧ ∀ c ∈ foot v, k.length ≤ c := by
  rw [call_eq Fg.fs0 Fg.ex0 (f := 64) (sf := sf64) rfl]
  exact mark_run (q := 1000000) hi ha hn (by rw [wrap_i64 (by omega) (by omega)]; omega) k
end Go.Proofs.Ytfkhdfnjlegnhaa.Bk
