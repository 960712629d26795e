/- Link: LinkPlays over the engine. -/
import Derived.Test.YtmbkklobijflkaaLpK
set_option maxRecDepth 100000
set_option linter.unusedVariables false
set_option linter.unusedSimpArgs false
namespace Go.Proofs.Ytmbkklobijflkaa.Lp
open Go Go.Eng F Lk Bk BkI

structure OpV where
  kd : Int
  n : Int
  p : Pv
def opv (O : OpV) : List AV := [.int .i64 O.kd, .int .i64 O.n, .int .i64 O.p.frm, .int .i64 O.p.to, .int .i64 O.p.seq, .int .i64 O.p.ack, .int .i64 O.p.y.x.kind, .int .i64 O.p.y.x.frm, .int .i64 O.p.y.x.to, .int .i64 O.p.y.x.id, .int .i64 O.p.y.x.a.op, .str O.p.y.x.a.key, .str O.p.y.x.a.value, .str O.p.y.x.a.to, .int .i64 O.p.y.x.a.most, .int .i64 O.p.y.x.t.errno, .str O.p.y.x.t.value, O.p.y.s1.av, .bool O.p.y.x.t.more, .str O.p.y.x.t.next, .int .i64 O.p.y.x.t.node, .int .u64 O.p.y.x.af, .int .u64 O.p.y.x.at_, .int .i64 O.p.y.x.ep, O.p.y.s2.av, .int .i64 O.p.y.x.n, .int .i64 O.p.y.x.node]
/-- What is handed in, in memory: of one thing that is done. -/
structure OpIn (h : H) (x : List AV) (O : OpV) (W1 W2 : List It) : Prop where
  eq : x = opv O
  w1 : SlOf h 2 O.p.y.s1.av (its W1)
  w2 : SlOf h 2 O.p.y.s2.av (its W2)
  l1 : W1.length * 48 ≤ 281474976710656
  l2 : W2.length * 48 ≤ 281474976710656
  seq : O.p.seq ≤ 9223372036854775807
theorem slOf_in {h k : H} {tg : Nat → Nat} {w : AV} {W : List It} (hs : SlOf h 2 w (its W)) (hk : ∀ (c : Nat) (x : Blk), h[c]? = some x → k[c]? = some x ∧ tg c = 6) : RdS k 2 w (its W) ∧ ∀ c ∈ foot0 w, tg c = 6 := by
  rcases hs with ⟨rfl, he⟩ | ⟨b, c, rfl, hc, hb⟩
  · exact ⟨.inl ⟨rfl, he⟩, by simp [foot0]⟩
  · by_cases h0 : its W = []
    · rw [h0]
      exact ⟨.inr (.inl ⟨b, c, true, rfl, rfl⟩), by simp [foot0]⟩
    · have hb := hk b _ (hb h0)
      refine ⟨.inr (.inr ⟨b, c, true, its W, false, false, rfl, hb.1, List.take_length, Nat.le_refl _⟩), ?_⟩
      intro z hz
      simp only [foot0] at hz
      split at hz
      · cases hz
      · simp only [List.mem_singleton] at hz; subst hz; exact hb.2
theorem St.fresh (h : H) (me peer : Int) : ∃ tg, St (h ++ [.map [], .row 7 [[.int .i64 me, .int .i64 peer, .int .i64 0, .int .i64 0, .nilslice, .int .i64 0, .map h.length]] true true, .row 7 [[.int .i64 me, .int .i64 peer, .int .i64 0, .nilslice, .int .i64 0, .nilslice, .int .i64 0]] true true, bookB .nilslice .nilslice .nilslice .nilslice]) tg (fun c x => h[c]? = some x) (h.length + 1) h.length (h.length + 2) (h.length + 3) 0 (Ls.fresh me peer) ⟨me, peer, 0, [], 0, [], 0⟩ := by
  refine ⟨fun c => if c = h.length + 3 then 1 else if c = h.length + 1 then 7 else if c = h.length then 7 else if c = h.length + 2 then 8 else 6, ⟨⟨.nilslice, ?_, by simp [foot]⟩, by simp, by simp⟩, ⟨⟨.nilslice, .nilslice, ⟨by simp [rrow], .inl ⟨rfl, rfl⟩, .inl ⟨rfl, rfl⟩, by simp [foot0], by simp [foot0], trivial⟩, by simp [foot0], by simp [foot0]⟩, by simp⟩, ⟨rfl, rfl, rfl, rfl, rfl, rfl, .nil⟩, ⟨by simp [Ls.fresh], by simp [Ls.fresh], by simp [Ls.fresh], by simp [Ls.fresh], by simp [Ls.fresh]⟩, ⟨0, ?_⟩, fun c x hx => ?_⟩
  · have := (new_at me peer h).keep (Chg.app _ [.row 7 [[.int .i64 me, .int .i64 peer, .int .i64 0, .nilslice, .int .i64 0, .nilslice, .int .i64 0]] true true, bookB .nilslice .nilslice .nilslice .nilslice] []) (by simp) (by simp) (by simp)
    rw [List.append_assoc] at this
    exact this
  · have b := Book.fresh (k := h ++ [.map [], .row 7 [[.int .i64 me, .int .i64 peer, .int .i64 0, .int .i64 0, .nilslice, .int .i64 0, .map h.length]] true true, .row 7 [[.int .i64 me, .int .i64 peer, .int .i64 0, .nilslice, .int .i64 0, .nilslice, .int .i64 0]] true true]) (tg := fun c => if c = h.length + 1 then 7 else if c = h.length then 7 else if c = h.length + 2 then 8 else 6)
    have hl : (h ++ [Blk.map [], .row 7 [[.int .i64 me, .int .i64 peer, .int .i64 0, .int .i64 0, .nilslice, .int .i64 0, .map h.length]] true true, .row 7 [[.int .i64 me, .int .i64 peer, .int .i64 0, .nilslice, .int .i64 0, .nilslice, .int .i64 0]] true true]).length = h.length + 3 := by simp
    rw [List.append_assoc, hl] at b
    exact b
  · have hc := (List.getElem?_eq_some_iff.1 hx).1
    have n1 : ¬ c = h.length + 3 := by omega
    have n2 : ¬ c = h.length + 1 := by omega
    have n3 : ¬ c = h.length := by omega
    have n4 : ¬ c = h.length + 2 := by omega
    exact ⟨get_app hx, by simp only [n1, n2, n3, n4, if_false]⟩
theorem nil12 (k : H) : ∃ z, call Lp.fs3 Lp.ex3 12 [.nilptr, .agg Pk.zero.av] k = some (.tuple [.nilslice, .agg Pk.zero.av, .bool false], k ++ z) := by
  rw [call_eq Lp.fs3 Lp.ex3 (f := 12) (sf := sf12) rfl]
  have e25 : ∀ h : H, call Lp.fs3 Lp.ex3 25 [.nilptr, .agg Pk.zero.av] h = some (.bool false, h) := fun h => by
    rw [e2_25, ← pv_av]
    have : pvOf Pk.zero.pv.av = some Pk.zero.pv := pvOf_av _
    simp only [ex2, this]
  refine ⟨[.row 25 [Pk.zero.av] true true, .row 25 [Pk.zero.av] true true], ?_⟩
  simp only [Pk.av, Pk.zero, Lt.zero] at e25
  simp [sf12, yld_some, exec_reg, exec_dreg, exec_seq, exec_cond, exec_block, exec_scope, exec_exit, exec_ret, exec_skip, exec_loop, ops_nil, ops_cons, ops_cons_gd, stages_nil, stages_cons_n, stages_cons_h, recheck, wantsOp, AV.same, sames, evalOp_p, evalOp_r, evalOp_a, evalOp_call, evalOp_callV, evalOp_store, evalOp_append, evalOp_clear, evalOp_mapUpdate, evalOp_delete, pP_move, pP_pick, pP_build, pP_nil_ptr, pP_nil_func, pP_bin, pP_eq, pP_neg, pP_inv, pP_not, pP_convInt, pP_convStr, pP_fieldAddr, pP_field, pP_indexAddr, pP_indexStr, pP_sliceStr, pP_sliceSl, pP_lenStr, pP_lenNil, pP_lenSl, pP_min, pP_max, pP_extract, pP_mkfn, bV_add, bV_sub, bV_mul, bV_quo, bV_rem, bV_and, bV_or, bV_xor, bV_andNot, bV_eql, bV_neq, bV_lss, bV_leq, bV_gtr, bV_geq, bV_shl, bV_shr, bV_str, eV_bool, eV_nn, eV_np, eV_pn, eV_snn, eV_sns, eV_ssn, eV_mnn, eV_mnm, eV_mmn, eV_fnn, eV_fnf, eV_ffn, eV_agg, rP_load, rP_lenNil, rP_str0, rdEl_K, rdK_row, aP_alloc, aP_box, aP_buildSlice, aP_makeSlice, aP_makeMap, aP_toBytes, hP_store, storeK_some, st_K, stK_row, stE_some, cells_agg, cells_bool, scalar_bool, cells_int, scalar_int, cells_str, scalar_str, cells_nilptr, scalar_nilptr, cells_ptr, scalar_ptr, cells_nilslice, scalar_nilslice, cells_slice, scalar_slice, cells_nilmap, scalar_nilmap, cells_map, scalar_map, cells_nilfunc, scalar_nilfunc, cells_func, scalar_func, eqCells, eqLeaf, run_toL, toL_some, ev_toL, getD_toL, put_toL, keep_toL, asc, fput_same, fput_ne, fbase_nil, fbase_cons, fkeep_nil, fkeep_cons, fzero, fnone, List.map_cons, List.map_nil, ev_lit, put_none, resVals, resVal, resOf, partV, fillA, putCells, fillEls, strBin, minV, optNat, appendEls, elsOf, sliceSlV, sliceStrV, List.replicate, List.getElem?_append_left, List.getElem?_append_right, List.set_append_left, List.set_append_right, List.getElem?_set_self, List.getElem?_set_ne, hq_get0, hq_get, hq_get2, hq_get3, hp_get0, hp_get, hp_get2, hp_get3, hp_set0, hp_set, hp_set2, hp_set3, wr_0, wr_1, wr_2, wr_3, wr_4, wr_n1, e25, Pk.av, Pk.zero, Lt.zero]
theorem nil15 (x : Lt) (k : H) : ∃ z, call Lp.fs3 Lp.ex3 15 [.nilptr, .agg x.av] k = some (.agg Pk.zero.av, k ++ z) := by
  rw [call_eq Lp.fs3 Lp.ex3 (f := 15) (sf := sf15) rfl]
  refine ⟨[.row 21 [x.av] true true, .row 25 [Pk.zero.av] true true], ?_⟩
  simp [sf15, yld_some, exec_reg, exec_dreg, exec_seq, exec_cond, exec_block, exec_scope, exec_exit, exec_ret, exec_skip, exec_loop, ops_nil, ops_cons, ops_cons_gd, stages_nil, stages_cons_n, stages_cons_h, recheck, wantsOp, AV.same, sames, evalOp_p, evalOp_r, evalOp_a, evalOp_call, evalOp_callV, evalOp_store, evalOp_append, evalOp_clear, evalOp_mapUpdate, evalOp_delete, pP_move, pP_pick, pP_build, pP_nil_ptr, pP_nil_func, pP_bin, pP_eq, pP_neg, pP_inv, pP_not, pP_convInt, pP_convStr, pP_fieldAddr, pP_field, pP_indexAddr, pP_indexStr, pP_sliceStr, pP_sliceSl, pP_lenStr, pP_lenNil, pP_lenSl, pP_min, pP_max, pP_extract, pP_mkfn, bV_add, bV_sub, bV_mul, bV_quo, bV_rem, bV_and, bV_or, bV_xor, bV_andNot, bV_eql, bV_neq, bV_lss, bV_leq, bV_gtr, bV_geq, bV_shl, bV_shr, bV_str, eV_bool, eV_nn, eV_np, eV_pn, eV_snn, eV_sns, eV_ssn, eV_mnn, eV_mnm, eV_mmn, eV_fnn, eV_fnf, eV_ffn, eV_agg, rP_load, rP_lenNil, rP_str0, rdEl_K, rdK_row, aP_alloc, aP_box, aP_buildSlice, aP_makeSlice, aP_makeMap, aP_toBytes, hP_store, storeK_some, st_K, stK_row, stE_some, cells_agg, cells_bool, scalar_bool, cells_int, scalar_int, cells_str, scalar_str, cells_nilptr, scalar_nilptr, cells_ptr, scalar_ptr, cells_nilslice, scalar_nilslice, cells_slice, scalar_slice, cells_nilmap, scalar_nilmap, cells_map, scalar_map, cells_nilfunc, scalar_nilfunc, cells_func, scalar_func, eqCells, eqLeaf, run_toL, toL_some, ev_toL, getD_toL, put_toL, keep_toL, asc, fput_same, fput_ne, fbase_nil, fbase_cons, fkeep_nil, fkeep_cons, fzero, fnone, List.map_cons, List.map_nil, ev_lit, put_none, resVals, resVal, resOf, partV, fillA, putCells, fillEls, strBin, minV, optNat, appendEls, elsOf, sliceSlV, sliceStrV, List.replicate, List.getElem?_append_left, List.getElem?_append_right, List.set_append_left, List.set_append_right, List.getElem?_set_self, List.getElem?_set_ne, hq_get0, hq_get, hq_get2, hq_get3, hp_get0, hp_get, hp_get2, hp_get3, hp_set0, hp_set, hp_set2, hp_set3, wr_0, wr_1, wr_2, wr_3, wr_4, wr_n1, Lt.av, Pk.av, Pk.zero, Lt.zero]
theorem nil19 (k : H) : call Lp.fs3 Lp.ex3 19 [.nilptr] k = some (.nilslice, k) := by
  rw [call_eq Lp.fs3 Lp.ex3 (f := 19) (sf := sf19) rfl]
  simp [sf19, yld_some, exec_reg, exec_dreg, exec_seq, exec_cond, exec_block, exec_scope, exec_exit, exec_ret, exec_skip, exec_loop, ops_nil, ops_cons, ops_cons_gd, stages_nil, stages_cons_n, stages_cons_h, recheck, wantsOp, AV.same, sames, evalOp_p, evalOp_r, evalOp_a, evalOp_call, evalOp_callV, evalOp_store, evalOp_append, evalOp_clear, evalOp_mapUpdate, evalOp_delete, pP_move, pP_pick, pP_build, pP_nil_ptr, pP_nil_func, pP_bin, pP_eq, pP_neg, pP_inv, pP_not, pP_convInt, pP_convStr, pP_fieldAddr, pP_field, pP_indexAddr, pP_indexStr, pP_sliceStr, pP_sliceSl, pP_lenStr, pP_lenNil, pP_lenSl, pP_min, pP_max, pP_extract, pP_mkfn, bV_add, bV_sub, bV_mul, bV_quo, bV_rem, bV_and, bV_or, bV_xor, bV_andNot, bV_eql, bV_neq, bV_lss, bV_leq, bV_gtr, bV_geq, bV_shl, bV_shr, bV_str, eV_bool, eV_nn, eV_np, eV_pn, eV_snn, eV_sns, eV_ssn, eV_mnn, eV_mnm, eV_mmn, eV_fnn, eV_fnf, eV_ffn, eV_agg, rP_load, rP_lenNil, rP_str0, rdEl_K, rdK_row, aP_alloc, aP_box, aP_buildSlice, aP_makeSlice, aP_makeMap, aP_toBytes, hP_store, storeK_some, st_K, stK_row, stE_some, cells_agg, cells_bool, scalar_bool, cells_int, scalar_int, cells_str, scalar_str, cells_nilptr, scalar_nilptr, cells_ptr, scalar_ptr, cells_nilslice, scalar_nilslice, cells_slice, scalar_slice, cells_nilmap, scalar_nilmap, cells_map, scalar_map, cells_nilfunc, scalar_nilfunc, cells_func, scalar_func, eqCells, eqLeaf, run_toL, toL_some, ev_toL, getD_toL, put_toL, keep_toL, asc, fput_same, fput_ne, fbase_nil, fbase_cons, fkeep_nil, fkeep_cons, fzero, fnone, List.map_cons, List.map_nil, ev_lit, put_none, resVals, resVal, resOf, partV, fillA, putCells, fillEls, strBin, minV, optNat, appendEls, elsOf, sliceSlV, sliceStrV, List.replicate, List.getElem?_append_left, List.getElem?_append_right, List.set_append_left, List.set_append_right, List.getElem?_set_self, List.getElem?_set_ne, hq_get0, hq_get, hq_get2, hq_get3, hp_get0, hp_get, hp_get2, hp_get3, hp_set0, hp_set, hp_set2, hp_set3, wr_0, wr_1, wr_2, wr_3, wr_4, wr_n1]
theorem nil16 (k : H) : call Lp.fs3 Lp.ex3 16 [.nilptr] k = some (.int .i64 0, k) := by
  rw [call_eq Lp.fs3 Lp.ex3 (f := 16) (sf := sf16) rfl]
  simp [sf16, yld_some, exec_reg, exec_dreg, exec_seq, exec_cond, exec_block, exec_scope, exec_exit, exec_ret, exec_skip, exec_loop, ops_nil, ops_cons, ops_cons_gd, stages_nil, stages_cons_n, stages_cons_h, recheck, wantsOp, AV.same, sames, evalOp_p, evalOp_r, evalOp_a, evalOp_call, evalOp_callV, evalOp_store, evalOp_append, evalOp_clear, evalOp_mapUpdate, evalOp_delete, pP_move, pP_pick, pP_build, pP_nil_ptr, pP_nil_func, pP_bin, pP_eq, pP_neg, pP_inv, pP_not, pP_convInt, pP_convStr, pP_fieldAddr, pP_field, pP_indexAddr, pP_indexStr, pP_sliceStr, pP_sliceSl, pP_lenStr, pP_lenNil, pP_lenSl, pP_min, pP_max, pP_extract, pP_mkfn, bV_add, bV_sub, bV_mul, bV_quo, bV_rem, bV_and, bV_or, bV_xor, bV_andNot, bV_eql, bV_neq, bV_lss, bV_leq, bV_gtr, bV_geq, bV_shl, bV_shr, bV_str, eV_bool, eV_nn, eV_np, eV_pn, eV_snn, eV_sns, eV_ssn, eV_mnn, eV_mnm, eV_mmn, eV_fnn, eV_fnf, eV_ffn, eV_agg, rP_load, rP_lenNil, rP_str0, rdEl_K, rdK_row, aP_alloc, aP_box, aP_buildSlice, aP_makeSlice, aP_makeMap, aP_toBytes, hP_store, storeK_some, st_K, stK_row, stE_some, cells_agg, cells_bool, scalar_bool, cells_int, scalar_int, cells_str, scalar_str, cells_nilptr, scalar_nilptr, cells_ptr, scalar_ptr, cells_nilslice, scalar_nilslice, cells_slice, scalar_slice, cells_nilmap, scalar_nilmap, cells_map, scalar_map, cells_nilfunc, scalar_nilfunc, cells_func, scalar_func, eqCells, eqLeaf, run_toL, toL_some, ev_toL, getD_toL, put_toL, keep_toL, asc, fput_same, fput_ne, fbase_nil, fbase_cons, fkeep_nil, fkeep_cons, fzero, fnone, List.map_cons, List.map_nil, ev_lit, put_none, resVals, resVal, resOf, partV, fillA, putCells, fillEls, strBin, minV, optNat, appendEls, elsOf, sliceSlV, sliceStrV, List.replicate, List.getElem?_append_left, List.getElem?_append_right, List.set_append_left, List.set_append_right, List.getElem?_set_self, List.getElem?_set_ne, hq_get0, hq_get, hq_get2, hq_get3, hp_get0, hp_get, hp_get2, hp_get3, hp_set0, hp_set, hp_set2, hp_set3, wr_0, wr_1, wr_2, wr_3, wr_4, wr_n1]
theorem nil13 (k : H) : call Lp.fs3 Lp.ex3 13 [.nilptr] k = some (.int .i64 0, k) := by
  rw [call_eq Lp.fs3 Lp.ex3 (f := 13) (sf := sf13) rfl]
  simp [sf13, yld_some, exec_reg, exec_dreg, exec_seq, exec_cond, exec_block, exec_scope, exec_exit, exec_ret, exec_skip, exec_loop, ops_nil, ops_cons, ops_cons_gd, stages_nil, stages_cons_n, stages_cons_h, recheck, wantsOp, AV.same, sames, evalOp_p, evalOp_r, evalOp_a, evalOp_call, evalOp_callV, evalOp_store, evalOp_append, evalOp_clear, evalOp_mapUpdate, evalOp_delete, pP_move, pP_pick, pP_build, pP_nil_ptr, pP_nil_func, pP_bin, pP_eq, pP_neg, pP_inv, pP_not, pP_convInt, pP_convStr, pP_fieldAddr, pP_field, pP_indexAddr, pP_indexStr, pP_sliceStr, pP_sliceSl, pP_lenStr, pP_lenNil, pP_lenSl, pP_min, pP_max, pP_extract, pP_mkfn, bV_add, bV_sub, bV_mul, bV_quo, bV_rem, bV_and, bV_or, bV_xor, bV_andNot, bV_eql, bV_neq, bV_lss, bV_leq, bV_gtr, bV_geq, bV_shl, bV_shr, bV_str, eV_bool, eV_nn, eV_np, eV_pn, eV_snn, eV_sns, eV_ssn, eV_mnn, eV_mnm, eV_mmn, eV_fnn, eV_fnf, eV_ffn, eV_agg, rP_load, rP_lenNil, rP_str0, rdEl_K, rdK_row, aP_alloc, aP_box, aP_buildSlice, aP_makeSlice, aP_makeMap, aP_toBytes, hP_store, storeK_some, st_K, stK_row, stE_some, cells_agg, cells_bool, scalar_bool, cells_int, scalar_int, cells_str, scalar_str, cells_nilptr, scalar_nilptr, cells_ptr, scalar_ptr, cells_nilslice, scalar_nilslice, cells_slice, scalar_slice, cells_nilmap, scalar_nilmap, cells_map, scalar_map, cells_nilfunc, scalar_nilfunc, cells_func, scalar_func, eqCells, eqLeaf, run_toL, toL_some, ev_toL, getD_toL, put_toL, keep_toL, asc, fput_same, fput_ne, fbase_nil, fbase_cons, fkeep_nil, fkeep_cons, fzero, fnone, List.map_cons, List.map_nil, ev_lit, put_none, resVals, resVal, resOf, partV, fillA, putCells, fillEls, strBin, minV, optNat, appendEls, elsOf, sliceSlV, sliceStrV, List.replicate, List.getElem?_append_left, List.getElem?_append_right, List.set_append_left, List.set_append_right, List.getElem?_set_self, List.getElem?_set_ne, hq_get0, hq_get, hq_get2, hq_get3, hp_get0, hp_get, hp_get2, hp_get3, hp_set0, hp_set, hp_set2, hp_set3, wr_0, wr_1, wr_2, wr_3, wr_4, wr_n1]
theorem nil14 (k : H) : call Lp.fs3 Lp.ex3 14 [.nilptr] k = some (.bool true, k) := by
  rw [call_eq Lp.fs3 Lp.ex3 (f := 14) (sf := sf14) rfl]
  simp [sf14, yld_some, exec_reg, exec_dreg, exec_seq, exec_cond, exec_block, exec_scope, exec_exit, exec_ret, exec_skip, exec_loop, ops_nil, ops_cons, ops_cons_gd, stages_nil, stages_cons_n, stages_cons_h, recheck, wantsOp, AV.same, sames, evalOp_p, evalOp_r, evalOp_a, evalOp_call, evalOp_callV, evalOp_store, evalOp_append, evalOp_clear, evalOp_mapUpdate, evalOp_delete, pP_move, pP_pick, pP_build, pP_nil_ptr, pP_nil_func, pP_bin, pP_eq, pP_neg, pP_inv, pP_not, pP_convInt, pP_convStr, pP_fieldAddr, pP_field, pP_indexAddr, pP_indexStr, pP_sliceStr, pP_sliceSl, pP_lenStr, pP_lenNil, pP_lenSl, pP_min, pP_max, pP_extract, pP_mkfn, bV_add, bV_sub, bV_mul, bV_quo, bV_rem, bV_and, bV_or, bV_xor, bV_andNot, bV_eql, bV_neq, bV_lss, bV_leq, bV_gtr, bV_geq, bV_shl, bV_shr, bV_str, eV_bool, eV_nn, eV_np, eV_pn, eV_snn, eV_sns, eV_ssn, eV_mnn, eV_mnm, eV_mmn, eV_fnn, eV_fnf, eV_ffn, eV_agg, rP_load, rP_lenNil, rP_str0, rdEl_K, rdK_row, aP_alloc, aP_box, aP_buildSlice, aP_makeSlice, aP_makeMap, aP_toBytes, hP_store, storeK_some, st_K, stK_row, stE_some, cells_agg, cells_bool, scalar_bool, cells_int, scalar_int, cells_str, scalar_str, cells_nilptr, scalar_nilptr, cells_ptr, scalar_ptr, cells_nilslice, scalar_nilslice, cells_slice, scalar_slice, cells_nilmap, scalar_nilmap, cells_map, scalar_map, cells_nilfunc, scalar_nilfunc, cells_func, scalar_func, eqCells, eqLeaf, run_toL, toL_some, ev_toL, getD_toL, put_toL, keep_toL, asc, fput_same, fput_ne, fbase_nil, fbase_cons, fkeep_nil, fkeep_cons, fzero, fnone, List.map_cons, List.map_nil, ev_lit, put_none, resVals, resVal, resOf, partV, fillA, putCells, fillEls, strBin, minV, optNat, appendEls, elsOf, sliceSlV, sliceStrV, List.replicate, List.getElem?_append_left, List.getElem?_append_right, List.set_append_left, List.set_append_right, List.getElem?_set_self, List.getElem?_set_ne, hq_get0, hq_get, hq_get2, hq_get3, hp_get0, hp_get, hp_get2, hp_get3, hp_set0, hp_set, hp_set2, hp_set3, wr_0, wr_1, wr_2, wr_3, wr_4, wr_n1]
set_option maxHeartbeats 16000000 in
theorem plays_law {h : H} {me peer : Int} {v : AV} {els : List (List AV)} (hv : SlOf h 27 v els) (hels : ∀ x ∈ els, ∃ O W1 W2, OpIn h x O W1 W2) : Yld (call Lp.fs3 Lp.ex3 6 [.int .i64 me, .int .i64 peer, v] h) fun r => r.1 = .bool true := by
  refine yld_shut fun Q hQ => ?_
  rw [call_eq Lp.fs3 Lp.ex3 (f := 6) (sf := sf6) rfl]
  have hQ' : ∀ k, Q (.bool true, k) := fun k => hQ _ rfl
  have l0 : evalP .lenSl [v] = some (.int .i64 (els.length : Nat)) := by
    rcases hv with ⟨rfl, rfl⟩ | ⟨b, c, rfl, _⟩ <;> rfl
  by_cases h1 : 100 < els.length
  · have d1 : decide ((100 : Int) < els.length) = true := dec_true (by omega)
    simp [sf6, yld_some, exec_reg, exec_dreg, exec_seq, exec_cond, exec_block, exec_scope, exec_exit, exec_ret, exec_skip, exec_loop, ops_nil, ops_cons, ops_cons_gd, stages_nil, stages_cons_n, stages_cons_h, recheck, wantsOp, AV.same, sames, evalOp_p, evalOp_r, evalOp_a, evalOp_call, evalOp_callV, evalOp_store, evalOp_append, evalOp_clear, evalOp_mapUpdate, evalOp_delete, pP_move, pP_pick, pP_build, pP_nil_ptr, pP_nil_func, pP_bin, pP_eq, pP_neg, pP_inv, pP_not, pP_convInt, pP_convStr, pP_fieldAddr, pP_field, pP_indexAddr, pP_indexStr, pP_sliceStr, pP_sliceSl, pP_lenStr, pP_lenNil, pP_lenSl, pP_min, pP_max, pP_extract, pP_mkfn, bV_add, bV_sub, bV_mul, bV_quo, bV_rem, bV_and, bV_or, bV_xor, bV_andNot, bV_eql, bV_neq, bV_lss, bV_leq, bV_gtr, bV_geq, bV_shl, bV_shr, bV_str, eV_bool, eV_nn, eV_np, eV_pn, eV_snn, eV_sns, eV_ssn, eV_mnn, eV_mnm, eV_mmn, eV_fnn, eV_fnf, eV_ffn, eV_agg, rP_load, rP_lenNil, rP_str0, rdEl_K, rdK_row, aP_alloc, aP_box, aP_buildSlice, aP_makeSlice, aP_makeMap, aP_toBytes, hP_store, storeK_some, st_K, stK_row, stE_some, cells_agg, cells_bool, scalar_bool, cells_int, scalar_int, cells_str, scalar_str, cells_nilptr, scalar_nilptr, cells_ptr, scalar_ptr, cells_nilslice, scalar_nilslice, cells_slice, scalar_slice, cells_nilmap, scalar_nilmap, cells_map, scalar_map, cells_nilfunc, scalar_nilfunc, cells_func, scalar_func, eqCells, eqLeaf, run_toL, toL_some, ev_toL, getD_toL, put_toL, keep_toL, asc, fput_same, fput_ne, fbase_nil, fbase_cons, fkeep_nil, fkeep_cons, fzero, fnone, List.map_cons, List.map_nil, ev_lit, put_none, resVals, resVal, resOf, partV, fillA, putCells, fillEls, strBin, minV, optNat, appendEls, elsOf, sliceSlV, sliceStrV, List.replicate, List.getElem?_append_left, List.getElem?_append_right, List.set_append_left, List.set_append_right, List.getElem?_set_self, List.getElem?_set_ne, hq_get0, hq_get, hq_get2, hq_get3, hp_get0, hp_get, hp_get2, hp_get3, hp_set0, hp_set, hp_set2, hp_set3, wr_0, wr_1, wr_2, wr_3, wr_4, wr_n1, e2_10, ex2, d1, h1, hQ', l0]
  have d1 : decide ((100 : Int) < els.length) = false := dec_false (by omega)
  have d1' : decide (100 < els.length) = false := dec_false (by omega)
  have e11 := new_call me peer h
  simp [sf6, yld_some, exec_reg, exec_dreg, exec_seq, exec_cond, exec_block, exec_scope, exec_exit, exec_ret, exec_skip, exec_loop, ops_nil, ops_cons, ops_cons_gd, stages_nil, stages_cons_n, stages_cons_h, recheck, wantsOp, AV.same, sames, evalOp_p, evalOp_r, evalOp_a, evalOp_call, evalOp_callV, evalOp_store, evalOp_append, evalOp_clear, evalOp_mapUpdate, evalOp_delete, pP_move, pP_pick, pP_build, pP_nil_ptr, pP_nil_func, pP_bin, pP_eq, pP_neg, pP_inv, pP_not, pP_convInt, pP_convStr, pP_fieldAddr, pP_field, pP_indexAddr, pP_indexStr, pP_sliceStr, pP_sliceSl, pP_lenStr, pP_lenNil, pP_lenSl, pP_min, pP_max, pP_extract, pP_mkfn, bV_add, bV_sub, bV_mul, bV_quo, bV_rem, bV_and, bV_or, bV_xor, bV_andNot, bV_eql, bV_neq, bV_lss, bV_leq, bV_gtr, bV_geq, bV_shl, bV_shr, bV_str, eV_bool, eV_nn, eV_np, eV_pn, eV_snn, eV_sns, eV_ssn, eV_mnn, eV_mnm, eV_mmn, eV_fnn, eV_fnf, eV_ffn, eV_agg, rP_load, rP_lenNil, rP_str0, rdEl_K, rdK_row, aP_alloc, aP_box, aP_buildSlice, aP_makeSlice, aP_makeMap, aP_toBytes, hP_store, storeK_some, st_K, stK_row, stE_some, cells_agg, cells_bool, scalar_bool, cells_int, scalar_int, cells_str, scalar_str, cells_nilptr, scalar_nilptr, cells_ptr, scalar_ptr, cells_nilslice, scalar_nilslice, cells_slice, scalar_slice, cells_nilmap, scalar_nilmap, cells_map, scalar_map, cells_nilfunc, scalar_nilfunc, cells_func, scalar_func, eqCells, eqLeaf, run_toL, toL_some, ev_toL, getD_toL, put_toL, keep_toL, asc, fput_same, fput_ne, fbase_nil, fbase_cons, fkeep_nil, fkeep_cons, fzero, fnone, List.map_cons, List.map_nil, ev_lit, put_none, resVals, resVal, resOf, partV, fillA, putCells, fillEls, strBin, minV, optNat, appendEls, elsOf, sliceSlV, sliceStrV, List.replicate, List.getElem?_append_left, List.getElem?_append_right, List.set_append_left, List.set_append_right, List.getElem?_set_self, List.getElem?_set_ne, hq_get0, hq_get, hq_get2, hq_get3, hp_get0, hp_get, hp_get2, hp_get3, hp_set0, hp_set, hp_set2, hp_set3, wr_0, wr_1, wr_2, wr_3, wr_4, wr_n1, e2_10, ex2, d1, d1', l0, e11]
  repeat (first | apply yld_endFn | apply yld_seqK | apply yld_blockK | apply yld_regK | apply yld_opsK | apply yld_putK | apply yld_stgK | apply yld_chkK)
  have hbk : els ≠ [] → h[slB v]? = some (.row 27 els false false) := by
    intro hL
    rcases hv with ⟨rfl, he⟩ | ⟨b, c, rfl, hc, hb⟩
    · exact absurd he hL
    · exact hb hL
  have hix : ∀ i : Nat, i < els.length → evalP (.indexAddr 27) [v, .int .i64 (i : Nat)] = some (.ptr (slB v) i 0) := by
    intro i hi
    rcases hv with ⟨rfl, rfl⟩ | ⟨b, c, rfl, hc, hb⟩
    · simp at hi
    · rw [pP_indexAddr]
      have h1 : (0 : Int) ≤ i := by omega
      have h2 : (i : Int) < (els.length : Nat) := by omega
      simp only [h1, h2, and_self, if_true, slB]
      simp
  refine yld_rounds (fun mm e kk => ∃ f j tg s q, e = toL 224 f ∧ mm = els.length - j ∧ j ≤ els.length ∧ f 0 = .int .i64 me ∧ f 1 = .int .i64 peer ∧ f 2 = v ∧ f 7 = .ptr (h.length + 1) 0 0 ∧ f 8 = .ptr (h.length + 2) 0 0 ∧ f 9 = .ptr (h.length + 3) 0 0 ∧ f 10 = .int .i64 (j : Nat) ∧
    St kk tg (fun c x => h[c]? = some x) (h.length + 1) h.length (h.length + 2) (h.length + 3) j s q) (els.length - 0) ?_ ?_
  · obtain ⟨tg, S⟩ := St.fresh h me peer
    exact ⟨_, 0, tg, _, _, rfl, rfl, Nat.zero_le _, rfl, rfl, rfl, rfl, rfl, rfl, rfl, S⟩
  · generalize hG : h.length + 1 = g
    generalize hRr : h.length + 2 = r
    generalize hBb : h.length + 3 = bk
    generalize hMm : h.length = m
    rintro J R hJ hR z e k ⟨f, i, tg, s, q, rfl, rfl, hi, f0, f1, f2, f7, f8, f9, f10, S⟩
    by_cases hil : i < els.length
    case neg =>
      have hili : decide ((i : Int) < (els.length : Nat)) = false := dec_false (by omega)
      obtain ⟨z1, n12⟩ := nil12 k
      obtain ⟨z2, n15⟩ := nil15 ⟨1, 0, 0, 0, ⟨0, [], [], [], 0⟩, ⟨0, [], false, [], 0⟩, 0, 0, 0, 0, 0⟩ (k ++ (z1 ++ [.row 25 [Pk.zero.av] true true]))
      obtain ⟨_, n17, k2, rfl, c2⟩ := same_pk (k ++ (z1 ++ ([.row 25 [Pk.zero.av] true true] ++ z2))) Pk.zero
      obtain ⟨tg1, S1⟩ := S.grow (z1 ++ ([.row 25 [Pk.zero.av] true true] ++ z2)) (hK' := fun c y => h[c]? = some y) (fun c y hy => .inl hy)
      obtain ⟨tg2, S2⟩ := S1.chg c2
      obtain ⟨nl, B⟩ := S2.bk
      obtain ⟨⟨v24, k24⟩, n24, hv24⟩ := B.apart
      simp only at hv24
      subst hv24
      have n19 := nil19 k2
      have n16 := nil16 k2
      have n13 := nil13 k2
      have n14 := nil14 k2
      simp only [List.append_assoc] at n15 n12
      simp only [Pk.av, Pk.zero, Lt.zero, Lt.av] at n12 n15 n17
      simp only [List.cons_append, List.nil_append] at n12 n15 n17
      simp [yld_some, exec_reg, exec_dreg, exec_seq, exec_cond, exec_block, exec_scope, exec_exit, exec_ret, exec_skip, exec_loop, ops_nil, ops_cons, ops_cons_gd, stages_nil, stages_cons_n, stages_cons_h, recheck, wantsOp, AV.same, sames, evalOp_p, evalOp_r, evalOp_a, evalOp_call, evalOp_callV, evalOp_store, evalOp_append, evalOp_clear, evalOp_mapUpdate, evalOp_delete, pP_move, pP_pick, pP_build, pP_nil_ptr, pP_nil_func, pP_bin, pP_eq, pP_neg, pP_inv, pP_not, pP_convInt, pP_convStr, pP_fieldAddr, pP_field, pP_indexAddr, pP_indexStr, pP_sliceStr, pP_sliceSl, pP_lenStr, pP_lenNil, pP_lenSl, pP_min, pP_max, pP_extract, pP_mkfn, bV_add, bV_sub, bV_mul, bV_quo, bV_rem, bV_and, bV_or, bV_xor, bV_andNot, bV_eql, bV_neq, bV_lss, bV_leq, bV_gtr, bV_geq, bV_shl, bV_shr, bV_str, eV_bool, eV_nn, eV_np, eV_pn, eV_snn, eV_sns, eV_ssn, eV_mnn, eV_mnm, eV_mmn, eV_fnn, eV_fnf, eV_ffn, eV_agg, rP_load, rP_lenNil, rP_str0, rdEl_K, rdK_row, aP_alloc, aP_box, aP_buildSlice, aP_makeSlice, aP_makeMap, aP_toBytes, hP_store, storeK_some, st_K, stK_row, stE_some, cells_agg, cells_bool, scalar_bool, cells_int, scalar_int, cells_str, scalar_str, cells_nilptr, scalar_nilptr, cells_ptr, scalar_ptr, cells_nilslice, scalar_nilslice, cells_slice, scalar_slice, cells_nilmap, scalar_nilmap, cells_map, scalar_map, cells_nilfunc, scalar_nilfunc, cells_func, scalar_func, eqCells, eqLeaf, run_toL, toL_some, ev_toL, getD_toL, put_toL, keep_toL, asc, fput_same, fput_ne, fbase_nil, fbase_cons, fkeep_nil, fkeep_cons, fzero, fnone, List.map_cons, List.map_nil, ev_lit, put_none, resVals, resVal, resOf, partV, fillA, putCells, fillEls, strBin, minV, optNat, appendEls, elsOf, sliceSlV, sliceStrV, List.replicate, List.getElem?_append_left, List.getElem?_append_right, List.set_append_left, List.set_append_right, List.getElem?_set_self, List.getElem?_set_ne, hq_get0, hq_get, hq_get2, hq_get3, hp_get0, hp_get, hp_get2, hp_get3, hp_set0, hp_set, hp_set2, hp_set3, wr_0, wr_1, wr_2, wr_3, wr_4, wr_n1, f0, f1, f2, f7, f8, f9, f10, l0, hil, hili]
      refine hR _ ?_
      simp [yld_some, exec_reg, exec_dreg, exec_seq, exec_cond, exec_block, exec_scope, exec_exit, exec_ret, exec_skip, exec_loop, ops_nil, ops_cons, ops_cons_gd, stages_nil, stages_cons_n, stages_cons_h, recheck, wantsOp, AV.same, sames, evalOp_p, evalOp_r, evalOp_a, evalOp_call, evalOp_callV, evalOp_store, evalOp_append, evalOp_clear, evalOp_mapUpdate, evalOp_delete, pP_move, pP_pick, pP_build, pP_nil_ptr, pP_nil_func, pP_bin, pP_eq, pP_neg, pP_inv, pP_not, pP_convInt, pP_convStr, pP_fieldAddr, pP_field, pP_indexAddr, pP_indexStr, pP_sliceStr, pP_sliceSl, pP_lenStr, pP_lenNil, pP_lenSl, pP_min, pP_max, pP_extract, pP_mkfn, bV_add, bV_sub, bV_mul, bV_quo, bV_rem, bV_and, bV_or, bV_xor, bV_andNot, bV_eql, bV_neq, bV_lss, bV_leq, bV_gtr, bV_geq, bV_shl, bV_shr, bV_str, eV_bool, eV_nn, eV_np, eV_pn, eV_snn, eV_sns, eV_ssn, eV_mnn, eV_mnm, eV_mmn, eV_fnn, eV_fnf, eV_ffn, eV_agg, rP_load, rP_lenNil, rP_str0, rdEl_K, rdK_row, aP_alloc, aP_box, aP_buildSlice, aP_makeSlice, aP_makeMap, aP_toBytes, hP_store, storeK_some, st_K, stK_row, stE_some, cells_agg, cells_bool, scalar_bool, cells_int, scalar_int, cells_str, scalar_str, cells_nilptr, scalar_nilptr, cells_ptr, scalar_ptr, cells_nilslice, scalar_nilslice, cells_slice, scalar_slice, cells_nilmap, scalar_nilmap, cells_map, scalar_map, cells_nilfunc, scalar_nilfunc, cells_func, scalar_func, eqCells, eqLeaf, run_toL, toL_some, ev_toL, getD_toL, put_toL, keep_toL, asc, fput_same, fput_ne, fbase_nil, fbase_cons, fkeep_nil, fkeep_cons, fzero, fnone, List.map_cons, List.map_nil, ev_lit, put_none, resVals, resVal, resOf, partV, fillA, putCells, fillEls, strBin, minV, optNat, appendEls, elsOf, sliceSlV, sliceStrV, List.replicate, List.getElem?_append_left, List.getElem?_append_right, List.set_append_left, List.set_append_right, List.getElem?_set_self, List.getElem?_set_ne, hq_get0, hq_get, hq_get2, hq_get3, hp_get0, hp_get, hp_get2, hp_get3, hp_set0, hp_set, hp_set2, hp_set3, wr_0, wr_1, wr_2, wr_3, wr_4, wr_n1, n12, n15, n17, n19, n16, n13, n14, n24, hQ']
    have hL : els ≠ [] := by rintro rfl; simp at hil
    have hk0 := (S.keep _ _ (hbk hL)).1
    have x0 := hix i hil
    have hw : IntKind.i64.wrap ((i : Int) + 1) = ((i + 1 : Nat) : Int) := wrap_i64 (by omega) (by omega)
    have hili : decide ((i : Int) < (els.length : Nat)) = true := dec_true (by omega)
    obtain ⟨O, W1, W2, hin⟩ := hels els[i] (List.getElem_mem hil)
    have hex := hin.eq
    have hel : els[i]? = some (opv O) := by rw [List.getElem?_eq_getElem hil, hex]
    simp only [opv] at hex hel
    have fin : ∀ (f' : Nat → AV) (k' : H) (tg' : Nat → Nat) (s' : Ls) (q' : Rs), f' 0 = .int .i64 me → f' 1 = .int .i64 peer → f' 2 = v → f' 7 = .ptr g 0 0 → f' 8 = .ptr r 0 0 → f' 9 = .ptr bk 0 0 → f' 10 = .int .i64 ((i + 1 : Nat) : Int) →
        St k' tg' (fun c x => h[c]? = some x) g m r bk (i + 1) s' q' → ∃ m, m < els.length - i ∧ J m (toL 224 f') k' :=
      fun f' k' tg' s' q' q0 q1 q2 q3 q4 q5 q6 q7 => ⟨els.length - (i + 1), by omega, hJ _ _ _ ⟨f', i + 1, tg', s', q', rfl, rfl, by omega, q0, q1, q2, q3, q4, q5, q6, q7⟩⟩
    by_cases q1 : O.kd = 1
    · have m1 : (O.kd == 1) = true := beq_true q1
      obtain ⟨x, hx⟩ : ∃ x : Lt, x = ⟨1, 0, 0, O.n, ⟨0, [], [], [], 0⟩, ⟨0, [], false, [], 0⟩, 0, 0, 0, 0, 0⟩ := ⟨_, rfl⟩
      obtain ⟨tg1, S1⟩ := S.grow [.row 27 [opv O] true true, .row 21 [x.av] true true] (hK' := fun c y => h[c]? = some y ∨ (c = k.length + 1 ∧ y = .row 21 [x.av] true true)) (fun c y hy => hy.imp id (fun ⟨h1, h2⟩ => by subst h1 h2; simp))
      obtain ⟨P, k1, k2, k3, tg3, s', q', e15, e18, e17, hk1, S3⟩ := S1.send (by omega) x
      have hx1 := hk1 _ _ (.inr ⟨rfl, rfl⟩)
      obtain ⟨w, c, u, z, b, ov, kv, t16, t13, t14, row, lo, lk, wu, zb, co, ck⟩ := S3.tail (by omega)
      subst hx
      simp only [Lt.av, opv] at e15 e18 hx1
      unfold Pk.av at e15 e18 e17
      simp [yld_some, exec_reg, exec_dreg, exec_seq, exec_cond, exec_block, exec_scope, exec_exit, exec_ret, exec_skip, exec_loop, ops_nil, ops_cons, ops_cons_gd, stages_nil, stages_cons_n, stages_cons_h, recheck, wantsOp, AV.same, sames, evalOp_p, evalOp_r, evalOp_a, evalOp_call, evalOp_callV, evalOp_store, evalOp_append, evalOp_clear, evalOp_mapUpdate, evalOp_delete, pP_move, pP_pick, pP_build, pP_nil_ptr, pP_nil_func, pP_bin, pP_eq, pP_neg, pP_inv, pP_not, pP_convInt, pP_convStr, pP_fieldAddr, pP_field, pP_indexAddr, pP_indexStr, pP_sliceStr, pP_sliceSl, pP_lenStr, pP_lenNil, pP_lenSl, pP_min, pP_max, pP_extract, pP_mkfn, bV_add, bV_sub, bV_mul, bV_quo, bV_rem, bV_and, bV_or, bV_xor, bV_andNot, bV_eql, bV_neq, bV_lss, bV_leq, bV_gtr, bV_geq, bV_shl, bV_shr, bV_str, eV_bool, eV_nn, eV_np, eV_pn, eV_snn, eV_sns, eV_ssn, eV_mnn, eV_mnm, eV_mmn, eV_fnn, eV_fnf, eV_ffn, eV_agg, rP_load, rP_lenNil, rP_str0, rdEl_K, rdK_row, aP_alloc, aP_box, aP_buildSlice, aP_makeSlice, aP_makeMap, aP_toBytes, hP_store, storeK_some, st_K, stK_row, stE_some, cells_agg, cells_bool, scalar_bool, cells_int, scalar_int, cells_str, scalar_str, cells_nilptr, scalar_nilptr, cells_ptr, scalar_ptr, cells_nilslice, scalar_nilslice, cells_slice, scalar_slice, cells_nilmap, scalar_nilmap, cells_map, scalar_map, cells_nilfunc, scalar_nilfunc, cells_func, scalar_func, eqCells, eqLeaf, run_toL, toL_some, ev_toL, getD_toL, put_toL, keep_toL, asc, fput_same, fput_ne, fbase_nil, fbase_cons, fkeep_nil, fkeep_cons, fzero, fnone, List.map_cons, List.map_nil, ev_lit, put_none, resVals, resVal, resOf, partV, fillA, putCells, fillEls, strBin, minV, optNat, appendEls, elsOf, sliceSlV, sliceStrV, List.replicate, List.getElem?_append_left, List.getElem?_append_right, List.set_append_left, List.set_append_right, List.getElem?_set_self, List.getElem?_set_ne, hq_get0, hq_get, hq_get2, hq_get3, hp_get0, hp_get, hp_get2, hp_get3, hp_set0, hp_set, hp_set2, hp_set3, wr_0, wr_1, wr_2, wr_3, wr_4, wr_n1, f0, f1, f2, f7, f8, f9, f10, l0, x0, hw, hil, hili, hk0, get_app hk0, set_app hk0, get_set_same hk0, get_set_app hk0, set_set_app hk0, len_beq hk0, beq_len hk0, hel, hex, m1, sv_cells, sv_scalar, sv_same, e15, e18, e17, hx1, get_app hx1, set_app hx1, get_set_same hx1, get_set_app hx1, set_set_app hx1, len_beq hx1, beq_len hx1, t16, t13, t14, row, get_app row, set_app row, get_set_same row, get_set_app row, set_set_app row, len_beq row, beq_len row, lo, lk, wu, zb, co.1, co.2.1, co.2.2, ck.1, ck.2.1, ck.2.2]
      exact fin _ _ _ _ _ rfl rfl rfl rfl rfl rfl rfl (S3.less (fun c x hx => .inl hx))
    have m1 : (O.kd == 1) = false := beq_false q1
    by_cases q3 : O.kd = 3
    · have m3 : (O.kd == 3) = true := beq_true q3
      obtain ⟨tg1, S1⟩ := S.grow [.row 27 [opv O] true true] (hK' := fun c y => h[c]? = some y) (fun c y hy => .inl hy)
      obtain ⟨x, y, k1, k2, tg2, s', q', L, e19, e20, rx, ry, lL, hk1, S2⟩ := S1.tick (by omega)
      have lx := rx.len
      have ly := ry.len
      have cx := rx.cells
      have cy := ry.cells
      simp only [opv] at e19 e20
      simp [yld_some, exec_reg, exec_dreg, exec_seq, exec_cond, exec_block, exec_scope, exec_exit, exec_ret, exec_skip, exec_loop, ops_nil, ops_cons, ops_cons_gd, stages_nil, stages_cons_n, stages_cons_h, recheck, wantsOp, AV.same, sames, evalOp_p, evalOp_r, evalOp_a, evalOp_call, evalOp_callV, evalOp_store, evalOp_append, evalOp_clear, evalOp_mapUpdate, evalOp_delete, pP_move, pP_pick, pP_build, pP_nil_ptr, pP_nil_func, pP_bin, pP_eq, pP_neg, pP_inv, pP_not, pP_convInt, pP_convStr, pP_fieldAddr, pP_field, pP_indexAddr, pP_indexStr, pP_sliceStr, pP_sliceSl, pP_lenStr, pP_lenNil, pP_lenSl, pP_min, pP_max, pP_extract, pP_mkfn, bV_add, bV_sub, bV_mul, bV_quo, bV_rem, bV_and, bV_or, bV_xor, bV_andNot, bV_eql, bV_neq, bV_lss, bV_leq, bV_gtr, bV_geq, bV_shl, bV_shr, bV_str, eV_bool, eV_nn, eV_np, eV_pn, eV_snn, eV_sns, eV_ssn, eV_mnn, eV_mnm, eV_mmn, eV_fnn, eV_fnf, eV_ffn, eV_agg, rP_load, rP_lenNil, rP_str0, rdEl_K, rdK_row, aP_alloc, aP_box, aP_buildSlice, aP_makeSlice, aP_makeMap, aP_toBytes, hP_store, storeK_some, st_K, stK_row, stE_some, cells_agg, cells_bool, scalar_bool, cells_int, scalar_int, cells_str, scalar_str, cells_nilptr, scalar_nilptr, cells_ptr, scalar_ptr, cells_nilslice, scalar_nilslice, cells_slice, scalar_slice, cells_nilmap, scalar_nilmap, cells_map, scalar_map, cells_nilfunc, scalar_nilfunc, cells_func, scalar_func, eqCells, eqLeaf, run_toL, toL_some, ev_toL, getD_toL, put_toL, keep_toL, asc, fput_same, fput_ne, fbase_nil, fbase_cons, fkeep_nil, fkeep_cons, fzero, fnone, List.map_cons, List.map_nil, ev_lit, put_none, resVals, resVal, resOf, partV, fillA, putCells, fillEls, strBin, minV, optNat, appendEls, elsOf, sliceSlV, sliceStrV, List.replicate, List.getElem?_append_left, List.getElem?_append_right, List.set_append_left, List.set_append_right, List.getElem?_set_self, List.getElem?_set_ne, hq_get0, hq_get, hq_get2, hq_get3, hp_get0, hp_get, hp_get2, hp_get3, hp_set0, hp_set, hp_set2, hp_set3, wr_0, wr_1, wr_2, wr_3, wr_4, wr_n1, f0, f1, f2, f7, f8, f9, f10, l0, x0, hw, hil, hili, hk0, get_app hk0, set_app hk0, get_set_same hk0, get_set_app hk0, set_set_app hk0, len_beq hk0, beq_len hk0, hel, hex, m1, m3, sv_cells, sv_scalar, sv_same, e19, e20, lx, ly, cx.1, cx.2.1, cx.2.2, cy.1, cy.2.1, cy.2.2]
      repeat (first | apply yld_endFn | apply yld_seqK | apply yld_blockK | apply yld_regK | apply yld_opsK | apply yld_putK | apply yld_stgK | apply yld_chkK)
      refine pk_loop (by simp [sf6, loopsAll]) rx ry lL rfl rfl rfl ?_
      intro f' k3 g0 g1 g2 g7 g8 g9 g10 ch
      simp [fput] at g0 g1 g2 g7 g8 g9 g10
      obtain ⟨tg3, S3⟩ := S2.chg ch
      obtain ⟨w, c, u, z, b, ov, kv, t16, t13, t14, row, lo, lk, wu, zb, co, ck⟩ := S3.tail (by omega)
      simp [yld_some, exec_reg, exec_dreg, exec_seq, exec_cond, exec_block, exec_scope, exec_exit, exec_ret, exec_skip, exec_loop, ops_nil, ops_cons, ops_cons_gd, stages_nil, stages_cons_n, stages_cons_h, recheck, wantsOp, AV.same, sames, evalOp_p, evalOp_r, evalOp_a, evalOp_call, evalOp_callV, evalOp_store, evalOp_append, evalOp_clear, evalOp_mapUpdate, evalOp_delete, pP_move, pP_pick, pP_build, pP_nil_ptr, pP_nil_func, pP_bin, pP_eq, pP_neg, pP_inv, pP_not, pP_convInt, pP_convStr, pP_fieldAddr, pP_field, pP_indexAddr, pP_indexStr, pP_sliceStr, pP_sliceSl, pP_lenStr, pP_lenNil, pP_lenSl, pP_min, pP_max, pP_extract, pP_mkfn, bV_add, bV_sub, bV_mul, bV_quo, bV_rem, bV_and, bV_or, bV_xor, bV_andNot, bV_eql, bV_neq, bV_lss, bV_leq, bV_gtr, bV_geq, bV_shl, bV_shr, bV_str, eV_bool, eV_nn, eV_np, eV_pn, eV_snn, eV_sns, eV_ssn, eV_mnn, eV_mnm, eV_mmn, eV_fnn, eV_fnf, eV_ffn, eV_agg, rP_load, rP_lenNil, rP_str0, rdEl_K, rdK_row, aP_alloc, aP_box, aP_buildSlice, aP_makeSlice, aP_makeMap, aP_toBytes, hP_store, storeK_some, st_K, stK_row, stE_some, cells_agg, cells_bool, scalar_bool, cells_int, scalar_int, cells_str, scalar_str, cells_nilptr, scalar_nilptr, cells_ptr, scalar_ptr, cells_nilslice, scalar_nilslice, cells_slice, scalar_slice, cells_nilmap, scalar_nilmap, cells_map, scalar_map, cells_nilfunc, scalar_nilfunc, cells_func, scalar_func, eqCells, eqLeaf, run_toL, toL_some, ev_toL, getD_toL, put_toL, keep_toL, asc, fput_same, fput_ne, fbase_nil, fbase_cons, fkeep_nil, fkeep_cons, fzero, fnone, List.map_cons, List.map_nil, ev_lit, put_none, resVals, resVal, resOf, partV, fillA, putCells, fillEls, strBin, minV, optNat, appendEls, elsOf, sliceSlV, sliceStrV, List.replicate, List.getElem?_append_left, List.getElem?_append_right, List.set_append_left, List.set_append_right, List.getElem?_set_self, List.getElem?_set_ne, hq_get0, hq_get, hq_get2, hq_get3, hp_get0, hp_get, hp_get2, hp_get3, hp_set0, hp_set, hp_set2, hp_set3, wr_0, wr_1, wr_2, wr_3, wr_4, wr_n1, g0, g1, g2, g7, g8, g9, g10, f0, f1, f2, f7, f8, f9, f10, hw, t16, t13, t14, row, get_app row, set_app row, get_set_same row, get_set_app row, set_set_app row, len_beq row, beq_len row, lo, lk, wu, zb, co.1, co.2.1, co.2.2, ck.1, ck.2.1, ck.2.2]
      exact fin _ _ _ _ _ (by simp [fput, g0, f0]) (by simp [fput, g1, f1]) (by simp [fput, g2, f2]) (by simp [fput, g7, f7]) (by simp [fput, g8, f8]) (by simp [fput, g9, f9]) (by simp [fput]) S3
    have m3 : (O.kd == 3) = false := beq_false q3
    obtain ⟨rw1, rf1⟩ := slOf_in hin.w1 S.keep
    obtain ⟨rw2, rf2⟩ := slOf_in hin.w2 S.keep
    by_cases q4 : O.kd = 4
    · have m4 : (O.kd == 4) = true := beq_true q4
      obtain ⟨_, _, _, _, _, _, _, _, _, _, row0, _⟩ := S.tail (by omega)
      obtain ⟨y1, hy1, by1⟩ := and_small O.p.seq 127 (by omega)
      obtain ⟨y2, hy2, by2⟩ := and_small O.p.ack 15 (by omega)
      have hy1 : bitsV .and .i64 O.p.seq 127 = some (y1 : Int) := hy1
      have hy2 : bitsV .and .i64 O.p.ack 15 = some (y2 : Int) := hy2
      obtain ⟨ak, hak⟩ : ∃ ak : Int, ∀ (inst : Decidable (q.sent < (y2 : Int))), @ite Int (q.sent < (y2 : Int)) inst q.sent y2 = ak := ⟨if q.sent < (y2 : Int) then q.sent else y2, fun _ => by congr⟩
      obtain ⟨p, hp⟩ : ∃ p : Pv, p = ⟨peer, me, y1, ak, ⟨⟨2, 0, 0, O.n, ⟨0, [], [], [], 0⟩, ⟨0, [], false, [], 0⟩, 0, 0, 0, 0, 0⟩, .nil, .nil⟩⟩ := ⟨_, rfl⟩
      obtain ⟨tg1, S1⟩ := S.grow [.row 27 [opv O] true true, .row 25 [p.av] true true] (hK' := fun c y => h[c]? = some y ∨ (c = k.length + 1 ∧ y = .row 25 [p.av] true true)) (fun c y hy => hy.imp id (fun ⟨h1, h2⟩ => by subst h1 h2; simp))
      have hn : ∀ k : H, RdS k 2 Sv.nil.av (its []) := fun k => .inl ⟨rfl, rfl⟩
      obtain ⟨vo, yo, A, b1, k1, k2, k3, k4, k5, tg5, s', q', e12, e21, e22, e23, e17, hk1, a2, a4, a4', l12, S5⟩ := S1.got (by omega) p (by rw [hp]; simp only; omega) (X1 := []) (X2 := []) (by rw [hp]; exact hn _) (by rw [hp]; exact hn _) (by simp) (by simp) (by rw [hp]; simp [Sv.av, foot0]) (by rw [hp]; simp [Sv.av, foot0])
      have hx1 := hk1 _ _ (.inr ⟨rfl, rfl⟩)
      obtain ⟨w, c, u, z, b, ov, kv, t16, t13, t14, row, lo, lk, wu, zb, co, ck⟩ := S5.tail (by omega)
      subst hp
      have svn : Sv.nil.av = .nilslice := rfl
      simp only [Pv.av, svn, opv] at e12 e21 hx1
      unfold Pk.av at e12 e21 e22 e17 a2 a4 a4'
      simp [yld_some, exec_reg, exec_dreg, exec_seq, exec_cond, exec_block, exec_scope, exec_exit, exec_ret, exec_skip, exec_loop, ops_nil, ops_cons, ops_cons_gd, stages_nil, stages_cons_n, stages_cons_h, recheck, wantsOp, AV.same, sames, evalOp_p, evalOp_r, evalOp_a, evalOp_call, evalOp_callV, evalOp_store, evalOp_append, evalOp_clear, evalOp_mapUpdate, evalOp_delete, pP_move, pP_pick, pP_build, pP_nil_ptr, pP_nil_func, pP_bin, pP_eq, pP_neg, pP_inv, pP_not, pP_convInt, pP_convStr, pP_fieldAddr, pP_field, pP_indexAddr, pP_indexStr, pP_sliceStr, pP_sliceSl, pP_lenStr, pP_lenNil, pP_lenSl, pP_min, pP_max, pP_extract, pP_mkfn, bV_add, bV_sub, bV_mul, bV_quo, bV_rem, bV_and, bV_or, bV_xor, bV_andNot, bV_eql, bV_neq, bV_lss, bV_leq, bV_gtr, bV_geq, bV_shl, bV_shr, bV_str, eV_bool, eV_nn, eV_np, eV_pn, eV_snn, eV_sns, eV_ssn, eV_mnn, eV_mnm, eV_mmn, eV_fnn, eV_fnf, eV_ffn, eV_agg, rP_load, rP_lenNil, rP_str0, rdEl_K, rdK_row, aP_alloc, aP_box, aP_buildSlice, aP_makeSlice, aP_makeMap, aP_toBytes, hP_store, storeK_some, st_K, stK_row, stE_some, cells_agg, cells_bool, scalar_bool, cells_int, scalar_int, cells_str, scalar_str, cells_nilptr, scalar_nilptr, cells_ptr, scalar_ptr, cells_nilslice, scalar_nilslice, cells_slice, scalar_slice, cells_nilmap, scalar_nilmap, cells_map, scalar_map, cells_nilfunc, scalar_nilfunc, cells_func, scalar_func, eqCells, eqLeaf, run_toL, toL_some, ev_toL, getD_toL, put_toL, keep_toL, asc, fput_same, fput_ne, fbase_nil, fbase_cons, fkeep_nil, fkeep_cons, fzero, fnone, List.map_cons, List.map_nil, ev_lit, put_none, resVals, resVal, resOf, partV, fillA, putCells, fillEls, strBin, minV, optNat, appendEls, elsOf, sliceSlV, sliceStrV, List.replicate, List.getElem?_append_left, List.getElem?_append_right, List.set_append_left, List.set_append_right, List.getElem?_set_self, List.getElem?_set_ne, hq_get0, hq_get, hq_get2, hq_get3, hp_get0, hp_get, hp_get2, hp_get3, hp_set0, hp_set, hp_set2, hp_set3, wr_0, wr_1, wr_2, wr_3, wr_4, wr_n1, f0, f1, f2, f7, f8, f9, f10, l0, x0, hw, hil, hili, hk0, get_app hk0, set_app hk0, get_set_same hk0, get_set_app hk0, set_set_app hk0, len_beq hk0, beq_len hk0, row0, get_app row0, set_app row0, get_set_same row0, get_set_app row0, set_set_app row0, len_beq row0, beq_len row0, hel, hex, m1, m3, m4, sv_cells, sv_scalar, sv_same, hy1, hy2, hak, e12, e21, e22, e23, e17, hx1, get_app hx1, set_app hx1, get_set_same hx1, get_set_app hx1, set_set_app hx1, len_beq hx1, beq_len hx1, a2, get_app a2, set_app a2, get_set_same a2, get_set_app a2, set_set_app a2, len_beq a2, beq_len a2, a4, get_app a4, set_app a4, get_set_same a4, get_set_app a4, set_set_app a4, len_beq a4, beq_len a4, a4', get_app a4', set_app a4', get_set_same a4', get_set_app a4', set_set_app a4', len_beq a4', beq_len a4', t16, t13, t14, row, get_app row, set_app row, get_set_same row, get_set_app row, set_set_app row, len_beq row, beq_len row, lo, lk, wu, zb, co.1, co.2.1, co.2.2, ck.1, ck.2.1, ck.2.2]
      exact fin _ _ _ _ _ rfl rfl rfl rfl rfl rfl rfl (S5.less (fun c x hx => .inl hx))
    have m4 : (O.kd == 4) = false := beq_false q4
    obtain ⟨p, hp⟩ : ∃ p : Pv, p = O.p := ⟨_, rfl⟩
    obtain ⟨tg1, S1⟩ := S.grow [.row 27 [opv O] true true, .row 25 [p.av] true true] (hK' := fun c y => h[c]? = some y ∨ (c = k.length + 1 ∧ y = .row 25 [p.av] true true)) (fun c y hy => hy.imp id (fun ⟨h1, h2⟩ => by subst h1 h2; simp))
    obtain ⟨u1, v1⟩ := slOf_in (k := k ++ [.row 27 [opv O] true true, .row 25 [p.av] true true]) (tg := tg1) hin.w1 (fun c x hx => S1.keep c x (.inl hx))
    obtain ⟨u2, v2⟩ := slOf_in (k := k ++ [.row 27 [opv O] true true, .row 25 [p.av] true true]) (tg := tg1) hin.w2 (fun c x hx => S1.keep c x (.inl hx))
    obtain ⟨vo, yo, A, b1, k1, k2, k3, k4, k5, tg5, s', q', e12, e21, e22, e23, e17, hk1, a2, a4, a4', l12, S5⟩ := S1.got (by omega) p (by rw [hp]; exact hin.seq) (X1 := W1) (X2 := W2) (by rw [hp] at u1 ⊢; exact u1) (by rw [hp] at u2 ⊢; exact u2) hin.l1 hin.l2 (by rw [hp]; exact v1) (by rw [hp]; exact v2)
    have hx1 := hk1 _ _ (.inr ⟨rfl, rfl⟩)
    obtain ⟨w, c, u, z, b, ov, kv, t16, t13, t14, row, lo, lk, wu, zb, co, ck⟩ := S5.tail (by omega)
    subst hp
    simp only [Pv.av, opv] at e12 e21 hx1
    unfold Pk.av at e12 e21 e22 e17 a2 a4 a4'
    simp [yld_some, exec_reg, exec_dreg, exec_seq, exec_cond, exec_block, exec_scope, exec_exit, exec_ret, exec_skip, exec_loop, ops_nil, ops_cons, ops_cons_gd, stages_nil, stages_cons_n, stages_cons_h, recheck, wantsOp, AV.same, sames, evalOp_p, evalOp_r, evalOp_a, evalOp_call, evalOp_callV, evalOp_store, evalOp_append, evalOp_clear, evalOp_mapUpdate, evalOp_delete, pP_move, pP_pick, pP_build, pP_nil_ptr, pP_nil_func, pP_bin, pP_eq, pP_neg, pP_inv, pP_not, pP_convInt, pP_convStr, pP_fieldAddr, pP_field, pP_indexAddr, pP_indexStr, pP_sliceStr, pP_sliceSl, pP_lenStr, pP_lenNil, pP_lenSl, pP_min, pP_max, pP_extract, pP_mkfn, bV_add, bV_sub, bV_mul, bV_quo, bV_rem, bV_and, bV_or, bV_xor, bV_andNot, bV_eql, bV_neq, bV_lss, bV_leq, bV_gtr, bV_geq, bV_shl, bV_shr, bV_str, eV_bool, eV_nn, eV_np, eV_pn, eV_snn, eV_sns, eV_ssn, eV_mnn, eV_mnm, eV_mmn, eV_fnn, eV_fnf, eV_ffn, eV_agg, rP_load, rP_lenNil, rP_str0, rdEl_K, rdK_row, aP_alloc, aP_box, aP_buildSlice, aP_makeSlice, aP_makeMap, aP_toBytes, hP_store, storeK_some, st_K, stK_row, stE_some, cells_agg, cells_bool, scalar_bool, cells_int, scalar_int, cells_str, scalar_str, cells_nilptr, scalar_nilptr, cells_ptr, scalar_ptr, cells_nilslice, scalar_nilslice, cells_slice, scalar_slice, cells_nilmap, scalar_nilmap, cells_map, scalar_map, cells_nilfunc, scalar_nilfunc, cells_func, scalar_func, eqCells, eqLeaf, run_toL, toL_some, ev_toL, getD_toL, put_toL, keep_toL, asc, fput_same, fput_ne, fbase_nil, fbase_cons, fkeep_nil, fkeep_cons, fzero, fnone, List.map_cons, List.map_nil, ev_lit, put_none, resVals, resVal, resOf, partV, fillA, putCells, fillEls, strBin, minV, optNat, appendEls, elsOf, sliceSlV, sliceStrV, List.replicate, List.getElem?_append_left, List.getElem?_append_right, List.set_append_left, List.set_append_right, List.getElem?_set_self, List.getElem?_set_ne, hq_get0, hq_get, hq_get2, hq_get3, hp_get0, hp_get, hp_get2, hp_get3, hp_set0, hp_set, hp_set2, hp_set3, wr_0, wr_1, wr_2, wr_3, wr_4, wr_n1, f0, f1, f2, f7, f8, f9, f10, l0, x0, hw, hil, hili, hk0, get_app hk0, set_app hk0, get_set_same hk0, get_set_app hk0, set_set_app hk0, len_beq hk0, beq_len hk0, hel, hex, m1, m3, m4, sv_cells, sv_scalar, sv_same, e12, e21, e22, e23, e17, hx1, get_app hx1, set_app hx1, get_set_same hx1, get_set_app hx1, set_set_app hx1, len_beq hx1, beq_len hx1, a2, get_app a2, set_app a2, get_set_same a2, get_set_app a2, set_set_app a2, len_beq a2, beq_len a2, a4, get_app a4, set_app a4, get_set_same a4, get_set_app a4, set_set_app a4, len_beq a4, beq_len a4, a4', get_app a4', set_app a4', get_set_same a4', get_set_app a4', set_set_app a4', len_beq a4', beq_len a4', t16, t13, t14, row, get_app row, set_app row, get_set_same row, get_set_app row, set_set_app row, len_beq row, beq_len row, lo, lk, wu, zb, co.1, co.2.1, co.2.2, ck.1, ck.2.1, ck.2.2]
    exact fin _ _ _ _ _ rfl rfl rfl rfl rfl rfl rfl (S5.less (fun c x hx => .inl hx))
theorem its_of {h : H} : ∀ (L : List (List AV)), (∀ e ∈ L, ∃ p q, e = [AV.str p, AV.str q]) → ∃ W : List It, L = its W
  | [], _ => ⟨[], rfl⟩
  | x :: l, hh => by
    obtain ⟨W, h1⟩ := its_of (h := h) l fun y hy => hh y (by simp [hy])
    obtain ⟨p, q, rfl⟩ := hh x (by simp)
    exact ⟨(p, q) :: W, by rw [h1]; rfl⟩
abbrev askSh : Sh := .st [.int .i64, .str, .str, .str, .int .i64]
abbrev itSh : Sh := .sl 32 (.st [.str, .str])
abbrev toldSh : Sh := .st [.int .i64, .str, itSh, .bool, .str, .int .i64]
abbrev ltrSh : Sh := .st [.int .i64, .int .i64, .int .i64, .int .i64, askSh, toldSh, .st [.int .u64, .int .u64], .int .i64, itSh, .int .i64, .int .i64]
theorem has_ask {h : H} {x : List AV} (hx : Has h askSh x) : ∃ a : As, x = [.int .i64 a.op, .str a.key, .str a.value, .str a.to, .int .i64 a.most] := by
  simp only [askSh, Has, HasF] at hx
  obtain ⟨_, _, rfl, ⟨op, rfl, _⟩, _, _, rfl, ⟨key, rfl, _⟩, _, _, rfl, ⟨value, rfl, _⟩, _, _, rfl, ⟨to, rfl, _⟩, _, _, rfl, ⟨most, rfl, _⟩, rfl⟩ := hx
  exact ⟨⟨op, key, value, to, most⟩, rfl⟩
theorem has_its {h : H} {x : List AV} (hx : Has h itSh x) : ∃ (v : Sv) (W : List It), x = [v.av] ∧ SlOf h 2 v.av (its W) ∧ W.length * 48 ≤ 281474976710656 := by
  simp only [itSh, Has] at hx
  obtain ⟨v, els, rfl, hs, hb, _, he⟩ := hx
  obtain ⟨W, hW⟩ := its_of (h := h) els (fun e hm => by
    have := he e hm
    simp only [HasF, Has] at this
    obtain ⟨_, _, rfl, ⟨p, rfl, _⟩, _, _, rfl, ⟨q, rfl, _⟩, rfl⟩ := this
    exact ⟨p, q, rfl⟩)
  subst hW
  rw [its_len] at hb
  rcases hs with ⟨rfl, h1⟩ | ⟨b, c, rfl, h1, h2⟩
  · exact ⟨.nil, W, rfl, .inl ⟨rfl, h1⟩, by omega⟩
  · exact ⟨.sl b (its W).length c true, W, rfl, .inr ⟨b, c, rfl, h1, h2⟩, by omega⟩
theorem has_told {h : H} {x : List AV} (hx : Has h toldSh x) : ∃ (t : Te) (v : Sv) (W : List It), x = [.int .i64 t.errno, .str t.value, v.av, .bool t.more, .str t.next, .int .i64 t.node] ∧ SlOf h 2 v.av (its W) ∧ W.length * 48 ≤ 281474976710656 := by
  rw [toldSh, Has] at hx
  simp only [HasF] at hx
  obtain ⟨_, _, rfl, h1, _, _, rfl, h2, _, _, rfl, h3, _, _, rfl, h4, _, _, rfl, h5, _, _, rfl, h6, rfl⟩ := hx
  obtain ⟨v, W, rfl, hs⟩ := has_its h3
  simp only [Has] at h1 h2 h4 h5 h6
  obtain ⟨e, rfl, _⟩ := h1
  obtain ⟨tv, rfl, _⟩ := h2
  obtain ⟨m, rfl⟩ := h4
  obtain ⟨nxt, rfl, _⟩ := h5
  obtain ⟨n, rfl, _⟩ := h6
  exact ⟨⟨e, tv, m, nxt, n⟩, v, W, rfl, hs⟩
theorem has_op {h : H} {x : List AV} (hx : Has h (.st [.int .i64, .int .i64, .st [.int .i64, .int .i64, .int .i64, .int .i64, ltrSh]]) x) : ∃ O W1 W2, OpIn h x O W1 W2 := by
  rw [Has] at hx
  simp only [HasF] at hx
  obtain ⟨_, _, rfl, h1, _, _, rfl, h2, _, _, rfl, h3, rfl⟩ := hx
  rw [Has] at h3
  simp only [HasF] at h3
  obtain ⟨_, _, rfl, i1, _, _, rfl, i2, _, _, rfl, i3, _, _, rfl, i4, _, _, rfl, i5, rfl⟩ := h3
  rw [ltrSh, Has] at i5
  simp only [HasF] at i5
  obtain ⟨_, _, rfl, j1, _, _, rfl, j2, _, _, rfl, j3, _, _, rfl, j4, _, _, rfl, j5, _, _, rfl, j6, _, _, rfl, j7, _, _, rfl, j8, _, _, rfl, j9, _, _, rfl, j10, _, _, rfl, j11, rfl⟩ := i5
  obtain ⟨a, rfl⟩ := has_ask j5
  obtain ⟨t, v, W, rfl, hs, hb⟩ := has_told j6
  obtain ⟨v2, W2, rfl, hs2, hb2⟩ := has_its j9
  simp only [Has, HasF] at h1 h2 i1 i2 i3 i4 j1 j2 j3 j4 j7 j8 j10 j11
  obtain ⟨d1, rfl, _⟩ := h1
  obtain ⟨d2, rfl, _⟩ := h2
  obtain ⟨p1, rfl, _⟩ := i1
  obtain ⟨p2, rfl, _⟩ := i2
  obtain ⟨p3, rfl, w3⟩ := i3
  obtain ⟨p4, rfl, _⟩ := i4
  obtain ⟨c1, rfl, _⟩ := j1
  obtain ⟨c2, rfl, _⟩ := j2
  obtain ⟨c3, rfl, _⟩ := j3
  obtain ⟨c4, rfl, _⟩ := j4
  obtain ⟨_, _, rfl, ⟨c7, rfl, _⟩, _, _, rfl, ⟨c8, rfl, _⟩, rfl⟩ := j7
  obtain ⟨c9, rfl, _⟩ := j8
  obtain ⟨c10, rfl, _⟩ := j10
  obtain ⟨c11, rfl, _⟩ := j11
  exact ⟨⟨d1, d2, ⟨p1, p2, p3, p4, ⟨⟨c1, c2, c3, c4, a, t, c7, c8, c9, c10, c11⟩, v, v2⟩⟩⟩, W, W2, ⟨rfl, hs, hs2, hb, hb2, (wf_i64 w3).2⟩⟩
end Go.Proofs.Ytmbkklobijflkaa.Lp
namespace Go.Proofs.Ytmbkklobijflkaa.Pure
open Go Go.Eng
theorem LinkPlays : LawOk Try.prog 6 F.ss6 := by
  refine ⟨Lp.fs3, Lp.ex3, Lp.fs3_ok, Lp.ex3_ok, fun vs h _ hv => ?_⟩
  unfold F.ss6 at hv
  simp only [HasVs, HasV] at hv
  obtain ⟨a, vs1, rfl, h1, b, vs2, rfl, h2, c, vs3, rfl, h3, rfl⟩ := hv
  simp only [Has] at h1 h2
  rw [Has] at h3
  obtain ⟨a1, e1, _⟩ := h1
  obtain ⟨b1, e2, _⟩ := h2
  obtain ⟨v, els, e3, hs, _, hm, he⟩ := h3
  cases e1
  cases e2
  cases e3
  exact Lp.plays_law hs (fun x hx => Lp.has_op (he x hx))
end Go.Proofs.Ytmbkklobijflkaa.Pure
