/- Guest and the document's guest, side by side: results, ticks, nobody. -/
import Derived.Test.YtolnmgekneoaaaaGpE
set_option maxRecDepth 100000
set_option linter.unusedVariables false
set_option linter.unusedSimpArgs false
namespace Go.Proofs.Ytolnmgekneoaaaa.Gp
open Go Go.Eng F Bk BkI Gu

def resT (s : Gs) : Te := if s.over = true then s.t else Te.zero
theorem St.result {k : H} {tg : Nat → Nat} {hK : Nat → Blk → Prop} {g r bk : Nat} {s : Gs} {X : List It} (S : St k tg hK g r bk s X) : ∃ c k1 k2 k3 tg3 q it,
    call Gb.fs3 Gb.ex3 14 [.ptr g 0 0] k = some (.tuple [.agg (tav (resT s) c), .bool s.over], k1) ∧
    call Gb.fs3 Gb.ex3 22 [.ptr bk 0 0, c] (k1 ++ [.row 6 [tav (resT s) c] true true]) = some (.tuple [], k2) ∧
    k2[k1.length]? = some (.row 6 [tav (resT s) c] true true) ∧ k2[r]? = some (.row 20 [rav q it] true true) ∧
    (c.cells = some [c] ∧ c.scalar = true ∧ AV.same c c = true) ∧ (it.cells = some [it] ∧ it.scalar = true ∧ AV.same it it = true) ∧ q.over = s.over ∧
    call Gb.fs3 Gb.ex3 23 [.agg (tav (resT s) c), .agg (if s.over = true then tav q.t it else tav Te.zero .nilslice)] k2 = some (.bool true, k3) ∧
    k3[k1.length]? = some (.row 6 [tav (resT s) c] true true) ∧ k3[r]? = some (.row 20 [rav q it] true true) ∧
    call Gb.fs3 Gb.ex3 24 [.ptr g 0 0] k3 = some (.int .i64 q.id, k3) ∧ call Gb.fs3 Gb.ex3 16 [.ptr g 0 0] k3 = some (.int .i64 q.tried, k3) ∧ St k3 tg3 hK g r bk s X := by
  obtain ⟨it0, hg, hit, hft⟩ := S.gh.get
  have hlen := S.gh.len
  obtain ⟨Z, hZ⟩ : ∃ Z : List It, Z = if s.over = true then X else [] := ⟨_, rfl⟩
  have hZl : Z.length ≤ 50000 := by rw [hZ]; split; exact hlen; simp
  have key : ∃ k1 c, call Gb.fs3 Gb.ex3 14 [.ptr g 0 0] k = some (.tuple [.agg (tav (resT s) c), .bool s.over], k1) ∧ Chg k k1 [] ∧ OwnE k1 2 c (its Z) ∧ ∀ z ∈ foot c, k.length ≤ z := by
    cases ho : s.over
    · refine ⟨_, .nilslice, ?_, Chg.app k [.row 6 [tav Te.zero .nilslice] true true] [], .inl ⟨rfl, by rw [hZ, ho]; rfl⟩, by simp [foot]⟩
      rw [result_no hg ho]; simp [resT, ho]
    · obtain ⟨_, e, k1, c, rfl, e1, e2, e3⟩ := result_yes hg ho hit (by omega)
      exact ⟨k1, c, by rw [e]; simp [resT, ho], e1, by rw [hZ, ho]; exact e2, e3⟩
  obtain ⟨k1, c, e14, c1, o1, hl1⟩ := key
  have cc := o1.rds.cells
  obtain ⟨ni, nl, B⟩ := S.bk
  have ca : Chg k (k1 ++ [.row 6 [tav (resT s) c] true true]) [] := c1.more
  have s1 := stpNew (T := fun _ => False) ca tg (fun z => if z ∈ foot c then 10 + 2 * ni else 6) (by simp)
  obtain ⟨tg1, htg1⟩ : ∃ tg1 : Nat → Nat, tg1 = fun z => if z < k.length then tg z else (fun z => if z ∈ foot c then 10 + 2 * ni else 6) z := ⟨_, rfl⟩
  rw [← htg1] at s1
  have hkl : k.length ≤ k1.length := c1.1
  have oa : OwnE (k1 ++ [.row 6 [tav (resT s) c] true true]) 2 c (its Z) := own_app1 o1
  have hta : ∀ z ∈ foot c, tg1 z = 10 + 2 * ni := fun z hz => by
    have h : ¬ z < k.length := by have := hl1 z hz; omega
    rw [htg1]; simp only [h, if_false, hz, if_true]
  have htb : tg1 k1.length = 6 := by
    have h1 : ¬ k1.length < k.length := by omega
    have h2 : k1.length ∉ foot c := fun hm => by have := o1.lt _ hm; omega
    rw [htg1]; simp only [h1, if_false, h2]
  clear htg1
  have Ba := B.stp s1 (fun _ h => h.elim)
  obtain ⟨_, e22, k2, tg2, ni', rfl, B2, s2⟩ := Ba.addI (L := its Z) (X := Z) oa rfl hZl hta
  have hb2 := s2.keep k1.length (.row 6 [tav (resT s) c] true true) (by simp) (by rw [htb]; omega)
  have ht2 := (s2.old k1.length (by simp)).trans htb
  have G2 := (S.gh.stp s1 id id).stp s2 (by omega) (by omega)
  have R2 := (S.rh.stp s1 id id).stp s2 (by omega) (by omega)
  have K2 := keep_stp (keep_stp S.keep s1 id) s2 (by omega)
  have o2 := oa.stp s2 (fun z hz => by rw [hta z hz]; omega)
  obtain ⟨q, it, Y, hr2, hit2, hf2, sim⟩ := R2.get
  have ci := hit2.cells
  have told : Yld (call Gb.fs3 Gb.ex3 23 [.agg (tav (resT s) c), .agg (if s.over = true then tav q.t it else tav Te.zero .nilslice)] k2) fun r => ∃ k', r = (.bool true, k') ∧ Chg k2 k' [] := by
    cases ho : s.over
    · rw [hZ, ho] at o2
      have hr : resT s = Te.zero := by simp [resT, ho]
      rw [hr]
      have o3 : RdS k2 2 c (its []) := o2.rds
      exact BkL.told_call o3 (nil_rds _) (by simp) 0 0 [] [] false
    · obtain ⟨ht, rfl⟩ := sim.told ho
      rw [hZ, ho, if_pos rfl] at o2
      have hr : resT s = s.t := by simp [resT, ho]
      rw [hr, ht]
      exact BkL.told_call o2.rds hit2 (by omega) s.t.errno s.t.node s.t.value s.t.next s.t.more
  obtain ⟨_, e23, k3, rfl, c3⟩ := told
  have s3 := stpNew (T := fun _ => False) c3 tg2 (fun _ => 6) (by simp)
  have G3 := G2.stp s3 id id
  obtain ⟨it3, hg3, _, _⟩ := G3.get
  exact ⟨c, k1, k2, k3, _, q, it, e14, e22, hb2, hr2, cc, ci, sim.over, e23, c3.2 _ _ (by simp) hb2, c3.2 _ _ (by simp) hr2, by rw [id_eq hg3, sim.id], by rw [tried_eq hg3, sim.tried], G3, R2.stp s3 id id, ⟨_, _, B2.stp s3 (fun _ h => h.elim)⟩, S.inv, keep_stp K2 s3 id⟩
theorem nilStart (a : AV) (ha : ∃ a0, a = .agg (aav a0)) (x : Int) (k : H) : ∃ k', call Gb.fs3 Gb.ex3 12 [.nilptr, a, .int .i64 x] k = some (.tuple [.nilslice, .bool false], k ++ k') := by
  obtain ⟨a0, rfl⟩ := ha
  rw [call_eq Gb.fs3 Gb.ex3 (f := 12) (sf := sf12) rfl]
  refine ⟨[.row 5 [aav a0] true true], ?_⟩
  simp [sf12, yld_some, exec_reg, exec_dreg, exec_seq, exec_cond, exec_block, exec_scope, exec_exit, exec_ret, exec_skip, exec_loop, ops_nil, ops_cons, ops_cons_gd, stages_nil, stages_cons_n, stages_cons_h, recheck, wantsOp, AV.same, sames, evalOp_p, evalOp_r, evalOp_a, evalOp_call, evalOp_callV, evalOp_store, evalOp_append, evalOp_clear, evalOp_mapUpdate, evalOp_delete, pP_move, pP_pick, pP_build, pP_nil_ptr, pP_nil_func, pP_bin, pP_eq, pP_neg, pP_inv, pP_not, pP_convInt, pP_convStr, pP_fieldAddr, pP_field, pP_indexAddr, pP_indexStr, pP_sliceStr, pP_sliceSl, pP_lenStr, pP_lenNil, pP_lenSl, pP_min, pP_max, pP_extract, pP_mkfn, bV_add, bV_sub, bV_mul, bV_quo, bV_rem, bV_and, bV_or, bV_xor, bV_andNot, bV_eql, bV_neq, bV_lss, bV_leq, bV_gtr, bV_geq, bV_shl, bV_shr, bV_str, eV_bool, eV_nn, eV_np, eV_pn, eV_snn, eV_sns, eV_ssn, eV_mnn, eV_mnm, eV_mmn, eV_fnn, eV_fnf, eV_ffn, eV_agg, rP_load, rP_lenNil, rP_str0, rdEl_K, rdK_row, aP_alloc, aP_box, aP_buildSlice, aP_makeSlice, aP_makeMap, aP_toBytes, hP_store, storeK_some, st_K, stK_row, stE_some, cells_agg, cells_bool, scalar_bool, cells_int, scalar_int, cells_str, scalar_str, cells_nilptr, scalar_nilptr, cells_ptr, scalar_ptr, cells_nilslice, scalar_nilslice, cells_slice, scalar_slice, cells_nilmap, scalar_nilmap, cells_map, scalar_map, cells_nilfunc, scalar_nilfunc, cells_func, scalar_func, eqCells, eqLeaf, run_toL, toL_some, ev_toL, getD_toL, put_toL, keep_toL, asc, fput_same, fput_ne, fbase_nil, fbase_cons, fkeep_nil, fkeep_cons, fzero, fnone, List.map_cons, List.map_nil, ev_lit, put_none, resVals, resVal, resOf, partV, fillA, putCells, fillEls, strBin, minV, optNat, appendEls, elsOf, sliceSlV, sliceStrV, List.replicate, List.getElem?_append_left, List.getElem?_append_right, List.set_append_left, List.set_append_right, List.getElem?_set_self, List.getElem?_set_ne, hq_get0, hq_get, hq_get2, hq_get3, hp_get0, hp_get, hp_get2, hp_get3, hp_set0, hp_set, hp_set2, hp_set3, wr_0, wr_1, wr_2, wr_3, wr_4, wr_n1, aav]
theorem nilGot (x : Lt) (k : H) : ∃ k', call Gb.fs3 Gb.ex3 13 [.nilptr, .agg (lav x .nilslice .nilslice)] k = some (.tuple [.nilslice, .bool false], k ++ k') := by
  rw [call_eq Gb.fs3 Gb.ex3 (f := 13) (sf := sf13) rfl]
  refine ⟨[.row 21 [lav x .nilslice .nilslice] true true], ?_⟩
  simp [sf13, yld_some, exec_reg, exec_dreg, exec_seq, exec_cond, exec_block, exec_scope, exec_exit, exec_ret, exec_skip, exec_loop, ops_nil, ops_cons, ops_cons_gd, stages_nil, stages_cons_n, stages_cons_h, recheck, wantsOp, AV.same, sames, evalOp_p, evalOp_r, evalOp_a, evalOp_call, evalOp_callV, evalOp_store, evalOp_append, evalOp_clear, evalOp_mapUpdate, evalOp_delete, pP_move, pP_pick, pP_build, pP_nil_ptr, pP_nil_func, pP_bin, pP_eq, pP_neg, pP_inv, pP_not, pP_convInt, pP_convStr, pP_fieldAddr, pP_field, pP_indexAddr, pP_indexStr, pP_sliceStr, pP_sliceSl, pP_lenStr, pP_lenNil, pP_lenSl, pP_min, pP_max, pP_extract, pP_mkfn, bV_add, bV_sub, bV_mul, bV_quo, bV_rem, bV_and, bV_or, bV_xor, bV_andNot, bV_eql, bV_neq, bV_lss, bV_leq, bV_gtr, bV_geq, bV_shl, bV_shr, bV_str, eV_bool, eV_nn, eV_np, eV_pn, eV_snn, eV_sns, eV_ssn, eV_mnn, eV_mnm, eV_mmn, eV_fnn, eV_fnf, eV_ffn, eV_agg, rP_load, rP_lenNil, rP_str0, rdEl_K, rdK_row, aP_alloc, aP_box, aP_buildSlice, aP_makeSlice, aP_makeMap, aP_toBytes, hP_store, storeK_some, st_K, stK_row, stE_some, cells_agg, cells_bool, scalar_bool, cells_int, scalar_int, cells_str, scalar_str, cells_nilptr, scalar_nilptr, cells_ptr, scalar_ptr, cells_nilslice, scalar_nilslice, cells_slice, scalar_slice, cells_nilmap, scalar_nilmap, cells_map, scalar_map, cells_nilfunc, scalar_nilfunc, cells_func, scalar_func, eqCells, eqLeaf, run_toL, toL_some, ev_toL, getD_toL, put_toL, keep_toL, asc, fput_same, fput_ne, fbase_nil, fbase_cons, fkeep_nil, fkeep_cons, fzero, fnone, List.map_cons, List.map_nil, ev_lit, put_none, resVals, resVal, resOf, partV, fillA, putCells, fillEls, strBin, minV, optNat, appendEls, elsOf, sliceSlV, sliceStrV, List.replicate, List.getElem?_append_left, List.getElem?_append_right, List.set_append_left, List.set_append_right, List.getElem?_set_self, List.getElem?_set_ne, hq_get0, hq_get, hq_get2, hq_get3, hp_get0, hp_get, hp_get2, hp_get3, hp_set0, hp_set, hp_set2, hp_set3, wr_0, wr_1, wr_2, wr_3, wr_4, wr_n1, lav]
theorem nilTick (k : H) : call Gb.fs3 Gb.ex3 15 [.nilptr] k = some (.tuple [.nilslice, .bool false], k) := by
  rw [call_eq Gb.fs3 Gb.ex3 (f := 15) (sf := sf15) rfl]
  simp [sf15, yld_some, exec_reg, exec_dreg, exec_seq, exec_cond, exec_block, exec_scope, exec_exit, exec_ret, exec_skip, exec_loop, ops_nil, ops_cons, ops_cons_gd, stages_nil, stages_cons_n, stages_cons_h, recheck, wantsOp, AV.same, sames, evalOp_p, evalOp_r, evalOp_a, evalOp_call, evalOp_callV, evalOp_store, evalOp_append, evalOp_clear, evalOp_mapUpdate, evalOp_delete, pP_move, pP_pick, pP_build, pP_nil_ptr, pP_nil_func, pP_bin, pP_eq, pP_neg, pP_inv, pP_not, pP_convInt, pP_convStr, pP_fieldAddr, pP_field, pP_indexAddr, pP_indexStr, pP_sliceStr, pP_sliceSl, pP_lenStr, pP_lenNil, pP_lenSl, pP_min, pP_max, pP_extract, pP_mkfn, bV_add, bV_sub, bV_mul, bV_quo, bV_rem, bV_and, bV_or, bV_xor, bV_andNot, bV_eql, bV_neq, bV_lss, bV_leq, bV_gtr, bV_geq, bV_shl, bV_shr, bV_str, eV_bool, eV_nn, eV_np, eV_pn, eV_snn, eV_sns, eV_ssn, eV_mnn, eV_mnm, eV_mmn, eV_fnn, eV_fnf, eV_ffn, eV_agg, rP_load, rP_lenNil, rP_str0, rdEl_K, rdK_row, aP_alloc, aP_box, aP_buildSlice, aP_makeSlice, aP_makeMap, aP_toBytes, hP_store, storeK_some, st_K, stK_row, stE_some, cells_agg, cells_bool, scalar_bool, cells_int, scalar_int, cells_str, scalar_str, cells_nilptr, scalar_nilptr, cells_ptr, scalar_ptr, cells_nilslice, scalar_nilslice, cells_slice, scalar_slice, cells_nilmap, scalar_nilmap, cells_map, scalar_map, cells_nilfunc, scalar_nilfunc, cells_func, scalar_func, eqCells, eqLeaf, run_toL, toL_some, ev_toL, getD_toL, put_toL, keep_toL, asc, fput_same, fput_ne, fbase_nil, fbase_cons, fkeep_nil, fkeep_cons, fzero, fnone, List.map_cons, List.map_nil, ev_lit, put_none, resVals, resVal, resOf, partV, fillA, putCells, fillEls, strBin, minV, optNat, appendEls, elsOf, sliceSlV, sliceStrV, List.replicate, List.getElem?_append_left, List.getElem?_append_right, List.set_append_left, List.set_append_right, List.getElem?_set_self, List.getElem?_set_ne, hq_get0, hq_get, hq_get2, hq_get3, hp_get0, hp_get, hp_get2, hp_get3, hp_set0, hp_set, hp_set2, hp_set3, wr_0, wr_1, wr_2, wr_3, wr_4, wr_n1]
theorem nilResult (k : H) : ∃ k', call Gb.fs3 Gb.ex3 14 [.nilptr] k = some (.tuple [.agg (tav Te.zero .nilslice), .bool false], k ++ k') := by
  rw [call_eq Gb.fs3 Gb.ex3 (f := 14) (sf := sf14) rfl]
  refine ⟨[.row 6 [tav Te.zero .nilslice] true true], ?_⟩
  simp [sf14, yld_some, exec_reg, exec_dreg, exec_seq, exec_cond, exec_block, exec_scope, exec_exit, exec_ret, exec_skip, exec_loop, ops_nil, ops_cons, ops_cons_gd, stages_nil, stages_cons_n, stages_cons_h, recheck, wantsOp, AV.same, sames, evalOp_p, evalOp_r, evalOp_a, evalOp_call, evalOp_callV, evalOp_store, evalOp_append, evalOp_clear, evalOp_mapUpdate, evalOp_delete, pP_move, pP_pick, pP_build, pP_nil_ptr, pP_nil_func, pP_bin, pP_eq, pP_neg, pP_inv, pP_not, pP_convInt, pP_convStr, pP_fieldAddr, pP_field, pP_indexAddr, pP_indexStr, pP_sliceStr, pP_sliceSl, pP_lenStr, pP_lenNil, pP_lenSl, pP_min, pP_max, pP_extract, pP_mkfn, bV_add, bV_sub, bV_mul, bV_quo, bV_rem, bV_and, bV_or, bV_xor, bV_andNot, bV_eql, bV_neq, bV_lss, bV_leq, bV_gtr, bV_geq, bV_shl, bV_shr, bV_str, eV_bool, eV_nn, eV_np, eV_pn, eV_snn, eV_sns, eV_ssn, eV_mnn, eV_mnm, eV_mmn, eV_fnn, eV_fnf, eV_ffn, eV_agg, rP_load, rP_lenNil, rP_str0, rdEl_K, rdK_row, aP_alloc, aP_box, aP_buildSlice, aP_makeSlice, aP_makeMap, aP_toBytes, hP_store, storeK_some, st_K, stK_row, stE_some, cells_agg, cells_bool, scalar_bool, cells_int, scalar_int, cells_str, scalar_str, cells_nilptr, scalar_nilptr, cells_ptr, scalar_ptr, cells_nilslice, scalar_nilslice, cells_slice, scalar_slice, cells_nilmap, scalar_nilmap, cells_map, scalar_map, cells_nilfunc, scalar_nilfunc, cells_func, scalar_func, eqCells, eqLeaf, run_toL, toL_some, ev_toL, getD_toL, put_toL, keep_toL, asc, fput_same, fput_ne, fbase_nil, fbase_cons, fkeep_nil, fkeep_cons, fzero, fnone, List.map_cons, List.map_nil, ev_lit, put_none, resVals, resVal, resOf, partV, fillA, putCells, fillEls, strBin, minV, optNat, appendEls, elsOf, sliceSlV, sliceStrV, List.replicate, List.getElem?_append_left, List.getElem?_append_right, List.set_append_left, List.set_append_right, List.getElem?_set_self, List.getElem?_set_ne, hq_get0, hq_get, hq_get2, hq_get3, hp_get0, hp_get, hp_get2, hp_get3, hp_set0, hp_set, hp_set2, hp_set3, wr_0, wr_1, wr_2, wr_3, wr_4, wr_n1, tav, Te.zero]
theorem nilId (k : H) : call Gb.fs3 Gb.ex3 24 [.nilptr] k = some (.int .i64 0, k) := by
  rw [call_eq Gb.fs3 Gb.ex3 (f := 24) (sf := sf24) rfl]
  simp [sf24, yld_some, exec_reg, exec_dreg, exec_seq, exec_cond, exec_block, exec_scope, exec_exit, exec_ret, exec_skip, exec_loop, ops_nil, ops_cons, ops_cons_gd, stages_nil, stages_cons_n, stages_cons_h, recheck, wantsOp, AV.same, sames, evalOp_p, evalOp_r, evalOp_a, evalOp_call, evalOp_callV, evalOp_store, evalOp_append, evalOp_clear, evalOp_mapUpdate, evalOp_delete, pP_move, pP_pick, pP_build, pP_nil_ptr, pP_nil_func, pP_bin, pP_eq, pP_neg, pP_inv, pP_not, pP_convInt, pP_convStr, pP_fieldAddr, pP_field, pP_indexAddr, pP_indexStr, pP_sliceStr, pP_sliceSl, pP_lenStr, pP_lenNil, pP_lenSl, pP_min, pP_max, pP_extract, pP_mkfn, bV_add, bV_sub, bV_mul, bV_quo, bV_rem, bV_and, bV_or, bV_xor, bV_andNot, bV_eql, bV_neq, bV_lss, bV_leq, bV_gtr, bV_geq, bV_shl, bV_shr, bV_str, eV_bool, eV_nn, eV_np, eV_pn, eV_snn, eV_sns, eV_ssn, eV_mnn, eV_mnm, eV_mmn, eV_fnn, eV_fnf, eV_ffn, eV_agg, rP_load, rP_lenNil, rP_str0, rdEl_K, rdK_row, aP_alloc, aP_box, aP_buildSlice, aP_makeSlice, aP_makeMap, aP_toBytes, hP_store, storeK_some, st_K, stK_row, stE_some, cells_agg, cells_bool, scalar_bool, cells_int, scalar_int, cells_str, scalar_str, cells_nilptr, scalar_nilptr, cells_ptr, scalar_ptr, cells_nilslice, scalar_nilslice, cells_slice, scalar_slice, cells_nilmap, scalar_nilmap, cells_map, scalar_map, cells_nilfunc, scalar_nilfunc, cells_func, scalar_func, eqCells, eqLeaf, run_toL, toL_some, ev_toL, getD_toL, put_toL, keep_toL, asc, fput_same, fput_ne, fbase_nil, fbase_cons, fkeep_nil, fkeep_cons, fzero, fnone, List.map_cons, List.map_nil, ev_lit, put_none, resVals, resVal, resOf, partV, fillA, putCells, fillEls, strBin, minV, optNat, appendEls, elsOf, sliceSlV, sliceStrV, List.replicate, List.getElem?_append_left, List.getElem?_append_right, List.set_append_left, List.set_append_right, List.getElem?_set_self, List.getElem?_set_ne, hq_get0, hq_get, hq_get2, hq_get3, hp_get0, hp_get, hp_get2, hp_get3, hp_set0, hp_set, hp_set2, hp_set3, wr_0, wr_1, wr_2, wr_3, wr_4, wr_n1]
theorem nilTried (k : H) : call Gb.fs3 Gb.ex3 16 [.nilptr] k = some (.int .i64 0, k) := by
  rw [call_eq Gb.fs3 Gb.ex3 (f := 16) (sf := sf16) rfl]
  simp [sf16, yld_some, exec_reg, exec_dreg, exec_seq, exec_cond, exec_block, exec_scope, exec_exit, exec_ret, exec_skip, exec_loop, ops_nil, ops_cons, ops_cons_gd, stages_nil, stages_cons_n, stages_cons_h, recheck, wantsOp, AV.same, sames, evalOp_p, evalOp_r, evalOp_a, evalOp_call, evalOp_callV, evalOp_store, evalOp_append, evalOp_clear, evalOp_mapUpdate, evalOp_delete, pP_move, pP_pick, pP_build, pP_nil_ptr, pP_nil_func, pP_bin, pP_eq, pP_neg, pP_inv, pP_not, pP_convInt, pP_convStr, pP_fieldAddr, pP_field, pP_indexAddr, pP_indexStr, pP_sliceStr, pP_sliceSl, pP_lenStr, pP_lenNil, pP_lenSl, pP_min, pP_max, pP_extract, pP_mkfn, bV_add, bV_sub, bV_mul, bV_quo, bV_rem, bV_and, bV_or, bV_xor, bV_andNot, bV_eql, bV_neq, bV_lss, bV_leq, bV_gtr, bV_geq, bV_shl, bV_shr, bV_str, eV_bool, eV_nn, eV_np, eV_pn, eV_snn, eV_sns, eV_ssn, eV_mnn, eV_mnm, eV_mmn, eV_fnn, eV_fnf, eV_ffn, eV_agg, rP_load, rP_lenNil, rP_str0, rdEl_K, rdK_row, aP_alloc, aP_box, aP_buildSlice, aP_makeSlice, aP_makeMap, aP_toBytes, hP_store, storeK_some, st_K, stK_row, stE_some, cells_agg, cells_bool, scalar_bool, cells_int, scalar_int, cells_str, scalar_str, cells_nilptr, scalar_nilptr, cells_ptr, scalar_ptr, cells_nilslice, scalar_nilslice, cells_slice, scalar_slice, cells_nilmap, scalar_nilmap, cells_map, scalar_map, cells_nilfunc, scalar_nilfunc, cells_func, scalar_func, eqCells, eqLeaf, run_toL, toL_some, ev_toL, getD_toL, put_toL, keep_toL, asc, fput_same, fput_ne, fbase_nil, fbase_cons, fkeep_nil, fkeep_cons, fzero, fnone, List.map_cons, List.map_nil, ev_lit, put_none, resVals, resVal, resOf, partV, fillA, putCells, fillEls, strBin, minV, optNat, appendEls, elsOf, sliceSlV, sliceStrV, List.replicate, List.getElem?_append_left, List.getElem?_append_right, List.set_append_left, List.set_append_right, List.getElem?_set_self, List.getElem?_set_ne, hq_get0, hq_get, hq_get2, hq_get3, hp_get0, hp_get, hp_get2, hp_get3, hp_set0, hp_set, hp_set2, hp_set3, wr_0, wr_1, wr_2, wr_3, wr_4, wr_n1]
structure OpV where
  kd : Int
  at_ : Int
  n : Int
  a : As
  t : Te
  w : AV
  x : Lt
  w1 : AV
  w2 : AV
def opv (o : OpV) : List AV := [.int .i64 o.kd, .int .i64 o.at_, .int .i64 o.n, .int .i64 o.a.op, .str o.a.key, .str o.a.value, .str o.a.to, .int .i64 o.a.most, .int .i64 o.t.errno, .str o.t.value, o.w, .bool o.t.more, .str o.t.next, .int .i64 o.t.node,
  .int .i64 o.x.kind, .int .i64 o.x.frm, .int .i64 o.x.to, .int .i64 o.x.id, .int .i64 o.x.a.op, .str o.x.a.key, .str o.x.a.value, .str o.x.a.to, .int .i64 o.x.a.most, .int .i64 o.x.t.errno, .str o.x.t.value, o.w1, .bool o.x.t.more, .str o.x.t.next, .int .i64 o.x.t.node, .int .u64 o.x.af, .int .u64 o.x.at_, .int .i64 o.x.ep, o.w2, .int .i64 o.x.n, .int .i64 o.x.node]
theorem tick_nodes (s : Gs) (X : List It) : (tickS s X).1.nodes = s.nodes := by
  unfold tickS
  split
  · rfl
  · split
    · rfl
    · split
      · rfl
      · split <;> rfl
theorem got_nodes (s : Gs) (X Y : List It) (x : Lt) : (gotS s X x Y).1.nodes = s.nodes := by
  unfold gotS
  split
  · rfl
  · split
    · rfl
    · split
      · rfl
      · split <;> rfl
theorem start_nodes (s : Gs) (X : List It) (a : As) (x : Int) : (startS s X a x).1.nodes = s.nodes := by
  unfold startS
  split <;> rfl
theorem St.tick {k : H} {tg : Nat → Nat} {hK : Nat → Blk → Prop} {g r bk : Nat} {s : Gs} {X : List It} (S : St k tg hK g r bk s X) : ∃ x y v k1 k2 k3 k4 tg4 s' X',
    call Gb.fs3 Gb.ex3 15 [.ptr g 0 0] k = some (.tuple [x, .bool v], k1) ∧ call Gb.fs3 Gb.ex3 20 [.ptr r 0 0] k1 = some (.tuple [y, .bool v], k2) ∧ call Gb.fs3 Gb.ex3 18 [.ptr bk 0 0, x] k2 = some (.tuple [], k3) ∧ call Gb.fs3 Gb.ex3 19 [x, y] k3 = some (.bool true, k4) ∧ St k4 tg4 hK g r bk s' X' ∧ s'.nodes = s.nodes := by
  obtain ⟨x, y, k1, k2, k3, k4, tg4, e1, e2, e3, e4, S4, _, _⟩ := S.pair (z := tickS s X) (cr := fun k1 => call Gb.fs3 Gb.ex3 20 [.ptr r 0 0] k1) (pk := fun y => .tuple [y, .bool (tickS s X).2.2.2]) (fun t => g_tick S.gh t) (fun k1 tg1 _ R1 => r_tick R1) (tick_inv S.inv)
  exact ⟨x, y, _, k1, k2, k3, k4, tg4, _, _, e1, e2, e3, e4, S4, tick_nodes s X⟩
set_option maxHeartbeats 8000000 in
theorem tick_loop {lv : List Nat} {body : SCode} (hb : (loopsAll sf8.body)[1]? = some (lv, body)) {f : Nat → AV} {k : H} {tg : Nat → Nat} {hK : Nat → Blk → Prop} {g r bk o : Nat} {s : Gs} {X : List It} {O : OpV}
    (S : St k tg hK g r bk s X) (ho : hK o (.row 35 [opv O] true true)) (hn : O.n ≤ 60)
    (f7 : f 7 = .ptr g 0 0) (f8 : f 8 = .ptr r 0 0) (f9 : f 9 = .ptr bk 0 0) (f11 : f 11 = .ptr o 0 0) (f16 : f 16 = .int .i64 0) {R : (Ex × Env) × H → Prop}
    (hR : ∀ f' k' tg' s' X', f' 0 = f 0 → f' 1 = f 1 → f' 2 = f 2 → f' 7 = .ptr g 0 0 → f' 8 = .ptr r 0 0 → f' 9 = .ptr bk 0 0 → f' 10 = f 10 → f' 11 = .ptr o 0 0 → St k' tg' hK g r bk s' X' → s'.nodes = s.nodes → R ((.exit 3, toL 331 f'), k')) :
    Yld (itw (fun env => exec (call Gb.fs3 Gb.ex3) itw body (keepFrom lv 0 env)) (toL 331 f) k) R := by
  simp [sf8, loopsAll] at hb
  obtain ⟨rfl, rfl⟩ := hb
  refine yld_rounds (fun m e k' => ∃ f' j tg' s' X', e = toL 331 f' ∧ m = 60 - j ∧ j ≤ 60 ∧ f' 0 = f 0 ∧ f' 1 = f 1 ∧ f' 2 = f 2 ∧ f' 7 = .ptr g 0 0 ∧ f' 8 = .ptr r 0 0 ∧ f' 9 = .ptr bk 0 0 ∧ f' 10 = f 10 ∧ f' 11 = .ptr o 0 0 ∧ f' 16 = .int .i64 (j : Nat) ∧ St k' tg' hK g r bk s' X' ∧ s'.nodes = s.nodes) (60 - 0) ?_ ?_
  · exact ⟨f, 0, tg, s, X, rfl, rfl, by omega, rfl, rfl, rfl, f7, f8, f9, rfl, f11, f16, S, rfl⟩
  · generalize f 0 = w0 at hR ⊢
    generalize f 1 = w1 at hR ⊢
    generalize f 2 = w2 at hR ⊢
    generalize f 10 = w10 at hR ⊢
    clear f7 f8 f9 f11 f16
    rintro J R' hJ hR' z e k' ⟨f, j, tg', s', X', rfl, rfl, hj, f0, f1, f2, f7, f8, f9, f10, f11, f16, S', hsn⟩
    have hok := (S'.keep _ _ ho).1
    simp only [opv] at hok
    by_cases hjn : (j : Int) < O.n
    · have hnd : decide ((j : Int) < O.n) = true := dec_true hjn
      have hw : IntKind.i64.wrap ((j : Int) + 1) = ((j + 1 : Nat) : Int) := wrap_i64 (by omega) (by omega)
      obtain ⟨x, y, v, k1, k2, k3, k4, tg4, s4, X4, e15, e20, e18, e19, S4, hs4⟩ := S'.tick
      cases v <;> (simp [yld_some, exec_reg, exec_dreg, exec_seq, exec_cond, exec_block, exec_scope, exec_exit, exec_ret, exec_skip, exec_loop, ops_nil, ops_cons, ops_cons_gd, stages_nil, stages_cons_n, stages_cons_h, recheck, wantsOp, AV.same, sames, evalOp_p, evalOp_r, evalOp_a, evalOp_call, evalOp_callV, evalOp_store, evalOp_append, evalOp_clear, evalOp_mapUpdate, evalOp_delete, pP_move, pP_pick, pP_build, pP_nil_ptr, pP_nil_func, pP_bin, pP_eq, pP_neg, pP_inv, pP_not, pP_convInt, pP_convStr, pP_fieldAddr, pP_field, pP_indexAddr, pP_indexStr, pP_sliceStr, pP_sliceSl, pP_lenStr, pP_lenNil, pP_lenSl, pP_min, pP_max, pP_extract, pP_mkfn, bV_add, bV_sub, bV_mul, bV_quo, bV_rem, bV_and, bV_or, bV_xor, bV_andNot, bV_eql, bV_neq, bV_lss, bV_leq, bV_gtr, bV_geq, bV_shl, bV_shr, bV_str, eV_bool, eV_nn, eV_np, eV_pn, eV_snn, eV_sns, eV_ssn, eV_mnn, eV_mnm, eV_mmn, eV_fnn, eV_fnf, eV_ffn, eV_agg, rP_load, rP_lenNil, rP_str0, rdEl_K, rdK_row, aP_alloc, aP_box, aP_buildSlice, aP_makeSlice, aP_makeMap, aP_toBytes, hP_store, storeK_some, st_K, stK_row, stE_some, cells_agg, cells_bool, scalar_bool, cells_int, scalar_int, cells_str, scalar_str, cells_nilptr, scalar_nilptr, cells_ptr, scalar_ptr, cells_nilslice, scalar_nilslice, cells_slice, scalar_slice, cells_nilmap, scalar_nilmap, cells_map, scalar_map, cells_nilfunc, scalar_nilfunc, cells_func, scalar_func, eqCells, eqLeaf, run_toL, toL_some, ev_toL, getD_toL, put_toL, keep_toL, asc, fput_same, fput_ne, fbase_nil, fbase_cons, fkeep_nil, fkeep_cons, fzero, fnone, List.map_cons, List.map_nil, ev_lit, put_none, resVals, resVal, resOf, partV, fillA, putCells, fillEls, strBin, minV, optNat, appendEls, elsOf, sliceSlV, sliceStrV, List.replicate, List.getElem?_append_left, List.getElem?_append_right, List.set_append_left, List.set_append_right, List.getElem?_set_self, List.getElem?_set_ne, hq_get0, hq_get, hq_get2, hq_get3, hp_get0, hp_get, hp_get2, hp_get3, hp_set0, hp_set, hp_set2, hp_set3, wr_0, wr_1, wr_2, wr_3, wr_4, wr_n1, f0, f1, f2, f7, f8, f9, f10, f11, f16, hok, get_app hok, set_app hok, get_set_same hok, get_set_app hok, set_set_app hok, len_beq hok, beq_len hok, hjn, hnd, e15, e20, e18, e19, hw]
                   exact ⟨60 - (j + 1), by omega, hJ _ _ _ ⟨_, j + 1, tg4, s4, X4, rfl, rfl, by omega, rfl, rfl, rfl, rfl, rfl, rfl, rfl, rfl, rfl, S4, hs4.trans hsn⟩⟩)
    · have hnd : decide ((j : Int) < O.n) = false := dec_false hjn
      simp [yld_some, exec_reg, exec_dreg, exec_seq, exec_cond, exec_block, exec_scope, exec_exit, exec_ret, exec_skip, exec_loop, ops_nil, ops_cons, ops_cons_gd, stages_nil, stages_cons_n, stages_cons_h, recheck, wantsOp, AV.same, sames, evalOp_p, evalOp_r, evalOp_a, evalOp_call, evalOp_callV, evalOp_store, evalOp_append, evalOp_clear, evalOp_mapUpdate, evalOp_delete, pP_move, pP_pick, pP_build, pP_nil_ptr, pP_nil_func, pP_bin, pP_eq, pP_neg, pP_inv, pP_not, pP_convInt, pP_convStr, pP_fieldAddr, pP_field, pP_indexAddr, pP_indexStr, pP_sliceStr, pP_sliceSl, pP_lenStr, pP_lenNil, pP_lenSl, pP_min, pP_max, pP_extract, pP_mkfn, bV_add, bV_sub, bV_mul, bV_quo, bV_rem, bV_and, bV_or, bV_xor, bV_andNot, bV_eql, bV_neq, bV_lss, bV_leq, bV_gtr, bV_geq, bV_shl, bV_shr, bV_str, eV_bool, eV_nn, eV_np, eV_pn, eV_snn, eV_sns, eV_ssn, eV_mnn, eV_mnm, eV_mmn, eV_fnn, eV_fnf, eV_ffn, eV_agg, rP_load, rP_lenNil, rP_str0, rdEl_K, rdK_row, aP_alloc, aP_box, aP_buildSlice, aP_makeSlice, aP_makeMap, aP_toBytes, hP_store, storeK_some, st_K, stK_row, stE_some, cells_agg, cells_bool, scalar_bool, cells_int, scalar_int, cells_str, scalar_str, cells_nilptr, scalar_nilptr, cells_ptr, scalar_ptr, cells_nilslice, scalar_nilslice, cells_slice, scalar_slice, cells_nilmap, scalar_nilmap, cells_map, scalar_map, cells_nilfunc, scalar_nilfunc, cells_func, scalar_func, eqCells, eqLeaf, run_toL, toL_some, ev_toL, getD_toL, put_toL, keep_toL, asc, fput_same, fput_ne, fbase_nil, fbase_cons, fkeep_nil, fkeep_cons, fzero, fnone, List.map_cons, List.map_nil, ev_lit, put_none, resVals, resVal, resOf, partV, fillA, putCells, fillEls, strBin, minV, optNat, appendEls, elsOf, sliceSlV, sliceStrV, List.replicate, List.getElem?_append_left, List.getElem?_append_right, List.set_append_left, List.set_append_right, List.getElem?_set_self, List.getElem?_set_ne, hq_get0, hq_get, hq_get2, hq_get3, hp_get0, hp_get, hp_get2, hp_get3, hp_set0, hp_set, hp_set2, hp_set3, wr_0, wr_1, wr_2, wr_3, wr_4, wr_n1, f0, f1, f2, f7, f8, f9, f10, f11, f16, hok, get_app hok, set_app hok, get_set_same hok, get_set_app hok, set_set_app hok, len_beq hok, beq_len hok, hjn, hnd]
      exact hR' _ (hR _ _ tg' s' X' rfl rfl rfl rfl rfl rfl rfl rfl S' hsn)
theorem St.res {k : H} {tg : Nat → Nat} {hK : Nat → Blk → Prop} {g r bk : Nat} {s : Gs} {X : List It} (S : St k tg hK g r bk s X) : ∃ (c it : AV) (k1 k2 k3 : H) (tg3 : Nat → Nat) (ov : Bool) (t : Te) (q : Gs),
    call Gb.fs3 Gb.ex3 14 [.ptr g 0 0] k = some (.tuple [.agg [.int .i64 t.errno, .str t.value, c, .bool t.more, .str t.next, .int .i64 t.node], .bool ov], k1) ∧
    call Gb.fs3 Gb.ex3 22 [.ptr bk 0 0, c] (k1 ++ [.row 6 [[.int .i64 t.errno, .str t.value, c, .bool t.more, .str t.next, .int .i64 t.node]] true true]) = some (.tuple [], k2) ∧
    k2[k1.length]? = some (.row 6 [[.int .i64 t.errno, .str t.value, c, .bool t.more, .str t.next, .int .i64 t.node]] true true) ∧
    k2[r]? = some (.row 20 [[.int .i64 q.me, .int .i64 q.nodes, .int .i64 q.id, .int .i64 q.tried, .bool q.on, .bool ov, .int .i64 q.at_, .int .i64 q.old, .int .i64 q.waits, .int .i64 q.a.op, .str q.a.key, .str q.a.value, .str q.a.to, .int .i64 q.a.most, .int .i64 q.t.errno, .str q.t.value, it, .bool q.t.more, .str q.t.next, .int .i64 q.t.node]] true true) ∧
    (c.cells = some [c] ∧ c.scalar = true ∧ AV.same c c = true) ∧ (it.cells = some [it] ∧ it.scalar = true ∧ AV.same it it = true) ∧
    call Gb.fs3 Gb.ex3 23 [.agg [.int .i64 t.errno, .str t.value, c, .bool t.more, .str t.next, .int .i64 t.node], .agg (if ov = true then [.int .i64 q.t.errno, .str q.t.value, it, .bool q.t.more, .str q.t.next, .int .i64 q.t.node] else [.int .i64 0, .str [], .nilslice, .bool false, .str [], .int .i64 0])] k2 = some (.bool true, k3) ∧
    k3[k1.length]? = some (.row 6 [[.int .i64 t.errno, .str t.value, c, .bool t.more, .str t.next, .int .i64 t.node]] true true) ∧
    k3[r]? = some (.row 20 [[.int .i64 q.me, .int .i64 q.nodes, .int .i64 q.id, .int .i64 q.tried, .bool q.on, .bool ov, .int .i64 q.at_, .int .i64 q.old, .int .i64 q.waits, .int .i64 q.a.op, .str q.a.key, .str q.a.value, .str q.a.to, .int .i64 q.a.most, .int .i64 q.t.errno, .str q.t.value, it, .bool q.t.more, .str q.t.next, .int .i64 q.t.node]] true true) ∧
    call Gb.fs3 Gb.ex3 24 [.ptr g 0 0] k3 = some (.int .i64 q.id, k3) ∧ call Gb.fs3 Gb.ex3 16 [.ptr g 0 0] k3 = some (.int .i64 q.tried, k3) ∧ St k3 tg3 hK g r bk s X := by
  obtain ⟨c, k1, k2, k3, tg3, q, it, e1, e2, e3, e4, e5, e6, e7, e8, e9, e10, e11, e12, e13⟩ := S.result
  unfold rav at e4 e10
  rw [e7] at e4 e10
  exact ⟨c, it, k1, k2, k3, tg3, s.over, resT s, q, e1, e2, e3, e4, e5, e6, e8, e9, e10, e11, e12, e13⟩
end Go.Proofs.Ytolnmgekneoaaaa.Gp
