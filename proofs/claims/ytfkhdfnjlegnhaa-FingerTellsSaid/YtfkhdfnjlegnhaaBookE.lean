/- A book of lists: all are marked; all are grown. -/
import Derived.Test.YtfkhdfnjlegnhaaBookD
set_option maxRecDepth 100000
set_option linter.unusedVariables false
set_option linter.unusedSimpArgs false
namespace Go.Proofs.Ytfkhdfnjlegnhaa.Bk
open Go Go.Eng F

def feet (vs : List AV) : List Nat := vs.flatMap foot
theorem mem_feet {vs : List AV} {i : Nat} (h : i < vs.length) {c : Nat} (hc : c ∈ foot vs[i]) : c ∈ feet vs := List.mem_flatMap.2 ⟨_, List.getElem_mem _, hc⟩
theorem OwnE.lt {k : H} {es : Nat} {v : AV} {L : List (List AV)} (o : OwnE k es v L) : ∀ c ∈ foot v, c < k.length := o.grow.lt
/-- The lists lie apart, and from the book. -/
structure Apt (g : Nat) (pv : AV) (vs : List AV) : Prop where
  gv : ∀ i (h : i < vs.length), g ∉ foot vs[i]
  pv : ∀ i (h : i < vs.length), ∀ c ∈ foot pv, c ∉ foot vs[i]
  vv : ∀ i j (hi : i < vs.length) (hj : j < vs.length), i ≠ j → ∀ c ∈ foot vs[i], c ∉ foot vs[j]
theorem Apt.g_feet {g : Nat} {pv : AV} {vs : List AV} (a : Apt g pv vs) : g ∉ feet vs := by
  intro h
  obtain ⟨v, hv, hc⟩ := List.mem_flatMap.1 h
  obtain ⟨i, hi, rfl⟩ := List.mem_iff_getElem.1 hv
  exact a.gv i hi hc
theorem Apt.p_feet {g : Nat} {pv : AV} {vs : List AV} (a : Apt g pv vs) : ∀ c ∈ foot pv, c ∉ feet vs := by
  intro c hp h
  obtain ⟨v, hv, hc⟩ := List.mem_flatMap.1 h
  obtain ⟨i, hi, rfl⟩ := List.mem_iff_getElem.1 hv
  exact a.pv i hi c hp hc
set_option maxHeartbeats 4000000 in
theorem put_call {k : H} {g : Nat} {pv wv : AV} {vs : List AV} {Ls : Nat → List (List AV)} (hg : k[g]? = some (bookB pv wv)) (hp : RdS k 1 pv (vs.map fun u => [u])) (hlen : vs.length ≤ 250)
    (hv : ∀ i (h : i < vs.length), OwnE k 1 vs[i] (Ls i)) (hi : ∀ i, IsPts (Ls i) ∧ (Ls i).length < 100000) (ha : Apt g pv vs) :
    Yld (call Fg.fs0 Fg.ex0 36 [.ptr g 0 0] k) fun r => ∃ k', r = (.tuple [], k') ∧ (∀ i (h : i < vs.length), OwnE k' 1 vs[i] (marks i 0 (Ls i).length)) ∧ Chg k k' (feet vs) := by
  refine yld_shut fun Q hQ => ?_
  rw [call_eq Fg.fs0 Fg.ex0 (f := 36) (sf := sf36) rfl]
  have lg := hp.len
  simp only [List.length_map] at lg
  have hgB := hg
  unfold bookB at hg
  have hgl := (List.getElem?_eq_some_iff.1 hg).1
  simp [sf36, yld_some, exec_reg, exec_dreg, exec_seq, exec_cond, exec_block, exec_scope, exec_exit, exec_ret, exec_skip, exec_loop, ops_nil, ops_cons, ops_cons_gd, stages_nil, stages_cons_n, stages_cons_h, recheck, wantsOp, AV.same, sames, evalOp_p, evalOp_r, evalOp_a, evalOp_call, evalOp_callV, evalOp_store, evalOp_append, evalOp_clear, evalOp_mapUpdate, evalOp_delete, pP_move, pP_pick, pP_build, pP_nil_ptr, pP_nil_func, pP_bin, pP_eq, pP_neg, pP_inv, pP_not, pP_convInt, pP_convStr, pP_fieldAddr, pP_field, pP_indexAddr, pP_indexStr, pP_sliceStr, pP_sliceSl, pP_lenStr, pP_lenNil, pP_lenSl, pP_min, pP_max, pP_extract, pP_mkfn, bV_add, bV_sub, bV_mul, bV_quo, bV_rem, bV_and, bV_or, bV_xor, bV_andNot, bV_eql, bV_neq, bV_lss, bV_leq, bV_gtr, bV_geq, bV_shl, bV_shr, bV_str, eV_bool, eV_nn, eV_np, eV_pn, eV_snn, eV_sns, eV_ssn, eV_mnn, eV_mnm, eV_mmn, eV_fnn, eV_fnf, eV_ffn, eV_agg, rP_load, rP_lenNil, rP_str0, rdEl_K, rdK_row, aP_alloc, aP_box, aP_buildSlice, aP_makeSlice, aP_makeMap, aP_toBytes, hP_store, storeK_some, st_K, stK_row, stE_some, cells_agg, cells_bool, scalar_bool, cells_int, scalar_int, cells_str, scalar_str, cells_nilptr, scalar_nilptr, cells_ptr, scalar_ptr, cells_nilslice, scalar_nilslice, cells_slice, scalar_slice, cells_nilmap, scalar_nilmap, cells_map, scalar_map, cells_nilfunc, scalar_nilfunc, cells_func, scalar_func, eqCells, eqLeaf, run_toL, toL_some, ev_toL, getD_toL, put_toL, keep_toL, asc, fput_same, fput_ne, fbase_nil, fbase_cons, fkeep_nil, fkeep_cons, fzero, fnone, List.map_cons, List.map_nil, ev_lit, put_none, resVals, resVal, resOf, partV, fillA, putCells, fillEls, strBin, minV, optNat, appendEls, elsOf, sliceSlV, sliceStrV, List.replicate, List.getElem?_append_left, List.getElem?_append_right, List.set_append_left, List.set_append_right, List.getElem?_set_self, List.getElem?_set_ne, hq_get0, hq_get, hq_get2, hq_get3, hp_get0, hp_get, hp_get2, hp_get3, hp_set0, hp_set, hp_set2, hp_set3, wr_0, wr_1, wr_2, wr_3, wr_4, wr_n1, lg]
  repeat (first | apply yld_endFn | apply yld_seqK | apply yld_blockK | apply yld_regK | apply yld_opsK | apply yld_putK | apply yld_stgK | apply yld_chkK)
  refine yld_rounds (fun m e k' => ∃ f j, e = toL 43 f ∧ m = vs.length - j ∧ j ≤ vs.length ∧ f 0 = .ptr g 0 0 ∧ f 2 = .int .i64 (j : Nat) ∧ (∀ i (h : i < vs.length), OwnE k' 1 vs[i] (if i < j then marks i 0 (Ls i).length else Ls i)) ∧ Chg k k' (feet vs)) (vs.length - 0) ?_ ?_
  · exact ⟨_, 0, rfl, rfl, Nat.zero_le _, rfl, rfl, fun i h => by simpa using hv i h, Chg.refl _ _⟩
  · rintro J R hJ hR m e k' ⟨f, j, rfl, rfl, hj, f0, f2, ho, hch⟩
    by_cases hjn : j < vs.length
    · have d0 : decide ((j : Int) < (vs.length : Nat)) = true := dec_true (by omega)
      have hwj : IntKind.i64.wrap ((j : Int) + 1) = ((j + 1 : Nat) : Int) := wrap_i64 (by omega) (by omega)
      have hg1B := hch.2 g _ ha.g_feet hgB
      have hg1 := hch.2 g _ ha.g_feet hg
      have hp1 := hp.keep hch ha.p_feet
      obtain ⟨ip, gp⟩ := hp1.idx (i := j) (by simpa using hjn)
      have hx2 : (vs.map fun u => [u])[j]? = some [vs[j]] := by simp [hjn]
      rw [hx2] at gp
      have hoj := ho j hjn
      simp only [Nat.lt_irrefl, if_false] at hoj
      have lu := hoj.grow.rds.len
      have su := hoj.grow.rds.cells
      obtain ⟨⟨ms, k2⟩, e62, _, _, hr, hom, hc2, hf2⟩ := mark_call (i := j) (a := 0) (n := (Ls j).length) (by omega) (by omega) (by have := (hi j).2; omega) k'
      cases hr
      have hg2B := hc2.2 g _ (by simp) hg1B
      have hp2 := hp1.keep hc2 (by simp)
      have hoj2 := hoj.keep hc2 (by simp)
      have hpj := ha.pv j hjn
      have hgj := ha.gv j hjn
      have hms : ∀ c ∈ foot ms, c ∉ foot vs[j] := fun c hc hm => by have := hf2 c hc; have := hoj.lt c hm; omega
      have hfin : ∀ f' k'', f' 0 = .ptr g 0 0 → f' 2 = .int .i64 ((j + 1 : Nat) : Int) → OwnE k'' 1 vs[j] (marks j 0 (Ls j).length) → Chg k2 k'' (foot vs[j]) → ∃ m, m < vs.length - j ∧ J m (toL 43 f') k'' := by
        intro f' k'' q0 q2 qo qc
        refine ⟨vs.length - (j + 1), by omega, hJ _ _ _ ⟨f', j + 1, rfl, rfl, by omega, q0, q2, fun i h => ?_, (hch.trans hc2 (by simp)).trans qc (fun c hc => .inl (mem_feet hjn hc))⟩⟩
        by_cases hij : i = j
        · subst hij; simpa using qo
        · have h0 := ((ho i h).keep hc2 (by simp)).keep qc (ha.vv i j h hjn hij)
          have e1 : (if i < j + 1 then marks i 0 (Ls i).length else Ls i) = (if i < j then marks i 0 (Ls i).length else Ls i) := by
            by_cases h1 : i < j
            · rw [if_pos h1, if_pos (by omega)]
            · rw [if_neg h1, if_neg (by omega)]
          rw [e1]; exact h0
      generalize hvj : vs[j] = u at *
      simp only [Int.natCast_zero] at e62
      simp [yld_some, exec_reg, exec_dreg, exec_seq, exec_cond, exec_block, exec_scope, exec_exit, exec_ret, exec_skip, exec_loop, ops_nil, ops_cons, ops_cons_gd, stages_nil, stages_cons_n, stages_cons_h, recheck, wantsOp, AV.same, sames, evalOp_p, evalOp_r, evalOp_a, evalOp_call, evalOp_callV, evalOp_store, evalOp_append, evalOp_clear, evalOp_mapUpdate, evalOp_delete, pP_move, pP_pick, pP_build, pP_nil_ptr, pP_nil_func, pP_bin, pP_eq, pP_neg, pP_inv, pP_not, pP_convInt, pP_convStr, pP_fieldAddr, pP_field, pP_indexAddr, pP_indexStr, pP_sliceStr, pP_sliceSl, pP_lenStr, pP_lenNil, pP_lenSl, pP_min, pP_max, pP_extract, pP_mkfn, bV_add, bV_sub, bV_mul, bV_quo, bV_rem, bV_and, bV_or, bV_xor, bV_andNot, bV_eql, bV_neq, bV_lss, bV_leq, bV_gtr, bV_geq, bV_shl, bV_shr, bV_str, eV_bool, eV_nn, eV_np, eV_pn, eV_snn, eV_sns, eV_ssn, eV_mnn, eV_mnm, eV_mmn, eV_fnn, eV_fnf, eV_ffn, eV_agg, rP_load, rP_lenNil, rP_str0, rdEl_K, rdK_row, aP_alloc, aP_box, aP_buildSlice, aP_makeSlice, aP_makeMap, aP_toBytes, hP_store, storeK_some, st_K, stK_row, stE_some, cells_agg, cells_bool, scalar_bool, cells_int, scalar_int, cells_str, scalar_str, cells_nilptr, scalar_nilptr, cells_ptr, scalar_ptr, cells_nilslice, scalar_nilslice, cells_slice, scalar_slice, cells_nilmap, scalar_nilmap, cells_map, scalar_map, cells_nilfunc, scalar_nilfunc, cells_func, scalar_func, eqCells, eqLeaf, run_toL, toL_some, ev_toL, getD_toL, put_toL, keep_toL, asc, fput_same, fput_ne, fbase_nil, fbase_cons, fkeep_nil, fkeep_cons, fzero, fnone, List.map_cons, List.map_nil, ev_lit, put_none, resVals, resVal, resOf, partV, fillA, putCells, fillEls, strBin, minV, optNat, appendEls, elsOf, sliceSlV, sliceStrV, List.replicate, List.getElem?_append_left, List.getElem?_append_right, List.set_append_left, List.set_append_right, List.getElem?_set_self, List.getElem?_set_ne, hq_get0, hq_get, hq_get2, hq_get3, hp_get0, hp_get, hp_get2, hp_get3, hp_set0, hp_set, hp_set2, hp_set3, wr_0, wr_1, wr_2, wr_3, wr_4, wr_n1, f0, f2, lg, hg1, get_app hg1, set_app hg1, get_set_same hg1, get_set_app hg1, set_set_app hg1, len_beq hg1, beq_len hg1, ip, gp, d0, hjn, hwj, lu, e62, su.1, su.2.1, su.2.2]
      repeat (first | apply yld_endFn | apply yld_seqK | apply yld_blockK | apply yld_regK | apply yld_opsK | apply yld_putK | apply yld_stgK | apply yld_chkK)
      refine put_loop (by simp [sf36, loopsAll]) hg2B hp2 hjn hvj hoj2 hom.grow.rds (hi j).2 (hi j).1 hgj hpj hms (by rfl) (by rfl) (by rfl) (by rfl) ?_
      intro f' k'' q0 q2 qo qc
      simp [yld_some, exec_reg, exec_dreg, exec_seq, exec_cond, exec_block, exec_scope, exec_exit, exec_ret, exec_skip, exec_loop, ops_nil, ops_cons, ops_cons_gd, stages_nil, stages_cons_n, stages_cons_h, recheck, wantsOp, AV.same, sames, evalOp_p, evalOp_r, evalOp_a, evalOp_call, evalOp_callV, evalOp_store, evalOp_append, evalOp_clear, evalOp_mapUpdate, evalOp_delete, pP_move, pP_pick, pP_build, pP_nil_ptr, pP_nil_func, pP_bin, pP_eq, pP_neg, pP_inv, pP_not, pP_convInt, pP_convStr, pP_fieldAddr, pP_field, pP_indexAddr, pP_indexStr, pP_sliceStr, pP_sliceSl, pP_lenStr, pP_lenNil, pP_lenSl, pP_min, pP_max, pP_extract, pP_mkfn, bV_add, bV_sub, bV_mul, bV_quo, bV_rem, bV_and, bV_or, bV_xor, bV_andNot, bV_eql, bV_neq, bV_lss, bV_leq, bV_gtr, bV_geq, bV_shl, bV_shr, bV_str, eV_bool, eV_nn, eV_np, eV_pn, eV_snn, eV_sns, eV_ssn, eV_mnn, eV_mnm, eV_mmn, eV_fnn, eV_fnf, eV_ffn, eV_agg, rP_load, rP_lenNil, rP_str0, rdEl_K, rdK_row, aP_alloc, aP_box, aP_buildSlice, aP_makeSlice, aP_makeMap, aP_toBytes, hP_store, storeK_some, st_K, stK_row, stE_some, cells_agg, cells_bool, scalar_bool, cells_int, scalar_int, cells_str, scalar_str, cells_nilptr, scalar_nilptr, cells_ptr, scalar_ptr, cells_nilslice, scalar_nilslice, cells_slice, scalar_slice, cells_nilmap, scalar_nilmap, cells_map, scalar_map, cells_nilfunc, scalar_nilfunc, cells_func, scalar_func, eqCells, eqLeaf, run_toL, toL_some, ev_toL, getD_toL, put_toL, keep_toL, asc, fput_same, fput_ne, fbase_nil, fbase_cons, fkeep_nil, fkeep_cons, fzero, fnone, List.map_cons, List.map_nil, ev_lit, put_none, resVals, resVal, resOf, partV, fillA, putCells, fillEls, strBin, minV, optNat, appendEls, elsOf, sliceSlV, sliceStrV, List.replicate, List.getElem?_append_left, List.getElem?_append_right, List.set_append_left, List.set_append_right, List.getElem?_set_self, List.getElem?_set_ne, hq_get0, hq_get, hq_get2, hq_get3, hp_get0, hp_get, hp_get2, hp_get3, hp_set0, hp_set, hp_set2, hp_set3, wr_0, wr_1, wr_2, wr_3, wr_4, wr_n1, q0, q2, hwj]
      exact hfin _ _ (by simp [fput, q0]) rfl qo qc
    · have hjj : j = vs.length := by omega
      have d0 : decide ((j : Int) < (vs.length : Nat)) = false := dec_false (by omega)
      have hg1 := hch.2 g _ ha.g_feet hg
      simp [yld_some, exec_reg, exec_dreg, exec_seq, exec_cond, exec_block, exec_scope, exec_exit, exec_ret, exec_skip, exec_loop, ops_nil, ops_cons, ops_cons_gd, stages_nil, stages_cons_n, stages_cons_h, recheck, wantsOp, AV.same, sames, evalOp_p, evalOp_r, evalOp_a, evalOp_call, evalOp_callV, evalOp_store, evalOp_append, evalOp_clear, evalOp_mapUpdate, evalOp_delete, pP_move, pP_pick, pP_build, pP_nil_ptr, pP_nil_func, pP_bin, pP_eq, pP_neg, pP_inv, pP_not, pP_convInt, pP_convStr, pP_fieldAddr, pP_field, pP_indexAddr, pP_indexStr, pP_sliceStr, pP_sliceSl, pP_lenStr, pP_lenNil, pP_lenSl, pP_min, pP_max, pP_extract, pP_mkfn, bV_add, bV_sub, bV_mul, bV_quo, bV_rem, bV_and, bV_or, bV_xor, bV_andNot, bV_eql, bV_neq, bV_lss, bV_leq, bV_gtr, bV_geq, bV_shl, bV_shr, bV_str, eV_bool, eV_nn, eV_np, eV_pn, eV_snn, eV_sns, eV_ssn, eV_mnn, eV_mnm, eV_mmn, eV_fnn, eV_fnf, eV_ffn, eV_agg, rP_load, rP_lenNil, rP_str0, rdEl_K, rdK_row, aP_alloc, aP_box, aP_buildSlice, aP_makeSlice, aP_makeMap, aP_toBytes, hP_store, storeK_some, st_K, stK_row, stE_some, cells_agg, cells_bool, scalar_bool, cells_int, scalar_int, cells_str, scalar_str, cells_nilptr, scalar_nilptr, cells_ptr, scalar_ptr, cells_nilslice, scalar_nilslice, cells_slice, scalar_slice, cells_nilmap, scalar_nilmap, cells_map, scalar_map, cells_nilfunc, scalar_nilfunc, cells_func, scalar_func, eqCells, eqLeaf, run_toL, toL_some, ev_toL, getD_toL, put_toL, keep_toL, asc, fput_same, fput_ne, fbase_nil, fbase_cons, fkeep_nil, fkeep_cons, fzero, fnone, List.map_cons, List.map_nil, ev_lit, put_none, resVals, resVal, resOf, partV, fillA, putCells, fillEls, strBin, minV, optNat, appendEls, elsOf, sliceSlV, sliceStrV, List.replicate, List.getElem?_append_left, List.getElem?_append_right, List.set_append_left, List.set_append_right, List.getElem?_set_self, List.getElem?_set_ne, hq_get0, hq_get, hq_get2, hq_get3, hp_get0, hp_get, hp_get2, hp_get3, hp_set0, hp_set, hp_set2, hp_set3, wr_0, wr_1, wr_2, wr_3, wr_4, wr_n1, f0, f2, lg, hg1, get_app hg1, set_app hg1, get_set_same hg1, get_set_app hg1, set_set_app hg1, len_beq hg1, beq_len hg1, d0, hjn]
      refine hR _ ?_
      simp [yld_some, exec_reg, exec_dreg, exec_seq, exec_cond, exec_block, exec_scope, exec_exit, exec_ret, exec_skip, exec_loop, ops_nil, ops_cons, ops_cons_gd, stages_nil, stages_cons_n, stages_cons_h, recheck, wantsOp, AV.same, sames, evalOp_p, evalOp_r, evalOp_a, evalOp_call, evalOp_callV, evalOp_store, evalOp_append, evalOp_clear, evalOp_mapUpdate, evalOp_delete, pP_move, pP_pick, pP_build, pP_nil_ptr, pP_nil_func, pP_bin, pP_eq, pP_neg, pP_inv, pP_not, pP_convInt, pP_convStr, pP_fieldAddr, pP_field, pP_indexAddr, pP_indexStr, pP_sliceStr, pP_sliceSl, pP_lenStr, pP_lenNil, pP_lenSl, pP_min, pP_max, pP_extract, pP_mkfn, bV_add, bV_sub, bV_mul, bV_quo, bV_rem, bV_and, bV_or, bV_xor, bV_andNot, bV_eql, bV_neq, bV_lss, bV_leq, bV_gtr, bV_geq, bV_shl, bV_shr, bV_str, eV_bool, eV_nn, eV_np, eV_pn, eV_snn, eV_sns, eV_ssn, eV_mnn, eV_mnm, eV_mmn, eV_fnn, eV_fnf, eV_ffn, eV_agg, rP_load, rP_lenNil, rP_str0, rdEl_K, rdK_row, aP_alloc, aP_box, aP_buildSlice, aP_makeSlice, aP_makeMap, aP_toBytes, hP_store, storeK_some, st_K, stK_row, stE_some, cells_agg, cells_bool, scalar_bool, cells_int, scalar_int, cells_str, scalar_str, cells_nilptr, scalar_nilptr, cells_ptr, scalar_ptr, cells_nilslice, scalar_nilslice, cells_slice, scalar_slice, cells_nilmap, scalar_nilmap, cells_map, scalar_map, cells_nilfunc, scalar_nilfunc, cells_func, scalar_func, eqCells, eqLeaf, run_toL, toL_some, ev_toL, getD_toL, put_toL, keep_toL, asc, fput_same, fput_ne, fbase_nil, fbase_cons, fkeep_nil, fkeep_cons, fzero, fnone, List.map_cons, List.map_nil, ev_lit, put_none, resVals, resVal, resOf, partV, fillA, putCells, fillEls, strBin, minV, optNat, appendEls, elsOf, sliceSlV, sliceStrV, List.replicate, List.getElem?_append_left, List.getElem?_append_right, List.set_append_left, List.set_append_right, List.getElem?_set_self, List.getElem?_set_ne, hq_get0, hq_get, hq_get2, hq_get3, hp_get0, hp_get, hp_get2, hp_get3, hp_set0, hp_set, hp_set2, hp_set3, wr_0, wr_1, wr_2, wr_3, wr_4, wr_n1, f0, f2]
      exact hQ _ ⟨_, rfl, fun i h => by have := ho i h; rwa [if_pos (by omega)] at this, hch⟩
end Go.Proofs.Ytfkhdfnjlegnhaa.Bk
