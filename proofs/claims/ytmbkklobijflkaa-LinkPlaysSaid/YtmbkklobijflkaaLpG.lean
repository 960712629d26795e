/- Link, with a book beside: a letter's lists are copied. -/
import Derived.Test.YtmbkklobijflkaaLpE
import Derived.Test.YtmbkklobijflkaaBkI
set_option maxRecDepth 100000
set_option linter.unusedVariables false
set_option linter.unusedSimpArgs false
namespace Go.Proofs.Ytmbkklobijflkaa.Lp
open Go Go.Eng F Lk Bk BkI

theorem ownE_sv {k : H} {v : AV} {L : List (List AV)} (o : OwnE k 2 v L) : ∃ y : Sv, v = y.av := by
  rcases o with ⟨rfl, _⟩ | ⟨b, c, x, rfl, _⟩
  · exact ⟨.nil, rfl⟩
  · exact ⟨.sl b L.length c x, rfl⟩
theorem clone_call {k : H} {w : Sv} {X : List It} (hw : RdS k 2 w.av (its X)) (hX : X.length * 48 ≤ 281474976710656) :
    ∃ (y : Sv) (k' : H), call Lp.fs3 Lp.ex3 62 [w.av] k = some (y.av, k') ∧ Chg k k' [] ∧ RdS k' 2 y.av (its X) ∧ ∀ c ∈ foot y.av, k.length ≤ c ∧ c < k'.length := by
  rw [j62]
  cases w with
  | nil =>
    refine ⟨.nil, k, ?_, Chg.refl _ _, hw, by simp [Sv.av, foot]⟩
    simp [sf62, Sv.av, yld_some, exec_reg, exec_dreg, exec_seq, exec_cond, exec_block, exec_scope, exec_exit, exec_ret, exec_skip, exec_loop, ops_nil, ops_cons, ops_cons_gd, stages_nil, stages_cons_n, stages_cons_h, recheck, wantsOp, AV.same, sames, evalOp_p, evalOp_r, evalOp_a, evalOp_call, evalOp_callV, evalOp_store, evalOp_append, evalOp_clear, evalOp_mapUpdate, evalOp_delete, pP_move, pP_pick, pP_build, pP_nil_ptr, pP_nil_func, pP_bin, pP_eq, pP_neg, pP_inv, pP_not, pP_convInt, pP_convStr, pP_fieldAddr, pP_field, pP_indexAddr, pP_indexStr, pP_sliceStr, pP_sliceSl, pP_lenStr, pP_lenNil, pP_lenSl, pP_min, pP_max, pP_extract, pP_mkfn, bV_add, bV_sub, bV_mul, bV_quo, bV_rem, bV_and, bV_or, bV_xor, bV_andNot, bV_eql, bV_neq, bV_lss, bV_leq, bV_gtr, bV_geq, bV_shl, bV_shr, bV_str, eV_bool, eV_nn, eV_np, eV_pn, eV_snn, eV_sns, eV_ssn, eV_mnn, eV_mnm, eV_mmn, eV_fnn, eV_fnf, eV_ffn, eV_agg, rP_load, rP_lenNil, rP_str0, rdEl_K, rdK_row, aP_alloc, aP_box, aP_buildSlice, aP_makeSlice, aP_makeMap, aP_toBytes, hP_store, storeK_some, st_K, stK_row, stE_some, cells_agg, cells_bool, scalar_bool, cells_int, scalar_int, cells_str, scalar_str, cells_nilptr, scalar_nilptr, cells_ptr, scalar_ptr, cells_nilslice, scalar_nilslice, cells_slice, scalar_slice, cells_nilmap, scalar_nilmap, cells_map, scalar_map, cells_nilfunc, scalar_nilfunc, cells_func, scalar_func, eqCells, eqLeaf, run_toL, toL_some, ev_toL, getD_toL, put_toL, keep_toL, asc, fput_same, fput_ne, fbase_nil, fbase_cons, fkeep_nil, fkeep_cons, fzero, fnone, List.map_cons, List.map_nil, ev_lit, put_none, resVals, resVal, resOf, partV, fillA, putCells, fillEls, strBin, minV, optNat, appendEls, elsOf, sliceSlV, sliceStrV, List.replicate, List.getElem?_append_left, List.getElem?_append_right, List.set_append_left, List.set_append_right, List.getElem?_set_self, List.getElem?_set_ne, hq_get0, hq_get, hq_get2, hq_get3, hp_get0, hp_get, hp_get2, hp_get3, hp_set0, hp_set, hp_set2, hp_set3, wr_0, wr_1, wr_2, wr_3, wr_4, wr_n1]
  | sl b n c x =>
    by_cases h0 : X = []
    · subst h0
      refine ⟨.sl k.length 0 0 true, k ++ [.row 2 [] true true], ?_, Chg.app _ _ _, .inr (.inl ⟨k.length, 0, true, rfl, rfl⟩), by simp [Sv.av, foot]⟩
      have hn : n = 0 := by
        rcases hw with ⟨h, _⟩ | ⟨b', c', x', h, _⟩ | ⟨b', c', x', els, wr, ap, h, _⟩
        · simp [Sv.av] at h
        · simp [Sv.av] at h; exact h.2.1
        · simp [Sv.av, its] at h; exact h.2.1
      subst hn
      simp [sf62, Sv.av, appendV, evalHeap, yld_some, exec_reg, exec_dreg, exec_seq, exec_cond, exec_block, exec_scope, exec_exit, exec_ret, exec_skip, exec_loop, ops_nil, ops_cons, ops_cons_gd, stages_nil, stages_cons_n, stages_cons_h, recheck, wantsOp, AV.same, sames, evalOp_p, evalOp_r, evalOp_a, evalOp_call, evalOp_callV, evalOp_store, evalOp_append, evalOp_clear, evalOp_mapUpdate, evalOp_delete, pP_move, pP_pick, pP_build, pP_nil_ptr, pP_nil_func, pP_bin, pP_eq, pP_neg, pP_inv, pP_not, pP_convInt, pP_convStr, pP_fieldAddr, pP_field, pP_indexAddr, pP_indexStr, pP_sliceStr, pP_sliceSl, pP_lenStr, pP_lenNil, pP_lenSl, pP_min, pP_max, pP_extract, pP_mkfn, bV_add, bV_sub, bV_mul, bV_quo, bV_rem, bV_and, bV_or, bV_xor, bV_andNot, bV_eql, bV_neq, bV_lss, bV_leq, bV_gtr, bV_geq, bV_shl, bV_shr, bV_str, eV_bool, eV_nn, eV_np, eV_pn, eV_snn, eV_sns, eV_ssn, eV_mnn, eV_mnm, eV_mmn, eV_fnn, eV_fnf, eV_ffn, eV_agg, rP_load, rP_lenNil, rP_str0, rdEl_K, rdK_row, aP_alloc, aP_box, aP_buildSlice, aP_makeSlice, aP_makeMap, aP_toBytes, hP_store, storeK_some, st_K, stK_row, stE_some, cells_agg, cells_bool, scalar_bool, cells_int, scalar_int, cells_str, scalar_str, cells_nilptr, scalar_nilptr, cells_ptr, scalar_ptr, cells_nilslice, scalar_nilslice, cells_slice, scalar_slice, cells_nilmap, scalar_nilmap, cells_map, scalar_map, cells_nilfunc, scalar_nilfunc, cells_func, scalar_func, eqCells, eqLeaf, run_toL, toL_some, ev_toL, getD_toL, put_toL, keep_toL, asc, fput_same, fput_ne, fbase_nil, fbase_cons, fkeep_nil, fkeep_cons, fzero, fnone, List.map_cons, List.map_nil, ev_lit, put_none, resVals, resVal, resOf, partV, fillA, putCells, fillEls, strBin, minV, optNat, appendEls, elsOf, sliceSlV, sliceStrV, List.replicate, List.getElem?_append_left, List.getElem?_append_right, List.set_append_left, List.set_append_right, List.getElem?_set_self, List.getElem?_set_ne, hq_get0, hq_get, hq_get2, hq_get3, hp_get0, hp_get, hp_get2, hp_get3, hp_set0, hp_set, hp_set2, hp_set3, wr_0, wr_1, wr_2, wr_3, wr_4, wr_n1]
    · have hpos : 0 < (its X).length := by rw [its_len]; exact List.length_pos_iff.2 h0
      have hel := rds_els (rds_app (k := [.row 2 [] true true]) hw)
      have hsc : ((its X).all fun e => e.all AV.scalar) = true := by simpa using its_scalar X
      have hX0 : (its X).length ≠ 0 := by omega
      have hX1 : its X ≠ [] := by intro h; rw [h] at hpos; simp at hpos
      have hw1 : (its X).length ≤ 4294967296 ∨ (its X).length * 48 ≤ 281474976710656 := .inr (by rw [its_len]; exact hX)
      have e : appendV 2 false (.slice k.length 2 0 0 0 true) (Sv.sl b n c x).av (k ++ [.row 2 [] true true]) = some (.slice (k.length + 1) 2 0 (its X).length (its X).length false, k ++ [.row 2 [] true true] ++ [.row 2 (its X) true true]) := by
        have hb : (k ++ [Blk.row 2 [] true true])[k.length]? = some (.row 2 [] true true) := by simp
        simp [appendV, evalHeap, hel, appendEls, hX0, hX1, hw1, hpos]
        exact its_scalar X
      refine ⟨.sl (k.length + 1) (its X).length (its X).length false, k ++ [.row 2 [] true true] ++ [.row 2 (its X) true true], ?_, ⟨by simp, fun z y _ hy => get_app (get_app hy)⟩, .inr (.inr ⟨k.length + 1, (its X).length, false, its X, true, true, rfl, by simp, List.take_length, Nat.le_refl _⟩), by simp [Sv.av, foot]⟩
      simp only [Sv.av] at e ⊢
      simp [sf62, yld_some, exec_reg, exec_dreg, exec_seq, exec_cond, exec_block, exec_scope, exec_exit, exec_ret, exec_skip, exec_loop, ops_nil, ops_cons, ops_cons_gd, stages_nil, stages_cons_n, stages_cons_h, recheck, wantsOp, AV.same, sames, evalOp_p, evalOp_r, evalOp_a, evalOp_call, evalOp_callV, evalOp_store, evalOp_append, evalOp_clear, evalOp_mapUpdate, evalOp_delete, pP_move, pP_pick, pP_build, pP_nil_ptr, pP_nil_func, pP_bin, pP_eq, pP_neg, pP_inv, pP_not, pP_convInt, pP_convStr, pP_fieldAddr, pP_field, pP_indexAddr, pP_indexStr, pP_sliceStr, pP_sliceSl, pP_lenStr, pP_lenNil, pP_lenSl, pP_min, pP_max, pP_extract, pP_mkfn, bV_add, bV_sub, bV_mul, bV_quo, bV_rem, bV_and, bV_or, bV_xor, bV_andNot, bV_eql, bV_neq, bV_lss, bV_leq, bV_gtr, bV_geq, bV_shl, bV_shr, bV_str, eV_bool, eV_nn, eV_np, eV_pn, eV_snn, eV_sns, eV_ssn, eV_mnn, eV_mnm, eV_mmn, eV_fnn, eV_fnf, eV_ffn, eV_agg, rP_load, rP_lenNil, rP_str0, rdEl_K, rdK_row, aP_alloc, aP_box, aP_buildSlice, aP_makeSlice, aP_makeMap, aP_toBytes, hP_store, storeK_some, st_K, stK_row, stE_some, cells_agg, cells_bool, scalar_bool, cells_int, scalar_int, cells_str, scalar_str, cells_nilptr, scalar_nilptr, cells_ptr, scalar_ptr, cells_nilslice, scalar_nilslice, cells_slice, scalar_slice, cells_nilmap, scalar_nilmap, cells_map, scalar_map, cells_nilfunc, scalar_nilfunc, cells_func, scalar_func, eqCells, eqLeaf, run_toL, toL_some, ev_toL, getD_toL, put_toL, keep_toL, asc, fput_same, fput_ne, fbase_nil, fbase_cons, fkeep_nil, fkeep_cons, fzero, fnone, List.map_cons, List.map_nil, ev_lit, put_none, resVals, resVal, resOf, partV, fillA, putCells, fillEls, strBin, minV, optNat, appendEls, elsOf, sliceSlV, sliceStrV, List.replicate, List.getElem?_append_left, List.getElem?_append_right, List.set_append_left, List.set_append_right, List.getElem?_set_self, List.getElem?_set_ne, hq_get0, hq_get, hq_get2, hq_get3, hp_get0, hp_get, hp_get2, hp_get3, hp_set0, hp_set, hp_set2, hp_set3, wr_0, wr_1, wr_2, wr_3, wr_4, wr_n1, e]
set_option maxHeartbeats 4000000 in
theorem own_call {k : H} {y : Lv} {X1 X2 : List It} (h1 : RdS k 2 y.s1.av (its X1)) (h2 : RdS k 2 y.s2.av (its X2)) (l1 : X1.length * 48 ≤ 281474976710656) (l2 : X2.length * 48 ≤ 281474976710656) :
    ∃ (z : Lv) (k' : H), call Lp.fs3 Lp.ex3 28 [.agg y.av] k = some (.agg z.av, k') ∧ z.x = y.x ∧ Chg k k' [] ∧ RdS k' 2 z.s1.av (its X1) ∧ RdS k' 2 z.s2.av (its X2) ∧ ∀ c, c ∈ foot z.s1.av ∨ c ∈ foot z.s2.av → k.length ≤ c ∧ c < k'.length := by
  obtain ⟨x, s1, s2⟩ := y
  simp only at h1 h2
  obtain ⟨B, hB⟩ : ∃ B : H, B = [.row 21 [Lv.av ⟨x, s1, s2⟩] true true, .row 21 [Lt.zero.av] true true] := ⟨_, rfl⟩
  have hBl : B.length = 2 := by rw [hB]; rfl
  have g0 : (k ++ B)[k.length]? = some (.row 21 [Lv.av ⟨x, s1, s2⟩] true true) := by rw [hB]; simp
  have g0' : (k ++ B)[k.length + 1]? = some (.row 21 [Lt.zero.av] true true) := by rw [hB]; simp
  obtain ⟨z2, k1, e1, c1, r2, f2⟩ := clone_call (k := k ++ B) (rds_app h2) l2
  have g1 := c1.2 _ _ (by simp) g0
  have g1' := c1.2 _ _ (by simp) g0'
  have kl1 := c1.1
  rw [List.length_append, hBl] at kl1
  obtain ⟨A1, hA1⟩ : ∃ A : Blk, A = .row 21 [Lv.av ⟨x, s1, z2⟩] true true := ⟨_, rfl⟩
  have ck1 : Chg k k1 [] := (Chg.app k B []).trans c1 (by simp)
  have ca : Chg k (k1.set k.length A1) [] := ck1.set (.inr (Nat.le_refl _))
  have g2 : (k1.set k.length A1)[k.length]? = some A1 := get_set_same g1
  have g2' : (k1.set k.length A1)[k.length + 1]? = some (.row 21 [Lt.zero.av] true true) := (List.getElem?_set_ne (by omega)).trans g1'
  have f2' : ∀ c ∈ foot z2.av, k.length + 2 ≤ c := fun c hc => by have := (f2 c hc).1; simp [hBl] at this; exact this
  have r2a : RdS (k1.set k.length A1) 2 z2.av (its X2) := r2.keep ((Chg.refl k1 [k.length]).set (.inl (by simp))) (fun c hc => by have := f2' c hc; simp; omega)
  obtain ⟨z1, k2, e2, c2, r1, f1⟩ := clone_call (k := k1.set k.length A1) (h1.keep ca (by simp)) l1
  have kl2 := c2.1
  simp only [List.length_set] at kl2
  have g3 := c2.2 _ _ (by simp) g2
  have g3' := c2.2 _ _ (by simp) g2'
  have f1' : ∀ c ∈ foot z1.av, k1.length ≤ c := fun c hc => by have := (f1 c hc).1; simpa using this
  have r2b := r2a.keep c2 (by simp)
  obtain ⟨A2, hA2⟩ : ∃ A : Blk, A = .row 21 [Lv.av ⟨x, z1, z2⟩] true true := ⟨_, rfl⟩
  have g4 : (k2.set k.length A2)[k.length]? = some A2 := get_set_same g3
  have g4' : (k2.set k.length A2)[k.length + 1]? = some (.row 21 [Lt.zero.av] true true) := (List.getElem?_set_ne (by omega)).trans g3'
  have g5 : ((k2.set k.length A2).set (k.length + 1) A2)[k.length + 1]? = some A2 := get_set_same g4'
  have cb : Chg k2 ((k2.set k.length A2).set (k.length + 1) A2) [k.length, k.length + 1] := ((Chg.refl _ _).set (.inl (by simp))).set (.inl (by simp))
  have hkl2 : k.length + 2 ≤ k2.length := by omega
  have rf1 := r1.keep cb (fun c hc => by have := f1' c hc; simp; omega)
  have rf2 := r2b.keep cb (fun c hc => by have := f2' c hc; simp; omega)
  refine ⟨⟨x, z1, z2⟩, (k2.set k.length A2).set (k.length + 1) A2, ?_, rfl, ((ca.trans c2 (by simp)).set (.inr (by omega))).set (.inr (by omega)), rf1, rf2, fun c hc => ?_⟩
  · rw [j28]
    subst hB hA1 hA2
    unfold Lv.av at *
    unfold Lt.zero Lt.av at *
    simp [sf28, yld_some, exec_reg, exec_dreg, exec_seq, exec_cond, exec_block, exec_scope, exec_exit, exec_ret, exec_skip, exec_loop, ops_nil, ops_cons, ops_cons_gd, stages_nil, stages_cons_n, stages_cons_h, recheck, wantsOp, AV.same, sames, evalOp_p, evalOp_r, evalOp_a, evalOp_call, evalOp_callV, evalOp_store, evalOp_append, evalOp_clear, evalOp_mapUpdate, evalOp_delete, pP_move, pP_pick, pP_build, pP_nil_ptr, pP_nil_func, pP_bin, pP_eq, pP_neg, pP_inv, pP_not, pP_convInt, pP_convStr, pP_fieldAddr, pP_field, pP_indexAddr, pP_indexStr, pP_sliceStr, pP_sliceSl, pP_lenStr, pP_lenNil, pP_lenSl, pP_min, pP_max, pP_extract, pP_mkfn, bV_add, bV_sub, bV_mul, bV_quo, bV_rem, bV_and, bV_or, bV_xor, bV_andNot, bV_eql, bV_neq, bV_lss, bV_leq, bV_gtr, bV_geq, bV_shl, bV_shr, bV_str, eV_bool, eV_nn, eV_np, eV_pn, eV_snn, eV_sns, eV_ssn, eV_mnn, eV_mnm, eV_mmn, eV_fnn, eV_fnf, eV_ffn, eV_agg, rP_load, rP_lenNil, rP_str0, rdEl_K, rdK_row, aP_alloc, aP_box, aP_buildSlice, aP_makeSlice, aP_makeMap, aP_toBytes, hP_store, storeK_some, st_K, stK_row, stE_some, cells_agg, cells_bool, scalar_bool, cells_int, scalar_int, cells_str, scalar_str, cells_nilptr, scalar_nilptr, cells_ptr, scalar_ptr, cells_nilslice, scalar_nilslice, cells_slice, scalar_slice, cells_nilmap, scalar_nilmap, cells_map, scalar_map, cells_nilfunc, scalar_nilfunc, cells_func, scalar_func, eqCells, eqLeaf, run_toL, toL_some, ev_toL, getD_toL, put_toL, keep_toL, asc, fput_same, fput_ne, fbase_nil, fbase_cons, fkeep_nil, fkeep_cons, fzero, fnone, List.map_cons, List.map_nil, ev_lit, put_none, resVals, resVal, resOf, partV, fillA, putCells, fillEls, strBin, minV, optNat, appendEls, elsOf, sliceSlV, sliceStrV, List.replicate, List.getElem?_append_left, List.getElem?_append_right, List.set_append_left, List.set_append_right, List.getElem?_set_self, List.getElem?_set_ne, hq_get0, hq_get, hq_get2, hq_get3, hp_get0, hp_get, hp_get2, hp_get3, hp_set0, hp_set, hp_set2, hp_set3, wr_0, wr_1, wr_2, wr_3, wr_4, wr_n1, e1, e2, g1, get_app g1, set_app g1, get_set_same g1, get_set_app g1, set_set_app g1, len_beq g1, beq_len g1, g2, get_app g2, set_app g2, get_set_same g2, get_set_app g2, set_set_app g2, len_beq g2, beq_len g2, g3, get_app g3, set_app g3, get_set_same g3, get_set_app g3, set_set_app g3, len_beq g3, beq_len g3, g3', get_app g3', set_app g3', get_set_same g3', get_set_app g3', set_set_app g3', len_beq g3', beq_len g3', g4, g4', g5, sv_cells, sv_scalar, sv_same]
  · simp only [List.length_set]
    rcases hc with hc | hc
    · have := f1' c hc; have := (f1 c hc).2; omega
    · have := f2' c hc; have := (f2 c hc).2; omega
end Go.Proofs.Ytmbkklobijflkaa.Lp
