/- A book of lists: all are grown. -/
import Derived.Test.YtfkhdfnjlegnhaaBookE
set_option maxRecDepth 100000
set_option linter.unusedVariables false
set_option linter.unusedSimpArgs false
namespace Go.Proofs.Ytfkhdfnjlegnhaa.Bk
open Go Go.Eng F

set_option maxHeartbeats 4000000 in
/-- One list is grown by one, and by one. -/
theorem grow_loop {lv : List Nat} {body : SCode} (hb : (loopsAll sf41.body)[1]? = some (lv, body)) {f : Nat → AV} {k : H} {g i n : Nat} {l out : AV}
    (hi : i ≤ 250) (hn : n ≤ 50000) (ho : GrowE k 1 l (marks i 0 n))
    (f0 : f 0 = .ptr g 0 0) (f3 : f 3 = out) (f4 : f 4 = .int .i64 (i : Nat)) (f5 : f 5 = l) (f6 : f 6 = .int .i64 0) {R : (Ex × Env) × H → Prop}
    (hR : ∀ f' k' l', f' 0 = .ptr g 0 0 → f' 3 = out → f' 4 = .int .i64 (i : Nat) → f' 5 = l' → GrowE k' 1 l' (marks i 0 (n + 12)) → RdS k' 1 l (marks i 0 n) → (∀ c ∈ foot l', k.length ≤ c) → Chg k k' (foot l) → R ((.exit 2, toL 43 f'), k')) :
    Yld (itw (fun env => exec (call Fg.fs0 Fg.ex0) itw body (keepFrom lv 0 env)) (toL 43 f) k) R := by
  simp [sf41, loopsAll] at hb
  obtain ⟨rfl, rfl⟩ := hb
  refine yld_rounds (fun m e k' => ∃ f j l', e = toL 43 f ∧ m = 12 - j ∧ j ≤ 12 ∧ f 0 = .ptr g 0 0 ∧ f 3 = out ∧ f 4 = .int .i64 (i : Nat) ∧ f 5 = l' ∧ f 6 = .int .i64 (j : Nat) ∧ GrowE k' 1 l' (marks i 0 (n + j)) ∧ RdS k' 1 l (marks i 0 n) ∧ ((j = 0 ∧ l' = l) ∨ (0 < j ∧ ∀ c ∈ foot l', k.length ≤ c)) ∧ Chg k k' (foot l)) (12 - 0) ?_ ?_
  · exact ⟨_, 0, l, rfl, rfl, Nat.zero_le _, f0, f3, f4, f5, f6, ho, ho.rds, .inl ⟨rfl, rfl⟩, Chg.refl _ _⟩
  · have hol := ho.lt
    clear f0 f3 f4 f5 f6 ho
    rintro J R' hJ hR' m e k' ⟨f, j, l', rfl, rfl, hj, f0, f3, f4, f5, f6, ho, hr, hor, hch⟩
    by_cases hjn : j < 12
    · have d0 : decide ((j : Int) < 12) = true := dec_true (by omega)
      have hwj : IntKind.i64.wrap ((j : Int) + 1) = ((j + 1 : Nat) : Int) := wrap_i64 (by omega) (by omega)
      have ll := ho.rds.len
      rw [marks_len] at ll
      obtain ⟨⟨ms, k2⟩, e62, _, _, hr2, hom, hc2, hf2⟩ := mark_call (i := i) (a := n + j) (n := 1) (by omega) (by omega) (by omega) k'
      cases hr2
      obtain ⟨l2, k3, e9, ho2, hrd2, hc3, hf3⟩ := keep_append (ho.keep hc2 (by simp)) hom.grow.rds (by rw [marks_len]; omega) (marks_scalar _ _ _) (by rw [marks_len, marks_len]; omega)
      have hm2 : marks i 0 (n + j) ++ marks i (n + j) 1 = marks i 0 (n + (j + 1)) := by rw [← Nat.add_assoc, marks_add i 0 (n + j) 1]; simp
      rw [hm2] at ho2
      have hkl := hch.1
      have hk2l := hc2.1
      have hrl : RdS k3 1 l (marks i 0 n) := by
        rcases hor with ⟨rfl, rfl⟩ | ⟨_, hft⟩
        · exact hrd2
        · exact (hr.keep hc2 (by simp)).keep hc3 (fun c hc hm => by have := hol c hc; have := hft c hm; omega)
      have hcl : Chg k k3 (foot l) := by
        refine (hch.trans hc2 (by simp)).trans hc3 (fun c hc => ?_)
        rcases hor with ⟨_, rfl⟩ | ⟨_, hft⟩
        · exact .inl hc
        · exact .inr (hft c hc)
      have e62' : call Fg.fs0 Fg.ex0 64 [.int .i64 (i : Nat), .int .i64 ((n : Int) + (j : Int)), .int .i64 1] k' = some (ms, k2) := by simpa using e62
      have sl := ho.rds.cells
      simp [yld_some, exec_reg, exec_dreg, exec_seq, exec_cond, exec_block, exec_scope, exec_exit, exec_ret, exec_skip, exec_loop, ops_nil, ops_cons, ops_cons_gd, stages_nil, stages_cons_n, stages_cons_h, recheck, wantsOp, AV.same, sames, evalOp_p, evalOp_r, evalOp_a, evalOp_call, evalOp_callV, evalOp_store, evalOp_append, evalOp_clear, evalOp_mapUpdate, evalOp_delete, pP_move, pP_pick, pP_build, pP_nil_ptr, pP_nil_func, pP_bin, pP_eq, pP_neg, pP_inv, pP_not, pP_convInt, pP_convStr, pP_fieldAddr, pP_field, pP_indexAddr, pP_indexStr, pP_sliceStr, pP_sliceSl, pP_lenStr, pP_lenNil, pP_lenSl, pP_min, pP_max, pP_extract, pP_mkfn, bV_add, bV_sub, bV_mul, bV_quo, bV_rem, bV_and, bV_or, bV_xor, bV_andNot, bV_eql, bV_neq, bV_lss, bV_leq, bV_gtr, bV_geq, bV_shl, bV_shr, bV_str, eV_bool, eV_nn, eV_np, eV_pn, eV_snn, eV_sns, eV_ssn, eV_mnn, eV_mnm, eV_mmn, eV_fnn, eV_fnf, eV_ffn, eV_agg, rP_load, rP_lenNil, rP_str0, rdEl_K, rdK_row, aP_alloc, aP_box, aP_buildSlice, aP_makeSlice, aP_makeMap, aP_toBytes, hP_store, storeK_some, st_K, stK_row, stE_some, cells_agg, cells_bool, scalar_bool, cells_int, scalar_int, cells_str, scalar_str, cells_nilptr, scalar_nilptr, cells_ptr, scalar_ptr, cells_nilslice, scalar_nilslice, cells_slice, scalar_slice, cells_nilmap, scalar_nilmap, cells_map, scalar_map, cells_nilfunc, scalar_nilfunc, cells_func, scalar_func, eqCells, eqLeaf, run_toL, toL_some, ev_toL, getD_toL, put_toL, keep_toL, asc, fput_same, fput_ne, fbase_nil, fbase_cons, fkeep_nil, fkeep_cons, fzero, fnone, List.map_cons, List.map_nil, ev_lit, put_none, resVals, resVal, resOf, partV, fillA, putCells, fillEls, strBin, minV, optNat, appendEls, elsOf, sliceSlV, sliceStrV, List.replicate, List.getElem?_append_left, List.getElem?_append_right, List.set_append_left, List.set_append_right, List.getElem?_set_self, List.getElem?_set_ne, hq_get0, hq_get, hq_get2, hq_get3, hp_get0, hp_get, hp_get2, hp_get3, hp_set0, hp_set, hp_set2, hp_set3, wr_0, wr_1, wr_2, wr_3, wr_4, wr_n1, f0, f3, f4, f5, f6, d0, hjn, hwj, ll, e62, e62', e9, sl.1, sl.2.1, sl.2.2]
      exact ⟨12 - (j + 1), by omega, hJ _ _ _ ⟨_, j + 1, l2, rfl, rfl, by omega, rfl, rfl, rfl, rfl, rfl, ho2, hrl, .inr ⟨by omega, fun c hc => by have := hf3 c hc; omega⟩, hcl⟩⟩
    · have : j = 12 := by omega
      subst this
      simp [yld_some, exec_reg, exec_dreg, exec_seq, exec_cond, exec_block, exec_scope, exec_exit, exec_ret, exec_skip, exec_loop, ops_nil, ops_cons, ops_cons_gd, stages_nil, stages_cons_n, stages_cons_h, recheck, wantsOp, AV.same, sames, evalOp_p, evalOp_r, evalOp_a, evalOp_call, evalOp_callV, evalOp_store, evalOp_append, evalOp_clear, evalOp_mapUpdate, evalOp_delete, pP_move, pP_pick, pP_build, pP_nil_ptr, pP_nil_func, pP_bin, pP_eq, pP_neg, pP_inv, pP_not, pP_convInt, pP_convStr, pP_fieldAddr, pP_field, pP_indexAddr, pP_indexStr, pP_sliceStr, pP_sliceSl, pP_lenStr, pP_lenNil, pP_lenSl, pP_min, pP_max, pP_extract, pP_mkfn, bV_add, bV_sub, bV_mul, bV_quo, bV_rem, bV_and, bV_or, bV_xor, bV_andNot, bV_eql, bV_neq, bV_lss, bV_leq, bV_gtr, bV_geq, bV_shl, bV_shr, bV_str, eV_bool, eV_nn, eV_np, eV_pn, eV_snn, eV_sns, eV_ssn, eV_mnn, eV_mnm, eV_mmn, eV_fnn, eV_fnf, eV_ffn, eV_agg, rP_load, rP_lenNil, rP_str0, rdEl_K, rdK_row, aP_alloc, aP_box, aP_buildSlice, aP_makeSlice, aP_makeMap, aP_toBytes, hP_store, storeK_some, st_K, stK_row, stE_some, cells_agg, cells_bool, scalar_bool, cells_int, scalar_int, cells_str, scalar_str, cells_nilptr, scalar_nilptr, cells_ptr, scalar_ptr, cells_nilslice, scalar_nilslice, cells_slice, scalar_slice, cells_nilmap, scalar_nilmap, cells_map, scalar_map, cells_nilfunc, scalar_nilfunc, cells_func, scalar_func, eqCells, eqLeaf, run_toL, toL_some, ev_toL, getD_toL, put_toL, keep_toL, asc, fput_same, fput_ne, fbase_nil, fbase_cons, fkeep_nil, fkeep_cons, fzero, fnone, List.map_cons, List.map_nil, ev_lit, put_none, resVals, resVal, resOf, partV, fillA, putCells, fillEls, strBin, minV, optNat, appendEls, elsOf, sliceSlV, sliceStrV, List.replicate, List.getElem?_append_left, List.getElem?_append_right, List.set_append_left, List.set_append_right, List.getElem?_set_self, List.getElem?_set_ne, hq_get0, hq_get, hq_get2, hq_get3, hp_get0, hp_get, hp_get2, hp_get3, hp_set0, hp_set, hp_set2, hp_set3, wr_0, wr_1, wr_2, wr_3, wr_4, wr_n1, f0, f3, f4, f5, f6]
      rcases hor with ⟨h0, _⟩ | ⟨_, hft⟩
      · omega
      · exact hR' _ (hR _ _ l' rfl rfl rfl rfl ho hr hft hch)
set_option maxHeartbeats 8000000 in
theorem grow_call {k : H} {g : Nat} {pv wv : AV} {vs : List AV} {N : Nat → Nat} (hg : k[g]? = some (bookB pv wv)) (hp : RdS k 1 pv (vs.map fun u => [u])) (hlen : vs.length ≤ 250)
    (hv : ∀ i (h : i < vs.length), OwnE k 1 vs[i] (marks i 0 (N i))) (hN : ∀ i, N i ≤ 50000) (ha : Apt g pv vs) :
    Yld (call Fg.fs0 Fg.ex0 41 [.ptr g 0 0] k) fun r => ∃ (gv : AV) (us : List AV) (k' : H), r = (gv, k') ∧ RdS k' 1 gv (us.map fun u => [u]) ∧ us.length = vs.length ∧ (∀ i (h : i < us.length), RdS k' 1 us[i] (marks i 0 (N i + 72))) ∧ (∀ i (h : i < vs.length), RdS k' 1 vs[i] (marks i 0 (N i))) ∧ Chg k k' (feet vs) := by
  refine yld_shut fun Q hQ => ?_
  rw [call_eq Fg.fs0 Fg.ex0 (f := 41) (sf := sf41) rfl]
  have lg := hp.len
  simp only [List.length_map] at lg
  unfold bookB at hg
  simp [sf41, yld_some, exec_reg, exec_dreg, exec_seq, exec_cond, exec_block, exec_scope, exec_exit, exec_ret, exec_skip, exec_loop, ops_nil, ops_cons, ops_cons_gd, stages_nil, stages_cons_n, stages_cons_h, recheck, wantsOp, AV.same, sames, evalOp_p, evalOp_r, evalOp_a, evalOp_call, evalOp_callV, evalOp_store, evalOp_append, evalOp_clear, evalOp_mapUpdate, evalOp_delete, pP_move, pP_pick, pP_build, pP_nil_ptr, pP_nil_func, pP_bin, pP_eq, pP_neg, pP_inv, pP_not, pP_convInt, pP_convStr, pP_fieldAddr, pP_field, pP_indexAddr, pP_indexStr, pP_sliceStr, pP_sliceSl, pP_lenStr, pP_lenNil, pP_lenSl, pP_min, pP_max, pP_extract, pP_mkfn, bV_add, bV_sub, bV_mul, bV_quo, bV_rem, bV_and, bV_or, bV_xor, bV_andNot, bV_eql, bV_neq, bV_lss, bV_leq, bV_gtr, bV_geq, bV_shl, bV_shr, bV_str, eV_bool, eV_nn, eV_np, eV_pn, eV_snn, eV_sns, eV_ssn, eV_mnn, eV_mnm, eV_mmn, eV_fnn, eV_fnf, eV_ffn, eV_agg, rP_load, rP_lenNil, rP_str0, rdEl_K, rdK_row, aP_alloc, aP_box, aP_buildSlice, aP_makeSlice, aP_makeMap, aP_toBytes, hP_store, storeK_some, st_K, stK_row, stE_some, cells_agg, cells_bool, scalar_bool, cells_int, scalar_int, cells_str, scalar_str, cells_nilptr, scalar_nilptr, cells_ptr, scalar_ptr, cells_nilslice, scalar_nilslice, cells_slice, scalar_slice, cells_nilmap, scalar_nilmap, cells_map, scalar_map, cells_nilfunc, scalar_nilfunc, cells_func, scalar_func, eqCells, eqLeaf, run_toL, toL_some, ev_toL, getD_toL, put_toL, keep_toL, asc, fput_same, fput_ne, fbase_nil, fbase_cons, fkeep_nil, fkeep_cons, fzero, fnone, List.map_cons, List.map_nil, ev_lit, put_none, resVals, resVal, resOf, partV, fillA, putCells, fillEls, strBin, minV, optNat, appendEls, elsOf, sliceSlV, sliceStrV, List.replicate, List.getElem?_append_left, List.getElem?_append_right, List.set_append_left, List.set_append_right, List.getElem?_set_self, List.getElem?_set_ne, hq_get0, hq_get, hq_get2, hq_get3, hp_get0, hp_get, hp_get2, hp_get3, hp_set0, hp_set, hp_set2, hp_set3, wr_0, wr_1, wr_2, wr_3, wr_4, wr_n1, lg]
  repeat (first | apply yld_endFn | apply yld_seqK | apply yld_blockK | apply yld_regK | apply yld_opsK | apply yld_putK | apply yld_stgK | apply yld_chkK)
  refine yld_rounds (fun m e k' => ∃ (f : Nat → AV) (j : Nat) (out : AV) (us : List AV), e = toL 43 f ∧ m = vs.length - j ∧ j ≤ vs.length ∧ f 0 = .ptr g 0 0 ∧ f 3 = out ∧ f 4 = .int .i64 (j : Nat) ∧ us.length = j ∧ GrowE k' 1 out (us.map fun u => [u]) ∧ (∀ c ∈ foot out, k.length ≤ c) ∧ (∀ i (h : i < us.length), GrowE k' 1 us[i] (marks i 0 (N i + 72)) ∧ ∀ c ∈ foot us[i], k.length ≤ c ∧ c ∉ foot out) ∧
    (∀ i (h : i < vs.length), RdS k' 1 vs[i] (marks i 0 (N i)) ∧ (j ≤ i → OwnE k' 1 vs[i] (marks i 0 (N i)))) ∧ Chg k k' (feet vs)) (vs.length - 0) ?_ ?_
  · exact ⟨_, 0, .nilslice, [], rfl, rfl, Nat.zero_le _, rfl, rfl, rfl, rfl, .inl ⟨rfl, rfl⟩, by simp [foot], by simp, fun i h => ⟨(hv i h).grow.rds, fun _ => hv i h⟩, Chg.refl _ _⟩
  · rintro J R hJ hR m e k' ⟨f, j, out, us, rfl, rfl, hj, f0, f3, f4, hus, hout, hofr, hu, hvv, hch⟩
    have hg1 := hch.2 g _ ha.g_feet hg
    have hp1 := hp.keep hch ha.p_feet
    by_cases hjn : j < vs.length
    · have d0 : decide ((j : Int) < (vs.length : Nat)) = true := dec_true (by omega)
      have hwj : IntKind.i64.wrap ((j : Int) + 1) = ((j + 1 : Nat) : Int) := wrap_i64 (by omega) (by omega)
      obtain ⟨ip, gp⟩ := hp1.idx (i := j) (by simpa using hjn)
      have hx2 : (vs.map fun u => [u])[j]? = some [vs[j]] := by simp [hjn]
      rw [hx2] at gp
      have hoj := (hvv j hjn).2 (Nat.le_refl _)
      have su := hoj.grow.rds.cells
      have hNj := hN j
      have hvlt : ∀ i (h : i < vs.length), ∀ c ∈ foot vs[i], c < k.length := fun i h => (hv i h).lt
      -- what is to be shown behind the round
      have hfin : ∀ f' k3 k4 k5 l' l2 out' , Chg k' k3 (foot vs[j]) → GrowE k3 1 l' (marks j 0 (N j + 12)) → RdS k3 1 vs[j] (marks j 0 (N j)) → (∀ c ∈ foot l', k'.length ≤ c) →
          Chg k3 k4 (foot l') → GrowE k4 1 l2 (marks j 0 (N j + 72)) → (∀ c ∈ foot l2, k3.length ≤ c) → Chg k4 k5 (foot out) → GrowE k5 1 out' ((us.map fun u => [u]) ++ [[l2]]) → (∀ c ∈ foot out', k4.length ≤ c) →
          f' 0 = .ptr g 0 0 → f' 3 = out' → f' 4 = .int .i64 ((j + 1 : Nat) : Int) → ∃ m, m < vs.length - j ∧ J m (toL 43 f') k5 := by
        intro f' k3 k4 k5 l' l2 out' c1 o1 r1 n1 c2 o2 n2 c3 o3 n3 q0 q3 q4
        have b0 := hch.1
        have b1 := c1.1
        have b2 := c2.1
        refine ⟨vs.length - (j + 1), by omega, hJ _ _ _ ⟨f', j + 1, out', us ++ [l2], rfl, rfl, by omega, q0, q3, q4, by simp [hus], by simpa using o3, fun c hc => by have := n3 c hc; omega, fun i h => ?_, fun i h => ?_, ?_⟩⟩
        · by_cases hi : i < us.length
          · rw [List.getElem_append_left hi]
            obtain ⟨hr, hf⟩ := hu i hi
            have hlt := hr.lt
            refine ⟨((hr.keep c1 (fun c hc hm => by have := (hf c hc).1; have := hvlt j hjn c hm; omega)).keep c2 (fun c hc hm => by have := hlt c hc; have := n1 c hm; omega)).keep c3 (fun c hc => (hf c hc).2), fun c hc => ⟨(hf c hc).1, fun hm => by have := hlt c hc; have := n3 c hm; omega⟩⟩
          · have hij : i = us.length := by simp at h; omega
            subst hij
            rw [List.getElem_append_right (Nat.le_refl _)]
            simp only [Nat.sub_self, List.getElem_cons_zero]
            rw [hus]
            have hlt := o2.lt
            have holt := hout.lt
            refine ⟨o2.keep c3 (fun c hc hm => by have := n2 c hc; have := holt c hm; omega), fun c hc => ⟨by have := n2 c hc; omega, fun hm => by have := hlt c hc; have := n3 c hm; omega⟩⟩
        · obtain ⟨hr, ho⟩ := hvv i h
          have hfi := hvlt i h
          have k2 : ∀ c ∈ foot vs[i], c ∉ foot l' := fun c hc hm => by have := hfi c hc; have := n1 c hm; omega
          have k3 : ∀ c ∈ foot vs[i], c ∉ foot out := fun c hc hm => by have := hfi c hc; have := hofr c hm; omega
          by_cases hij : i = j
          · subst hij
            exact ⟨(r1.keep c2 k2).keep c3 k3, fun h => by omega⟩
          · have k1 := ha.vv i j h hjn hij
            exact ⟨((hr.keep c1 k1).keep c2 k2).keep c3 k3, fun h' => (((ho (by omega)).keep c1 k1).keep c2 k2).keep c3 k3⟩
        · refine ((hch.trans c1 (fun c hc => .inl (mem_feet hjn hc))).trans c2 (fun c hc => .inr (by have := n1 c hc; omega))).trans c3 (fun c hc => .inr (hofr c hc))
      generalize hvj : vs[j] = u at *
      simp [yld_some, exec_reg, exec_dreg, exec_seq, exec_cond, exec_block, exec_scope, exec_exit, exec_ret, exec_skip, exec_loop, ops_nil, ops_cons, ops_cons_gd, stages_nil, stages_cons_n, stages_cons_h, recheck, wantsOp, AV.same, sames, evalOp_p, evalOp_r, evalOp_a, evalOp_call, evalOp_callV, evalOp_store, evalOp_append, evalOp_clear, evalOp_mapUpdate, evalOp_delete, pP_move, pP_pick, pP_build, pP_nil_ptr, pP_nil_func, pP_bin, pP_eq, pP_neg, pP_inv, pP_not, pP_convInt, pP_convStr, pP_fieldAddr, pP_field, pP_indexAddr, pP_indexStr, pP_sliceStr, pP_sliceSl, pP_lenStr, pP_lenNil, pP_lenSl, pP_min, pP_max, pP_extract, pP_mkfn, bV_add, bV_sub, bV_mul, bV_quo, bV_rem, bV_and, bV_or, bV_xor, bV_andNot, bV_eql, bV_neq, bV_lss, bV_leq, bV_gtr, bV_geq, bV_shl, bV_shr, bV_str, eV_bool, eV_nn, eV_np, eV_pn, eV_snn, eV_sns, eV_ssn, eV_mnn, eV_mnm, eV_mmn, eV_fnn, eV_fnf, eV_ffn, eV_agg, rP_load, rP_lenNil, rP_str0, rdEl_K, rdK_row, aP_alloc, aP_box, aP_buildSlice, aP_makeSlice, aP_makeMap, aP_toBytes, hP_store, storeK_some, st_K, stK_row, stE_some, cells_agg, cells_bool, scalar_bool, cells_int, scalar_int, cells_str, scalar_str, cells_nilptr, scalar_nilptr, cells_ptr, scalar_ptr, cells_nilslice, scalar_nilslice, cells_slice, scalar_slice, cells_nilmap, scalar_nilmap, cells_map, scalar_map, cells_nilfunc, scalar_nilfunc, cells_func, scalar_func, eqCells, eqLeaf, run_toL, toL_some, ev_toL, getD_toL, put_toL, keep_toL, asc, fput_same, fput_ne, fbase_nil, fbase_cons, fkeep_nil, fkeep_cons, fzero, fnone, List.map_cons, List.map_nil, ev_lit, put_none, resVals, resVal, resOf, partV, fillA, putCells, fillEls, strBin, minV, optNat, appendEls, elsOf, sliceSlV, sliceStrV, List.replicate, List.getElem?_append_left, List.getElem?_append_right, List.set_append_left, List.set_append_right, List.getElem?_set_self, List.getElem?_set_ne, hq_get0, hq_get, hq_get2, hq_get3, hp_get0, hp_get, hp_get2, hp_get3, hp_set0, hp_set, hp_set2, hp_set3, wr_0, wr_1, wr_2, wr_3, wr_4, wr_n1, f0, f3, f4, lg, hg1, get_app hg1, set_app hg1, get_set_same hg1, get_set_app hg1, set_set_app hg1, len_beq hg1, beq_len hg1, ip, gp, d0, hjn, hwj, su.1, su.2.1, su.2.2]
      repeat (first | apply yld_endFn | apply yld_seqK | apply yld_blockK | apply yld_regK | apply yld_opsK | apply yld_putK | apply yld_stgK | apply yld_chkK)
      refine grow_loop (by simp [sf41, loopsAll]) (i := j) (n := N j) (by omega) hNj hoj.grow (by rfl) (by rfl) (by rfl) (by rfl) (by rfl) ?_
      intro f' k3 l' q0 q3 q4 q5 o1 r1 n1 c1
      have ll := o1.rds.len
      rw [marks_len] at ll
      obtain ⟨⟨ms, k3'⟩, e62, _, _, hr2, hom, hc2, hf2⟩ := mark_call (i := j) (a := N j + 12) (n := 60) (by omega) (by omega) (by omega) k3
      cases hr2
      obtain ⟨l2, k4, e9, ho2, hrd2, hc3, hf3⟩ := keep_append (o1.keep hc2 (by simp)) hom.grow.rds (by rw [marks_len]; omega) (marks_scalar _ _ _) (by rw [marks_len, marks_len]; omega)
      have hm2 : marks j 0 (N j + 12) ++ marks j (N j + 12) 60 = marks j 0 (N j + 72) := by rw [show N j + 72 = (N j + 12) + 60 by omega, marks_add j 0 (N j + 12) 60]; simp
      rw [hm2] at ho2
      have b2 := hc2.1
      have sl2 := ho2.rds.cells
      have hc4 : Chg k3 (k4 ++ [.row 1 [[l2]] true true]) (foot l') := (hc2.mono (by simp)).trans (hc3.more) (fun c hc => .inl hc)
      have hout3 : GrowE (k4 ++ [.row 1 [[l2]] true true]) 1 out (us.map fun u => [u]) := (hout.keep c1 (fun c hc hm => by have := hofr c hc; have := hvlt j hjn c (by rw [hvj]; exact hm); omega)).keep hc4 (fun c hc hm => by have := hout.lt c hc; have := n1 c hm; omega)
      obtain ⟨out', k5, e10, ho5, hrd5, hc5, hf5⟩ := keep_append hout3 (x := .slice k4.length 1 0 1 1 true) (X := [[l2]]) (.inr <| .inr ⟨k4.length, 1, true, [[l2]], true, true, rfl, by simp, rfl, by simp⟩) (by simp) (by simpa using sl2.2.1) (by simp; omega)
      have e62' : call Fg.fs0 Fg.ex0 64 [.int .i64 (j : Nat), .int .i64 ((N j : Int) + 12), .int .i64 60] k3 = some (ms, k3') := by simpa using e62
      have sl1 := o1.rds.cells
      have so := hout.rds.cells
      simp [yld_some, exec_reg, exec_dreg, exec_seq, exec_cond, exec_block, exec_scope, exec_exit, exec_ret, exec_skip, exec_loop, ops_nil, ops_cons, ops_cons_gd, stages_nil, stages_cons_n, stages_cons_h, recheck, wantsOp, AV.same, sames, evalOp_p, evalOp_r, evalOp_a, evalOp_call, evalOp_callV, evalOp_store, evalOp_append, evalOp_clear, evalOp_mapUpdate, evalOp_delete, pP_move, pP_pick, pP_build, pP_nil_ptr, pP_nil_func, pP_bin, pP_eq, pP_neg, pP_inv, pP_not, pP_convInt, pP_convStr, pP_fieldAddr, pP_field, pP_indexAddr, pP_indexStr, pP_sliceStr, pP_sliceSl, pP_lenStr, pP_lenNil, pP_lenSl, pP_min, pP_max, pP_extract, pP_mkfn, bV_add, bV_sub, bV_mul, bV_quo, bV_rem, bV_and, bV_or, bV_xor, bV_andNot, bV_eql, bV_neq, bV_lss, bV_leq, bV_gtr, bV_geq, bV_shl, bV_shr, bV_str, eV_bool, eV_nn, eV_np, eV_pn, eV_snn, eV_sns, eV_ssn, eV_mnn, eV_mnm, eV_mmn, eV_fnn, eV_fnf, eV_ffn, eV_agg, rP_load, rP_lenNil, rP_str0, rdEl_K, rdK_row, aP_alloc, aP_box, aP_buildSlice, aP_makeSlice, aP_makeMap, aP_toBytes, hP_store, storeK_some, st_K, stK_row, stE_some, cells_agg, cells_bool, scalar_bool, cells_int, scalar_int, cells_str, scalar_str, cells_nilptr, scalar_nilptr, cells_ptr, scalar_ptr, cells_nilslice, scalar_nilslice, cells_slice, scalar_slice, cells_nilmap, scalar_nilmap, cells_map, scalar_map, cells_nilfunc, scalar_nilfunc, cells_func, scalar_func, eqCells, eqLeaf, run_toL, toL_some, ev_toL, getD_toL, put_toL, keep_toL, asc, fput_same, fput_ne, fbase_nil, fbase_cons, fkeep_nil, fkeep_cons, fzero, fnone, List.map_cons, List.map_nil, ev_lit, put_none, resVals, resVal, resOf, partV, fillA, putCells, fillEls, strBin, minV, optNat, appendEls, elsOf, sliceSlV, sliceStrV, List.replicate, List.getElem?_append_left, List.getElem?_append_right, List.set_append_left, List.set_append_right, List.getElem?_set_self, List.getElem?_set_ne, hq_get0, hq_get, hq_get2, hq_get3, hp_get0, hp_get, hp_get2, hp_get3, hp_set0, hp_set, hp_set2, hp_set3, wr_0, wr_1, wr_2, wr_3, wr_4, wr_n1, q0, q3, q4, q5, ll, e62, e62', e9, e10, hwj, sl1.1, sl1.2.1, sl1.2.2, so.1, so.2.1, so.2.2, sl2.1, sl2.2.1, sl2.2.2]
      refine hfin _ k3 _ k5 l' l2 out' c1 o1 r1 n1 hc4 (ho2.keep (Chg.app _ _ []) (by simp)) (fun c hc => by have := hf3 c hc; omega) hc5 ho5 hf5 (by simp [fput, q0]) (by simp [fput]) (by simp [fput])
    · have d0 : decide ((j : Int) < (vs.length : Nat)) = false := dec_false (by omega)
      have so := hout.rds.cells
      simp [yld_some, exec_reg, exec_dreg, exec_seq, exec_cond, exec_block, exec_scope, exec_exit, exec_ret, exec_skip, exec_loop, ops_nil, ops_cons, ops_cons_gd, stages_nil, stages_cons_n, stages_cons_h, recheck, wantsOp, AV.same, sames, evalOp_p, evalOp_r, evalOp_a, evalOp_call, evalOp_callV, evalOp_store, evalOp_append, evalOp_clear, evalOp_mapUpdate, evalOp_delete, pP_move, pP_pick, pP_build, pP_nil_ptr, pP_nil_func, pP_bin, pP_eq, pP_neg, pP_inv, pP_not, pP_convInt, pP_convStr, pP_fieldAddr, pP_field, pP_indexAddr, pP_indexStr, pP_sliceStr, pP_sliceSl, pP_lenStr, pP_lenNil, pP_lenSl, pP_min, pP_max, pP_extract, pP_mkfn, bV_add, bV_sub, bV_mul, bV_quo, bV_rem, bV_and, bV_or, bV_xor, bV_andNot, bV_eql, bV_neq, bV_lss, bV_leq, bV_gtr, bV_geq, bV_shl, bV_shr, bV_str, eV_bool, eV_nn, eV_np, eV_pn, eV_snn, eV_sns, eV_ssn, eV_mnn, eV_mnm, eV_mmn, eV_fnn, eV_fnf, eV_ffn, eV_agg, rP_load, rP_lenNil, rP_str0, rdEl_K, rdK_row, aP_alloc, aP_box, aP_buildSlice, aP_makeSlice, aP_makeMap, aP_toBytes, hP_store, storeK_some, st_K, stK_row, stE_some, cells_agg, cells_bool, scalar_bool, cells_int, scalar_int, cells_str, scalar_str, cells_nilptr, scalar_nilptr, cells_ptr, scalar_ptr, cells_nilslice, scalar_nilslice, cells_slice, scalar_slice, cells_nilmap, scalar_nilmap, cells_map, scalar_map, cells_nilfunc, scalar_nilfunc, cells_func, scalar_func, eqCells, eqLeaf, run_toL, toL_some, ev_toL, getD_toL, put_toL, keep_toL, asc, fput_same, fput_ne, fbase_nil, fbase_cons, fkeep_nil, fkeep_cons, fzero, fnone, List.map_cons, List.map_nil, ev_lit, put_none, resVals, resVal, resOf, partV, fillA, putCells, fillEls, strBin, minV, optNat, appendEls, elsOf, sliceSlV, sliceStrV, List.replicate, List.getElem?_append_left, List.getElem?_append_right, List.set_append_left, List.set_append_right, List.getElem?_set_self, List.getElem?_set_ne, hq_get0, hq_get, hq_get2, hq_get3, hp_get0, hp_get, hp_get2, hp_get3, hp_set0, hp_set, hp_set2, hp_set3, wr_0, wr_1, wr_2, wr_3, wr_4, wr_n1, f0, f3, f4, lg, hg1, get_app hg1, set_app hg1, get_set_same hg1, get_set_app hg1, set_set_app hg1, len_beq hg1, beq_len hg1, d0, hjn]
      refine hR _ ?_
      simp [yld_some, exec_reg, exec_dreg, exec_seq, exec_cond, exec_block, exec_scope, exec_exit, exec_ret, exec_skip, exec_loop, ops_nil, ops_cons, ops_cons_gd, stages_nil, stages_cons_n, stages_cons_h, recheck, wantsOp, AV.same, sames, evalOp_p, evalOp_r, evalOp_a, evalOp_call, evalOp_callV, evalOp_store, evalOp_append, evalOp_clear, evalOp_mapUpdate, evalOp_delete, pP_move, pP_pick, pP_build, pP_nil_ptr, pP_nil_func, pP_bin, pP_eq, pP_neg, pP_inv, pP_not, pP_convInt, pP_convStr, pP_fieldAddr, pP_field, pP_indexAddr, pP_indexStr, pP_sliceStr, pP_sliceSl, pP_lenStr, pP_lenNil, pP_lenSl, pP_min, pP_max, pP_extract, pP_mkfn, bV_add, bV_sub, bV_mul, bV_quo, bV_rem, bV_and, bV_or, bV_xor, bV_andNot, bV_eql, bV_neq, bV_lss, bV_leq, bV_gtr, bV_geq, bV_shl, bV_shr, bV_str, eV_bool, eV_nn, eV_np, eV_pn, eV_snn, eV_sns, eV_ssn, eV_mnn, eV_mnm, eV_mmn, eV_fnn, eV_fnf, eV_ffn, eV_agg, rP_load, rP_lenNil, rP_str0, rdEl_K, rdK_row, aP_alloc, aP_box, aP_buildSlice, aP_makeSlice, aP_makeMap, aP_toBytes, hP_store, storeK_some, st_K, stK_row, stE_some, cells_agg, cells_bool, scalar_bool, cells_int, scalar_int, cells_str, scalar_str, cells_nilptr, scalar_nilptr, cells_ptr, scalar_ptr, cells_nilslice, scalar_nilslice, cells_slice, scalar_slice, cells_nilmap, scalar_nilmap, cells_map, scalar_map, cells_nilfunc, scalar_nilfunc, cells_func, scalar_func, eqCells, eqLeaf, run_toL, toL_some, ev_toL, getD_toL, put_toL, keep_toL, asc, fput_same, fput_ne, fbase_nil, fbase_cons, fkeep_nil, fkeep_cons, fzero, fnone, List.map_cons, List.map_nil, ev_lit, put_none, resVals, resVal, resOf, partV, fillA, putCells, fillEls, strBin, minV, optNat, appendEls, elsOf, sliceSlV, sliceStrV, List.replicate, List.getElem?_append_left, List.getElem?_append_right, List.set_append_left, List.set_append_right, List.getElem?_set_self, List.getElem?_set_ne, hq_get0, hq_get, hq_get2, hq_get3, hp_get0, hp_get, hp_get2, hp_get3, hp_set0, hp_set, hp_set2, hp_set3, wr_0, wr_1, wr_2, wr_3, wr_4, wr_n1, f0, f3, f4, so.1, so.2.1, so.2.2]
      exact hQ _ ⟨out, us, _, rfl, hout.rds, by omega, fun i h => (hu i h).1.rds, fun i h => (hvv i h).1, hch⟩
end Go.Proofs.Ytfkhdfnjlegnhaa.Bk
