/- A book of lists: letters copied, with their items. -/
import Derived.Test.YtmbkklobijflkaaBkM
set_option maxRecDepth 100000
set_option linter.unusedVariables false
set_option linter.unusedSimpArgs false
namespace Go.Proofs.Ytmbkklobijflkaa.BkL
open Go Go.Eng F Bk BkI

theorem set_at {α : Type} {A B : List α} {x y : α} {n : Nat} (h : n = A.length) : (A ++ x :: B).set n y = A ++ y :: B := by subst h; simp
set_option maxHeartbeats 8000000 in
theorem copy_call {k : H} {v : AV} {L : List (List AV)} {X : List Ltr} (hx : RdS k 21 v L) (hL : Reps k L X) (hs : ∀ x ∈ X, x.small) (hlen : X.length ≤ 100000) :
    Yld (call Lp.fs3 Lp.ex3 32 [v] k) fun r => ∃ c k' M, r = (c, k') ∧ OwnE k' 21 c M ∧ Reps k' M X ∧ Chg k k' [] ∧ (∀ x ∈ foot c, k.length ≤ x) ∧ (∀ e ∈ M, ∀ a ∈ e, ∀ x ∈ foot0 a, k.length ≤ x ∧ x ∉ foot c) := by
  have eL := hL.len
  obtain ⟨c0, k0, e0, o0, ch0, f0⟩ := nil_append hx hL.scalar (by omega)
  refine yld_shut fun Q hQ => ?_
  rw [call_eq Lp.fs3 Lp.ex3 (f := 32) (sf := sf32) rfl]
  have s0 := o0.rds.cells
  have hlt0 := o0.lt
  simp [sf32, yld_some, exec_reg, exec_dreg, exec_seq, exec_cond, exec_block, exec_scope, exec_exit, exec_ret, exec_skip, exec_loop, ops_nil, ops_cons, ops_cons_gd, stages_nil, stages_cons_n, stages_cons_h, recheck, wantsOp, AV.same, sames, evalOp_p, evalOp_r, evalOp_a, evalOp_call, evalOp_callV, evalOp_store, evalOp_append, evalOp_clear, evalOp_mapUpdate, evalOp_delete, pP_move, pP_pick, pP_build, pP_nil_ptr, pP_nil_func, pP_bin, pP_eq, pP_neg, pP_inv, pP_not, pP_convInt, pP_convStr, pP_fieldAddr, pP_field, pP_indexAddr, pP_indexStr, pP_sliceStr, pP_sliceSl, pP_lenStr, pP_lenNil, pP_lenSl, pP_min, pP_max, pP_extract, pP_mkfn, bV_add, bV_sub, bV_mul, bV_quo, bV_rem, bV_and, bV_or, bV_xor, bV_andNot, bV_eql, bV_neq, bV_lss, bV_leq, bV_gtr, bV_geq, bV_shl, bV_shr, bV_str, eV_bool, eV_nn, eV_np, eV_pn, eV_snn, eV_sns, eV_ssn, eV_mnn, eV_mnm, eV_mmn, eV_fnn, eV_fnf, eV_ffn, eV_agg, rP_load, rP_lenNil, rP_str0, rdEl_K, rdK_row, aP_alloc, aP_box, aP_buildSlice, aP_makeSlice, aP_makeMap, aP_toBytes, hP_store, storeK_some, st_K, stK_row, stE_some, cells_agg, cells_bool, scalar_bool, cells_int, scalar_int, cells_str, scalar_str, cells_nilptr, scalar_nilptr, cells_ptr, scalar_ptr, cells_nilslice, scalar_nilslice, cells_slice, scalar_slice, cells_nilmap, scalar_nilmap, cells_map, scalar_map, cells_nilfunc, scalar_nilfunc, cells_func, scalar_func, eqCells, eqLeaf, run_toL, toL_some, ev_toL, getD_toL, put_toL, keep_toL, asc, fput_same, fput_ne, fbase_nil, fbase_cons, fkeep_nil, fkeep_cons, fzero, fnone, List.map_cons, List.map_nil, ev_lit, put_none, resVals, resVal, resOf, partV, fillA, putCells, fillEls, strBin, minV, optNat, appendEls, elsOf, sliceSlV, sliceStrV, List.replicate, List.getElem?_append_left, List.getElem?_append_right, List.set_append_left, List.set_append_right, List.getElem?_set_self, List.getElem?_set_ne, hq_get0, hq_get, hq_get2, hq_get3, hp_get0, hp_get, hp_get2, hp_get3, hp_set0, hp_set, hp_set2, hp_set3, wr_0, wr_1, wr_2, wr_3, wr_4, wr_n1, e0]
  repeat (first | apply yld_endFn | apply yld_seqK | apply yld_blockK | apply yld_regK | apply yld_opsK | apply yld_putK | apply yld_stgK | apply yld_chkK)
  refine yld_rounds (fun m e k' => ∃ (f : Nat → AV) (j : Nat) (N : List (List AV)), e = toL 35 f ∧ m = X.length - j ∧ j ≤ X.length ∧ f 0 = c0 ∧ f 3 = .int .i64 (j : Nat) ∧ N.length = j ∧ OwnE k' 21 c0 (N ++ L.drop j) ∧ Reps k' N (X.take j) ∧ Chg k k' [] ∧ k0.length ≤ k'.length ∧ (∀ e ∈ N, ∀ a ∈ e, ∀ x ∈ foot0 a, k0.length ≤ x)) (X.length - 0) ?_ ?_
  · exact ⟨_, 0, [], rfl, rfl, Nat.zero_le _, rfl, rfl, rfl, by simpa using o0, by simpa using reps_nil k0, ch0, Nat.le_refl _, by simp⟩
  · rintro J R hJ hR m e k' ⟨f, j, N, rfl, rfl, hj, f0', f3, hN, ho, hreps, hch, hkl, hfr⟩
    have lo := ho.rds.len
    have lE : (N ++ L.drop j).length = X.length := by simp; omega
    rw [lE] at lo
    by_cases hjn : j < X.length
    · have d0 : decide ((j : Int) < (X.length : Nat)) = true := dec_true (by omega)
      have hwj : IntKind.i64.wrap ((j : Int) + 1) = ((j + 1 : Nat) : Int) := wrap_i64 (by omega) (by omega)
      have hjL : j < L.length := by omega
      -- the letter
      obtain ⟨v1, v2, hc1, h1, h2⟩ := (hL.at_ j hjL hjn).keep hch (by simp)
      have hsm := hs _ (List.getElem_mem hjn)
      generalize hxj : X[j] = x at *
      have hdrop : L.drop j = x.av v1 v2 :: L.drop (j + 1) := by rw [List.drop_eq_getElem_cons hjL, hc1]
      rw [hdrop] at ho lE
      have s1 := h1.cells
      have s2 := h2.cells
      -- both copies
      obtain ⟨⟨a1, k1⟩, e1, _, _, hr, oa1, c1, fa1⟩ := copy_its h2 (by have := hsm.2; omega)
      cases hr
      obtain ⟨⟨a2, k2⟩, e2, _, _, hr, oa2, c2, fa2⟩ := copy_its (h1.keep c1 (by simp)) (by have := hsm.1; omega)
      cases hr
      have sa1 := oa1.rds.cells
      have sa2 := oa2.rds.cells
      have l1 := c1.1
      have l2 := c2.1
      rcases ho with ⟨_, h0⟩ | ⟨b, cp, xx, hv, hb, hcp⟩
      · simp at h0
      · rw [lE] at hv hcp
        have hbl := (List.getElem?_eq_some_iff.1 hb).1
        have hb1 := c1.2 b _ (by simp) hb
        have hb2 := c2.2 b _ (by simp) hb1
        have hbf : b ∈ foot c0 := by rw [hv]; simp [foot]
        have hbk0 := hlt0 b hbf
        have hg1 : (N ++ x.av v1 v2 :: L.drop (j + 1))[j]? = some (x.av v1 v2) := by rw [List.getElem?_append_right (by omega), hN]; simp
        have hjE : j < (N ++ x.av v1 v2 :: L.drop (j + 1)).length := by rw [lE]; exact hjn
        have hg1' : (N ++ x.av v1 v2 :: L.drop (j + 1))[j] = x.av v1 v2 := by
          have h0 := List.getElem?_eq_getElem hjE
          rw [hg1] at h0; exact (Option.some.inj h0).symm
        have hset1 : ∀ y, (N ++ x.av v1 v2 :: L.drop (j + 1)).set j y = N ++ y :: L.drop (j + 1) := fun y => set_at hN.symm
        have hset2 : ∀ y z, (N ++ y :: L.drop (j + 1)).set j z = N ++ z :: L.drop (j + 1) := fun y z => set_at hN.symm
        have hgy : ∀ y, (N ++ y :: L.drop (j + 1))[j]? = some y := fun y => by rw [List.getElem?_append_right (by omega), hN]; simp
        have hly : ∀ y, (N ++ y :: L.drop (j + 1)).length = X.length := fun y => by rw [← lE]; simp
        have hjy : ∀ y, j < (N ++ y :: L.drop (j + 1)).length := fun y => by rw [hly]; exact hjn
        have hgy' : ∀ y (h : j < (N ++ y :: L.drop (j + 1)).length), (N ++ y :: L.drop (j + 1))[j] = y := fun y h => by
          have h0 := List.getElem?_eq_getElem h
          rw [hgy] at h0; exact (Option.some.inj h0).symm
        have hgs : ∀ y, (k2.set b (.row 21 (N ++ y :: L.drop (j + 1)) true true))[b]? = some (.row 21 (N ++ y :: L.drop (j + 1)) true true) := fun y => get_set_same hb2
        have fin : ∀ f', f' 0 = c0 → f' 3 = .int .i64 ((j + 1 : Nat) : Int) → ∃ m, m < X.length - j ∧ J m (toL 35 f') (k2.set b (.row 21 (N ++ x.av a2 a1 :: L.drop (j + 1)) true true)) := by
          intro f' q0 q3
          have cs : Chg k2 (k2.set b (.row 21 (N ++ x.av a2 a1 :: L.drop (j + 1)) true true)) [b] := (Chg.refl _ _).set (.inl (by simp))
          have cAll : Chg k (k2.set b (.row 21 (N ++ x.av a2 a1 :: L.drop (j + 1)) true true)) [] := ((hch.trans c1 (by simp)).trans c2 (by simp)).trans cs (fun c hc => .inr (by simp at hc; subst hc; exact f0 _ hbf))
          have cK : Chg k' (k2.set b (.row 21 (N ++ x.av a2 a1 :: L.drop (j + 1)) true true)) [b] := ((c1.trans c2 (by simp)).mono (by simp)).trans cs (fun c hc => .inl hc)
          have na1 : b ∉ foot a1 := fun h => by have := fa1 b h; omega
          have na2 : b ∉ foot a2 := fun h => by have := fa2 b h; omega
          have hrep : RepL (k2.set b (.row 21 (N ++ x.av a2 a1 :: L.drop (j + 1)) true true)) (x.av a2 a1) x :=
            ⟨a2, a1, rfl, oa2.rds.keep cs (by intro c hc; simp; rintro rfl; exact na2 hc), (oa1.rds.keep c2 (by simp)).keep cs (by intro c hc; simp; rintro rfl; exact na1 hc)⟩
          refine ⟨X.length - (j + 1), by omega, hJ _ _ _ ⟨f', j + 1, N ++ [x.av a2 a1], rfl, rfl, hjn, q0, q3, by simp [hN], ?_, ?_, cAll, by simp; omega, ?_⟩⟩
          · have : N ++ [x.av a2 a1] ++ L.drop (j + 1) = N ++ x.av a2 a1 :: L.drop (j + 1) := by simp
            rw [this]
            exact .inr ⟨b, cp, xx, by rw [hly]; exact hv, get_set_same hb2, by rw [hly]; exact hcp⟩
          · have htk : X.take (j + 1) = X.take j ++ [x] := by rw [take_succ_get hjn, hxj]
            rw [htk]
            exact (hreps.keep cK (fun e he a ha c hc => by simp; rintro rfl; have := hfr e he a ha c hc; omega)).snoc hrep
          · intro e he a ha z hz
            rcases List.mem_append.1 he with he | he
            · exact hfr e he a ha z hz
            · simp only [List.mem_singleton] at he
              subst he
              simp only [Ltr.av, List.mem_cons, List.not_mem_nil, or_false] at ha
              rcases ha with rfl | rfl | rfl | rfl | rfl | rfl | rfl | rfl | rfl | rfl | rfl | rfl | rfl | rfl | rfl | rfl | rfl | rfl | rfl | rfl | rfl
              all_goals first | (simp [foot0] at hz; done) | (have := fa1 z (foot0_sub hz); omega) | (have := fa2 z (foot0_sub hz); omega)
        clear hreps hfr
        rw [hv] at f0' fin
        unfold Ltr.av at hg1 hg1' hset1 hb hb1 hb2 fin hjE hgs
        simp [yld_some, exec_reg, exec_dreg, exec_seq, exec_cond, exec_block, exec_scope, exec_exit, exec_ret, exec_skip, exec_loop, ops_nil, ops_cons, ops_cons_gd, stages_nil, stages_cons_n, stages_cons_h, recheck, wantsOp, AV.same, sames, evalOp_p, evalOp_r, evalOp_a, evalOp_call, evalOp_callV, evalOp_store, evalOp_append, evalOp_clear, evalOp_mapUpdate, evalOp_delete, pP_move, pP_pick, pP_build, pP_nil_ptr, pP_nil_func, pP_bin, pP_eq, pP_neg, pP_inv, pP_not, pP_convInt, pP_convStr, pP_fieldAddr, pP_field, pP_indexAddr, pP_indexStr, pP_sliceStr, pP_sliceSl, pP_lenStr, pP_lenNil, pP_lenSl, pP_min, pP_max, pP_extract, pP_mkfn, bV_add, bV_sub, bV_mul, bV_quo, bV_rem, bV_and, bV_or, bV_xor, bV_andNot, bV_eql, bV_neq, bV_lss, bV_leq, bV_gtr, bV_geq, bV_shl, bV_shr, bV_str, eV_bool, eV_nn, eV_np, eV_pn, eV_snn, eV_sns, eV_ssn, eV_mnn, eV_mnm, eV_mmn, eV_fnn, eV_fnf, eV_ffn, eV_agg, rP_load, rP_lenNil, rP_str0, rdEl_K, rdK_row, aP_alloc, aP_box, aP_buildSlice, aP_makeSlice, aP_makeMap, aP_toBytes, hP_store, storeK_some, st_K, stK_row, stE_some, cells_agg, cells_bool, scalar_bool, cells_int, scalar_int, cells_str, scalar_str, cells_nilptr, scalar_nilptr, cells_ptr, scalar_ptr, cells_nilslice, scalar_nilslice, cells_slice, scalar_slice, cells_nilmap, scalar_nilmap, cells_map, scalar_map, cells_nilfunc, scalar_nilfunc, cells_func, scalar_func, eqCells, eqLeaf, run_toL, toL_some, ev_toL, getD_toL, put_toL, keep_toL, asc, fput_same, fput_ne, fbase_nil, fbase_cons, fkeep_nil, fkeep_cons, fzero, fnone, List.map_cons, List.map_nil, ev_lit, put_none, resVals, resVal, resOf, partV, fillA, putCells, fillEls, strBin, minV, optNat, appendEls, elsOf, sliceSlV, sliceStrV, List.replicate, List.getElem?_append_left, List.getElem?_append_right, List.set_append_left, List.set_append_right, List.getElem?_set_self, List.getElem?_set_ne, hq_get0, hq_get, hq_get2, hq_get3, hp_get0, hp_get, hp_get2, hp_get3, hp_set0, hp_set, hp_set2, hp_set3, wr_0, wr_1, wr_2, wr_3, wr_4, wr_n1, f0', f3, lo, hjn, d0, hwj, hb, get_app hb, set_app hb, get_set_same hb, get_set_app hb, set_set_app hb, len_beq hb, beq_len hb, hb1, get_app hb1, set_app hb1, get_set_same hb1, get_set_app hb1, set_set_app hb1, len_beq hb1, beq_len hb1, hb2, get_app hb2, set_app hb2, get_set_same hb2, get_set_app hb2, set_set_app hb2, len_beq hb2, beq_len hb2, hg1, hg1', hjE, e1, e2, hset1, hset2, hgy, hgy', hjy, hly, hgs, List.set_set, s1.1, s1.2.1, s1.2.2, s2.1, s2.2.1, s2.2.2, sa1.1, sa1.2.1, sa2.1, sa2.2.1]
        exact fin _ rfl rfl
    · have hjj : j = X.length := by omega
      have d0 : decide ((j : Int) < (X.length : Nat)) = false := dec_false (by omega)
      simp [yld_some, exec_reg, exec_dreg, exec_seq, exec_cond, exec_block, exec_scope, exec_exit, exec_ret, exec_skip, exec_loop, ops_nil, ops_cons, ops_cons_gd, stages_nil, stages_cons_n, stages_cons_h, recheck, wantsOp, AV.same, sames, evalOp_p, evalOp_r, evalOp_a, evalOp_call, evalOp_callV, evalOp_store, evalOp_append, evalOp_clear, evalOp_mapUpdate, evalOp_delete, pP_move, pP_pick, pP_build, pP_nil_ptr, pP_nil_func, pP_bin, pP_eq, pP_neg, pP_inv, pP_not, pP_convInt, pP_convStr, pP_fieldAddr, pP_field, pP_indexAddr, pP_indexStr, pP_sliceStr, pP_sliceSl, pP_lenStr, pP_lenNil, pP_lenSl, pP_min, pP_max, pP_extract, pP_mkfn, bV_add, bV_sub, bV_mul, bV_quo, bV_rem, bV_and, bV_or, bV_xor, bV_andNot, bV_eql, bV_neq, bV_lss, bV_leq, bV_gtr, bV_geq, bV_shl, bV_shr, bV_str, eV_bool, eV_nn, eV_np, eV_pn, eV_snn, eV_sns, eV_ssn, eV_mnn, eV_mnm, eV_mmn, eV_fnn, eV_fnf, eV_ffn, eV_agg, rP_load, rP_lenNil, rP_str0, rdEl_K, rdK_row, aP_alloc, aP_box, aP_buildSlice, aP_makeSlice, aP_makeMap, aP_toBytes, hP_store, storeK_some, st_K, stK_row, stE_some, cells_agg, cells_bool, scalar_bool, cells_int, scalar_int, cells_str, scalar_str, cells_nilptr, scalar_nilptr, cells_ptr, scalar_ptr, cells_nilslice, scalar_nilslice, cells_slice, scalar_slice, cells_nilmap, scalar_nilmap, cells_map, scalar_map, cells_nilfunc, scalar_nilfunc, cells_func, scalar_func, eqCells, eqLeaf, run_toL, toL_some, ev_toL, getD_toL, put_toL, keep_toL, asc, fput_same, fput_ne, fbase_nil, fbase_cons, fkeep_nil, fkeep_cons, fzero, fnone, List.map_cons, List.map_nil, ev_lit, put_none, resVals, resVal, resOf, partV, fillA, putCells, fillEls, strBin, minV, optNat, appendEls, elsOf, sliceSlV, sliceStrV, List.replicate, List.getElem?_append_left, List.getElem?_append_right, List.set_append_left, List.set_append_right, List.getElem?_set_self, List.getElem?_set_ne, hq_get0, hq_get, hq_get2, hq_get3, hp_get0, hp_get, hp_get2, hp_get3, hp_set0, hp_set, hp_set2, hp_set3, wr_0, wr_1, wr_2, wr_3, wr_4, wr_n1, f0', f3, lo, d0, hjn]
      refine hR _ ?_
      simp [yld_some, exec_reg, exec_dreg, exec_seq, exec_cond, exec_block, exec_scope, exec_exit, exec_ret, exec_skip, exec_loop, ops_nil, ops_cons, ops_cons_gd, stages_nil, stages_cons_n, stages_cons_h, recheck, wantsOp, AV.same, sames, evalOp_p, evalOp_r, evalOp_a, evalOp_call, evalOp_callV, evalOp_store, evalOp_append, evalOp_clear, evalOp_mapUpdate, evalOp_delete, pP_move, pP_pick, pP_build, pP_nil_ptr, pP_nil_func, pP_bin, pP_eq, pP_neg, pP_inv, pP_not, pP_convInt, pP_convStr, pP_fieldAddr, pP_field, pP_indexAddr, pP_indexStr, pP_sliceStr, pP_sliceSl, pP_lenStr, pP_lenNil, pP_lenSl, pP_min, pP_max, pP_extract, pP_mkfn, bV_add, bV_sub, bV_mul, bV_quo, bV_rem, bV_and, bV_or, bV_xor, bV_andNot, bV_eql, bV_neq, bV_lss, bV_leq, bV_gtr, bV_geq, bV_shl, bV_shr, bV_str, eV_bool, eV_nn, eV_np, eV_pn, eV_snn, eV_sns, eV_ssn, eV_mnn, eV_mnm, eV_mmn, eV_fnn, eV_fnf, eV_ffn, eV_agg, rP_load, rP_lenNil, rP_str0, rdEl_K, rdK_row, aP_alloc, aP_box, aP_buildSlice, aP_makeSlice, aP_makeMap, aP_toBytes, hP_store, storeK_some, st_K, stK_row, stE_some, cells_agg, cells_bool, scalar_bool, cells_int, scalar_int, cells_str, scalar_str, cells_nilptr, scalar_nilptr, cells_ptr, scalar_ptr, cells_nilslice, scalar_nilslice, cells_slice, scalar_slice, cells_nilmap, scalar_nilmap, cells_map, scalar_map, cells_nilfunc, scalar_nilfunc, cells_func, scalar_func, eqCells, eqLeaf, run_toL, toL_some, ev_toL, getD_toL, put_toL, keep_toL, asc, fput_same, fput_ne, fbase_nil, fbase_cons, fkeep_nil, fkeep_cons, fzero, fnone, List.map_cons, List.map_nil, ev_lit, put_none, resVals, resVal, resOf, partV, fillA, putCells, fillEls, strBin, minV, optNat, appendEls, elsOf, sliceSlV, sliceStrV, List.replicate, List.getElem?_append_left, List.getElem?_append_right, List.set_append_left, List.set_append_right, List.getElem?_set_self, List.getElem?_set_ne, hq_get0, hq_get, hq_get2, hq_get3, hp_get0, hp_get, hp_get2, hp_get3, hp_set0, hp_set, hp_set2, hp_set3, wr_0, wr_1, wr_2, wr_3, wr_4, wr_n1, f0', f3, s0.1, s0.2.1, s0.2.2]
      have hd : L.drop j = [] := List.drop_eq_nil_of_le (by omega)
      have ht : X.take j = X := List.take_of_length_le (by omega)
      rw [hd, List.append_nil] at ho
      rw [ht] at hreps
      exact hQ _ ⟨c0, _, N, rfl, ho, hreps, hch, f0, fun e he a ha z hz => by
        have h1 := hfr e he a ha z hz
        have := ch0.1
        exact ⟨by omega, fun h => by have := hlt0 z h; omega⟩⟩
end Go.Proofs.Ytmbkklobijflkaa.BkL
