/- The document's link: a packet comes that is for it. (written by genw.py) -/
import Derived.Test.YtmbkklobijflkaaLpW
set_option maxRecDepth 100000
set_option linter.unusedVariables false
set_option linter.unusedSimpArgs false
namespace Go.Proofs.Ytmbkklobijflkaa.Lp
open Go Go.Eng F Lk Bk BkI

theorem pvs_snoc (P : List Pv) (p : Pv) : pvs (P ++ [p]) = pvs P ++ [p.av] := by simp [pvs]
section
variable {k : H} {r : Nat} {ov kv : AV} {q : Rs}
set_option maxHeartbeats 16000000 in
theorem rgot_yes (a : RefAt k r ov kv q) (p : Pv) (hlO : q.O.length < 100000) (hlP : q.P.length < 99999) (hc : 0 ≤ q.came ∧ q.came < 4611686018427387904) (hp : p.seq ≤ 9223372036854775807) (hm : q.may p = true) : Yld (call Lp.fs3 Lp.ex3 21 [.ptr r 0 0, .agg p.av] k) (RGotQ k r ov kv q p) := by
  refine yld_shut fun Q hQ => ?_
  have hrl := (List.getElem?_eq_some_iff.1 a.row).1
  obtain ⟨e1, e2, e3, e4, e5⟩ : (p.frm != q.peer) = false ∧ (p.to != q.me) = false ∧ decide (p.seq < 0) = false ∧ decide (p.ack < 0) = false ∧ decide (q.sent < p.ack) = false := by
    simp only [Rs.may, Bool.and_eq_true, decide_eq_true_eq] at hm
    obtain ⟨⟨⟨⟨h1, h2⟩, h3⟩, h4⟩, h5⟩ := hm
    exact ⟨by simp [bne, h1], by simp [bne, h2], dec_false (by omega), dec_false (by omega), dec_false (by omega)⟩
  have hseq : 0 ≤ p.seq := by
    have := of_decide_eq_false e3
    omega
  obtain ⟨B, hB⟩ : ∃ B : H, B = [.row 25 [p.av] true true, .row 25 [Pk.zero.av] true true] := ⟨_, rfl⟩
  have ca : ∀ F, Chg k (k ++ B) F := fun F => Chg.app _ _ _
  have a0 := a.keep (ca []) (by simp) (by simp) (by simp)
  have gp0 : (k ++ B)[k.length]? = some (.row 25 [p.av] true true) := by rw [hB]; simp
  have gz0 : (k ++ B)[k.length + 1]? = some (.row 25 [Pk.zero.av] true true) := by rw [hB]; simp
  have hr := a.row
  have hr0 := a0.row
  have so := a.oo.cells
  have sk := a.kk.cells
  unfold rrow at hr hr0
  rw [call_eq Lp.fs3 Lp.ex3 (f := 21) (sf := sf21) rfl]
  have hB' := hB
  simp only [Pv.av, Pk.av, Pk.zero, Lt.zero] at hB'
  simp [sf21, yld_some, exec_reg, exec_dreg, exec_seq, exec_cond, exec_block, exec_scope, exec_exit, exec_ret, exec_skip, exec_loop, ops_nil, ops_cons, ops_cons_gd, stages_nil, stages_cons_n, stages_cons_h, recheck, wantsOp, AV.same, sames, evalOp_p, evalOp_r, evalOp_a, evalOp_call, evalOp_callV, evalOp_store, evalOp_append, evalOp_clear, evalOp_mapUpdate, evalOp_delete, pP_move, pP_pick, pP_build, pP_nil_ptr, pP_nil_func, pP_bin, pP_eq, pP_neg, pP_inv, pP_not, pP_convInt, pP_convStr, pP_fieldAddr, pP_field, pP_indexAddr, pP_indexStr, pP_sliceStr, pP_sliceSl, pP_lenStr, pP_lenNil, pP_lenSl, pP_min, pP_max, pP_extract, pP_mkfn, bV_add, bV_sub, bV_mul, bV_quo, bV_rem, bV_and, bV_or, bV_xor, bV_andNot, bV_eql, bV_neq, bV_lss, bV_leq, bV_gtr, bV_geq, bV_shl, bV_shr, bV_str, eV_bool, eV_nn, eV_np, eV_pn, eV_snn, eV_sns, eV_ssn, eV_mnn, eV_mnm, eV_mmn, eV_fnn, eV_fnf, eV_ffn, eV_agg, rP_load, rP_lenNil, rP_str0, rdEl_K, rdK_row, aP_alloc, aP_box, aP_buildSlice, aP_makeSlice, aP_makeMap, aP_toBytes, hP_store, storeK_some, st_K, stK_row, stE_some, cells_agg, cells_bool, scalar_bool, cells_int, scalar_int, cells_str, scalar_str, cells_nilptr, scalar_nilptr, cells_ptr, scalar_ptr, cells_nilslice, scalar_nilslice, cells_slice, scalar_slice, cells_nilmap, scalar_nilmap, cells_map, scalar_map, cells_nilfunc, scalar_nilfunc, cells_func, scalar_func, eqCells, eqLeaf, run_toL, toL_some, ev_toL, getD_toL, put_toL, keep_toL, asc, fput_same, fput_ne, fbase_nil, fbase_cons, fkeep_nil, fkeep_cons, fzero, fnone, List.map_cons, List.map_nil, ev_lit, put_none, resVals, resVal, resOf, partV, fillA, putCells, fillEls, strBin, minV, optNat, appendEls, elsOf, sliceSlV, sliceStrV, List.replicate, List.getElem?_append_left, List.getElem?_append_right, List.set_append_left, List.set_append_right, List.getElem?_set_self, List.getElem?_set_ne, hq_get0, hq_get, hq_get2, hq_get3, hp_get0, hp_get, hp_get2, hp_get3, hp_set0, hp_set, hp_set2, hp_set3, wr_0, wr_1, wr_2, wr_3, wr_4, wr_n1, hr, get_app hr, set_app hr, get_set_same hr, get_set_app hr, set_set_app hr, len_beq hr, beq_len hr, sv_cells, sv_scalar, sv_same, Pv.av, e1, e2, e3, e4, e5]
  rw [← hB']
  repeat (first | apply yld_endFn | apply yld_seqK | apply yld_blockK | apply yld_regK | apply yld_opsK | apply yld_putK | apply yld_stgK | apply yld_chkK)
  refine wait_loop (R := _) ?_ a0 hlO gp0 ?_ ?_ ?_ ?_ ?_
  · simp [sf21, Bk.loopsAll]
  · rfl
  · rfl
  · rfl
  · rfl
  intro f1 k1 vw g0 g3 g5 g7 c1 ow hfw
  simp [fput] at g5
  have kl1 := c1.1
  have hBl : B.length = 2 := by rw [hB]; rfl
  rw [List.length_append, hBl] at kl1
  have hr1 := c1.2 _ _ (by simp) a0.row
  have gp1 := c1.2 _ _ (by simp) gp0
  have gz1 := c1.2 _ _ (by simp) gz0
  obtain ⟨A, hA⟩ : ∃ A : Blk, A = rrow { q with O := later p.ack q.O } vw kv := ⟨_, rfl⟩
  have gr2 : (k1.set r A)[r]? = some A := get_set_same hr1
  have gp2 : (k1.set r A)[k.length]? = some (.row 25 [p.av] true true) := (List.getElem?_set_ne (by omega)).trans gp1
  have gz2 : (k1.set r A)[k.length + 1]? = some (.row 25 [Pk.zero.av] true true) := (List.getElem?_set_ne (by omega)).trans gz1
  have cA : Chg k1 (k1.set r A) [r] := (Chg.refl _ _).set (.inl (by simp))
  have c2 : Chg k (k1.set r A) [r] := ((ca [r]).trans c1 (by simp)).trans cA (fun c hc => .inl hc)
  have hfw' : ∀ c ∈ foot vw, k.length + 2 ≤ c := fun c hc => by have := hfw c hc; rw [List.length_append, hBl] at this; exact this
  have a2 : RefAt (k1.set r A) r vw kv { q with O := later p.ack q.O } := ⟨by rw [gr2, hA], ow.rds.keep cA (fun c hc => by have := hfw' c hc; simp only [List.mem_singleton]; omega), a.kk.keep0 c2 (fun c hc => by simp only [List.mem_singleton]; rintro rfl; exact a.nk hc), fun hm => by have := hfw' r (foot0_sub hm); omega, a.nk, a.cap⟩
  have sw := ow.rds.cells
  have hAr := hA
  unfold rrow at hAr hr1
  have gp1' := gp1
  have gp2' := gp2
  have gz2' := gz2
  unfold Pv.av at gp1' gp2'
  simp only [Pk.av, Pk.zero, Lt.zero] at gz2'
  have gr2' := gr2
  rw [hAr] at gr2'
  by_cases hs0 : p.seq = 0
  · have b0 : (p.seq == 0) = true := beq_true hs0
    have hgot : q.got p = ({ q with O := later p.ack q.O }, [], Pk.zero, true) := by simp [Rs.got, hm, hs0]
    have cz : Chg (k1.set r A) ((k1.set r A).set (k.length + 1) (.row 25 [Pk.zero.av] true true)) [k.length + 1] := (Chg.refl _ _).set (.inl (by simp))
    have hq := hQ (.tuple [.nilslice, .agg Pk.zero.av, .bool true], (k1.set r A).set (k.length + 1) (.row 25 [Pk.zero.av] true true)) ⟨_, .nilslice, vw, kv, by rw [hgot], c2.trans cz (fun c hc => by simp at hc; exact .inr (by omega)), by rw [hgot]; exact a2.keep cz (by simp; omega) (fun c hc => by have := hfw' c (foot0_sub hc); simp; omega) (fun c hc => by have := a.kk.lt0 c hc; simp; omega), by rw [hgot]; exact .inl ⟨rfl, rfl⟩, by simp [foot], fun c hc => .inr (by have := hfw' c (foot0_sub hc); omega), fun c hc => .inl hc⟩
    rw [hAr] at hq
    simp only [Pk.av, Pk.zero, Lt.zero] at hq
    have gz3 : ∀ y, ((k1.set r A).set (k.length + 1) y)[k.length + 1]? = some y := fun y => get_set_same gz2
    rw [hAr] at gp2' gz2' gz3
    simp [yld_some, exec_reg, exec_dreg, exec_seq, exec_cond, exec_block, exec_scope, exec_exit, exec_ret, exec_skip, exec_loop, ops_nil, ops_cons, ops_cons_gd, stages_nil, stages_cons_n, stages_cons_h, recheck, wantsOp, AV.same, sames, evalOp_p, evalOp_r, evalOp_a, evalOp_call, evalOp_callV, evalOp_store, evalOp_append, evalOp_clear, evalOp_mapUpdate, evalOp_delete, pP_move, pP_pick, pP_build, pP_nil_ptr, pP_nil_func, pP_bin, pP_eq, pP_neg, pP_inv, pP_not, pP_convInt, pP_convStr, pP_fieldAddr, pP_field, pP_indexAddr, pP_indexStr, pP_sliceStr, pP_sliceSl, pP_lenStr, pP_lenNil, pP_lenSl, pP_min, pP_max, pP_extract, pP_mkfn, bV_add, bV_sub, bV_mul, bV_quo, bV_rem, bV_and, bV_or, bV_xor, bV_andNot, bV_eql, bV_neq, bV_lss, bV_leq, bV_gtr, bV_geq, bV_shl, bV_shr, bV_str, eV_bool, eV_nn, eV_np, eV_pn, eV_snn, eV_sns, eV_ssn, eV_mnn, eV_mnm, eV_mmn, eV_fnn, eV_fnf, eV_ffn, eV_agg, rP_load, rP_lenNil, rP_str0, rdEl_K, rdK_row, aP_alloc, aP_box, aP_buildSlice, aP_makeSlice, aP_makeMap, aP_toBytes, hP_store, storeK_some, st_K, stK_row, stE_some, cells_agg, cells_bool, scalar_bool, cells_int, scalar_int, cells_str, scalar_str, cells_nilptr, scalar_nilptr, cells_ptr, scalar_ptr, cells_nilslice, scalar_nilslice, cells_slice, scalar_slice, cells_nilmap, scalar_nilmap, cells_map, scalar_map, cells_nilfunc, scalar_nilfunc, cells_func, scalar_func, eqCells, eqLeaf, run_toL, toL_some, ev_toL, getD_toL, put_toL, keep_toL, asc, fput_same, fput_ne, fbase_nil, fbase_cons, fkeep_nil, fkeep_cons, fzero, fnone, List.map_cons, List.map_nil, ev_lit, put_none, resVals, resVal, resOf, partV, fillA, putCells, fillEls, strBin, minV, optNat, appendEls, elsOf, sliceSlV, sliceStrV, List.replicate, List.getElem?_append_left, List.getElem?_append_right, List.set_append_left, List.set_append_right, List.getElem?_set_self, List.getElem?_set_ne, hq_get0, hq_get, hq_get2, hq_get3, hp_get0, hp_get, hp_get2, hp_get3, hp_set0, hp_set, hp_set2, hp_set3, wr_0, wr_1, wr_2, wr_3, wr_4, wr_n1, g0, g3, g5, g7, hr1, get_app hr1, set_app hr1, get_set_same hr1, get_set_app hr1, set_set_app hr1, len_beq hr1, beq_len hr1, gp1', get_app gp1', set_app gp1', get_set_same gp1', get_set_app gp1', set_set_app gp1', len_beq gp1', beq_len gp1', gr2', get_app gr2', set_app gr2', get_set_same gr2', get_set_app gr2', set_set_app gr2', len_beq gr2', beq_len gr2', gp2', get_app gp2', set_app gp2', get_set_same gp2', get_set_app gp2', set_set_app gp2', len_beq gp2', beq_len gp2', gz2', get_app gz2', set_app gz2', get_set_same gz2', get_set_app gz2', set_set_app gz2', len_beq gz2', beq_len gz2', gz3, sw.1, sw.2.1, sw.2.2, sk.1, sk.2.1, sk.2.2, b0, hq]
  · have b0 : (p.seq == 0) = false := beq_false hs0
    have hgot : q.got p = ({ q with O := later p.ack q.O, came := (rdrain (q.keep p).length q.came (q.keep p)).1, P := (rdrain (q.keep p).length q.came (q.keep p)).2.1 }, (rdrain (q.keep p).length q.came (q.keep p)).2.2, ⟨q.me, q.peer, 0, (rdrain (q.keep p).length q.came (q.keep p)).1, Lt.zero⟩, true) := by simp [Rs.got, hm, hs0]
    have wc : IntKind.i64.wrap (q.came + 1) = q.came + 1 := wrap_i64 (by omega) (by omega)
    have e31s := rkept_call a2 (by simp only; omega) p.seq
    have e31c := rkept_call a2 (by simp only; omega) (q.came + 1)
    simp only at e31s e31c
    rw [hAr] at e31s e31c
    rw [hAr] at a2 gz2 c2
    have gp2r := gp2'
    have gz2r := gz2'
    rw [hAr] at gp2r gz2r
    have wsub : q.came < p.seq → IntKind.i64.wrap (p.seq - q.came) = p.seq - q.came := fun h => wrap_i64 (by omega) (by omega)
    by_cases h1 : q.came < p.seq
    rotate_left
    · have d1 : decide (q.came < p.seq) = false := dec_false h1
      have hkp : q.keep p = q.P := by simp [Rs.keep, d1]
      simp [yld_some, exec_reg, exec_dreg, exec_seq, exec_cond, exec_block, exec_scope, exec_exit, exec_ret, exec_skip, exec_loop, ops_nil, ops_cons, ops_cons_gd, stages_nil, stages_cons_n, stages_cons_h, recheck, wantsOp, AV.same, sames, evalOp_p, evalOp_r, evalOp_a, evalOp_call, evalOp_callV, evalOp_store, evalOp_append, evalOp_clear, evalOp_mapUpdate, evalOp_delete, pP_move, pP_pick, pP_build, pP_nil_ptr, pP_nil_func, pP_bin, pP_eq, pP_neg, pP_inv, pP_not, pP_convInt, pP_convStr, pP_fieldAddr, pP_field, pP_indexAddr, pP_indexStr, pP_sliceStr, pP_sliceSl, pP_lenStr, pP_lenNil, pP_lenSl, pP_min, pP_max, pP_extract, pP_mkfn, bV_add, bV_sub, bV_mul, bV_quo, bV_rem, bV_and, bV_or, bV_xor, bV_andNot, bV_eql, bV_neq, bV_lss, bV_leq, bV_gtr, bV_geq, bV_shl, bV_shr, bV_str, eV_bool, eV_nn, eV_np, eV_pn, eV_snn, eV_sns, eV_ssn, eV_mnn, eV_mnm, eV_mmn, eV_fnn, eV_fnf, eV_ffn, eV_agg, rP_load, rP_lenNil, rP_str0, rdEl_K, rdK_row, aP_alloc, aP_box, aP_buildSlice, aP_makeSlice, aP_makeMap, aP_toBytes, hP_store, storeK_some, st_K, stK_row, stE_some, cells_agg, cells_bool, scalar_bool, cells_int, scalar_int, cells_str, scalar_str, cells_nilptr, scalar_nilptr, cells_ptr, scalar_ptr, cells_nilslice, scalar_nilslice, cells_slice, scalar_slice, cells_nilmap, scalar_nilmap, cells_map, scalar_map, cells_nilfunc, scalar_nilfunc, cells_func, scalar_func, eqCells, eqLeaf, run_toL, toL_some, ev_toL, getD_toL, put_toL, keep_toL, asc, fput_same, fput_ne, fbase_nil, fbase_cons, fkeep_nil, fkeep_cons, fzero, fnone, List.map_cons, List.map_nil, ev_lit, put_none, resVals, resVal, resOf, partV, fillA, putCells, fillEls, strBin, minV, optNat, appendEls, elsOf, sliceSlV, sliceStrV, List.replicate, List.getElem?_append_left, List.getElem?_append_right, List.set_append_left, List.set_append_right, List.getElem?_set_self, List.getElem?_set_ne, hq_get0, hq_get, hq_get2, hq_get3, hp_get0, hp_get, hp_get2, hp_get3, hp_set0, hp_set, hp_set2, hp_set3, wr_0, wr_1, wr_2, wr_3, wr_4, wr_n1, g0, g3, g5, g7, hr1, get_app hr1, set_app hr1, get_set_same hr1, get_set_app hr1, set_set_app hr1, len_beq hr1, beq_len hr1, gp1', get_app gp1', set_app gp1', get_set_same gp1', get_set_app gp1', set_set_app gp1', len_beq gp1', beq_len gp1', gr2', get_app gr2', set_app gr2', get_set_same gr2', get_set_app gr2', set_set_app gr2', len_beq gr2', beq_len gr2', gp2r, get_app gp2r, set_app gp2r, get_set_same gp2r, get_set_app gp2r, set_set_app gp2r, len_beq gp2r, beq_len gp2r, gz2r, get_app gz2r, set_app gz2r, get_set_same gz2r, get_set_app gz2r, set_set_app gz2r, len_beq gz2r, beq_len gz2r, sw.1, sw.2.1, sw.2.2, sk.1, sk.2.1, sk.2.2, b0, wc, d1, e31c]
      repeat (first | apply yld_endFn | apply yld_seqK | apply yld_blockK | apply yld_regK | apply yld_opsK | apply yld_putK | apply yld_stgK | apply yld_chkK)
      refine told_loop (R := _) ?_ a2 ?_ ?_ ?_ ?_ ?_ ?_
      · simp [sf21, Bk.loopsAll]
      · simp only; omega
      · exact hc
      · simp [fput, g0]
      · rfl
      · rfl
      intro f2 K2 kv3 vo h0 h5 h9 cL aL oL foL fkL fvL
      simp [fput] at h5
      try rw [g5] at h5
      have rL := aL.row
      unfold rrow at rL
      have zL := cL.2 (k.length + 1) _ (by simp; omega) gz2
      have oc := oL.rds.cells
      have lK := (c2).1
      have lK2 := cL.1
      have l3 := (List.getElem?_eq_some_iff.1 gz2).1
      have cz : ∀ y, Chg K2 (K2.set (k.length + 1) y) [k.length + 1] := fun y => (Chg.refl _ _).set (.inl (by simp))
      have hq := hQ (.tuple [vo, .agg (q.got p).2.2.1.av, .bool true], K2.set (k.length + 1) (.row 25 [(q.got p).2.2.1.av] true true)) ⟨_, vo, vw, kv3, by rw [hgot], ((c2).trans cL (fun c hc => .inl hc)).trans (cz _) (fun c hc => by simp at hc; exact .inr (by omega)), by rw [hgot, hkp]; exact aL.keep (cz _) (by simp; omega) (fun c hc => by have := hfw' c (foot0_sub hc); simp; omega) (fun c hc => by rcases fkL c hc with h | h; (rcases (fun c (h : c ∈ foot0 kv) => (.inl h : c ∈ foot0 kv ∨ k.length + 2 ≤ c)) c h with h | h; (have := a.kk.lt0 c h; simp; omega); (simp; omega)); (simp; omega)), by rw [hgot, hkp]; exact oL.keep (cz _) (fun c hc => by have := foL c hc; simp; omega), fun c hc => by have := foL c hc; omega, fun c hc => .inr (by have := hfw' c (foot0_sub hc); omega), fun c hc => by rcases fkL c hc with h | h; (rcases (fun c (h : c ∈ foot0 kv) => (.inl h : c ∈ foot0 kv ∨ k.length + 2 ≤ c)) c h with h | h; (exact .inl h); (exact .inr (by omega))); (exact .inr (by omega))⟩
      rw [hgot, hkp] at hq
      simp only [Pk.av, Lt.zero] at hq
      simp only at rL
      have zL' := zL
      simp only [Pk.av, Pk.zero, Lt.zero] at zL'
      simp [yld_some, exec_reg, exec_dreg, exec_seq, exec_cond, exec_block, exec_scope, exec_exit, exec_ret, exec_skip, exec_loop, ops_nil, ops_cons, ops_cons_gd, stages_nil, stages_cons_n, stages_cons_h, recheck, wantsOp, AV.same, sames, evalOp_p, evalOp_r, evalOp_a, evalOp_call, evalOp_callV, evalOp_store, evalOp_append, evalOp_clear, evalOp_mapUpdate, evalOp_delete, pP_move, pP_pick, pP_build, pP_nil_ptr, pP_nil_func, pP_bin, pP_eq, pP_neg, pP_inv, pP_not, pP_convInt, pP_convStr, pP_fieldAddr, pP_field, pP_indexAddr, pP_indexStr, pP_sliceStr, pP_sliceSl, pP_lenStr, pP_lenNil, pP_lenSl, pP_min, pP_max, pP_extract, pP_mkfn, bV_add, bV_sub, bV_mul, bV_quo, bV_rem, bV_and, bV_or, bV_xor, bV_andNot, bV_eql, bV_neq, bV_lss, bV_leq, bV_gtr, bV_geq, bV_shl, bV_shr, bV_str, eV_bool, eV_nn, eV_np, eV_pn, eV_snn, eV_sns, eV_ssn, eV_mnn, eV_mnm, eV_mmn, eV_fnn, eV_fnf, eV_ffn, eV_agg, rP_load, rP_lenNil, rP_str0, rdEl_K, rdK_row, aP_alloc, aP_box, aP_buildSlice, aP_makeSlice, aP_makeMap, aP_toBytes, hP_store, storeK_some, st_K, stK_row, stE_some, cells_agg, cells_bool, scalar_bool, cells_int, scalar_int, cells_str, scalar_str, cells_nilptr, scalar_nilptr, cells_ptr, scalar_ptr, cells_nilslice, scalar_nilslice, cells_slice, scalar_slice, cells_nilmap, scalar_nilmap, cells_map, scalar_map, cells_nilfunc, scalar_nilfunc, cells_func, scalar_func, eqCells, eqLeaf, run_toL, toL_some, ev_toL, getD_toL, put_toL, keep_toL, asc, fput_same, fput_ne, fbase_nil, fbase_cons, fkeep_nil, fkeep_cons, fzero, fnone, List.map_cons, List.map_nil, ev_lit, put_none, resVals, resVal, resOf, partV, fillA, putCells, fillEls, strBin, minV, optNat, appendEls, elsOf, sliceSlV, sliceStrV, List.replicate, List.getElem?_append_left, List.getElem?_append_right, List.set_append_left, List.set_append_right, List.getElem?_set_self, List.getElem?_set_ne, hq_get0, hq_get, hq_get2, hq_get3, hp_get0, hp_get, hp_get2, hp_get3, hp_set0, hp_set, hp_set2, hp_set3, wr_0, wr_1, wr_2, wr_3, wr_4, wr_n1, h0, h5, h9, rL, get_app rL, set_app rL, get_set_same rL, get_set_app rL, set_set_app rL, len_beq rL, beq_len rL, zL', get_app zL', set_app zL', get_set_same zL', get_set_app zL', set_set_app zL', len_beq zL', beq_len zL', oc.1, oc.2.1, oc.2.2]
      simpa using hq
    have d1 : decide (q.came < p.seq) = true := dec_true h1
    have ws := wsub h1
    by_cases h2 : p.seq - q.came ≤ 64
    rotate_left
    · have d2 : decide (p.seq - q.came ≤ 64) = false := dec_false h2
      have hkp : q.keep p = q.P := by simp [Rs.keep, d1, d2]
      simp [yld_some, exec_reg, exec_dreg, exec_seq, exec_cond, exec_block, exec_scope, exec_exit, exec_ret, exec_skip, exec_loop, ops_nil, ops_cons, ops_cons_gd, stages_nil, stages_cons_n, stages_cons_h, recheck, wantsOp, AV.same, sames, evalOp_p, evalOp_r, evalOp_a, evalOp_call, evalOp_callV, evalOp_store, evalOp_append, evalOp_clear, evalOp_mapUpdate, evalOp_delete, pP_move, pP_pick, pP_build, pP_nil_ptr, pP_nil_func, pP_bin, pP_eq, pP_neg, pP_inv, pP_not, pP_convInt, pP_convStr, pP_fieldAddr, pP_field, pP_indexAddr, pP_indexStr, pP_sliceStr, pP_sliceSl, pP_lenStr, pP_lenNil, pP_lenSl, pP_min, pP_max, pP_extract, pP_mkfn, bV_add, bV_sub, bV_mul, bV_quo, bV_rem, bV_and, bV_or, bV_xor, bV_andNot, bV_eql, bV_neq, bV_lss, bV_leq, bV_gtr, bV_geq, bV_shl, bV_shr, bV_str, eV_bool, eV_nn, eV_np, eV_pn, eV_snn, eV_sns, eV_ssn, eV_mnn, eV_mnm, eV_mmn, eV_fnn, eV_fnf, eV_ffn, eV_agg, rP_load, rP_lenNil, rP_str0, rdEl_K, rdK_row, aP_alloc, aP_box, aP_buildSlice, aP_makeSlice, aP_makeMap, aP_toBytes, hP_store, storeK_some, st_K, stK_row, stE_some, cells_agg, cells_bool, scalar_bool, cells_int, scalar_int, cells_str, scalar_str, cells_nilptr, scalar_nilptr, cells_ptr, scalar_ptr, cells_nilslice, scalar_nilslice, cells_slice, scalar_slice, cells_nilmap, scalar_nilmap, cells_map, scalar_map, cells_nilfunc, scalar_nilfunc, cells_func, scalar_func, eqCells, eqLeaf, run_toL, toL_some, ev_toL, getD_toL, put_toL, keep_toL, asc, fput_same, fput_ne, fbase_nil, fbase_cons, fkeep_nil, fkeep_cons, fzero, fnone, List.map_cons, List.map_nil, ev_lit, put_none, resVals, resVal, resOf, partV, fillA, putCells, fillEls, strBin, minV, optNat, appendEls, elsOf, sliceSlV, sliceStrV, List.replicate, List.getElem?_append_left, List.getElem?_append_right, List.set_append_left, List.set_append_right, List.getElem?_set_self, List.getElem?_set_ne, hq_get0, hq_get, hq_get2, hq_get3, hp_get0, hp_get, hp_get2, hp_get3, hp_set0, hp_set, hp_set2, hp_set3, wr_0, wr_1, wr_2, wr_3, wr_4, wr_n1, g0, g3, g5, g7, hr1, get_app hr1, set_app hr1, get_set_same hr1, get_set_app hr1, set_set_app hr1, len_beq hr1, beq_len hr1, gp1', get_app gp1', set_app gp1', get_set_same gp1', get_set_app gp1', set_set_app gp1', len_beq gp1', beq_len gp1', gr2', get_app gr2', set_app gr2', get_set_same gr2', get_set_app gr2', set_set_app gr2', len_beq gr2', beq_len gr2', gp2r, get_app gp2r, set_app gp2r, get_set_same gp2r, get_set_app gp2r, set_set_app gp2r, len_beq gp2r, beq_len gp2r, gz2r, get_app gz2r, set_app gz2r, get_set_same gz2r, get_set_app gz2r, set_set_app gz2r, len_beq gz2r, beq_len gz2r, sw.1, sw.2.1, sw.2.2, sk.1, sk.2.1, sk.2.2, b0, wc, d1, ws, d2, e31c]
      repeat (first | apply yld_endFn | apply yld_seqK | apply yld_blockK | apply yld_regK | apply yld_opsK | apply yld_putK | apply yld_stgK | apply yld_chkK)
      refine told_loop (R := _) ?_ a2 ?_ ?_ ?_ ?_ ?_ ?_
      · simp [sf21, Bk.loopsAll]
      · simp only; omega
      · exact hc
      · simp [fput, g0]
      · rfl
      · rfl
      intro f2 K2 kv3 vo h0 h5 h9 cL aL oL foL fkL fvL
      simp [fput] at h5
      try rw [g5] at h5
      have rL := aL.row
      unfold rrow at rL
      have zL := cL.2 (k.length + 1) _ (by simp; omega) gz2
      have oc := oL.rds.cells
      have lK := (c2).1
      have lK2 := cL.1
      have l3 := (List.getElem?_eq_some_iff.1 gz2).1
      have cz : ∀ y, Chg K2 (K2.set (k.length + 1) y) [k.length + 1] := fun y => (Chg.refl _ _).set (.inl (by simp))
      have hq := hQ (.tuple [vo, .agg (q.got p).2.2.1.av, .bool true], K2.set (k.length + 1) (.row 25 [(q.got p).2.2.1.av] true true)) ⟨_, vo, vw, kv3, by rw [hgot], ((c2).trans cL (fun c hc => .inl hc)).trans (cz _) (fun c hc => by simp at hc; exact .inr (by omega)), by rw [hgot, hkp]; exact aL.keep (cz _) (by simp; omega) (fun c hc => by have := hfw' c (foot0_sub hc); simp; omega) (fun c hc => by rcases fkL c hc with h | h; (rcases (fun c (h : c ∈ foot0 kv) => (.inl h : c ∈ foot0 kv ∨ k.length + 2 ≤ c)) c h with h | h; (have := a.kk.lt0 c h; simp; omega); (simp; omega)); (simp; omega)), by rw [hgot, hkp]; exact oL.keep (cz _) (fun c hc => by have := foL c hc; simp; omega), fun c hc => by have := foL c hc; omega, fun c hc => .inr (by have := hfw' c (foot0_sub hc); omega), fun c hc => by rcases fkL c hc with h | h; (rcases (fun c (h : c ∈ foot0 kv) => (.inl h : c ∈ foot0 kv ∨ k.length + 2 ≤ c)) c h with h | h; (exact .inl h); (exact .inr (by omega))); (exact .inr (by omega))⟩
      rw [hgot, hkp] at hq
      simp only [Pk.av, Lt.zero] at hq
      simp only at rL
      have zL' := zL
      simp only [Pk.av, Pk.zero, Lt.zero] at zL'
      simp [yld_some, exec_reg, exec_dreg, exec_seq, exec_cond, exec_block, exec_scope, exec_exit, exec_ret, exec_skip, exec_loop, ops_nil, ops_cons, ops_cons_gd, stages_nil, stages_cons_n, stages_cons_h, recheck, wantsOp, AV.same, sames, evalOp_p, evalOp_r, evalOp_a, evalOp_call, evalOp_callV, evalOp_store, evalOp_append, evalOp_clear, evalOp_mapUpdate, evalOp_delete, pP_move, pP_pick, pP_build, pP_nil_ptr, pP_nil_func, pP_bin, pP_eq, pP_neg, pP_inv, pP_not, pP_convInt, pP_convStr, pP_fieldAddr, pP_field, pP_indexAddr, pP_indexStr, pP_sliceStr, pP_sliceSl, pP_lenStr, pP_lenNil, pP_lenSl, pP_min, pP_max, pP_extract, pP_mkfn, bV_add, bV_sub, bV_mul, bV_quo, bV_rem, bV_and, bV_or, bV_xor, bV_andNot, bV_eql, bV_neq, bV_lss, bV_leq, bV_gtr, bV_geq, bV_shl, bV_shr, bV_str, eV_bool, eV_nn, eV_np, eV_pn, eV_snn, eV_sns, eV_ssn, eV_mnn, eV_mnm, eV_mmn, eV_fnn, eV_fnf, eV_ffn, eV_agg, rP_load, rP_lenNil, rP_str0, rdEl_K, rdK_row, aP_alloc, aP_box, aP_buildSlice, aP_makeSlice, aP_makeMap, aP_toBytes, hP_store, storeK_some, st_K, stK_row, stE_some, cells_agg, cells_bool, scalar_bool, cells_int, scalar_int, cells_str, scalar_str, cells_nilptr, scalar_nilptr, cells_ptr, scalar_ptr, cells_nilslice, scalar_nilslice, cells_slice, scalar_slice, cells_nilmap, scalar_nilmap, cells_map, scalar_map, cells_nilfunc, scalar_nilfunc, cells_func, scalar_func, eqCells, eqLeaf, run_toL, toL_some, ev_toL, getD_toL, put_toL, keep_toL, asc, fput_same, fput_ne, fbase_nil, fbase_cons, fkeep_nil, fkeep_cons, fzero, fnone, List.map_cons, List.map_nil, ev_lit, put_none, resVals, resVal, resOf, partV, fillA, putCells, fillEls, strBin, minV, optNat, appendEls, elsOf, sliceSlV, sliceStrV, List.replicate, List.getElem?_append_left, List.getElem?_append_right, List.set_append_left, List.set_append_right, List.getElem?_set_self, List.getElem?_set_ne, hq_get0, hq_get, hq_get2, hq_get3, hp_get0, hp_get, hp_get2, hp_get3, hp_set0, hp_set, hp_set2, hp_set3, wr_0, wr_1, wr_2, wr_3, wr_4, wr_n1, h0, h5, h9, rL, get_app rL, set_app rL, get_set_same rL, get_set_app rL, set_set_app rL, len_beq rL, beq_len rL, zL', get_app zL', set_app zL', get_set_same zL', get_set_app zL', set_set_app zL', len_beq zL', beq_len zL', oc.1, oc.2.1, oc.2.2]
      simpa using hq
    have d2 : decide (p.seq - q.came ≤ 64) = true := dec_true h2
    cases hx : idxP p.seq q.P with
    | some i =>
      rw [hx] at e31s
      have hkp : q.keep p = q.P := by simp [Rs.keep, d1, d2, hx]
      have e31s : call Lp.fs3 Lp.ex3 31 _ _ = some (.int .i64 (i : Nat), _) := e31s
      have d3 : decide ((i : Int) < 0) = false := dec_false (by omega)
      simp [yld_some, exec_reg, exec_dreg, exec_seq, exec_cond, exec_block, exec_scope, exec_exit, exec_ret, exec_skip, exec_loop, ops_nil, ops_cons, ops_cons_gd, stages_nil, stages_cons_n, stages_cons_h, recheck, wantsOp, AV.same, sames, evalOp_p, evalOp_r, evalOp_a, evalOp_call, evalOp_callV, evalOp_store, evalOp_append, evalOp_clear, evalOp_mapUpdate, evalOp_delete, pP_move, pP_pick, pP_build, pP_nil_ptr, pP_nil_func, pP_bin, pP_eq, pP_neg, pP_inv, pP_not, pP_convInt, pP_convStr, pP_fieldAddr, pP_field, pP_indexAddr, pP_indexStr, pP_sliceStr, pP_sliceSl, pP_lenStr, pP_lenNil, pP_lenSl, pP_min, pP_max, pP_extract, pP_mkfn, bV_add, bV_sub, bV_mul, bV_quo, bV_rem, bV_and, bV_or, bV_xor, bV_andNot, bV_eql, bV_neq, bV_lss, bV_leq, bV_gtr, bV_geq, bV_shl, bV_shr, bV_str, eV_bool, eV_nn, eV_np, eV_pn, eV_snn, eV_sns, eV_ssn, eV_mnn, eV_mnm, eV_mmn, eV_fnn, eV_fnf, eV_ffn, eV_agg, rP_load, rP_lenNil, rP_str0, rdEl_K, rdK_row, aP_alloc, aP_box, aP_buildSlice, aP_makeSlice, aP_makeMap, aP_toBytes, hP_store, storeK_some, st_K, stK_row, stE_some, cells_agg, cells_bool, scalar_bool, cells_int, scalar_int, cells_str, scalar_str, cells_nilptr, scalar_nilptr, cells_ptr, scalar_ptr, cells_nilslice, scalar_nilslice, cells_slice, scalar_slice, cells_nilmap, scalar_nilmap, cells_map, scalar_map, cells_nilfunc, scalar_nilfunc, cells_func, scalar_func, eqCells, eqLeaf, run_toL, toL_some, ev_toL, getD_toL, put_toL, keep_toL, asc, fput_same, fput_ne, fbase_nil, fbase_cons, fkeep_nil, fkeep_cons, fzero, fnone, List.map_cons, List.map_nil, ev_lit, put_none, resVals, resVal, resOf, partV, fillA, putCells, fillEls, strBin, minV, optNat, appendEls, elsOf, sliceSlV, sliceStrV, List.replicate, List.getElem?_append_left, List.getElem?_append_right, List.set_append_left, List.set_append_right, List.getElem?_set_self, List.getElem?_set_ne, hq_get0, hq_get, hq_get2, hq_get3, hp_get0, hp_get, hp_get2, hp_get3, hp_set0, hp_set, hp_set2, hp_set3, wr_0, wr_1, wr_2, wr_3, wr_4, wr_n1, g0, g3, g5, g7, hr1, get_app hr1, set_app hr1, get_set_same hr1, get_set_app hr1, set_set_app hr1, len_beq hr1, beq_len hr1, gp1', get_app gp1', set_app gp1', get_set_same gp1', get_set_app gp1', set_set_app gp1', len_beq gp1', beq_len gp1', gr2', get_app gr2', set_app gr2', get_set_same gr2', get_set_app gr2', set_set_app gr2', len_beq gr2', beq_len gr2', gp2r, get_app gp2r, set_app gp2r, get_set_same gp2r, get_set_app gp2r, set_set_app gp2r, len_beq gp2r, beq_len gp2r, gz2r, get_app gz2r, set_app gz2r, get_set_same gz2r, get_set_app gz2r, set_set_app gz2r, len_beq gz2r, beq_len gz2r, sw.1, sw.2.1, sw.2.2, sk.1, sk.2.1, sk.2.2, b0, wc, d1, ws, d2, d3, e31s, e31c]
      repeat (first | apply yld_endFn | apply yld_seqK | apply yld_blockK | apply yld_regK | apply yld_opsK | apply yld_putK | apply yld_stgK | apply yld_chkK)
      refine told_loop (R := _) ?_ a2 ?_ ?_ ?_ ?_ ?_ ?_
      · simp [sf21, Bk.loopsAll]
      · simp only; omega
      · exact hc
      · simp [fput, g0]
      · rfl
      · rfl
      intro f2 K2 kv3 vo h0 h5 h9 cL aL oL foL fkL fvL
      simp [fput] at h5
      try rw [g5] at h5
      have rL := aL.row
      unfold rrow at rL
      have zL := cL.2 (k.length + 1) _ (by simp; omega) gz2
      have oc := oL.rds.cells
      have lK := (c2).1
      have lK2 := cL.1
      have l3 := (List.getElem?_eq_some_iff.1 gz2).1
      have cz : ∀ y, Chg K2 (K2.set (k.length + 1) y) [k.length + 1] := fun y => (Chg.refl _ _).set (.inl (by simp))
      have hq := hQ (.tuple [vo, .agg (q.got p).2.2.1.av, .bool true], K2.set (k.length + 1) (.row 25 [(q.got p).2.2.1.av] true true)) ⟨_, vo, vw, kv3, by rw [hgot], ((c2).trans cL (fun c hc => .inl hc)).trans (cz _) (fun c hc => by simp at hc; exact .inr (by omega)), by rw [hgot, hkp]; exact aL.keep (cz _) (by simp; omega) (fun c hc => by have := hfw' c (foot0_sub hc); simp; omega) (fun c hc => by rcases fkL c hc with h | h; (rcases (fun c (h : c ∈ foot0 kv) => (.inl h : c ∈ foot0 kv ∨ k.length + 2 ≤ c)) c h with h | h; (have := a.kk.lt0 c h; simp; omega); (simp; omega)); (simp; omega)), by rw [hgot, hkp]; exact oL.keep (cz _) (fun c hc => by have := foL c hc; simp; omega), fun c hc => by have := foL c hc; omega, fun c hc => .inr (by have := hfw' c (foot0_sub hc); omega), fun c hc => by rcases fkL c hc with h | h; (rcases (fun c (h : c ∈ foot0 kv) => (.inl h : c ∈ foot0 kv ∨ k.length + 2 ≤ c)) c h with h | h; (exact .inl h); (exact .inr (by omega))); (exact .inr (by omega))⟩
      rw [hgot, hkp] at hq
      simp only [Pk.av, Lt.zero] at hq
      simp only at rL
      have zL' := zL
      simp only [Pk.av, Pk.zero, Lt.zero] at zL'
      simp [yld_some, exec_reg, exec_dreg, exec_seq, exec_cond, exec_block, exec_scope, exec_exit, exec_ret, exec_skip, exec_loop, ops_nil, ops_cons, ops_cons_gd, stages_nil, stages_cons_n, stages_cons_h, recheck, wantsOp, AV.same, sames, evalOp_p, evalOp_r, evalOp_a, evalOp_call, evalOp_callV, evalOp_store, evalOp_append, evalOp_clear, evalOp_mapUpdate, evalOp_delete, pP_move, pP_pick, pP_build, pP_nil_ptr, pP_nil_func, pP_bin, pP_eq, pP_neg, pP_inv, pP_not, pP_convInt, pP_convStr, pP_fieldAddr, pP_field, pP_indexAddr, pP_indexStr, pP_sliceStr, pP_sliceSl, pP_lenStr, pP_lenNil, pP_lenSl, pP_min, pP_max, pP_extract, pP_mkfn, bV_add, bV_sub, bV_mul, bV_quo, bV_rem, bV_and, bV_or, bV_xor, bV_andNot, bV_eql, bV_neq, bV_lss, bV_leq, bV_gtr, bV_geq, bV_shl, bV_shr, bV_str, eV_bool, eV_nn, eV_np, eV_pn, eV_snn, eV_sns, eV_ssn, eV_mnn, eV_mnm, eV_mmn, eV_fnn, eV_fnf, eV_ffn, eV_agg, rP_load, rP_lenNil, rP_str0, rdEl_K, rdK_row, aP_alloc, aP_box, aP_buildSlice, aP_makeSlice, aP_makeMap, aP_toBytes, hP_store, storeK_some, st_K, stK_row, stE_some, cells_agg, cells_bool, scalar_bool, cells_int, scalar_int, cells_str, scalar_str, cells_nilptr, scalar_nilptr, cells_ptr, scalar_ptr, cells_nilslice, scalar_nilslice, cells_slice, scalar_slice, cells_nilmap, scalar_nilmap, cells_map, scalar_map, cells_nilfunc, scalar_nilfunc, cells_func, scalar_func, eqCells, eqLeaf, run_toL, toL_some, ev_toL, getD_toL, put_toL, keep_toL, asc, fput_same, fput_ne, fbase_nil, fbase_cons, fkeep_nil, fkeep_cons, fzero, fnone, List.map_cons, List.map_nil, ev_lit, put_none, resVals, resVal, resOf, partV, fillA, putCells, fillEls, strBin, minV, optNat, appendEls, elsOf, sliceSlV, sliceStrV, List.replicate, List.getElem?_append_left, List.getElem?_append_right, List.set_append_left, List.set_append_right, List.getElem?_set_self, List.getElem?_set_ne, hq_get0, hq_get, hq_get2, hq_get3, hp_get0, hp_get, hp_get2, hp_get3, hp_set0, hp_set, hp_set2, hp_set3, wr_0, wr_1, wr_2, wr_3, wr_4, wr_n1, h0, h5, h9, rL, get_app rL, set_app rL, get_set_same rL, get_set_app rL, set_set_app rL, len_beq rL, beq_len rL, zL', get_app zL', set_app zL', get_set_same zL', get_set_app zL', set_set_app zL', len_beq zL', beq_len zL', oc.1, oc.2.1, oc.2.2]
      simpa using hq
    | none =>
      rw [hx] at e31s
      have e31s : call Lp.fs3 Lp.ex3 31 _ _ = some (.int .i64 (-1), _) := e31s
      have hkp : q.keep p = q.P ++ [p] := by simp [Rs.keep, d1, d2, hx]
      obtain ⟨t1, K2, q1, o1, u1, f1k⟩ := nil_append (rds_app (k := [.row 25 [p.av] true true]) a2.kk) (pvs_scalar _) (by rw [pvs_len]; show q.P.length ≤ _; omega)
      have f1k' : ∀ z ∈ foot t1, k1.length + 1 ≤ z := fun z hz => by have := f1k z hz; simpa using this
      have gn : K2[k1.length]? = some (.row 25 [p.av] true true) := u1.2 _ _ (by simp) (by rw [List.getElem?_append_right (by simp)]; simp)
      have lk2 := u1.1
      rw [List.length_append, List.length_set, List.length_singleton] at lk2
      have grK2 := u1.2 _ _ (by simp) (get_app a2.row)
      have gpK2 := u1.2 _ _ (by simp) (get_app gp2r)
      have gzK2 := u1.2 _ _ (by simp) (get_app gz2)
      obtain ⟨kv2, K3, q2, o2, u2, f2k⟩ := ownE_append o1 (x := .slice k1.length 25 0 1 1 true) (X := [p.av]) (.inr <| .inr ⟨k1.length, 1, true, [p.av], true, true, rfl, gn, rfl, by simp⟩) (by simp) (by simpa using pv_scalar p) (by simp [pvs_len]; omega)
      have hrk1 : r < k1.length := by have := (List.getElem?_eq_some_iff.1 hr1).1; omega
      have lk3 := u2.1
      have nf : ∀ z, z < k1.length + 1 → z ∉ foot t1 := fun z h hm => by have := f1k' z hm; omega
      have grK3 := u2.2 _ _ (nf r (by omega)) grK2
      have gpK3 := u2.2 _ _ (nf k.length (by omega)) gpK2
      have gzK3 := u2.2 _ _ (nf (k.length + 1) (by omega)) gzK2
      have uu : Chg (List.set k1 r (Blk.row 7 [[.int .i64 q.me, .int .i64 q.peer, .int .i64 q.sent, vw, .int .i64 q.came, kv, .int .i64 q.now]] true true)) K3 [] := ⟨by simp; omega, fun z y hn hy => by
        have hz := (List.getElem?_eq_some_iff.1 hy).1
        simp at hz
        exact u2.2 z y (nf z (by omega)) (u1.2 z y (by simp) (get_app hy))⟩
      obtain ⟨A3, hA3⟩ : ∃ A : Blk, A = rrow { q with O := later p.ack q.O, P := q.P ++ [p] } vw kv2 := ⟨_, rfl⟩
      have u3 : Chg K3 (K3.set r A3) [r] := (Chg.refl _ _).set (.inl (by simp))
      have f2k' : ∀ z ∈ foot kv2, k1.length + 1 ≤ z := fun z hz => by have := f2k z hz; omega
      have gr4 : (K3.set r A3)[r]? = some A3 := get_set_same grK3
      have gz4 : (K3.set r A3)[k.length + 1]? = some (.row 25 [Pk.zero.av] true true) := (List.getElem?_set_ne (by omega)).trans gzK3
      have gp4 : (K3.set r A3)[k.length]? = _ := (List.getElem?_set_ne (by omega)).trans gpK3
      have a4 : RefAt (K3.set r A3) r vw kv2 { q with O := later p.ack q.O, P := q.P ++ [p] } := ⟨by rw [gr4, hA3], (a2.oo.keep0 uu (by simp)).keep0 u3 (fun c hc => by have := hfw' c (foot0_sub hc); simp only [List.mem_singleton]; omega), by
        have h : OwnE K3 25 kv2 (pvs (q.P ++ [p])) := by rw [pvs_snoc]; exact o2
        exact h.rds.keep u3 (fun c hc => by have := f2k' c hc; simp only [List.mem_singleton]; omega), a2.no, fun hm => by have := f2k' r (foot0_sub hm); omega, cap_own o2⟩
      have c4 : Chg k (K3.set r A3) [r] := (c2.trans uu (by simp)).trans u3 (fun c hc => .inl hc)
      have e31d := rkept_call a4 (by simp; omega) (q.came + 1)
      have st1 := o1.rds.cells
      have st2 := o2.rds.cells
      subst hA3
      unfold rrow at grK2 grK3 gr4 gz4 gp4 e31d a4 c4
      simp only at grK2 grK3 gr4 e31d
      have gzK2' := gzK2
      have gzK3' := gzK3
      have gz4' := gz4
      simp only [Pk.av, Pk.zero, Lt.zero] at gzK2' gzK3' gz4'
      simp only [Pv.av] at q1 q2
      simp [yld_some, exec_reg, exec_dreg, exec_seq, exec_cond, exec_block, exec_scope, exec_exit, exec_ret, exec_skip, exec_loop, ops_nil, ops_cons, ops_cons_gd, stages_nil, stages_cons_n, stages_cons_h, recheck, wantsOp, AV.same, sames, evalOp_p, evalOp_r, evalOp_a, evalOp_call, evalOp_callV, evalOp_store, evalOp_append, evalOp_clear, evalOp_mapUpdate, evalOp_delete, pP_move, pP_pick, pP_build, pP_nil_ptr, pP_nil_func, pP_bin, pP_eq, pP_neg, pP_inv, pP_not, pP_convInt, pP_convStr, pP_fieldAddr, pP_field, pP_indexAddr, pP_indexStr, pP_sliceStr, pP_sliceSl, pP_lenStr, pP_lenNil, pP_lenSl, pP_min, pP_max, pP_extract, pP_mkfn, bV_add, bV_sub, bV_mul, bV_quo, bV_rem, bV_and, bV_or, bV_xor, bV_andNot, bV_eql, bV_neq, bV_lss, bV_leq, bV_gtr, bV_geq, bV_shl, bV_shr, bV_str, eV_bool, eV_nn, eV_np, eV_pn, eV_snn, eV_sns, eV_ssn, eV_mnn, eV_mnm, eV_mmn, eV_fnn, eV_fnf, eV_ffn, eV_agg, rP_load, rP_lenNil, rP_str0, rdEl_K, rdK_row, aP_alloc, aP_box, aP_buildSlice, aP_makeSlice, aP_makeMap, aP_toBytes, hP_store, storeK_some, st_K, stK_row, stE_some, cells_agg, cells_bool, scalar_bool, cells_int, scalar_int, cells_str, scalar_str, cells_nilptr, scalar_nilptr, cells_ptr, scalar_ptr, cells_nilslice, scalar_nilslice, cells_slice, scalar_slice, cells_nilmap, scalar_nilmap, cells_map, scalar_map, cells_nilfunc, scalar_nilfunc, cells_func, scalar_func, eqCells, eqLeaf, run_toL, toL_some, ev_toL, getD_toL, put_toL, keep_toL, asc, fput_same, fput_ne, fbase_nil, fbase_cons, fkeep_nil, fkeep_cons, fzero, fnone, List.map_cons, List.map_nil, ev_lit, put_none, resVals, resVal, resOf, partV, fillA, putCells, fillEls, strBin, minV, optNat, appendEls, elsOf, sliceSlV, sliceStrV, List.replicate, List.getElem?_append_left, List.getElem?_append_right, List.set_append_left, List.set_append_right, List.getElem?_set_self, List.getElem?_set_ne, hq_get0, hq_get, hq_get2, hq_get3, hp_get0, hp_get, hp_get2, hp_get3, hp_set0, hp_set, hp_set2, hp_set3, wr_0, wr_1, wr_2, wr_3, wr_4, wr_n1, g0, g3, g5, g7, hr1, get_app hr1, set_app hr1, get_set_same hr1, get_set_app hr1, set_set_app hr1, len_beq hr1, beq_len hr1, gp1', get_app gp1', set_app gp1', get_set_same gp1', get_set_app gp1', set_set_app gp1', len_beq gp1', beq_len gp1', gr2', get_app gr2', set_app gr2', get_set_same gr2', get_set_app gr2', set_set_app gr2', len_beq gr2', beq_len gr2', gp2r, get_app gp2r, set_app gp2r, get_set_same gp2r, get_set_app gp2r, set_set_app gp2r, len_beq gp2r, beq_len gp2r, gz2r, get_app gz2r, set_app gz2r, get_set_same gz2r, get_set_app gz2r, set_set_app gz2r, len_beq gz2r, beq_len gz2r, sw.1, sw.2.1, sw.2.2, sk.1, sk.2.1, sk.2.2, b0, wc, d1, ws, d2, e31s, q1, q2, e31d, grK2, get_app grK2, set_app grK2, get_set_same grK2, get_set_app grK2, set_set_app grK2, len_beq grK2, beq_len grK2, gpK2, get_app gpK2, set_app gpK2, get_set_same gpK2, get_set_app gpK2, set_set_app gpK2, len_beq gpK2, beq_len gpK2, gzK2', get_app gzK2', set_app gzK2', get_set_same gzK2', get_set_app gzK2', set_set_app gzK2', len_beq gzK2', beq_len gzK2', grK3, get_app grK3, set_app grK3, get_set_same grK3, get_set_app grK3, set_set_app grK3, len_beq grK3, beq_len grK3, gpK3, get_app gpK3, set_app gpK3, get_set_same gpK3, get_set_app gpK3, set_set_app gpK3, len_beq gpK3, beq_len gpK3, gzK3', get_app gzK3', set_app gzK3', get_set_same gzK3', get_set_app gzK3', set_set_app gzK3', len_beq gzK3', beq_len gzK3', gr4, get_app gr4, set_app gr4, get_set_same gr4, get_set_app gr4, set_set_app gr4, len_beq gr4, beq_len gr4, gp4, get_app gp4, set_app gp4, get_set_same gp4, get_set_app gp4, set_set_app gp4, len_beq gp4, beq_len gp4, gz4', get_app gz4', set_app gz4', get_set_same gz4', get_set_app gz4', set_set_app gz4', len_beq gz4', beq_len gz4', st1.1, st1.2.1, st1.2.2, st2.1, st2.2.1, st2.2.2, sv_cells, sv_scalar, sv_same]
      repeat (first | apply yld_endFn | apply yld_seqK | apply yld_blockK | apply yld_regK | apply yld_opsK | apply yld_putK | apply yld_stgK | apply yld_chkK)
      refine told_loop (R := _) ?_ a4 ?_ ?_ ?_ ?_ ?_ ?_
      · simp [sf21, Bk.loopsAll]
      · simp; omega
      · exact hc
      · simp [fput, g0]
      · rfl
      · rfl
      intro f2 K2 kv3 vo h0 h5 h9 cL aL oL foL fkL fvL
      simp [fput] at h5
      try rw [g5] at h5
      have rL := aL.row
      unfold rrow at rL
      have zL := cL.2 (k.length + 1) _ (by simp; omega) gz4
      have oc := oL.rds.cells
      have lK := (c4).1
      have lK2 := cL.1
      have l3 := (List.getElem?_eq_some_iff.1 gz4).1
      have cz : ∀ y, Chg K2 (K2.set (k.length + 1) y) [k.length + 1] := fun y => (Chg.refl _ _).set (.inl (by simp))
      have hq := hQ (.tuple [vo, .agg (q.got p).2.2.1.av, .bool true], K2.set (k.length + 1) (.row 25 [(q.got p).2.2.1.av] true true)) ⟨_, vo, vw, kv3, by rw [hgot], ((c4).trans cL (fun c hc => .inl hc)).trans (cz _) (fun c hc => by simp at hc; exact .inr (by omega)), by rw [hgot, hkp]; exact aL.keep (cz _) (by simp; omega) (fun c hc => by have := hfw' c (foot0_sub hc); simp; omega) (fun c hc => by rcases fkL c hc with h | h; (rcases (fun c (h : c ∈ foot0 kv2) => (.inr (by have := f2k' c (foot0_sub h); omega) : c ∈ foot0 kv ∨ k.length + 2 ≤ c)) c h with h | h; (have := a.kk.lt0 c h; simp; omega); (simp; omega)); (simp; omega)), by rw [hgot, hkp]; exact oL.keep (cz _) (fun c hc => by have := foL c hc; simp; omega), fun c hc => by have := foL c hc; omega, fun c hc => .inr (by have := hfw' c (foot0_sub hc); omega), fun c hc => by rcases fkL c hc with h | h; (rcases (fun c (h : c ∈ foot0 kv2) => (.inr (by have := f2k' c (foot0_sub h); omega) : c ∈ foot0 kv ∨ k.length + 2 ≤ c)) c h with h | h; (exact .inl h); (exact .inr (by omega))); (exact .inr (by omega))⟩
      rw [hgot, hkp] at hq
      simp only [Pk.av, Lt.zero] at hq
      simp only at rL
      have zL' := zL
      simp only [Pk.av, Pk.zero, Lt.zero] at zL'
      simp [yld_some, exec_reg, exec_dreg, exec_seq, exec_cond, exec_block, exec_scope, exec_exit, exec_ret, exec_skip, exec_loop, ops_nil, ops_cons, ops_cons_gd, stages_nil, stages_cons_n, stages_cons_h, recheck, wantsOp, AV.same, sames, evalOp_p, evalOp_r, evalOp_a, evalOp_call, evalOp_callV, evalOp_store, evalOp_append, evalOp_clear, evalOp_mapUpdate, evalOp_delete, pP_move, pP_pick, pP_build, pP_nil_ptr, pP_nil_func, pP_bin, pP_eq, pP_neg, pP_inv, pP_not, pP_convInt, pP_convStr, pP_fieldAddr, pP_field, pP_indexAddr, pP_indexStr, pP_sliceStr, pP_sliceSl, pP_lenStr, pP_lenNil, pP_lenSl, pP_min, pP_max, pP_extract, pP_mkfn, bV_add, bV_sub, bV_mul, bV_quo, bV_rem, bV_and, bV_or, bV_xor, bV_andNot, bV_eql, bV_neq, bV_lss, bV_leq, bV_gtr, bV_geq, bV_shl, bV_shr, bV_str, eV_bool, eV_nn, eV_np, eV_pn, eV_snn, eV_sns, eV_ssn, eV_mnn, eV_mnm, eV_mmn, eV_fnn, eV_fnf, eV_ffn, eV_agg, rP_load, rP_lenNil, rP_str0, rdEl_K, rdK_row, aP_alloc, aP_box, aP_buildSlice, aP_makeSlice, aP_makeMap, aP_toBytes, hP_store, storeK_some, st_K, stK_row, stE_some, cells_agg, cells_bool, scalar_bool, cells_int, scalar_int, cells_str, scalar_str, cells_nilptr, scalar_nilptr, cells_ptr, scalar_ptr, cells_nilslice, scalar_nilslice, cells_slice, scalar_slice, cells_nilmap, scalar_nilmap, cells_map, scalar_map, cells_nilfunc, scalar_nilfunc, cells_func, scalar_func, eqCells, eqLeaf, run_toL, toL_some, ev_toL, getD_toL, put_toL, keep_toL, asc, fput_same, fput_ne, fbase_nil, fbase_cons, fkeep_nil, fkeep_cons, fzero, fnone, List.map_cons, List.map_nil, ev_lit, put_none, resVals, resVal, resOf, partV, fillA, putCells, fillEls, strBin, minV, optNat, appendEls, elsOf, sliceSlV, sliceStrV, List.replicate, List.getElem?_append_left, List.getElem?_append_right, List.set_append_left, List.set_append_right, List.getElem?_set_self, List.getElem?_set_ne, hq_get0, hq_get, hq_get2, hq_get3, hp_get0, hp_get, hp_get2, hp_get3, hp_set0, hp_set, hp_set2, hp_set3, wr_0, wr_1, wr_2, wr_3, wr_4, wr_n1, h0, h5, h9, rL, get_app rL, set_app rL, get_set_same rL, get_set_app rL, set_set_app rL, len_beq rL, beq_len rL, zL', get_app zL', set_app zL', get_set_same zL', get_set_app zL', set_set_app zL', len_beq zL', beq_len zL', oc.1, oc.2.1, oc.2.2]
      simpa using hq
end
end Go.Proofs.Ytmbkklobijflkaa.Lp
