/- The document's link: a packet comes: its loops. -/
import Derived.Test.YtmbkklobijflkaaLpT
set_option maxRecDepth 100000
set_option linter.unusedVariables false
set_option linter.unusedSimpArgs false
namespace Go.Proofs.Ytmbkklobijflkaa.Lp
open Go Go.Eng F Lk Bk BkI

set_option maxHeartbeats 8000000 in
theorem wait_loop {lv : List Nat} {body : SCode} (hb : (Bk.loopsAll sf21.body)[0]? = some (lv, body)) {f : Nat → AV} {k : H} {r pb : Nat} {ov kv : AV} {q : Rs} {p : Pv} (a : RefAt k r ov kv q) (hl : q.O.length < 100000) (hpb : k[pb]? = some (.row 25 [p.av] true true))
    (f0 : f 0 = .ptr r 0 0) (f3 : f 3 = .ptr pb 0 0) (f7 : f 7 = .nilslice) (f8 : f 8 = .int .i64 0) {R : (Ex × Env) × H → Prop}
    (hR : ∀ (f' : Nat → AV) (k' : H) (vo : AV), f' 0 = .ptr r 0 0 → f' 3 = .ptr pb 0 0 → f' 5 = f 5 → f' 7 = vo → Chg k k' [] → OwnE k' 23 vo (rns (later p.ack q.O)) → (∀ c ∈ foot vo, k.length ≤ c) → R ((.exit 0, toL 186 f'), k')) :
    Yld (itw (fun env => exec (call Lp.fs3 Lp.ex3) itw body (keepFrom lv 0 env)) (toL 186 f) k) R := by
  simp [sf21, Bk.loopsAll] at hb
  obtain ⟨rfl, rfl⟩ := hb
  refine yld_rounds (fun m e k' => ∃ f' i vo, e = toL 186 f' ∧ m = q.O.length - i ∧ i ≤ q.O.length ∧ f' 0 = .ptr r 0 0 ∧ f' 3 = .ptr pb 0 0 ∧ f' 5 = f 5 ∧ f' 7 = vo ∧ f' 8 = .int .i64 (i : Nat) ∧ Chg k k' [] ∧ OwnE k' 23 vo (rns (later p.ack (q.O.take i))) ∧ ∀ c ∈ foot vo, k.length ≤ c) (q.O.length - 0) ?_ ?_
  · exact ⟨f, 0, .nilslice, rfl, rfl, Nat.zero_le _, f0, f3, rfl, f7, f8, Chg.refl _ _, .inl ⟨rfl, by simp [later, rns]⟩, by simp [foot]⟩
  · generalize f 5 = w5 at hR ⊢
    clear f0 f3 f7 f8
    rintro J R' hJ hR' z e kk ⟨f, i, vo, rfl, rfl, hi, f0, f3, f5, f7, f8, hch, ho, hfo⟩
    have ak := a.keep hch (by simp) (by simp) (by simp)
    have hr := ak.row
    have hp := hch.2 _ _ (by simp) hpb
    have lo := ak.oo.len
    rw [rns_len] at lo
    have kl := hch.1
    have so := ak.oo.cells
    unfold rrow at hr
    by_cases hil : i < q.O.length
    · have hil1 : decide ((i : Int) < (q.O.length : Nat)) = true := dec_true (by omega)
      have hwi : IntKind.i64.wrap ((i : Int) + 1) = ((i + 1 : Nat) : Int) := wrap_i64 (by omega) (by omega)
      obtain ⟨ip, gp⟩ := ak.oo.idx (i := i) (by rw [rns_len]; exact hil)
      have hx : (rns q.O)[i]? = some (rn q.O[i]) := by simp [rns, hil]
      rw [hx] at gp
      by_cases hs : p.ack < q.O[i].seq
      · have hd : decide (p.ack < q.O[i].seq) = true := dec_true hs
        have ho1 := own_app1 (k := [.row 23 [rn q.O[i]] true true]) ho
        obtain ⟨vo', k2, e9, o2, c2, f2⟩ := ownE_append ho1 (x := .slice kk.length 23 0 1 1 true) (X := [rn q.O[i]]) (.inr <| .inr ⟨kk.length, 1, true, [rn q.O[i]], true, true, rfl, by simp, rfl, by simp⟩) (by simp) (by simpa using rn_scalar q.O[i]) (by
          have h1 := List.length_filter_le (fun s : Sn => decide (p.ack < s.seq)) (q.O.take i)
          have h2 : (q.O.take i).length ≤ q.O.length := by simp; omega
          simp only [rns_len, later, List.length_singleton]
          omega)
        have sv := ho.rds.cells
        unfold rn at gp e9
        unfold Pv.av at hp
        simp [yld_some, exec_reg, exec_dreg, exec_seq, exec_cond, exec_block, exec_scope, exec_exit, exec_ret, exec_skip, exec_loop, ops_nil, ops_cons, ops_cons_gd, stages_nil, stages_cons_n, stages_cons_h, recheck, wantsOp, AV.same, sames, evalOp_p, evalOp_r, evalOp_a, evalOp_call, evalOp_callV, evalOp_store, evalOp_append, evalOp_clear, evalOp_mapUpdate, evalOp_delete, pP_move, pP_pick, pP_build, pP_nil_ptr, pP_nil_func, pP_bin, pP_eq, pP_neg, pP_inv, pP_not, pP_convInt, pP_convStr, pP_fieldAddr, pP_field, pP_indexAddr, pP_indexStr, pP_sliceStr, pP_sliceSl, pP_lenStr, pP_lenNil, pP_lenSl, pP_min, pP_max, pP_extract, pP_mkfn, bV_add, bV_sub, bV_mul, bV_quo, bV_rem, bV_and, bV_or, bV_xor, bV_andNot, bV_eql, bV_neq, bV_lss, bV_leq, bV_gtr, bV_geq, bV_shl, bV_shr, bV_str, eV_bool, eV_nn, eV_np, eV_pn, eV_snn, eV_sns, eV_ssn, eV_mnn, eV_mnm, eV_mmn, eV_fnn, eV_fnf, eV_ffn, eV_agg, rP_load, rP_lenNil, rP_str0, rdEl_K, rdK_row, aP_alloc, aP_box, aP_buildSlice, aP_makeSlice, aP_makeMap, aP_toBytes, hP_store, storeK_some, st_K, stK_row, stE_some, cells_agg, cells_bool, scalar_bool, cells_int, scalar_int, cells_str, scalar_str, cells_nilptr, scalar_nilptr, cells_ptr, scalar_ptr, cells_nilslice, scalar_nilslice, cells_slice, scalar_slice, cells_nilmap, scalar_nilmap, cells_map, scalar_map, cells_nilfunc, scalar_nilfunc, cells_func, scalar_func, eqCells, eqLeaf, run_toL, toL_some, ev_toL, getD_toL, put_toL, keep_toL, asc, fput_same, fput_ne, fbase_nil, fbase_cons, fkeep_nil, fkeep_cons, fzero, fnone, List.map_cons, List.map_nil, ev_lit, put_none, resVals, resVal, resOf, partV, fillA, putCells, fillEls, strBin, minV, optNat, appendEls, elsOf, sliceSlV, sliceStrV, List.replicate, List.getElem?_append_left, List.getElem?_append_right, List.set_append_left, List.set_append_right, List.getElem?_set_self, List.getElem?_set_ne, hq_get0, hq_get, hq_get2, hq_get3, hp_get0, hp_get, hp_get2, hp_get3, hp_set0, hp_set, hp_set2, hp_set3, wr_0, wr_1, wr_2, wr_3, wr_4, wr_n1, f0, f3, f5, f7, f8, lo, hil, hil1, hwi, hr, get_app hr, set_app hr, get_set_same hr, get_set_app hr, set_set_app hr, len_beq hr, beq_len hr, hp, get_app hp, set_app hp, get_set_same hp, get_set_app hp, set_set_app hp, len_beq hp, beq_len hp, ip, gp, hd, hs, e9, sv.1, sv.2.1, sv.2.2]
        refine ⟨q.O.length - (i + 1), by omega, hJ _ _ _ ⟨_, i + 1, vo', rfl, rfl, by omega, rfl, rfl, rfl, rfl, rfl, ((hch.trans (Chg.app kk _ []) (by simp)).trans c2 (fun c hc => .inr (hfo c hc))), ?_, fun c hc => by have := f2 c hc; simp at this; omega⟩⟩
        rw [take_succ_get hil]
        have : later p.ack (q.O.take i ++ [q.O[i]]) = later p.ack (q.O.take i) ++ [q.O[i]] := by
          unfold later
          rw [List.filter_append, List.filter_cons_of_pos (by simpa using hs), List.filter_nil]
        rw [this, rns_snoc]
        exact o2
      · have hd : decide (p.ack < q.O[i].seq) = false := dec_false hs
        unfold rn at gp
        unfold Pv.av at hp
        simp [yld_some, exec_reg, exec_dreg, exec_seq, exec_cond, exec_block, exec_scope, exec_exit, exec_ret, exec_skip, exec_loop, ops_nil, ops_cons, ops_cons_gd, stages_nil, stages_cons_n, stages_cons_h, recheck, wantsOp, AV.same, sames, evalOp_p, evalOp_r, evalOp_a, evalOp_call, evalOp_callV, evalOp_store, evalOp_append, evalOp_clear, evalOp_mapUpdate, evalOp_delete, pP_move, pP_pick, pP_build, pP_nil_ptr, pP_nil_func, pP_bin, pP_eq, pP_neg, pP_inv, pP_not, pP_convInt, pP_convStr, pP_fieldAddr, pP_field, pP_indexAddr, pP_indexStr, pP_sliceStr, pP_sliceSl, pP_lenStr, pP_lenNil, pP_lenSl, pP_min, pP_max, pP_extract, pP_mkfn, bV_add, bV_sub, bV_mul, bV_quo, bV_rem, bV_and, bV_or, bV_xor, bV_andNot, bV_eql, bV_neq, bV_lss, bV_leq, bV_gtr, bV_geq, bV_shl, bV_shr, bV_str, eV_bool, eV_nn, eV_np, eV_pn, eV_snn, eV_sns, eV_ssn, eV_mnn, eV_mnm, eV_mmn, eV_fnn, eV_fnf, eV_ffn, eV_agg, rP_load, rP_lenNil, rP_str0, rdEl_K, rdK_row, aP_alloc, aP_box, aP_buildSlice, aP_makeSlice, aP_makeMap, aP_toBytes, hP_store, storeK_some, st_K, stK_row, stE_some, cells_agg, cells_bool, scalar_bool, cells_int, scalar_int, cells_str, scalar_str, cells_nilptr, scalar_nilptr, cells_ptr, scalar_ptr, cells_nilslice, scalar_nilslice, cells_slice, scalar_slice, cells_nilmap, scalar_nilmap, cells_map, scalar_map, cells_nilfunc, scalar_nilfunc, cells_func, scalar_func, eqCells, eqLeaf, run_toL, toL_some, ev_toL, getD_toL, put_toL, keep_toL, asc, fput_same, fput_ne, fbase_nil, fbase_cons, fkeep_nil, fkeep_cons, fzero, fnone, List.map_cons, List.map_nil, ev_lit, put_none, resVals, resVal, resOf, partV, fillA, putCells, fillEls, strBin, minV, optNat, appendEls, elsOf, sliceSlV, sliceStrV, List.replicate, List.getElem?_append_left, List.getElem?_append_right, List.set_append_left, List.set_append_right, List.getElem?_set_self, List.getElem?_set_ne, hq_get0, hq_get, hq_get2, hq_get3, hp_get0, hp_get, hp_get2, hp_get3, hp_set0, hp_set, hp_set2, hp_set3, wr_0, wr_1, wr_2, wr_3, wr_4, wr_n1, f0, f3, f5, f7, f8, lo, hil, hil1, hwi, hr, get_app hr, set_app hr, get_set_same hr, get_set_app hr, set_set_app hr, len_beq hr, beq_len hr, hp, get_app hp, set_app hp, get_set_same hp, get_set_app hp, set_set_app hp, len_beq hp, beq_len hp, ip, gp, hd, hs]
        refine ⟨q.O.length - (i + 1), by omega, hJ _ _ _ ⟨_, i + 1, vo, rfl, rfl, by omega, rfl, rfl, rfl, rfl, rfl, hch, ?_, hfo⟩⟩
        rw [take_succ_get hil]
        have : later p.ack (q.O.take i ++ [q.O[i]]) = later p.ack (q.O.take i) := by
          unfold later
          rw [List.filter_append, List.filter_cons_of_neg (by simpa using hs), List.filter_nil, List.append_nil]
        rw [this]
        exact ho
    · have hil1 : decide ((i : Int) < (q.O.length : Nat)) = false := dec_false (by omega)
      simp [yld_some, exec_reg, exec_dreg, exec_seq, exec_cond, exec_block, exec_scope, exec_exit, exec_ret, exec_skip, exec_loop, ops_nil, ops_cons, ops_cons_gd, stages_nil, stages_cons_n, stages_cons_h, recheck, wantsOp, AV.same, sames, evalOp_p, evalOp_r, evalOp_a, evalOp_call, evalOp_callV, evalOp_store, evalOp_append, evalOp_clear, evalOp_mapUpdate, evalOp_delete, pP_move, pP_pick, pP_build, pP_nil_ptr, pP_nil_func, pP_bin, pP_eq, pP_neg, pP_inv, pP_not, pP_convInt, pP_convStr, pP_fieldAddr, pP_field, pP_indexAddr, pP_indexStr, pP_sliceStr, pP_sliceSl, pP_lenStr, pP_lenNil, pP_lenSl, pP_min, pP_max, pP_extract, pP_mkfn, bV_add, bV_sub, bV_mul, bV_quo, bV_rem, bV_and, bV_or, bV_xor, bV_andNot, bV_eql, bV_neq, bV_lss, bV_leq, bV_gtr, bV_geq, bV_shl, bV_shr, bV_str, eV_bool, eV_nn, eV_np, eV_pn, eV_snn, eV_sns, eV_ssn, eV_mnn, eV_mnm, eV_mmn, eV_fnn, eV_fnf, eV_ffn, eV_agg, rP_load, rP_lenNil, rP_str0, rdEl_K, rdK_row, aP_alloc, aP_box, aP_buildSlice, aP_makeSlice, aP_makeMap, aP_toBytes, hP_store, storeK_some, st_K, stK_row, stE_some, cells_agg, cells_bool, scalar_bool, cells_int, scalar_int, cells_str, scalar_str, cells_nilptr, scalar_nilptr, cells_ptr, scalar_ptr, cells_nilslice, scalar_nilslice, cells_slice, scalar_slice, cells_nilmap, scalar_nilmap, cells_map, scalar_map, cells_nilfunc, scalar_nilfunc, cells_func, scalar_func, eqCells, eqLeaf, run_toL, toL_some, ev_toL, getD_toL, put_toL, keep_toL, asc, fput_same, fput_ne, fbase_nil, fbase_cons, fkeep_nil, fkeep_cons, fzero, fnone, List.map_cons, List.map_nil, ev_lit, put_none, resVals, resVal, resOf, partV, fillA, putCells, fillEls, strBin, minV, optNat, appendEls, elsOf, sliceSlV, sliceStrV, List.replicate, List.getElem?_append_left, List.getElem?_append_right, List.set_append_left, List.set_append_right, List.getElem?_set_self, List.getElem?_set_ne, hq_get0, hq_get, hq_get2, hq_get3, hp_get0, hp_get, hp_get2, hp_get3, hp_set0, hp_set, hp_set2, hp_set3, wr_0, wr_1, wr_2, wr_3, wr_4, wr_n1, f0, f3, f5, f7, f8, lo, hil, hil1, hr, get_app hr, set_app hr, get_set_same hr, get_set_app hr, set_set_app hr, len_beq hr, beq_len hr]
      have ht : q.O.take i = q.O := List.take_of_length_le (by omega)
      rw [ht] at ho
      exact hR' _ (hR _ _ vo rfl rfl rfl rfl hch ho hfo)
/-- What is told now, and what is left. -/
def rdrain : Nat → Int → List Pv → Int × List Pv × List Lv
  | 0, c, l => (c, l, [])
  | n + 1, c, l => match idxP (c + 1) l with
    | none => (c, l, [])
    | some i => let z := rdrain n (c + 1) (l.eraseIdx i); (z.1, z.2.1, (l[i]?.map (·.y)).toList ++ z.2.2)
theorem rdrain_none {n : Nat} {c : Int} {l : List Pv} (h : idxP (c + 1) l = none) : rdrain n c l = (c, l, []) := by
  cases n with
  | zero => rfl
  | succ n => simp [rdrain, h]
end Go.Proofs.Ytmbkklobijflkaa.Lp
