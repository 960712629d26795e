/- Link, with a book beside: packets that are alike. -/
import Derived.Test.YtmbkklobijflkaaLpY
import Derived.Test.YtmbkklobijflkaaLpH
import Derived.Test.YtmbkklobijflkaaBkW
set_option maxRecDepth 100000
set_option linter.unusedVariables false
set_option linter.unusedSimpArgs false
namespace Go.Proofs.Ytmbkklobijflkaa.Lp
open Go Go.Eng F Lk Bk BkI

/-- A letter with its items told. -/
def lv2 (y : Lv) (X1 X2 : List It) : BkL.Ltr := ⟨y.x.kind, y.x.frm, y.x.to, y.x.id, y.x.a.op, y.x.a.key, y.x.a.value, y.x.a.to, y.x.a.most, y.x.t.errno, y.x.t.value, X1, y.x.t.more, y.x.t.next, y.x.t.node, y.x.af, y.x.at_, y.x.ep, X2, y.x.n, y.x.node⟩
theorem lv2_av (y : Lv) (X1 X2 : List It) : (lv2 y X1 X2).av y.s1.av y.s2.av = y.av := rfl
theorem lv_rep {k : H} {y : Lv} {X1 X2 : List It} (h1 : RdS k 2 y.s1.av (its X1)) (h2 : RdS k 2 y.s2.av (its X2)) : BkL.RepL k y.av (lv2 y X1 X2) := ⟨_, _, (lv2_av y X1 X2).symm, h1, h2⟩
set_option maxHeartbeats 4000000 in
theorem same_packet {k : H} {p q : Pv} {X1 X2 : List It} (hh : p.frm = q.frm ∧ p.to = q.to ∧ p.seq = q.seq ∧ p.ack = q.ack) (hx : p.y.x = q.y.x) (h1 : RdS k 2 p.y.s1.av (its X1)) (h2 : RdS k 2 p.y.s2.av (its X2)) (g1 : RdS k 2 q.y.s1.av (its X1)) (g2 : RdS k 2 q.y.s2.av (its X2))
    (l1 : X1.length * 48 ≤ 281474976710656) (l2 : X2.length * 48 ≤ 281474976710656) : Yld (call Lp.fs3 Lp.ex3 17 [.agg p.av, .agg q.av] k) fun r => ∃ k', r = (.bool true, k') ∧ Chg k k' [] := by
  refine yld_shut fun Q hQ => ?_
  obtain ⟨a, b, c, d, y⟩ := p
  obtain ⟨a', b', c', d', z⟩ := q
  simp only at hh hx h1 h2 g1 g2
  obtain ⟨rfl, rfl, rfl, rfl⟩ := hh
  have hz : lv2 z X1 X2 = lv2 y X1 X2 := by unfold lv2; rw [hx]
  have r1 := lv_rep (rds_app (k := [.row 25 [Pv.av ⟨a, b, c, d, y⟩] true true, .row 25 [Pv.av ⟨a, b, c, d, z⟩] true true]) h1) (rds_app h2)
  have r2 := lv_rep (rds_app (k := [.row 25 [Pv.av ⟨a, b, c, d, y⟩] true true, .row 25 [Pv.av ⟨a, b, c, d, z⟩] true true]) g1) (rds_app g2)
  rw [hz] at r2
  obtain ⟨_, e, k', rfl, ch⟩ := BkL.letter_call r1 r2 ⟨l1, l2⟩
  have hq := hQ (.bool true, k') ⟨k', rfl, (Chg.app k _ []).trans ch (by simp)⟩
  rw [call_eq Lp.fs3 Lp.ex3 (f := 17) (sf := sf17) rfl]
  unfold Pv.av at *
  unfold Lv.av at *
  simp [sf17, yld_some, exec_reg, exec_dreg, exec_seq, exec_cond, exec_block, exec_scope, exec_exit, exec_ret, exec_skip, exec_loop, ops_nil, ops_cons, ops_cons_gd, stages_nil, stages_cons_n, stages_cons_h, recheck, wantsOp, AV.same, sames, evalOp_p, evalOp_r, evalOp_a, evalOp_call, evalOp_callV, evalOp_store, evalOp_append, evalOp_clear, evalOp_mapUpdate, evalOp_delete, pP_move, pP_pick, pP_build, pP_nil_ptr, pP_nil_func, pP_bin, pP_eq, pP_neg, pP_inv, pP_not, pP_convInt, pP_convStr, pP_fieldAddr, pP_field, pP_indexAddr, pP_indexStr, pP_sliceStr, pP_sliceSl, pP_lenStr, pP_lenNil, pP_lenSl, pP_min, pP_max, pP_extract, pP_mkfn, bV_add, bV_sub, bV_mul, bV_quo, bV_rem, bV_and, bV_or, bV_xor, bV_andNot, bV_eql, bV_neq, bV_lss, bV_leq, bV_gtr, bV_geq, bV_shl, bV_shr, bV_str, eV_bool, eV_nn, eV_np, eV_pn, eV_snn, eV_sns, eV_ssn, eV_mnn, eV_mnm, eV_mmn, eV_fnn, eV_fnf, eV_ffn, eV_agg, rP_load, rP_lenNil, rP_str0, rdEl_K, rdK_row, aP_alloc, aP_box, aP_buildSlice, aP_makeSlice, aP_makeMap, aP_toBytes, hP_store, storeK_some, st_K, stK_row, stE_some, cells_agg, cells_bool, scalar_bool, cells_int, scalar_int, cells_str, scalar_str, cells_nilptr, scalar_nilptr, cells_ptr, scalar_ptr, cells_nilslice, scalar_nilslice, cells_slice, scalar_slice, cells_nilmap, scalar_nilmap, cells_map, scalar_map, cells_nilfunc, scalar_nilfunc, cells_func, scalar_func, eqCells, eqLeaf, run_toL, toL_some, ev_toL, getD_toL, put_toL, keep_toL, asc, fput_same, fput_ne, fbase_nil, fbase_cons, fkeep_nil, fkeep_cons, fzero, fnone, List.map_cons, List.map_nil, ev_lit, put_none, resVals, resVal, resOf, partV, fillA, putCells, fillEls, strBin, minV, optNat, appendEls, elsOf, sliceSlV, sliceStrV, List.replicate, List.getElem?_append_left, List.getElem?_append_right, List.set_append_left, List.set_append_right, List.getElem?_set_self, List.getElem?_set_ne, hq_get0, hq_get, hq_get2, hq_get3, hp_get0, hp_get, hp_get2, hp_get3, hp_set0, hp_set, hp_set2, hp_set3, wr_0, wr_1, wr_2, wr_3, wr_4, wr_n1, sv_cells, sv_scalar, sv_same, e, hq]
end Go.Proofs.Ytmbkklobijflkaa.Lp
