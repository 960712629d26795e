/- A book of lists: letters, with their items. -/
import Derived.Test.YtmbkklobijflkaaBkI
set_option maxRecDepth 100000
set_option linter.unusedVariables false
set_option linter.unusedSimpArgs false
namespace Go.Proofs.Ytmbkklobijflkaa.BkL
open Go Go.Eng F Bk BkI

structure Ltr where
  kind : Int
  frm : Int
  to : Int
  id : Int
  op : Int
  key : List UInt8
  value : List UInt8
  to2 : List UInt8
  most : Int
  errno : Int
  tv : List UInt8
  ti : List It
  more : Bool
  next : List UInt8
  tnode : Int
  af : Int
  at_ : Int
  ep : Int
  it : List It
  n : Int
  node : Int
def Ltr.zero : Ltr := ⟨0, 0, 0, 0, 0, [], [], [], 0, 0, [], [], false, [], 0, 0, 0, 0, [], 0, 0⟩
def Ltr.av (x : Ltr) (v1 v2 : AV) : List AV := [.int .i64 x.kind, .int .i64 x.frm, .int .i64 x.to, .int .i64 x.id, .int .i64 x.op, .str x.key, .str x.value, .str x.to2, .int .i64 x.most, .int .i64 x.errno, .str x.tv, v1, .bool x.more, .str x.next, .int .i64 x.tnode, .int .u64 x.af, .int .u64 x.at_, .int .i64 x.ep, v2, .int .i64 x.n, .int .i64 x.node]
/-- Cells that are a letter. -/
def RepL (k : H) (c : List AV) (x : Ltr) : Prop := ∃ v1 v2, c = x.av v1 v2 ∧ RdS k 2 v1 (its x.ti) ∧ RdS k 2 v2 (its x.it)
theorem rds_foot_cells {k : H} {es : Nat} {v : AV} {L : List (List AV)} (h : RdS k es v L) : v.scalar = true := h.cells.2.1
theorem RepL.keep {k k' : H} {c : List AV} {x : Ltr} (r : RepL k c x) {F : List Nat} (hc : Chg k k' F) (hd : ∀ a ∈ c, ∀ z ∈ foot0 a, z ∉ F) : RepL k' c x := by
  obtain ⟨v1, v2, rfl, h1, h2⟩ := r
  exact ⟨v1, v2, rfl, h1.keep0 hc (hd v1 (by simp [Ltr.av])), h2.keep0 hc (hd v2 (by simp [Ltr.av]))⟩
structure Reps (k : H) (L : List (List AV)) (X : List Ltr) : Prop where
  len : L.length = X.length
  at_ : ∀ i (h : i < L.length) (h' : i < X.length), RepL k L[i] X[i]
theorem Reps.keep {k k' : H} {L : List (List AV)} {X : List Ltr} (r : Reps k L X) {F : List Nat} (hc : Chg k k' F) (hd : ∀ e ∈ L, ∀ a ∈ e, ∀ c ∈ foot0 a, c ∉ F) : Reps k' L X :=
  ⟨r.len, fun i h h' => (r.at_ i h h').keep hc (hd L[i] (List.getElem_mem h))⟩
theorem RepL.lt0 {k : H} {c : List AV} {x : Ltr} (r : RepL k c x) : ∀ a ∈ c, ∀ z ∈ foot0 a, z < k.length := by
  obtain ⟨v1, v2, rfl, h1, h2⟩ := r
  intro a ha z hz
  simp only [Ltr.av, List.mem_cons, List.not_mem_nil, or_false] at ha
  rcases ha with rfl | rfl | rfl | rfl | rfl | rfl | rfl | rfl | rfl | rfl | rfl | rfl | rfl | rfl | rfl | rfl | rfl | rfl | rfl | rfl | rfl
  all_goals first | (simp [foot0] at hz; done) | exact h1.lt0 z hz | exact h2.lt0 z hz
theorem Reps.lt0 {k : H} {L : List (List AV)} {X : List Ltr} (r : Reps k L X) : ∀ e ∈ L, ∀ a ∈ e, ∀ z ∈ foot0 a, z < k.length := by
  intro e he
  obtain ⟨i, hi, rfl⟩ := List.getElem_of_mem he
  exact (r.at_ i hi (by rw [← r.len]; exact hi)).lt0
theorem Reps.size {k : H} {L : List (List AV)} {X : List Ltr} (r : Reps k L X) : ∀ e ∈ L, e.length = 21 := by
  intro e he
  obtain ⟨i, hi, rfl⟩ := List.getElem_of_mem he
  obtain ⟨v1, v2, h, _⟩ := r.at_ i hi (by rw [← r.len]; exact hi)
  rw [h]; rfl
theorem RepL.scalar {k : H} {c : List AV} {x : Ltr} (r : RepL k c x) : ∀ a ∈ c, a.scalar = true := by
  obtain ⟨v1, v2, rfl, h1, h2⟩ := r
  intro a ha
  simp only [Ltr.av, List.mem_cons, List.not_mem_nil, or_false] at ha
  rcases ha with rfl | rfl | rfl | rfl | rfl | rfl | rfl | rfl | rfl | rfl | rfl | rfl | rfl | rfl | rfl | rfl | rfl | rfl | rfl | rfl | rfl
  all_goals first | rfl | exact h1.cells.2.1 | exact h2.cells.2.1
theorem Reps.scalar {k : H} {L : List (List AV)} {X : List Ltr} (r : Reps k L X) : ∀ e ∈ L, ∀ a ∈ e, a.scalar = true := by
  intro e he
  obtain ⟨i, hi, rfl⟩ := List.getElem_of_mem he
  exact (r.at_ i hi (by rw [← r.len]; exact hi)).scalar
theorem reps_nil (k : H) : Reps k [] [] := ⟨rfl, by simp⟩
theorem Reps.snoc {k : H} {L : List (List AV)} {X : List Ltr} (r : Reps k L X) {c : List AV} {x : Ltr} (h : RepL k c x) : Reps k (L ++ [c]) (X ++ [x]) := by
  refine ⟨by simp [r.len], fun i h1 h2 => ?_⟩
  by_cases hi : i < L.length
  · rw [List.getElem_append_left hi, List.getElem_append_left (by rw [← r.len]; exact hi)]
    exact r.at_ i hi _
  · have hl := r.len
    have e : i = L.length := by simp at h1; omega
    subst e
    have e2 : (X ++ [x])[L.length] = x := by
      rw [List.getElem_append_right (by omega)]
      simp [hl]
    rw [List.getElem_append_right (Nat.le_refl _), e2]
    simpa using h
/-- Small letters: few items. -/
def Ltr.small (x : Ltr) : Prop := x.ti.length * 48 ≤ 281474976710656 ∧ x.it.length * 48 ≤ 281474976710656
set_option maxHeartbeats 4000000 in
theorem told_call {k : H} {v w : AV} {T : List It} (hv : RdS k 2 v (its T)) (hw : RdS k 2 w (its T)) (hlen : T.length < 4611686018427387904) (e n : Int) (tv nx : List UInt8) (m : Bool) :
    Yld (call Lp.fs3 Lp.ex3 63 [.agg [.int .i64 e, .str tv, v, .bool m, .str nx, .int .i64 n], .agg [.int .i64 e, .str tv, w, .bool m, .str nx, .int .i64 n]] k) fun r => ∃ k', r = (.bool true, k') ∧ Chg k k' [] := by
  refine yld_shut fun Q hQ => ?_
  rw [call_eq Lp.fs3 Lp.ex3 (f := 63) (sf := sf63) rfl]
  have e1 := same_its (rds_app (k := [.row 6 [[.int .i64 e, .str tv, v, .bool m, .str nx, .int .i64 n]] true true, .row 6 [[.int .i64 e, .str tv, w, .bool m, .str nx, .int .i64 n]] true true]) hv) (rds_app hw) hlen
  have sv := hv.cells
  have sw := hw.cells
  simp [sf63, yld_some, exec_reg, exec_dreg, exec_seq, exec_cond, exec_block, exec_scope, exec_exit, exec_ret, exec_skip, exec_loop, ops_nil, ops_cons, ops_cons_gd, stages_nil, stages_cons_n, stages_cons_h, recheck, wantsOp, AV.same, sames, evalOp_p, evalOp_r, evalOp_a, evalOp_call, evalOp_callV, evalOp_store, evalOp_append, evalOp_clear, evalOp_mapUpdate, evalOp_delete, pP_move, pP_pick, pP_build, pP_nil_ptr, pP_nil_func, pP_bin, pP_eq, pP_neg, pP_inv, pP_not, pP_convInt, pP_convStr, pP_fieldAddr, pP_field, pP_indexAddr, pP_indexStr, pP_sliceStr, pP_sliceSl, pP_lenStr, pP_lenNil, pP_lenSl, pP_min, pP_max, pP_extract, pP_mkfn, bV_add, bV_sub, bV_mul, bV_quo, bV_rem, bV_and, bV_or, bV_xor, bV_andNot, bV_eql, bV_neq, bV_lss, bV_leq, bV_gtr, bV_geq, bV_shl, bV_shr, bV_str, eV_bool, eV_nn, eV_np, eV_pn, eV_snn, eV_sns, eV_ssn, eV_mnn, eV_mnm, eV_mmn, eV_fnn, eV_fnf, eV_ffn, eV_agg, rP_load, rP_lenNil, rP_str0, rdEl_K, rdK_row, aP_alloc, aP_box, aP_buildSlice, aP_makeSlice, aP_makeMap, aP_toBytes, hP_store, storeK_some, st_K, stK_row, stE_some, cells_agg, cells_bool, scalar_bool, cells_int, scalar_int, cells_str, scalar_str, cells_nilptr, scalar_nilptr, cells_ptr, scalar_ptr, cells_nilslice, scalar_nilslice, cells_slice, scalar_slice, cells_nilmap, scalar_nilmap, cells_map, scalar_map, cells_nilfunc, scalar_nilfunc, cells_func, scalar_func, eqCells, eqLeaf, run_toL, toL_some, ev_toL, getD_toL, put_toL, keep_toL, asc, fput_same, fput_ne, fbase_nil, fbase_cons, fkeep_nil, fkeep_cons, fzero, fnone, List.map_cons, List.map_nil, ev_lit, put_none, resVals, resVal, resOf, partV, fillA, putCells, fillEls, strBin, minV, optNat, appendEls, elsOf, sliceSlV, sliceStrV, List.replicate, List.getElem?_append_left, List.getElem?_append_right, List.set_append_left, List.set_append_right, List.getElem?_set_self, List.getElem?_set_ne, hq_get0, hq_get, hq_get2, hq_get3, hp_get0, hp_get, hp_get2, hp_get3, hp_set0, hp_set, hp_set2, hp_set3, wr_0, wr_1, wr_2, wr_3, wr_4, wr_n1, e1, sv.1, sv.2.1, sv.2.2, sw.1, sw.2.1, sw.2.2]
  exact hQ _ ⟨_, rfl, Chg.app _ _ _⟩
set_option maxHeartbeats 8000000 in
theorem letter_call {k : H} {c d : List AV} {x : Ltr} (hc : RepL k c x) (hd : RepL k d x) (hx : x.small) :
    Yld (call Lp.fs3 Lp.ex3 30 [.agg c, .agg d] k) fun r => ∃ k', r = (.bool true, k') ∧ Chg k k' [] := by
  refine yld_shut fun Q hQ => ?_
  obtain ⟨v1, v2, rfl, h1, h2⟩ := hc
  obtain ⟨w1, w2, rfl, g1, g2⟩ := hd
  rw [call_eq Lp.fs3 Lp.ex3 (f := 30) (sf := sf30) rfl]
  have s1 := h1.cells
  have s2 := h2.cells
  have t1 := g1.cells
  have t2 := g2.cells
  obtain ⟨⟨_, k1⟩, e1, _, hr, c1⟩ := told_call (rds_app (k := [.row 21 [x.av v1 v2] true true, .row 21 [x.av w1 w2] true true]) h1) (rds_app g1) (by have := hx.1; omega) x.errno x.tnode x.tv x.next x.more
  cases hr
  have h2' := (rds_app (k := [.row 21 [x.av v1 v2] true true, .row 21 [x.av w1 w2] true true]) h2).keep c1 (by simp)
  have g2' := (rds_app (k := [.row 21 [x.av v1 v2] true true, .row 21 [x.av w1 w2] true true]) g2).keep c1 (by simp)
  have e2 := same_its h2' g2' (by have := hx.2; omega)
  have r1 := c1.2 k.length (.row 21 [x.av v1 v2] true true) (by simp) (by simp)
  have r2 := c1.2 (k.length + 1) (.row 21 [x.av w1 w2] true true) (by simp) (by simp)
  have hq := hQ _ ⟨k1, rfl, (Chg.app k _ []).trans c1 (by simp)⟩
  unfold Ltr.av at *
  simp [sf30, yld_some, exec_reg, exec_dreg, exec_seq, exec_cond, exec_block, exec_scope, exec_exit, exec_ret, exec_skip, exec_loop, ops_nil, ops_cons, ops_cons_gd, stages_nil, stages_cons_n, stages_cons_h, recheck, wantsOp, AV.same, sames, evalOp_p, evalOp_r, evalOp_a, evalOp_call, evalOp_callV, evalOp_store, evalOp_append, evalOp_clear, evalOp_mapUpdate, evalOp_delete, pP_move, pP_pick, pP_build, pP_nil_ptr, pP_nil_func, pP_bin, pP_eq, pP_neg, pP_inv, pP_not, pP_convInt, pP_convStr, pP_fieldAddr, pP_field, pP_indexAddr, pP_indexStr, pP_sliceStr, pP_sliceSl, pP_lenStr, pP_lenNil, pP_lenSl, pP_min, pP_max, pP_extract, pP_mkfn, bV_add, bV_sub, bV_mul, bV_quo, bV_rem, bV_and, bV_or, bV_xor, bV_andNot, bV_eql, bV_neq, bV_lss, bV_leq, bV_gtr, bV_geq, bV_shl, bV_shr, bV_str, eV_bool, eV_nn, eV_np, eV_pn, eV_snn, eV_sns, eV_ssn, eV_mnn, eV_mnm, eV_mmn, eV_fnn, eV_fnf, eV_ffn, eV_agg, rP_load, rP_lenNil, rP_str0, rdEl_K, rdK_row, aP_alloc, aP_box, aP_buildSlice, aP_makeSlice, aP_makeMap, aP_toBytes, hP_store, storeK_some, st_K, stK_row, stE_some, cells_agg, cells_bool, scalar_bool, cells_int, scalar_int, cells_str, scalar_str, cells_nilptr, scalar_nilptr, cells_ptr, scalar_ptr, cells_nilslice, scalar_nilslice, cells_slice, scalar_slice, cells_nilmap, scalar_nilmap, cells_map, scalar_map, cells_nilfunc, scalar_nilfunc, cells_func, scalar_func, eqCells, eqLeaf, run_toL, toL_some, ev_toL, getD_toL, put_toL, keep_toL, asc, fput_same, fput_ne, fbase_nil, fbase_cons, fkeep_nil, fkeep_cons, fzero, fnone, List.map_cons, List.map_nil, ev_lit, put_none, resVals, resVal, resOf, partV, fillA, putCells, fillEls, strBin, minV, optNat, appendEls, elsOf, sliceSlV, sliceStrV, List.replicate, List.getElem?_append_left, List.getElem?_append_right, List.set_append_left, List.set_append_right, List.getElem?_set_self, List.getElem?_set_ne, hq_get0, hq_get, hq_get2, hq_get3, hp_get0, hp_get, hp_get2, hp_get3, hp_set0, hp_set, hp_set2, hp_set3, wr_0, wr_1, wr_2, wr_3, wr_4, wr_n1, r1, get_app r1, set_app r1, get_set_same r1, get_set_app r1, set_set_app r1, len_beq r1, beq_len r1, r2, get_app r2, set_app r2, get_set_same r2, get_set_app r2, set_set_app r2, len_beq r2, beq_len r2, e1, e2, s1.1, s1.2.1, s1.2.2, s2.1, s2.2.1, s2.2.2, t1.1, t1.2.1, t1.2.2, t2.1, t2.2.1, t2.2.2, hq]
end Go.Proofs.Ytmbkklobijflkaa.BkL
