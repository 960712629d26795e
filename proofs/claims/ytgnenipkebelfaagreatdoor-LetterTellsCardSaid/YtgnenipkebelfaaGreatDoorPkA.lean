/- Pack: bytes of numbers; the next bytes. -/
import Derived.Test.YtgnenipkebelfaaGreatDoorLtS
set_option maxRecDepth 100000
set_option linter.unusedVariables false
set_option linter.unusedSimpArgs false
namespace Go.Proofs.YtgnenipkebelfaaGreatDoor.Pk
open Go Go.Eng F

/-- A call that leaves all that there is. -/
theorem below_sound {P : Program} {f : FuncId} (hok : fnOk P f = true) {σ : Inj} {h : H} {w : World} {cs : List Value} (r : Rep σ h w) {v : AV} {c : Value} (hv : VRel σ v c) (hc : Calls P f cs.toArray w fun e w' => e = .returned c ∧ RowKit.Below w.heap.size w w') :
    Calls P f cs.toArray w fun e w' => ∃ c σ', e = .returned c ∧ VRel σ' v c ∧ Rep σ' h w' ∧ Ext σ h w σ' h w' := by
  refine hc.mono fun e w' ⟨he, bl⟩ => ?_
  refine ⟨c, σ, he, hv, ⟨r.dom, fun b l x hl hx => ?_, r.sep, ⟨r.lay.is_.of (fun p _ hk => bl.block _ hk), r.lay.no⟩⟩, Nat.le_refl _, fun _ _ h => h, fun _ _ h => ⟨h, rfl⟩, bl.tape, bl.os, bl.output, bl.size, fun cb hcb _ => bl.block cb hcb, fun cb hcb ho => ho⟩
  have hb := r.blk b l x hl hx
  cases x with
  | dead => trivial
  | row es els wr ap =>
    have hcb := r.cb hl hx (by simp)
    simp only [BlkRel] at hb ⊢
    rw [bl.block _ hcb]; exact hb
  | map es =>
    have hcb := r.cb hl hx (by simp)
    simp only [BlkRel] at hb ⊢
    rw [bl.block _ hcb]; exact hb
  | bld v =>
    have hcb := r.cb hl hx (by simp)
    simp only [BlkRel] at hb ⊢
    rw [bl.block _ hcb]; exact hb
def exS : FuncId → List AV → M AV
  | 122, [.str s], h => if s.length ≤ 281474976710656 then some (.str s, h) else none
  | _, _, _ => none
theorem exS_ok : CfSound Tryz.prog exS := by
  intro f vs h v h' hr
  unfold exS at hr
  split at hr
  · split at hr
    · rename_i s hs
      cases hr
      refine ⟨by kernel_rfl, fun σ w cs r hvs => ?_⟩
      obtain ⟨c, cs', rfl, h1, h2⟩ := vrels_cons hvs
      obtain rfl := vrels_nil h2
      have h3 := vrel_str h1
      subst h3
      exact below_sound (by kernel_rfl) r (by simp [VRel]) (Tryz.stringslite_Clone ⟨s.toArray⟩ w (by simpa [ByteArray.size] using hs))
    · cases hr
  · cases hr
theorem clone2_call (s : List UInt8) (hs : s.length ≤ 281474976710656) (h : H) : call fs exS 119 [.str s] h = some (.str s, h) := by
  have e31 : ∀ vs h, call fs exS 122 vs h = exS 122 vs h := call_ex fs exS rfl
  rw [call_eq fs exS (f := 119) (sf := sf119) rfl]
  simp [sf119, yld_some, exec_reg, exec_dreg, exec_seq, exec_cond, exec_block, exec_scope, exec_exit, exec_ret, exec_skip, exec_loop, ops_nil, ops_cons, ops_cons_gd, stages_nil, stages_cons_n, stages_cons_h, recheck, wantsOp, AV.same, sames, evalOp_p, evalOp_r, evalOp_a, evalOp_call, evalOp_callV, evalOp_store, evalOp_append, evalOp_clear, evalOp_mapUpdate, evalOp_delete, pP_move, pP_pick, pP_build, pP_nil_ptr, pP_nil_func, pP_bin, pP_eq, pP_neg, pP_inv, pP_not, pP_convInt, pP_convStr, pP_fieldAddr, pP_field, pP_indexAddr, pP_indexStr, pP_sliceStr, pP_sliceSl, pP_lenStr, pP_lenNil, pP_lenSl, pP_min, pP_max, pP_extract, pP_mkfn, bV_add, bV_sub, bV_mul, bV_quo, bV_rem, bV_and, bV_or, bV_xor, bV_andNot, bV_eql, bV_neq, bV_lss, bV_leq, bV_gtr, bV_geq, bV_shl, bV_shr, bV_str, eV_bool, eV_nn, eV_np, eV_pn, eV_snn, eV_sns, eV_ssn, eV_mnn, eV_mnm, eV_mmn, eV_fnn, eV_fnf, eV_ffn, eV_agg, rP_load, rP_lenNil, rP_str0, rdEl_K, rdK_row, rdK_bld, aP_newBld, aP_alloc, aP_box, aP_buildSlice, aP_makeSlice, aP_makeMap, aP_toBytes, hP_store, storeK_some, st_K, stK_row, stE_some, cells_agg, cells_bool, scalar_bool, cells_int, scalar_int, cells_str, scalar_str, cells_nilptr, scalar_nilptr, cells_ptr, scalar_ptr, cells_nilslice, scalar_nilslice, cells_slice, scalar_slice, cells_nilmap, scalar_nilmap, cells_map, scalar_map, cells_nilfunc, scalar_nilfunc, cells_func, scalar_func, eqCells, eqLeaf, run_toL, toL_some, ev_toL, getD_toL, put_toL, keep_toL, asc, fput_same, fput_ne, fbase_nil, fbase_cons, fkeep_nil, fkeep_cons, fzero, fnone, List.map_cons, List.map_nil, ev_lit, put_none, resVals, resVal, resOf, partV, fillA, putCells, fillEls, strBin, minV, optNat, appendEls, elsOf, sliceSlV, sliceStrV, List.replicate, List.getElem?_append_left, List.getElem?_append_right, List.set_append_left, List.set_append_right, List.getElem?_set_self, List.getElem?_set_ne, hq_get0, hq_get, hq_get2, hq_get3, hp_get0, hp_get, hp_get2, hp_get3, hp_set0, hp_set, hp_set2, hp_set3, wr_0, wr_1, wr_2, wr_3, wr_4, wr_n1, e31, exS, hs]
def ex0 : FuncId → List AV → M AV
  | 119, [.str s], h => if s.length ≤ 281474976710656 then some (.str s, h) else none
  | _, _, _ => none
theorem ex0_ok : CfSound Tryz.prog ex0 := by
  refine flat_sound (call_sound fs exS fsOk exS_ok) ?_
  intro f vs h v h' hr
  unfold ex0 at hr
  split at hr
  · split at hr
    · rename_i hs
      cases hr; exact ⟨rfl, rfl, rfl, _, clone2_call _ hs _⟩
    · cases hr
  · cases hr
def fs0 := fsBut fs [119]
theorem fs0_ok : FsOk Tryz.prog fs0 := fsBut_ok fsOk _
theorem e0_30 (vs : List AV) (h : H) : call fs0 ex0 119 vs h = ex0 119 vs h := call_ex fs0 ex0 rfl _ _

/-- A byte of a number. -/
def dg (v : Int) (i : Nat) : UInt8 := UInt8.ofNat (IntKind.u8.wrap (v.fdiv (2 ^ (8 * i)))).toNat
theorem rP_toStr {h : H} {b i n c : Nat} {x : Bool} {els : List (List AV)} {wr ap : Bool} (hb : h[b]? = some (.row 1 els wr ap)) (hn : i + n ≤ els.length) : evalR .toStr [.slice b 1 i n c x] h = (bytesA ((els.drop i).take n)).map .str := by
  simp only [evalR, hb, hn, if_true]
theorem big1_call (v : Int) (h : H) : ∃ k, call fs0 ex0 74 [.int .u64 v, .int .i64 1] h = some (.str [dg v 0], k) := by
  rw [call_eq fs0 ex0 (f := 74) (sf := sf74) rfl]
  simp [sf74, itw_eq, yld_some, exec_reg, exec_dreg, exec_seq, exec_cond, exec_block, exec_scope, exec_exit, exec_ret, exec_skip, exec_loop, ops_nil, ops_cons, ops_cons_gd, stages_nil, stages_cons_n, stages_cons_h, recheck, wantsOp, AV.same, sames, evalOp_p, evalOp_r, evalOp_a, evalOp_call, evalOp_callV, evalOp_store, evalOp_append, evalOp_clear, evalOp_mapUpdate, evalOp_delete, pP_move, pP_pick, pP_build, pP_nil_ptr, pP_nil_func, pP_bin, pP_eq, pP_neg, pP_inv, pP_not, pP_convInt, pP_convStr, pP_fieldAddr, pP_field, pP_indexAddr, pP_indexStr, pP_sliceStr, pP_sliceSl, pP_lenStr, pP_lenNil, pP_lenSl, pP_min, pP_max, pP_extract, pP_mkfn, bV_add, bV_sub, bV_mul, bV_quo, bV_rem, bV_and, bV_or, bV_xor, bV_andNot, bV_eql, bV_neq, bV_lss, bV_leq, bV_gtr, bV_geq, bV_shl, bV_shr, bV_str, eV_bool, eV_nn, eV_np, eV_pn, eV_snn, eV_sns, eV_ssn, eV_mnn, eV_mnm, eV_mmn, eV_fnn, eV_fnf, eV_ffn, eV_agg, rP_load, rP_lenNil, rP_str0, rdEl_K, rdK_row, rdK_bld, aP_newBld, aP_alloc, aP_box, aP_buildSlice, aP_makeSlice, aP_makeMap, aP_toBytes, hP_store, storeK_some, st_K, stK_row, stE_some, cells_agg, cells_bool, scalar_bool, cells_int, scalar_int, cells_str, scalar_str, cells_nilptr, scalar_nilptr, cells_ptr, scalar_ptr, cells_nilslice, scalar_nilslice, cells_slice, scalar_slice, cells_nilmap, scalar_nilmap, cells_map, scalar_map, cells_nilfunc, scalar_nilfunc, cells_func, scalar_func, eqCells, eqLeaf, run_toL, toL_some, ev_toL, getD_toL, put_toL, keep_toL, asc, fput_same, fput_ne, fbase_nil, fbase_cons, fkeep_nil, fkeep_cons, fzero, fnone, List.map_cons, List.map_nil, ev_lit, put_none, resVals, resVal, resOf, partV, fillA, putCells, fillEls, strBin, minV, optNat, appendEls, elsOf, sliceSlV, sliceStrV, List.replicate, List.getElem?_append_left, List.getElem?_append_right, List.set_append_left, List.set_append_right, List.getElem?_set_self, List.getElem?_set_ne, hq_get0, hq_get, hq_get2, hq_get3, hp_get0, hp_get, hp_get2, hp_get3, hp_set0, hp_set, hp_set2, hp_set3, wr_0, wr_1, wr_2, wr_3, wr_4, wr_n1, evalR, bytesA, dg]
theorem big2_call (v : Int) (h : H) : ∃ k, call fs0 ex0 74 [.int .u64 v, .int .i64 2] h = some (.str [dg v 1, dg v 0], k) := by
  rw [call_eq fs0 ex0 (f := 74) (sf := sf74) rfl]
  have w8 : IntKind.i64.wrap 8 = 8 := wrap_i64 (by omega) (by omega)
  simp [sf74, itw_eq, yld_some, exec_reg, exec_dreg, exec_seq, exec_cond, exec_block, exec_scope, exec_exit, exec_ret, exec_skip, exec_loop, ops_nil, ops_cons, ops_cons_gd, stages_nil, stages_cons_n, stages_cons_h, recheck, wantsOp, AV.same, sames, evalOp_p, evalOp_r, evalOp_a, evalOp_call, evalOp_callV, evalOp_store, evalOp_append, evalOp_clear, evalOp_mapUpdate, evalOp_delete, pP_move, pP_pick, pP_build, pP_nil_ptr, pP_nil_func, pP_bin, pP_eq, pP_neg, pP_inv, pP_not, pP_convInt, pP_convStr, pP_fieldAddr, pP_field, pP_indexAddr, pP_indexStr, pP_sliceStr, pP_sliceSl, pP_lenStr, pP_lenNil, pP_lenSl, pP_min, pP_max, pP_extract, pP_mkfn, bV_add, bV_sub, bV_mul, bV_quo, bV_rem, bV_and, bV_or, bV_xor, bV_andNot, bV_eql, bV_neq, bV_lss, bV_leq, bV_gtr, bV_geq, bV_shl, bV_shr, bV_str, eV_bool, eV_nn, eV_np, eV_pn, eV_snn, eV_sns, eV_ssn, eV_mnn, eV_mnm, eV_mmn, eV_fnn, eV_fnf, eV_ffn, eV_agg, rP_load, rP_lenNil, rP_str0, rdEl_K, rdK_row, rdK_bld, aP_newBld, aP_alloc, aP_box, aP_buildSlice, aP_makeSlice, aP_makeMap, aP_toBytes, hP_store, storeK_some, st_K, stK_row, stE_some, cells_agg, cells_bool, scalar_bool, cells_int, scalar_int, cells_str, scalar_str, cells_nilptr, scalar_nilptr, cells_ptr, scalar_ptr, cells_nilslice, scalar_nilslice, cells_slice, scalar_slice, cells_nilmap, scalar_nilmap, cells_map, scalar_map, cells_nilfunc, scalar_nilfunc, cells_func, scalar_func, eqCells, eqLeaf, run_toL, toL_some, ev_toL, getD_toL, put_toL, keep_toL, asc, fput_same, fput_ne, fbase_nil, fbase_cons, fkeep_nil, fkeep_cons, fzero, fnone, List.map_cons, List.map_nil, ev_lit, put_none, resVals, resVal, resOf, partV, fillA, putCells, fillEls, strBin, minV, optNat, appendEls, elsOf, sliceSlV, sliceStrV, List.replicate, List.getElem?_append_left, List.getElem?_append_right, List.set_append_left, List.set_append_right, List.getElem?_set_self, List.getElem?_set_ne, hq_get0, hq_get, hq_get2, hq_get3, hp_get0, hp_get, hp_get2, hp_get3, hp_set0, hp_set, hp_set2, hp_set3, wr_0, wr_1, wr_2, wr_3, wr_4, wr_n1, evalR, bytesA, w8, dg, IntKind.bits]
theorem wr (n : Nat) (hn : n < 1000) : IntKind.i64.wrap (n : Int) = n := wrap_i64 (by omega) (by omega)
set_option maxHeartbeats 4000000 in
theorem big8_call (v : Int) (h : H) : ∃ k, call fs0 ex0 74 [.int .u64 v, .int .i64 8] h = some (.str [dg v 7, dg v 6, dg v 5, dg v 4, dg v 3, dg v 2, dg v 1, dg v 0], k) := by
  rw [call_eq fs0 ex0 (f := 74) (sf := sf74) rfl]
  have w5 : IntKind.i64.wrap 5 = 5 := wr 5 (by omega)
  have w6 : IntKind.i64.wrap 6 = 6 := wr 6 (by omega)
  have w7 : IntKind.i64.wrap 7 = 7 := wr 7 (by omega)
  have w8 : IntKind.i64.wrap 8 = 8 := wr 8 (by omega)
  have w16 : IntKind.i64.wrap 16 = 16 := wr 16 (by omega)
  have w24 : IntKind.i64.wrap 24 = 24 := wr 24 (by omega)
  have w32 : IntKind.i64.wrap 32 = 32 := wr 32 (by omega)
  have w40 : IntKind.i64.wrap 40 = 40 := wr 40 (by omega)
  have w48 : IntKind.i64.wrap 48 = 48 := wr 48 (by omega)
  have w56 : IntKind.i64.wrap 56 = 56 := wr 56 (by omega)
  simp [sf74, itw_eq, yld_some, exec_reg, exec_dreg, exec_seq, exec_cond, exec_block, exec_scope, exec_exit, exec_ret, exec_skip, exec_loop, ops_nil, ops_cons, ops_cons_gd, stages_nil, stages_cons_n, stages_cons_h, recheck, wantsOp, AV.same, sames, evalOp_p, evalOp_r, evalOp_a, evalOp_call, evalOp_callV, evalOp_store, evalOp_append, evalOp_clear, evalOp_mapUpdate, evalOp_delete, pP_move, pP_pick, pP_build, pP_nil_ptr, pP_nil_func, pP_bin, pP_eq, pP_neg, pP_inv, pP_not, pP_convInt, pP_convStr, pP_fieldAddr, pP_field, pP_indexAddr, pP_indexStr, pP_sliceStr, pP_sliceSl, pP_lenStr, pP_lenNil, pP_lenSl, pP_min, pP_max, pP_extract, pP_mkfn, bV_add, bV_sub, bV_mul, bV_quo, bV_rem, bV_and, bV_or, bV_xor, bV_andNot, bV_eql, bV_neq, bV_lss, bV_leq, bV_gtr, bV_geq, bV_shl, bV_shr, bV_str, eV_bool, eV_nn, eV_np, eV_pn, eV_snn, eV_sns, eV_ssn, eV_mnn, eV_mnm, eV_mmn, eV_fnn, eV_fnf, eV_ffn, eV_agg, rP_load, rP_lenNil, rP_str0, rdEl_K, rdK_row, rdK_bld, aP_newBld, aP_alloc, aP_box, aP_buildSlice, aP_makeSlice, aP_makeMap, aP_toBytes, hP_store, storeK_some, st_K, stK_row, stE_some, cells_agg, cells_bool, scalar_bool, cells_int, scalar_int, cells_str, scalar_str, cells_nilptr, scalar_nilptr, cells_ptr, scalar_ptr, cells_nilslice, scalar_nilslice, cells_slice, scalar_slice, cells_nilmap, scalar_nilmap, cells_map, scalar_map, cells_nilfunc, scalar_nilfunc, cells_func, scalar_func, eqCells, eqLeaf, run_toL, toL_some, ev_toL, getD_toL, put_toL, keep_toL, asc, fput_same, fput_ne, fbase_nil, fbase_cons, fkeep_nil, fkeep_cons, fzero, fnone, List.map_cons, List.map_nil, ev_lit, put_none, resVals, resVal, resOf, partV, fillA, putCells, fillEls, strBin, minV, optNat, appendEls, elsOf, sliceSlV, sliceStrV, List.replicate, List.getElem?_append_left, List.getElem?_append_right, List.set_append_left, List.set_append_right, List.getElem?_set_self, List.getElem?_set_ne, hq_get0, hq_get, hq_get2, hq_get3, hp_get0, hp_get, hp_get2, hp_get3, hp_set0, hp_set, hp_set2, hp_set3, wr_0, wr_1, wr_2, wr_3, wr_4, wr_n1, evalR, bytesA, w5, w6, w7, w8, w16, w24, w32, w40, w48, w56, dg, IntKind.bits]
end Go.Proofs.YtgnenipkebelfaaGreatDoor.Pk
