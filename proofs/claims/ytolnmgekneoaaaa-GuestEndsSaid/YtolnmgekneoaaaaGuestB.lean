/- Guest: its methods. -/
import Derived.Test.YtolnmgekneoaaaaGuestA
set_option maxRecDepth 100000
set_option linter.unusedVariables false
set_option linter.unusedSimpArgs false
namespace Go.Proofs.Ytolnmgekneoaaaa.Gu
open Go Go.Eng F

def ex1 : FuncId → List AV → M AV
  | 10, [], h => some (.bool true, h)
  | 26, [.ptr g 0 0, .int .i64 x], h => match gsOf h g with
    | some s => some (.bool (decide (0 ≤ x) && decide (x < s.nodes)), h)
    | none => none
  | 27, [.ptr g 0 0], h => match gsOf h g with
    | some s => some (.slice h.length 21 0 1 1 true, h.set g (.row 20 [{ s with id := IntKind.i64.wrap (s.id + 1) }.av] true true) ++ [.row 21 [{ s with id := IntKind.i64.wrap (s.id + 1) }.ltr] true true])
    | none => none
  | 28, [.ptr g 0 0, .agg [.int .i64 errno, .str tv, .nilslice, .bool more, .str next, .int .i64 node]], h => match gsOf h g with
    | some s => some (.tuple [.nilslice, .bool true], (h.set g (.row 20 [{ s with on := false, over := true, waits := 0, t := ⟨errno, tv, more, next, node⟩ }.av] true true)) ++ [.row 6 [Te.av ⟨errno, tv, more, next, node⟩] true true])
    | none => none
  | 29, [.ptr g 0 0, .int .i64 x], h => match gsOf h g with
    | some s => if s.nodes = 0 then none else some (.int .i64 (s.next x), h)
    | none => none
  | _, _, _ => none
theorem ex1_ok : CfSound Try.prog ex1 := by
  intro f vs h v h' hr
  unfold ex1 at hr
  split at hr
  · exact exA_ok 10 [] h v h' (by rw [← hr]; rfl)
  · split at hr
    · rename_i hg
      refine call_sound fs noEx fsOk noEx_sound _ _ _ _ _ ?_
      rw [there_eq (gsOf_some hg)]; exact hr
    · cases hr
  · split at hr
    · rename_i hg
      refine call_sound fs noEx fsOk noEx_sound _ _ _ _ _ ?_
      rw [ask_eq (gsOf_some hg)]; exact hr
    · cases hr
  · split at hr
    · rename_i hg
      refine call_sound fs noEx fsOk noEx_sound _ _ _ _ _ ?_
      rw [← hr]
      exact ends_eq (gsOf_some hg) ⟨_, _, _, _, _⟩
    · cases hr
  · split at hr
    · rename_i hg
      split at hr
      · cases hr
      · rename_i hn
        refine call_sound fs0 ex0 fs0_ok ex0_ok _ _ _ _ _ ?_
        rw [else_eq (gsOf_some hg) hn]; exact hr
    · cases hr
  · cases hr
def fs1 := fsBut fs [10, 26, 27, 28, 29]
theorem fs1_ok : FsOk Try.prog fs1 := fsBut_ok fsOk _
theorem e1_26 (vs : List AV) (h : H) : call fs1 ex1 26 vs h = ex1 26 vs h := call_ex fs1 ex1 rfl _ _
theorem e1_27 (vs : List AV) (h : H) : call fs1 ex1 27 vs h = ex1 27 vs h := call_ex fs1 ex1 rfl _ _
theorem e1_28 (vs : List AV) (h : H) : call fs1 ex1 28 vs h = ex1 28 vs h := call_ex fs1 ex1 rfl _ _
theorem e1_29 (vs : List AV) (h : H) : call fs1 ex1 29 vs h = ex1 29 vs h := call_ex fs1 ex1 rfl _ _

/-- A guest that is new. -/
def Gs.fresh (me nodes : Int) : Gs := ⟨me, nodes, 0, 0, ⟨0, [], [], [], 0⟩, 0, 0, 0, false, false, Te.zero⟩
theorem new_eq (me nodes : Int) (h : H) : call fs1 ex1 11 [.int .i64 me, .int .i64 nodes] h =
    if (decide (nodes < 1) || decide (16 < nodes)) = true then some (.nilptr, h) else some (.ptr h.length 0 0, h ++ [.row 20 [(Gs.fresh me nodes).av] true true]) := by
  rw [call_eq fs1 ex1 (f := 11) (sf := sf11) rfl]
  cases h1 : decide (nodes < 1) <;> cases h2 : decide (16 < nodes) <;> simp [sf11, yld_some, exec_reg, exec_dreg, exec_seq, exec_cond, exec_block, exec_scope, exec_exit, exec_ret, exec_skip, exec_loop, ops_nil, ops_cons, ops_cons_gd, stages_nil, stages_cons_n, stages_cons_h, recheck, wantsOp, AV.same, sames, evalOp_p, evalOp_r, evalOp_a, evalOp_call, evalOp_callV, evalOp_store, evalOp_append, evalOp_clear, evalOp_mapUpdate, evalOp_delete, pP_move, pP_pick, pP_build, pP_nil_ptr, pP_nil_func, pP_bin, pP_eq, pP_neg, pP_inv, pP_not, pP_convInt, pP_convStr, pP_fieldAddr, pP_field, pP_indexAddr, pP_indexStr, pP_sliceStr, pP_sliceSl, pP_lenStr, pP_lenNil, pP_lenSl, pP_min, pP_max, pP_extract, pP_mkfn, bV_add, bV_sub, bV_mul, bV_quo, bV_rem, bV_and, bV_or, bV_xor, bV_andNot, bV_eql, bV_neq, bV_lss, bV_leq, bV_gtr, bV_geq, bV_shl, bV_shr, bV_str, eV_bool, eV_nn, eV_np, eV_pn, eV_snn, eV_sns, eV_ssn, eV_mnn, eV_mnm, eV_mmn, eV_fnn, eV_fnf, eV_ffn, eV_agg, rP_load, rP_lenNil, rP_str0, rdEl_K, rdK_row, aP_alloc, aP_box, aP_buildSlice, aP_makeSlice, aP_makeMap, aP_toBytes, hP_store, storeK_some, st_K, stK_row, stE_some, cells_agg, cells_bool, scalar_bool, cells_int, scalar_int, cells_str, scalar_str, cells_nilptr, scalar_nilptr, cells_ptr, scalar_ptr, cells_nilslice, scalar_nilslice, cells_slice, scalar_slice, cells_nilmap, scalar_nilmap, cells_map, scalar_map, cells_nilfunc, scalar_nilfunc, cells_func, scalar_func, eqCells, eqLeaf, run_toL, toL_some, ev_toL, getD_toL, put_toL, keep_toL, asc, fput_same, fput_ne, fbase_nil, fbase_cons, fkeep_nil, fkeep_cons, fzero, fnone, List.map_cons, List.map_nil, ev_lit, put_none, resVals, resVal, resOf, partV, fillA, putCells, fillEls, strBin, minV, optNat, appendEls, elsOf, sliceSlV, sliceStrV, List.replicate, List.getElem?_append_left, List.getElem?_append_right, List.set_append_left, List.set_append_right, List.getElem?_set_self, List.getElem?_set_ne, h1, h2, Gs.fresh, Gs.av, Te.zero]

section
variable {h : H} {g : Nat} {s : Gs}
/-- What a guest is when it starts. -/
def Gs.start (s : Gs) (a : As) (at_ : Int) : Gs := { s with a := a, at_ := at_, tried := 1, old := 0, waits := 0, on := true, over := false, t := Te.zero, id := IntKind.i64.wrap (s.id + 1) }
def As.av (a : As) : List AV := [.int .i64 a.op, .str a.key, .str a.value, .str a.to, .int .i64 a.most]
theorem start_eq (hg : h[g]? = some (.row 20 [s.av] true true)) (a : As) (x : Int) : call fs1 ex1 12 [.ptr g 0 0, .agg a.av, .int .i64 x] h =
    if (s.on || ((a.op != 1) && (a.op != 2) && (a.op != 3)) || !(decide (0 ≤ x) && decide (x < s.nodes))) = true then some (.tuple [.nilslice, .bool false], h ++ [.row 5 [a.av] true true])
    else some (.tuple [.slice (h.length + 1) 21 0 1 1 true, .bool true], h.set g (.row 20 [(s.start a x).av] true true) ++ [.row 5 [a.av] true true, .row 21 [(s.start a x).ltr] true true]) := by
  rw [call_eq fs1 ex1 (f := 12) (sf := sf12) rfl]
  unfold Gs.av at hg
  cases h1 : s.on <;> cases h2 : (a.op != 1) <;> cases h3 : (a.op != 2) <;> cases h4 : (a.op != 3) <;> cases h5 : (decide (0 ≤ x) && decide (x < s.nodes)) <;>
    simp [sf12, yld_some, exec_reg, exec_dreg, exec_seq, exec_cond, exec_block, exec_scope, exec_exit, exec_ret, exec_skip, exec_loop, ops_nil, ops_cons, ops_cons_gd, stages_nil, stages_cons_n, stages_cons_h, recheck, wantsOp, AV.same, sames, evalOp_p, evalOp_r, evalOp_a, evalOp_call, evalOp_callV, evalOp_store, evalOp_append, evalOp_clear, evalOp_mapUpdate, evalOp_delete, pP_move, pP_pick, pP_build, pP_nil_ptr, pP_nil_func, pP_bin, pP_eq, pP_neg, pP_inv, pP_not, pP_convInt, pP_convStr, pP_fieldAddr, pP_field, pP_indexAddr, pP_indexStr, pP_sliceStr, pP_sliceSl, pP_lenStr, pP_lenNil, pP_lenSl, pP_min, pP_max, pP_extract, pP_mkfn, bV_add, bV_sub, bV_mul, bV_quo, bV_rem, bV_and, bV_or, bV_xor, bV_andNot, bV_eql, bV_neq, bV_lss, bV_leq, bV_gtr, bV_geq, bV_shl, bV_shr, bV_str, eV_bool, eV_nn, eV_np, eV_pn, eV_snn, eV_sns, eV_ssn, eV_mnn, eV_mnm, eV_mmn, eV_fnn, eV_fnf, eV_ffn, eV_agg, rP_load, rP_lenNil, rP_str0, rdEl_K, rdK_row, aP_alloc, aP_box, aP_buildSlice, aP_makeSlice, aP_makeMap, aP_toBytes, hP_store, storeK_some, st_K, stK_row, stE_some, cells_agg, cells_bool, scalar_bool, cells_int, scalar_int, cells_str, scalar_str, cells_nilptr, scalar_nilptr, cells_ptr, scalar_ptr, cells_nilslice, scalar_nilslice, cells_slice, scalar_slice, cells_nilmap, scalar_nilmap, cells_map, scalar_map, cells_nilfunc, scalar_nilfunc, cells_func, scalar_func, eqCells, eqLeaf, run_toL, toL_some, ev_toL, getD_toL, put_toL, keep_toL, asc, fput_same, fput_ne, fbase_nil, fbase_cons, fkeep_nil, fkeep_cons, fzero, fnone, List.map_cons, List.map_nil, ev_lit, put_none, resVals, resVal, resOf, partV, fillA, putCells, fillEls, strBin, minV, optNat, appendEls, elsOf, sliceSlV, sliceStrV, List.replicate, List.getElem?_append_left, List.getElem?_append_right, List.set_append_left, List.set_append_right, List.getElem?_set_self, List.getElem?_set_ne, hg, get_app hg, set_app hg, get_set_same hg, get_set_app hg, set_set_app hg, len_beq hg, beq_len hg, e1_26, e1_27, ex1, gsOf, Gs.av, Gs.ltr, Gs.start, As.av, Te.zero, h1, h2, h3, h4, h5]
end
end Go.Proofs.Ytolnmgekneoaaaa.Gu
