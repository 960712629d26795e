/- Guest: its state, and the small functions. -/
import Derived.Test.YtolnmgekneoaaaaF
set_option maxRecDepth 100000
set_option linter.unusedVariables false
set_option linter.unusedSimpArgs false
namespace Go.Proofs.Ytolnmgekneoaaaa.Gu
open Go Go.Eng F

theorem sub_sound {P : Program} {cf ex : FuncId → List AV → M AV} (hcf : CfSound P cf) (hex : ∀ (f : FuncId) (vs : List AV) (h : H) (r : AV × H), ex f vs h = some r → cf f vs h = some r) : CfSound P ex :=
  fun f vs h v h' hr => hcf f vs h v h' (hex f vs h _ hr)

structure As where
  op : Int
  key : List UInt8
  value : List UInt8
  to : List UInt8
  most : Int
structure Te where
  errno : Int
  value : List UInt8
  more : Bool
  next : List UInt8
  node : Int
structure Gs where
  me : Int
  nodes : Int
  id : Int
  tried : Int
  a : As
  at_ : Int
  old : Int
  waits : Int
  on : Bool
  over : Bool
  t : Te
def Te.zero : Te := ⟨0, [], false, [], 0⟩
def Te.av (t : Te) : List AV := [.int .i64 t.errno, .str t.value, .nilslice, .bool t.more, .str t.next, .int .i64 t.node]
def Gs.av (s : Gs) : List AV := [.int .i64 s.me, .int .i64 s.nodes, .int .i64 s.id, .int .i64 s.tried, .int .i64 s.a.op, .str s.a.key, .str s.a.value, .str s.a.to, .int .i64 s.a.most, .int .i64 s.at_, .int .i64 s.old, .int .i64 s.waits, .bool s.on, .bool s.over,
  .int .i64 s.t.errno, .str s.t.value, .nilslice, .bool s.t.more, .str s.t.next, .int .i64 s.t.node]
/-- The letter that asks. -/
def Gs.ltr (s : Gs) : List AV := [.int .i64 1, .int .i64 s.me, .int .i64 s.at_, .int .i64 s.id, .int .i64 s.a.op, .str s.a.key, .str s.a.value, .str s.a.to, .int .i64 s.a.most, .int .i64 0, .str [], .nilslice, .bool false, .str [], .int .i64 0, .int .u64 0, .int .u64 0, .int .i64 0, .nilslice, .int .i64 0, .int .i64 0]
def gsOf (h : H) (g : Nat) : Option Gs := match h[g]? with
  | some (.row 20 [[.int .i64 me, .int .i64 nodes, .int .i64 id, .int .i64 tried, .int .i64 op, .str key, .str value, .str to, .int .i64 most, .int .i64 at_, .int .i64 old, .int .i64 waits, .bool on, .bool over, .int .i64 errno, .str tv, .nilslice, .bool more, .str next, .int .i64 node]] true true) =>
    some ⟨me, nodes, id, tried, ⟨op, key, value, to, most⟩, at_, old, waits, on, over, ⟨errno, tv, more, next, node⟩⟩
  | _ => none
theorem gsOf_some {h : H} {g : Nat} {s : Gs} (h1 : gsOf h g = some s) : h[g]? = some (.row 20 [s.av] true true) := by
  unfold gsOf at h1
  split at h1
  · rename_i e; rw [e]; cases h1; rfl
  · cases h1
theorem gsOf_eq {h : H} {g : Nat} {s : Gs} (hg : h[g]? = some (.row 20 [s.av] true true)) : gsOf h g = some s := by
  unfold gsOf; rw [hg]; rfl

theorem alive_ran : ranTrue (callN fs noEx 60 10 [] []) = true := by kernel_rfl
def exA : FuncId → List AV → M AV
  | 10, [], h => some (.bool true, h)
  | _, _, _ => none
theorem exA_ok : CfSound Try.prog exA := by
  refine flat_sound (call_sound fs noEx fsOk noEx_sound) ?_
  intro f vs h v h' hr
  unfold exA at hr
  split at hr
  · cases hr; exact ⟨rfl, rfl, rfl, ranTrue_call 60 alive_ran⟩
  · cases hr

section
variable {h : H} {g : Nat} {s : Gs}
theorem there_eq (hg : h[g]? = some (.row 20 [s.av] true true)) (x : Int) : call fs noEx 26 [.ptr g 0 0, .int .i64 x] h = some (.bool (decide (0 ≤ x) && decide (x < s.nodes)), h) := by
  rw [call_eq fs noEx (f := 26) (sf := sf26) rfl]
  unfold Gs.av at hg
  by_cases h0 : 0 ≤ x <;> simp [sf26, yld_some, exec_reg, exec_dreg, exec_seq, exec_cond, exec_block, exec_scope, exec_exit, exec_ret, exec_skip, exec_loop, ops_nil, ops_cons, ops_cons_gd, stages_nil, stages_cons_n, stages_cons_h, recheck, wantsOp, AV.same, sames, evalOp_p, evalOp_r, evalOp_a, evalOp_call, evalOp_callV, evalOp_store, evalOp_append, evalOp_clear, evalOp_mapUpdate, evalOp_delete, pP_move, pP_pick, pP_build, pP_nil_ptr, pP_nil_func, pP_bin, pP_eq, pP_neg, pP_inv, pP_not, pP_convInt, pP_convStr, pP_fieldAddr, pP_field, pP_indexAddr, pP_indexStr, pP_sliceStr, pP_sliceSl, pP_lenStr, pP_lenNil, pP_lenSl, pP_min, pP_max, pP_extract, pP_mkfn, bV_add, bV_sub, bV_mul, bV_quo, bV_rem, bV_and, bV_or, bV_xor, bV_andNot, bV_eql, bV_neq, bV_lss, bV_leq, bV_gtr, bV_geq, bV_shl, bV_shr, bV_str, eV_bool, eV_nn, eV_np, eV_pn, eV_snn, eV_sns, eV_ssn, eV_mnn, eV_mnm, eV_mmn, eV_fnn, eV_fnf, eV_ffn, eV_agg, rP_load, rP_lenNil, rP_str0, rdEl_K, rdK_row, aP_alloc, aP_box, aP_buildSlice, aP_makeSlice, aP_makeMap, aP_toBytes, hP_store, storeK_some, st_K, stK_row, stE_some, cells_agg, cells_bool, scalar_bool, cells_int, scalar_int, cells_str, scalar_str, cells_nilptr, scalar_nilptr, cells_ptr, scalar_ptr, cells_nilslice, scalar_nilslice, cells_slice, scalar_slice, cells_nilmap, scalar_nilmap, cells_map, scalar_map, cells_nilfunc, scalar_nilfunc, cells_func, scalar_func, eqCells, eqLeaf, run_toL, toL_some, ev_toL, getD_toL, put_toL, keep_toL, asc, fput_same, fput_ne, fbase_nil, fbase_cons, fkeep_nil, fkeep_cons, fzero, fnone, List.map_cons, List.map_nil, ev_lit, put_none, resVals, resVal, resOf, partV, fillA, putCells, fillEls, strBin, minV, optNat, appendEls, elsOf, sliceSlV, sliceStrV, List.replicate, List.getElem?_append_left, List.getElem?_append_right, List.set_append_left, List.set_append_right, List.getElem?_set_self, List.getElem?_set_ne, hg, get_app hg, set_app hg, get_set_same hg, get_set_app hg, set_set_app hg, len_beq hg, beq_len hg, h0]
theorem ask_eq (hg : h[g]? = some (.row 20 [s.av] true true)) : call fs noEx 27 [.ptr g 0 0] h =
    some (.slice h.length 21 0 1 1 true, h.set g (.row 20 [{ s with id := IntKind.i64.wrap (s.id + 1) }.av] true true) ++ [.row 21 [{ s with id := IntKind.i64.wrap (s.id + 1) }.ltr] true true]) := by
  rw [call_eq fs noEx (f := 27) (sf := sf27) rfl]
  unfold Gs.av at hg
  simp [sf27, yld_some, exec_reg, exec_dreg, exec_seq, exec_cond, exec_block, exec_scope, exec_exit, exec_ret, exec_skip, exec_loop, ops_nil, ops_cons, ops_cons_gd, stages_nil, stages_cons_n, stages_cons_h, recheck, wantsOp, AV.same, sames, evalOp_p, evalOp_r, evalOp_a, evalOp_call, evalOp_callV, evalOp_store, evalOp_append, evalOp_clear, evalOp_mapUpdate, evalOp_delete, pP_move, pP_pick, pP_build, pP_nil_ptr, pP_nil_func, pP_bin, pP_eq, pP_neg, pP_inv, pP_not, pP_convInt, pP_convStr, pP_fieldAddr, pP_field, pP_indexAddr, pP_indexStr, pP_sliceStr, pP_sliceSl, pP_lenStr, pP_lenNil, pP_lenSl, pP_min, pP_max, pP_extract, pP_mkfn, bV_add, bV_sub, bV_mul, bV_quo, bV_rem, bV_and, bV_or, bV_xor, bV_andNot, bV_eql, bV_neq, bV_lss, bV_leq, bV_gtr, bV_geq, bV_shl, bV_shr, bV_str, eV_bool, eV_nn, eV_np, eV_pn, eV_snn, eV_sns, eV_ssn, eV_mnn, eV_mnm, eV_mmn, eV_fnn, eV_fnf, eV_ffn, eV_agg, rP_load, rP_lenNil, rP_str0, rdEl_K, rdK_row, aP_alloc, aP_box, aP_buildSlice, aP_makeSlice, aP_makeMap, aP_toBytes, hP_store, storeK_some, st_K, stK_row, stE_some, cells_agg, cells_bool, scalar_bool, cells_int, scalar_int, cells_str, scalar_str, cells_nilptr, scalar_nilptr, cells_ptr, scalar_ptr, cells_nilslice, scalar_nilslice, cells_slice, scalar_slice, cells_nilmap, scalar_nilmap, cells_map, scalar_map, cells_nilfunc, scalar_nilfunc, cells_func, scalar_func, eqCells, eqLeaf, run_toL, toL_some, ev_toL, getD_toL, put_toL, keep_toL, asc, fput_same, fput_ne, fbase_nil, fbase_cons, fkeep_nil, fkeep_cons, fzero, fnone, List.map_cons, List.map_nil, ev_lit, put_none, resVals, resVal, resOf, partV, fillA, putCells, fillEls, strBin, minV, optNat, appendEls, elsOf, sliceSlV, sliceStrV, List.replicate, List.getElem?_append_left, List.getElem?_append_right, List.set_append_left, List.set_append_right, List.getElem?_set_self, List.getElem?_set_ne, hg, get_app hg, set_app hg, get_set_same hg, get_set_app hg, set_set_app hg, len_beq hg, beq_len hg, Gs.av, Gs.ltr]
theorem ends_eq (hg : h[g]? = some (.row 20 [s.av] true true)) (t : Te) : call fs noEx 28 [.ptr g 0 0, .agg t.av] h =
    some (.tuple [.nilslice, .bool true], (h.set g (.row 20 [{ s with on := false, over := true, waits := 0, t := t }.av] true true)) ++ [.row 6 [t.av] true true]) := by
  rw [call_eq fs noEx (f := 28) (sf := sf28) rfl]
  unfold Gs.av at hg
  simp [sf28, appendV, evalHeap, yld_some, exec_reg, exec_dreg, exec_seq, exec_cond, exec_block, exec_scope, exec_exit, exec_ret, exec_skip, exec_loop, ops_nil, ops_cons, ops_cons_gd, stages_nil, stages_cons_n, stages_cons_h, recheck, wantsOp, AV.same, sames, evalOp_p, evalOp_r, evalOp_a, evalOp_call, evalOp_callV, evalOp_store, evalOp_append, evalOp_clear, evalOp_mapUpdate, evalOp_delete, pP_move, pP_pick, pP_build, pP_nil_ptr, pP_nil_func, pP_bin, pP_eq, pP_neg, pP_inv, pP_not, pP_convInt, pP_convStr, pP_fieldAddr, pP_field, pP_indexAddr, pP_indexStr, pP_sliceStr, pP_sliceSl, pP_lenStr, pP_lenNil, pP_lenSl, pP_min, pP_max, pP_extract, pP_mkfn, bV_add, bV_sub, bV_mul, bV_quo, bV_rem, bV_and, bV_or, bV_xor, bV_andNot, bV_eql, bV_neq, bV_lss, bV_leq, bV_gtr, bV_geq, bV_shl, bV_shr, bV_str, eV_bool, eV_nn, eV_np, eV_pn, eV_snn, eV_sns, eV_ssn, eV_mnn, eV_mnm, eV_mmn, eV_fnn, eV_fnf, eV_ffn, eV_agg, rP_load, rP_lenNil, rP_str0, rdEl_K, rdK_row, aP_alloc, aP_box, aP_buildSlice, aP_makeSlice, aP_makeMap, aP_toBytes, hP_store, storeK_some, st_K, stK_row, stE_some, cells_agg, cells_bool, scalar_bool, cells_int, scalar_int, cells_str, scalar_str, cells_nilptr, scalar_nilptr, cells_ptr, scalar_ptr, cells_nilslice, scalar_nilslice, cells_slice, scalar_slice, cells_nilmap, scalar_nilmap, cells_map, scalar_map, cells_nilfunc, scalar_nilfunc, cells_func, scalar_func, eqCells, eqLeaf, run_toL, toL_some, ev_toL, getD_toL, put_toL, keep_toL, asc, fput_same, fput_ne, fbase_nil, fbase_cons, fkeep_nil, fkeep_cons, fzero, fnone, List.map_cons, List.map_nil, ev_lit, put_none, resVals, resVal, resOf, partV, fillA, putCells, fillEls, strBin, minV, optNat, appendEls, elsOf, sliceSlV, sliceStrV, List.replicate, List.getElem?_append_left, List.getElem?_append_right, List.set_append_left, List.set_append_right, List.getElem?_set_self, List.getElem?_set_ne, hg, get_app hg, set_app hg, get_set_same hg, get_set_app hg, set_set_app hg, len_beq hg, beq_len hg, Gs.av, Te.av]
def Gs.next (s : Gs) (x : Int) : Int := if ((decide (0 ≤ x) && decide (x < s.nodes)) && (x != s.at_)) = true then x else (IntKind.i64.wrap (s.at_ + 1)).tmod s.nodes
end
def ex0 : FuncId → List AV → M AV
  | 10, [], h => some (.bool true, h)
  | 26, [.ptr g 0 0, .int .i64 x], h => match gsOf h g with
    | some s => some (.bool (decide (0 ≤ x) && decide (x < s.nodes)), h)
    | none => none
  | _, _, _ => none
theorem ex0_ok : CfSound Try.prog ex0 := by
  intro f vs h v h' hr
  unfold ex0 at hr
  split at hr
  · exact exA_ok 10 [] h v h' (by rw [← hr]; rfl)
  · split at hr
    · rename_i hg
      refine call_sound fs noEx fsOk noEx_sound _ _ _ _ _ ?_
      rw [there_eq (gsOf_some hg)]; exact hr
    · cases hr
  · cases hr
def fs0 := fsBut fs [10, 26]
theorem fs0_ok : FsOk Try.prog fs0 := fsBut_ok fsOk _
theorem else_eq {h : H} {g : Nat} {s : Gs} (hg : h[g]? = some (.row 20 [s.av] true true)) (hn : s.nodes ≠ 0) (x : Int) : call fs0 ex0 29 [.ptr g 0 0, .int .i64 x] h = some (.int .i64 (s.next x), h) := by
  have e26 : ∀ vs h, call fs0 ex0 26 vs h = ex0 26 vs h := call_ex fs0 ex0 rfl
  rw [call_eq fs0 ex0 (f := 29) (sf := sf29) rfl]
  have hs := gsOf_eq hg
  unfold Gs.av at hg
  cases hb2 : (x != s.at_) <;> cases hb1 : (decide (0 ≤ x) && decide (x < s.nodes)) <;> cases hb3 : (x == (IntKind.i64.wrap (s.at_ + 1)).tmod s.nodes) <;>
    cases hb5 : ((IntKind.i64.wrap (s.at_ + 1)).tmod s.nodes != s.at_) <;> cases hb4 : (decide (0 ≤ (IntKind.i64.wrap (s.at_ + 1)).tmod s.nodes) && decide ((IntKind.i64.wrap (s.at_ + 1)).tmod s.nodes < s.nodes)) <;>
    simp [sf29, yld_some, exec_reg, exec_dreg, exec_seq, exec_cond, exec_block, exec_scope, exec_exit, exec_ret, exec_skip, exec_loop, ops_nil, ops_cons, ops_cons_gd, stages_nil, stages_cons_n, stages_cons_h, recheck, wantsOp, AV.same, sames, evalOp_p, evalOp_r, evalOp_a, evalOp_call, evalOp_callV, evalOp_store, evalOp_append, evalOp_clear, evalOp_mapUpdate, evalOp_delete, pP_move, pP_pick, pP_build, pP_nil_ptr, pP_nil_func, pP_bin, pP_eq, pP_neg, pP_inv, pP_not, pP_convInt, pP_convStr, pP_fieldAddr, pP_field, pP_indexAddr, pP_indexStr, pP_sliceStr, pP_sliceSl, pP_lenStr, pP_lenNil, pP_lenSl, pP_min, pP_max, pP_extract, pP_mkfn, bV_add, bV_sub, bV_mul, bV_quo, bV_rem, bV_and, bV_or, bV_xor, bV_andNot, bV_eql, bV_neq, bV_lss, bV_leq, bV_gtr, bV_geq, bV_shl, bV_shr, bV_str, eV_bool, eV_nn, eV_np, eV_pn, eV_snn, eV_sns, eV_ssn, eV_mnn, eV_mnm, eV_mmn, eV_fnn, eV_fnf, eV_ffn, eV_agg, rP_load, rP_lenNil, rP_str0, rdEl_K, rdK_row, aP_alloc, aP_box, aP_buildSlice, aP_makeSlice, aP_makeMap, aP_toBytes, hP_store, storeK_some, st_K, stK_row, stE_some, cells_agg, cells_bool, scalar_bool, cells_int, scalar_int, cells_str, scalar_str, cells_nilptr, scalar_nilptr, cells_ptr, scalar_ptr, cells_nilslice, scalar_nilslice, cells_slice, scalar_slice, cells_nilmap, scalar_nilmap, cells_map, scalar_map, cells_nilfunc, scalar_nilfunc, cells_func, scalar_func, eqCells, eqLeaf, run_toL, toL_some, ev_toL, getD_toL, put_toL, keep_toL, asc, fput_same, fput_ne, fbase_nil, fbase_cons, fkeep_nil, fkeep_cons, fzero, fnone, List.map_cons, List.map_nil, ev_lit, put_none, resVals, resVal, resOf, partV, fillA, putCells, fillEls, strBin, minV, optNat, appendEls, elsOf, sliceSlV, sliceStrV, List.replicate, List.getElem?_append_left, List.getElem?_append_right, List.set_append_left, List.set_append_right, List.getElem?_set_self, List.getElem?_set_ne, hg, get_app hg, set_app hg, get_set_same hg, get_set_app hg, set_set_app hg, len_beq hg, beq_len hg, e26, ex0, hs, hn, itw_eq, Gs.next, hb1, hb2, hb3, hb4, hb5]
  all_goals first | (simp at hb3; exact hb3) | skip
end Go.Proofs.Ytolnmgekneoaaaa.Gu
