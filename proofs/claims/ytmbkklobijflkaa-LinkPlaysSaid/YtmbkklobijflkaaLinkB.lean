/- Link: letters, what waits, packets, in cells; the small functions known. -/
import Derived.Test.YtmbkklobijflkaaLinkA
set_option maxRecDepth 100000
set_option linter.unusedVariables false
set_option linter.unusedSimpArgs false
namespace Go.Proofs.Ytmbkklobijflkaa.Lk
open Go Go.Eng F

structure As where
  op : Int
  key : List UInt8
  value : List UInt8
  to : List UInt8
  most : Int
structure Te where
  errno : Int
  value : List UInt8
  more : Bool
  next : List UInt8
  node : Int
/-- A letter without items. -/
structure Lt where
  kind : Int
  frm : Int
  to : Int
  id : Int
  a : As
  t : Te
  af : Int
  at_ : Int
  ep : Int
  n : Int
  node : Int
def Lt.zero : Lt := ⟨0, 0, 0, 0, ⟨0, [], [], [], 0⟩, ⟨0, [], false, [], 0⟩, 0, 0, 0, 0, 0⟩
def Lt.av (x : Lt) : List AV := [.int .i64 x.kind, .int .i64 x.frm, .int .i64 x.to, .int .i64 x.id, .int .i64 x.a.op, .str x.a.key, .str x.a.value, .str x.a.to, .int .i64 x.a.most, .int .i64 x.t.errno, .str x.t.value, .nilslice, .bool x.t.more, .str x.t.next, .int .i64 x.t.node, .int .u64 x.af, .int .u64 x.at_, .int .i64 x.ep, .nilslice, .int .i64 x.n, .int .i64 x.node]
/-- One that waits. -/
structure Sn where
  seq : Int
  x : Lt
  at_ : Int
def Sn.av (s : Sn) : List AV := [.int .i64 s.seq, .int .i64 s.x.kind, .int .i64 s.x.frm, .int .i64 s.x.to, .int .i64 s.x.id, .int .i64 s.x.a.op, .str s.x.a.key, .str s.x.a.value, .str s.x.a.to, .int .i64 s.x.a.most, .int .i64 s.x.t.errno, .str s.x.t.value, .nilslice, .bool s.x.t.more, .str s.x.t.next, .int .i64 s.x.t.node, .int .u64 s.x.af, .int .u64 s.x.at_, .int .i64 s.x.ep, .nilslice, .int .i64 s.x.n, .int .i64 s.x.node, .int .i64 s.at_]
structure Pk where
  frm : Int
  to : Int
  seq : Int
  ack : Int
  x : Lt
def Pk.av (p : Pk) : List AV := [.int .i64 p.frm, .int .i64 p.to, .int .i64 p.seq, .int .i64 p.ack, .int .i64 p.x.kind, .int .i64 p.x.frm, .int .i64 p.x.to, .int .i64 p.x.id, .int .i64 p.x.a.op, .str p.x.a.key, .str p.x.a.value, .str p.x.a.to, .int .i64 p.x.a.most, .int .i64 p.x.t.errno, .str p.x.t.value, .nilslice, .bool p.x.t.more, .str p.x.t.next, .int .i64 p.x.t.node, .int .u64 p.x.af, .int .u64 p.x.at_, .int .i64 p.x.ep, .nilslice, .int .i64 p.x.n, .int .i64 p.x.node]
def ltOf : List AV → Option Lt
  | [.int .i64 kind, .int .i64 frm, .int .i64 to, .int .i64 id, .int .i64 op, .str key, .str value, .str to2, .int .i64 most, .int .i64 errno, .str tv, .nilslice, .bool more, .str next, .int .i64 tnode, .int .u64 af, .int .u64 at_, .int .i64 ep, .nilslice, .int .i64 n, .int .i64 node] =>
    some ⟨kind, frm, to, id, ⟨op, key, value, to2, most⟩, ⟨errno, tv, more, next, tnode⟩, af, at_, ep, n, node⟩
  | _ => none
theorem ltOf_some {c : List AV} {x : Lt} (h : ltOf c = some x) : c = x.av := by
  unfold ltOf at h; split at h
  · cases h; rfl
  · cases h
def snOf : List AV → Option Sn
  | [.int .i64 seq, .int .i64 kind, .int .i64 frm, .int .i64 to, .int .i64 id, .int .i64 op, .str key, .str value, .str to2, .int .i64 most, .int .i64 errno, .str tv, .nilslice, .bool more, .str next, .int .i64 tnode, .int .u64 af, .int .u64 at_, .int .i64 ep, .nilslice, .int .i64 n, .int .i64 node, .int .i64 a] =>
    some ⟨seq, ⟨kind, frm, to, id, ⟨op, key, value, to2, most⟩, ⟨errno, tv, more, next, tnode⟩, af, at_, ep, n, node⟩, a⟩
  | _ => none
theorem snOf_some {c : List AV} {x : Sn} (h : snOf c = some x) : c = x.av := by
  unfold snOf at h; split at h
  · cases h; rfl
  · cases h
def pkOf : List AV → Option Pk
  | [.int .i64 pf, .int .i64 pt, .int .i64 seq, .int .i64 ack, .int .i64 kind, .int .i64 frm, .int .i64 to, .int .i64 id, .int .i64 op, .str key, .str value, .str to2, .int .i64 most, .int .i64 errno, .str tv, .nilslice, .bool more, .str next, .int .i64 tnode, .int .u64 af, .int .u64 at_, .int .i64 ep, .nilslice, .int .i64 n, .int .i64 node] =>
    some ⟨pf, pt, seq, ack, ⟨kind, frm, to, id, ⟨op, key, value, to2, most⟩, ⟨errno, tv, more, next, tnode⟩, af, at_, ep, n, node⟩⟩
  | _ => none
theorem pkOf_some {c : List AV} {x : Pk} (h : pkOf c = some x) : c = x.av := by
  unfold pkOf at h; split at h
  · cases h; rfl
  · cases h

theorem own_call (x : Lt) (h : H) : ∃ k, call fs1 ex1 28 [.agg x.av] h = some (.agg x.av, h ++ k) := by
  rw [i28]
  simp [sf28, sf62, i62, Lt.av, yld_some, exec_reg, exec_dreg, exec_seq, exec_cond, exec_block, exec_scope, exec_exit, exec_ret, exec_skip, exec_loop, ops_nil, ops_cons, ops_cons_gd, stages_nil, stages_cons_n, stages_cons_h, recheck, wantsOp, AV.same, sames, evalOp_p, evalOp_r, evalOp_a, evalOp_call, evalOp_callV, evalOp_store, evalOp_append, evalOp_clear, evalOp_mapUpdate, evalOp_delete, pP_move, pP_pick, pP_build, pP_nil_ptr, pP_nil_func, pP_bin, pP_eq, pP_neg, pP_inv, pP_not, pP_convInt, pP_convStr, pP_fieldAddr, pP_field, pP_indexAddr, pP_indexStr, pP_sliceStr, pP_sliceSl, pP_lenStr, pP_lenNil, pP_lenSl, pP_min, pP_max, pP_extract, pP_mkfn, bV_add, bV_sub, bV_mul, bV_quo, bV_rem, bV_and, bV_or, bV_xor, bV_andNot, bV_eql, bV_neq, bV_lss, bV_leq, bV_gtr, bV_geq, bV_shl, bV_shr, bV_str, eV_bool, eV_nn, eV_np, eV_pn, eV_snn, eV_sns, eV_ssn, eV_mnn, eV_mnm, eV_mmn, eV_fnn, eV_fnf, eV_ffn, eV_agg, rP_load, rP_lenNil, rP_str0, rdEl_K, rdK_row, aP_alloc, aP_box, aP_buildSlice, aP_makeSlice, aP_makeMap, aP_toBytes, hP_store, storeK_some, st_K, stK_row, stE_some, cells_agg, cells_bool, scalar_bool, cells_int, scalar_int, cells_str, scalar_str, cells_nilptr, scalar_nilptr, cells_ptr, scalar_ptr, cells_nilslice, scalar_nilslice, cells_slice, scalar_slice, cells_nilmap, scalar_nilmap, cells_map, scalar_map, cells_nilfunc, scalar_nilfunc, cells_func, scalar_func, eqCells, eqLeaf, run_toL, toL_some, ev_toL, getD_toL, put_toL, keep_toL, asc, fput_same, fput_ne, fbase_nil, fbase_cons, fkeep_nil, fkeep_cons, fzero, fnone, List.map_cons, List.map_nil, ev_lit, put_none, resVals, resVal, resOf, partV, fillA, putCells, fillEls, strBin, minV, optNat, appendEls, elsOf, sliceSlV, sliceStrV, List.replicate, List.getElem?_append_left, List.getElem?_append_right, List.set_append_left, List.set_append_right, List.getElem?_set_self, List.getElem?_set_ne, hq_get0, hq_get, hq_get2, hq_get3, hp_get0, hp_get, hp_get2, hp_get3, hp_set0, hp_set, hp_set2, hp_set3, wr_0, wr_1, wr_2, wr_3, wr_4, wr_n1]
theorem packet_call {h : H} {g : Nat} {me peer now out came : Int} {v m : AV} (hg : h[g]? = some (.row 7 [[.int .i64 me, .int .i64 peer, .int .i64 now, .int .i64 out, v, .int .i64 came, m]] true true)) (s : Sn) : ∃ k, call fs1 ex1 29 [.ptr g 0 0, .agg s.av] h = some (.agg (Pk.av ⟨me, peer, s.seq, came, s.x⟩), h ++ k) := by
  rw [i29]
  simp [sf29, sf28, i28, sf62, i62, Sn.av, Pk.av, yld_some, exec_reg, exec_dreg, exec_seq, exec_cond, exec_block, exec_scope, exec_exit, exec_ret, exec_skip, exec_loop, ops_nil, ops_cons, ops_cons_gd, stages_nil, stages_cons_n, stages_cons_h, recheck, wantsOp, AV.same, sames, evalOp_p, evalOp_r, evalOp_a, evalOp_call, evalOp_callV, evalOp_store, evalOp_append, evalOp_clear, evalOp_mapUpdate, evalOp_delete, pP_move, pP_pick, pP_build, pP_nil_ptr, pP_nil_func, pP_bin, pP_eq, pP_neg, pP_inv, pP_not, pP_convInt, pP_convStr, pP_fieldAddr, pP_field, pP_indexAddr, pP_indexStr, pP_sliceStr, pP_sliceSl, pP_lenStr, pP_lenNil, pP_lenSl, pP_min, pP_max, pP_extract, pP_mkfn, bV_add, bV_sub, bV_mul, bV_quo, bV_rem, bV_and, bV_or, bV_xor, bV_andNot, bV_eql, bV_neq, bV_lss, bV_leq, bV_gtr, bV_geq, bV_shl, bV_shr, bV_str, eV_bool, eV_nn, eV_np, eV_pn, eV_snn, eV_sns, eV_ssn, eV_mnn, eV_mnm, eV_mmn, eV_fnn, eV_fnf, eV_ffn, eV_agg, rP_load, rP_lenNil, rP_str0, rdEl_K, rdK_row, aP_alloc, aP_box, aP_buildSlice, aP_makeSlice, aP_makeMap, aP_toBytes, hP_store, storeK_some, st_K, stK_row, stE_some, cells_agg, cells_bool, scalar_bool, cells_int, scalar_int, cells_str, scalar_str, cells_nilptr, scalar_nilptr, cells_ptr, scalar_ptr, cells_nilslice, scalar_nilslice, cells_slice, scalar_slice, cells_nilmap, scalar_nilmap, cells_map, scalar_map, cells_nilfunc, scalar_nilfunc, cells_func, scalar_func, eqCells, eqLeaf, run_toL, toL_some, ev_toL, getD_toL, put_toL, keep_toL, asc, fput_same, fput_ne, fbase_nil, fbase_cons, fkeep_nil, fkeep_cons, fzero, fnone, List.map_cons, List.map_nil, ev_lit, put_none, resVals, resVal, resOf, partV, fillA, putCells, fillEls, strBin, minV, optNat, appendEls, elsOf, sliceSlV, sliceStrV, List.replicate, List.getElem?_append_left, List.getElem?_append_right, List.set_append_left, List.set_append_right, List.getElem?_set_self, List.getElem?_set_ne, hq_get0, hq_get, hq_get2, hq_get3, hp_get0, hp_get, hp_get2, hp_get3, hp_set0, hp_set, hp_set2, hp_set3, wr_0, wr_1, wr_2, wr_3, wr_4, wr_n1, hg, get_app hg, set_app hg, get_set_same hg, get_set_app hg, set_set_app hg, len_beq hg, beq_len hg]
theorem late_call {h : H} {b : Nat} {p : Pk} (hb : h[b]? = some (.row 25 [p.av] true true)) (s : Sn) : ∃ k, call fs1 ex1 27 [.agg s.av, .ptr b 0 0] h = some (.bool (decide (s.seq ≤ p.ack)), h ++ k) := by
  rw [i27]
  unfold Pk.av at hb
  simp [sf27, Sn.av, yld_some, exec_reg, exec_dreg, exec_seq, exec_cond, exec_block, exec_scope, exec_exit, exec_ret, exec_skip, exec_loop, ops_nil, ops_cons, ops_cons_gd, stages_nil, stages_cons_n, stages_cons_h, recheck, wantsOp, AV.same, sames, evalOp_p, evalOp_r, evalOp_a, evalOp_call, evalOp_callV, evalOp_store, evalOp_append, evalOp_clear, evalOp_mapUpdate, evalOp_delete, pP_move, pP_pick, pP_build, pP_nil_ptr, pP_nil_func, pP_bin, pP_eq, pP_neg, pP_inv, pP_not, pP_convInt, pP_convStr, pP_fieldAddr, pP_field, pP_indexAddr, pP_indexStr, pP_sliceStr, pP_sliceSl, pP_lenStr, pP_lenNil, pP_lenSl, pP_min, pP_max, pP_extract, pP_mkfn, bV_add, bV_sub, bV_mul, bV_quo, bV_rem, bV_and, bV_or, bV_xor, bV_andNot, bV_eql, bV_neq, bV_lss, bV_leq, bV_gtr, bV_geq, bV_shl, bV_shr, bV_str, eV_bool, eV_nn, eV_np, eV_pn, eV_snn, eV_sns, eV_ssn, eV_mnn, eV_mnm, eV_mmn, eV_fnn, eV_fnf, eV_ffn, eV_agg, rP_load, rP_lenNil, rP_str0, rdEl_K, rdK_row, aP_alloc, aP_box, aP_buildSlice, aP_makeSlice, aP_makeMap, aP_toBytes, hP_store, storeK_some, st_K, stK_row, stE_some, cells_agg, cells_bool, scalar_bool, cells_int, scalar_int, cells_str, scalar_str, cells_nilptr, scalar_nilptr, cells_ptr, scalar_ptr, cells_nilslice, scalar_nilslice, cells_slice, scalar_slice, cells_nilmap, scalar_nilmap, cells_map, scalar_map, cells_nilfunc, scalar_nilfunc, cells_func, scalar_func, eqCells, eqLeaf, run_toL, toL_some, ev_toL, getD_toL, put_toL, keep_toL, asc, fput_same, fput_ne, fbase_nil, fbase_cons, fkeep_nil, fkeep_cons, fzero, fnone, List.map_cons, List.map_nil, ev_lit, put_none, resVals, resVal, resOf, partV, fillA, putCells, fillEls, strBin, minV, optNat, appendEls, elsOf, sliceSlV, sliceStrV, List.replicate, List.getElem?_append_left, List.getElem?_append_right, List.set_append_left, List.set_append_right, List.getElem?_set_self, List.getElem?_set_ne, hq_get0, hq_get, hq_get2, hq_get3, hp_get0, hp_get, hp_get2, hp_get3, hp_set0, hp_set, hp_set2, hp_set3, wr_0, wr_1, wr_2, wr_3, wr_4, wr_n1, hb, get_app hb, set_app hb, get_set_same hb, get_set_app hb, set_set_app hb, len_beq hb, beq_len hb]
theorem may_call {h : H} {g : Nat} {me peer now out came : Int} {v m : AV} (hg : h[g]? = some (.row 7 [[.int .i64 me, .int .i64 peer, .int .i64 now, .int .i64 out, v, .int .i64 came, m]] true true)) (p : Pk) :
    ∃ k, call fs1 ex1 25 [.ptr g 0 0, .agg p.av] h = some (.bool ((p.frm == peer) && (p.to == me) && decide (0 ≤ p.seq) && decide (0 ≤ p.ack) && decide (p.ack ≤ out)), h ++ k) := by
  rw [i25]
  cases h1 : (p.frm == peer) <;> cases h2 : (p.to == me) <;> cases h3 : decide (0 ≤ p.seq) <;> cases h4 : decide (0 ≤ p.ack) <;> simp [sf25, Pk.av, yld_some, exec_reg, exec_dreg, exec_seq, exec_cond, exec_block, exec_scope, exec_exit, exec_ret, exec_skip, exec_loop, ops_nil, ops_cons, ops_cons_gd, stages_nil, stages_cons_n, stages_cons_h, recheck, wantsOp, AV.same, sames, evalOp_p, evalOp_r, evalOp_a, evalOp_call, evalOp_callV, evalOp_store, evalOp_append, evalOp_clear, evalOp_mapUpdate, evalOp_delete, pP_move, pP_pick, pP_build, pP_nil_ptr, pP_nil_func, pP_bin, pP_eq, pP_neg, pP_inv, pP_not, pP_convInt, pP_convStr, pP_fieldAddr, pP_field, pP_indexAddr, pP_indexStr, pP_sliceStr, pP_sliceSl, pP_lenStr, pP_lenNil, pP_lenSl, pP_min, pP_max, pP_extract, pP_mkfn, bV_add, bV_sub, bV_mul, bV_quo, bV_rem, bV_and, bV_or, bV_xor, bV_andNot, bV_eql, bV_neq, bV_lss, bV_leq, bV_gtr, bV_geq, bV_shl, bV_shr, bV_str, eV_bool, eV_nn, eV_np, eV_pn, eV_snn, eV_sns, eV_ssn, eV_mnn, eV_mnm, eV_mmn, eV_fnn, eV_fnf, eV_ffn, eV_agg, rP_load, rP_lenNil, rP_str0, rdEl_K, rdK_row, aP_alloc, aP_box, aP_buildSlice, aP_makeSlice, aP_makeMap, aP_toBytes, hP_store, storeK_some, st_K, stK_row, stE_some, cells_agg, cells_bool, scalar_bool, cells_int, scalar_int, cells_str, scalar_str, cells_nilptr, scalar_nilptr, cells_ptr, scalar_ptr, cells_nilslice, scalar_nilslice, cells_slice, scalar_slice, cells_nilmap, scalar_nilmap, cells_map, scalar_map, cells_nilfunc, scalar_nilfunc, cells_func, scalar_func, eqCells, eqLeaf, run_toL, toL_some, ev_toL, getD_toL, put_toL, keep_toL, asc, fput_same, fput_ne, fbase_nil, fbase_cons, fkeep_nil, fkeep_cons, fzero, fnone, List.map_cons, List.map_nil, ev_lit, put_none, resVals, resVal, resOf, partV, fillA, putCells, fillEls, strBin, minV, optNat, appendEls, elsOf, sliceSlV, sliceStrV, List.replicate, List.getElem?_append_left, List.getElem?_append_right, List.set_append_left, List.set_append_right, List.getElem?_set_self, List.getElem?_set_ne, hq_get0, hq_get, hq_get2, hq_get3, hp_get0, hp_get, hp_get2, hp_get3, hp_set0, hp_set, hp_set2, hp_set3, wr_0, wr_1, wr_2, wr_3, wr_4, wr_n1, hg, get_app hg, set_app hg, get_set_same hg, get_set_app hg, set_set_app hg, len_beq hg, beq_len hg, h1, h2, h3, h4]

def ex2 : FuncId → List AV → M AV
  | 10, [], h => some (.bool true, h)
  | 25, [.ptr g 0 0, .agg c], h => match pkOf c, h[g]? with
    | some p, some (.row 7 [[.int .i64 me, .int .i64 peer, .int .i64 now, .int .i64 out, v, .int .i64 came, m]] true true) => some (.bool ((p.frm == peer) && (p.to == me) && decide (0 ≤ p.seq) && decide (0 ≤ p.ack) && decide (p.ack ≤ out)), h)
    | _, _ => none
  | 27, [.agg c, .ptr b 0 0], h => match snOf c, h[b]? with
    | some s, some (.row 25 [d] true true) => (match pkOf d with
      | some p => some (.bool (decide (s.seq ≤ p.ack)), h)
      | none => none)
    | _, _ => none
  | 28, [.agg c], h => match ltOf c with
    | some x => some (.agg x.av, h)
    | none => none
  | 29, [.ptr g 0 0, .agg c], h => match snOf c, h[g]? with
    | some s, some (.row 7 [[.int .i64 me, .int .i64 peer, .int .i64 now, .int .i64 out, v, .int .i64 came, m]] true true) => some (.agg (Pk.av ⟨me, peer, s.seq, came, s.x⟩), h)
    | _, _ => none
  | _, _, _ => none
theorem ex2_ok : CfSound Try.prog ex2 := by
  refine drop_sound (call_sound fs1 ex1 fs1_ok ex1_ok) ?_
  intro f vs h v h' hr
  unfold ex2 at hr
  split at hr
  · cases hr; exact ⟨[], by rw [e1_10]; simp [ex1], Nat.le_refl _, rfl, fun b x hx => .inl hx⟩
  · split at hr
    · rename_i hp hg
      rw [pkOf_some hp]
      obtain ⟨k, hk⟩ := may_call hg _
      cases hr
      exact ⟨k, hk, Nat.le_refl _, rfl, fun b x hx => .inl hx⟩
    · cases hr
  · split at hr
    · rename_i s d hs hb
      split at hr
      · rename_i p hp
        rw [snOf_some hs]
        rw [pkOf_some hp] at hb
        obtain ⟨k, hk⟩ := late_call hb _
        cases hr
        exact ⟨k, hk, Nat.le_refl _, rfl, fun b x hx => .inl hx⟩
      · cases hr
    · cases hr
  · split at hr
    · rename_i hx
      rw [ltOf_some hx]
      obtain ⟨k, hk⟩ := own_call _ h
      cases hr
      exact ⟨k, hk, Nat.le_refl _, by simp [Lt.av, AV.low, lows], fun b x hx => .inl hx⟩
    · cases hr
  · split at hr
    · rename_i hs hg
      rw [snOf_some hs]
      obtain ⟨k, hk⟩ := packet_call hg _
      cases hr
      exact ⟨k, hk, Nat.le_refl _, by simp [Pk.av, AV.low, lows], fun b x hx => .inl hx⟩
    · cases hr
  · cases hr
def fs2 := fsBut fs [10, 25, 27, 28, 29]
theorem fs2_ok : FsOk Try.prog fs2 := fsBut_ok fsOk _
theorem e2_10 (vs : List AV) (h : H) : call fs2 ex2 10 vs h = ex2 10 vs h := call_ex fs2 ex2 rfl _ _
theorem e2_25 (vs : List AV) (h : H) : call fs2 ex2 25 vs h = ex2 25 vs h := call_ex fs2 ex2 rfl _ _
theorem e2_27 (vs : List AV) (h : H) : call fs2 ex2 27 vs h = ex2 27 vs h := call_ex fs2 ex2 rfl _ _
theorem e2_28 (vs : List AV) (h : H) : call fs2 ex2 28 vs h = ex2 28 vs h := call_ex fs2 ex2 rfl _ _
theorem e2_29 (vs : List AV) (h : H) : call fs2 ex2 29 vs h = ex2 29 vs h := call_ex fs2 ex2 rfl _ _

end Go.Proofs.Ytmbkklobijflkaa.Lk
