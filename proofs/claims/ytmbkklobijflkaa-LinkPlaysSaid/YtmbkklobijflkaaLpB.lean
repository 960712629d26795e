/- Link, with a book beside: letters with items; the small functions known. -/
import Derived.Test.YtmbkklobijflkaaLinkB
import Derived.Test.YtmbkklobijflkaaBkA
set_option maxRecDepth 100000
set_option linter.unusedVariables false
set_option linter.unusedSimpArgs false
namespace Go.Proofs.Ytmbkklobijflkaa.Lp
open Go Go.Eng F Lk

/-- A list of items, told by its header. -/
inductive Sv where
  | nil
  | sl (b n c : Nat) (x : Bool)
def Sv.av : Sv → AV
  | .nil => .nilslice
  | .sl b n c x => .slice b 2 0 n c x
theorem sv_cells (s : Sv) : s.av.cells = some [s.av] := by cases s <;> rfl
theorem sv_scalar (s : Sv) : s.av.scalar = true := by cases s <;> rfl
theorem sv_same (s : Sv) : AV.same s.av s.av = true := by cases s <;> simp [Sv.av, AV.same]
def svOf : AV → Option Sv
  | .nilslice => some .nil
  | .slice b 2 0 n c x => some (.sl b n c x)
  | _ => none
theorem svOf_some {a : AV} {s : Sv} (h : svOf a = some s) : a = s.av := by
  unfold svOf at h; split at h
  · cases h; rfl
  · cases h; rfl
  · cases h
theorem svOf_av (s : Sv) : svOf s.av = some s := by cases s <;> rfl
/-- A letter, with its lists' headers. -/
structure Lv where
  x : Lt
  s1 : Sv
  s2 : Sv
def Lv.av (y : Lv) : List AV := [.int .i64 y.x.kind, .int .i64 y.x.frm, .int .i64 y.x.to, .int .i64 y.x.id, .int .i64 y.x.a.op, .str y.x.a.key, .str y.x.a.value, .str y.x.a.to, .int .i64 y.x.a.most, .int .i64 y.x.t.errno, .str y.x.t.value, y.s1.av, .bool y.x.t.more, .str y.x.t.next, .int .i64 y.x.t.node, .int .u64 y.x.af, .int .u64 y.x.at_, .int .i64 y.x.ep, y.s2.av, .int .i64 y.x.n, .int .i64 y.x.node]
structure Pv where
  frm : Int
  to : Int
  seq : Int
  ack : Int
  y : Lv
def Pv.av (p : Pv) : List AV := [.int .i64 p.frm, .int .i64 p.to, .int .i64 p.seq, .int .i64 p.ack, .int .i64 p.y.x.kind, .int .i64 p.y.x.frm, .int .i64 p.y.x.to, .int .i64 p.y.x.id, .int .i64 p.y.x.a.op, .str p.y.x.a.key, .str p.y.x.a.value, .str p.y.x.a.to, .int .i64 p.y.x.a.most, .int .i64 p.y.x.t.errno, .str p.y.x.t.value, p.y.s1.av, .bool p.y.x.t.more, .str p.y.x.t.next, .int .i64 p.y.x.t.node, .int .u64 p.y.x.af, .int .u64 p.y.x.at_, .int .i64 p.y.x.ep, p.y.s2.av, .int .i64 p.y.x.n, .int .i64 p.y.x.node]
def pvOf : List AV → Option Pv
  | [.int .i64 pf, .int .i64 pt, .int .i64 seq, .int .i64 ack, .int .i64 kind, .int .i64 frm, .int .i64 to, .int .i64 id, .int .i64 op, .str key, .str value, .str to2, .int .i64 most, .int .i64 errno, .str tv, a1, .bool more, .str next, .int .i64 tnode, .int .u64 af, .int .u64 at_, .int .i64 ep, a2, .int .i64 n, .int .i64 node] =>
    match svOf a1, svOf a2 with
    | some s1, some s2 => some ⟨pf, pt, seq, ack, ⟨⟨kind, frm, to, id, ⟨op, key, value, to2, most⟩, ⟨errno, tv, more, next, tnode⟩, af, at_, ep, n, node⟩, s1, s2⟩⟩
    | _, _ => none
  | _ => none
theorem pvOf_some {c : List AV} {x : Pv} (h : pvOf c = some x) : c = x.av := by
  unfold pvOf at h; split at h
  · split at h
    · rename_i h1 h2
      rw [svOf_some h1, svOf_some h2]
      cases h; rfl
    · cases h
  · cases h
theorem pvOf_av (p : Pv) : pvOf p.av = some p := by simp [pvOf, Pv.av, svOf_av]

theorem late_call {h : H} {b : Nat} {p : Pv} (hb : h[b]? = some (.row 25 [p.av] true true)) (s : Sn) : ∃ k, call fs1 ex1 27 [.agg s.av, .ptr b 0 0] h = some (.bool (decide (s.seq ≤ p.ack)), h ++ k) := by
  rw [i27]
  unfold Pv.av at hb
  simp [sf27, Sn.av, sv_cells, sv_scalar, sv_same, yld_some, exec_reg, exec_dreg, exec_seq, exec_cond, exec_block, exec_scope, exec_exit, exec_ret, exec_skip, exec_loop, ops_nil, ops_cons, ops_cons_gd, stages_nil, stages_cons_n, stages_cons_h, recheck, wantsOp, AV.same, sames, evalOp_p, evalOp_r, evalOp_a, evalOp_call, evalOp_callV, evalOp_store, evalOp_append, evalOp_clear, evalOp_mapUpdate, evalOp_delete, pP_move, pP_pick, pP_build, pP_nil_ptr, pP_nil_func, pP_bin, pP_eq, pP_neg, pP_inv, pP_not, pP_convInt, pP_convStr, pP_fieldAddr, pP_field, pP_indexAddr, pP_indexStr, pP_sliceStr, pP_sliceSl, pP_lenStr, pP_lenNil, pP_lenSl, pP_min, pP_max, pP_extract, pP_mkfn, bV_add, bV_sub, bV_mul, bV_quo, bV_rem, bV_and, bV_or, bV_xor, bV_andNot, bV_eql, bV_neq, bV_lss, bV_leq, bV_gtr, bV_geq, bV_shl, bV_shr, bV_str, eV_bool, eV_nn, eV_np, eV_pn, eV_snn, eV_sns, eV_ssn, eV_mnn, eV_mnm, eV_mmn, eV_fnn, eV_fnf, eV_ffn, eV_agg, rP_load, rP_lenNil, rP_str0, rdEl_K, rdK_row, aP_alloc, aP_box, aP_buildSlice, aP_makeSlice, aP_makeMap, aP_toBytes, hP_store, storeK_some, st_K, stK_row, stE_some, cells_agg, cells_bool, scalar_bool, cells_int, scalar_int, cells_str, scalar_str, cells_nilptr, scalar_nilptr, cells_ptr, scalar_ptr, cells_nilslice, scalar_nilslice, cells_slice, scalar_slice, cells_nilmap, scalar_nilmap, cells_map, scalar_map, cells_nilfunc, scalar_nilfunc, cells_func, scalar_func, eqCells, eqLeaf, run_toL, toL_some, ev_toL, getD_toL, put_toL, keep_toL, asc, fput_same, fput_ne, fbase_nil, fbase_cons, fkeep_nil, fkeep_cons, fzero, fnone, List.map_cons, List.map_nil, ev_lit, put_none, resVals, resVal, resOf, partV, fillA, putCells, fillEls, strBin, minV, optNat, appendEls, elsOf, sliceSlV, sliceStrV, List.replicate, List.getElem?_append_left, List.getElem?_append_right, List.set_append_left, List.set_append_right, List.getElem?_set_self, List.getElem?_set_ne, hq_get0, hq_get, hq_get2, hq_get3, hp_get0, hp_get, hp_get2, hp_get3, hp_set0, hp_set, hp_set2, hp_set3, wr_0, wr_1, wr_2, wr_3, wr_4, wr_n1, hb, get_app hb, set_app hb, get_set_same hb, get_set_app hb, set_set_app hb, len_beq hb, beq_len hb]
theorem may_call {h : H} {g : Nat} {me peer now out came : Int} {v m : AV} (hg : h[g]? = some (.row 7 [[.int .i64 me, .int .i64 peer, .int .i64 now, .int .i64 out, v, .int .i64 came, m]] true true)) (p : Pv) :
    ∃ k, call fs1 ex1 25 [.ptr g 0 0, .agg p.av] h = some (.bool ((p.frm == peer) && (p.to == me) && decide (0 ≤ p.seq) && decide (0 ≤ p.ack) && decide (p.ack ≤ out)), h ++ k) := by
  rw [i25]
  cases h1 : (p.frm == peer) <;> cases h2 : (p.to == me) <;> cases h3 : decide (0 ≤ p.seq) <;> cases h4 : decide (0 ≤ p.ack) <;> simp [sf25, Pv.av, sv_cells, sv_scalar, sv_same, yld_some, exec_reg, exec_dreg, exec_seq, exec_cond, exec_block, exec_scope, exec_exit, exec_ret, exec_skip, exec_loop, ops_nil, ops_cons, ops_cons_gd, stages_nil, stages_cons_n, stages_cons_h, recheck, wantsOp, AV.same, sames, evalOp_p, evalOp_r, evalOp_a, evalOp_call, evalOp_callV, evalOp_store, evalOp_append, evalOp_clear, evalOp_mapUpdate, evalOp_delete, pP_move, pP_pick, pP_build, pP_nil_ptr, pP_nil_func, pP_bin, pP_eq, pP_neg, pP_inv, pP_not, pP_convInt, pP_convStr, pP_fieldAddr, pP_field, pP_indexAddr, pP_indexStr, pP_sliceStr, pP_sliceSl, pP_lenStr, pP_lenNil, pP_lenSl, pP_min, pP_max, pP_extract, pP_mkfn, bV_add, bV_sub, bV_mul, bV_quo, bV_rem, bV_and, bV_or, bV_xor, bV_andNot, bV_eql, bV_neq, bV_lss, bV_leq, bV_gtr, bV_geq, bV_shl, bV_shr, bV_str, eV_bool, eV_nn, eV_np, eV_pn, eV_snn, eV_sns, eV_ssn, eV_mnn, eV_mnm, eV_mmn, eV_fnn, eV_fnf, eV_ffn, eV_agg, rP_load, rP_lenNil, rP_str0, rdEl_K, rdK_row, aP_alloc, aP_box, aP_buildSlice, aP_makeSlice, aP_makeMap, aP_toBytes, hP_store, storeK_some, st_K, stK_row, stE_some, cells_agg, cells_bool, scalar_bool, cells_int, scalar_int, cells_str, scalar_str, cells_nilptr, scalar_nilptr, cells_ptr, scalar_ptr, cells_nilslice, scalar_nilslice, cells_slice, scalar_slice, cells_nilmap, scalar_nilmap, cells_map, scalar_map, cells_nilfunc, scalar_nilfunc, cells_func, scalar_func, eqCells, eqLeaf, run_toL, toL_some, ev_toL, getD_toL, put_toL, keep_toL, asc, fput_same, fput_ne, fbase_nil, fbase_cons, fkeep_nil, fkeep_cons, fzero, fnone, List.map_cons, List.map_nil, ev_lit, put_none, resVals, resVal, resOf, partV, fillA, putCells, fillEls, strBin, minV, optNat, appendEls, elsOf, sliceSlV, sliceStrV, List.replicate, List.getElem?_append_left, List.getElem?_append_right, List.set_append_left, List.set_append_right, List.getElem?_set_self, List.getElem?_set_ne, hq_get0, hq_get, hq_get2, hq_get3, hp_get0, hp_get, hp_get2, hp_get3, hp_set0, hp_set, hp_set2, hp_set3, wr_0, wr_1, wr_2, wr_3, wr_4, wr_n1, hg, get_app hg, set_app hg, get_set_same hg, get_set_app hg, set_set_app hg, len_beq hg, beq_len hg, h1, h2, h3, h4]

theorem may_nil (h : H) (p : Pv) : ∃ k, call fs1 ex1 25 [.nilptr, .agg p.av] h = some (.bool false, h ++ k) := by
  rw [i25]
  simp [sf25, Pv.av, sv_cells, sv_scalar, sv_same, yld_some, exec_reg, exec_dreg, exec_seq, exec_cond, exec_block, exec_scope, exec_exit, exec_ret, exec_skip, exec_loop, ops_nil, ops_cons, ops_cons_gd, stages_nil, stages_cons_n, stages_cons_h, recheck, wantsOp, AV.same, sames, evalOp_p, evalOp_r, evalOp_a, evalOp_call, evalOp_callV, evalOp_store, evalOp_append, evalOp_clear, evalOp_mapUpdate, evalOp_delete, pP_move, pP_pick, pP_build, pP_nil_ptr, pP_nil_func, pP_bin, pP_eq, pP_neg, pP_inv, pP_not, pP_convInt, pP_convStr, pP_fieldAddr, pP_field, pP_indexAddr, pP_indexStr, pP_sliceStr, pP_sliceSl, pP_lenStr, pP_lenNil, pP_lenSl, pP_min, pP_max, pP_extract, pP_mkfn, bV_add, bV_sub, bV_mul, bV_quo, bV_rem, bV_and, bV_or, bV_xor, bV_andNot, bV_eql, bV_neq, bV_lss, bV_leq, bV_gtr, bV_geq, bV_shl, bV_shr, bV_str, eV_bool, eV_nn, eV_np, eV_pn, eV_snn, eV_sns, eV_ssn, eV_mnn, eV_mnm, eV_mmn, eV_fnn, eV_fnf, eV_ffn, eV_agg, rP_load, rP_lenNil, rP_str0, rdEl_K, rdK_row, aP_alloc, aP_box, aP_buildSlice, aP_makeSlice, aP_makeMap, aP_toBytes, hP_store, storeK_some, st_K, stK_row, stE_some, cells_agg, cells_bool, scalar_bool, cells_int, scalar_int, cells_str, scalar_str, cells_nilptr, scalar_nilptr, cells_ptr, scalar_ptr, cells_nilslice, scalar_nilslice, cells_slice, scalar_slice, cells_nilmap, scalar_nilmap, cells_map, scalar_map, cells_nilfunc, scalar_nilfunc, cells_func, scalar_func, eqCells, eqLeaf, run_toL, toL_some, ev_toL, getD_toL, put_toL, keep_toL, asc, fput_same, fput_ne, fbase_nil, fbase_cons, fkeep_nil, fkeep_cons, fzero, fnone, List.map_cons, List.map_nil, ev_lit, put_none, resVals, resVal, resOf, partV, fillA, putCells, fillEls, strBin, minV, optNat, appendEls, elsOf, sliceSlV, sliceStrV, List.replicate, List.getElem?_append_left, List.getElem?_append_right, List.set_append_left, List.set_append_right, List.getElem?_set_self, List.getElem?_set_ne, hq_get0, hq_get, hq_get2, hq_get3, hp_get0, hp_get, hp_get2, hp_get3, hp_set0, hp_set, hp_set2, hp_set3, wr_0, wr_1, wr_2, wr_3, wr_4, wr_n1]
def ex2 : FuncId → List AV → M AV
  | 10, [], h => some (.bool true, h)
  | 25, [.ptr g 0 0, .agg c], h => match pvOf c, h[g]? with
    | some p, some (.row 7 [[.int .i64 me, .int .i64 peer, .int .i64 now, .int .i64 out, v, .int .i64 came, m]] true true) => some (.bool ((p.frm == peer) && (p.to == me) && decide (0 ≤ p.seq) && decide (0 ≤ p.ack) && decide (p.ack ≤ out)), h)
    | _, _ => none
  | 25, [.nilptr, .agg c], h => match pvOf c with
    | some p => some (.bool false, h)
    | none => none
  | 27, [.agg c, .ptr b 0 0], h => match snOf c, h[b]? with
    | some s, some (.row 25 [d] true true) => (match pvOf d with
      | some p => some (.bool (decide (s.seq ≤ p.ack)), h)
      | none => none)
    | _, _ => none
  | 29, [.ptr g 0 0, .agg c], h => match snOf c, h[g]? with
    | some s, some (.row 7 [[.int .i64 me, .int .i64 peer, .int .i64 now, .int .i64 out, v, .int .i64 came, m]] true true) => some (.agg (Pk.av ⟨me, peer, s.seq, came, s.x⟩), h)
    | _, _ => none
  | _, _, _ => none
theorem ex2_ok : CfSound Try.prog ex2 := by
  refine drop_sound (call_sound fs1 ex1 fs1_ok ex1_ok) ?_
  intro f vs h v h' hr
  unfold ex2 at hr
  split at hr
  · cases hr; exact ⟨[], by rw [e1_10]; simp [ex1], Nat.le_refl _, rfl, fun b x hx => .inl hx⟩
  · split at hr
    · rename_i hp hg
      rw [pvOf_some hp]
      obtain ⟨k, hk⟩ := may_call hg _
      cases hr
      exact ⟨k, hk, Nat.le_refl _, rfl, fun b x hx => .inl hx⟩
    · cases hr
  · split at hr
    · rename_i hp
      rw [pvOf_some hp]
      obtain ⟨k, hk⟩ := may_nil h _
      cases hr
      exact ⟨k, hk, Nat.le_refl _, rfl, fun b x hx => .inl hx⟩
    · cases hr
  · split at hr
    · rename_i s d hs hb
      split at hr
      · rename_i p hp
        rw [snOf_some hs]
        rw [pvOf_some hp] at hb
        obtain ⟨k, hk⟩ := late_call hb _
        cases hr
        exact ⟨k, hk, Nat.le_refl _, rfl, fun b x hx => .inl hx⟩
      · cases hr
    · cases hr
  · split at hr
    · rename_i hs hg
      rw [snOf_some hs]
      obtain ⟨k, hk⟩ := packet_call hg _
      cases hr
      exact ⟨k, hk, Nat.le_refl _, by simp [Pk.av, AV.low, lows], fun b x hx => .inl hx⟩
    · cases hr
  · cases hr
noncomputable def ex3 : FuncId → List AV → M AV := fun f vs h => if [79].contains f then Bk.nameEx f vs h else ex2 f vs h
theorem ex3_ok : CfSound Try.prog ex3 := Bk.join_sound [79] Bk.nameEx_ok ex2_ok
def fs3 := fsBut fs [10, 25, 27, 29, 79]
theorem fs3_ok : FsOk Try.prog fs3 := fsBut_ok fsOk _
theorem e2_10 (vs : List AV) (h : H) : call Lp.fs3 Lp.ex3 10 vs h = ex2 10 vs h := (call_ex fs3 ex3 rfl _ _).trans rfl
theorem e2_25 (vs : List AV) (h : H) : call Lp.fs3 Lp.ex3 25 vs h = ex2 25 vs h := (call_ex fs3 ex3 rfl _ _).trans rfl
theorem e2_27 (vs : List AV) (h : H) : call Lp.fs3 Lp.ex3 27 vs h = ex2 27 vs h := (call_ex fs3 ex3 rfl _ _).trans rfl
theorem e2_29 (vs : List AV) (h : H) : call Lp.fs3 Lp.ex3 29 vs h = ex2 29 vs h := (call_ex fs3 ex3 rfl _ _).trans rfl
theorem e3_79 (i k : Int) (h : H) : call Lp.fs3 Lp.ex3 79 [.int .i64 i, .int .i64 k] h = some (.str (Bk.nm i k), h) := (call_ex fs3 ex3 rfl _ _).trans rfl
theorem j28 (vs : List AV) (h : H) : call Lp.fs3 Lp.ex3 28 vs h = runFn (call Lp.fs3 Lp.ex3) itw sf28 vs h := call_eq Lp.fs3 Lp.ex3 (f := 28) (sf := sf28) rfl _ _
theorem j62 (vs : List AV) (h : H) : call Lp.fs3 Lp.ex3 62 vs h = runFn (call Lp.fs3 Lp.ex3) itw sf62 vs h := call_eq Lp.fs3 Lp.ex3 (f := 62) (sf := sf62) rfl _ _
end Go.Proofs.Ytmbkklobijflkaa.Lp
namespace Go.Proofs.Ytmbkklobijflkaa.Bk
open Go Go.Eng F
theorem nm_eq (i k : Int) (h : H) : call Lp.fs3 Lp.ex3 79 [.int .i64 i, .int .i64 k] h = some (.str (nm i k), h) := Lp.e3_79 i k h
end Go.Proofs.Ytmbkklobijflkaa.Bk
