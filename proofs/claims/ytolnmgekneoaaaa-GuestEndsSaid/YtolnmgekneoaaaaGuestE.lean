/- Guest: answers with items. -/
import Derived.Test.YtolnmgekneoaaaaGuestD
import Derived.Test.YtolnmgekneoaaaaEngW
set_option maxRecDepth 100000
set_option linter.unusedVariables false
set_option linter.unusedSimpArgs false
namespace Go.Proofs.Ytolnmgekneoaaaa.Gu
open Go Go.Eng F

def exL : FuncId → List AV → M AV := fun f vs h =>
  if f = 10 ∨ f = 26 ∨ f = 27 ∨ f = 29 then ex1 f vs h else if f = 11 ∨ f = 12 ∨ f = 15 then ex2 f vs h else none
theorem exL_ok : CfSound Try.prog exL := by
  intro f vs h v h' hr
  unfold exL at hr
  split at hr
  · exact ex1_ok f vs h v h' hr
  · split at hr
    · exact ex2_ok f vs h v h' hr
    · cases hr
def fsL := fsBut fs [10, 11, 12, 15, 26, 27, 29]
theorem fsL_ok : FsOk Try.prog fsL := fsBut_ok fsOk _
theorem eL_10 (vs : List AV) (h : H) : call fsL exL 10 vs h = exL 10 vs h := call_ex fsL exL rfl _ _
theorem eL_11 (vs : List AV) (h : H) : call fsL exL 11 vs h = ex2 11 vs h := (call_ex fsL exL rfl _ _).trans rfl
theorem eL_12 (vs : List AV) (h : H) : call fsL exL 12 vs h = ex2 12 vs h := (call_ex fsL exL rfl _ _).trans rfl
theorem eL_15 (vs : List AV) (h : H) : call fsL exL 15 vs h = ex2 15 vs h := (call_ex fsL exL rfl _ _).trans rfl
theorem eL_26 (vs : List AV) (h : H) : call fsL exL 26 vs h = ex1 26 vs h := (call_ex fsL exL rfl _ _).trans rfl
theorem eL_27 (vs : List AV) (h : H) : call fsL exL 27 vs h = ex1 27 vs h := (call_ex fsL exL rfl _ _).trans rfl
theorem eL_29 (vs : List AV) (h : H) : call fsL exL 29 vs h = ex1 29 vs h := (call_ex fsL exL rfl _ _).trans rfl
theorem iL_28 (vs : List AV) (h : H) : call fsL exL 28 vs h = runFn (call fsL exL) itw sf28 vs h := call_eq fsL exL (f := 28) (sf := sf28) rfl _ _

def Gs.avI (s : Gs) (it : AV) : List AV := [.int .i64 s.me, .int .i64 s.nodes, .int .i64 s.id, .int .i64 s.tried, .int .i64 s.a.op, .str s.a.key, .str s.a.value, .str s.a.to, .int .i64 s.a.most, .int .i64 s.at_, .int .i64 s.old, .int .i64 s.waits, .bool s.on, .bool s.over,
  .int .i64 s.t.errno, .str s.t.value, it, .bool s.t.more, .str s.t.next, .int .i64 s.t.node]
def Lt.avI (x : Lt) (it : AV) : List AV := [.int .i64 x.kind, .int .i64 x.frm, .int .i64 x.to, .int .i64 x.id, .int .i64 x.a.op, .str x.a.key, .str x.a.value, .str x.a.to, .int .i64 x.a.most, .int .i64 x.t.errno, .str x.t.value, it, .bool x.t.more, .str x.t.next, .int .i64 x.t.node, .int .u64 x.af, .int .u64 x.at_, .int .i64 x.ep, .nilslice, .int .i64 x.n, .int .i64 x.node]
/-- What of a list is its holder's own, or nothing. -/
def Kept (k : H) (it : AV) : Prop := it = .nilslice ∨ ∃ b els, it = .slice b 2 0 els.length els.length false ∧ k[b]? = some (.row 2 els true true) ∧ els ≠ [] ∧ (∀ e ∈ els, e.all AV.scalar = true) ∧ (els.length ≤ 4294967296 ∨ els.length * 48 ≤ 281474976710656)
def nx (n a x : Int) : Int := if ((decide (0 ≤ x) && decide (x < n)) && (x != a)) = true then x else (IntKind.i64.wrap (a + 1)).tmod n
theorem Gs.next_nx (s : Gs) (x : Int) : s.next x = nx s.nodes s.at_ x := rfl
structure Next (s s' : Gs) : Prop where
  on : s'.on = s.on
  over : s'.over = s.over
  old : s'.old = s.old
  nodes : s'.nodes = s.nodes
  tried : 0 ≤ s'.tried ∧ s'.tried ≤ 8
def GotQ (k : H) (g : Nat) (s : Gs) (r : AV × H) : Prop := Chg k r.2 [g] ∧
  ((∃ s', r.1 = .tuple [.nilslice, .bool false] ∧ r.2[g]? = some (.row 20 [Gs.av s'] true true) ∧ Next s s') ∨
   (∃ s' b, r.1 = .tuple [.slice b 21 0 1 1 true, .bool false] ∧ r.2[g]? = some (.row 20 [Gs.av s'] true true) ∧ r.2[b]? = some (.row 21 [Gs.ltr s'] true true) ∧ k.length ≤ b ∧ Next s s') ∨
   (∃ s' it, r.1 = .tuple [.nilslice, .bool true] ∧ r.2[g]? = some (.row 20 [Gs.avI s' it] true true) ∧ s'.over = true ∧ (0 ≤ s'.tried ∧ s'.tried ≤ 8) ∧ Kept r.2 it))
theorem lt_of_get' {h : H} {c : Nat} {x : Blk} (hx : h[c]? = some x) : c < h.length := (List.getElem?_eq_some_iff.1 hx).1
theorem slOf_cells {h : H} {es : Nat} {v : AV} {els : List (List AV)} (hs : SlOf h es v els) : v.cells = some [v] ∧ v.scalar = true := by
  rcases hs with ⟨rfl, _⟩ | ⟨b, c, rfl, _⟩ <;> exact ⟨rfl, rfl⟩
set_option maxHeartbeats 8000000 in
theorem gotI {k : H} {g : Nat} {s : Gs} {it : AV} {els : List (List AV)} (hg : k[g]? = some (.row 20 [s.av] true true)) (hn : s.nodes ≠ 0) (ht : 0 ≤ s.tried ∧ s.tried ≤ 8) (hx : SlOf k 2 it els) (hels : ∀ e ∈ els, e.all AV.scalar = true) (hlen : (els.length ≤ 4294967296 ∨ els.length * 48 ≤ 281474976710656)) (x : Lt) :
    Yld (call fsL exL 13 [.ptr g 0 0, .agg (x.avI it)] k) (GotQ k g s) := by
  obtain ⟨hc, hsc⟩ := slOf_cells hx
  rw [call_eq fsL exL (f := 13) (sf := sf13) rfl]
  have hg0 := hg
  unfold Gs.av at hg
  by_cases hcc : (!s.on || decide (0 < s.waits) || (x.kind != 2) || (x.id != s.id) || (x.frm != s.at_)) = true
  · have hn1 : Next s s := ⟨rfl, rfl, rfl, rfl, ht⟩
    have hQ : GotQ k g s (.tuple [.nilslice, .bool false], k ++ [.row 21 [x.avI it] true true]) := ⟨Chg.app _ _ _, .inl ⟨s, rfl, get_app hg0, hn1⟩⟩
    unfold Lt.avI at hQ
    generalize GotQ k g s = Q at hQ ⊢
    cases h1 : s.on <;> cases h2 : decide (0 < s.waits) <;> cases h9 : (x.kind != 2) <;> cases h3 : (x.id != s.id) <;> cases h4 : (x.frm != s.at_) <;> simp [h1, h2, h3, h4, h9] at hcc <;>
      simp [sf13, yld_some, exec_reg, exec_dreg, exec_seq, exec_cond, exec_block, exec_scope, exec_exit, exec_ret, exec_skip, exec_loop, ops_nil, ops_cons, ops_cons_gd, stages_nil, stages_cons_n, stages_cons_h, recheck, wantsOp, AV.same, sames, evalOp_p, evalOp_r, evalOp_a, evalOp_call, evalOp_callV, evalOp_store, evalOp_append, evalOp_clear, evalOp_mapUpdate, evalOp_delete, pP_move, pP_pick, pP_build, pP_nil_ptr, pP_nil_func, pP_bin, pP_eq, pP_neg, pP_inv, pP_not, pP_convInt, pP_convStr, pP_fieldAddr, pP_field, pP_indexAddr, pP_indexStr, pP_sliceStr, pP_sliceSl, pP_lenStr, pP_lenNil, pP_lenSl, pP_min, pP_max, pP_extract, pP_mkfn, bV_add, bV_sub, bV_mul, bV_quo, bV_rem, bV_and, bV_or, bV_xor, bV_andNot, bV_eql, bV_neq, bV_lss, bV_leq, bV_gtr, bV_geq, bV_shl, bV_shr, bV_str, eV_bool, eV_nn, eV_np, eV_pn, eV_snn, eV_sns, eV_ssn, eV_mnn, eV_mnm, eV_mmn, eV_fnn, eV_fnf, eV_ffn, eV_agg, rP_load, rP_lenNil, rP_str0, rdEl_K, rdK_row, aP_alloc, aP_box, aP_buildSlice, aP_makeSlice, aP_makeMap, aP_toBytes, hP_store, storeK_some, st_K, stK_row, stE_some, cells_agg, cells_bool, scalar_bool, cells_int, scalar_int, cells_str, scalar_str, cells_nilptr, scalar_nilptr, cells_ptr, scalar_ptr, cells_nilslice, scalar_nilslice, cells_slice, scalar_slice, cells_nilmap, scalar_nilmap, cells_map, scalar_map, cells_nilfunc, scalar_nilfunc, cells_func, scalar_func, eqCells, eqLeaf, run_toL, toL_some, ev_toL, getD_toL, put_toL, keep_toL, asc, fput_same, fput_ne, fbase_nil, fbase_cons, fkeep_nil, fkeep_cons, fzero, fnone, List.map_cons, List.map_nil, ev_lit, put_none, resVals, resVal, resOf, partV, fillA, putCells, fillEls, strBin, minV, optNat, appendEls, elsOf, sliceSlV, sliceStrV, List.replicate, List.getElem?_append_left, List.getElem?_append_right, List.set_append_left, List.set_append_right, List.getElem?_set_self, List.getElem?_set_ne, hg, get_app hg, set_app hg, get_set_same hg, get_set_app hg, set_set_app hg, len_beq hg, beq_len hg, h1, h2, h3, h4, h9, Lt.avI, hc, hsc, hQ]
  · simp only [Bool.or_eq_true, not_or, Bool.not_eq_true, Bool.not_eq_false'] at hcc
    obtain ⟨⟨⟨⟨h1, h2⟩, h9⟩, h3⟩, h4⟩ := hcc
    have hl := lt_of_get' hg
    by_cases h5 : ((x.t.errno != 7) && (x.t.errno != 8)) = true
    · rw [Bool.and_eq_true] at h5
      obtain ⟨h5, h6⟩ := h5
      rcases hx with ⟨rfl, rfl⟩ | ⟨b, c, rfl, hcl, hb⟩
      · have hQ : GotQ k g s (.tuple [.nilslice, .bool true], k.set g (.row 20 [({ s with on := false, over := true, waits := 0, t := x.t } : Gs).avI .nilslice] true true) ++ [.row 21 [x.avI .nilslice] true true, .row 6 [[.int .i64 x.t.errno, .str x.t.value, .nilslice, .bool x.t.more, .str x.t.next, .int .i64 x.t.node]] true true]) :=
          ⟨((Chg.refl _ _).set (.inl (by simp))).more, .inr (.inr ⟨_, .nilslice, rfl, get_app (get_set_same hg), rfl, ht, .inl rfl⟩)⟩
        simp only [Lt.avI, Gs.avI] at hQ
        generalize GotQ k g s = Q at hQ ⊢
        simp [sf13, sf28, iL_28, appendV, evalHeap, yld_some, exec_reg, exec_dreg, exec_seq, exec_cond, exec_block, exec_scope, exec_exit, exec_ret, exec_skip, exec_loop, ops_nil, ops_cons, ops_cons_gd, stages_nil, stages_cons_n, stages_cons_h, recheck, wantsOp, AV.same, sames, evalOp_p, evalOp_r, evalOp_a, evalOp_call, evalOp_callV, evalOp_store, evalOp_append, evalOp_clear, evalOp_mapUpdate, evalOp_delete, pP_move, pP_pick, pP_build, pP_nil_ptr, pP_nil_func, pP_bin, pP_eq, pP_neg, pP_inv, pP_not, pP_convInt, pP_convStr, pP_fieldAddr, pP_field, pP_indexAddr, pP_indexStr, pP_sliceStr, pP_sliceSl, pP_lenStr, pP_lenNil, pP_lenSl, pP_min, pP_max, pP_extract, pP_mkfn, bV_add, bV_sub, bV_mul, bV_quo, bV_rem, bV_and, bV_or, bV_xor, bV_andNot, bV_eql, bV_neq, bV_lss, bV_leq, bV_gtr, bV_geq, bV_shl, bV_shr, bV_str, eV_bool, eV_nn, eV_np, eV_pn, eV_snn, eV_sns, eV_ssn, eV_mnn, eV_mnm, eV_mmn, eV_fnn, eV_fnf, eV_ffn, eV_agg, rP_load, rP_lenNil, rP_str0, rdEl_K, rdK_row, aP_alloc, aP_box, aP_buildSlice, aP_makeSlice, aP_makeMap, aP_toBytes, hP_store, storeK_some, st_K, stK_row, stE_some, cells_agg, cells_bool, scalar_bool, cells_int, scalar_int, cells_str, scalar_str, cells_nilptr, scalar_nilptr, cells_ptr, scalar_ptr, cells_nilslice, scalar_nilslice, cells_slice, scalar_slice, cells_nilmap, scalar_nilmap, cells_map, scalar_map, cells_nilfunc, scalar_nilfunc, cells_func, scalar_func, eqCells, eqLeaf, run_toL, toL_some, ev_toL, getD_toL, put_toL, keep_toL, asc, fput_same, fput_ne, fbase_nil, fbase_cons, fkeep_nil, fkeep_cons, fzero, fnone, List.map_cons, List.map_nil, ev_lit, put_none, resVals, resVal, resOf, partV, fillA, putCells, fillEls, strBin, minV, optNat, appendEls, elsOf, sliceSlV, sliceStrV, List.replicate, List.getElem?_append_left, List.getElem?_append_right, List.set_append_left, List.set_append_right, List.getElem?_set_self, List.getElem?_set_ne, hg, get_app hg, set_app hg, get_set_same hg, get_set_app hg, set_set_app hg, len_beq hg, beq_len hg, h1, h2, h3, h4, h9, h5, h6, Lt.avI, hQ]
      · by_cases he : els = []
        · subst he
          have hQ : ∀ z, GotQ k g s (.tuple [.nilslice, .bool true], k.set g (.row 20 [({ s with on := false, over := true, waits := 0, t := x.t } : Gs).avI .nilslice] true true) ++ z) :=
            fun z => ⟨((Chg.refl _ _).set (.inl (by simp))).more, .inr (.inr ⟨_, .nilslice, rfl, get_app (get_set_same hg), rfl, ht, .inl rfl⟩)⟩
          simp only [Lt.avI, Gs.avI] at hQ
          generalize GotQ k g s = Q at hQ ⊢
          simp [sf13, sf28, iL_28, appendV, evalHeap, yld_some, exec_reg, exec_dreg, exec_seq, exec_cond, exec_block, exec_scope, exec_exit, exec_ret, exec_skip, exec_loop, ops_nil, ops_cons, ops_cons_gd, stages_nil, stages_cons_n, stages_cons_h, recheck, wantsOp, AV.same, sames, evalOp_p, evalOp_r, evalOp_a, evalOp_call, evalOp_callV, evalOp_store, evalOp_append, evalOp_clear, evalOp_mapUpdate, evalOp_delete, pP_move, pP_pick, pP_build, pP_nil_ptr, pP_nil_func, pP_bin, pP_eq, pP_neg, pP_inv, pP_not, pP_convInt, pP_convStr, pP_fieldAddr, pP_field, pP_indexAddr, pP_indexStr, pP_sliceStr, pP_sliceSl, pP_lenStr, pP_lenNil, pP_lenSl, pP_min, pP_max, pP_extract, pP_mkfn, bV_add, bV_sub, bV_mul, bV_quo, bV_rem, bV_and, bV_or, bV_xor, bV_andNot, bV_eql, bV_neq, bV_lss, bV_leq, bV_gtr, bV_geq, bV_shl, bV_shr, bV_str, eV_bool, eV_nn, eV_np, eV_pn, eV_snn, eV_sns, eV_ssn, eV_mnn, eV_mnm, eV_mmn, eV_fnn, eV_fnf, eV_ffn, eV_agg, rP_load, rP_lenNil, rP_str0, rdEl_K, rdK_row, aP_alloc, aP_box, aP_buildSlice, aP_makeSlice, aP_makeMap, aP_toBytes, hP_store, storeK_some, st_K, stK_row, stE_some, cells_agg, cells_bool, scalar_bool, cells_int, scalar_int, cells_str, scalar_str, cells_nilptr, scalar_nilptr, cells_ptr, scalar_ptr, cells_nilslice, scalar_nilslice, cells_slice, scalar_slice, cells_nilmap, scalar_nilmap, cells_map, scalar_map, cells_nilfunc, scalar_nilfunc, cells_func, scalar_func, eqCells, eqLeaf, run_toL, toL_some, ev_toL, getD_toL, put_toL, keep_toL, asc, fput_same, fput_ne, fbase_nil, fbase_cons, fkeep_nil, fkeep_cons, fzero, fnone, List.map_cons, List.map_nil, ev_lit, put_none, resVals, resVal, resOf, partV, fillA, putCells, fillEls, strBin, minV, optNat, appendEls, elsOf, sliceSlV, sliceStrV, List.replicate, List.getElem?_append_left, List.getElem?_append_right, List.set_append_left, List.set_append_right, List.getElem?_set_self, List.getElem?_set_ne, hg, get_app hg, set_app hg, get_set_same hg, get_set_app hg, set_set_app hg, len_beq hg, beq_len hg, h1, h2, h3, h4, h9, h5, h6, Lt.avI, hQ]
        · have hb := hb he
          have hl0 : els.length ≠ 0 := by simpa using he
          have hQ : ∀ z1 z2, GotQ k g s (.tuple [.nilslice, .bool true], k.set g (.row 20 [({ s with on := false, over := true, waits := 0, t := x.t } : Gs).avI (.slice (k.length + 2) 2 0 els.length els.length false)] true true) ++ [z1, z2, .row 2 els true true]) :=
            fun z1 z2 => ⟨((Chg.refl _ _).set (.inl (by simp))).more, .inr (.inr ⟨_, _, rfl, get_app (get_set_same hg), rfl, ht, .inr ⟨_, els, rfl, by simp, he, hels, hlen⟩⟩)⟩
          have hbg : b ≠ g := by
            rintro rfl
            rw [hg] at hb; simp at hb
          have hb2 : (k.set g (.row 20 [({ s with on := false, over := true, waits := 0, t := x.t } : Gs).avI (.slice (k.length + 2) 2 0 els.length els.length false)] true true))[b]? = some (.row 2 els false false) := by rw [List.getElem?_set_ne (Ne.symm hbg)]; exact hb
          simp only [Lt.avI, Gs.avI] at hQ
          generalize GotQ k g s = Q at hQ ⊢
          have hall : (els.all fun e => e.all AV.scalar) = true := List.all_eq_true.2 hels
          simp [sf13, sf28, iL_28, appendV, evalHeap, elsOf, appendEls, yld_some, exec_reg, exec_dreg, exec_seq, exec_cond, exec_block, exec_scope, exec_exit, exec_ret, exec_skip, exec_loop, ops_nil, ops_cons, ops_cons_gd, stages_nil, stages_cons_n, stages_cons_h, recheck, wantsOp, AV.same, sames, evalOp_p, evalOp_r, evalOp_a, evalOp_call, evalOp_callV, evalOp_store, evalOp_append, evalOp_clear, evalOp_mapUpdate, evalOp_delete, pP_move, pP_pick, pP_build, pP_nil_ptr, pP_nil_func, pP_bin, pP_eq, pP_neg, pP_inv, pP_not, pP_convInt, pP_convStr, pP_fieldAddr, pP_field, pP_indexAddr, pP_indexStr, pP_sliceStr, pP_sliceSl, pP_lenStr, pP_lenNil, pP_lenSl, pP_min, pP_max, pP_extract, pP_mkfn, bV_add, bV_sub, bV_mul, bV_quo, bV_rem, bV_and, bV_or, bV_xor, bV_andNot, bV_eql, bV_neq, bV_lss, bV_leq, bV_gtr, bV_geq, bV_shl, bV_shr, bV_str, eV_bool, eV_nn, eV_np, eV_pn, eV_snn, eV_sns, eV_ssn, eV_mnn, eV_mnm, eV_mmn, eV_fnn, eV_fnf, eV_ffn, eV_agg, rP_load, rP_lenNil, rP_str0, rdEl_K, rdK_row, aP_alloc, aP_box, aP_buildSlice, aP_makeSlice, aP_makeMap, aP_toBytes, hP_store, storeK_some, st_K, stK_row, stE_some, cells_agg, cells_bool, scalar_bool, cells_int, scalar_int, cells_str, scalar_str, cells_nilptr, scalar_nilptr, cells_ptr, scalar_ptr, cells_nilslice, scalar_nilslice, cells_slice, scalar_slice, cells_nilmap, scalar_nilmap, cells_map, scalar_map, cells_nilfunc, scalar_nilfunc, cells_func, scalar_func, eqCells, eqLeaf, run_toL, toL_some, ev_toL, getD_toL, put_toL, keep_toL, asc, fput_same, fput_ne, fbase_nil, fbase_cons, fkeep_nil, fkeep_cons, fzero, fnone, List.map_cons, List.map_nil, ev_lit, put_none, resVals, resVal, resOf, partV, fillA, putCells, fillEls, strBin, minV, optNat, appendEls, elsOf, sliceSlV, sliceStrV, List.replicate, List.getElem?_append_left, List.getElem?_append_right, List.set_append_left, List.set_append_right, List.getElem?_set_self, List.getElem?_set_ne, hg, get_app hg, set_app hg, get_set_same hg, get_set_app hg, set_set_app hg, len_beq hg, beq_len hg, hb, get_app hb, set_app hb, get_set_same hb, get_set_app hb, set_set_app hb, len_beq hb, beq_len hb, h1, h2, h3, h4, h9, h5, h6, Lt.avI, hl0, hlen, hall]
          exact hQ _ _
    · have h5' : ((x.t.errno != 7) && (x.t.errno != 8)) = false := by simpa using h5
      have w8 : s.tried < 8 → 0 ≤ IntKind.i64.wrap (s.tried + 1) ∧ IntKind.i64.wrap (s.tried + 1) ≤ 8 := by
        intro hlt
        rw [wrap_i64 (by omega) (by omega)]
        omega
      by_cases h7 : 8 ≤ s.tried
      · have d7 : decide (8 ≤ s.tried) = true := dec_true h7
        have hQ : ∀ z, GotQ k g s (.tuple [.nilslice, .bool true], k.set g (.row 20 [({ s with on := false, over := true, waits := 0, t := tmo } : Gs).avI .nilslice] true true) ++ z) :=
          fun z => ⟨((Chg.refl _ _).set (.inl (by simp))).more, .inr (.inr ⟨_, .nilslice, rfl, get_app (get_set_same hg), rfl, ht, .inl rfl⟩)⟩
        simp only [Lt.avI, Gs.avI, tmo] at hQ
        generalize GotQ k g s = Q at hQ ⊢
        cases h6 : (x.t.errno != 7) <;> cases h8 : (x.t.errno != 8) <;> simp [h6, h8] at h5' <;>
          simp [sf13, sf28, iL_28, appendV, evalHeap, yld_some, exec_reg, exec_dreg, exec_seq, exec_cond, exec_block, exec_scope, exec_exit, exec_ret, exec_skip, exec_loop, ops_nil, ops_cons, ops_cons_gd, stages_nil, stages_cons_n, stages_cons_h, recheck, wantsOp, AV.same, sames, evalOp_p, evalOp_r, evalOp_a, evalOp_call, evalOp_callV, evalOp_store, evalOp_append, evalOp_clear, evalOp_mapUpdate, evalOp_delete, pP_move, pP_pick, pP_build, pP_nil_ptr, pP_nil_func, pP_bin, pP_eq, pP_neg, pP_inv, pP_not, pP_convInt, pP_convStr, pP_fieldAddr, pP_field, pP_indexAddr, pP_indexStr, pP_sliceStr, pP_sliceSl, pP_lenStr, pP_lenNil, pP_lenSl, pP_min, pP_max, pP_extract, pP_mkfn, bV_add, bV_sub, bV_mul, bV_quo, bV_rem, bV_and, bV_or, bV_xor, bV_andNot, bV_eql, bV_neq, bV_lss, bV_leq, bV_gtr, bV_geq, bV_shl, bV_shr, bV_str, eV_bool, eV_nn, eV_np, eV_pn, eV_snn, eV_sns, eV_ssn, eV_mnn, eV_mnm, eV_mmn, eV_fnn, eV_fnf, eV_ffn, eV_agg, rP_load, rP_lenNil, rP_str0, rdEl_K, rdK_row, aP_alloc, aP_box, aP_buildSlice, aP_makeSlice, aP_makeMap, aP_toBytes, hP_store, storeK_some, st_K, stK_row, stE_some, cells_agg, cells_bool, scalar_bool, cells_int, scalar_int, cells_str, scalar_str, cells_nilptr, scalar_nilptr, cells_ptr, scalar_ptr, cells_nilslice, scalar_nilslice, cells_slice, scalar_slice, cells_nilmap, scalar_nilmap, cells_map, scalar_map, cells_nilfunc, scalar_nilfunc, cells_func, scalar_func, eqCells, eqLeaf, run_toL, toL_some, ev_toL, getD_toL, put_toL, keep_toL, asc, fput_same, fput_ne, fbase_nil, fbase_cons, fkeep_nil, fkeep_cons, fzero, fnone, List.map_cons, List.map_nil, ev_lit, put_none, resVals, resVal, resOf, partV, fillA, putCells, fillEls, strBin, minV, optNat, appendEls, elsOf, sliceSlV, sliceStrV, List.replicate, List.getElem?_append_left, List.getElem?_append_right, List.set_append_left, List.set_append_right, List.getElem?_set_self, List.getElem?_set_ne, hg, get_app hg, set_app hg, get_set_same hg, get_set_app hg, set_set_app hg, len_beq hg, beq_len hg, h1, h2, h3, h4, h9, h6, h8, d7, hc, hsc, Lt.avI, hQ]
      · have d7 : decide (8 ≤ s.tried) = false := dec_false h7
        have w8 := w8 (by omega)
        by_cases h8 : x.t.errno = 7
        · have b7 : (x.t.errno != 7) = false := bne_false h8
          have b8 : (x.t.errno == 7) = true := beq_true h8
          have hQ : ∀ z, GotQ k g s (.tuple [.nilslice, .bool false], k.set g (.row 20 [({ s with tried := IntKind.i64.wrap (s.tried + 1), waits := 2 } : Gs).av] true true) ++ z) :=
            fun z => ⟨((Chg.refl _ _).set (.inl (by simp))).more, .inl ⟨_, rfl, get_app (get_set_same hg), ⟨rfl, rfl, rfl, rfl, w8⟩⟩⟩
          simp only [Lt.avI, Gs.av, h1] at hQ
          generalize GotQ k g s = Q at hQ ⊢
          simp [sf13, yld_some, exec_reg, exec_dreg, exec_seq, exec_cond, exec_block, exec_scope, exec_exit, exec_ret, exec_skip, exec_loop, ops_nil, ops_cons, ops_cons_gd, stages_nil, stages_cons_n, stages_cons_h, recheck, wantsOp, AV.same, sames, evalOp_p, evalOp_r, evalOp_a, evalOp_call, evalOp_callV, evalOp_store, evalOp_append, evalOp_clear, evalOp_mapUpdate, evalOp_delete, pP_move, pP_pick, pP_build, pP_nil_ptr, pP_nil_func, pP_bin, pP_eq, pP_neg, pP_inv, pP_not, pP_convInt, pP_convStr, pP_fieldAddr, pP_field, pP_indexAddr, pP_indexStr, pP_sliceStr, pP_sliceSl, pP_lenStr, pP_lenNil, pP_lenSl, pP_min, pP_max, pP_extract, pP_mkfn, bV_add, bV_sub, bV_mul, bV_quo, bV_rem, bV_and, bV_or, bV_xor, bV_andNot, bV_eql, bV_neq, bV_lss, bV_leq, bV_gtr, bV_geq, bV_shl, bV_shr, bV_str, eV_bool, eV_nn, eV_np, eV_pn, eV_snn, eV_sns, eV_ssn, eV_mnn, eV_mnm, eV_mmn, eV_fnn, eV_fnf, eV_ffn, eV_agg, rP_load, rP_lenNil, rP_str0, rdEl_K, rdK_row, aP_alloc, aP_box, aP_buildSlice, aP_makeSlice, aP_makeMap, aP_toBytes, hP_store, storeK_some, st_K, stK_row, stE_some, cells_agg, cells_bool, scalar_bool, cells_int, scalar_int, cells_str, scalar_str, cells_nilptr, scalar_nilptr, cells_ptr, scalar_ptr, cells_nilslice, scalar_nilslice, cells_slice, scalar_slice, cells_nilmap, scalar_nilmap, cells_map, scalar_map, cells_nilfunc, scalar_nilfunc, cells_func, scalar_func, eqCells, eqLeaf, run_toL, toL_some, ev_toL, getD_toL, put_toL, keep_toL, asc, fput_same, fput_ne, fbase_nil, fbase_cons, fkeep_nil, fkeep_cons, fzero, fnone, List.map_cons, List.map_nil, ev_lit, put_none, resVals, resVal, resOf, partV, fillA, putCells, fillEls, strBin, minV, optNat, appendEls, elsOf, sliceSlV, sliceStrV, List.replicate, List.getElem?_append_left, List.getElem?_append_right, List.set_append_left, List.set_append_right, List.getElem?_set_self, List.getElem?_set_ne, hg, get_app hg, set_app hg, get_set_same hg, get_set_app hg, set_set_app hg, len_beq hg, beq_len hg, h1, h2, h3, h4, h9, b7, b8, d7, hc, hsc, Lt.avI, hQ]
        · have b7 : (x.t.errno != 7) = true := bne_true h8
          have b8 : (x.t.errno == 7) = false := beq_false h8
          have b9 : (x.t.errno != 8) = false := by rw [b7] at h5'; simpa using h5'
          have hQ : ∀ z1, GotQ k g s (.tuple [.slice (k.length + 1) 21 0 1 1 true, .bool false], k.set g (.row 20 [({ s with tried := IntKind.i64.wrap (s.tried + 1), at_ := s.next x.t.node, id := IntKind.i64.wrap (s.id + 1) } : Gs).av] true true) ++ [z1, .row 21 [({ s with tried := IntKind.i64.wrap (s.tried + 1), at_ := s.next x.t.node, id := IntKind.i64.wrap (s.id + 1) } : Gs).ltr] true true]) :=
            fun z => ⟨((Chg.refl _ _).set (.inl (by simp))).more, .inr (.inl ⟨_, _, rfl, get_app (get_set_same hg), by simp, by omega, ⟨rfl, rfl, rfl, rfl, w8⟩⟩)⟩
          simp only [Lt.avI, Gs.av, Gs.ltr, Gs.next_nx, h1] at hQ
          generalize GotQ k g s = Q at hQ ⊢
          simp [sf13, yld_some, exec_reg, exec_dreg, exec_seq, exec_cond, exec_block, exec_scope, exec_exit, exec_ret, exec_skip, exec_loop, ops_nil, ops_cons, ops_cons_gd, stages_nil, stages_cons_n, stages_cons_h, recheck, wantsOp, AV.same, sames, evalOp_p, evalOp_r, evalOp_a, evalOp_call, evalOp_callV, evalOp_store, evalOp_append, evalOp_clear, evalOp_mapUpdate, evalOp_delete, pP_move, pP_pick, pP_build, pP_nil_ptr, pP_nil_func, pP_bin, pP_eq, pP_neg, pP_inv, pP_not, pP_convInt, pP_convStr, pP_fieldAddr, pP_field, pP_indexAddr, pP_indexStr, pP_sliceStr, pP_sliceSl, pP_lenStr, pP_lenNil, pP_lenSl, pP_min, pP_max, pP_extract, pP_mkfn, bV_add, bV_sub, bV_mul, bV_quo, bV_rem, bV_and, bV_or, bV_xor, bV_andNot, bV_eql, bV_neq, bV_lss, bV_leq, bV_gtr, bV_geq, bV_shl, bV_shr, bV_str, eV_bool, eV_nn, eV_np, eV_pn, eV_snn, eV_sns, eV_ssn, eV_mnn, eV_mnm, eV_mmn, eV_fnn, eV_fnf, eV_ffn, eV_agg, rP_load, rP_lenNil, rP_str0, rdEl_K, rdK_row, aP_alloc, aP_box, aP_buildSlice, aP_makeSlice, aP_makeMap, aP_toBytes, hP_store, storeK_some, st_K, stK_row, stE_some, cells_agg, cells_bool, scalar_bool, cells_int, scalar_int, cells_str, scalar_str, cells_nilptr, scalar_nilptr, cells_ptr, scalar_ptr, cells_nilslice, scalar_nilslice, cells_slice, scalar_slice, cells_nilmap, scalar_nilmap, cells_map, scalar_map, cells_nilfunc, scalar_nilfunc, cells_func, scalar_func, eqCells, eqLeaf, run_toL, toL_some, ev_toL, getD_toL, put_toL, keep_toL, asc, fput_same, fput_ne, fbase_nil, fbase_cons, fkeep_nil, fkeep_cons, fzero, fnone, List.map_cons, List.map_nil, ev_lit, put_none, resVals, resVal, resOf, partV, fillA, putCells, fillEls, strBin, minV, optNat, appendEls, elsOf, sliceSlV, sliceStrV, List.replicate, List.getElem?_append_left, List.getElem?_append_right, List.set_append_left, List.set_append_right, List.getElem?_set_self, List.getElem?_set_ne, hg, get_app hg, set_app hg, get_set_same hg, get_set_app hg, set_set_app hg, len_beq hg, beq_len hg, eL_29, eL_27, ex1, gsOf, Gs.next_nx, Gs.av, Gs.ltr, h1, h2, h3, h4, h9, b7, b8, b9, d7, hc, hsc, hn, Lt.avI, hQ]
set_option maxHeartbeats 4000000 in
theorem resultI {k : H} {g : Nat} {s : Gs} {it : AV} (hg : k[g]? = some (.row 20 [s.avI it] true true)) (ho : s.over = true) (hk : Kept k it) :
    Yld (call fsL exL 14 [.ptr g 0 0] k) fun r => (∃ it2, r.1 = .tuple [.agg [.int .i64 s.t.errno, .str s.t.value, it2, .bool s.t.more, .str s.t.next, .int .i64 s.t.node], .bool true] ∧ it2.cells = some [it2] ∧ it2.scalar = true) ∧ r.2[g]? = some (.row 20 [s.avI it] true true) := by
  refine yld_shut fun Q hQ => ?_
  rw [call_eq fsL exL (f := 14) (sf := sf14) rfl]
  have hg0 := hg
  unfold Gs.avI at hg
  rcases hk with rfl | ⟨b, els, rfl, hb, he, hels, hlen⟩
  · simp [sf14, appendV, evalHeap, yld_some, exec_reg, exec_dreg, exec_seq, exec_cond, exec_block, exec_scope, exec_exit, exec_ret, exec_skip, exec_loop, ops_nil, ops_cons, ops_cons_gd, stages_nil, stages_cons_n, stages_cons_h, recheck, wantsOp, AV.same, sames, evalOp_p, evalOp_r, evalOp_a, evalOp_call, evalOp_callV, evalOp_store, evalOp_append, evalOp_clear, evalOp_mapUpdate, evalOp_delete, pP_move, pP_pick, pP_build, pP_nil_ptr, pP_nil_func, pP_bin, pP_eq, pP_neg, pP_inv, pP_not, pP_convInt, pP_convStr, pP_fieldAddr, pP_field, pP_indexAddr, pP_indexStr, pP_sliceStr, pP_sliceSl, pP_lenStr, pP_lenNil, pP_lenSl, pP_min, pP_max, pP_extract, pP_mkfn, bV_add, bV_sub, bV_mul, bV_quo, bV_rem, bV_and, bV_or, bV_xor, bV_andNot, bV_eql, bV_neq, bV_lss, bV_leq, bV_gtr, bV_geq, bV_shl, bV_shr, bV_str, eV_bool, eV_nn, eV_np, eV_pn, eV_snn, eV_sns, eV_ssn, eV_mnn, eV_mnm, eV_mmn, eV_fnn, eV_fnf, eV_ffn, eV_agg, rP_load, rP_lenNil, rP_str0, rdEl_K, rdK_row, aP_alloc, aP_box, aP_buildSlice, aP_makeSlice, aP_makeMap, aP_toBytes, hP_store, storeK_some, st_K, stK_row, stE_some, cells_agg, cells_bool, scalar_bool, cells_int, scalar_int, cells_str, scalar_str, cells_nilptr, scalar_nilptr, cells_ptr, scalar_ptr, cells_nilslice, scalar_nilslice, cells_slice, scalar_slice, cells_nilmap, scalar_nilmap, cells_map, scalar_map, cells_nilfunc, scalar_nilfunc, cells_func, scalar_func, eqCells, eqLeaf, run_toL, toL_some, ev_toL, getD_toL, put_toL, keep_toL, asc, fput_same, fput_ne, fbase_nil, fbase_cons, fkeep_nil, fkeep_cons, fzero, fnone, List.map_cons, List.map_nil, ev_lit, put_none, resVals, resVal, resOf, partV, fillA, putCells, fillEls, strBin, minV, optNat, appendEls, elsOf, sliceSlV, sliceStrV, List.replicate, List.getElem?_append_left, List.getElem?_append_right, List.set_append_left, List.set_append_right, List.getElem?_set_self, List.getElem?_set_ne, hg, get_app hg, set_app hg, get_set_same hg, get_set_app hg, set_set_app hg, len_beq hg, beq_len hg, ho]
    exact hQ _ ⟨⟨_, rfl, rfl, rfl⟩, get_app hg0⟩
  · have hl0 : els.length ≠ 0 := by simpa using he
    have hall : (els.all fun e => e.all AV.scalar) = true := List.all_eq_true.2 hels
    simp [sf14, appendV, evalHeap, elsOf, appendEls, yld_some, exec_reg, exec_dreg, exec_seq, exec_cond, exec_block, exec_scope, exec_exit, exec_ret, exec_skip, exec_loop, ops_nil, ops_cons, ops_cons_gd, stages_nil, stages_cons_n, stages_cons_h, recheck, wantsOp, AV.same, sames, evalOp_p, evalOp_r, evalOp_a, evalOp_call, evalOp_callV, evalOp_store, evalOp_append, evalOp_clear, evalOp_mapUpdate, evalOp_delete, pP_move, pP_pick, pP_build, pP_nil_ptr, pP_nil_func, pP_bin, pP_eq, pP_neg, pP_inv, pP_not, pP_convInt, pP_convStr, pP_fieldAddr, pP_field, pP_indexAddr, pP_indexStr, pP_sliceStr, pP_sliceSl, pP_lenStr, pP_lenNil, pP_lenSl, pP_min, pP_max, pP_extract, pP_mkfn, bV_add, bV_sub, bV_mul, bV_quo, bV_rem, bV_and, bV_or, bV_xor, bV_andNot, bV_eql, bV_neq, bV_lss, bV_leq, bV_gtr, bV_geq, bV_shl, bV_shr, bV_str, eV_bool, eV_nn, eV_np, eV_pn, eV_snn, eV_sns, eV_ssn, eV_mnn, eV_mnm, eV_mmn, eV_fnn, eV_fnf, eV_ffn, eV_agg, rP_load, rP_lenNil, rP_str0, rdEl_K, rdK_row, aP_alloc, aP_box, aP_buildSlice, aP_makeSlice, aP_makeMap, aP_toBytes, hP_store, storeK_some, st_K, stK_row, stE_some, cells_agg, cells_bool, scalar_bool, cells_int, scalar_int, cells_str, scalar_str, cells_nilptr, scalar_nilptr, cells_ptr, scalar_ptr, cells_nilslice, scalar_nilslice, cells_slice, scalar_slice, cells_nilmap, scalar_nilmap, cells_map, scalar_map, cells_nilfunc, scalar_nilfunc, cells_func, scalar_func, eqCells, eqLeaf, run_toL, toL_some, ev_toL, getD_toL, put_toL, keep_toL, asc, fput_same, fput_ne, fbase_nil, fbase_cons, fkeep_nil, fkeep_cons, fzero, fnone, List.map_cons, List.map_nil, ev_lit, put_none, resVals, resVal, resOf, partV, fillA, putCells, fillEls, strBin, minV, optNat, appendEls, elsOf, sliceSlV, sliceStrV, List.replicate, List.getElem?_append_left, List.getElem?_append_right, List.set_append_left, List.set_append_right, List.getElem?_set_self, List.getElem?_set_ne, hg, get_app hg, set_app hg, get_set_same hg, get_set_app hg, set_set_app hg, len_beq hg, beq_len hg, hb, get_app hb, set_app hb, get_set_same hb, get_set_app hb, set_set_app hb, len_beq hb, beq_len hb, ho, hl0, hlen, hall]
    exact hQ _ ⟨⟨_, rfl, rfl, rfl⟩, get_app hg0⟩
theorem triedI {k : H} {g : Nat} {s : Gs} {it : AV} (hg : k[g]? = some (.row 20 [s.avI it] true true)) : call fsL exL 16 [.ptr g 0 0] k = some (.int .i64 s.tried, k) := by
  rw [call_eq fsL exL (f := 16) (sf := sf16) rfl]
  unfold Gs.avI at hg
  simp [sf16, yld_some, exec_reg, exec_dreg, exec_seq, exec_cond, exec_block, exec_scope, exec_exit, exec_ret, exec_skip, exec_loop, ops_nil, ops_cons, ops_cons_gd, stages_nil, stages_cons_n, stages_cons_h, recheck, wantsOp, AV.same, sames, evalOp_p, evalOp_r, evalOp_a, evalOp_call, evalOp_callV, evalOp_store, evalOp_append, evalOp_clear, evalOp_mapUpdate, evalOp_delete, pP_move, pP_pick, pP_build, pP_nil_ptr, pP_nil_func, pP_bin, pP_eq, pP_neg, pP_inv, pP_not, pP_convInt, pP_convStr, pP_fieldAddr, pP_field, pP_indexAddr, pP_indexStr, pP_sliceStr, pP_sliceSl, pP_lenStr, pP_lenNil, pP_lenSl, pP_min, pP_max, pP_extract, pP_mkfn, bV_add, bV_sub, bV_mul, bV_quo, bV_rem, bV_and, bV_or, bV_xor, bV_andNot, bV_eql, bV_neq, bV_lss, bV_leq, bV_gtr, bV_geq, bV_shl, bV_shr, bV_str, eV_bool, eV_nn, eV_np, eV_pn, eV_snn, eV_sns, eV_ssn, eV_mnn, eV_mnm, eV_mmn, eV_fnn, eV_fnf, eV_ffn, eV_agg, rP_load, rP_lenNil, rP_str0, rdEl_K, rdK_row, aP_alloc, aP_box, aP_buildSlice, aP_makeSlice, aP_makeMap, aP_toBytes, hP_store, storeK_some, st_K, stK_row, stE_some, cells_agg, cells_bool, scalar_bool, cells_int, scalar_int, cells_str, scalar_str, cells_nilptr, scalar_nilptr, cells_ptr, scalar_ptr, cells_nilslice, scalar_nilslice, cells_slice, scalar_slice, cells_nilmap, scalar_nilmap, cells_map, scalar_map, cells_nilfunc, scalar_nilfunc, cells_func, scalar_func, eqCells, eqLeaf, run_toL, toL_some, ev_toL, getD_toL, put_toL, keep_toL, asc, fput_same, fput_ne, fbase_nil, fbase_cons, fkeep_nil, fkeep_cons, fzero, fnone, List.map_cons, List.map_nil, ev_lit, put_none, resVals, resVal, resOf, partV, fillA, putCells, fillEls, strBin, minV, optNat, appendEls, elsOf, sliceSlV, sliceStrV, List.replicate, List.getElem?_append_left, List.getElem?_append_right, List.set_append_left, List.set_append_right, List.getElem?_set_self, List.getElem?_set_ne, hg, get_app hg, set_app hg, get_set_same hg, get_set_app hg, set_set_app hg, len_beq hg, beq_len hg]
structure NextT (s s' : Gs) : Prop where
  on : s'.on = s.on
  over : s'.over = s.over
  old : s'.old = s.old + 1
  nodes : s'.nodes = s.nodes
  tried : s'.tried = s.tried
def TickQ (k : H) (g : Nat) (s : Gs) (r : AV × H) : Prop := Chg k r.2 [g] ∧
  ((∃ s', r.1 = .tuple [.nilslice, .bool false] ∧ r.2[g]? = some (.row 20 [Gs.av s'] true true) ∧ NextT s s' ∧ s.old + 1 < 30) ∨
   (∃ s' b, r.1 = .tuple [.slice b 21 0 1 1 true, .bool false] ∧ r.2[g]? = some (.row 20 [Gs.av s'] true true) ∧ r.2[b]? = some (.row 21 [Gs.ltr s'] true true) ∧ k.length ≤ b ∧ NextT s s' ∧ s.old + 1 < 30) ∨
   (∃ s', r.1 = .tuple [.nilslice, .bool true] ∧ r.2[g]? = some (.row 20 [Gs.avI s' .nilslice] true true) ∧ s'.over = true ∧ s'.tried = s.tried))
theorem tickQ {k : H} {g : Nat} {s : Gs} (hg : k[g]? = some (.row 20 [s.av] true true)) (hon : s.on = true) (ho : 0 ≤ s.old ∧ s.old < 30) : Yld (call fsL exL 15 [.ptr g 0 0] k) (TickQ k g s) := by
  have w : IntKind.i64.wrap (s.old + 1) = s.old + 1 := wrap_i64 (by omega) (by omega)
  rw [eL_15]
  simp only [ex2, gsOf_eq hg, tickR, hon, w]
  rw [if_neg (by simp)]
  by_cases h1 : 30 ≤ s.old + 1
  · rw [if_pos (by simpa using h1)]
    exact yld_some.2 ⟨((Chg.refl _ _).set (.inl (by simp))).more, .inr (.inr ⟨_, rfl, get_app (get_set_same hg), rfl, rfl⟩)⟩
  · rw [if_neg (by simpa using h1)]
    split
    · exact yld_some.2 ⟨((Chg.refl _ _).set (.inl (by simp))), .inl ⟨_, rfl, get_set_same hg, ⟨hon.symm, rfl, rfl, rfl, rfl⟩, by omega⟩⟩
    · split
      · exact yld_some.2 ⟨((Chg.refl _ _).set (.inl (by simp))), .inl ⟨_, rfl, get_set_same hg, ⟨hon.symm, rfl, rfl, rfl, rfl⟩, by omega⟩⟩
      · exact yld_some.2 ⟨((Chg.refl _ _).set (.inl (by simp))).more, .inr (.inl ⟨_, _, rfl, get_app (get_set_same hg), by simp; rfl, Nat.le_refl _, ⟨hon.symm, rfl, rfl, rfl, rfl⟩, by omega⟩)⟩
end Go.Proofs.Ytolnmgekneoaaaa.Gu
